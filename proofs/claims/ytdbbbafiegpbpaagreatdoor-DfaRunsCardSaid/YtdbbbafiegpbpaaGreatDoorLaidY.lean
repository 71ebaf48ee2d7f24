/-
  What a tree lays reads what the tree says. Plain lemmas, no program in sight.
-/
import Derived.Test.YtdbbbafiegpbpaaGreatDoorNfaH
import Derived.Test.YtdbbbafiegpbpaaGreatDoorNfaD
import Derived.Test.YtdbbbafiegpbpaaGreatDoorHc
import Derived.Test.YtdbbbafiegpbpaaGreatDoorChecked
import Derived.ProofKit
import Derived.OpenShut
import Derived.ChangeOld
import Derived.Deep.Slices
import Derived.Test.YtdbbbafiegpbpaaGreatDoorRows
import Derived.LaidLaws
import Derived.LaidMore
import Derived.LaidSub
import Derived.HandedShaped
import Derived.Shelf.Vars
import Derived.Stop.Joined
namespace Go.Proofs.YtdbbbafiegpbpaaGreatDoor
set_option linter.unusedSimpArgs false
set_option linter.unusedVariables false
set_option linter.unusedSectionVars false
set_option maxRecDepth 10000
theorem b6N {L K J:List Int→Prop} {w:List Int}:b4T (b4T L K) J w↔b4T L (b4T K J) w:=by
 constructor
 ·rintro ⟨_,v,rfl,⟨a,b,rfl,h1,h2⟩,h3⟩
  exact ⟨a,b++v,List.append_assoc ..,h1,b,v,rfl,h2,h3⟩
 ·rintro ⟨a,_,rfl,h1,b,v,rfl,h2,h3⟩
  exact ⟨a++b,v,(List.append_assoc ..).symm,⟨a,b,rfl,h1,h2⟩,h3⟩
def a5r (σ:Nat→Int→Prop) (N:Nat) (on:List Bag):Prop:=∀ i,i < on.length→∀ a,σ (N+i) a↔a∈(on.getD i Bag.zero).list
section
variable {σ:Nat→Int→Prop} {N:Nat}
theorem a5r.left {a b:List Bag} (h:a5r σ N (a++b)):a5r σ N a:=fun i hi x=>by
 have:=h i (by rw [List.length_append];omega) x
 rwa [List.getD_eq_getElem?_getD,List.getElem?_append_left hi,←List.getD_eq_getElem?_getD] at this
theorem a5r.right {a b:List Bag} (h:a5r σ N (a++b)):a5r σ (N+a.length) b:=fun i hi x=>by
 have:=h (a.length+i) (by rw [List.length_append];omega) x
 rwa [List.getD_eq_getElem?_getD,List.getElem?_append_right (by omega),←List.getD_eq_getElem?_getD,Nat.add_sub_cancel_left,←Nat.add_assoc] at this
theorem a5r.pre {a l:List Bag} (h:a5r σ N l) (hp:a <+: l):a5r σ N a:=by
 obtain ⟨b,rfl⟩:=hp
 exact h.left
end
theorem c0N (g:Nat→Ly) (k:Nat):∀ d,onP g k <+: onP g (k+d)
 | 0=>List.prefix_refl _
 | d+1=>(c0N g k d).trans (List.prefix_append _ _)
theorem b9n (m:List UInt8→Bag):∀ (ts:List T) (N:Nat) (a:Ly),a.on <+: (a5I m ts N a).on
 | [],N,a=>by simp only [a5I];exact List.prefix_refl _
 | t::ts,N,a=>by simp only [a5I];exact (List.prefix_append _ _).trans (b9n m ts (N+t.w) ⟨a.on++(lay m t N).on,a.lk++(lay m t N).lk++[(a.pc.ends,(lay m t N).pc.first)],a.pc.join (lay m t N).pc⟩)
theorem c0Z (m:List UInt8→Bag):∀ (ts:List T) (N:Nat) (a:Ly),a.on <+: (a5K m ts N a).on
 | [],N,a=>by simp only [a5K];exact List.prefix_refl _
 | t::ts,N,a=>by simp only [a5K];exact (List.prefix_append _ _).trans (c0Z m ts (N+t.w) ⟨a.on++(lay m t N).on,a.lk++(lay m t N).lk,⟨bun a.pc.first (lay m t N).pc.first,bun a.pc.ends (lay m t N).pc.ends,a.pc.empty||(lay m t N).pc.empty⟩⟩)
mutual
theorem c2X {m:List UInt8→Bag} (hm:∀ s,(m s).ok) (σ:Nat→Int→Prop):∀ (t:T) (N:Nat),t.ok=true→N+t.w≤256→a5r σ N (lay m t N).on →
    (mcO (lay m t N).lk (lay m t N).pc).In N (N+t.w)∧∀ u,(mcO (lay m t N).lk (lay m t N).pc).L σ u↔c1n m t u
  | .name s, N, _, hN, hs => by
    simp only [T.w] at hN ⊢
    simp only [lay] at hs ⊢
    have hs0:∀ a,σ N a↔a∈(m s).list:=fun a=>hs 0 (by simp) a
    have h1:∀ p,a5C (a3h N) p↔p=N:=fun p=>b3Z (by omega)
    refine ⟨⟨fun h=>(a6k.1 h).elim,fun h=>by have:=(h1 _).1 h;omega,fun h=>by have:=(h1 _).1 h;omega⟩,fun u=>?_⟩
    simp only [c1n]
    constructor
    · rintro (⟨_,h⟩ | ⟨p,h,h2⟩)
      · cases h
      · obtain rfl:=(h1 _).1 h
        cases u with
        | nil=>exact h2.elim
        | cons a u =>
          obtain ⟨h3,⟨rfl,_⟩ | ⟨q,h4,_⟩⟩:=h2
          · exact ⟨a,rfl,(hs0 a).1 h3⟩
          · exact (a6k.1 h4).elim
    · rintro ⟨a,rfl,h⟩
      exact .inr ⟨N,(h1 N).2 rfl,(hs0 a).2 h,.inl ⟨rfl,(h1 N).2 rfl⟩⟩
  | .times lo hi t, N, hok, hN, hs => by
    simp only [T.w] at hN ⊢
    simp only [T.ok,Bool.and_eq_true,Bool.or_eq_true,decide_eq_true_eq] at hok
    simp only [lay] at hs ⊢
    simp only [c1n]
    obtain ⟨⟨⟨hlo,hlo2⟩,hh⟩,hokt⟩:=hok
    have hkw:∀ k,k < a0j lo hi→N+k * t.w+t.w≤256:=fun k hk=>by
      have:(k+1) * t.w≤a0j lo hi * t.w:=Nat.mul_le_mul_right _ hk
      rw [Nat.succ_mul] at this
      rw [Nat.mul_comm] at hN
      omega
    rw [(b6x hlo (fun k=>lay m t (N+k * t.w)) (fun _=>Bag.zero)).1] at hs
    have hg:∀ k,k < a0j lo hi→((fun k=>lay m t (N+k * t.w)) k).Ok (N+k * t.w) t.w:=fun k hk=>a3N hm t _ (hkw k hk)
    rw [Nat.mul_comm t.w]
    refine c7E σ hlo ?_ (fun i hil=>c2X hm σ t (N+i * t.w) hokt (hkw i hil) ?_)
    · rcases hh with hh | ⟨h1,h2⟩
      · exact .inl hh
      · split at h1
        · exact .inr ⟨by omega,by omega⟩
        · exact .inr ⟨by omega,by omega⟩
    · have h1:=hs.pre (a:=onP (fun k=>lay m t (N+k * t.w)) (i+1)) (by
        have:=c0N (fun k=>lay m t (N+k * t.w)) (i+1) (a0j lo hi - (i+1))
        rwa [show i+1+(a0j lo hi - (i+1))=a0j lo hi by omega] at this)
      have h2:=a5r.right (a:=onP (fun k=>lay m t (N+k * t.w)) i) (b:=lay m t (N+i * t.w) |>.on) h1
      rwa [b5e hg i (by omega)] at h2
  | .many k ts, N, hok, hN, hs => by
    simp only [T.w] at hN ⊢
    simp only [T.ok,Bool.and_eq_true] at hok
    simp only [lay] at hs ⊢
    simp only [c1n]
    by_cases h3:k=3
    · simp only [if_pos h3] at hs ⊢
      obtain ⟨h1,h2⟩:=c3O hm σ ts N N ⟨[],[],default⟩ hok.2 hN (by simp) (by rw [b8T];exact c6m) hs
      refine ⟨h1,fun u=>?_⟩
      rw [h2,b8T,c8g];simp
    · simp only [if_neg h3] at hs ⊢
      obtain ⟨h1,h2⟩:=c3T hm σ ts N N ⟨[],[],Pc.nil⟩ hok.2 hN (by simp) (by rw [b3K];exact a9h) hs
      refine ⟨h1,fun u=>?_⟩
      rw [h2]
      constructor
      · rintro ⟨a,b,rfl,h4,h5⟩
        rw [b3K,a5S] at h4
        subst h4
        exact h5
      · exact fun h=>⟨[],u,rfl,by rw [b3K,a5S],h⟩
theorem c3O {m:List UInt8→Bag} (hm:∀ s,(m s).ok) (σ:Nat→Int→Prop):∀ (ts:List T) (N N0:Nat) (a:Ly),T.okL ts=true→N+T.wL ts≤256→N0+a.on.length=N→(mcO a.lk a.pc).In N0 N→a5r σ N0 (a5K m ts N a).on →
    (mcO (a5K m ts N a).lk (a5K m ts N a).pc).In N0 (N+T.wL ts)∧∀ u,(mcO (a5K m ts N a).lk (a5K m ts N a).pc).L σ u↔(mcO a.lk a.pc).L σ u∨c7J m ts u
  | [], N, N0, a, _, hN, hl, ha, hs => by
    simp only [a5K,T.wL,Nat.add_zero,c7J,or_false]
    exact ⟨ha,fun u=>trivial⟩
  | t :: ts, N, N0, a, hok, hN, hl, ha, hs => by
    simp only [T.wL] at hN ⊢
    simp only [T.okL,Bool.and_eq_true] at hok
    simp only [a5K] at hs ⊢
    have hlen:=(a3N hm t N (by omega)).len
    have hst:a5r σ N0 (a.on++(lay m t N).on):=hs.pre (c0Z m ts (N+t.w) ⟨a.on++(lay m t N).on,a.lk++(lay m t N).lk,⟨bun a.pc.first (lay m t N).pc.first,bun a.pc.ends (lay m t N).pc.ends,a.pc.empty||(lay m t N).pc.empty⟩⟩)
    have hst2:a5r σ N (lay m t N).on:=by have:=hst.right;rwa [hl] at this
    obtain ⟨h1,h2⟩:=c2X hm σ t N hok.1 (by omega) hst2
    obtain ⟨h3,h4⟩:=c3O hm σ ts (N+t.w) N0 ⟨a.on++(lay m t N).on,a.lk++(lay m t N).lk,⟨bun a.pc.first (lay m t N).pc.first,bun a.pc.ends (lay m t N).pc.ends,a.pc.empty||(lay m t N).pc.empty⟩⟩ hok.2 (by omega)
      (by show N0+(a.on++(lay m t N).on).length=_;rw [List.length_append,hlen];omega) (by rw [c1g];exact c8n (ha.mono (Nat.le_refl _) (by omega)) (h1.mono (by omega) (Nat.le_refl _))) hs
    refine ⟨by rw [←Nat.add_assoc];exact h3,fun u=>?_⟩
    rw [h4];dsimp only;rw [c1g,c9k σ ha h1,h2,or_assoc]
    simp only [c7J]
theorem c3T {m:List UInt8→Bag} (hm:∀ s,(m s).ok) (σ:Nat→Int→Prop):∀ (ts:List T) (N N0:Nat) (a:Ly),T.okL ts=true→N+T.wL ts≤256→N0+a.on.length=N→(mcO a.lk a.pc).In N0 N→a5r σ N0 (a5I m ts N a).on →
    (mcO (a5I m ts N a).lk (a5I m ts N a).pc).In N0 (N+T.wL ts)∧∀ u,(mcO (a5I m ts N a).lk (a5I m ts N a).pc).L σ u↔b4T ((mcO a.lk a.pc).L σ) (c6R m ts) u
  | [], N, N0, a, _, hN, hl, ha, hs => by
    simp only [a5I,T.wL,Nat.add_zero]
    exact ⟨ha,fun u=>⟨fun h=>⟨u,[],by simp,h,by simp only [c6R]⟩,by
      rintro ⟨x,y,rfl,h1,h2⟩
      simp only [c6R] at h2
      subst h2;rw [List.append_nil];exact h1⟩⟩
  | t :: ts, N, N0, a, hok, hN, hl, ha, hs => by
    simp only [T.wL] at hN ⊢
    simp only [T.okL,Bool.and_eq_true] at hok
    simp only [a5I] at hs ⊢
    have hlen:=(a3N hm t N (by omega)).len
    have hst:a5r σ N0 (a.on++(lay m t N).on):=hs.pre (b9n m ts (N+t.w) ⟨a.on++(lay m t N).on,a.lk++(lay m t N).lk++[(a.pc.ends,(lay m t N).pc.first)],a.pc.join (lay m t N).pc⟩)
    have hst2:a5r σ N (lay m t N).on:=by have:=hst.right;rwa [hl] at this
    obtain ⟨h1,h2⟩:=c2X hm σ t N hok.1 (by omega) hst2
    obtain ⟨h3,h4⟩:=c3T hm σ ts (N+t.w) N0 ⟨a.on++(lay m t N).on,a.lk++(lay m t N).lk++[(a.pc.ends,(lay m t N).pc.first)],a.pc.join (lay m t N).pc⟩ hok.2 (by omega)
      (by show N0+(a.on++(lay m t N).on).length=_;rw [List.length_append,hlen];omega) (by rw [b8U];exact b5u (ha.mono (Nat.le_refl _) (by omega)) (h1.mono (by omega) (Nat.le_refl _))) hs
    refine ⟨by rw [←Nat.add_assoc];exact h3,fun u=>?_⟩
    rw [h4];dsimp only
    rw [b8U,a3o (fun u=>(b2w σ ha h1 u).trans (a3o (fun _=>Iff.rfl) h2 u)) (fun _=>Iff.rfl),b6N]
    exact a3o (fun _=>Iff.rfl) (fun u=>by simp only [c6R];exact Iff.rfl) u
end
theorem c3f {x:Bag} {p:Nat} (h:x.has p=true):∃ p',a5C x p':=by
 by_cases hp:p < 256
 ·exact ⟨p,hp,h⟩
 ·obtain ⟨q,hq⟩:∃ q,p=64 * (q+3)+p % 64:=⟨p / 64 - 3,by omega⟩
  rw [hq,x.has_at _ _ (by omega)] at h
  refine ⟨64 * 3+p % 64,by omega,?_⟩
  rw [x.has_at _ _ (by omega),←h]
  cases q <;> rfl
theorem c2f {M:Nat} {x:Pc} {lk:List Lk} (h:(mcO lk x).In 0 M) (p:Nat):InB 0 M (links (fun _=>Bag.zero) lk p):=by
  have key:∀ (l:List Lk) (β:Nat→Bag),(∀ y∈l,y∈lk)→InB 0 M (β p)→InB 0 M (links β l p):=by
    intro l
    induction l with
    | nil=>exact fun β _ h=>h
    | cons y l ih =>
      intro β hy hb
      refine ih (a1W β y) (fun z hz=>hy z (List.mem_cons_of_mem _ hz)) ?_
      unfold a1W
      split
      · rename_i hh
        obtain ⟨p',hp'⟩:=c3f hh
        exact b0l hb (fun q hq h3=>(h.F (p:=p') (q:=q) ⟨y,hy y (List.mem_cons_self ..),hp',hq,h3⟩).2)
      · exact hb
  exact key lk _ (fun _ h=>h) (a2J _ _)
end Go.Proofs.YtdbbbafiegpbpaaGreatDoor
namespace Go.Proofs.YtdbbbafiegpbpaaGreatDoor
set_option linter.unusedSimpArgs false
set_option linter.unusedVariables false
set_option linter.unusedSectionVars false
set_option maxRecDepth 100000
set_option maxHeartbeats 1000000
open Go.RowKit
section
variable {on:List Bag} {β:Nat→Bag} {ends:Bag} {a:Int}
theorem b1L (x:Bag) {p:Int}:p∈x.list↔∃ q:Nat,p=(q:Int)∧a5C x q:=by
 rw [x.list_eq,List.mem_map]
 constructor
 ·rintro ⟨q,hq,rfl⟩
  have:=List.mem_filter.1 hq
  exact ⟨q,rfl,List.mem_range.1 this.1,this.2⟩
 ·rintro ⟨q,rfl,h1,h2⟩
  exact ⟨q,List.mem_filter.2 ⟨List.mem_range.2 h1,h2⟩,rfl⟩
theorem b3v {q:Nat}:∀ (ps:List Int) (x:Bag),a5C (ps.foldl (fun nx p=>if a∈(onF on p.toNat).list then bun nx (β p.toNat) else nx) x) q↔a5C x q∨∃ p∈ps,a∈(onF on p.toNat).list∧a5C (β p.toNat) q
  | [],x=>by simp
  | p :: ps, x => by
    rw [List.foldl_cons,b3v ps]
    simp only [List.mem_cons,or_and_right,exists_or,exists_eq_left]
    rw [←or_assoc]
    refine or_congr ?_ Iff.rfl
    split
    · rename_i h
      rw [a6p]
      exact or_congr Iff.rfl ⟨fun h2=>⟨h,h2⟩,fun h2=>h2.2⟩
    · rename_i h
      exact ⟨.inl,fun h2=>h2.elim id fun h3=>absurd h3.1 h⟩
end
theorem c7S {m:List UInt8→Bag} (hm:∀ s,(m s).ok) {t:T} (hok:t.ok=true) (hw:t.w≤256) :
  (mcO (lay m t 0).lk (lay m t 0).pc).In 0 (0+t.w)∧∀ u,(mcO (lay m t 0).lk (lay m t 0).pc).L (fun p a=>a∈(onF (lay m t 0).on p).list) u↔c1n m t u :=
 c2X hm _ t 0 hok (by omega) (fun i hi a=>by show a∈(onF (lay m t 0).on (0+i)).list↔_;rw [Nat.zero_add])
section
variable {s:List UInt8} {l:List Mn} {wd:Nat} {on:List Bag} {β:Nat→Bag} {p:Pc} {e:List Pt}
theorem NetOk.inF (V:NetOk s l wd on β p e):InB 0 wd p.first:=by
 rcases V.is with ⟨_,_,_,_,h⟩ | ⟨t,hok,_,hw,_,_,h⟩
 ·rw [h];exact a2J _ _
 ·rw [h,hw];exact (a3N (a3R l) t 0 (by have:=V.w60;omega)).inB.1
theorem NetOk.inβ (V:NetOk s l wd on β p e) (q:Nat):InB 0 wd (β q):=by
 rcases V.is with ⟨_,_,_,h,_⟩ | ⟨t,hok,_,hw,_,h,_⟩
 ·rw [h];exact a2J _ _
 ·rw [h,hw];exact c2f (c7S (a3R l) hok (by have:=V.w60;omega)).1 q
end
section
variable {on:List Bag} {β:Nat→Bag} {x:Bag} {a:Int} {k:Nat}
end
def b1J (l m:List Int):Nat→List Int
 | 0=>[]
 | k+1=>if (k:Int)∈l∧(k:Int)∈m then b1J l m k++[(k:Int)] else b1J l m k
theorem b5p (l m:List Int):∀ k,(b1J l m k).length≤k
 | 0=>Nat.le_refl _
 | k+1=>by have:=b5p l m k;unfold b1J;split <;> simp <;> omega
theorem b5R {l m:List Int}:∀ {k:Nat},b1J l m k=[]↔∀ j,j < k→¬ ((j:Int)∈l∧(j:Int)∈m)
  | 0=>⟨fun _ j hj=>by omega,fun _=>rfl⟩
  | k + 1 => by
    unfold b1J
    split
    · rename_i h;exact ⟨fun e=>by simp at e,fun e=>absurd h (e k (Nat.lt_succ_self _))⟩
    · rename_i h
      rw [b5R]
      exact ⟨fun e j hj=>by rcases Nat.lt_succ_iff_lt_or_eq.1 hj with h1 | rfl;exact e j h1;exact h,fun e j hj=>e j (by omega)⟩
theorem c7n (l m:List Int) (hl:l.length≤1000000) (hm:m.length≤1000000):HPure Tryz.prog 47 [a0k l,a0k m,intV 1] (a0k (b1J l m 256)):=by
 refine a0l Tryz.func47 rfl kr _ _ _ rfl 55 rfl rfl (fun w F=>?_)
 refine ru 17 ?_
 refine a4R 7 9301 1 3 ((a5g [])) rfl (by decide) rfl (c':=1) rfl ?_
 refine a0m (α:=Nat×Nat) (fun x c=>⟨55,[(0,.v (a0k l)),(1,.v (a0k m)),(2,.v (intV 1)),(7,.v (.os 9301 x.2 0 (b1J l m x.1).length)),(8,.v (intV x.1))],[(9301,⟨x.2,(b1J l m x.1).length,1,3,0,a5g (b1J l m x.1)⟩)],c⟩) (fun x=>x.1≤256) (fun x=>256 - x.1) ((0,0)) om (a0c rfl (Nat.le_refl _) tsa hsa) (fun x c hx NhL1 hL1=>?_)
 revert hx hL1;obtain ⟨k,g⟩:=x;intro hx hL1;dsimp only at hx hL1 ⊢
 have hlen:=b5p l m k
 refine ru 7 ?_
 refine wdc (fun hr0 hc0=>?_) (fun hr0 hc0=>?_)
 ·refine ru 8 ?_
  refine cll (c0V l hl k) ?_
  refine ru 7 ?_
  refine cll (c0V m hm k) ?_
  refine ru 36 ?_
  refine wdc (fun hr1 hc1=>?_) (fun hr1 hc1=>?_)
  ·skip
   have hab:(k:Int)∈l∧(k:Int)∈m:=(by simpa using hr1);have hA:b1J l m (k+1)=b1J l m k++[(k:Int)]:=if_pos hab
   refine ru 3 ?_
   refine a0u 52 (a0b (id:=52) (hs:=[_]) ei_49.h omx rfl omx ⟨rfl,rfl,rfl,rfl,trivial⟩) rfl rfl a0h rfl rfl (c':=c+1) rfl ?_
   first
   | refine a0u 53 (a0a ei_49.h (by first | exact Nat.le_of_ble_eq_true rfl | omega | (dsimp only;omega) | (simp <;> omega)) rfl (by first | exact Nat.le_of_ble_eq_true rfl | omega | (dsimp only;omega) | (simp <;> omega)) (by first | exact Nat.le_of_ble_eq_true rfl | omega | (dsimp only;omega) | (simp <;> omega)) (a0y rfl (by first | exact Nat.le_of_ble_eq_true rfl | omega | (dsimp only;omega) | (simp <;> omega))) (by first | exact Nat.le_of_ble_eq_true rfl | omega | (dsimp only;omega) | (simp <;> omega)) rfl) rfl rfl (a0i rfl (a0T rfl)) rfl rfl (c':=c+2) rfl ?_
   | refine a0u 53 (a0a ei_49.h (by first | exact Nat.le_of_ble_eq_true rfl | omega | (dsimp only;omega) | (simp <;> omega)) rfl (by first | exact Nat.le_of_ble_eq_true rfl | omega | (dsimp only;omega) | (simp <;> omega)) (by first | exact Nat.le_of_ble_eq_true rfl | omega | (dsimp only;omega) | (simp <;> omega)) (a0R rfl (by first | exact Nat.le_of_ble_eq_true rfl | omega | (dsimp only;omega) | (simp <;> omega))) (by first | exact Nat.le_of_ble_eq_true rfl | omega | (dsimp only;omega) | (simp <;> omega)) rfl) rfl rfl (a0i rfl (a0T rfl)) rfl rfl (c':=c+2) rfl ?_
   | refine a0u 53 (a0a ei_49.h (by first | exact Nat.le_of_ble_eq_true rfl | omega | (dsimp only;omega) | (simp <;> omega)) rfl (by first | exact Nat.le_of_ble_eq_true rfl | omega | (dsimp only;omega) | (simp <;> omega)) (by first | exact Nat.le_of_ble_eq_true rfl | omega | (dsimp only;omega) | (simp <;> omega)) (a0P rfl) (by first | exact Nat.le_of_ble_eq_true rfl | omega | (dsimp only;omega) | (simp <;> omega)) rfl) rfl rfl (a0i rfl a0h) rfl rfl (c':=c+2) rfl ?_
   | refine a0u 53 (a0a ei_49.h (by first | exact Nat.le_of_ble_eq_true rfl | omega | (dsimp only;omega) | (simp <;> omega)) rfl (by first | exact Nat.le_of_ble_eq_true rfl | omega | (dsimp only;omega) | (simp <;> omega)) (by first | exact Nat.le_of_ble_eq_true rfl | omega | (dsimp only;omega) | (simp <;> omega)) (a0A 1 (fun _ _=>default) rfl) (by first | exact Nat.le_of_ble_eq_true rfl | omega | (dsimp only;omega) | (simp <;> omega)) rfl) rfl rfl (a0i rfl a0h) rfl rfl (c':=c+2) rfl ?_
   refine ru 9 ?_
   exact hL1 ((k+1,c+1)) _ _ (by (try dsimp only);omega) (by (try dsimp only);omega) (a0c rfl (Nat.le_refl _) (tsr rfl (tsr rfl (tsr rfl (a0t.cons rfl (by dsimp only;rw [hA];exact a3u (by simp)) (a0t.cons rfl (a0G om) a0t.nil))))) (a0e.cons rfl (by dsimp only;rw [hA];exact a0H (enc:=fun x _=>intV x) (d:=0) rfl (fun i j hi hj=>.refl _) (fun j hj=>.refl _)) a0e.nil))
  have hA:b1J l m (k+1)=b1J l m k:=if_neg (by simpa using hr1)
  refine ru 8 ?_
  exact hL1 ((k+1,g)) _ _ (by (try dsimp only);omega) (by (try dsimp only);omega) (a0c rfl (Nat.le_refl _) (tsr rfl (tsr rfl (tsr rfl (a0t.cons rfl (by dsimp only;rw [hA];exact .refl _) (a0t.cons rfl (a0G om) a0t.nil))))) (a0e.cons rfl (by dsimp only;rw [hA];exact .refl _) a0e.nil))
 obtain rfl:k=256:=om
 refine ru 2 ?_
 refine a0d ?_
 refine ru 9 ?_
 refine a5h rfl (a0g rfl) [(9301,_)] rfl (a0i rfl a0h) ?_
 exact a2w (l:=b1J l m 256) (enc:=fun x _=>intV x) (d:=0) (List.mem_cons_self ..) rfl rfl (Nat.le_refl _) (fun i j hi hj=>.imm _)
theorem c7z (s E:Bag) (hs:s.ok) (hE:E.ok):decide (((b1J s.list E.list 256).length:Int) > 0)=decide (s.mix a4X E 4≠Bag.zero):=by
 have key:b1J s.list E.list 256=[]↔s.mix a4X E 4=Bag.zero:=by
  rw [b5R]
  constructor
  ·intro h
   refine Bag.ext_has _ _ (b1A s E hs hE) Bag.zero_ok (fun k hk=>?_)
   rw [a6f,Bag.zero_has]
   have:=h k hk
   rw [s.mem_list k hk,E.mem_list k hk] at this
   cases h1:s.has k <;> cases h2:E.has k <;> simp_all
  ·intro h j hj
   rw [s.mem_list j hj,E.mem_list j hj]
   rintro ⟨h1,h2⟩
   have:=a6f s E j
   rw [h,Bag.zero_has,h1,h2] at this;cases this
 by_cases h:b1J s.list E.list 256=[]
 ·rw [decide_eq_false (by rw [h];simp)];exact (decide_eq_false (show ¬ s.mix a4X E 4≠Bag.zero from fun e=>e (key.1 h))).symm
 ·rw [decide_eq_true (by have:=List.length_pos_iff.2 h;omega)];exact (decide_eq_true (show s.mix a4X E 4≠Bag.zero from fun e=>h (key.2 e))).symm
theorem b3k {b:Bag}:∀ {S:List Bag} {i k:Nat},(∀ j,j < k→S.getD j Bag.zero≠b)→k < S.length→S.getD k Bag.zero=b→ixA b S i=some (i+k)
  | [],i,k,_,h,_=>by simp at h
  | x :: r, i, 0, _, _, h2 => by
    show (if x=b then some i else _)=_
    rw [if_pos (show x=b from h2)];rfl
  | x :: r, i, k + 1, h, h1, h2 => by
    show (if x=b then some i else ixA b r (i+1))=_
    rw [if_neg (show ¬ x=b from h 0 (by omega)),b3k (fun j hj=>h (j+1) (by omega)) (by simpa using h1) h2]
    congr 1;omega
def rfV (S:List Bag) (s:Bag):Int:=match idA S s with | some n=>(n:Int) | none=>-1
theorem c7r {S:List Bag} {s:Bag} {i:Nat} (h1:1≤i) (hi:i < S.length) (hno:∀ j,1≤j→j < i→S.getD j Bag.zero≠s) (h:S.getD i Bag.zero=s):rfV S s=(i:Int):=by
 have e:∀ j,(S.drop 1).getD j Bag.zero=S.getD (1+j) Bag.zero:=fun j=>by rw [List.getD_eq_getElem?_getD,List.getD_eq_getElem?_getD,List.getElem?_drop]
 have:=b3k (b:=s) (S:=S.drop 1) (i:=1) (k:=i - 1) (fun j hj=>by rw [e];exact hno _ (by omega) (by omega)) (by rw [List.length_drop];omega) (by rw [e,show 1+(i - 1)=i by omega];exact h)
 unfold rfV idA;rw [this];show ((1+(i - 1):Nat):Int)=_;congr 1;omega
theorem c7a {S:List Bag} {s:Bag} (hno:∀ j,1≤j→j < S.length→S.getD j Bag.zero≠s):rfV S s=-1:=by
 have:idA S s=none:=by
  unfold idA
  rw [b5l]
  intro hm
  obtain ⟨j,hj,he⟩:=List.getElem_of_mem hm
  rw [List.length_drop] at hj
  refine hno (1+j) (by omega) (by omega) ?_
  rw [List.getD_eq_getElem?_getD,List.getElem?_eq_getElem (by omega)]
  rw [List.getElem_drop] at he
  exact he
 unfold rfV;rw [this]
@[reducible] def dtF (g2 g3 g4 n m:Nat):Nat→HV:=fun j=>match j with
 | 0=>.os 9102 g2 0 n
 | 1=>.os 9103 g3 0 m
 | _=>.os 9104 g4 0 n
@[reducible] def dtO (g g2 g3 g4 n m:Nat):HObj:=⟨g,1,3,28,0,fun _=>dtF g2 g3 g4 n m⟩
@[reducible] def sdF (S:List Bag):Nat→Nat→HV:=fun i _=>a0k (S.getD i Bag.zero).list
@[reducible] def sdO (g:Nat) (S:List Bag):HObj:=⟨g,S.length,1,49,0,sdF S⟩
@[reducible] def nxO (g:Nat) (R:List (List Int)):HObj:=⟨g,R.length,32,50,0,c1b R⟩
@[reducible] def acO (g:Nat) (A:List Bool):HObj:=⟨g,A.length,1,4,0,fun i _=>boolV (A.getD i false)⟩
@[reducible] def dtL (g g2 g3 g4:Nat) (S:List Bag) (R:List (List Int)) (A:List Bool):List (Nat×HObj):=[(9101,dtO g g2 g3 g4 S.length R.length),(9102,sdO g2 S),(9103,nxO g3 R),(9104,acO g4 A)]
theorem b9w {kp sh:List (Nat×HObj)} {g g2 g3 g4 n m:Nat} {o2 o3 o4:HObj} (k2:hget kp 9102=some o2) (e2:o2.g=g2) (k3:hget kp 9103=some o3) (e3:o3.g=g3) (k4:hget kp 9104=some o4) (e4:o4.g=g4):OKz kp sh (dtO g g2 g3 g4 n m) (dtO g g2 g3 g4 n m):=d0A (.os _ _ _ _ _ k2 e2) (.os _ _ _ _ _ k3 e3) (.os _ _ _ _ _ k4 e4)
theorem c0t {kp sh:List (Nat×HObj)} {g:Nat} {S:List Bag}:OKz kp sh (sdO g S) (sdO g S):=a3y rfl fun _ _ _ _=>(show Fz sh (a0k _) (a0k _) from Frz.fz)
theorem c5n (g g2 g3 g4:Nat) (S:List Bag) (R:List (List Int)) (A:List Bool) (hS:S.length≤1000) (hok:∀ b∈S,b.ok) (s:Bag) (hs:s.ok):a4N Tryz.prog 46 [.pt 9101 g 0 0,a0k s.list] (dtL g g2 g3 g4 S R A) (intV (rfV S s)) (dtL g g2 g3 g4 S R A):=by
 intro c
 refine a0v Tryz.func46 rfl kr _ _ _ _ rfl 25 rfl rfl (fun X ok hX=>?_)
 refine ru 12 ?_
 refine a0m (α:=Nat) (fun x c=>⟨25,[(0,.v (.pt 9101 g 0 0)),(1,.v (a0k s.list)),(5,.v (intV x))],[(9101,dtO g g2 g3 g4 S.length R.length),(9102,sdO g2 S),(9103,nxO g3 R),(9104,acO g4 A)],c⟩) (fun x=>1≤x∧(x≤S.length∨x=1)∧∀ j,1≤j→j < x→S.getD j Bag.zero≠s) (fun x=>S.length+1 - x) (1) (by exact ⟨Nat.le_refl _,.inr rfl,fun j h1 h2=>by omega⟩) (a0c rfl (Nat.le_refl _) tsa hsa) (fun i c hx NhL1 hL1=>?_)
 (try dsimp only at hx hL1 ⊢)
 obtain ⟨hi1,hi2,hno⟩:=hx
 refine ru 12 ?_
 refine wdc (fun hr0 hc0=>?_) (fun hr0 hc0=>?_)
 ·skip
  have hil:i < S.length:=om
  refine ru 13 ?_
  refine rvl (a0k (S.getD i Bag.zero).list) ((by show a0k (S.getD (0+i) Bag.zero).list=_;rw [Nat.zero_add])) ?_
  refine ru 1 ?_
  refine cll (c1V (S.getD i Bag.zero).list s.list (a8g _) (a8g _)) ?_
  refine ru 2 ?_
  refine wdc (fun hr1 hc1=>?_) (fun hr1 hc1=>?_)
  ·skip
   have he:S.getD i Bag.zero=s:=Bag.ext_list _ _ (b5O hok hil) hs (by simpa using hr1)
   refine ru 9 ?_
   refine a0o ?_
   refine ru 2 ?_
   refine fr1 ok hX rw1 (()) (trivial) ((by rw [c7r hi1 hil hno he];exact kza)) ?_
   exact ⟨⟨_,rfl,(b9w rfl rfl rfl rfl rfl rfl)⟩,⟨⟨_,rfl,c0t⟩,⟨⟨_,rfl,(a3y rfl fun _ _ _ _=>.imm _)⟩,⟨⟨_,rfl,(a3y rfl fun _ _ _ _=>.imm _)⟩,trivial⟩⟩⟩⟩
  have he:S.getD i Bag.zero≠s:=(fun h=>by have h9:decide ((S.getD i Bag.zero).list=s.list)=false:=hr1;rw [h] at h9;simp at h9)
  refine ru 8 ?_
  exact hL1 (i+1) _ _ (by (try dsimp only);exact ⟨by omega,by omega,fun j h1 h2=>by rcases Nat.lt_succ_iff_lt_or_eq.1 h2 with h | rfl;exact hno j h1 h;exact he⟩) (by (try dsimp only);omega) (a0c rfl (Nat.le_refl _) (tsr rfl (tsr rfl (a0t.cons rfl (a0G om) a0t.nil))) hsa)
 have hie:S.length≤i:=om
 refine ru 2 ?_
 refine a0d ?_
 refine ru 8 ?_
 refine fr1 ok hX rw1 (()) (trivial) ((by rw [c7a (fun j h1 h2=>hno j h1 om)];exact kza)) ?_
 exact ⟨⟨_,rfl,(b9w rfl rfl rfl rfl rfl rfl)⟩,⟨⟨_,rfl,c0t⟩,⟨⟨_,rfl,(a3y rfl fun _ _ _ _=>.imm _)⟩,⟨⟨_,rfl,(a3y rfl fun _ _ _ _=>.imm _)⟩,trivial⟩⟩⟩⟩
set_option maxHeartbeats 2000000
@[reducible] def mbO (g n:Nat) (m:Nat→Bool):HObj:=⟨g,n,1,4,0,fun q _=>boolV (m q)⟩
def b1W (l:List Int) (m:Nat→Bool):Nat→Nat→Bool
 | 0=>m
 | k+1=>fun q=>b1W l m k q||decide ((q:Int)=l.getD k 0)
def c4z (β:Nat→Bag) (L:List Int) (M:Nat→Bool):Nat→Nat→Bool
 | 0=>M
 | i+1=>b1W (β (L.getD i 0).toNat).list (c4z β L M i) (β (L.getD i 0).toNat).list.length
def m0L (a:Nat) (first:Bag):List Int:=if a=0 then first.list else []
def a2A (β:Nat→Bag) (first:Bag) (S:List Bag) (a:Nat):Nat→Bool:=c4z β (S.getD a Bag.zero).list (b1W (m0L a first) (fun _=>false) (m0L a first).length) (S.getD a Bag.zero).list.length
def inK (l:List Int) (q:Nat) (B:Nat→List Int):Nat→Nat→List Int
 | 0=>B
 | k+1=>fun s=>if l.getD k 0=(s:Int) then inK l q B k s++[(q:Int)] else inK l q B k s
def a3K (m:Nat→Bool) (on:List Bag):Nat→Nat→List Int
 | 0=>fun _=>[]
 | q+1=>if m q=true then inK (onF on q).list q (a3K m on q) (onF on q).list.length else a3K m on q
theorem b5c {l:List Int} {q:Nat} {B:Nat→List Int}:∀ k s,(inK l q B k s).length≤(B s).length+k
  | 0,s=>Nat.le_refl _
  | k + 1, s => by
    have:=b5c (l:=l) (q:=q) (B:=B) k s
    show (if _ then _ else _:List Int).length≤_
    split
    · rw [List.length_append];simp;omega
    · omega
theorem b6u {m:Nat→Bool} {on:List Bag}:∀ q s,(a3K m on q s).length≤q * 256
  | 0,s=>Nat.zero_le _
  | q + 1, s => by
    have:=b6u (m:=m) (on:=on) q s
    unfold a3K
    split
    · have h2:=b5c (l:=(onF on q).list) (q:=q) (B:=a3K m on q) (onF on q).list.length s
      have:=a2q (onF on q)
      omega
    · omega
theorem b8j {g n k:Nat} {l:List Int} {m0:Nat→Bool} {v:Int} {F:HV} (hF:F=boolV true) (hv:l.getD k 0=v) (h0:0≤v):a2x ⟨g,n,1,4,0,upd (fun q _=>boolV (b1W l m0 k q)) (0+v.toNat) 0 1 (fun j=>F.cell j)⟩ (mbO g n (b1W l m0 (k+1))):=.of fun i j hi hj=>by
 subst hF
 obtain rfl:j=0:=by omega
 show Sb _ (boolV (b1W l m0 k i||decide ((i:Int)=l.getD k 0)))
 rw [hv]
 by_cases h:i=v.toNat
 ·rw [a8L ⟨by omega,by omega,by omega⟩,show decide ((i:Int)=v)=true from decide_eq_true (by omega),Bool.or_true];exact .refl _
 ·rw [a7A (by omega),show decide ((i:Int)=v)=false from decide_eq_false (by omega),Bool.or_false];exact .refl _
@[reducible] def rwO (g:Nat) (l:List Int):HObj:=⟨g,l.length,1,3,0,a5g l⟩
@[reducible] def rwb (gs:Nat→Nat) (B:Nat→List Int):Nat→HObj:=fun s=>rwO (gs s) (B s)
@[reducible] def arO (g:Nat) (ob:Nat→HObj):HObj:=⟨g,1,32,106,0,c3r 10000 ob⟩
theorem c5y {b i id c m:Nat} {ob:Nat→HObj}:c3m b ob i id c m 0 (0+i * 1)=.os id c 0 m:=by
 show (if 0+i * 1=i then _ else _)=_
 rw [if_pos (by omega)]
theorem b0T {C:Ctx} {n clk:Nat} {tm:List (Nat×TV)} (o id b i N go g m sz:Nat) (ty ty2:TypeId) (f:Nat→Nat→HV) (L:List (Nat×HObj)) (ob:Nat→HObj) (hoi:ob i=⟨g,m,sz,ty2,0,f⟩) (hi:i < N) (hob:o < b) (hid:id < b) (hne:id≠o) (hL:b4C b id L=true) {c':Nat} (hc:clk+1=c') :
  a4z C ⟨n,tm,(o,⟨go,1,N,ty,0,c3r b ob⟩)::(L++a4P b ob (fun _=>true) N),clk⟩ ⟨n,tm,(o,⟨go,1,N,ty,0,c3m b ob i id clk m⟩)::(id,⟨clk,m,sz,ty2,0,f⟩)::(L++a4P b ob (fun k=>k != i) N),c'⟩:=by
 subst hc
 have:=b2k (C:=C) (n:=n) (clk:=clk) (tm:=tm) o id b i N go ty L ob hi hob hid hne hL (by rw [hoi];exact Nat.zero_le _)
 rw [hoi] at this
 exact this
theorem c9E {zs:List Value} (hz:zs=List.replicate 32 (Value.slice none 0 0)):∀ j,j < 32→(HV.imm (zs.getD j undef))=.imm (.slice none 0 0):=fun j hj=>by
 subst hz;rw [List.getD_eq_getElem?_getD,List.getElem?_replicate,if_pos hj];rfl
set_option maxHeartbeats 4000000
theorem c7e (g g2 g3 g4:Nat) (S:List Bag) (R:List (List Int)) (A:List Bool) (wd:Nat) (on:List Bag) (β:Nat→Bag) (p:Pc) (hw:wd≤256) (hF:InB 0 wd p.first) (hβ:∀ q,InB 0 wd (β q)) (a:Nat) (ha:a < S.length) (hS:S.length≤1000) (hSa:InB 0 wd (S.getD a Bag.zero)):a4N Tryz.prog 45 [.pt 9101 g 0 0,ndR wd on β p,intV (a:Int)] (dtL g g2 g3 g4 S R A) (.agg 32 (fun s=>a0k (a3K (a2A β p.first S a) on wd s))) (dtL g g2 g3 g4 S R A):=by
 intro c0
 obtain ⟨nl,hzs⟩:∃ nl,nl=List.replicate 32 (Value.slice none 0 0):=⟨_,rfl⟩
 refine a0v Tryz.func45 rfl kr _ _ _ _ rfl 118 rfl rfl (fun X ok hX=>?_)
 refine ru 11 ?_
 refine a0u 19 (c3c (id:=19) (n:=_) (m:=_) ei_26.h omx omx rfl rfl rfl rfl omx omx omx rfl) rfl rfl a0h rfl rfl (c':=c0+3) rfl ?_
 refine ru 10 ?_
 refine a0m (α:=Nat) (fun x c=>⟨118,[(0,.v (.pt 9101 g 0 0)),(2,.v (intV (a:Int))),(4,.v (.pt 4 c0 0 0)),(6,.v (.pt 6 (c0+1) 0 0)),(7,.v (.os 19 (c0+2) 0 wd)),(8,.v (intV x))],[(9101,dtO g g2 g3 g4 S.length R.length),(9102,sdO g2 S),(9103,nxO g3 R),(9104,acO g4 A),(4,⟨c0,1,5,65,0,fun _=>ndF (.sl 1 wd (lrF (onF on))) (.sl 1 wd (lrF β)) p 0⟩),(6,⟨c0+1,1,32,106,0,fun _ j=>.imm (nl.getD j undef)⟩),(19,mbO (c0+2) wd (b1W (m0L a p.first) (fun _=>false) x))],c⟩) (fun x=>x≤(m0L a p.first).length) (fun x=>(m0L a p.first).length - x) (0) om (a0c rfl (Nat.le_refl _) tsa (hsr rfl (hsr rfl (hsr rfl (hsr rfl (hsr rfl (a0e.cons rfl (.of fun i j hi hj=>by subst hzs;exact .refl _) (a0e.cons rfl (.of fun i j hi hj=>by obtain rfl:j=0:=om;exact .refl _) a0e.nil)))))))) (fun i c hx NhL1 hL1=>?_)
 (try dsimp only at hx hL1 ⊢)
 refine ru 14 ?_
 refine wdc (fun hr0 hc0=>?_) (fun hr0 hc0=>?_)
 ·skip
  have ha0:a=0:=(by simp at hr0;omega);have hm0:m0L a p.first=p.first.list:=if_pos ha0;have hil:i < p.first.list.length:=(by simp at hr0;omega);have hlb:=a2q p.first;obtain ⟨v,hv256,hvA,hv⟩:=a4c p.first hil;have hvw:=hF v hv256 hvA
  refine ru 11 ?_
  refine rvl (intV (v:Int)) ((by show intV (p.first.list.getD i 0)=_;rw [hv])) ?_
  refine ru 10 ?_
  exact hL1 (i+1) _ _ (by (try dsimp only);rw [hm0];omega) (by (try dsimp only);rw [hm0];omega) (a0c rfl (Nat.le_refl _) (tsr rfl (tsr rfl (tsr rfl (tsr rfl (tsr rfl (a0t.cons rfl (a0G om) a0t.nil)))))) (hsr rfl (hsr rfl (hsr rfl (hsr rfl (hsr rfl (hsr rfl (a0e.cons rfl (b8j rfl (by rw [hm0];exact hv) om) a0e.nil))))))))
 have hie:i=(m0L a p.first).length:=(by by_cases h:a=0;(have e:m0L a p.first=p.first.list:=if_pos h;rw [e] at hx ⊢;simp [h] at hr0;omega);(have e:m0L a p.first=[]:=if_neg h;rw [e] at hx ⊢;simp at hx ⊢;omega));subst hie
 refine ru 2 ?_
 refine a0d ?_
 refine ru 9 ?_
 refine a0m (α:=Nat) (fun x c=>⟨118,[(0,.v (.pt 9101 g 0 0)),(2,.v (intV (a:Int))),(4,.v (.pt 4 c0 0 0)),(6,.v (.pt 6 (c0+1) 0 0)),(7,.v (.os 19 (c0+2) 0 wd)),(9,.v (intV x))],[(9101,dtO g g2 g3 g4 S.length R.length),(9102,sdO g2 S),(9103,nxO g3 R),(9104,acO g4 A),(4,⟨c0,1,5,65,0,fun _=>ndF (.sl 1 wd (lrF (onF on))) (.sl 1 wd (lrF β)) p 0⟩),(6,⟨c0+1,1,32,106,0,fun _ j=>.imm (nl.getD j undef)⟩),(19,mbO (c0+2) wd (c4z β (S.getD a Bag.zero).list (b1W (m0L a p.first) (fun _=>false) (m0L a p.first).length) x))],c⟩) (fun x=>x≤(S.getD a Bag.zero).list.length) (fun x=>(S.getD a Bag.zero).list.length - x) (0) om (a0c rfl (Nat.le_refl _) tsa hsa) (fun i c hx NhL2 hL2=>?_)
 (try dsimp only at hx hL2 ⊢)
 refine ru 11 ?_
 refine rvl (a0k (S.getD a Bag.zero).list) ((by show a0k (S.getD (0+a) Bag.zero).list=_;rw [Nat.zero_add])) ?_
 refine ru 4 ?_
 refine wdc (fun hr1 hc1=>?_) (fun hr1 hc1=>?_)
 ·skip
  have hil:i < (S.getD a Bag.zero).list.length:=om;have hlb:=a2q (S.getD a Bag.zero);obtain ⟨v,hv256,hvA,hv⟩:=a4c (S.getD a Bag.zero) hil;have hvw:=hSa v hv256 hvA;have hom:c4z β (S.getD a Bag.zero).list (b1W (m0L a p.first) (fun _=>false) (m0L a p.first).length) (i+1)=b1W (β v).list (c4z β (S.getD a Bag.zero).list (b1W (m0L a p.first) (fun _=>false) (m0L a p.first).length) i) (β v).list.length:=(by show b1W (β ((S.getD a Bag.zero).list.getD i 0).toNat).list _ _=_;rw [hv];rfl)
  refine ru 14 ?_
  first
  | refine a3i 58 (HOp.val (v':=a0k (S.getD a Bag.zero).list) (a0F ty_49.h rfl (by first | exact Nat.le_of_ble_eq_true rfl | omega | (dsimp only;omega) | (simp <;> omega)) (by first | exact Nat.le_of_ble_eq_true rfl | omega | (dsimp only;omega) | (simp <;> omega)) (fun h=>(by first | rfl | cases h))) ((by show a0k (S.getD (0+a) Bag.zero).list=_;rw [Nat.zero_add]))) rfl rfl (a0T rfl) rfl rfl (k':=9) rfl ?_
  | refine a3i 58 (HOp.val (v':=a0k (S.getD a Bag.zero).list) (a0s ty_49.h rfl (by first | exact Nat.le_of_ble_eq_true rfl | omega | (dsimp only;omega) | (simp <;> omega)) (fun h=>(by first | rfl | cases h))) ((by show a0k (S.getD (0+a) Bag.zero).list=_;rw [Nat.zero_add]))) rfl rfl a0h rfl rfl (k':=9) rfl ?_
  refine ru 2 ?_
  first
  | refine a3i 61 (HOp.val (v':=intV (v:Int)) (a0F ty_3.h rfl (by first | exact Nat.le_of_ble_eq_true rfl | omega | (dsimp only;omega) | (simp <;> omega)) (by first | exact Nat.le_of_ble_eq_true rfl | omega | (dsimp only;omega) | (simp <;> omega)) (fun h=>(by first | rfl | cases h))) ((by show intV ((S.getD a Bag.zero).list.getD i 0)=_;rw [hv]))) rfl rfl (a0T rfl) rfl rfl (k':=12) rfl ?_
  | refine a3i 61 (HOp.val (v':=intV (v:Int)) (a0s ty_3.h rfl (by first | exact Nat.le_of_ble_eq_true rfl | omega | (dsimp only;omega) | (simp <;> omega)) (fun h=>(by first | rfl | cases h))) ((by show intV ((S.getD a Bag.zero).list.getD i 0)=_;rw [hv]))) rfl rfl a0h rfl rfl (k':=12) rfl ?_
  refine ru 1 ?_
  first
  | refine a3i 63 (HOp.val (v':=a0k (β v).list) (a0F ty_49.h rfl (by first | exact Nat.le_of_ble_eq_true rfl | omega | (dsimp only;omega) | (simp <;> omega)) (by first | exact Nat.le_of_ble_eq_true rfl | omega | (dsimp only;omega) | (simp <;> omega)) (fun h=>(by first | rfl | cases h))) (rfl)) rfl rfl (a0T rfl) rfl rfl (k':=14) rfl ?_
  | refine a3i 63 (HOp.val (v':=a0k (β v).list) (a0s ty_49.h rfl (by first | exact Nat.le_of_ble_eq_true rfl | omega | (dsimp only;omega) | (simp <;> omega)) (fun h=>(by first | rfl | cases h))) (rfl)) rfl rfl a0h rfl rfl (k':=14) rfl ?_
  refine ru 9 ?_
  refine a0m (α:=Nat) (fun x c=>⟨118,[(0,.v (.pt 9101 g 0 0)),(2,.v (intV (a:Int))),(4,.v (.pt 4 c0 0 0)),(6,.v (.pt 6 (c0+1) 0 0)),(7,.v (.os 19 (c0+2) 0 wd)),(9,.v (intV i)),(10,.v (a0k (β v).list)),(11,.v (intV x))],[(9101,dtO g g2 g3 g4 S.length R.length),(9102,sdO g2 S),(9103,nxO g3 R),(9104,acO g4 A),(4,⟨c0,1,5,65,0,fun _=>ndF (.sl 1 wd (lrF (onF on))) (.sl 1 wd (lrF β)) p 0⟩),(6,⟨c0+1,1,32,106,0,fun _ j=>.imm (nl.getD j undef)⟩),(19,mbO (c0+2) wd (b1W (β v).list (c4z β (S.getD a Bag.zero).list (b1W (m0L a p.first) (fun _=>false) (m0L a p.first).length) i) x))],c⟩) (fun x=>x≤(β v).list.length) (fun x=>(β v).list.length - x) (0) om (a0c rfl (Nat.le_refl _) tsa hsa) (fun k c hx NhL3 hL3=>?_)
  (try dsimp only at hx hL3 ⊢)
  refine ru 9 ?_
  refine wdc (fun hr2 hc2=>?_) (fun hr2 hc2=>?_)
  ·skip
   have hkl:k < (β v).list.length:=om;have hlc:=a2q (β v);obtain ⟨u,hu256,huA,hu⟩:=a4c (β v) hkl;have huw:=hβ v u hu256 huA
   refine ru 10 ?_
   refine rvl (intV (u:Int)) ((by show intV ((β v).list.getD k 0)=_;rw [hu])) ?_
   refine ru 10 ?_
   exact hL3 (k+1) _ _ (by (try dsimp only);omega) (by (try dsimp only);omega) (a0c rfl (Nat.le_refl _) (tsr rfl (tsr rfl (tsr rfl (tsr rfl (tsr rfl (tsr rfl (tsr rfl (a0t.cons rfl (a0G om) a0t.nil)))))))) (hsr rfl (hsr rfl (hsr rfl (hsr rfl (hsr rfl (hsr rfl (a0e.cons rfl (b8j rfl hu om) a0e.nil))))))))
  obtain rfl:k=(β v).list.length:=om
  refine ru 2 ?_
  refine a0d ?_
  refine ru 8 ?_
  exact hL2 (i+1) _ _ (by (try dsimp only);omega) (by (try dsimp only);omega) (a0c rfl (Nat.le_refl _) (tsr rfl (tsr rfl (tsr rfl (tsr rfl (tsr rfl (a0t.cons rfl (a0G om) a0t.nil)))))) (hsr rfl (hsr rfl (hsr rfl (hsr rfl (hsr rfl (hsr rfl (a0e.cons rfl (by rw [hom];exact .refl _) a0e.nil))))))))
 obtain rfl:i=(S.getD a Bag.zero).list.length:=om;let k0:=c
 refine ru 2 ?_
 refine a0d ?_
 refine ru 4 ?_
 refine s0 (b0b (m:=32) (hs:=[]) ar_106.h rfl rfl trivial) ?_
 refine ru 6 ?_
 refine (a5Y (hp':=(12,⟨k0,1,32,106,0,fun _ j=>.imm (nl.getD j undef)⟩)::[(9101,dtO g g2 g3 g4 S.length R.length),(9102,sdO g2 S),(9103,nxO g3 R),(9104,acO g4 A),(4,⟨c0,1,5,65,0,fun _=>ndF (.sl 1 wd (lrF (onF on))) (.sl 1 wd (lrF β)) p 0⟩),(6,⟨c0+1,1,32,106,0,fun _ j=>.imm (nl.getD j undef)⟩),(19,mbO (c0+2) wd (a2A β p.first S a))]) (a0e.cons rfl (.of fun i j hi hj=>by subst hzs;exact .refl _) (hsr rfl (hsr rfl (hsr rfl (hsr rfl (hsr rfl (hsr rfl (hsr rfl (a0e.nil)))))))))).wp ?_;refine (b8t 12 10000 32 k0 1 106 3 (a5g []) _ [(9101,dtO g g2 g3 g4 S.length R.length),(9102,sdO g2 S),(9103,nxO g3 R),(9104,acO g4 A),(4,⟨c0,1,5,65,0,fun _=>ndF (.sl 1 wd (lrF (onF on))) (.sl 1 wd (lrF β)) p 0⟩),(6,⟨c0+1,1,32,106,0,fun _ j=>.imm (nl.getD j undef)⟩),(19,mbO (c0+2) wd (a2A β p.first S a))] (c9E hzs) (by decide) rfl (by decide)).wp ?_
 refine ru 5 ?_
 refine a0m (α:=Nat×(Nat→Nat)) (fun x c=>⟨118,[(0,.v (.pt 9101 g 0 0)),(2,.v (intV (a:Int))),(4,.v (.pt 4 c0 0 0)),(6,.v (.pt 6 (c0+1) 0 0)),(7,.v (.os 19 (c0+2) 0 wd)),(12,.v (.pt 12 k0 0 0)),(13,.v (intV x.1))],((12,arO k0 (rwb x.2 (a3K (a2A β p.first S a) on x.1)))::(9101,dtO g g2 g3 g4 S.length R.length)::(9102,sdO g2 S)::(9103,nxO g3 R)::(9104,acO g4 A)::(4,⟨c0,1,5,65,0,fun _=>ndF (.sl 1 wd (lrF (onF on))) (.sl 1 wd (lrF β)) p 0⟩)::(6,⟨c0+1,1,32,106,0,fun _ j=>.imm (nl.getD j undef)⟩)::(19,mbO (c0+2) wd (a2A β p.first S a))::a4P 10000 (rwb x.2 (a3K (a2A β p.first S a) on x.1)) (fun _=>true) 32),c⟩) (fun x=>x.1≤wd) (fun x=>wd - x.1) ((0,fun k=>k0+2+k)) om (a0c rfl (Nat.le_refl _) tsa (hsr rfl (hsr rfl (hsr rfl (hsr rfl (hsr rfl (hsr rfl (hsr rfl (hsr rfl (by repeat (first | exact a0e.refl _ | exact a9b | refine a0e.skip ?_ rfl))))))))))) (fun x c hx NhL4 hL4=>?_)
 revert hx hL4;obtain ⟨q,gs⟩:=x;intro hx hL4;dsimp only at hx hL4 ⊢
 refine ru 9 ?_
 refine wdc (fun hr3 hc3=>?_) (fun hr3 hc3=>?_)
 ·skip
  have hqw:q < wd:=om
  refine ru 10 ?_
  refine a0m (α:=Nat×(Nat→Nat)) (fun x c=>⟨118,[(0,.v (.pt 9101 g 0 0)),(2,.v (intV (a:Int))),(4,.v (.pt 4 c0 0 0)),(6,.v (.pt 6 (c0+1) 0 0)),(7,.v (.os 19 (c0+2) 0 wd)),(12,.v (.pt 12 k0 0 0)),(13,.v (intV q)),(14,.v (intV x.1))],((12,arO k0 (rwb x.2 (inK (onF on q).list q (a3K (a2A β p.first S a) on q) x.1)))::(9101,dtO g g2 g3 g4 S.length R.length)::(9102,sdO g2 S)::(9103,nxO g3 R)::(9104,acO g4 A)::(4,⟨c0,1,5,65,0,fun _=>ndF (.sl 1 wd (lrF (onF on))) (.sl 1 wd (lrF β)) p 0⟩)::(6,⟨c0+1,1,32,106,0,fun _ j=>.imm (nl.getD j undef)⟩)::(19,mbO (c0+2) wd (a2A β p.first S a))::a4P 10000 (rwb x.2 (inK (onF on q).list q (a3K (a2A β p.first S a) on q) x.1)) (fun _=>true) 32),c⟩) (fun x=>x.1≤(onF on q).list.length∧(x.1=0∨(a2A β p.first S a) q=true)) (fun x=>(onF on q).list.length - x.1) ((0,gs)) (by exact ⟨Nat.zero_le _,.inl rfl⟩) (a0c rfl (Nat.le_refl _) tsa (hsr rfl (hsr rfl (hsr rfl (hsr rfl (hsr rfl (hsr rfl (hsr rfl (hsr rfl (by repeat (first | exact a0e.refl _ | exact a9b | refine a0e.skip ?_ rfl))))))))))) (fun x c hx NhL5 hL5=>?_)
  revert hx hL5;obtain ⟨k,hs⟩:=x;intro hx hL5;dsimp only at hx hL5 ⊢
  obtain ⟨hk,hkm⟩:=hx
  refine ru 7 ?_
  refine rvl (boolV ((a2A β p.first S a) q)) ((by show boolV ((a2A β p.first S a) (0+q))=_;rw [Nat.zero_add])) ?_
  refine ru 12 ?_
  refine wdc (fun hr4 hc4=>?_) (fun hr4 hc4=>?_)
  ·skip
   have hmq:(a2A β p.first S a) q=true:=(by simp at hr4;exact hr4.1);have hkl:k < (onF on q).list.length:=(by simp at hr4;exact hr4.2);have hld:=a2q (onF on q);obtain ⟨s,hs256,hsA,hs0⟩:=a4c (onF on q) hkl
   refine ru 14 ?_
   refine rvl (intV (s:Int)) ((by show intV ((onF on q).list.getD k 0)=_;rw [hs0])) ?_
   refine ru 9 ?_
   refine wdc (fun hr5 hc5=>?_) (fun hr5 hc5=>?_)
   ·skip
    have hs32:s < 32:=om;have hA:(inK (onF on q).list q (a3K (a2A β p.first S a) on q) (k+1)) s=(inK (onF on q).list q (a3K (a2A β p.first S a) on q) k) s++[(q:Int)]:=if_pos hs0;have hB:∀ j,j≠s→(inK (onF on q).list q (a3K (a2A β p.first S a) on q) (k+1)) j=(inK (onF on q).list q (a3K (a2A β p.first S a) on q) k) j:=(fun j hj=>if_neg (by rw [hs0];omega));have heq:∀ j,j < 32→fup (rwb hs (inK (onF on q).list q (a3K (a2A β p.first S a) on q) k)) s ⟨c+4,((inK (onF on q).list q (a3K (a2A β p.first S a) on q) (k+1)) s).length,1,3,0,a5g ((inK (onF on q).list q (a3K (a2A β p.first S a) on q) (k+1)) s)⟩ j=rwb (fun t=>if t=s then c+4 else hs t) (inK (onF on q).list q (a3K (a2A β p.first S a) on q) (k+1)) j:=(fun j _=>by unfold fup;by_cases e:j=s;(subst e;rw [if_pos rfl];show _=rwO (if j=j then _ else _) _;rw [if_pos rfl]);(rw [if_neg e];show rwO _ _=rwO (if j=s then _ else _) _;rw [if_neg e,hB j e]))
    have hl1:=b5c (l:=(onF on q).list) (q:=q) (B:=a3K (a2A β p.first S a) on q) k s;have hl2:=b6u (m:=(a2A β p.first S a)) (on:=on) q s;have hl3:=a2q (onF on q);refine (b0T 12 9377 10000 s 32 k0 (hs s) ((inK (onF on q).list q (a3K (a2A β p.first S a) on q) k) s).length 1 106 3 (a5g ((inK (onF on q).list q (a3K (a2A β p.first S a) on q) k) s)) [(9101,dtO g g2 g3 g4 S.length R.length),(9102,sdO g2 S),(9103,nxO g3 R),(9104,acO g4 A),(4,⟨c0,1,5,65,0,fun _=>ndF (.sl 1 wd (lrF (onF on))) (.sl 1 wd (lrF β)) p 0⟩),(6,⟨c0+1,1,32,106,0,fun _ j=>.imm (nl.getD j undef)⟩),(19,mbO (c0+2) wd (a2A β p.first S a))] (rwb hs (inK (onF on q).list q (a3K (a2A β p.first S a) on q) k)) rfl hs32 (by decide) (by decide) (by decide) rfl (c':=c+1) rfl).wp ?_
    refine ru 5 ?_
    refine rvl (HV.os 9377 c 0 ((inK (onF on q).list q (a3K (a2A β p.first S a) on q) k) s).length) ((by exact c5y)) ?_
    refine ru 1 ?_
    refine a0u 114 (a0b (id:=114) (hs:=[_]) ei_49.h omx rfl omx ⟨rfl,rfl,rfl,rfl,trivial⟩) rfl rfl a0h rfl rfl (c':=c+2) rfl ?_
    first
    | refine a0u 115 (a0a ei_49.h (by first | exact Nat.le_of_ble_eq_true rfl | omega | (dsimp only;omega) | (simp <;> omega)) rfl (by first | exact Nat.le_of_ble_eq_true rfl | omega | (dsimp only;omega) | (simp <;> omega)) (by first | exact Nat.le_of_ble_eq_true rfl | omega | (dsimp only;omega) | (simp <;> omega)) (a0y rfl (by first | exact Nat.le_of_ble_eq_true rfl | omega | (dsimp only;omega) | (simp <;> omega))) (by first | exact Nat.le_of_ble_eq_true rfl | omega | (dsimp only;omega) | (simp <;> omega)) rfl) rfl rfl (a0i rfl (a0T rfl)) rfl rfl (c':=c+3) rfl ?_
    | refine a0u 115 (a0a ei_49.h (by first | exact Nat.le_of_ble_eq_true rfl | omega | (dsimp only;omega) | (simp <;> omega)) rfl (by first | exact Nat.le_of_ble_eq_true rfl | omega | (dsimp only;omega) | (simp <;> omega)) (by first | exact Nat.le_of_ble_eq_true rfl | omega | (dsimp only;omega) | (simp <;> omega)) (a0R rfl (by first | exact Nat.le_of_ble_eq_true rfl | omega | (dsimp only;omega) | (simp <;> omega))) (by first | exact Nat.le_of_ble_eq_true rfl | omega | (dsimp only;omega) | (simp <;> omega)) rfl) rfl rfl (a0i rfl (a0T rfl)) rfl rfl (c':=c+3) rfl ?_
    | refine a0u 115 (a0a ei_49.h (by first | exact Nat.le_of_ble_eq_true rfl | omega | (dsimp only;omega) | (simp <;> omega)) rfl (by first | exact Nat.le_of_ble_eq_true rfl | omega | (dsimp only;omega) | (simp <;> omega)) (by first | exact Nat.le_of_ble_eq_true rfl | omega | (dsimp only;omega) | (simp <;> omega)) (a0P rfl) (by first | exact Nat.le_of_ble_eq_true rfl | omega | (dsimp only;omega) | (simp <;> omega)) rfl) rfl rfl (a0i rfl a0h) rfl rfl (c':=c+3) rfl ?_
    | refine a0u 115 (a0a ei_49.h (by first | exact Nat.le_of_ble_eq_true rfl | omega | (dsimp only;omega) | (simp <;> omega)) rfl (by first | exact Nat.le_of_ble_eq_true rfl | omega | (dsimp only;omega) | (simp <;> omega)) (by first | exact Nat.le_of_ble_eq_true rfl | omega | (dsimp only;omega) | (simp <;> omega)) (a0A 1 (fun _ _=>default) rfl) (by first | exact Nat.le_of_ble_eq_true rfl | omega | (dsimp only;omega) | (simp <;> omega)) rfl) rfl rfl (a0i rfl a0h) rfl rfl (c':=c+3) rfl ?_
    refine ru 10 ?_
    exact hL5 ((k+1,fun t=>if t=s then c+4 else hs t)) _ _ (by (try dsimp only);exact ⟨by omega,.inr hmq⟩) (by (try dsimp only);omega) (a4z.trans (a5Y (a0e.cons (o':=⟨k0,1,32,106,0,c3m 10000 (rwb hs (inK (onF on q).list q (a3K (a2A β p.first S a) on q) k)) s 9377 (c+2) ((inK (onF on q).list q (a3K (a2A β p.first S a) on q) (k+1)) s).length⟩) rfl (.of fun i' j hi' hj=>by obtain rfl:i'=0:=om;by_cases e:j=s;(subst e;rw [a8L ⟨rfl,by omega,by omega⟩];show Sb _ (if j=j then _ else _);rw [if_pos rfl];exact a3u (by rw [hA];simp));(rw [a7A om];show Sb (if j=s then _ else _) (if j=s then _ else _);rw [if_neg e,if_neg e];exact .refl _)) (a0e.cons (o':=⟨c+2,((inK (onF on q).list q (a3K (a2A β p.first S a) on q) (k+1)) s).length,1,3,0,a5g ((inK (onF on q).list q (a3K (a2A β p.first S a) on q) (k+1)) s)⟩) rfl (by rw [hA];exact a0H (enc:=fun x _=>intV x) (d:=0) rfl (fun _ _ _ _=>.refl _) (fun _ _=>.refl _)) (hsr rfl (hsr rfl (hsr rfl (hsr rfl (hsr rfl (hsr rfl (hsr rfl ((by repeat (first | exact a0e.refl _ | exact a9b | refine a0e.skip ?_ rfl))))))))))))) (a4z.trans (b7s 12 9377 10000 s 32 k0 (c+2) ((inK (onF on q).list q (a3K (a2A β p.first S a) on q) (k+1)) s).length 1 0 106 3 (a5g ((inK (onF on q).list q (a3K (a2A β p.first S a) on q) (k+1)) s)) [(9101,dtO g g2 g3 g4 S.length R.length),(9102,sdO g2 S),(9103,nxO g3 R),(9104,acO g4 A),(4,⟨c0,1,5,65,0,fun _=>ndF (.sl 1 wd (lrF (onF on))) (.sl 1 wd (lrF β)) p 0⟩),(6,⟨c0+1,1,32,106,0,fun _ j=>.imm (nl.getD j undef)⟩),(19,mbO (c0+2) wd (a2A β p.first S a))] (rwb hs (inK (onF on q).list q (a3K (a2A β p.first S a) on q) k)) om (by decide) (by decide) (by decide) rfl) (a0c rfl (Nat.le_refl _) (tsr rfl (tsr rfl (tsr rfl (tsr rfl (tsr rfl (tsr rfl (tsr rfl (a0t.cons rfl (a0G om) a0t.nil)))))))) (a0e.cons rfl (.of fun i' j hi' hj=>by have e:=heq j hj;show Sb (.os _ (fup _ _ _ j).g 0 (fup _ _ _ j).n) (.os _ (if j=s then c+4 else hs j) 0 ((inK (onF on q).list q (a3K (a2A β p.first S a) on q) (k+1)) j).length);rw [e];exact .refl _) (hsr rfl (hsr rfl (hsr rfl (hsr rfl (hsr rfl (hsr rfl (hsr rfl ((by repeat (first | exact a9p (fun j hj _=>heq j hj) | refine a0e.skip ?_ rfl))))))))))))))
   have hno:∀ j,j < 32→(inK (onF on q).list q (a3K (a2A β p.first S a) on q) k) j=(inK (onF on q).list q (a3K (a2A β p.first S a) on q) (k+1)) j:=(fun j hj=>(if_neg (by rw [hs0];omega)).symm)
   refine ru 8 ?_
   exact hL5 ((k+1,hs)) _ _ (by (try dsimp only);exact ⟨by omega,.inr hmq⟩) (by (try dsimp only);omega) (a0c rfl (Nat.le_refl _) (tsr rfl (tsr rfl (tsr rfl (tsr rfl (tsr rfl (tsr rfl (tsr rfl (a0t.cons rfl (a0G om) a0t.nil)))))))) (a0e.cons rfl (.of fun i' j hi' hj=>by show Sb (.os _ _ 0 ((inK (onF on q).list q (a3K (a2A β p.first S a) on q) k) j).length) (.os _ _ 0 ((inK (onF on q).list q (a3K (a2A β p.first S a) on q) (k+1)) j).length);rw [hno j hj];exact .refl _) (hsr rfl (hsr rfl (hsr rfl (hsr rfl (hsr rfl (hsr rfl (hsr rfl ((by repeat (first | exact a9p (fun j hj _=>by show rwO _ _=rwO _ _;rw [hno j hj]) | refine a0e.skip ?_ rfl))))))))))))
  have hend:∀ t,(inK (onF on q).list q (a3K (a2A β p.first S a) on q) k) t=a3K (a2A β p.first S a) on (q+1) t:=(fun t=>by by_cases h:(a2A β p.first S a) q=true;(have hk2:k=(onF on q).list.length:=(by rw [h] at hr4;have:=of_decide_eq_false hr4;rw [Int.toNat_natCast] at this;omega);show _=(if (a2A β p.first S a) q=true then _ else _:Nat→List Int) t;rw [if_pos h,hk2]);(have hk0:k=0:=(hkm.resolve_right h);subst hk0;show _=(if (a2A β p.first S a) q=true then _ else _:Nat→List Int) t;rw [if_neg h];rfl))
  refine ru 2 ?_
  refine a0d ?_
  refine ru 8 ?_
  exact hL4 ((q+1,hs)) _ _ (by (try dsimp only);omega) (by (try dsimp only);omega) (a0c rfl (Nat.le_refl _) (tsr rfl (tsr rfl (tsr rfl (tsr rfl (tsr rfl (tsr rfl (a0t.cons rfl (a0G om) a0t.nil))))))) (a0e.cons rfl (.of fun i' j hi' hj=>by show Sb (.os _ _ 0 ((inK (onF on q).list q (a3K (a2A β p.first S a) on q) k) j).length) (.os _ _ 0 (a3K (a2A β p.first S a) on (q+1) j).length);rw [hend j];exact .refl _) (hsr rfl (hsr rfl (hsr rfl (hsr rfl (hsr rfl (hsr rfl (hsr rfl ((by repeat (first | exact a9p (fun j hj _=>by show rwO _ _=rwO _ _;rw [hend j]) | refine a0e.skip ?_ rfl))))))))))))
 obtain rfl:q=wd:=om
 refine ru 2 ?_
 refine a0d ?_
 refine ru 9 ?_
 exact a1u ok hX a3g.one rfl (a0I rfl rfl ty_106.h (fun h=>by cases h) rfl rfl) (a4P 10000 (rwb gs (a3K (a2A β p.first S a) on q)) (fun _=>true) 32) (c0G 32) (b9t (fun k hk=>by (repeat rw [b9V rfl]);exact b4u hk) 32 (Nat.le_refl _)) () trivial rfl rfl (.fz _ _ (.agg _ _ _ fun s hs=>Fz.os (10000+s) (gs s) 0 _ (rwO (gs s) (a3K (a2A β p.first S a) on q s)) _ (c0o hs) rfl (Nat.le_of_eq (Nat.zero_add _)) (fun i j hi hj=>by rw [Nat.zero_add];exact .imm _))) ⟨⟨_,rfl,b9w rfl rfl rfl rfl rfl rfl⟩,⟨_,rfl,c0t⟩,⟨_,rfl,a3y rfl fun _ _ _ _=>.imm _⟩,⟨_,rfl,a3y rfl fun _ _ _ _=>.imm _⟩,trivial⟩
end Go.Proofs.YtdbbbafiegpbpaaGreatDoor
namespace Go.Proofs.YtdbbbafiegpbpaaGreatDoor
set_option linter.unusedSimpArgs false
set_option linter.unusedVariables false
theorem b4Q {l:List Int} {P:Int→Prop}:(∃ k,k < l.length∧P (l.getD k 0))↔∃ v∈l,P v:=by
 constructor
 ·rintro ⟨k,hk,h⟩
  rw [List.getD_eq_getElem?_getD,List.getElem?_eq_getElem hk] at h
  exact ⟨_,List.getElem_mem hk,h⟩
 ·rintro ⟨v,hv,h⟩
  obtain ⟨k,hk,e⟩:=List.getElem_of_mem hv
  exact ⟨k,hk,by rw [List.getD_eq_getElem?_getD,List.getElem?_eq_getElem hk];show P l[k];rw [e];exact h⟩
theorem a5o {k:Nat} {P:Nat→Prop}:(∃ j,j < k+1∧P j)↔(∃ j,j < k∧P j)∨P k:=by
 constructor
 ·rintro ⟨j,hj,h⟩
  rcases Nat.lt_succ_iff_lt_or_eq.1 hj with h1 | rfl
  ·exact .inl ⟨j,h1,h⟩
  ·exact .inr h
 ·rintro (⟨j,hj,h⟩ | h)
  ·exact ⟨j,by omega,h⟩
  ·exact ⟨k,by omega,h⟩
theorem a7x {P:Nat→Prop}:(∃ j,j < 0∧P j)↔False:=⟨fun ⟨j,h,_⟩=>absurd h (Nat.not_lt_zero j),False.elim⟩
theorem c0i {l:List Int} {m:Nat→Bool} {q:Nat}:∀ k,b1W l m k q=true↔m q=true∨∃ j,j < k∧(q:Int)=l.getD j 0
  | 0=>by rw [a7x,or_false];rfl
  | k + 1 => by
    rw [a5o,←or_assoc,←c0i k]
    show (b1W l m k q||decide _)=true↔_
    rw [Bool.or_eq_true,decide_eq_true_eq]
theorem b6J {l:List Int} {m:Nat→Bool} {q:Nat}:b1W l m l.length q=true↔m q=true∨(q:Int)∈l:=by
 rw [c0i,b4Q (P:=fun v=>(q:Int)=v)]
 simp
theorem b8o {β:Nat→Bag} {L:List Int} {M:Nat→Bool} {q:Nat}:∀ i,c4z β L M i q=true↔M q=true∨∃ j,j < i∧(q:Int)∈(β (L.getD j 0).toNat).list
  | 0=>by rw [a7x,or_false];rfl
  | i + 1 => by
    rw [a5o,←or_assoc,←b8o i]
    exact b6J
theorem c5w {β:Nat→Bag} {first:Bag} {S:List Bag} {a q:Nat}:a2A β first S a q=true↔(a=0∧(q:Int)∈first.list)∨∃ v∈(S.getD a Bag.zero).list,(q:Int)∈(β v.toNat).list:=by
 unfold a2A
 rw [b8o,b6J,b4Q (P:=fun v=>(q:Int)∈(β v.toNat).list)]
 unfold m0L
 by_cases h:a=0 <;> simp [h]
theorem c3I {l:List Int} (hn:l.Nodup) {q:Nat} {B:Nat→List Int} {s:Nat}:∀ k,k≤l.length→inK l q B k s=B s++(if ∃ j,j < k∧l.getD j 0=(s:Int) then [(q:Int)] else [])
  | 0,_=>by rw [if_neg (by rw [a7x];exact id),List.append_nil];rfl
  | k + 1, hk => by
    show (if l.getD k 0=(s:Int) then inK l q B k s++[(q:Int)] else inK l q B k s)=_
    rw [c3I hn k (by omega)]
    by_cases h:l.getD k 0=(s:Int)
    · rw [if_pos h,if_pos (a5o.2 (.inr h)),if_neg,List.append_nil]
      rintro ⟨j,hj,e⟩
      rw [←h,List.getD_eq_getElem?_getD,List.getD_eq_getElem?_getD,List.getElem?_eq_getElem (by omega),List.getElem?_eq_getElem (by omega)] at e
      have:=(List.pairwise_iff_getElem.1 hn) j k (by omega) (by omega) hj
      exact this e
    · rw [if_neg h]
      congr 1
      by_cases h2:∃ j,j < k∧l.getD j 0=(s:Int)
      · rw [if_pos h2,if_pos (a5o.2 (.inl h2))]
      · rw [if_neg h2,if_neg (fun h3=>(a5o.1 h3).elim h2 h)]
theorem b9Y {m:Nat→Bool} {on:List Bag} {s:Nat}:∀ q,a3K m on q s=((List.range q).filter (fun p=>m p&&decide ((s:Int)∈(onF on p).list))).map (fun j:Nat=>(j:Int))
  | 0=>rfl
  | q + 1 => by
    rw [List.range_succ,List.filter_append,List.map_append,←b9Y q]
    show (if m q=true then inK (onF on q).list q (a3K m on q) (onF on q).list.length else a3K m on q:Nat→List Int) s=_
    have hex:(∃ j,j < (onF on q).list.length∧(onF on q).list.getD j 0=(s:Int))↔(s:Int)∈(onF on q).list:=by
      rw [b4Q (P:=fun v=>v=(s:Int))];simp
    by_cases h:m q=true
    · rw [if_pos h,c3I (b0k _) _ (Nat.le_refl _)]
      congr 1
      by_cases h2:(s:Int)∈(onF on q).list
      · rw [if_pos (hex.2 h2),List.filter_cons_of_pos (by rw [h,decide_eq_true h2];rfl)];rfl
      · rw [if_neg (fun h3=>h2 (hex.1 h3)),List.filter_cons_of_neg (by rw [decide_eq_false h2,Bool.and_false];decide)];rfl
    · rw [if_neg h,List.filter_cons_of_neg (by rw [eq_false_of_ne_true h,Bool.false_and];decide)];simp
theorem a9Z {f g:Nat→Bool} {n:Nat}:∀ k,(∀ p,p < n→g p=f p)→(∀ p,n≤p→p < n+k→g p=false)→(List.range (n+k)).filter g=(List.range n).filter f
  | 0,h1,h2=>List.filter_congr fun p hp=>h1 p (List.mem_range.1 hp)
  | k + 1, h1, h2 => by
    rw [←Nat.add_assoc,List.range_succ,List.filter_append,a9Z k h1 (fun p a b=>h2 p a (by omega)),List.filter_cons_of_neg (by rw [h2 (n+k) (by omega) (by omega)];decide),List.filter_nil,List.append_nil]
theorem b0w {l:List Int} {B:Nat→Bag} {p:Int} {s j:Nat} (hj:j < 256):∀ k,(b0K l B p k s).has j=true↔(B s).has j=true∨((j:Int)=p∧s < 32∧∃ i,i < k∧l.getD i 0=(s:Int))
  | 0=>by rw [a7x];simp [b0K]
  | k + 1 => by
    rw [a5o]
    unfold b0K
    by_cases h:l.getD k 0=(s:Int)∧s < 32
    · rw [if_pos h,Bag.with_has _ _ _ hj,Bool.or_eq_true,decide_eq_true_eq,b0w hj k]
      have h1:=h.1
      have h2:=h.2
      constructor
      · rintro (e | e | e)
        · exact .inr ⟨e,h2,.inr h1⟩
        · exact .inl e
        · exact .inr ⟨e.1,e.2.1,.inl e.2.2⟩
      · rintro (e | ⟨e,_,e2⟩)
        · exact .inr (.inl e)
        · exact .inl e
    · rw [if_neg h,b0w hj k]
      constructor
      · rintro (e | ⟨e,e2,e3⟩)
        · exact .inl e
        · exact .inr ⟨e,e2,.inl e3⟩
      · rintro (e | ⟨e,e2,e3 | e3⟩)
        · exact .inl e
        · exact .inr ⟨e,e2,e3⟩
        · exact absurd ⟨e3,e2⟩ h
theorem b5y {L:List Int} {O:Int→Bag} {s j:Nat} (hj:j < 256):∀ k,(b7S L O k s).has j=true↔∃ i,i < k∧((j:Int)=L.getD i 0∧s < 32∧(s:Int)∈(O (L.getD i 0)).list)
  | 0=>by rw [a7x];simp [b7S,Bag.zero_has]
  | k + 1 => by
    rw [a5o,←b5y hj k]
    show (b0K (O (L.getD k 0)).list (b7S L O k) (L.getD k 0) (O (L.getD k 0)).list.length s).has j=true↔_
    rw [b0w hj,b4Q (P:=fun v=>v=(s:Int))]
    simp
theorem a5l {wd:Nat} {on:List Bag} {m:Bag} {s j:Nat} (hj:j < 256) (hs:s < 32):(a1x wd on m s).has j=true↔m.has j=true∧j < wd∧(s:Int)∈(onF on j).list:=by
 unfold a1x
 rw [b5y hj,b4Q (P:=fun v=>(j:Int)=v∧s < 32∧(s:Int)∈(onI wd on v).list)]
 constructor
 ·rintro ⟨v,hv,rfl,_,h⟩
  by_cases hw:j < wd
  ·refine ⟨(m.mem_list j hj).1 hv,hw,?_⟩
   unfold onI at h
   rwa [if_pos ⟨by omega,by omega⟩,Int.toNat_natCast] at h
  ·unfold onI at h
   rw [if_neg (by omega)] at h
   rw [Bag.mem_list _ _ (by omega),Bag.zero_has] at h
   cases h
 ·rintro ⟨h1,h2,h3⟩
  refine ⟨(j:Int),(m.mem_list j hj).2 h1,rfl,hs,?_⟩
  unfold onI
  rwa [if_pos ⟨by omega,by omega⟩,Int.toNat_natCast]
theorem a7X {wd:Nat} {β:Nat→Bag} {L:List Int} {q:Nat}:∀ k,(b4R wd β L k).has q=true↔∃ j,j < k∧(beI wd β (L.getD j 0)).has q=true
  | 0=>by rw [a7x];simp [b4R,Bag.zero_has]
  | k + 1 => by
    rw [a5o,←a7X k]
    show (bun _ _).has q=true↔_
    rw [b0J,Bool.or_eq_true]
theorem b4A {wd:Nat} (hw:wd≤256) {on:List Bag} {β:Nat→Bag} {first:Bag} {S:List Bag} {a s:Nat} (hs:s < 32) (h0:S.getD 0 Bag.zero=Bag.zero) (hSa:InB 0 wd (S.getD a Bag.zero)):a3K (a2A β first S a) on wd s=(gD wd on β first S a s).list:=by
  rw [b9Y,Bag.list_eq]
  congr 1
  obtain ⟨k,hk⟩:∃ k,256=wd+k:=⟨256 - wd,by omega⟩
  have hz:∀ v:Int,v∉Bag.zero.list:=by
    intro v hv
    rw [Bag.list_eq,List.mem_map] at hv
    obtain ⟨j,hj,rfl⟩:=hv
    have:=(List.mem_filter.1 hj).2
    rw [Bag.zero_has] at this;cases this
  have key:∀ p,p < 256→((gD wd on β first S a s).has p=true↔p < wd∧a2A β first S a p=true∧(s:Int)∈(onF on p).list):=by
    intro p hp
    rw [c5w]
    cases a with
    | zero =>
      show (a1x wd on first s).has p=true↔_
      rw [a5l hp hs,h0,←first.mem_list p hp]
      constructor
      · rintro ⟨x1,x2,x3⟩;exact ⟨x2,.inl ⟨rfl,x1⟩,x3⟩
      · rintro ⟨x1,x2 | ⟨v,hv,_⟩,x3⟩
        · exact ⟨x2.2,x1,x3⟩
        · exact absurd hv (hz v)
    | succ a =>
      show (a1x wd on (b4R wd β (S.getD (a+1) Bag.zero).list (S.getD (a+1) Bag.zero).list.length) s).has p=true↔_
      rw [a5l hp hs,a7X,b4Q (P:=fun v=>(beI wd β v).has p=true)]
      constructor
      · rintro ⟨⟨v,hv,x1⟩,x2,x3⟩
        refine ⟨x2,.inr ⟨v,hv,?_⟩,x3⟩
        unfold beI at x1
        split at x1
        · exact (Bag.mem_list _ p hp).2 x1
        · rw [Bag.zero_has] at x1;cases x1
      · rintro ⟨x1,x2 | ⟨v,hv,x2⟩,x3⟩
        · exact absurd x2.1 (Nat.succ_ne_zero a)
        · refine ⟨⟨v,hv,?_⟩,x1,x3⟩
          rw [Bag.list_eq,List.mem_map] at hv
          obtain ⟨j,hj,rfl⟩:=hv
          have h1:=List.mem_filter.1 hj
          have h2:=hSa j (List.mem_range.1 h1.1) h1.2
          unfold beI
          rw [if_pos ⟨by omega,by omega⟩]
          exact (Bag.mem_list _ p hp).1 x2
  symm
  rw [hk]
  refine a9Z k (fun p hp=>?_) (fun p h1 h2=>?_)
  · rw [Bool.eq_iff_iff,key p (by omega),Bool.and_eq_true,decide_eq_true_eq]
    exact ⟨fun h=>h.2,fun h=>⟨hp,h⟩⟩
  · cases h : (gD wd on β first S a s).has p with
    | false=>rfl
    | true=>have:=(key p (by omega)).1 h;omega
theorem c7t {wd:Nat} {on:List Bag} {β:Nat→Bag} {first:Bag} {S:List Bag} {a s:Nat} (hs:s < 32):InB 0 wd (gD wd on β first S a s):=fun p hp h=>by
 cases a with
 | zero=>exact ⟨Nat.zero_le _,((a5l hp hs).1 h).2.1⟩
 | succ a=>exact ⟨Nat.zero_le _,((a5l hp hs).1 h).2.1⟩
theorem b3U {wd:Nat} {on:List Bag} {β:Nat→Bag} {first:Bag} {S:List Bag} {a s:Nat}:(gD wd on β first S a s).ok:=by
 cases a with
 | zero=>exact a5b _ _ _ _
 | succ a=>exact a5b _ _ _ _
structure SetOk (wd:Nat) (S:List Bag):Prop where
 one:0 < S.length
 fst:S.getD 0 Bag.zero=Bag.zero
 ok:∀ b∈S,b.ok
 inb:∀ b∈S,InB 0 wd b
theorem SetOk.at {wd:Nat} {S:List Bag} (h:SetOk wd S) {a:Nat} (ha:a < S.length):(S.getD a Bag.zero).ok∧InB 0 wd (S.getD a Bag.zero):=by
 rw [List.getD_eq_getElem?_getD,List.getElem?_eq_getElem ha]
 exact ⟨h.ok _ (List.getElem_mem ha),h.inb _ (List.getElem_mem ha)⟩
theorem SetOk.put {wd:Nat} {S:List Bag} (h:SetOk wd S) {b:Bag} (hb:b.ok) (hi:InB 0 wd b):SetOk wd (a3s Bag.zero S b).1:=by
  unfold a3s
  split
  · exact h
  · cases idA S b with
    | some n=>exact h
    | none =>
      have hl:=h.one
      refine ⟨by show 0 < (S++[b]).length;simp,by show (S++[b]).getD 0 Bag.zero=_;rw [b3y hl];exact h.fst,fun x hx=>?_,fun x hx=>?_⟩
      · rcases List.mem_append.1 hx with hx | hx
        · exact h.ok x hx
        · simp at hx;subst hx;exact hb
      · rcases List.mem_append.1 hx with hx | hx
        · exact h.inb x hx
        · simp at hx;subst hx;exact hi
theorem SetOk.row {wd:Nat} {S:List Bag} (h:SetOk wd S) {g:Nat→Bag} (hg:∀ k,k < 32→(g k).ok∧InB 0 wd (g k)):∀ k,k≤32→SetOk wd (a1n Bag.zero g S k).1
 | 0,_=>h
 | k+1,hk=>(h.row hg k (by omega)).put (hg k (by omega)).1 (hg k (by omega)).2
theorem SetOk.zero (wd:Nat):SetOk wd [Bag.zero]:=⟨by decide,rfl,fun b hb=>by simp at hb;subst hb;exact Bag.zero_ok,fun b hb=>by simp at hb;subst hb;exact fun p _ h=>by rw [Bag.zero_has] at h;cases h⟩
theorem c0U {S:List Bag} {b:Bag} (hb:b≠Bag.zero):a3s Bag.zero S b=if rfV S b < 0 then (S++[b],(S.length:Int)) else (S,rfV S b):=by
 unfold a3s rfV
 rw [if_neg hb]
 cases idA S b with
 | some n=>show (S,(n:Int))=if (n:Int) < 0 then _ else (S,(n:Int));rw [if_neg (by omega)]
 | none=>show (S++[b],(S.length:Int))=if (-1:Int) < 0 then (S++[b],(S.length:Int)) else _;rw [if_pos (by omega)]
theorem a5d {b:Bag} (hb:b.ok):b.list=[]↔b=Bag.zero:=by
 constructor
 ·intro h
  refine Bag.ext_has _ _ hb Bag.zero_ok fun k hk=>?_
  rw [Bag.zero_has]
  cases h1:b.has k with
  | false=>rfl
  | true=>have:=(b.mem_list k hk).2 h1;rw [h] at this;cases this
 ·rintro rfl
  rw [Bag.list_eq,List.map_eq_nil_iff,List.filter_eq_nil_iff]
  intro k _
  rw [Bag.zero_has];decide
end Go.Proofs.YtdbbbafiegpbpaaGreatDoor
namespace Go.Proofs.YtdbbbafiegpbpaaGreatDoor
set_option linter.unusedSimpArgs false
set_option linter.unusedVariables false
set_option maxRecDepth 100000
set_option maxHeartbeats 4000000
open Go.RowKit
theorem c2E {g ty fl:Nat} {f f':Nat→Nat→HV} (h0:Sb (f 0 0) (f' 0 0)) (h1:Sb (f 0 1) (f' 0 1)) (h2:Sb (f 0 2) (f' 0 2)) (hfn:fl≤1:=by exact Nat.zero_le _):a2x ⟨g,1,3,ty,fl,f⟩ ⟨g,1,3,ty,fl,f'⟩:=.of (hfn:=hfn) fun i j hi hj=>by
 obtain rfl:i=0:=by omega
 match j,hj with | 0,_=>exact h0 | 1,_=>exact h1 | 2,_=>exact h2
def d0o (p:Pc):Option (List Bag×List (List Int))→HV
 | some (S,R)=>t2 (tabD S R (accS p.empty p.ends S)) (boolV true)
 | none=>t2 (.agg 3 fun _=>.imm (.slice none 0 0)) (boolV false)
theorem c9J {sh:List (Nat×HObj)} {g2 g3 g4 n m:Nat} {S:List Bag} {R:List (List Int)} {A:List Bool} (hn:n=S.length) (hm:m=R.length) (m2:(9102,sdO g2 S)∈sh) (m3:(9103,nxO g3 R)∈sh) (m4:(9104,acO g4 A)∈sh) (hA:A.length=S.length):∀ i,i < 3→Fz sh (dtF g2 g3 g4 n m i) (tdF S R A i):=fun i hi=>by
  subst hn;subst hm
  match i,hi with
  | 0,_=>exact Fz.os 9102 g2 0 S.length (sdO g2 S) _ m2 rfl (Nat.le_of_eq (Nat.zero_add _)) (fun i j hi hj=>by rw [Nat.zero_add];show Fz sh (a0k _) (a0k _);exact Frz.fz)
  | 1,_=>exact Fz.os 9103 g3 0 R.length (nxO g3 R) _ m3 rfl (Nat.le_of_eq (Nat.zero_add _)) (fun i j hi hj=>by rw [Nat.zero_add];exact .imm _)
  | 2, _ =>
    show Fz sh (.os 9104 g4 0 S.length) (.sl 1 A.length _)
    rw [←hA]
    exact Fz.os 9104 g4 0 A.length (acO g4 A) _ m4 rfl (Nat.le_of_eq (Nat.zero_add _)) (fun i j hi hj=>by rw [Nat.zero_add];exact .imm _)
theorem c5a:Sb (.imm (.slice none 0 0)) (a0k Bag.zero.list):=by
 rw [(a5d Bag.zero_ok).2 rfl];exact Sb.nil 0 1 _ (Nat.zero_le _) _
theorem c2Q {e:Bool} {E:Bag} {S:List Bag} (hS:0 < S.length) (s:Bag):accS e E (S++[s])=accS e E S++[decide (s.mix a4X E 4≠Bag.zero)]:=by
 cases S with
 | nil=>simp at hS
 | cons x r=>simp [accS]
theorem b4m {z:Bag} {g:Nat→Bag} {S A:List Bag} {k:Nat} {x:Int} (h:a3s z (a1n z g S k).1 (g k)=(A,x)):(a1n z g S (k+1)).1=A∧(a1n z g S (k+1)).2=(a1n z g S k).2++[x]:=by
 have e:a1n z g S (k+1)=((a3s z (a1n z g S k).1 (g k)).1,(a1n z g S k).2++[(a3s z (a1n z g S k).1 (g k)).2]):=rfl
 rw [e,h];exact ⟨rfl,rfl⟩
theorem c7C {zs:List Value} (hz:zs=List.replicate 32 (Value.int .i64 0)) {j:Nat} (hj:j < 32) {x:HV} (hx:x=intV 0):Sb (.imm (zs.getD j undef)) x:=by
 subst hz;subst hx
 rw [show (List.replicate 32 (Value.int .i64 0)).getD j undef=.int .i64 0 from by rw [List.getD_eq_getElem?_getD,List.getElem?_replicate,if_pos hj];rfl];exact .refl _
theorem b4J {g s off:Nat} {r:List Int} {x:Int} (hr:r.length=s) (hs:s < 32) (ho:off=s):a2x ⟨g,1,32,50,0,upd (fun _ j=>intV (r.getD j 0)) 0 off 1 (fun j=>(intV x).cell j)⟩ ⟨g,1,32,50,0,fun _ j=>intV ((r++[x]).getD j 0)⟩:=.of fun i j hi hj=>by
 subst ho;subst hr
 obtain rfl:i=0:=by omega
 by_cases h:j=r.length
 ·subst h
  rw [a8L ⟨rfl,by omega,by omega⟩,b3B rfl];exact .refl _
 ·rw [a7A (by omega)]
  rcases Nat.lt_or_ge j r.length with h2 | h2
  ·rw [b3y h2];exact .refl _
  ·rw [b0S (l:=r) h2,b0S (l:=r++[x]) (by simp;omega)];exact .refl _
theorem c1K (wd:Nat) (on:List Bag) (β:Nat→Bag) (p:Pc) (hw:wd≤256) (hF:InB 0 wd p.first) (hβ:∀ q,InB 0 wd (β q)) (hpk:p.ok):HPure Tryz.prog 22 [ndR wd on β p] (d0o p (tabV wd on β p)):=by
 refine a8s Tryz.func22 rfl kr _ _ _ rfl 76 rfl rfl (fun w F=>?_)
 refine ru 9 ?_
 refine a0u 11 (a0b (id:=9102) (hs:=[_]) ei_24.h (nb rfl) rfl (nb rfl) ⟨rfl,rfl,rfl,rfl,trivial⟩) rfl rfl a0h rfl rfl (c':=3) rfl ?_
 refine ru 2 ?_
 refine a0u 14 (a0b (id:=9104) (hs:=[_]) ei_26.h (nb rfl) rfl (nb rfl) ⟨rfl,rfl,rfl,rfl,trivial⟩) rfl rfl a0h rfl rfl (c':=4) rfl ?_
 refine ru 1 ?_
 refine a0u 4 (a0X (id:=9101) (sz:=3) zc_28.h rfl rfl (nb rfl) (nb rfl)) rfl rfl a0h rfl rfl (c':=5) rfl ?_
 refine ru 5 ?_
 refine (a1f 9101 ⟨4,1,3,28,0,fun _ j=>match j with | 0=>.os 9102 2 0 1 | 1=>.imm (.slice none 0 0) | _=>.os 9104 3 0 1⟩ rfl (c2E (.refl _) (.refl _) (.refl _))).wp ?_;refine (a1A 9101 1 9103 32 50 (c1b []) (fun _=>dtF 2 6 3 1 0) rfl rfl (fun j hj=>by match j,hj with | 0,_=>exact .inr rfl | 1,_=>exact .inl ⟨rfl,rfl⟩ | 2,_=>exact .inr rfl) (by decide) (by decide) (c':=7) rfl).wp ?_
 refine ru 5 ?_
 refine a0m (α:=Nat×Nat×Nat×Nat×List Bag×List (List Int)) (fun x c=>⟨76,[(1,.v (.pt 1 0 0 0)),(2,.v (.pt 2 1 0 0)),(3,.v (boolV false)),(4,.v (.pt 9101 4 0 0)),(5,.v (intV (x.1:Int)))],[(9101,dtO 4 x.2.1 x.2.2.1 x.2.2.2.1 x.2.2.2.2.1.length x.2.2.2.2.2.length),(9102,sdO x.2.1 x.2.2.2.2.1),(9103,nxO x.2.2.1 x.2.2.2.2.2),(9104,acO x.2.2.2.1 (accS p.empty p.ends x.2.2.2.2.1)),(1,⟨0,1,5,65,0,fun _=>ndF (.sl 1 wd (lrF (onF on))) (.sl 1 wd (lrF β)) p 0⟩),(2,⟨1,1,3,28,0,fun _ _=>.imm (.slice none 0 0)⟩)],c⟩) (fun x=>x.1≤x.2.2.2.2.1.length∧x.2.2.2.2.2.length=x.1∧x.2.2.2.2.1.length≤200∧SetOk wd x.2.2.2.2.1∧tabV wd on β p=goA Bag.zero (gD wd on β p.first) x.1 x.2.2.2.2.1 x.2.2.2.2.2) (fun x=>201 - x.1) ((0,2,6,3,[Bag.zero],[])) (by exact ⟨by decide,rfl,by decide,SetOk.zero wd,rfl⟩) (a0c rfl (Nat.le_refl _) tsa (hsr rfl (a0e.cons rfl (.of fun i j hi hj=>by obtain rfl:i=0:=om;exact c5a) (hsr rfl (a0e.cons rfl (.of fun i j hi hj=>by obtain rfl:i=0:=om;exact .refl _) (hsr rfl (a0e.cons rfl (.of fun i j hi hj=>by match j,hj with | 0,_=>exact .refl _ | 1,_=>exact .refl _ | 2,_=>exact .refl _) a0e.nil))))))) (fun x c hx NhL1 hL1=>?_)
 revert hx hL1;obtain ⟨a,g2,g3,g4,S,R⟩:=x;intro hx hL1;dsimp only at hx hL1 ⊢
 obtain ⟨haS,hRa,hS2,hok,hT⟩:=hx
 refine ru 10 ?_
 refine wdc (fun hr0 hc0=>?_) (fun hr0 hc0=>?_)
 ·skip
  have ha:a < S.length:=om;have hSa:=hok.at ha;have hst:=b0P (z:=Bag.zero) (g:=gD wd on β p.first) (R:=R) ha hS2;let k0:=c
  refine ru 6 ?_
  refine s0 (b0b (m:=32) (hs:=[]) ar_50.h rfl rfl trivial) ?_
  refine ru 8 ?_
  refine hq_ 26 (a0D (xs:=[_,_,_]) (pre:=[(9101,_),(9102,_),(9103,_),(9104,_)]) (c7e 4 g2 g3 g4 S R (accS p.empty p.ends S) wd on β p hw hF hβ a ha om hSa.2) ⟨rfl,⟨rfl,⟨rfl,trivial⟩⟩⟩) rfl rfl (a0i rfl (a0i rfl (a0i rfl (a0i rfl a0h)))) rfl rfl ?_
  refine ru 11 ?_
  refine a0m (α:=Nat×Nat×Nat) (fun x c=>⟨76,[(1,.v (.pt 1 0 0 0)),(2,.v (.pt 2 1 0 0)),(3,.v (boolV false)),(4,.v (.pt 9101 4 0 0)),(5,.v (intV (a:Int))),(6,.v (.pt 6 k0 0 0)),(7,.v (.pt 7 (k0+2) 0 0)),(8,.v (intV x.1))],[(9101,dtO 4 x.2.1 g3 x.2.2 (a1n Bag.zero (gD wd on β p.first S a) S x.1).1.length R.length),(9102,sdO x.2.1 (a1n Bag.zero (gD wd on β p.first S a) S x.1).1),(9103,nxO g3 R),(9104,acO x.2.2 (accS p.empty p.ends (a1n Bag.zero (gD wd on β p.first S a) S x.1).1)),(1,⟨0,1,5,65,0,fun _=>ndF (.sl 1 wd (lrF (onF on))) (.sl 1 wd (lrF β)) p 0⟩),(2,⟨1,1,3,28,0,fun _ _=>.imm (.slice none 0 0)⟩),(6,⟨k0,1,32,50,0,fun _ j=>intV ((a1n Bag.zero (gD wd on β p.first S a) S x.1).2.getD j 0)⟩),(7,⟨k0+2,1,32,106,0,fun _ j=>a0k ((gD wd on β p.first S a) j).list⟩)],c⟩) (fun x=>x.1≤32) (fun x=>32 - x.1) ((0,g2,g4)) om (a0c rfl (Nat.le_refl _) tsa (hsr rfl (hsr rfl (hsr rfl (hsr rfl (hsr rfl (hsr rfl (a0e.cons rfl (.of fun i j hi hj=>c7C rfl hj rfl) (a0e.cons rfl (.of fun i j hi hj=>by show Sb (a0k (a3K (a2A β p.first S a) on wd j)) _;rw [b4A hw hj hok.fst hSa.2];exact .refl _) a0e.nil))))))))) (fun x c hx NhL2 hL2=>?_)
  revert hx hL2;obtain ⟨s,q2,q4⟩:=x;intro hx hL2;dsimp only at hx hL2 ⊢
  have hl:=a2L Bag.zero (gD wd on β p.first S a) S s;have hok1:=hok.row (g:=(gD wd on β p.first S a)) (fun k hk=>⟨b3U,c7t hk⟩) s om;have hone:=hok1.one;have hAl:=a8e p.empty p.ends (a1n Bag.zero (gD wd on β p.first S a) S s).1
  refine ru 7 ?_
  refine wdc (fun hr1 hc1=>?_) (fun hr1 hc1=>?_)
  ·skip
   have hs32:s < 32:=om
   refine ru 9 ?_
   refine rvl (a0k ((gD wd on β p.first S a) s).list) ((by show a0k ((gD wd on β p.first S a) (0+s * 1)).list=_;rw [Nat.mul_one,Nat.zero_add])) ?_
   refine ru 16 ?_
   refine wdc (fun hr2 hc2=>?_) (fun hr2 hc2=>?_)
   ·skip
    have h9:=of_decide_eq_true hr2;have hne:(gD wd on β p.first S a) s≠Bag.zero:=(fun e=>by rw [(a5d b3U).2 e] at h9;simp at h9)
    refine ru 3 ?_
    refine hq_ 38 (a0D (xs:=[_,_]) (pre:=[(9101,_),(9102,_),(9103,_),(9104,_)]) (c5n 4 q2 g3 q4 (a1n Bag.zero (gD wd on β p.first S a) S s).1 R (accS p.empty p.ends (a1n Bag.zero (gD wd on β p.first S a) S s).1) om (hok1.ok) ((gD wd on β p.first S a) s) b3U) ⟨rfl,⟨rfl,trivial⟩⟩) rfl rfl (a0i rfl (a0i rfl (a0i rfl (a0i rfl a0h)))) rfl rfl ?_
    refine ru 9 ?_
    refine wdc (fun hr3 hc3=>?_) (fun hr3 hc3=>?_)
    ·skip
     have hP:a3s Bag.zero (a1n Bag.zero (gD wd on β p.first S a) S s).1 ((gD wd on β p.first S a) s)=((a1n Bag.zero (gD wd on β p.first S a) S s).1++[(gD wd on β p.first S a) s],((a1n Bag.zero (gD wd on β p.first S a) S s).1.length:Int)):=(by rw [c0U hne,if_pos (of_decide_eq_true hr3)]);obtain ⟨A1,A2⟩:=b4m hP
     refine ru 13 ?_
     refine a0u 47 (a0b (id:=47) (hs:=[_]) ei_24.h omx rfl omx ⟨rfl,rfl,rfl,rfl,trivial⟩) rfl rfl a0h rfl rfl (c':=c+1) rfl ?_
     first
     | refine a0u 48 (a0a ei_24.h (by first | exact Nat.le_of_ble_eq_true rfl | omega | (dsimp only;omega) | (simp <;> omega)) rfl (by first | exact Nat.le_of_ble_eq_true rfl | omega | (dsimp only;omega) | (simp <;> omega)) (by first | exact Nat.le_of_ble_eq_true rfl | omega | (dsimp only;omega) | (simp <;> omega)) (a0y rfl (by first | exact Nat.le_of_ble_eq_true rfl | omega | (dsimp only;omega) | (simp <;> omega))) (by first | exact Nat.le_of_ble_eq_true rfl | omega | (dsimp only;omega) | (simp <;> omega)) rfl) rfl rfl (a0i rfl (a0T rfl)) rfl rfl (c':=c+2) rfl ?_
     | refine a0u 48 (a0a ei_24.h (by first | exact Nat.le_of_ble_eq_true rfl | omega | (dsimp only;omega) | (simp <;> omega)) rfl (by first | exact Nat.le_of_ble_eq_true rfl | omega | (dsimp only;omega) | (simp <;> omega)) (by first | exact Nat.le_of_ble_eq_true rfl | omega | (dsimp only;omega) | (simp <;> omega)) (a0R rfl (by first | exact Nat.le_of_ble_eq_true rfl | omega | (dsimp only;omega) | (simp <;> omega))) (by first | exact Nat.le_of_ble_eq_true rfl | omega | (dsimp only;omega) | (simp <;> omega)) rfl) rfl rfl (a0i rfl (a0T rfl)) rfl rfl (c':=c+2) rfl ?_
     | refine a0u 48 (a0a ei_24.h (by first | exact Nat.le_of_ble_eq_true rfl | omega | (dsimp only;omega) | (simp <;> omega)) rfl (by first | exact Nat.le_of_ble_eq_true rfl | omega | (dsimp only;omega) | (simp <;> omega)) (by first | exact Nat.le_of_ble_eq_true rfl | omega | (dsimp only;omega) | (simp <;> omega)) (a0P rfl) (by first | exact Nat.le_of_ble_eq_true rfl | omega | (dsimp only;omega) | (simp <;> omega)) rfl) rfl rfl (a0i rfl a0h) rfl rfl (c':=c+2) rfl ?_
     | refine a0u 48 (a0a ei_24.h (by first | exact Nat.le_of_ble_eq_true rfl | omega | (dsimp only;omega) | (simp <;> omega)) rfl (by first | exact Nat.le_of_ble_eq_true rfl | omega | (dsimp only;omega) | (simp <;> omega)) (by first | exact Nat.le_of_ble_eq_true rfl | omega | (dsimp only;omega) | (simp <;> omega)) (a0A 1 (fun _ _=>default) rfl) (by first | exact Nat.le_of_ble_eq_true rfl | omega | (dsimp only;omega) | (simp <;> omega)) rfl) rfl rfl (a0i rfl a0h) rfl rfl (c':=c+2) rfl ?_
     refine ru 10 ?_
     refine clx (c7n ((gD wd on β p.first S a) s).list p.ends.list (a8g _) (a8g _)) ?_
     refine ru 2 ?_
     refine a2n 58 (a0b (id:=58) (hs:=[_]) ei_26.h omx rfl omx ⟨rfl,rfl,rfl,rfl,trivial⟩) rfl rfl a0h rfl rfl (k':=9) rfl ?_
     first
     | refine a2n 59 (a0a ei_26.h (by first | exact Nat.le_of_ble_eq_true rfl | omega | (dsimp only;omega) | (simp <;> omega)) rfl (by first | exact Nat.le_of_ble_eq_true rfl | omega | (dsimp only;omega) | (simp <;> omega)) (by first | exact Nat.le_of_ble_eq_true rfl | omega | (dsimp only;omega) | (simp <;> omega)) (a0y rfl (by first | exact Nat.le_of_ble_eq_true rfl | omega | (dsimp only;omega) | (simp <;> omega))) (by first | exact Nat.le_of_ble_eq_true rfl | omega | (dsimp only;omega) | (simp <;> omega)) rfl) rfl rfl (a0i rfl (a0T rfl)) rfl rfl (k':=10) rfl ?_
     | refine a2n 59 (a0a ei_26.h (by first | exact Nat.le_of_ble_eq_true rfl | omega | (dsimp only;omega) | (simp <;> omega)) rfl (by first | exact Nat.le_of_ble_eq_true rfl | omega | (dsimp only;omega) | (simp <;> omega)) (by first | exact Nat.le_of_ble_eq_true rfl | omega | (dsimp only;omega) | (simp <;> omega)) (a0R rfl (by first | exact Nat.le_of_ble_eq_true rfl | omega | (dsimp only;omega) | (simp <;> omega))) (by first | exact Nat.le_of_ble_eq_true rfl | omega | (dsimp only;omega) | (simp <;> omega)) rfl) rfl rfl (a0i rfl (a0T rfl)) rfl rfl (k':=10) rfl ?_
     | refine a2n 59 (a0a ei_26.h (by first | exact Nat.le_of_ble_eq_true rfl | omega | (dsimp only;omega) | (simp <;> omega)) rfl (by first | exact Nat.le_of_ble_eq_true rfl | omega | (dsimp only;omega) | (simp <;> omega)) (by first | exact Nat.le_of_ble_eq_true rfl | omega | (dsimp only;omega) | (simp <;> omega)) (a0P rfl) (by first | exact Nat.le_of_ble_eq_true rfl | omega | (dsimp only;omega) | (simp <;> omega)) rfl) rfl rfl (a0i rfl a0h) rfl rfl (k':=10) rfl ?_
     | refine a2n 59 (a0a ei_26.h (by first | exact Nat.le_of_ble_eq_true rfl | omega | (dsimp only;omega) | (simp <;> omega)) rfl (by first | exact Nat.le_of_ble_eq_true rfl | omega | (dsimp only;omega) | (simp <;> omega)) (by first | exact Nat.le_of_ble_eq_true rfl | omega | (dsimp only;omega) | (simp <;> omega)) (a0A 1 (fun _ _=>default) rfl) (by first | exact Nat.le_of_ble_eq_true rfl | omega | (dsimp only;omega) | (simp <;> omega)) rfl) rfl rfl (a0i rfl a0h) rfl rfl (k':=10) rfl ?_
     refine ru 17 ?_
     exact hL2 ((s+1,c+1,c+3+9)) _ _ (by (try dsimp only);omega) (by (try dsimp only);omega) (a0c rfl (Nat.le_refl _) (tsr rfl (tsr rfl (tsr rfl (tsr rfl (tsr rfl (tsr rfl (tsr rfl (a0t.cons rfl (a0G om) a0t.nil)))))))) (a0e.cons rfl (by (try dsimp only);rw [A1];exact c2E (a3u (by simp)) (.refl _) (a3u (by simp))) (a0e.cons rfl (by (try dsimp only);rw [A1];exact a0H (enc:=fun b _=>a0k (Bag.list b)) (d:=Bag.zero) rfl (fun _ _ _ _=>.refl _) (fun _ _=>.refl _)) (hsr rfl (a0e.cons rfl (by (try dsimp only);rw [A1,c2Q hone];exact a0H (enc:=fun b _=>boolV b) (d:=false) hAl.symm (fun _ _ _ _=>.refl _) (fun j hj=>by show Sb (boolV (decide (((b1J ((gD wd on β p.first S a) s).list p.ends.list 256).length:Int) > 0))) (boolV (decide _));rw [c7z _ _ b3U hpk.2];exact .refl _)) (hsr rfl (hsr rfl (a0e.cons rfl (by (try dsimp only);rw [A2];exact b4J hl.2.2 hs32 om) hsa))))))))
    have hP:a3s Bag.zero (a1n Bag.zero (gD wd on β p.first S a) S s).1 ((gD wd on β p.first S a) s)=((a1n Bag.zero (gD wd on β p.first S a) S s).1,rfV (a1n Bag.zero (gD wd on β p.first S a) S s).1 ((gD wd on β p.first S a) s)):=(by rw [c0U hne,if_neg (of_decide_eq_false hr3)]);obtain ⟨A1,A2⟩:=b4m hP
    refine ru 15 ?_
    exact hL2 ((s+1,q2,q4)) _ _ (by (try dsimp only);omega) (by (try dsimp only);omega) (a0c rfl (Nat.le_refl _) (tsr rfl (tsr rfl (tsr rfl (tsr rfl (tsr rfl (tsr rfl (tsr rfl (a0t.cons rfl (a0G om) a0t.nil)))))))) (a0e.cons rfl (by (try dsimp only);rw [A1];exact .refl _) (a0e.cons rfl (by (try dsimp only);rw [A1];exact .refl _) (hsr rfl (a0e.cons rfl (by (try dsimp only);rw [A1];exact .refl _) (hsr rfl (hsr rfl (a0e.cons rfl (by (try dsimp only);rw [A2];exact b4J hl.2.2 hs32 om) hsa))))))))
   have h9:=of_decide_eq_false hr2;have hz:(gD wd on β p.first S a) s=Bag.zero:=(a5d b3U).1 (List.eq_nil_of_length_eq_zero om);have hP:a3s Bag.zero (a1n Bag.zero (gD wd on β p.first S a) S s).1 ((gD wd on β p.first S a) s)=((a1n Bag.zero (gD wd on β p.first S a) S s).1,-1):=(by unfold a3s;rw [if_pos hz]);obtain ⟨A1,A2⟩:=b4m hP
   refine ru 15 ?_
   exact hL2 ((s+1,q2,q4)) _ _ (by (try dsimp only);omega) (by (try dsimp only);omega) (a0c rfl (Nat.le_refl _) (tsr rfl (tsr rfl (tsr rfl (tsr rfl (tsr rfl (tsr rfl (tsr rfl (a0t.cons rfl (a0G om) a0t.nil)))))))) (a0e.cons rfl (by (try dsimp only);rw [A1];exact .refl _) (a0e.cons rfl (by (try dsimp only);rw [A1];exact .refl _) (hsr rfl (a0e.cons rfl (by (try dsimp only);rw [A1];exact .refl _) (hsr rfl (hsr rfl (a0e.cons rfl (by (try dsimp only);rw [A2];exact b4J hl.2.2 hs32 om) hsa))))))))
  obtain rfl:s=32:=om
  refine ru 2 ?_
  refine a0d ?_
  refine ru 7 ?_
  refine a0u 67 (a0b (id:=67) (hs:=[_]) ei_25.h omx rfl omx ⟨rfl,rfl,rfl,rfl,trivial⟩) rfl rfl a0h rfl rfl (c':=c+1) rfl ?_
  first
  | refine a0u 68 (a0a ei_25.h (by first | exact Nat.le_of_ble_eq_true rfl | omega | (dsimp only;omega) | (simp <;> omega)) rfl (by first | exact Nat.le_of_ble_eq_true rfl | omega | (dsimp only;omega) | (simp <;> omega)) (by first | exact Nat.le_of_ble_eq_true rfl | omega | (dsimp only;omega) | (simp <;> omega)) (a0y rfl (by first | exact Nat.le_of_ble_eq_true rfl | omega | (dsimp only;omega) | (simp <;> omega))) (by first | exact Nat.le_of_ble_eq_true rfl | omega | (dsimp only;omega) | (simp <;> omega)) rfl) rfl rfl (a0i rfl (a0T rfl)) rfl rfl (c':=c+2) rfl ?_
  | refine a0u 68 (a0a ei_25.h (by first | exact Nat.le_of_ble_eq_true rfl | omega | (dsimp only;omega) | (simp <;> omega)) rfl (by first | exact Nat.le_of_ble_eq_true rfl | omega | (dsimp only;omega) | (simp <;> omega)) (by first | exact Nat.le_of_ble_eq_true rfl | omega | (dsimp only;omega) | (simp <;> omega)) (a0R rfl (by first | exact Nat.le_of_ble_eq_true rfl | omega | (dsimp only;omega) | (simp <;> omega))) (by first | exact Nat.le_of_ble_eq_true rfl | omega | (dsimp only;omega) | (simp <;> omega)) rfl) rfl rfl (a0i rfl (a0T rfl)) rfl rfl (c':=c+2) rfl ?_
  | refine a0u 68 (a0a ei_25.h (by first | exact Nat.le_of_ble_eq_true rfl | omega | (dsimp only;omega) | (simp <;> omega)) rfl (by first | exact Nat.le_of_ble_eq_true rfl | omega | (dsimp only;omega) | (simp <;> omega)) (by first | exact Nat.le_of_ble_eq_true rfl | omega | (dsimp only;omega) | (simp <;> omega)) (a0P rfl) (by first | exact Nat.le_of_ble_eq_true rfl | omega | (dsimp only;omega) | (simp <;> omega)) rfl) rfl rfl (a0i rfl a0h) rfl rfl (c':=c+2) rfl ?_
  | refine a0u 68 (a0a ei_25.h (by first | exact Nat.le_of_ble_eq_true rfl | omega | (dsimp only;omega) | (simp <;> omega)) rfl (by first | exact Nat.le_of_ble_eq_true rfl | omega | (dsimp only;omega) | (simp <;> omega)) (by first | exact Nat.le_of_ble_eq_true rfl | omega | (dsimp only;omega) | (simp <;> omega)) (a0A 32 (fun _ _=>default) rfl) (by first | exact Nat.le_of_ble_eq_true rfl | omega | (dsimp only;omega) | (simp <;> omega)) rfl) rfl rfl (a0i rfl a0h) rfl rfl (c':=c+2) rfl ?_
  refine ru 12 ?_
  refine wdc (fun hr4 hc4=>?_) (fun hr4 hc4=>?_)
  ·skip
   have h9:=of_decide_eq_true hr4
   refine ru 10 ?_
   refine a0o ?_
   refine ru 2 ?_
   refine a5Z ?_
   refine rt2 ?_
   rw [hT,hst,if_pos om];exact a4O (.agg 3 _ _ fun i hi=>by match i,hi with | 0,_=>exact .imm _ | 1,_=>exact .imm _ | 2,_=>exact .imm _) (.imm _)
  have h9:=of_decide_eq_false hr4
  refine ru 8 ?_
  exact hL1 ((a+1,q2,c+1,q4,(a1n Bag.zero (gD wd on β p.first S a) S 32).1,R++[(a1n Bag.zero (gD wd on β p.first S a) S 32).2])) _ _ (by (try dsimp only);exact ⟨by omega,by simp [hRa],by omega,hok1,by rw [hT,hst,if_neg om]⟩) (by (try dsimp only);omega) (a0c rfl (Nat.le_refl _) (tsr rfl (tsr rfl (tsr rfl (tsr rfl (a0t.cons rfl (a0G om) a0t.nil))))) (a0e.cons rfl (c2E (.refl _) (a3u (by simp)) (.refl _)) (hsr rfl (a0e.cons rfl (a0H (enc:=fun (r:List Int) j=>intV (r.getD j 0)) (d:=[]) rfl (fun _ _ _ _=>.refl _) (fun _ _=>.refl _)) hsa))))
 have haE:a=S.length:=om
 refine ru 2 ?_
 refine a0d ?_
 refine ru 10 ?_
 refine a5Z ?_
 refine a8n rfl (a0I rfl rfl ty_28.h rqc rfl rfl) (a0g rfl) [(9102,_),(9103,_),(9104,_)] rfl (a0i rfl (a0i rfl (a0i rfl a0h))) ?_
 rw [hT,c0c om];exact a4O (.agg 3 _ _ (c9J rfl rfl (.head _) (.tail _ (.head _)) (.tail _ (.tail _ (.head _))) (a8e _ _ _))) (.imm _)
set_option maxHeartbeats 1000000
theorem c2z (s:List UInt8) (hs:s≠[]):HPure Tryz.prog 26 [strV s] (bagH (a2R [(s.length:Int),bz s 0 - 90])):=by
 have hl:0 < s.length:=List.length_pos_iff.2 hs
 have hb8:(s.getD 0 0).toNat < 256:=UInt8.toNat_lt _
 have hb9:(s[0]?.getD 0).toNat < 256:=UInt8.toNat_lt _
 refine a0l Tryz.func26 rfl kr _ _ _ rfl 11 rfl rfl (fun w F=>?_)
 refine ru 13 ?_
 refine a0u 9 (a0b (id:=9) (hs:=[_,_]) ei_49.h omx rfl omx ⟨rfl,rfl,rfl,rfl,⟨rfl,rfl,rfl,rfl,trivial⟩⟩) rfl rfl a0h rfl rfl (c':=2) rfl ?_
 refine hm_ 10 (b1m (xs:=[_]) [(9,_)] (d0d [(s.length:Int),bz s 0 - 90] (by simp)) ⟨rfl,trivial⟩ ⟨(show Fz _ _ (a0k [(s.length:Int),bz s 0 - 90]) from a2w (l:=[(s.length:Int),bz s 0 - 90]) (enc:=fun x _=>intV x) (d:=0) (List.mem_cons_self ..) rfl rfl (Nat.le_refl _) (fun i j hi hj=>by match i,hi,j,hj with | 0,_,0,_=>exact .imm _ | 1,_,0,_=>exact b4x (by show _=bz s 0 - 90;rw [a3F hl];rfl))),trivial⟩ rfl) rfl rfl (a0i rfl a0h) rfl rfl (c':=3) rfl ?_
 refine ru 4 ?_
 refine rt1 ?_
 exact a2k (by exact j4 rfl rfl rfl rfl)
def c9f:List UInt8:=[97,42,32,98]
def c6Q:List Sg:=[⟨1,0,0,0,[97]⟩,⟨5,1,0,-1,[]⟩,⟨1,3,0,0,[98]⟩]
def b2j:T:=.many 2 [.times 0 (-1) (.name [97]),.name [98]]
theorem b8X:(match lexV c9f with | .ok l=>decide (l=c6Q) | .error _=>false)=true:=by decide +kernel
theorem a6D:lexV c9f=.ok c6Q:=by
 have:=b8X
 split at this
 ·rename_i l hl;rw [hl,of_decide_eq_true this]
 ·cases this
theorem c0M:b2j.ok=true:=by decide +kernel
theorem b6a:Seg c6Q 3 0 c6Q.length b2j:=by
 refine .choice1 _ _ _ (.row 0 3 [.times 0 (-1) (.name [97]),.name [98]] (fun i=>match i with | 0=>0 | 1=>2 | _=>3) (by decide) rfl rfl (fun i hi=>?_))
 match i,hi with
 | 0,_=>exact .times 0 1 (.name [97]) (.name 0 (by decide)) (by decide)
 | 1,_=>exact .item 2 3 (.name [98]) (.name 2 (by decide)) (by decide)
theorem b8q {r:List Pt×Int×Int} (h:ParseIs c9f r):r=(T.flat 0 b2j,0,0):=by
 have hne:c6Q≠[]:=by decide
 have hc:chk c6Q 0 0 true true=(-1,false):=b0Q b6a
 cases h with
 | err e hv=>rw [a6D] at hv;cases hv
 | none hv=>rw [a6D] at hv;injection hv with hv;exact absurd hv hne
 | odd l q hv _ _ hq=>rw [a6D] at hv;injection hv with hv;subst hv;rw [hc] at hq;injection hq with hq _;exact absurd hq (by omega)
 | end_ l hv _ hq=>rw [a6D] at hv;injection hv with hv;subst hv;rw [hc] at hq;injection hq with _ hq;cases hq
 | ok l t hv hs=>rw [a6D] at hv;injection hv with hv;subst hv;rw [b9Z hs b6a]
def c1o (s:List UInt8):Bag:=a2R [(s.length:Int),bz s 0 - 90]
theorem c5h:MeanOk 26 0 (fun _=>default) [] c1o :=
 ⟨rfl,fun i hi=>absurd hi (Nat.not_lt_zero _),trivial,fun sh=>.fn _ _ _ _ (fun i hi=>absurd hi (Nat.not_lt_zero _)),fun s hs=>c2z s (c2o hs),fun s=>(a1Q _).1⟩
theorem c2p:noneV c1o (T.flat 0 b2j)=false:=by decide +kernel
theorem c6F:b2j.w=2:=by decide +kernel
@[reducible] def d0b:Option (List Bag×List (List Int)):=tabV (0+b2j.w) (lay c1o b2j 0).on (links (fun _=>Bag.zero) (lay c1o b2j 0).lk) (lay c1o b2j 0).pc
theorem c1x:(match d0b with | some (S,R)=>decide (2 < R.length)&&decide (0 < nxT R 0 7) | none=>false)=true:=by decide +kernel
theorem c5V:∃ S R,d0b=some (S,R)∧2 < R.length∧0 < nxT R 0 7:=by
 have:=c1x
 split at this
 ·rename_i S R h;rw [Bool.and_eq_true,decide_eq_true_eq,decide_eq_true_eq] at this;exact ⟨S,R,h,this.1,this.2⟩
 ·cases this
theorem d0y:HPure Tryz.prog 10 [treeNet c1o b2j] (c9F (lay c1o b2j 0).pc d0b):=by
 have hm:∀ s,(c1o s).ok:=fun s=>(a1Q _).1
 have hly:=a3N hm b2j 0 (by rw [c6F];decide)
 refine b1X (0+b2j.w) (by rw [c6F];decide) _ (fun i=>?_) _ (a1j hly.lk (fun _=>Bag.zero_ok)) _ hly.pc
 show ((lay c1o b2j 0).on.getD i Bag.zero).ok
 by_cases hi:i < (lay c1o b2j 0).on.length
 ·rw [List.getD_eq_getElem?_getD,List.getElem?_eq_getElem hi];exact hly.on _ (List.getElem_mem hi)
 ·rw [List.getD_eq_getElem?_getD,List.getElem?_eq_none (by omega)];exact Bag.zero_ok
theorem b0t:HPure Tryz.prog 7 [] (boolV true):=by
 have hw:=c6F
 have hB:=b5I c0M (by decide +kernel)
 have hn:=d0y
 obtain ⟨S,R,e8,h2,h7⟩:=c5V
 rw [e8] at hn
 refine a0l Tryz.func7 rfl kr _ _ _ rfl 44 rfl rfl (fun w F=>?_)
 refine ru 7 ?_
 refine a0q 11 (xs:=[_]) (pre:=[]) (b3O _ c9f (by decide)) ⟨rfl,trivial⟩ a0h rfl rfl (fun r c1 hr=>?_)
 (try dsimp only)
 refine ru 10 ?_
 obtain rfl:=b8q hr
 refine ru 2 ?_
 refine cll (c6n c5h (T.flat 0 b2j) hB _ (.fine b2j c0M rfl c2p (by rw [hw];decide))) ?_
 refine ru 10 ?_
 refine cll (hn) ?_
 refine ru 10 ?_
 refine cll (c4f R _ 0 7) ?_
 refine ru 13 ?_
 first
 | refine stg 32 (fun hb=>a0f (xs:=[_]) (b1n R _) ⟨rfl,trivial⟩ ⟨(Fz.eq rfl),trivial⟩) rfl rfl rfl rfl rfl ?_
 | refine sth 32 (fun hb=>a0f (xs:=[_]) (b1n R _) ⟨rfl,trivial⟩ ⟨(Fz.eq rfl),trivial⟩) rfl rfl rfl rfl rfl ?_
 refine ru 13 ?_
 refine rt1 ?_
 exact a3f (by rw [if_neg om,bne_iff_ne.2 (show nxT R 0 7≠-1 by omega),decide_eq_true (show (R.length:Int) > 2 by omega),decide_eq_true (show nxT R 0 7 > 0 by omega)];rfl)
@[reducible] def c8w:HV:=.agg 3 fun _=>.imm (.slice none 0 0)
@[reducible] def TabP (s:List UInt8) (l:List Mn) (y:HV):Prop:=HPure Tryz.prog 6 [strV s,mnsV l] y
structure TabOk (s:List UInt8) (l:List Mn) (wd:Nat) (on:List Bag) (β:Nat→Bag) (p:Pc) (e:List Pt) (S:List Bag) (R:List (List Int)):Prop where
 net:NetOk s l wd on β p e
 is:tabV wd on β p=some (S,R)
 tab:TabP s l (t4 (tabP R (accS p.empty p.ends S)) (tabD S R (accS p.empty p.ends S)) (intV 0) (boolV true))
section
variable {s:List UInt8} {l:List Mn} {wd:Nat} {on:List Bag} {β:Nat→Bag} {p:Pc} {e:List Pt}
theorem NetOk.new (V:NetOk s l wd on β p e):HPure Tryz.prog 10 [netP wd on β p] (c9F p (tabV wd on β p)):=b1X wd (by have:=V.w60;omega) on V.onk β V.bek p V.pck
theorem NetOk.ref (V:NetOk s l wd on β p e):HPure Tryz.prog 22 [ndR wd on β p] (d0o p (tabV wd on β p)):=c1K wd on β p (by have:=V.w60;omega) V.inF V.inβ V.pck
theorem NetOk.many (V:NetOk s l wd on β p e):∃ k:Int,0 < e.length→HPure Tryz.prog 21 [ptsV e,intV ((e.length:Int) - 1)] (intV k):=by
 rcases V.is with ⟨rfl,_⟩ | ⟨t,hok,rfl,_⟩
 ·exact ⟨0,fun h=>absurd h (Nat.lt_irrefl _)⟩
 ·refine ⟨a3L t.w,fun h=>?_⟩
  have:=a8S (T.flat 0 t) V.ptb.1 t 0 hok ⟨[],[],by simp,rfl⟩
  have hsz:(T.flat 0 t).length=t.size:=T.flat_len 0 t
  have hps:=t.size_pos
  have e:((T.flat 0 t).length:Int) - 1=((0+t.size - 1:Nat):Int):=by omega
  rw [e];exact this
end
theorem b5r {sh:List (Nat×HObj)} (S:List Bag) (R:List (List Int)) (A:List Bool) (i:Nat):Fz sh (tdF S R A i) (tdF S R A i):=by
 unfold tdF
 split
 ·exact .sl _ _ _ _ fun _ _ _ _=>.sl _ _ _ _ fun _ _ _ _=>.imm _
 ·exact .sl _ _ _ _ fun _ _ _ _=>.imm _
 ·exact .sl _ _ _ _ fun _ _ _ _=>.imm _
theorem c4t {sh:List (Nat×HObj)} (S:List Bag) (R:List (List Int)) (A:List Bool):Fz sh (tabD S R A) (tabD S R A):=.agg 3 _ _ fun i _=>b5r S R A i
def d0E (p:Pc):Option (List Bag×List (List Int))→HV
 | some (S,R)=>t4 (tabP R (accS p.empty p.ends S)) (tabD S R (accS p.empty p.ends S)) (intV 0) (boolV true)
 | none=>t4 b7V c8w (intV 7) (boolV false)
theorem c0j (s:List UInt8) (l:List Mn) (y:HV) (z:Int) (b:Bool) (hx:NetP s l (t4 b7V y (intV z) (boolV b))) (hy:∀ sh,Fz sh y y) (n:Nat) (f:Nat→Nat→HV) (hyf:y=.sl 5 n f∨y=a1g) (hb:b=false∨z≠0):TabP s l (t4 b7V c8w (intV z) (boolV false)):=by
 refine a0l Tryz.func6 rfl kr _ _ _ rfl 71 rfl rfl (fun w F=>?_)
 refine ru 12 ?_
 refine cll (hx) ?_
 refine ru 13 ?_
 rcases hyf with rfl | rfl
 ·refine ru 13 ?_
  first
  | refine stg 34 (fun hb=>a2G (T:=56) rfl (a0L el_56.h).1 rfl) rfl rfl rfl rfl rfl ?_
  | refine sth 34 (fun hb=>a2G (T:=56) rfl (a0L el_56.h).1 rfl) rfl rfl rfl rfl rfl ?_
  | refine stg 34 (fun hb=>a3r (T:=56) rfl (a0L el_56.h).1 rfl) rfl rfl rfl rfl rfl ?_
  | refine sth 34 (fun hb=>a3r (T:=56) rfl (a0L el_56.h).1 rfl) rfl rfl rfl rfl rfl ?_
  | refine stg 34 (fun hb=>a2F (T:=56) rfl (a0L el_56.h).1 rfl) rfl rfl rfl rfl rfl ?_
  | refine sth 34 (fun hb=>a2F (T:=56) rfl (a0L el_56.h).1 rfl) rfl rfl rfl rfl rfl ?_
  refine ru 4 ?_
  first
  | refine stg 38 (fun hb=>a2G (T:=56) rfl (a0L el_56.h).1 rfl) rfl rfl rfl rfl rfl ?_
  | refine a4E 41 14 38 34 false true _ _ (fun hb hb2=>a2G (T:=56) rfl (a0L el_56.h).1 rfl) rfl rfl rfl rfl rfl a0h rfl rfl rfl ?_
  | refine sth 38 (fun hb=>a2G (T:=56) rfl (a0L el_56.h).1 rfl) rfl rfl rfl rfl rfl ?_
  | refine stg 38 (fun hb=>a3r (T:=56) rfl (a0L el_56.h).1 rfl) rfl rfl rfl rfl rfl ?_
  | refine a4E 41 14 38 34 false true _ _ (fun hb hb2=>a3r (T:=56) rfl (a0L el_56.h).1 rfl) rfl rfl rfl rfl rfl a0h rfl rfl rfl ?_
  | refine sth 38 (fun hb=>a3r (T:=56) rfl (a0L el_56.h).1 rfl) rfl rfl rfl rfl rfl ?_
  | refine stg 38 (fun hb=>a2F (T:=56) rfl (a0L el_56.h).1 rfl) rfl rfl rfl rfl rfl ?_
  | refine a4E 41 14 38 34 false true _ _ (fun hb hb2=>a2F (T:=56) rfl (a0L el_56.h).1 rfl) rfl rfl rfl rfl rfl a0h rfl rfl rfl ?_
  | refine sth 38 (fun hb=>a2F (T:=56) rfl (a0L el_56.h).1 rfl) rfl rfl rfl rfl rfl ?_
  first
  | refine stg 38 (fun hb=>a4A rfl rfl rfl (by first | exact Nat.le_of_ble_eq_true rfl | (simp at hb;first | omega | (dsimp only;omega) | (simp <;> omega)) | omega | (dsimp only;omega)) (by first | exact Nat.le_of_ble_eq_true rfl | (simp at hb;first | omega | (dsimp only;omega) | (simp <;> omega)) | omega | (dsimp only;omega))) rfl rfl rfl rfl rfl ?_
  | refine a4E 42 14 38 34 false true _ _ (fun hb hb2=>a4A rfl rfl rfl (by first | exact Nat.le_of_ble_eq_true rfl | (simp at hb;omega) | (simp at hb2;omega) | (simp at hb hb2;first | omega | (dsimp only;omega) | (simp <;> omega)) | omega | (dsimp only;omega)) (by first | exact Nat.le_of_ble_eq_true rfl | (simp at hb;omega) | (simp at hb2;omega) | (simp at hb hb2;first | omega | (dsimp only;omega) | (simp <;> omega)) | omega | (dsimp only;omega))) rfl rfl rfl rfl rfl a0h rfl rfl rfl ?_
  | refine sth 38 (fun hb=>a4A rfl rfl rfl (by first | exact Nat.le_of_ble_eq_true rfl | (simp at hb;first | omega | (dsimp only;omega) | (simp <;> omega)) | omega | (dsimp only;omega)) (by first | exact Nat.le_of_ble_eq_true rfl | (simp at hb;first | omega | (dsimp only;omega) | (simp <;> omega)) | omega | (dsimp only;omega))) rfl rfl rfl rfl rfl ?_
  | refine stg 38 (fun hb=>a5i rfl rfl) rfl rfl rfl rfl rfl ?_
  | refine a4E 42 14 38 34 false true _ _ (fun hb hb2=>a5i rfl rfl) rfl rfl rfl rfl rfl a0h rfl rfl rfl ?_
  | refine sth 38 (fun hb=>a5i rfl rfl) rfl rfl rfl rfl rfl ?_
  refine a4E 43 14 38 34 false true _ _ (v:=intV 0) (fun h1 h2=>absurd h2 (by rcases hb with h | h <;> simp [h])) rfl rfl rfl rfl rfl a0h rfl rfl rfl ?_
  refine ru 5 ?_
  refine wdc (fun hr0 hc0=>?_) (fun hr0 hc0=>?_)
  ·refine ru 12 ?_
   refine a3Y rfl (a0g rfl) (a0I rfl rfl ty_28.h rqc rfl rfl) (a0g rfl) (a0g rfl) [] rfl a0h ?_
   exact a9G (.imm _) (.agg 3 _ _ fun i hi=>by match i,hi with | 0,_=>exact .imm _ | 1,_=>exact .imm _ | 2,_=>exact .imm _) (.imm _) (.imm _)
  exfalso;rcases hb with h | h <;> simp [h] at hr0
 ·refine ru 20 ?_
  refine a4E 43 14 38 34 false true _ _ (v:=intV 0) (fun h1 h2=>absurd h2 (by rcases hb with h | h <;> simp [h])) rfl rfl rfl rfl rfl a0h rfl rfl rfl ?_
  refine ru 5 ?_
  refine wdc (fun hr0 hc0=>?_) (fun hr0 hc0=>?_)
  ·refine ru 12 ?_
   refine a3Y rfl (a0g rfl) (a0I rfl rfl ty_28.h rqc rfl rfl) (a0g rfl) (a0g rfl) [] rfl a0h ?_
   exact a9G (.imm _) (.agg 3 _ _ fun i hi=>by match i,hi with | 0,_=>exact .imm _ | 1,_=>exact .imm _ | 2,_=>exact .imm _) (.imm _) (.imm _)
  exfalso;rcases hb with h | h <;> simp [h] at hr0
section
variable {s:List UInt8} {l:List Mn} {wd:Nat} {on:List Bag} {β:Nat→Bag} {p:Pc} {e:List Pt}
theorem NetOk.tab (V:NetOk s l wd on β p e):∃ k:Int,TabP s l (if 0 < e.length∧25 < k then t4 b7V c8w (intV 0) (boolV false) else d0E p (tabV wd on β p)):=by
 have hnew:=V.new
 have href:=V.ref
 obtain ⟨k,hM⟩:=V.many
 have hel:=V.eln
 refine ⟨k,?_⟩
 generalize tabV wd on β p=o at hnew href ⊢
 refine a0l Tryz.func6 rfl kr _ _ _ rfl 71 rfl rfl (fun w F=>?_)
 refine ru 12 ?_
 refine cll (V.net) ?_
 refine ru 32 ?_
 first
 | refine stg 38 (fun hb=>a4A rfl rfl rfl (by first | exact Nat.le_of_ble_eq_true rfl | (simp at hb;first | omega | (dsimp only;omega) | (simp <;> omega)) | omega | (dsimp only;omega)) (by first | exact Nat.le_of_ble_eq_true rfl | (simp at hb;first | omega | (dsimp only;omega) | (simp <;> omega)) | omega | (dsimp only;omega))) rfl rfl rfl rfl rfl ?_
 | refine a4E 42 14 38 34 false true _ _ (fun hb hb2=>a4A rfl rfl rfl (by first | exact Nat.le_of_ble_eq_true rfl | (simp at hb;omega) | (simp at hb2;omega) | (simp at hb hb2;first | omega | (dsimp only;omega) | (simp <;> omega)) | omega | (dsimp only;omega)) (by first | exact Nat.le_of_ble_eq_true rfl | (simp at hb;omega) | (simp at hb2;omega) | (simp at hb hb2;first | omega | (dsimp only;omega) | (simp <;> omega)) | omega | (dsimp only;omega))) rfl rfl rfl rfl rfl a0h rfl rfl rfl ?_
 | refine sth 38 (fun hb=>a4A rfl rfl rfl (by first | exact Nat.le_of_ble_eq_true rfl | (simp at hb;first | omega | (dsimp only;omega) | (simp <;> omega)) | omega | (dsimp only;omega)) (by first | exact Nat.le_of_ble_eq_true rfl | (simp at hb;first | omega | (dsimp only;omega) | (simp <;> omega)) | omega | (dsimp only;omega))) rfl rfl rfl rfl rfl ?_
 | refine stg 38 (fun hb=>a5i rfl rfl) rfl rfl rfl rfl rfl ?_
 | refine a4E 42 14 38 34 false true _ _ (fun hb hb2=>a5i rfl rfl) rfl rfl rfl rfl rfl a0h rfl rfl rfl ?_
 | refine sth 38 (fun hb=>a5i rfl rfl) rfl rfl rfl rfl rfl ?_
 first
 | refine stg 38 (fun hb=>a0f (xs:=[_,_]) (hM (by simp at hb;omega)) ⟨rfl,⟨rfl,trivial⟩⟩ ⟨(Fz.eq rfl),⟨(Fz.eq rfl),trivial⟩⟩) rfl rfl rfl rfl rfl ?_
 | refine a4E 43 14 38 34 false true _ _ (fun hb hb2=>a0f (xs:=[_,_]) (hM (by simp at hb;omega)) ⟨rfl,⟨rfl,trivial⟩⟩ ⟨(Fz.eq rfl),⟨(Fz.eq rfl),trivial⟩⟩) rfl rfl rfl rfl rfl a0h rfl rfl rfl ?_
 | refine sth 38 (fun hb=>a0f (xs:=[_,_]) (hM (by simp at hb;omega)) ⟨rfl,⟨rfl,trivial⟩⟩ ⟨(Fz.eq rfl),⟨(Fz.eq rfl),trivial⟩⟩) rfl rfl rfl rfl rfl ?_
 refine ru 5 ?_
 refine wdc (fun hr0 hc0=>?_) (fun hr0 hc0=>?_)
 ·refine ru 12 ?_
  refine a3Y rfl (a0g rfl) (a0I rfl rfl ty_28.h rqc rfl rfl) (a0g rfl) (a0g rfl) [] rfl a0h ?_
  rw [if_pos (by simp at hr0;omega)];exact a9G (.imm _) (.agg 3 _ _ fun i hi=>by match i,hi with | 0,_=>exact .imm _ | 1,_=>exact .imm _ | 2,_=>exact .imm _) (.imm _) (.imm _)
 rw [if_neg (by simp at hr0;omega)]
 refine ru 3 ?_
 rcases o with _ | ⟨S,R⟩
 ·refine ru 2 ?_
  refine s0 (HOp.val (v':=t2 b7V (intV 7)) (a0f (xs:=[_]) (hnew) ⟨rfl,trivial⟩ ⟨(Fz.eq rfl),trivial⟩) (rfl)) ?_
  refine ru 11 ?_
  refine cll (V.doc) ?_
  refine s0 (HOp.val (v':=t2 c8w (boolV false)) (a0f (xs:=[_]) (href) ⟨rfl,trivial⟩ ⟨(Fz.eq rfl),trivial⟩) (rfl)) ?_
  refine ru 15 ?_
  refine wdc (fun hr1 hc1=>?_) (fun hr1 hc1=>?_)
  ·refine ru 15 ?_
   refine a3Y rfl (a0g rfl) (a0I rfl rfl ty_28.h rqc rfl rfl) (a0g rfl) (a0g rfl) [] rfl a0h ?_
   exact a9G (.imm _) (.agg 3 _ _ fun i hi=>by match i,hi with | 0,_=>exact .imm _ | 1,_=>exact .imm _ | 2,_=>exact .imm _) (.imm _) (a3f (by decide))
  exfalso;simp at hr1
 ·refine ru 2 ?_
  refine s0 (HOp.val (v':=t2 (tabP R (accS p.empty p.ends S)) (intV 0)) (a0f (xs:=[_]) (hnew) ⟨rfl,trivial⟩ ⟨(Fz.eq rfl),trivial⟩) (rfl)) ?_
  refine ru 11 ?_
  refine cll (V.doc) ?_
  refine s0 (HOp.val (v':=t2 (tabD S R (accS p.empty p.ends S)) (boolV true)) (a0f (xs:=[_]) (href) ⟨rfl,trivial⟩ ⟨(Fz.eq rfl),trivial⟩) (rfl)) ?_
  refine ru 15 ?_
  refine wdc (fun hr1 hc1=>?_) (fun hr1 hc1=>?_)
  ·skip
   exfalso;simp at hr1
  refine ru 14 ?_
  refine a3Y rfl (a0g rfl) (a0I rfl rfl ty_28.h rqc rfl rfl) (a0g rfl) (a0g rfl) [] rfl a0h ?_
  exact a9G (show Fz _ (tabP R (accS p.empty p.ends S)) (tabP R (accS p.empty p.ends S)) from Frz.fz) (.agg 3 _ _ fun i hi=>by match i,hi with | 0,_=>exact b5r _ _ _ 0 | 1,_=>exact b5r _ _ _ 1 | 2,_=>exact b5r _ _ _ 2) (.imm _) (.imm _)
end
theorem b8n (s:List UInt8) (l:List Mn) (hs:s.length≤9223372036854775807):(∃ z:Int,TabP s l (t4 b7V c8w (intV z) (boolV false)))∨∃ wd on β p e S R,TabOk s l wd on β p e S R:=by
 rcases b9X s l hs with ⟨x,hx⟩ | ⟨e,hx,hne,hel,hmb⟩ | ⟨wd,on,β,p,e,V⟩
 ·exact .inl ⟨x,c0j s l _ x false hx (fun sh=>.imm _) 0 (fun _ _=>default) (.inr rfl) (.inl rfl)⟩
 ·exact .inl ⟨6,c0j s l _ 6 true hx (fun sh=>Frz.fz) _ _ (.inl rfl) (.inr (by decide))⟩
 ·obtain ⟨k,hk⟩:=V.tab
  by_cases h:0 < e.length∧25 < k
  ·rw [if_pos h] at hk;exact .inl ⟨0,hk⟩
  ·rw [if_neg h] at hk
   rcases ht:tabV wd on β p with _ | ⟨S,R⟩
   ·rw [ht] at hk;exact .inl ⟨7,hk⟩
   ·rw [ht] at hk;exact .inr ⟨wd,on,β,p,e,S,R,V,ht,hk⟩
def c5k (n:Nat) (r:List Int):Prop:=r.length=32∧∀ x∈r,-1≤x∧x < (n:Int)∧x≠0
theorem c5Q (z:Bag) (g:List Bag→Nat→Nat→Bag) {S':List Bag} {R':List (List Int)} (n:Nat):∀ (at_:Nat) (S:List Bag) (R:List (List Int)),R.length=at_→at_≤S.length→1≤S.length→S.length≤200→200≤n+at_→(∀ r∈R,c5k S.length r)→c0k z g n at_ S R=some (S',R')→R'.length=S'.length∧1≤S'.length∧S'.length≤200∧∀ r∈R',c5k S'.length r:=by
  induction n with
  | zero =>
    intro at_ S R h1 h2 h3 h4 h5 h6 h
    injection h with h;injection h with ha hb;subst ha;subst hb
    exact ⟨by omega,h3,h4,h6⟩
  | succ n ih =>
    intro at_ S R h1 h2 h3 h4 h5 h6 h
    have e:c0k z g (n+1) at_ S R=if at_ < S.length then (if 200 < (a1n z (g S at_) S 32).1.length then none else c0k z g n (at_+1) (a1n z (g S at_) S 32).1 (R++[(a1n z (g S at_) S 32).2])) else some (S,R):=rfl
    have hl:=a2L z (g S at_) S 32
    have ht:=c1k z (g S at_) S h3 32
    rw [e] at h
    clear e
    generalize a1n z (g S at_) S 32=w at h hl ht
    obtain ⟨A,r⟩:=w
    dsimp only at h hl ht
    by_cases hlt:at_ < S.length
    · rw [if_pos hlt] at h
      by_cases hle:200 < A.length
      · rw [if_pos hle] at h;cases h
      · rw [if_neg hle] at h
        refine ih (at_+1) A _ (by simp [h1]) (by omega) (by omega) (by omega) (by omega) (fun q hq=>?_) h
        rcases List.mem_append.1 hq with hq | hq
        · exact ⟨(h6 q hq).1,fun x hx=>by have:=(h6 q hq).2 x hx;omega⟩
        · simp at hq;subst hq;exact ⟨hl.2.2,ht⟩
    · rw [if_neg hlt] at h
      injection h with h;injection h with ha hb;subst ha;subst hb
      exact ⟨by omega,h3,h4,h6⟩
theorem b4G {wd:Nat} {on:List Bag} {β:Nat→Bag} {p:Pc} {S:List Bag} {R:List (List Int)} (h:tabV wd on β p=some (S,R)):R.length=S.length∧1≤S.length∧S.length≤200∧∀ r∈R,c5k S.length r :=
 c5Q _ _ 200 0 [Bag.zero] [] rfl (Nat.zero_le _) (Nat.le_refl _) (by show 1≤200;omega) (Nat.le_refl _) (fun r hr=>by cases hr) h
theorem b2D {wd:Nat} {on:List Bag} {β:Nat→Bag} {p:Pc} {S:List Bag} {R:List (List Int)} (h:tabV wd on β p=some (S,R)):b7o R:=fun i hi s hs=>by
 obtain ⟨h1,h2,h3,h4⟩:=b4G h
 have e:R.getD i []=R[i]:=by rw [List.getD_eq_getElem?_getD,List.getElem?_eq_getElem hi];rfl
 have h5:=h4 _ (List.getElem_mem hi)
 have hs2:s < R[i].length:=by rw [h5.1];exact hs
 have e2:R[i].getD s 0=R[i][s]:=by rw [List.getD_eq_getElem?_getD,List.getElem?_eq_getElem hs2];rfl
 rw [e,e2]
 have:=h5.2 _ (List.getElem_mem hs2)
 rw [h1]
 exact ⟨this.1,this.2.1⟩
theorem c8f {R:List (List Int)} {i k:Nat} (hi:i < R.length) (hk:k < 32):nxT R i k=(R.getD i []).getD k 0:=by
 unfold nxT
 rw [if_pos ⟨⟨by omega,by omega⟩,by omega,by omega⟩,Int.toNat_natCast,Int.toNat_natCast]
end Go.Proofs.YtdbbbafiegpbpaaGreatDoor
namespace Go.Proofs.YtdbbbafiegpbpaaGreatDoor
set_option linter.unusedSimpArgs false
set_option linter.unusedVariables false
@[reducible] def d0c (S S':List Bag):Prop:=∀ (i:Nat) (x:Bag),S[i]?=some x→S'[i]?=some x
def a9w (S:List Bag) (x:Int) (b:Bag):Prop:=(b=Bag.zero∧x=-1)∨∃ j:Nat,1≤j∧x=(j:Int)∧S[j]?=some b
theorem a9w.mono {S S':List Bag} {x:Int} {b:Bag} (h:a9w S x b) (e:d0c S S'):a9w S' x b:=by
 rcases h with h | ⟨j,h1,h2,h3⟩
 ·exact .inl h
 ·exact .inr ⟨j,h1,h2,e _ _ h3⟩
theorem b9d {S:List Bag} (hS:1≤S.length) (b:Bag):a9w (a3s Bag.zero S b).1 (a3s Bag.zero S b).2 b:=by
  unfold a3s
  split
  · rename_i h;exact .inl ⟨h,rfl⟩
  · cases h : idA S b with
    | some n=>obtain ⟨h1,h2,h3⟩:=c3y h;exact .inr ⟨n,h1,rfl,h3⟩
    | none=>exact .inr ⟨S.length,hS,rfl,by show (S++[b])[S.length]?=_;rw [List.getElem?_append_right (Nat.le_refl _),Nat.sub_self];rfl⟩
theorem b6s (g:Nat→Bag) (S:List Bag):∀ k,d0c S (a1n Bag.zero g S k).1
 | 0=>fun _ _ h=>h
 | k+1=>fun i x h=>b5z _ _ _ i x (b6s g S k i x h)
theorem b2G {g:Nat→Bag} {S:List Bag} (hS:1≤S.length):∀ k i,i < k→a9w (a1n Bag.zero g S k).1 ((a1n Bag.zero g S k).2.getD i 0) (g i)
  | 0,i,h=>absurd h (Nat.not_lt_zero _)
  | k + 1, i, h => by
    have hl:=a2L Bag.zero g S k
    show a9w (a3s Bag.zero (a1n Bag.zero g S k).1 (g k)).1 (((a1n Bag.zero g S k).2++[(a3s Bag.zero (a1n Bag.zero g S k).1 (g k)).2]).getD i 0) (g i)
    rcases Nat.lt_succ_iff_lt_or_eq.1 h with h1 | rfl
    · rw [b3y (by omega)]
      exact (b2G hS k i h1).mono (fun j x hx=>b5z _ _ _ j x hx)
    · rw [b3B hl.2.2.symm]
      exact b9d (by omega) _
theorem c8A {wd:Nat} {on:List Bag} {β:Nat→Bag} {first:Bag} {S S':List Bag} (e:d0c S S') {i:Nat} (hi:i < S.length):gD wd on β first S' i=gD wd on β first S i:=by
  cases i with
  | zero=>rfl
  | succ k =>
    have h1:S[k+1]?=some S[k+1]:=List.getElem?_eq_getElem hi
    have:S'.getD (k+1) Bag.zero=S.getD (k+1) Bag.zero:=by
      rw [List.getD_eq_getElem?_getD,List.getD_eq_getElem?_getD,e _ _ h1,h1]
    show a1x wd on (b4R wd β (S'.getD (k+1) Bag.zero).list (S'.getD (k+1) Bag.zero).list.length)=a1x wd on (b4R wd β (S.getD (k+1) Bag.zero).list (S.getD (k+1) Bag.zero).list.length)
    rw [this]
theorem b8d {wd:Nat} {on:List Bag} {β:Nat→Bag} {first:Bag} {S':List Bag} {R':List (List Int)} (n:Nat):∀ (at_:Nat) (S:List Bag) (R:List (List Int)),R.length=at_→at_≤S.length→SetOk wd S→(∀ i,i < at_→∀ k,k < 32→a9w S ((R.getD i []).getD k 0) (gD wd on β first S i k))→c0k Bag.zero (gD wd on β first) n at_ S R=some (S',R')→SetOk wd S'∧∀ i,i < R'.length→∀ k,k < 32→a9w S' ((R'.getD i []).getD k 0) (gD wd on β first S' i k):=by
  induction n with
  | zero =>
    intro at_ S R h1 h2 h3 h6 h
    injection h with h;injection h with ha hb;subst ha;subst hb
    exact ⟨h3,fun i hi=>h6 i (by omega)⟩
  | succ n ih =>
    intro at_ S R h1 h2 h3 h6 h
    have e:c0k Bag.zero (gD wd on β first) (n+1) at_ S R=if at_ < S.length then (if 200 < (a1n Bag.zero (gD wd on β first S at_) S 32).1.length then none else c0k Bag.zero (gD wd on β first) n (at_+1) (a1n Bag.zero (gD wd on β first S at_) S 32).1 (R++[(a1n Bag.zero (gD wd on β first S at_) S 32).2])) else some (S,R):=rfl
    have hl:=a2L Bag.zero (gD wd on β first S at_) S 32
    have hx:=b6s (gD wd on β first S at_) S 32
    have hg:=b2G (g:=gD wd on β first S at_) h3.one 32
    have hso:=h3.row (g:=gD wd on β first S at_) (fun k hk=>⟨b3U,c7t hk⟩) 32 (Nat.le_refl _)
    rw [e] at h
    clear e
    generalize a1n Bag.zero (gD wd on β first S at_) S 32=w at h hl hx hg hso
    obtain ⟨A,r⟩:=w
    dsimp only at h hl hx hg hso
    by_cases hlt:at_ < S.length
    · rw [if_pos hlt] at h
      by_cases hle:200 < A.length
      · rw [if_pos hle] at h;cases h
      · rw [if_neg hle] at h
        refine ih (at_+1) A _ (by simp [h1]) (by omega) hso (fun i hi k hk=>?_) h
        rw [c8A hx (by omega)]
        rcases Nat.lt_succ_iff_lt_or_eq.1 hi with h7 | rfl
        · rw [b3y (by omega)];exact (h6 i h7 k hk).mono hx
        · rw [b3B h1.symm];exact hg k hk
    · rw [if_neg hlt] at h
      injection h with h;injection h with ha hb;subst ha;subst hb
      exact ⟨h3,fun i hi=>h6 i (by omega)⟩
theorem c0K {wd:Nat} {on:List Bag} {β:Nat→Bag} {p:Pc} {S:List Bag} {R:List (List Int)} (h:tabV wd on β p=some (S,R)):SetOk wd S∧∀ i,i < R.length→∀ k,k < 32→a9w S ((R.getD i []).getD k 0) (gD wd on β p.first S i k) :=
 b8d 200 0 [Bag.zero] [] rfl (Nat.zero_le _) (SetOk.zero wd) (fun i hi=>absurd hi (Nat.not_lt_zero _)) h
section
variable {wd:Nat} {on:List Bag} {β:Nat→Bag} {E:Bag} {a:Int}
theorem b3a (hβ:∀ q,(β q).ok) {may h:Bag} (hm:InB 0 wd may) (hh:∀ p,p < 256→(h.has p=true↔may.has p=true∧a∈(onF on p).list)):a5J on β may.list a=b4R wd β h.list h.list.length:=by
 refine Bag.ext_has _ _ (a8j hβ _ _ Bag.zero_ok) (b0V hβ _ _) (fun q hq=>?_)
 rw [Bool.eq_iff_iff,a7X,b4Q (P:=fun v=>(beI wd β v).has q=true)]
 have hb:(a5J on β may.list a).has q=true↔a5C (a5J on β may.list a) q:=⟨fun x=>⟨hq,x⟩,fun x=>x.2⟩
 rw [hb]
 unfold a5J
 rw [b3v,a2u,false_or]
 constructor
 ·rintro ⟨v,hv,h1,h2⟩
  obtain ⟨r,rfl,hr⟩:=(b1L may).1 hv
  rw [Int.toNat_natCast] at h1 h2
  have hw:=hm r hr.1 hr.2
  refine ⟨(r:Int),(h.mem_list r hr.1).2 ((hh r hr.1).2 ⟨hr.2,h1⟩),?_⟩
  unfold beI
  rw [if_pos ⟨by omega,by omega⟩,Int.toNat_natCast]
  exact h2.2
 ·rintro ⟨v,hv,h1⟩
  obtain ⟨r,rfl,hr⟩:=(b1L h).1 hv
  obtain ⟨h2,h3⟩:=(hh r hr.1).1 hr.2
  have hw:=hm r hr.1 h2
  unfold beI at h1
  rw [if_pos ⟨by omega,by omega⟩,Int.toNat_natCast] at h1
  exact ⟨(r:Int),(may.mem_list r hr.1).2 h2,by rw [Int.toNat_natCast];exact h3,by rw [Int.toNat_natCast];exact ⟨hq,h1⟩⟩
theorem b2c {may h:Bag} (hok:h.ok) (hE:E.ok) (hh:∀ p,p < 256→(h.has p=true↔may.has p=true∧a∈(onF on p).list)):b1p on E may.list a=decide (h.mix a4X E 4≠Bag.zero):=by
  rw [Bool.eq_iff_iff,decide_eq_true_eq]
  unfold b1p
  rw [List.any_eq_true]
  constructor
  · rintro ⟨v,hv,h1⟩ e
    rw [Bool.and_eq_true,decide_eq_true_eq,decide_eq_true_eq] at h1
    obtain ⟨r,rfl,hr⟩:=(b1L may).1 hv
    rw [Int.toNat_natCast] at h1
    have h2:=a6f h E r
    rw [e,Bag.zero_has,(hh r hr.1).2 ⟨hr.2,h1.1⟩,(E.mem_list r hr.1).1 h1.2] at h2
    cases h2
  · intro hne
    refine Classical.byContradiction fun hno=>hne ?_
    refine Bag.ext_has _ _ (b1A _ _ hok hE) Bag.zero_ok (fun q hq=>?_)
    rw [a6f,Bag.zero_has]
    cases h3:h.has q with
    | false=>rfl
    | true =>
      cases h4:E.has q with
      | false=>rfl
      | true =>
        obtain ⟨h5,h6⟩:=(hh q hq).1 h3
        exact absurd ⟨(q:Int),(may.mem_list q hq).2 h5,by rw [Int.toNat_natCast,Bool.and_eq_true,decide_eq_true_eq,decide_eq_true_eq];exact ⟨h6,(E.mem_list q hq).2 h4⟩⟩ hno
theorem b6C:∀ w:List Int,goV on β E Bag.zero false w=false
  | []=>rfl
  | a :: w => by
    show goV on β E (a5J on β Bag.zero.list a) (b1p on E Bag.zero.list a) w=false
    rw [(a5d Bag.zero_ok).2 rfl]
    exact b6C w
def c1w (wd:Nat) (β:Nat→Bag) (first:Bag) (S:List Bag):Nat→Bag
 | 0=>first
 | k+1=>b4R wd β (S.getD (k+1) Bag.zero).list (S.getD (k+1) Bag.zero).list.length
theorem c7O {first:Bag} {S:List Bag} (i:Nat):gD wd on β first S i=a1x wd on (c1w wd β first S i):=by cases i <;> rfl
theorem b5j {first:Bag} {S:List Bag} (hF:InB 0 wd first) (hβi:∀ q,InB 0 wd (β q)) (i:Nat):InB 0 wd (c1w wd β first S i):=by
  cases i with
  | zero=>exact hF
  | succ k =>
    intro q hq h
    have:=(a7X (wd:=wd) (β:=β) _).1 h
    obtain ⟨j,_,h2⟩:=this
    unfold beI at h2
    split at h2
    · exact hβi _ q hq h2
    · rw [Bag.zero_has] at h2;cases h2
theorem c6t {e:Bool} {S:List Bag} {j:Nat} {b:Bag} (hj:1≤j) (h:S[j]?=some b):(accS e E S).getD j false=decide (b.mix a4X E 4≠Bag.zero):=by
  cases S with
  | nil=>simp at h
  | cons x r =>
    obtain ⟨k,rfl⟩:∃ k,j=k+1:=⟨j - 1,by omega⟩
    have h':r[k]?=some b:=by simpa using h
    show (r.map (fun b=>decide (b.mix a4X E 4≠Bag.zero))).getD k false=_
    rw [List.getD_eq_getElem?_getD,List.getElem?_map,h'];rfl
@[reducible] def c8a (A:List Bool) (x:Int):Bool:=if x=-1 then false else A.getD x.toNat false
theorem b6d {e:Bool} {first:Bag} {S:List Bag} {R:List (List Int)} (hRS:R.length=S.length) (hβ:∀ q,(β q).ok) (hβi:∀ q,InB 0 wd (β q)) (hF:InB 0 wd first) (hE:E.ok)
    (hg:∀ i,i < R.length→∀ k,k < 32→a9w S ((R.getD i []).getD k 0) (gD wd on β first S i k)):∀ (w:List Int) (i:Nat),i < R.length→(∀ a∈w,a < 32)→c8a (accS e E S) (a5L R i w)=goV on β E (c1w wd β first S i) ((accS e E S).getD i false) w
  | [], i, hi, _ => by
    show c8a (accS e E S) (i:Int)=_
    unfold c8a
    rw [if_neg (by omega),Int.toNat_natCast];rfl
  | a :: w, i, hi, hw => by
    show c8a (accS e E S) (a5L R (nxT R i a) w)=goV on β E (a5J on β (c1w wd β first S i).list a) (b1p on E (c1w wd β first S i).list a) w
    have hno:∀ (hx:nxT R i a=-1) (hh:∀ p,p < 256→(Bag.zero.has p=true↔(c1w wd β first S i).has p=true∧a∈(onF on p).list)),c8a (accS e E S) (a5L R (nxT R i a) w)=goV on β E (a5J on β (c1w wd β first S i).list a) (b1p on E (c1w wd β first S i).list a) w:=by
      intro hx hh
      rw [hx,a6O,b3a hβ (b5j hF hβi i) hh,b2c Bag.zero_ok hE hh,(a5d Bag.zero_ok).2 rfl]
      have hz:Bag.zero.mix a4X E 4=Bag.zero:=Bag.ext_has _ _ (b1A _ _ Bag.zero_ok hE) Bag.zero_ok fun q _=>by rw [a6f,Bag.zero_has,Bool.false_and]
      rw [hz,show decide (Bag.zero≠Bag.zero)=false from decide_eq_false (fun h=>h rfl)]
      exact (b6C w).symm
    by_cases ha:0≤a
    · obtain ⟨k,rfl⟩:=Int.eq_ofNat_of_zero_le ha
      have hk:k < 32:=by have:=hw (k:Int) (List.mem_cons_self ..);omega
      have hh:∀ p,p < 256→((gD wd on β first S i k).has p=true↔(c1w wd β first S i).has p=true∧(k:Int)∈(onF on p).list):=fun p hp=>by
        rw [c7O,a5l hp hk]
        exact ⟨fun h=>⟨h.1,h.2.2⟩,fun h=>⟨h.1,(b5j hF hβi i p hp h.1).2,h.2⟩⟩
      have hx:=c8f hi hk
      rcases hg i hi k hk with ⟨h1,h2⟩ | ⟨j,h1,h2,h3⟩
      · rw [h1] at hh
        exact hno (by rw [hx,h2]) hh
      · have hj:j < R.length:=by
          rw [hRS]
          rcases Nat.lt_or_ge j S.length with h | h
          · exact h
          · rw [List.getElem?_eq_none h] at h3;cases h3
        rw [hx,h2,b6d hRS hβ hβi hF hE hg w j hj (fun x hx=>hw x (List.mem_cons_of_mem _ hx)),b3a hβ (b5j hF hβi i) hh,b2c b3U hE hh,c6t h1 h3]
        obtain ⟨q,rfl⟩:∃ q,j=q+1:=⟨j - 1,by omega⟩
        have hS:S.getD (q+1) Bag.zero=gD wd on β first S i k:=by rw [List.getD_eq_getElem?_getD,h3];rfl
        show goV on β E (b4R wd β (S.getD (q+1) Bag.zero).list (S.getD (q+1) Bag.zero).list.length) _ w=_
        rw [hS]
    · refine hno (by unfold nxT;rw [if_neg (by omega)]) (fun p hp=>?_)
      rw [Bag.zero_has]
      refine ⟨fun h=>(by cases h),fun h=>?_⟩
      obtain ⟨r,hr,_⟩:=(b1L _).1 h.2
      omega
end
end Go.Proofs.YtdbbbafiegpbpaaGreatDoor
namespace Go.Proofs.YtdbbbafiegpbpaaGreatDoor
set_option linter.unusedSimpArgs false
set_option linter.unusedVariables false
set_option maxRecDepth 100000
set_option maxHeartbeats 1000000
open Go.RowKit
theorem b4s {R:List (List Int)} (hR:b7o R):∀ (w:List Int) (a:Int),-1≤a→a < R.length→-1≤a5L R a w∧a5L R a w < R.length
  | [],a,h1,h2=>⟨h1,h2⟩
  | s :: w, a, h1, h2 => by
    have:=b8F hR a s
    exact b4s hR w _ this.1 this.2
def c5Z (w:List Int) (i:Nat):Bool:=(w.take i).all (fun a=>decide (a < 32))
theorem b9s {w:List Int} {i:Nat} (h:i < w.length):c5Z w (i+1)=(c5Z w i&&decide (w.getD i 0 < 32)):=by
 unfold c5Z
 rw [b7Y h,List.all_append];simp
theorem c0z {R:List (List Int)} {i:Nat} (h:i < R.length):b1U R (i:Int)=(i:Int):=if_pos (by simp [b8Y,h])
theorem b5P {R:List (List Int)} {a:Int} (h:a < 0∨(R.length:Int)≤a):b1U R a=-1:=if_neg (by simp [b8Y];omega)
section
variable {s:List UInt8} {l:List Mn} {wd:Nat} {on:List Bag} {β:Nat→Bag} {p:Pc} {e:List Pt} {S:List Bag} {R:List (List Int)}
theorem TabOk.fits (V:TabOk s l wd on β p e S R) (w:List Int) (hl:c5Z w w.length=true):goV on β p.ends p.first p.empty w=((a5L R (b1U R 0) w != -1)&&(b8Y R (if a5L R (b1U R 0) w=-1 then 0 else a5L R (b1U R 0) w)&&(accS p.empty p.ends S).getD (if a5L R (b1U R 0) w=-1 then 0 else a5L R (b1U R 0) w).toNat false)):=by
 obtain ⟨hRS,hS1,hS2,hin4⟩:=b4G V.is
 obtain ⟨hso,hg⟩:=c0K V.is
 have hrw:=b2D V.is
 have hlw:∀ a∈w,a < 32:=by
  unfold c5Z at hl
  rw [List.take_length,List.all_eq_true] at hl
  exact fun a ha=>of_decide_eq_true (hl a ha)
 have h:=b6d (e:=p.empty) hRS V.net.bek V.net.inβ V.net.inF V.net.pck.2 hg w 0 (by omega) hlw
 have h0:b1U R (0:Int)=(0:Int):=c0z (i:=0) (by omega)
 have hA:(accS p.empty p.ends S).getD 0 false=p.empty:=by
  cases S with
  | nil=>simp at hS1
  | cons x r=>rfl
 rw [hA] at h
 rw [h0]
 refine h.symm.trans ?_
 have hx:=b4s hrw w 0 (by omega) (by omega)
 show (if a5L R 0 w=-1 then false else (accS p.empty p.ends S).getD (a5L R 0 w).toNat false)=_
 by_cases hm:a5L R 0 w=-1
 ·rw [if_pos hm,hm];rfl
 ·rw [if_neg hm,if_neg hm,bne_iff_ne.2 hm,show b8Y R (a5L R 0 w)=true by simp [b8Y];omega];rfl
end
theorem b8N (s:List UInt8) (l:List Mn) (w_:List Int) (hs:s.length≤9223372036854775807):HPure Tryz.prog 5 [strV s,mnsV l,a0k w_] (boolV true):=by
 have hn:=b8n s l hs
 refine a0l Tryz.func5 rfl kr _ _ _ rfl 140 rfl rfl (fun w F=>?_)
 refine ru 6 ?_
 rcases hn with ⟨z,hx⟩ | ⟨wd,on,β,p,e,S,R,V⟩
 ·refine ru 3 ?_
  refine cll (hx) ?_
  refine ru 24 ?_
  refine wdc (fun hr0 hc0=>?_) (fun hr0 hc0=>?_)
  ·refine ru 2 ?_
   refine cll (b0t) ?_
   refine ru 5 ?_
   refine rt1 ?_
   exact .imm _
  exfalso;simp at hr0
 ·refine ru 3 ?_
  refine cll (V.tab) ?_
  refine ru 24 ?_
  refine wdc (fun hr0 hc0=>?_) (fun hr0 hc0=>?_)
  ·refine ru 2 ?_
   refine cll (b0t) ?_
   refine ru 5 ?_
   refine rt1 ?_
   exact .imm _
  have hw60:w_.length≤60:=(by simp at hr0;omega);have hin:=b4G V.is;have hrw:=b2D V.is;have hal:=a8e p.empty p.ends S;obtain ⟨hRS,hS1,hS2,hin4⟩:=hin;have hwd:=V.net.w60
  refine ru 9 ?_
  refine wdc (fun hr1 hc1=>?_) (fun hr1 hc1=>?_)
  ·skip
   exfalso;simp at hr1
  refine ru 9 ?_
  refine a0m (α:=Nat) (fun x c=>⟨140,[(0,.v (strV s)),(1,.v (mnsV l)),(2,.v (a0k w_)),(7,.v (tabP R (accS p.empty p.ends S))),(8,.v (.pt 8 0 0 0)),(11,.v (intV (x:Int)))],[(8,⟨0,1,3,28,0,fun _=>tdF S R (accS p.empty p.ends S)⟩)],c⟩) (fun x=>x≤S.length) (fun x=>S.length - x) (0) om (a0c rfl (Nat.le_refl _) tsa (a0e.cons rfl (c2E (.refl _) (.refl _) (.refl _)) a0e.nil)) (fun i c hx NhL1 hL1=>?_)
  (try dsimp only at hx hL1 ⊢)
  refine ru 10 ?_
  refine wdc (fun hr2 hc2=>?_) (fun hr2 hc2=>?_)
  ·skip
   have hiS:i < S.length:=om;have hiR:i < R.length:=om;have hxi:=b4s hrw w_ i om om;have hxd:(a5L R (b1U R (i:Int)) w_)=(b7R R (i:Int) w_):=(by rw [c0z hiR];exact b5d hrw w_ i om om);have hxe:=b5d hrw w_ (i:Int) om om;have hqa:((a5L R (b1U R (i:Int)) w_) != -1)=decide ((b7R R (i:Int) w_)≥0):=(by rw [hxd,Bool.eq_iff_iff,bne_iff_ne,decide_eq_true_eq];omega);have hqb:(if (a5L R (b1U R (i:Int)) w_)=-1 then 0 else (a5L R (b1U R (i:Int)) w_))=(if (b7R R (i:Int) w_) < 0 then 0 else (b7R R (i:Int) w_)):=(by rw [hxd];split <;> split <;> omega)
   refine ru 9 ?_
   refine cll (b6w R _ hrw i w_ om) ?_
   refine ru 12 ?_
   refine s0 (a0f (xs:=[_,_,_]) (c7U S R _ hrw i ⟨by omega,by omega⟩ w_ om) ⟨rfl,⟨rfl,⟨rfl,trivial⟩⟩⟩ ⟨(c4t S R _),⟨(Fz.eq rfl),⟨(Fz.eq rfl),trivial⟩⟩⟩) ?_
   refine ru 17 ?_
   refine wdc (fun hr3 hc3=>?_) (fun hr3 hc3=>?_)
   ·skip
    exfalso;rw [hqa,hqb] at hr3;simp at hr3
   refine ru 8 ?_
   exact hL1 (i+1) _ _ (by (try dsimp only);omega) (by (try dsimp only);omega) (a0c rfl (Nat.le_refl _) (tsr rfl (tsr rfl (tsr rfl (tsr rfl (tsr rfl (a0t.cons rfl (a0G om) a0t.nil)))))) hsa)
  refine ru 2 ?_
  refine a0d ?_
  refine ru 6 ?_
  refine cll (V.net.net) ?_
  refine ru 23 ?_
  refine a0m (α:=Nat) (fun x c=>⟨140,[(2,.v (a0k w_)),(7,.v (tabP R (accS p.empty p.ends S))),(15,.v (netP wd on β p)),(19,.v (boolV (c5Z w_ x))),(20,.v (intV (x:Int)))],[],c⟩) (fun x=>x≤w_.length) (fun x=>w_.length - x) (0) om (a0c rfl (Nat.le_refl _) tsa a0e.nil) (fun i c hx NhL2 hL2=>?_)
  (try dsimp only at hx hL2 ⊢)
  refine ru 9 ?_
  refine wdc (fun hr4 hc4=>?_) (fun hr4 hc4=>?_)
  ·skip
   have hil:i < w_.length:=om
   refine ru 11 ?_
   refine ry (intV (w_.getD i 0)) rfl (fun hb=>rfl) ?_
   refine ru 11 ?_
   exact hL2 (i+1) _ _ (by (try dsimp only);omega) (by (try dsimp only);omega) (a0c rfl (Nat.le_refl _) (tsr rfl (tsr rfl (tsr rfl (a0t.cons rfl (by rw [b9s hil];exact .refl _) (a0t.cons rfl (a0G om) a0t.nil))))) a0e.nil)
  obtain rfl:i=w_.length:=om
  refine ru 2 ?_
  refine a0d ?_
  refine ru 6 ?_
  refine cll (b6w R _ hrw 0 w_ om) ?_
  refine ru 11 ?_
  refine cll (b6w R _ hrw (-1) w_ om) ?_
  refine ru 11 ?_
  refine cll (b1n R _) ?_
  refine ru 1 ?_
  refine cll (b6w R _ hrw R.length w_ om) ?_
  refine ru 14 ?_
  first
  | refine stg 117 (fun hb=>a0f (xs:=[_,_]) (b8Z wd on β p (by omega) V.net.onk V.net.pck V.net.bek V.net.inβ V.net.inF w_ (by omega)) ⟨rfl,⟨rfl,trivial⟩⟩ ⟨(Fz.eq rfl),⟨(Fz.eq rfl),trivial⟩⟩) rfl rfl rfl rfl rfl ?_
  | refine sth 117 (fun hb=>a0f (xs:=[_,_]) (b8Z wd on β p (by omega) V.net.onk V.net.pck V.net.bek V.net.inβ V.net.inF w_ (by omega)) ⟨rfl,⟨rfl,trivial⟩⟩ ⟨(Fz.eq rfl),⟨(Fz.eq rfl),trivial⟩⟩) rfl rfl rfl rfl rfl ?_
  refine ru 4 ?_
  first
  | refine stg 122 (fun hb=>a0f (xs:=[_,_]) (b8O R _ _) ⟨rfl,⟨rfl,trivial⟩⟩ ⟨(Fz.eq rfl),⟨(Fz.eq rfl),trivial⟩⟩) rfl rfl rfl rfl rfl ?_
  | refine a4E 125 7 122 117 false true _ _ (fun hb hb2=>a0f (xs:=[_,_]) (b8O R _ _) ⟨rfl,⟨rfl,trivial⟩⟩ ⟨(Fz.eq rfl),⟨(Fz.eq rfl),trivial⟩⟩) rfl rfl rfl rfl rfl a0h rfl rfl rfl ?_
  | refine sth 122 (fun hb=>a0f (xs:=[_,_]) (b8O R _ _) ⟨rfl,⟨rfl,trivial⟩⟩ ⟨(Fz.eq rfl),⟨(Fz.eq rfl),trivial⟩⟩) rfl rfl rfl rfl rfl ?_
  refine ru 12 ?_
  first
  | refine stg 137 (fun hb=>a0f (xs:=[]) (b0t) trivial trivial) rfl rfl rfl rfl rfl ?_
  | refine sth 137 (fun hb=>a0f (xs:=[]) (b0t) trivial trivial) rfl rfl rfl rfl rfl ?_
  refine ru 5 ?_
  refine rt1 ?_
  exact a3f (by rw [b5P (a:=-1) (.inl (by decide)),b5P (a:=(R.length:Int)) (.inr (Int.le_refl _)),a6O];cases hlw:c5Z w_ w_.length;(simp);(rw [V.fits w_ hlw];simp))
end Go.Proofs.YtdbbbafiegpbpaaGreatDoor
namespace Go.Proofs.YtdbbbafiegpbpaaGreatDoor
set_option linter.unusedSimpArgs false
set_option linter.unusedVariables false
open Go.ChangeShapes Go.WideShapes Go.ChangeAt Go.RowKit Go.Deep
section
variable {H:Type} {encH:TypeId×Value→H} {P:Program} {w:World} {base:Nat} {spare:Nat→Bool} {held:Bool}
theorem b4U {α:Type} {t e:TypeId} {fuel:Nat} {A:Option Addr} {n c:Nat} {x:DataW H×List MemPlace} (ht:P.underlying t=some (.slice e)) (size:Nat) (hC:P.cellsOf e=size) (hpos:0 < size)
    (enc:α→List Value) (henc:∀ a,(enc a).length=size) (ok:α→Prop)
    (hel:∀ (m:Nat) (cs:List Value) (y:DataW H×List MemPlace),DataW.trod encH P w base spare held m e cs=some y→∃ a:α,cs=enc a∧ok a)
    (hf:DataW.trod encH P w base spare held fuel t [.slice A n c]=some x) :
    ∃ l:List α,l.length=n∧Sl w w.heap.size size enc A l∧n≤c∧c≤9223372036854775807∧∀ a∈l,ok a:=by
  rcases open_slice ht hf with ⟨h0,_⟩ | ⟨a,len,cap,m,k,D,Pl,hcs,hb,hl,hm,hmm,hx,hi⟩
  · injection h0 with h0 _
    injection h0 with h1 h2 h3
    subst h1;subst h2;subst h3
    exact ⟨[],rfl,⟨henc,a1k.none_⟩,by omega,by omega,by simp⟩
  · injection hcs with h0 _
    injection h0 with h1 h2 h3
    subst h1;subst h2;subst h3
    have hnm:n≤m:=by rw [hmm];split <;> omega
    have each:∀ k,k≤n→∃ l:List α,l.length=k∧(∀ i (hi:i < l.length),w.cells? base (a.add (i * size)) size=some (enc l[i]))∧∀ y∈l,ok y:=by
      intro k
      induction k with
      | zero=>intro _;exact ⟨[],rfl,fun i hi=>by simp at hi,by simp⟩
      | succ k ih =>
        intro hk
        obtain ⟨l,hl1,hl2,hl3⟩:=ih (by omega)
        obtain ⟨cs',h1,h2⟩:=hi k (by omega)
        rw [hC] at h1
        obtain ⟨a',rfl,hok⟩:=hel _ _ _ h2
        refine ⟨l++[a'],by simp [hl1],fun i hi=>?_,fun y hy=>?_⟩
        · by_cases hik:i < l.length
          · rw [List.getElem_append_left hik];exact hl2 i hik
          · have:i=k:=by simp at hi;omega
            subst this
            simp [hl1,h1]
        · rcases List.mem_append.1 hy with hy | hy
          · exact hl3 y hy
          · simp at hy;subst hy;exact hok
    obtain ⟨l,hl1,hl2,hl3⟩:=each n (Nat.le_refl _)
    refine ⟨l,hl1,⟨henc,?_,fun hn=>?_⟩,hl,by unfold maxLen at hm;omega,hl3⟩
    · have:∀ m:List α,(m.flatMap enc).length=m.length * size:=by
        intro m
        induction m with
        | nil=>simp
        | cons x m ih=>simp [List.flatMap_cons,ih,henc,Nat.add_mul,Nat.add_comm]
      exact this l
    · refine ⟨a,rfl,?_,fun j u hu=>?_⟩
      · have h0:=hl2 0 hn
        have:=World.cells?_block h0 hpos
        rwa [a2U] at this
      · have hfl:(l.flatMap enc).length=l.length * size:=by
          have:∀ m:List α,(m.flatMap enc).length=m.length * size:=by
            intro m
            induction m with
            | nil=>simp
            | cons x m ih=>simp [List.flatMap_cons,ih,henc,Nat.add_mul,Nat.add_comm]
          exact this l
        have hj:j < l.length * size:=by
          rcases Nat.lt_or_ge j (l.flatMap enc).length with hlt | hge
          · rw [hfl] at hlt;exact hlt
          · rw [List.getElem?_eq_none hge] at hu;cases hu
        have hjd:j / size < l.length:=(Nat.div_lt_iff_lt_mul hpos).2 hj
        have hjm:j % size < size:=Nat.mod_lt _ hpos
        have e1:j=j / size * size+j % size:=by rw [Nat.mul_comm];exact (Nat.div_add_mod j size).symm
        rw [e1] at hu ⊢
        rw [a1S henc _ _ _ hjd hjm] at hu
        have:=(World.cells?_some (hl2 _ hjd)).2.2 (j % size) hjm
        rw [a5z] at this
        rw [this,hu]
def c1t (x:Int):Prop:=(Lit.int .i64 x).wf=true
theorem c4i {e:TypeId} (he:P.underlying e=some (.int .i64)) (m:Nat) (cs:List Value) (y:DataW H×List MemPlace) (h:DataW.trod encH P w base spare held m e cs=some y):∃ a:Int,cs=a6o a∧c1t a:=by
 obtain ⟨b,rfl,_,hw⟩:=DataW.trod_int he h
 exact ⟨b,rfl,hw⟩
end
structure PtI where
 v:Pt
 A:Option Addr
 n:Nat
 c:Nat
def PtI.cells (x:PtI):List Value:=[.int .i64 x.v.kind,.int .i64 x.v.low,.int .i64 x.v.high,.string ⟨x.v.name.toArray⟩,.slice x.A x.n x.c]
def PtI.none:PtI:=⟨default,.none,0,0⟩
theorem PtI.cells_length (x:PtI):x.cells.length=5:=by simp [PtI.cells]
def PtI.inOk (w:World) (x:PtI):Prop:=x.v.kids.length=x.n∧Sl w w.heap.size 1 a6o x.A x.v.kids∧x.n≤x.c∧x.c≤9223372036854775807
section
variable {H:Type} {encH:TypeId×Value→H} {w:World} {base:Nat} {spare:Nat→Bool} {held:Bool}
theorem b7l {P:Program} {t e:TypeId} (ht:P.underlying t=some (.slice e)) {fuel:Nat} {v:Value} {x:DataW H×List MemPlace} (hf:DataW.trod encH P w base spare held fuel t [v]=some x):∃ A n c,v=.slice A n c:=by
 rcases open_slice ht hf with ⟨h0,_⟩ | ⟨a,len,cap,m,k,D,Pl,hcs,_⟩
 ·injection h0 with h0 _;exact ⟨_,_,_,h0⟩
 ·injection hcs with h0 _;exact ⟨_,_,_,h0⟩
end
theorem c1z (x:Int):∀ u∈a6o x,u.oneCell'=true:=by
 intro u hu
 simp only [a6o,List.mem_cons,List.not_mem_nil,or_false] at hu
 subst hu;rfl
theorem b5t {w:World} {B:Nat} {A:Option Addr} {c:Nat} {l:List Int} (h:Sl w B 1 a6o A l) (hc:l.length≤c) (hm:c≤maxLen):Rep w (Env.just (c6U w)) (.slice A l.length c) (a1w l) :=
 c4o 1 (by omega) a6o c1z (fun x _=>intV x) 0 l hc hm h (fun i j _ hj=>by
  match j,hj with
  | 0,_=>exact .imm _)
structure MnI where
 v:Mn
 A:Option Addr
 n:Nat
 c:Nat
def MnI.cells (x:MnI):List Value:=[.string ⟨x.v.name.toArray⟩,.slice x.A x.n x.c]
def MnI.none:MnI:=⟨default,.none,0,0⟩
theorem MnI.cells_length (x:MnI):x.cells.length=2:=by simp [MnI.cells]
def MnI.inOk (w:World) (x:MnI):Prop:=x.v.on.length=x.n∧Sl w w.heap.size 1 a6o x.A x.v.on∧x.n≤x.c∧x.c≤9223372036854775807
theorem c5m (x:MnI):∀ u∈x.cells,u.oneCell'=true:=by
 intro u hu
 simp only [MnI.cells,List.mem_cons,List.not_mem_nil,or_false] at hu
 rcases hu with rfl | rfl <;> rfl
section
variable {H:Type} {encH:TypeId×Value→H} {w:World} {base:Nat} {spare:Nat→Bool} {held:Bool}
set_option maxRecDepth 100000 in
theorem c9v (m:Nat) (cs:List Value) (y:DataW H×List MemPlace) (h:DataW.trod encH Tryz.prog w base spare held m 145 cs=some y):∃ t:MnI,cs=t.cells∧t.inOk w:=by
  obtain ⟨xs,k,_,_,hlen,hxl,hx⟩:=DataW.trod_struct Tryz.underlying145 h
  have hC:Tryz.prog.cellsOf 145=2:=by kernel_rfl
  have hS:Tryz.prog.cellsOf 9=1:=by kernel_rfl
  have hK:Tryz.prog.cellsOf 49=1:=by kernel_rfl
  rw [hC] at hlen
  match cs,hlen,xs,hxl with
  | [c3, c4], _, [x3, x4], _ =>
    have f3:DataW.trod encH Tryz.prog w base spare held k 9 (([c3,c4].drop 0).take (Tryz.prog.cellsOf 9))=[x3,x4][0]?:=hx 0 _ rfl
    have f4:DataW.trod encH Tryz.prog w base spare held k 49 (([c3,c4].drop 1).take (Tryz.prog.cellsOf 49))=[x3,x4][1]?:=hx 1 _ rfl
    rw [hS] at f3
    rw [hK] at f4
    obtain ⟨b3,h3,_,_⟩:=DataW.trod_string Tryz.underlying9 f3
    simp at h3
    subst h3
    simp only [List.drop_succ_cons,List.drop_zero,List.take_succ_cons,List.take_zero] at f4
    obtain ⟨A,n,c,rfl⟩:=b7l Tryz.underlying49 f4
    obtain ⟨l,e,s,o,m',_⟩:=b4U Tryz.underlying49 1 (by kernel_rfl) (by omega) a6o (fun a=>by simp [a6o]) c1t (c4i Tryz.underlying3) f4
    exact ⟨⟨⟨b3.data.toList,l⟩,A,n,c⟩,rfl,e,s,o,m'⟩
end
theorem c5x {w:World} {B:Nat} {A:Option Addr} {c:Nat} {l:List MnI} (h:Sl w B 2 MnI.cells A l) (hc:l.length≤c) (hm:c≤maxLen) (hok:∀ x∈l,x.inOk w):Rep w (Env.just (c6U w)) (.slice A l.length c) (mnsV (l.map (·.v))):=by
 have key:=c4o (w:=w) 2 (by omega) MnI.cells c5m (fun x=>mnF x.v) MnI.none l hc hm h (fun i j hi hj=>by
  have hg:l.getD i MnI.none=l[i]:=by rw [List.getD_eq_getElem?_getD,List.getElem?_eq_getElem hi];rfl
  rw [hg]
  obtain ⟨e,s,o,m⟩:=hok _ (List.getElem_mem hi)
  generalize l[i]=x at e s o m
  obtain ⟨v,A',n',c'⟩:=x
  simp only at e s o m
  subst e
  match j,hj with
  | 0,_=>exact .imm _
  | 1,_=>exact b5t s o (by unfold maxLen;omega))
 have e:mnsV (l.map (·.v))=.sl 2 l.length (fun i=>mnF (l.getD i MnI.none).v):=by
  show HV.sl 2 (l.map (·.v)).length (fun i=>mnF ((l.map (·.v)).getD i default))=_
  rw [List.length_map]
  congr 1
  funext i
  show mnF ((l.map (·.v)).getD i default)=_
  congr 1
  rw [List.getD_eq_getElem?_getD,List.getD_eq_getElem?_getD,List.getElem?_map]
  cases l[i]? <;> rfl
 rw [e];exact key
theorem b2S (W:World) (hL:LibW W) (s:ByteArray) (hs:s.size≤maxLen) (a:Option Addr) (n c:Nat) (l:List MnI) (hn:l.length=n) (sl:Sl W W.heap.size 2 MnI.cells a l) (hc:n≤c) (hm:c≤9223372036854775807) (hok:∀ x∈l,x.inOk W)
  (a2:Option Addr) (n2 c2:Nat) (l2:List Int) (hn2:l2.length=n2) (sl2:Sl W W.heap.size 1 a6o a2 l2) (hc2:n2≤c2) (hm2:c2≤9223372036854775807) (hok2:∀ x∈l2,c1t x) :
  Calls Tryz.prog 5 #[.string s,.slice a n c,.slice a2 n2 c2] W fun e w'=>e=.returned (.bool true)∧Below W.heap.size W w':=by
 subst hn;subst hn2
 have hs':s.data.toList.length≤9223372036854775807:=by have:s.size=s.data.toList.length:=rfl;rw [←this];unfold maxLen at hs;omega
 exact c1M (b8N s.data.toList (l.map (·.v)) l2 hs') W [.string s,.slice a l.length c,.slice a2 l2.length c2] ⟨.imm _,c5x sl hc (by unfold maxLen;omega) hok,b5t sl2 hc2 (by unfold maxLen;omega),trivial⟩ hL
end Go.Proofs.YtdbbbafiegpbpaaGreatDoor
namespace Go.Proofs.YtdbbbafiegpbpaaGreatDoor
set_option linter.unusedSimpArgs false
set_option linter.unusedVariables false
set_option maxRecDepth 100000
open Go.RowKit
theorem a7U {W:World} {l:List (String×DataW Unit)} (h:laidMetH Tryz.prog l W) (hl:(l.all fun x=>x.2.handleName?.isNone)=true) (n:String) (d:DataW Unit) (hf:l.filter (fun x=>x.1 == n)=[(n,d)]):laidMet Tryz.prog [(n,d)] W:=by
 rw [MakeChecks.laidMetH_plain _ _ _ hl] at h
 have:=laidMet.filter (fun x=>x.1 == n) h
 rwa [hf] at this
theorem b2x {W:World} {n:String} {name:String} {d:DataW Unit} {g:Nat} {t:TypeId} {ms:Array (String×TypeId)} (hg:Tryz.prog.globalNamed n=some g) (hty:(Tryz.prog.globals[g]?).map (·.type)=some t) (ht:Tryz.prog.underlying t=some (.interface ms))
  (h:laidMet Tryz.prog [(n,.iface name d)] W):∃ tp p,W.var? Tryz.prog n=some #[.iface tp p]:=by
 obtain ⟨ps,⟨g',t',cs,fuel,p,q,hg',ht',hvar,hd,_,_⟩,_⟩:=h
 obtain rfl:=Option.some.inj (hg.symm.trans hg')
 obtain rfl:=Option.some.inj (hty.symm.trans ht')
 obtain ⟨f1,u,v,hc,_⟩:=iface_of_trod ht hd
 refine ⟨u,v,?_⟩
 rw [hvar]
 congr 1
 apply Array.ext'
 exact hc
theorem b1P {H:Type} {enc:TypeId×Value→H} {a:Assume} {C:Checked} {os:Os} {f:FuncId} {fn:Func} {s:ChangeSpec} {conds:List PathCond} {apart fresh handsOn again:Bool} {X:World→Array Value→Prop}
  (hX:∀ (w w':World) (args:Array Value),w.heap=w'.heap→X w args→X w' args)
  (own:ownKnob C.prog.godebug=none) (started:os.Started) (noInit:C.prog.inits.idxOf? f=none) (hfn:C.prog.funcs[f]?=some fn)
  (wit:∃ (w:World) (tape:Tape) (i:Input),w.os=os∧(w.forCall tape i).Shaped C.prog∧i.vars=[]∧Input.okWide C.prog (w.forCall tape i) .any w.heap.size f i ∧
   ((s.pre enc C.prog fn conds apart (w.forCall tape i).memory i.args∧X (w.forCall tape i).memory i.args)∧sizedMet enc C.prog fn (OpenSpec.ofChange s) apart (w.forCall tape i).memory i.args)∧a.holds C.prog (lone (Frame.enter C.prog f i.args .normal) [] (w.forCall tape i)))
  (con:∀ (W:World) (base:Nat) (args:Array Value) (ds gs:List (DataW H)) (before:List MemPlace),
   (∀ (j:Nat) t v,fn.params[j]?=some t→args[j]?=some v→Value.okWide C.prog W .any base t v) →
   DataW.Whole enc C.prog fn.params.toList s.vars apart W args.toList ds gs before →
   conds.all (PathCond.test C.prog ⟨fn.params.toList,ds,s.plain.varTypes C.prog,gs⟩)=true→X W args→W.ShapedOpen C.prog →
   Calls C.prog f args W fun e W'=>∃ v,e=.returned v∧s.post enc C.prog fn apart fresh handsOn again W args v W') :
  ReturnsInHanded a C os f .any (fun w args=>(s.pre enc C.prog fn conds apart w args∧X w args)∧sizedMet enc C.prog fn (OpenSpec.ofChange s) apart w args) (s.post enc C.prog fn apart fresh handsOn again):=by
 refine returnsInHanded_of_calls own started noInit wit fun w tape i _ hsh _ hok hpre _=>?_
 obtain ⟨_,_,_,fn',hfn',_,_,_,_,hval⟩:=hok
 obtain rfl:fn'=fn:=Option.some.inj (hfn'.symm.trans hfn)
 obtain ⟨⟨⟨ds,gs,before,hw,hc⟩,hx⟩,_⟩:=hpre
 refine (con (w.forCall tape i) w.heap.size i.args ds gs before hval (DataW.Whole.of_heap (w':=w.forCall tape i) (by rfl) hw) hc (hX _ _ _ (by rfl) hx) hsh).mono fun e W' ⟨v,he,hp⟩=>?_
 subst he
 exact ChangeSpec.post_blind hp
theorem c7q {W:World} (hs:W.ShapedOpen Tryz.prog):∃ m,W.cell? ⟨1,0,none⟩=some (.int .i64 m) :=
 cell_of_shapedOpen_int (zero:=#[.int .i64 0]) (t:=3) (k:=.i64) hs (of_decide_eq_true (by kernel_rfl)) (by kernel_rfl) rfl (by kernel_rfl) (by kernel_rfl) Tryz.underlying3
theorem c4U {W:World} {l:List (String×DataW Unit)} (hs:W.ShapedOpen Tryz.prog) (h:laidMetH Tryz.prog l W) (hl:(l.all fun x=>x.2.handleName?.isNone)=true)
  (h1:l.filter (fun x=>x.1 == "internal/strconv.uint64pow10")=[("internal/strconv.uint64pow10", Rows.laid_internal_strconv_uint64pow10)])
  (h2:l.filter (fun x=>x.1 == "strconv.ErrSyntax")=[("strconv.ErrSyntax", Rows.laid_strconv_ErrSyntax)])
  (h3:l.filter (fun x=>x.1 == "strconv.ErrRange")=[("strconv.ErrRange", Rows.laid_strconv_ErrRange)])
  (h4:l.filter (fun x=>x.1 == "math/bits.deBruijn64tab")=[("math/bits.deBruijn64tab", Rows.laid_math_bits_deBruijn64tab)]):LibW W:=by
 have t:=a7U h hl _ _ h1
 have a:=a7U h hl _ _ h2
 have b:=a7U h hl _ _ h3
 have t4:=a7U h hl _ _ h4
 have t4':Lib.TabIs Tryz.prog W "math/bits.deBruijn64tab" .u8 (Lib.deBruijn64tab.map (fun n:Nat=>(n:Int))) :=
  Lib.tabIs_of_head (zs:=Lib.deBruijn64tab.map (fun n:Nat=>(n:Int))) (k:=.u8) (g:=0) (t:=171) (e:=5) (n:=64) (by kernel_rfl) (by kernel_rfl) Tryz.underlying171 Tryz.underlying5 (by kernel_rfl) (by kernel_rfl) t4
 have t':Lib.TabIs Tryz.prog W "internal/strconv.uint64pow10" .u64 Lib.pow10Tab :=
  Lib.tabIs_of_head (zs:=Lib.pow10Tab) (k:=.u64) (g:=4) (t:=221) (e:=44) (n:=20) (by kernel_rfl) (by kernel_rfl) Tryz.underlying221 Tryz.underlying44 (by kernel_rfl) (by kernel_rfl) t
 have a':=b2x (g:=2) (t:=192) (by kernel_rfl) (by kernel_rfl) Tryz.underlying192 a
 have b':=b2x (g:=3) (t:=192) (by kernel_rfl) (by kernel_rfl) Tryz.underlying192 b
 have lt:∀ {n:String} {g:Nat} {x:Array Value},Tryz.prog.globalNamed n=some g→W.var? Tryz.prog n=some x→g < W.heap.size:=by
  intro n g x hg hv
  unfold World.var? at hv
  rw [hg] at hv
  simp only [Option.bind_some] at hv
  rcases Nat.lt_or_ge g W.heap.size with h | h
  ·exact h
  ·rw [Array.getElem?_eq_none h] at hv;cases hv
 have m':=c7q hs
 refine ⟨fun k hk=>?_,fun _=>t',fun _=>a',fun _=>b',fun g hg=>by
  obtain rfl:=Option.some.inj ((show Tryz.prog.globalNamed "internal/bytealg.MaxLen" = some 1 by kernel_rfl).symm.trans hg)
  exact m',fun _=>t4'⟩
 obtain ⟨n,hn,hg⟩:=hk
 simp only [a3n,List.mem_cons,List.not_mem_nil,or_false] at hn
 rcases hn with rfl | rfl | rfl | rfl | rfl
 ·exact lt hg t'
 ·obtain ⟨_,_,a'⟩:=a';exact lt hg a'
 ·obtain ⟨_,_,b'⟩:=b';exact lt hg b'
 ·obtain rfl:=Option.some.inj ((show Tryz.prog.globalNamed "internal/bytealg.MaxLen" = some 1 by kernel_rfl).symm.trans hg)
  obtain ⟨m,hm⟩:=m'
  exact World.block_lt_of_cell? W _ hm
 ·exact lt hg t4'
theorem c6u {W:World} (hs:W.ShapedOpen Tryz.prog) (h:laidMetH Tryz.prog Rows.dfaRunsRow.laid W):LibW W:=c4U hs h (by kernel_rfl) (by kernel_rfl) (by kernel_rfl) (by kernel_rfl) (by kernel_rfl)
end Go.Proofs.YtdbbbafiegpbpaaGreatDoor
