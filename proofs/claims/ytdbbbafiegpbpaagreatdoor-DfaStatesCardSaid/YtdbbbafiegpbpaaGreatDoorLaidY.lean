/-
  An automaton's states made: the program's fill.
-/
import Derived.Test.YtdbbbafiegpbpaaGreatDoorDf3
import Derived.Test.YtdbbbafiegpbpaaGreatDoorLexV
import Derived.Test.YtdbbbafiegpbpaaGreatDoorHcl
import Derived.Test.YtdbbbafiegpbpaaGreatDoorEx1
import Derived.Test.YtdbbbafiegpbpaaGreatDoorNb7
import Derived.Test.YtdbbbafiegpbpaaGreatDoorHc
import Derived.Test.YtdbbbafiegpbpaaGreatDoorChecked
import Derived.ProofKit
import Derived.OpenShut
import Derived.ChangeOld
import Derived.Deep.Slices
import Derived.Test.YtdbbbafiegpbpaaGreatDoorRows
import Derived.LaidLaws
import Derived.LaidMore
import Derived.LaidSub
import Derived.HandedShaped
import Derived.Shelf.Vars
import Derived.Stop.Joined
namespace Go.Proofs.YtdbbbafiegpbpaaGreatDoor
set_option linter.unusedSimpArgs false
set_option linter.unusedVariables false
set_option maxRecDepth 100000
set_option maxHeartbeats 1000000
open Go.RowKit
def c9G (P:Program) (T:TypeId):Option (Nat×Nat):=match P.underlying T with
  | some (.array len e) => match tyOf P e with
    | some (true,s)=>some (len,s)
    | _=>none
  | _=>none
section
variable {P:Program} {ov:Nat→Option HV} {g:Nat} {d:Option Tmp} {ty T:TypeId} {pos:String} {af:Array Edge} {x y:Operand} {gd:Option (Nat×Bool)}
theorem b3z {n s len:Nat} {f:Nat→HV} {k:IntKind} {i:Int} (hT:c9G P T=some (len,s)) (h1:ovl ov x=some (.agg n f)) (h2:ovl ov y=some (.imm (.int k i))) (hi0:0≤i) (hi:i < (len:Int)) (hn:len * s≤n) :
    HOp P ⟨d,.index T x y,ty,pos,af,gd⟩ ov g [] (.agg s (fun j=>f (i.toNat * s+j))) [] :=
  a0q fun w E ρ hr=>by
    have e1:=hr x _ (by simp [Op.operands]) h1
    have e2:=Rep.imm_inv (hr y _ (by simp [Op.operands]) h2)
    unfold c9G at hT
    split at hT
    · rename_i len' e hu
      split at hT
      · rename_i s' ht
        injection hT with hT
        injection hT with hT1 hT2
        subst hT1;subst hT2
        generalize hv:ρ x=v at e1
        cases e1 with
        | agg cs _ _ vs hn' hc hrep =>
          have hb:i.toNat * s'+s'≤cs.size:=by
            have:(i.toNat+1) * s'≤len' * s':=Nat.mul_le_mul_right _ (by omega)
            rw [Nat.add_mul] at this;omega
          refine ⟨.agg (cs.extract (i.toNat * s') (i.toNat * s'+s')),?_,?_⟩
          · simp [execOp,hv,e2,Instr.index,asIntOf,run_underlying hu,hi0,hi,part,(a2Q ht).1,(a2Q ht).2.1]
          · refine .agg _ s' _ (fun j=>vs (i.toNat * s'+j)) (by simp;omega) (fun j hj=>?_) (fun j hj=>hrep _ (by omega))
            have:=hc (i.toNat * s'+j) (by omega)
            refine ⟨?_,this.2⟩
            rw [Array.getElem?_extract,if_pos (by omega)]
            exact this.1
      · cases hT
    · cases hT
end
def b0O (l:List Int) (B:Nat→Bag) (p:Int):Nat→Nat→Bag
 | 0=>B
 | k+1=>fun s=>if l.getD k 0=(s:Int)∧s < 32 then (b0O l B p k s).with_ p else b0O l B p k s
def b7z (L:List Int) (O:Int→Bag):Nat→Nat→Bag
 | 0=>fun _=>Bag.zero
 | k+1=>b0O (O (L.getD k 0)).list (b7z L O k) (L.getD k 0) (O (L.getD k 0)).list.length
theorem b0z {l:List Int} {B:Nat→Bag} {p:Int} (h:∀ s,(B s).ok):∀ k s,(b0O l B p k s).ok
  | 0,s=>h s
  | k + 1, s => by
    unfold b0O
    split
    · exact Bag.with_ok _ (b0z h k s) _
    · exact b0z h k s
theorem a4X (L:List Int) (O:Int→Bag):∀ k s,(b7z L O k s).ok
 | 0,s=>Bag.zero_ok
 | k+1,s=>b0z (a4X L O k) _ s
theorem c3i (n:Nat) (f:Nat→HV) (off:Nat):ldv true n f off=.agg n (fun j=>f (off+j)):=by
 cases off with
 | zero=>show HV.agg n f=_;congr 1;funext j;rw [Nat.zero_add]
 | succ k=>rfl
@[reducible] def byF (B:Nat→Bag):Nat→Nat→HV:=fun _ j=>a6R ((B (j / 4)).word (j % 4))
@[reducible] def byO (g:Nat) (B:Nat→Bag):HObj:=⟨g,1,128,130,0,byF B⟩
theorem c3b {B:Nat→Bag} {s:Nat}:∀ j,j < 4→byF B 0 (s * 4+j)=a2I (B s) j:=fun j hj=>by
 show a6R _=a6R _
 rw [show (s * 4+j) / 4=s by omega,show (s * 4+j) % 4=j by omega]
theorem c5j {B B':Nat→Bag} {s:Nat} {x:Bag} (hs:s < 32) (h1:B' s=x) (h2:∀ t,t≠s→t < 32→B' t=B t):∀ i j,i < 1→j < 128→upd (byF B) 0 (0+s * 4) 4 (bagH x).cell i j=byF B' i j:=fun i j hi hj=>by
 obtain rfl:i=0:=by omega
 by_cases h:s * 4≤j∧j < s * 4+4
 ·rw [a8T ⟨rfl,by omega,by omega⟩]
  show a6R (x.word (j - (0+s * 4)))=a6R _
  rw [show j / 4=s by omega,h1,show j - (0+s * 4)=j % 4 by omega]
 ·rw [a7b (by omega)]
  show a6R _=a6R _
  rw [h2 (j / 4) (by omega) (by omega)]
theorem c4i (g:Nat) (cs:List Value) (hcs:cs=List.replicate 128 (.int .u64 0)):a2X ⟨g,1,128,130,0,fun _ j=>.imm (cs.getD j undef)⟩ (byO g (fun _=>Bag.zero)):=.of fun i j hi hj=>by
 subst hcs
 have e:(List.replicate 128 (Value.int .u64 0)).getD j undef=.int .u64 0:=by rw [List.getD_eq_getElem?_getD,List.getElem?_replicate,if_pos hj];rfl
 show Sb (.imm ((List.replicate 128 (Value.int .u64 0)).getD j undef)) (a6R (Bag.zero.word (j % 4)))
 rw [e]
 have:Bag.zero.word (j % 4)=0:=by
  have:=Nat.mod_lt j (show 0 < 4 by decide)
  generalize j % 4=m at this
  match m,this with | 0,_=>rfl | 1,_=>rfl | 2,_=>rfl | 3,_=>rfl
 rw [this];exact .refl _
def c3c (E:Bag) (g:Nat→Bag) (S:List Bag) (A:List Bool):Nat→List Bool
 | 0=>A
 | k+1=>b7c E (a1z Bag.zero g S k).1 (c3c E g S A k) (g k)
theorem b5v {E:Bag} {g:Nat→Bag} {S:List Bag} {A:List Bool} (h:A.length=S.length):∀ k,(c3c E g S A k).length=(a1z Bag.zero g S k).1.length
 | 0=>h
 | k+1=>c0X (b5v h k)
theorem b7u {α:Type} {l k:List α} {i:Nat} {d:α} (h:i < l.length):(l++k).getD i d=l.getD i d:=by rw [List.getD_eq_getElem?_getD,List.getD_eq_getElem?_getD,List.getElem?_append_left h]
theorem b7v {α:Type} {l:List α} {x d:α} {i:Nat} (h:i=l.length):(l++[x]).getD i d=x:=by subst h;rw [List.getD_eq_getElem?_getD,List.getElem?_append_right (Nat.le_refl _),Nat.sub_self];rfl
theorem b0R {α:Type} {l:List α} {i:Nat} {d:α} (h:l.length≤i):l.getD i d=d:=by rw [List.getD_eq_getElem?_getD,List.getElem?_eq_none h];rfl
theorem c7K {R:List (List Int)} {A:List Bool} {r:List Int} {at_ off n:Nat} {x:Int} (hR:R.length=at_) (ho:r.length=off) (hr:r.length < 32):∀ i j,i < n→j < 33→upd (tbF (R++[r]) A) at_ off 1 (fun j=>(intV x).cell j) i j=tbF (R++[r++[x]]) A i j:=fun i j hi hj=>by
 subst ho
 by_cases h:i=at_∧j=r.length
 ·obtain ⟨rfl,rfl⟩:=h
  rw [a8T ⟨rfl,by omega,by omega⟩,a2u hr,b7v hR.symm,b7v rfl]
  rfl
 ·rw [a7b (by omega)]
  by_cases hj2:j < 32
  ·rw [a2u hj2,a2u hj2]
   congr 1
   by_cases hi2:i < R.length
   ·rw [b7u hi2,b7u hi2]
   ·by_cases hi3:i=R.length
    ·rw [b7v hi3,b7v hi3]
     by_cases hj3:j < r.length
     ·rw [b7u hj3]
     ·rw [b0R (l:=r) (by omega),b0R (l:=r++[x]) (by simp;omega)]
    ·rw [b0R (l:=R++[r]) (by simp;omega),b0R (l:=R++[r++[x]]) (by simp;omega)]
  ·obtain rfl:j=32:=by omega
   rfl
theorem c8c {R:List (List Int)} {A:List Bool} (i j:Nat):tbF R A i j=tbF (R++[[]]) A i j:=by
 by_cases hj:j < 32
 ·rw [a2u hj,a2u hj]
  congr 1
  by_cases hi2:i < R.length
  ·rw [b7u hi2]
  ·by_cases hi3:i=R.length
   ·rw [b7v hi3,b0R (l:=R) (by omega)]
   ·rw [b0R (l:=R) (by omega),b0R (l:=R++[[]]) (by simp;omega)]
 ·unfold tbF;rw [show Nat.blt j 32=false from by rw [←Bool.not_eq_true,Nat.blt_eq];omega]
theorem b9o {g n n':Nat} {F:Nat→Nat→HV} {R:List (List Int)} {A:List Bool} (hn:n=n') (h:∀ i j,i < n→j < 33→F i j=tbF R A i j):a2X ⟨g,n,33,83,0,F⟩ (stO g n' R A):=by
 subst hn;exact .of fun i j hi hj=>by rw [h i j hi hj];exact .refl _
@[reducible] def onI (wd:Nat) (on:List Bag) (i:Int):Bag:=if 0≤i∧i < (wd:Int) then onF on i.toNat else Bag.zero
theorem c8k {wd:Nat} {on:List Bag} (h:∀ i,(onF on i).ok) (i:Int):(onI wd on i).ok:=by unfold onI;split;exact h _;exact Bag.zero_ok
theorem c6h {l:List Int} {B:Nat→Bag} {p:Int} {k s:Nat} (h:l.getD k 0=(s:Int)) (hs:s < 32):b0O l B p (k+1) s=(b0O l B p k s).with_ p∧∀ t,t≠s→t < 32→b0O l B p (k+1) t=b0O l B p k t :=
 ⟨by show (if _ then _ else _)=_;rw [if_pos ⟨h,hs⟩],fun t ht _=>by show (if _ then _ else _)=_;rw [if_neg (fun e=>ht (by have:=e.1;rw [h] at this;omega))]⟩
theorem c4Y {l:List Int} {B:Nat→Bag} {p:Int} {k:Nat} (h:¬ (l.getD k 0 < 32)):b0O l B p (k+1)=b0O l B p k:=by
 funext t;show (if _ then _ else _)=_;rw [if_neg (fun e=>h (by rw [e.1];omega))]
@[reducible] def a1D (wd:Nat) (on:List Bag) (may:Bag):Nat→Bag:=b7z may.list (onI wd on) may.list.length
theorem c3j (c0 g1 g2 g3 g4 g5:Nat) (wd:Nat) (hw:wd≤1000) (on:List Bag) (hon:∀ i,(onF on i).ok) (β:Nat→Bag) (p:Pc) (hpk:p.ok) (S:List Bag) (A:List Bool) (R:List (List Int)) (may:Bag) (hm:may.ok) (hS:R.length < S.length∧S.length≤300) (hA:A.length=S.length) :
  a4s Tryz.prog 31 c0 [.pt 9001 g1 0 0,intV (R.length:Int),bagH may] [(9001,mkO g1 (netP wd on β p) g2 g3 S.length g5),(9002,tbO g2 g4 S.length),(9003,seO g3 S),(9004,stO g4 S.length R A),(9005,knO g5 S)] (a9t (fun (_:Nat×Nat) _=>True) (fun _=>.tup 0 fun _=>default) (fun q=>[(9001,mkO g1 (netP wd on β p) g2 q.1 (a1z Bag.zero (a1D wd on may) S 32).1.length g5),(9002,tbO g2 q.2 (a1z Bag.zero (a1D wd on may) S 32).1.length),(9003,seO q.1 (a1z Bag.zero (a1D wd on may) S 32).1),(9004,stO q.2 (a1z Bag.zero (a1D wd on may) S 32).1.length (R++[(a1z Bag.zero (a1D wd on may) S 32).2]) (c3c p.ends (a1D wd on may) S A 32)),(9005,knO g5 (a1z Bag.zero (a1D wd on may) S 32).1)])):=by
 have hN:∀ sh,Fz sh (netP wd on β p) (netP wd on β p):=fun sh=>Frz.fz
 have hS0:0 < S.length:=by omega
 refine b0H Tryz.func31 rfl kr _ _ _ _ rfl 54 rfl rfl (fun X ok hX hM=>?_)
 refine ru 15 ?_
 refine cll (c2d may) ?_
 refine ru 3 ?_
 refine a8a (α:=Nat) ⟨rfl,rfl,rfl⟩ (b5a may hm) rfl (cs:=[_]) rfl (fun i hi=>by first | rfl | (cases i <;> first | rfl | (simp at hi))) ⟨(Fz.eq rfl),trivial⟩ rfl (fun _=>rfl) rfl (fun x=>[(9001,mkO g1 (netP wd on β p) g2 g3 S.length g5),(9002,tbO g2 g4 S.length),(9003,seO g3 S),(9004,stO g4 S.length R A),(9005,knO g5 S),(3,⟨c0,1,1,81,0,fun _ _=>.pt 9001 g1 0 0⟩),(6,byO (c0+2) (b7z may.list (onI wd on) x))]) (fun x=>x) (fun x=>x≤may.list.length) (0) om (by first | rfl | omega) (hsr rfl (hsr rfl (hsr rfl (hsr rfl (hsr rfl (hsr rfl (a0f.cons rfl (c4i _ _ rfl) a0f.nil))))))) rfl (fun i c hx hi C1 lr hC1 NhR1 hR1=>?_) (fun i c hx hi=>?_)
 ·skip
  (try dsimp only at hx hi hR1 ⊢)
  have hpo:=a4X may.list (onI wd on)
  refine ru 4 ?_
  refine hR1 _ (fun C2 hC2=>?_)
  refine ru 8 ?_
  refine clx (c9h wd on β p _ hw) ?_
  refine clx (c2d (onI wd on (may.list.getD i 0))) ?_
  refine ru 3 ?_
  refine b8V (α:=Nat) hC2 (b5a (onI wd on (may.list.getD i 0)) (c8k hon _)) rfl (cs:=[_]) rfl (fun i hi=>by first | rfl | (cases i <;> first | rfl | (simp at hi))) ⟨(Fz.eq rfl),trivial⟩ rfl (fun _=>rfl) rfl (fun x=>[(9001,mkO g1 (netP wd on β p) g2 g3 S.length g5),(9002,tbO g2 g4 S.length),(9003,seO g3 S),(9004,stO g4 S.length R A),(9005,knO g5 S),(3,⟨c0,1,1,81,0,fun _ _=>.pt 9001 g1 0 0⟩),(6,byO (c0+2) (b0O (onI wd on (may.list.getD i 0)).list (b7z may.list (onI wd on) i) (may.list.getD i 0) x)),(7,⟨c,1,1,3,0,fun _ _=>intV (may.list.getD i 0)⟩)]) (fun x=>x) (fun x=>x≤(onI wd on (may.list.getD i 0)).list.length) (0) om (by first | rfl | omega) hsa rfl (fun k c hx hi C1 lr hC1 NhR3 hR3=>?_) (fun k c hx hi=>?_)
  ·skip
   (try dsimp only at hx hi hR3 ⊢)
   obtain ⟨s,hs256,hsA,hs⟩:=a4v (onI wd on (may.list.getD i 0)) hi;rw [hs]
   refine ru 3 ?_
   refine hR3 _ (fun C2 hC4=>?_)
   refine ru 7 ?_
   refine wdc (fun hr0 hc0=>?_) (fun hr0 hc0=>?_)
   ·skip
    have hs32:s < 32:=om;have hin:=c6h (B:=b7z may.list (onI wd on) i) (p:=may.list.getD i 0) hs hs32
    refine ru 4 ?_
    first
    | refine a3a 28 (HOp.val (v':=HV.agg 4 (fun j=>byF (b0O (onI wd on (may.list.getD i 0)).list (b7z may.list (onI wd on) i) (may.list.getD i 0) k) 0 (s * 4+j))) (a0D ty_47.h rfl (by first | exact Nat.le_of_ble_eq_true rfl | omega | (dsimp only;omega) | (simp <;> omega)) (by first | exact Nat.le_of_ble_eq_true rfl | omega | (dsimp only;omega) | (simp <;> omega)) (fun h=>(by first | rfl | cases h))) ((by show ldv true 4 _ (0+s * 4)=_;rw [c3i,Nat.zero_add]))) rfl rfl (a0P rfl) rfl rfl (k':=4) rfl ?_
    | refine a3a 28 (HOp.val (v':=HV.agg 4 (fun j=>byF (b0O (onI wd on (may.list.getD i 0)).list (b7z may.list (onI wd on) i) (may.list.getD i 0) k) 0 (s * 4+j))) (a0r ty_47.h rfl (by first | exact Nat.le_of_ble_eq_true rfl | omega | (dsimp only;omega) | (simp <;> omega)) (fun h=>(by first | rfl | cases h))) ((by show ldv true 4 _ (0+s * 4)=_;rw [c3i,Nat.zero_add]))) rfl rfl a0g rfl rfl (k':=4) rfl ?_
    refine ru 1 ?_
    refine d0 6 (a0e (xs:=[_,_]) (c3p (b0O (onI wd on (may.list.getD i 0)).list (b7z may.list (onI wd on) i) (may.list.getD i 0) k s) (b0z (a4X _ _ _) _ _) (may.list.getD i 0)) ⟨rfl,⟨rfl,trivial⟩⟩ ⟨(a1Z c3b),⟨fe,trivial⟩⟩) ?_
    refine ru 4 ?_
    exact a4k ⟨k+1,by (try dsimp only);omega,by first | rfl | omega,(hsr rfl (hsr rfl (hsr rfl (hsr rfl (hsr rfl (hsr rfl (a0f.cons rfl (a2X.of fun i' j hi' hj=>by have h9:=c5j hs32 hin.1 hin.2 i' j hi' hj;exact h9▸.refl _) hsa)))))))⟩
   refine ru 2 ?_
   exact a4k ⟨k+1,by (try dsimp only);omega,by first | rfl | omega,(hsr rfl (hsr rfl (hsr rfl (hsr rfl (hsr rfl (hsr rfl (a0f.cons rfl (by rw [c4Y (show ¬ _ < (32:Int) by rw [hs];omega)];exact .refl _) hsa)))))))⟩
  ·skip
   (try dsimp only at hx hi ⊢)
   subst hi
   refine ru 2 ?_
   exact a4k ⟨i+1,by (try dsimp only);omega,by first | rfl | omega,hsa⟩
 ·skip
  (try dsimp only at hx hi ⊢)
  subst hi
  refine ru 9 ?_
  refine a0l (α:=Nat×Nat×Nat) (fun x c=>⟨54,[(1,.v (intV (R.length:Int))),(3,.v (.pt 3 c0 0 0)),(32,.v (.agg 128 (byF (a1D wd on may) 0))),(33,.v (intV x.1))],[(9001,mkO g1 (netP wd on β p) g2 x.2.1 (a1z Bag.zero (a1D wd on may) S x.1).1.length g5),(9002,tbO g2 x.2.2 (a1z Bag.zero (a1D wd on may) S x.1).1.length),(9003,seO x.2.1 (a1z Bag.zero (a1D wd on may) S x.1).1),(9004,stO x.2.2 (a1z Bag.zero (a1D wd on may) S x.1).1.length (R++[(a1z Bag.zero (a1D wd on may) S x.1).2]) (c3c p.ends (a1D wd on may) S A x.1)),(9005,knO g5 (a1z Bag.zero (a1D wd on may) S x.1).1),(3,⟨c0,1,1,81,0,fun _ _=>.pt 9001 g1 0 0⟩)],c⟩) (fun x=>x.1≤32) (fun x=>32 - x.1) ((0,g3,g4)) om (a0c rfl (Nat.le_refl _) tsa (hsr rfl (hsr rfl (hsr rfl (a0f.cons rfl (b9o rfl fun i j _ _=>c8c i j) hsa))))) (fun x c hx NhL5 hL5=>?_)
  revert hx hL5;obtain ⟨k,q1,q2⟩:=x;intro hx hL5;dsimp only at hx hL5 ⊢
  have hl:=a3V Bag.zero (a1D wd on may) S k;have hbl:=b5v (E:=p.ends) (g:=a1D wd on may) hA k
  refine ru 6 ?_
  refine wdc (fun hr1 hc1=>?_) (fun hr1 hc1=>?_)
  ·refine ru 7 ?_
   refine s0 (b3z (len:=32) (s:=4) kr rfl rfl om om omx) ?_
   refine ru 9 ?_
   refine (a1a 38 [] rfl a0g rfl ((a1Z (c3b (B:=a1D wd on may) (s:=k))))).seq ?_
   refine a0s 39 (xs:=[_,_]) (pre:=[(9001,_),(9002,_),(9003,_),(9004,_),(9005,_)]) (c7k _ g1 g2 q1 q2 g5 wd on β p hpk (a1z Bag.zero (a1D wd on may) S k).1 (c3c p.ends (a1D wd on may) S A k) (R++[(a1z Bag.zero (a1D wd on may) S k).2]) (a1D wd on may k) (a4X _ _ _ _) om hbl (by simp;omega)) ⟨rfl,⟨rfl,trivial⟩⟩ (a0i rfl (a0i rfl (a0i rfl (a0i rfl (a0i rfl a0g))))) rfl rfl (fun x1 c1 hx1=>?_)
   obtain ⟨r1,r2⟩:=x1
   (try dsimp only)
   refine ru 3 ?_
   have hpl:=b1i Bag.zero (a1z Bag.zero (a1D wd on may) S k).1 (a1D wd on may k)
   refine ru 22 ?_
   exact hL5 ((k+1,r1,r2)) _ _ (by (try dsimp only);omega) (by (try dsimp only);omega) (a0c rfl (Nat.le_refl _) (tsr rfl (tsr rfl (tsr rfl (a0t.cons rfl (a0H om) a0t.nil)))) (hsr rfl (hsr rfl (hsr rfl (a0f.cons rfl (b9o rfl (c7K om om om)) hsa)))))
  obtain rfl:k=32:=om
  refine ru 2 ?_
  refine a0d ?_
  refine ru 1 ?_
  refine b5l ?_
  refine b4u hM ?_
  refine a1w ok hX a3g.one rfl  [] rfl a0g ((q1,q2)) (trivial) (by rfl) (by rfl) (kza) ?_
  exact ⟨⟨_,rfl,(b5e rfl rfl rfl rfl hN rfl rfl rfl rfl rfl rfl rfl)⟩,⟨⟨_,rfl,(b5W rfl rfl rfl rfl)⟩,⟨⟨_,rfl,(a3y rfl fun _ _ _ _=>.imm _)⟩,⟨⟨_,rfl,(a3y rfl fun _ _ _ _=>b3e _ _ _ _)⟩,⟨⟨_,rfl,b1P⟩,trivial⟩⟩⟩⟩⟩
def accS (e:Bool) (E:Bag) (S:List Bag):List Bool:=match S with
 | []=>[]
 | _::r=>e::r.map (fun b=>decide (b.mix a6U E 4≠Bag.zero))
theorem a7Z (e:Bool) (E:Bag) (S:List Bag):(accS e E S).length=S.length:=by cases S <;> simp [accS]
theorem c1D {e:Bool} {E:Bag} {S:List Bag} (hS:0 < S.length) (s:Bag):b7c E S (accS e E S) s=accS e E (a4g Bag.zero S s).1:=by
  unfold b7c a4g
  split
  · rfl
  · cases idA S s with
    | some n=>rfl
    | none => cases S with
      | nil=>simp at hS
      | cons x r=>simp [accS]
theorem b1q {e:Bool} {E:Bag} {S:List Bag} (hS:0 < S.length) (g:Nat→Bag):∀ k,c3c E g S (accS e E S) k=accS e E (a1z Bag.zero g S k).1
  | 0=>rfl
  | k + 1 => by
    show b7c E (a1z Bag.zero g S k).1 (c3c E g S (accS e E S) k) (g k)=accS e E (a4g Bag.zero (a1z Bag.zero g S k).1 (g k)).1
    rw [b1q hS g k,c1D (by have:=a3V Bag.zero g S k;omega)]
theorem c5K {S:List Bag} {s:Bag} (h:∀ b∈S,b.ok) (hs:s.ok):∀ b∈(a4g Bag.zero S s).1,b.ok:=by
  unfold a4g
  split
  · exact h
  · cases idA S s with
    | some n=>exact h
    | none =>
      intro b hb;rcases List.mem_append.1 hb with hb | hb;exact h b hb;simp at hb;subst hb;exact hs
theorem b4q {S:List Bag} {g:Nat→Bag} (h:∀ b∈S,b.ok) (hg:∀ k,(g k).ok):∀ k,∀ b∈(a1z Bag.zero g S k).1,b.ok
 | 0=>h
 | k+1=>c5K (b4q h hg k) (hg k)
@[reducible] def beI (wd:Nat) (β:Nat→Bag) (i:Int):Bag:=if 0≤i∧i < (wd:Int) then β i.toNat else Bag.zero
theorem c2Z {wd:Nat} {β:Nat→Bag} (h:∀ i,(β i).ok) (i:Int):(beI wd β i).ok:=by unfold beI;split;exact h _;exact Bag.zero_ok
def c0O (wd:Nat) (β:Nat→Bag) (L:List Int):Nat→Bag
 | 0=>Bag.zero
 | k+1=>bun (c0O wd β L k) (beI wd β (L.getD k 0))
theorem b4F {wd:Nat} {β:Nat→Bag} (h:∀ i,(β i).ok) (L:List Int):∀ k,(c0O wd β L k).ok
 | 0=>Bag.zero_ok
 | k+1=>a9f (b4F h L k) (c2Z h _)
def gD (wd:Nat) (on:List Bag) (β:Nat→Bag) (first:Bag) (S:List Bag) (at_:Nat):Nat→Bag:=match at_ with
 | 0=>a1D wd on first
 | k+1=>a1D wd on (c0O wd β (S.getD (k+1) Bag.zero).list (S.getD (k+1) Bag.zero).list.length)
theorem c7e {wd:Nat} {on:List Bag} {β:Nat→Bag} {first:Bag} {S:List Bag} {k:Nat} (h:1≤k):gD wd on β first S k=a1D wd on (c0O wd β (S.getD k Bag.zero).list (S.getD k Bag.zero).list.length):=by
 cases k with | zero=>omega | succ k=>rfl
def tabV (wd:Nat) (on:List Bag) (β:Nat→Bag) (p:Pc):Option (List Bag×List (List Int)):=goA Bag.zero (gD wd on β p.first) 0 [Bag.zero] []
def c9y (p:Pc):Option (List Bag×List (List Int))→HV
 | some (S,R)=>t2 (tabP R (accS p.empty p.ends S)) (intV 0)
 | none=>t2 a9s (intV 7)
theorem c6Q:HPure Tryz.prog 10 [a9s] (t2 a9s (intV 10)):=by
 refine a8V Tryz.func10 rfl kr _ _ _ rfl 69 rfl rfl (fun w F=>?_)
 refine ru 14 ?_
 refine wdc (fun hr0 hc0=>?_) (fun hr0 hc0=>?_)
 ·refine ru 8 ?_
  refine a7j ?_
  refine rt2 ?_
  exact a4F (.imm _) (.imm _)
 exfalso;simp at hr0
theorem b1a {z:Bag} {g:List Bag→Nat→Nat→Bag} {i:Nat} {S:List Bag} {R:List (List Int)} (h:i < S.length) (hS:S.length≤200):goA z g i S R=if 200 < (a1z z (g S i) S 32).1.length then none else goA z g (i+1) (a1z z (g S i) S 32).1 (R++[(a1z z (g S i) S 32).2]):=by
 by_cases h3:200 < (a1z z (g S i) S 32).1.length
 ·rw [if_pos h3];exact c5M h hS h3
 ·rw [if_neg h3];exact c6H h hS h3
theorem b6a {S:List Bag} {i:Nat} (h:∀ b∈S,b.ok) (hi:i < S.length):(S.getD i Bag.zero).ok:=by
 rw [List.getD_eq_getElem?_getD,List.getElem?_eq_getElem hi];exact h _ (List.getElem_mem hi)
theorem c8p {g2 g4 n:Nat} {R:List (List Int)} {A:List Bool} {F:Nat→Nat→HV} (hF:F 0 0=.os 9004 g4 0 n) (hn:n=R.length):Fz [(9002,⟨g2,1,1,86,0,F⟩),(9004,stO g4 n R A)] (.pt 9002 g2 0 0) (tabP R A):=by
 subst hn
 refine .pt 9002 g2 0 0 1 _ _ (.head _) rfl (Nat.lt_succ_self 0) (Nat.le_refl _) (fun j hj=>?_)
 obtain rfl:j=0:=by omega
 show Fz _ (F 0 0) _
 rw [hF]
 exact .os 9004 g4 0 R.length (stO g4 R.length R A) _ (.tail _ (.head _)) rfl (by show 0+R.length≤R.length;omega) (fun i j hi hj=>by rw [Nat.zero_add];exact b3e R A i j)
theorem b3l (wd:Nat) (hw:wd≤1000) (on:List Bag) (hon:∀ i,(onF on i).ok) (β:Nat→Bag) (hβ:∀ i,(β i).ok) (p:Pc) (hpk:p.ok):HPure Tryz.prog 10 [netP wd on β p] (c9y p (tabV wd on β p)):=by
 have h0:tabV wd on β p=if 200 < (a1z Bag.zero (a1D wd on p.first) [Bag.zero] 32).1.length then none else goA Bag.zero (gD wd on β p.first) 1 (a1z Bag.zero (a1D wd on p.first) [Bag.zero] 32).1 ([]++[(a1z Bag.zero (a1D wd on p.first) [Bag.zero] 32).2]):=b1a (S:=[Bag.zero]) (i:=0) (by decide) (by decide)
 have hA0:c3c p.ends (a1D wd on p.first) [Bag.zero] [p.empty] 32=accS p.empty p.ends (a1z Bag.zero (a1D wd on p.first) [Bag.zero] 32).1:=b1q (e:=p.empty) (S:=[Bag.zero]) (by decide) _ 32
 have hl0:=a3V Bag.zero (a1D wd on p.first) [Bag.zero] 32
 refine a8V Tryz.func10 rfl kr _ _ _ rfl 69 rfl rfl (fun w F=>?_)
 refine ru 14 ?_
 refine wdc (fun hr0 hc0=>?_) (fun hr0 hc0=>?_)
 ·skip
  exfalso;simp at hr0
 refine ru 6 ?_
 refine clx (c1Q wd on β p) ?_
 refine ru 1 ?_
 refine a2n 14 (a0b (id:=9004) (hs:=[_]) ei_84.h (nb rfl) rfl (nb rfl) ⟨rfl,rfl,rfl,rfl,trivial⟩) rfl rfl a0g rfl rfl (k':=5) rfl ?_
 refine ru 1 ?_
 refine a2n 16 (a6a (id:=9002) (sz:=1) rfl rfl rfl (nb rfl) (nb rfl)) rfl rfl a0g rfl rfl (k':=7) rfl ?_
 refine ru 1 ?_
 refine a2n 18 (a0b (id:=9003) (hs:=[_]) ei_87.h (nb rfl) rfl (nb rfl) ⟨rfl,rfl,rfl,rfl,trivial⟩) rfl rfl a0g rfl rfl (k':=9) rfl ?_
 refine a2n 19 (b3P (id:=9005)) rfl rfl a0g rfl rfl (k':=10) rfl ?_
 refine ru 1 ?_
 refine a2n 21 (a6a (id:=9001) (sz:=4) rfl rfl rfl (nb rfl) (nb rfl)) rfl rfl a0g rfl rfl (k':=12) rfl ?_
 refine ru 4 ?_
 refine (a1e 9001 (mkO 12 (netP wd on β p) 7 9 1 10) rfl (by exact b2D (.refl _) (.refl _) (.refl _) (.refl _))).wp ?_;refine (a1e 9002 (tbO 7 5 1) rfl (by exact c4N (.refl _))).wp ?_;refine (a1e 9003 (seO 9 [Bag.zero]) rfl (.of fun i j hi hj=>by obtain rfl:i=0:=(by have:i < 1:=hi;omega);match j,hj with | 0,_=>exact .refl _ | 1,_=>exact .refl _ | 2,_=>exact .refl _ | 3,_=>exact .refl _)).wp ?_;refine (a1e 9004 (stO 5 1 [] [p.empty]) rfl (.of fun i j hi hj=>by obtain rfl:i=0:=(by have:i < 1:=hi;omega);by_cases hj2:j < 32;(rw [a2u hj2];show Sb (bld [(32,1,boolV p.empty)] (fun j=>.imm ((List.replicate 32 (Value.int .i64 0)++[Value.bool false]).getD j undef)) j) _;rw [c6O rfl rfl j hj2];exact .refl _);(obtain rfl:j=32:=om;exact .refl _))).wp ?_
 refine ru 3 ?_
 refine cll (c2o wd on β p) ?_
 refine a0s 25 (xs:=[_,_,_]) (pre:=[(9001,_),(9002,_),(9003,_),(9004,_),(9005,_)]) (c3j _ 12 7 9 5 10 wd hw on hon β p hpk [Bag.zero] [p.empty] [] p.first hpk.1 ⟨by decide,by decide⟩ rfl) ⟨rfl,⟨rfl,⟨rfl,trivial⟩⟩⟩ (a0i rfl (a0i rfl (a0i rfl (a0i rfl (a0i rfl a0g))))) rfl rfl (fun x1 c1 hx1=>?_)
 obtain ⟨r1,r2⟩:=x1
 (try dsimp only)
 refine ru 4 ?_
 have hok0:=b4q (S:=[Bag.zero]) (g:=a1D wd on p.first) (by intro b hb;simp at hb;subst hb;exact Bag.zero_ok) (a4X _ _ _) 32;rw [hA0];clear hA0;generalize a1z Bag.zero (a1D wd on p.first) [Bag.zero] 32=rw0 at h0 hl0 hok0 ⊢
 refine ru 5 ?_
 refine a0l (α:=Nat×Nat×Nat×List Bag×List (List Int)) (fun x c=>⟨69,[(1,.v (.pt 1 0 0 0)),(4,.v (.pt 9001 12 0 0)),(5,.v (intV x.1))],[(9001,mkO 12 (netP wd on β p) 7 x.2.1 x.2.2.2.1.length 10),(9002,tbO 7 x.2.2.1 x.2.2.2.1.length),(9003,seO x.2.1 x.2.2.2.1),(9004,stO x.2.2.1 x.2.2.2.1.length x.2.2.2.2 (accS p.empty p.ends x.2.2.2.1)),(9005,knO 10 x.2.2.2.1),(1,⟨0,1,1,55,0,fun _ _=>netP wd on β p⟩)],c⟩) (fun x=>1≤x.1∧x.1≤x.2.2.2.1.length∧x.2.2.2.2.length=x.1∧x.2.2.2.1.length≤232∧(∀ b∈x.2.2.2.1,b.ok)∧tabV wd on β p=(if 200 < x.2.2.2.1.length then none else goA Bag.zero (gD wd on β p.first) x.1 x.2.2.2.1 x.2.2.2.2)) (fun x=>233 - x.1) ((1,r1,r2,rw0.1,[]++[rw0.2])) (by exact ⟨Nat.le_refl _,hl0.1,rfl,Nat.le_trans hl0.2.1 (by decide),hok0,h0⟩) (a0c rfl (Nat.le_refl _) tsa hsa) (fun x c hx NhL1 hL1=>?_)
 revert hx hL1;obtain ⟨i,q1,q2,S,R⟩:=x;intro hx hL1;dsimp only at hx hL1 ⊢
 obtain ⟨hi1,hiS,hRi,hS2,hok,hT⟩:=hx
 refine ru 12 ?_
 refine wdc (fun hr1 hc1=>?_) (fun hr1 hc1=>?_)
 ·skip
  have hiS2:i < S.length:=om
  refine ru 15 ?_
  refine wdc (fun hr2 hc2=>?_) (fun hr2 hc2=>?_)
  ·refine ru 10 ?_
   refine a0o ?_
   refine ru 2 ?_
   refine a7j ?_
   refine rt2 ?_
   rw [hT,if_pos om];exact a4F (.imm _) (.imm _)
  have hS3:S.length≤200:=om;have hsk:=b6a hok hiS2
  refine ru 17 ?_
  refine s0 (a0e (xs:=[_]) (c2d (S.getD i Bag.zero)) ⟨rfl,trivial⟩ ⟨(a1Z (fun j hj=>by show a6R ((S.getD (0+(i:Int).toNat) Bag.zero).word _)=_;rw [Nat.zero_add];rfl)),trivial⟩) ?_
  refine ru 3 ?_
  refine a8a (α:=Nat) ⟨rfl,rfl,rfl⟩ (b5a (S.getD i Bag.zero) hsk) rfl (cs:=[_]) rfl (fun i hi=>by first | rfl | (cases i <;> first | rfl | (simp at hi))) ⟨(Fz.eq rfl),trivial⟩ rfl (fun _=>rfl) rfl (fun x=>[(9001,mkO 12 (netP wd on β p) 7 q1 S.length 10),(9002,tbO 7 q2 S.length),(9003,seO q1 S),(9004,stO q2 S.length R (accS p.empty p.ends S)),(9005,knO 10 S),(1,⟨0,1,1,55,0,fun _ _=>netP wd on β p⟩),(6,⟨c,1,4,47,0,fun _ j=>a2I (c0O wd β (S.getD i Bag.zero).list x) j⟩)]) (fun x=>x) (fun x=>x≤(S.getD i Bag.zero).list.length) (0) om (by first | rfl | omega) (hsr rfl (hsr rfl (hsr rfl (hsr rfl (hsr rfl (hsr rfl (a0f.cons rfl (.of fun i j hi hj=>by match j,hj with | 0,_=>exact .refl _ | 1,_=>exact .refl _ | 2,_=>exact .refl _ | 3,_=>exact .refl _) a0f.nil))))))) rfl (fun m c hx hi C1 lr hC1 NhR2 hR2=>?_) (fun m c hx hi=>?_)
  ·skip
   (try dsimp only at hx hi hR2 ⊢)
   refine ru 3 ?_
   refine hR2 _ (fun C2 hC3=>?_)
   refine ru 5 ?_
   refine clx (b9C wd on β p _ hw) ?_
   refine d0 5 (a0e (xs:=[_,_]) (c5a (c0O wd β (S.getD i Bag.zero).list m) (beI wd β ((S.getD i Bag.zero).list.getD m 0)) (b4F hβ _ _) (c2Z hβ _)) ⟨rfl,⟨rfl,trivial⟩⟩ ⟨(a1Z (by exact j4 rfl rfl rfl rfl)),⟨(Fz.eq rfl),trivial⟩⟩) ?_
   refine ru 3 ?_
   exact a4k ⟨m+1,by (try dsimp only);omega,by first | rfl | omega,hsa⟩
  ·skip
   (try dsimp only at hx hi ⊢)
   subst hi;have hgd:=c7e (wd:=wd) (on:=on) (β:=β) (first:=p.first) (S:=S) hi1;have hl:=a3V Bag.zero (gD wd on β p.first S i) S 32;have hst:=b1a (z:=Bag.zero) (g:=gD wd on β p.first) (R:=R) hiS2 hS3
   refine ru 5 ?_
   refine rvl (intV (R.length:Int)) ((by rw [hRi])) ?_
   refine ru 1 ?_
   refine (a1a 57 [] rfl a0g rfl ((a1Z (by exact j4 rfl rfl rfl rfl)))).seq ?_
   refine a0s 58 (xs:=[_,_,_]) (pre:=[(9001,_),(9002,_),(9003,_),(9004,_),(9005,_)]) (c3j _ 12 7 q1 q2 10 wd hw on hon β p hpk S (accS p.empty p.ends S) R (c0O wd β (S.getD i Bag.zero).list (S.getD i Bag.zero).list.length) (b4F hβ _ _) ⟨by omega,by omega⟩ (a7Z _ _ _)) ⟨rfl,⟨rfl,⟨rfl,trivial⟩⟩⟩ (a0i rfl (a0i rfl (a0i rfl (a0i rfl (a0i rfl a0g))))) rfl rfl (fun x2 c2 hx2=>?_)
   obtain ⟨r1,r2⟩:=x2
   (try dsimp only)
   refine ru 3 ?_
   rw [b1q (e:=p.empty) (E:=p.ends) om,←hgd]
   refine ru 5 ?_
   exact hL1 ((i+1,r1,r2,(a1z Bag.zero (gD wd on β p.first S i) S 32).1,R++[(a1z Bag.zero (gD wd on β p.first S i) S 32).2])) _ _ (by (try dsimp only);exact ⟨by omega,by omega,by simp [hRi],by omega,b4q hok (by rw [hgd];exact a4X _ _ _) 32,by rw [hT,if_neg om,hst]⟩) (by (try dsimp only);omega) (a0c rfl (Nat.le_refl _) (tsr rfl (tsr rfl (a0t.cons rfl (a0H om) a0t.nil))) hsa)
 have hie:i=S.length:=om
 refine ru 2 ?_
 refine a0d ?_
 refine ru 13 ?_
 refine wdc (fun hr3 hc3=>?_) (fun hr3 hc3=>?_)
 ·refine ru 8 ?_
  refine a7j ?_
  refine rt2 ?_
  rw [hT,if_pos om];exact a4F (.imm _) (.imm _)
 refine ru 13 ?_
 refine a7j ?_
 refine a8y rfl (a0h rfl) (a0h rfl) [(9002,_),(9004,_)] rfl (a0i rfl (a0i rfl a0g)) ?_
 rw [hT,if_neg om,b9s om];exact a4F (c8p rfl om) (.imm _)
@[reducible] def c3H (b:Nat) (ob:Nat→HObj):Nat→Nat→HV:=fun _ k=>.os (b+k) (ob k).g 0 (ob k).n
@[reducible] def c3o (b:Nat) (ob:Nat→HObj) (i id c m:Nat):Nat→Nat→HV:=fun _ k=>if k=i then .os id c 0 m else .os (b+k) (ob k).g 0 (ob k).n
section
variable {C:Ctx} {n clk:Nat} {tm:List (Nat×TV)}
theorem b1V (o id b i N go:Nat) (ty:TypeId) (L:List (Nat×HObj)) (ob:Nat→HObj) (hi:i < N) (hob:o < b) (hid:id < b) (hne:id≠o) (hL:b3J b id L=true) (hfl:(ob i).fl≤(ob i).n) :
    a4I C ⟨n,tm,(o,⟨go,1,N,ty,0,c3H b ob⟩)::(L++a4U b ob (fun _=>true) N),clk⟩ ⟨n,tm,(o,⟨go,1,N,ty,0,c3o b ob i id clk (ob i).n⟩)::(id,{ ob i with g:=clk })::(L++a4U b ob (fun k=>k != i) N),clk+1⟩:=by
  have hrow:hget ((o,(⟨go,1,N,ty,0,c3H b ob⟩:HObj))::(L++a4U b ob (fun _=>true) N)) (b+i)=some (ob i):=by
    rw [a0n,a0p _ _ (by omega),a1K,a2w hL _ (.inl (by omega))]
    simp only
    rw [a1m,if_pos ⟨by omega,by omega,rfl⟩,Nat.add_sub_cancel_left]
  have key:=b2R (C:=C) (n:=n) (clk:=clk) (tm:=tm) o (b+i) id ((o,⟨go,1,N,ty,0,c3H b ob⟩)::(L++a4U b ob (fun k=>k != i) N)) (lo:=0) (m:=(ob i).n) (c3o b ob i id clk (ob i).n) hrow
    (by rw [a0n,a0w]) hne (by omega) (fun k j hk hj=>by
      by_cases e:j=i
      · subst e;right;exact ⟨rfl,by show (if j=j then _ else _)=_;rw [if_pos rfl]⟩
      · left;show (if j=i then _ else _)=_;rw [if_neg e]) (Nat.zero_le _) (fun k o' hk=>by
      rw [a0n] at hk
      by_cases e:k=o
      · subst e;rw [a0w] at hk;exact ⟨by omega,Ne.symm hne,by rw [a0n,a0w];exact hk⟩
      · rw [a0p _ _ e,a1K] at hk
        rw [a0n,a0p _ _ e,a1K]
        cases h1:hget L k with
        | some x =>
          rw [h1] at hk
          refine ⟨fun e2=>?_,fun e2=>?_,by simpa using hk⟩
          · rw [e2,a2w hL _ (.inl (by omega))] at h1;cases h1
          · rw [e2,a2w hL _ (.inr rfl)] at h1;cases h1
        | none =>
          rw [h1] at hk
          simp only at hk ⊢
          rw [a1m] at hk ⊢
          by_cases h2:b≤k∧k < b+N∧((k - b) != i)=true
          · rw [if_pos h2] at hk
            have h3:k - b≠i:=by simpa using h2.2.2
            refine ⟨by omega,by omega,?_⟩
            rw [if_pos ⟨h2.1,h2.2.1,rfl⟩];exact hk
          · rw [if_neg h2] at hk;cases hk)
  refine a4I.trans key (a6h (fun k o' hk=>⟨o',?_,a2X.refl _⟩))
  rw [a0n] at hk ⊢
  by_cases e:k=o
  · subst e;rw [a0w] at hk ⊢;exact hk
  · rw [a0p _ _ e,a0n] at hk ⊢
    by_cases e2:k=id
    · subst e2;rw [a0w] at hk ⊢;exact hk
    · rw [a0p _ _ e2] at hk ⊢
      rw [a0n,a0p _ _ e];exact hk
theorem b7q (o id b i N go c m sz fl:Nat) (ty ty2:TypeId) (f:Nat→Nat→HV) (L:List (Nat×HObj)) (ob:Nat→HObj) (hi:i < N) (hob:o < b) (hid:id < b) (hne:id≠o) (hL:b3J b id L=true) :
    a4I C ⟨n,tm,(o,⟨go,1,N,ty,0,c3o b ob i id c m⟩)::(id,⟨c,m,sz,ty2,fl,f⟩)::(L++a4U b ob (fun k=>k != i) N),clk⟩ ⟨n,tm,(o,⟨go,1,N,ty,0,c3H b (fup ob i ⟨clk,m,sz,ty2,fl,f⟩)⟩)::(L++a4U b (fup ob i ⟨clk,m,sz,ty2,fl,f⟩) (fun _=>true) N),clk+1⟩:=by
  have hLo:∀ k x,hget L k=some x→k < b∧k≠id:=fun k x h=>by
    refine ⟨Nat.lt_of_not_le fun h'=>?_,fun h'=>?_⟩
    · rw [a2w hL _ (.inl h')] at h;cases h
    · rw [a2w hL _ (.inr h')] at h;cases h
  have key:=b2R (C:=C) (n:=n) (clk:=clk) (tm:=tm) (hp:=(o,⟨go,1,N,ty,0,c3o b ob i id c m⟩)::(id,⟨c,m,sz,ty2,fl,f⟩)::(L++a4U b ob (fun k=>k != i) N)) o id (b+i) ((o,⟨go,1,N,ty,0,c3o b ob i id c m⟩)::(L++a4U b ob (fun k=>k != i) N)) (lo:=0) (m:=m) (c3H b (fup ob i ⟨clk,m,sz,ty2,fl,f⟩))
    (by rw [a0n,a0p _ _ hne,a0n,a0w]) (by rw [a0n,a0w]) (by omega) (by omega) (fun k j hk hj=>by
      by_cases e:j=i
      · subst e;right
        refine ⟨by show (if j=j then _ else _)=_;rw [if_pos rfl],?_⟩
        show HV.os (b+j) (fup ob j _ j).g 0 (fup ob j _ j).n=_
        unfold fup;rw [if_pos rfl]
      · left
        show HV.os (b+j) (fup ob i _ j).g 0 (fup ob i _ j).n=if j=i then _ else _
        unfold fup;rw [if_neg e,if_neg e]) (Nat.zero_le _) (fun k o' hk=>by
      rw [a0n] at hk
      by_cases e:k=o
      · subst e;rw [a0w] at hk;exact ⟨Ne.symm hne,by omega,by rw [a0n,a0w];exact hk⟩
      · rw [a0p _ _ e,a1K] at hk
        cases h1:hget L k with
        | some x =>
          have:=hLo k x h1
          rw [h1] at hk
          refine ⟨this.2,by omega,?_⟩
          rw [a0n,a0p _ _ e,a0n,a0p _ _ this.2,a1K,h1];exact hk
        | none =>
          rw [h1] at hk
          simp only at hk
          rw [a1m] at hk
          by_cases h2:b≤k∧k < b+N∧((k - b) != i)=true
          · have h3:k - b≠i:=by simpa using h2.2.2
            refine ⟨by omega,by omega,?_⟩
            rw [a0n,a0p _ _ e,a0n,a0p _ _ (by omega),a1K,h1]
            simp only
            rw [a1m];exact hk
          · rw [if_neg h2] at hk;cases hk)
  refine a4I.trans key (a6h (fun k o' hk=>⟨o',?_,a2X.refl _⟩))
  rw [a0n] at hk ⊢
  by_cases e:k=o
  · subst e;rw [a0w] at hk ⊢;exact hk
  · rw [a0p _ _ e] at hk ⊢
    rw [a0n]
    rw [a1K] at hk
    cases h1:hget L k with
    | some x =>
      have:=hLo k x h1
      rw [h1] at hk
      rw [a0p _ _ (by omega),a0n,a0p _ _ e,a1K,h1];exact hk
    | none =>
      rw [h1] at hk
      simp only at hk
      rw [a1m] at hk
      by_cases h2:b≤k∧k < b+N∧true=true
      · rw [if_pos h2] at hk
        by_cases e2:k=b+i
        · subst e2
          rw [a0w]
          rw [Nat.add_sub_cancel_left] at hk
          unfold fup at hk;rw [if_pos rfl] at hk;exact hk
        · rw [a0p _ _ e2,a0n,a0p _ _ e,a1K,h1]
          simp only
          rw [a1m,if_pos ⟨h2.1,h2.2.1,by simp;omega⟩]
          unfold fup at hk;rw [if_neg (by omega)] at hk;exact hk
      · rw [if_neg h2] at hk;cases hk
theorem c0f (o b N go sz:Nat) (ty ty2:TypeId) (f F:Nat→Nat→HV) (L:List (Nat×HObj)) (hF:∀ j,j < N→F 0 j=.imm (.slice none 0 0)) (hob:o < b) (hL:b3J b o L=true) (hsz:0 < sz) :
    a4I C ⟨n,tm,(o,⟨go,1,N,ty,0,F⟩)::L,clk⟩ ⟨n,tm,(o,⟨go,1,N,ty,0,c3H b (fun k=>⟨clk+k,0,sz,ty2,0,f⟩)⟩)::(L++a4U b (fun k=>⟨clk+k,0,sz,ty2,0,f⟩) (fun _=>true) N),clk+N⟩:=by
  have hLo:∀ k x,hget L k=some x→k < b∧k≠o:=fun k x h=>by
    refine ⟨Nat.lt_of_not_le fun h'=>?_,fun h'=>?_⟩
    · rw [a2w hL _ (.inl h')] at h;cases h
    · rw [a2w hL _ (.inr h')] at h;cases h
  have key:∀ m,m≤N→a4I C ⟨n,tm,(o,⟨go,1,N,ty,0,F⟩)::L,clk⟩ ⟨n,tm,(o,⟨go,1,N,ty,0,fun _ j=>if j < m then .os (b+j) (clk+j) 0 0 else F 0 j⟩)::(L++a4U b (fun k=>⟨clk+k,0,sz,ty2,0,f⟩) (fun j=>decide (j < m)) N),clk+m⟩:=by
    intro m
    induction m with
    | zero =>
      intro _
      refine a6h (fun k o' hk=>?_)
      rw [a0n] at hk ⊢
      by_cases e:k=o
      · subst e;rw [a0w] at hk ⊢
        injection hk with hk;subst hk
        exact ⟨_,rfl,.of fun i j hi hj=>by obtain rfl:i=0:=(by omega);rw [if_neg (Nat.not_lt_zero _)];exact .refl _⟩
      · rw [a0p _ _ e,a1K] at hk
        rw [a0p _ _ e]
        cases h1:hget L k with
        | some x=>rw [h1] at hk;exact ⟨o',hk,a2X.refl _⟩
        | none =>
          rw [h1] at hk
          simp only at hk
          rw [a1m] at hk
          by_cases h2:b≤k∧k < b+N∧decide (k - b < 0)=true
          · simp at h2
          · rw [if_neg h2] at hk;cases hk
    | succ m ih =>
      intro hm
      refine a4I.trans (ih (by omega)) ?_
      refine a4I.trans (a1x o m (b+m) sz ty2 f (fun _ j=>if j < m+1 then .os (b+j) (clk+j) 0 0 else F 0 j) (by rw [a0n,a0w]) (by rw [if_neg (Nat.lt_irrefl _)];exact hF m (by omega)) (fun j hj=>by
        by_cases e:j=m
        · subst e;left;exact ⟨rfl,by rw [if_pos (Nat.lt_succ_self _)]⟩
        · right
          by_cases h:j < m
          · rw [if_pos h,if_pos (by omega)]
          · rw [if_neg h,if_neg (by omega)]) (by omega) hsz (c':=clk+(m+1)) rfl) (a6h (fun k o' hk=>⟨o',?_,a2X.refl _⟩))
      rw [a0n] at hk ⊢
      by_cases e:k=o
      · subst e;rw [a0w] at hk ⊢;exact hk
      · rw [a0p _ _ e] at hk ⊢
        rw [a0n]
        rw [a1K] at hk
        cases h1:hget L k with
        | some x =>
          have:=hLo k x h1
          rw [h1] at hk
          rw [a0p _ _ (by omega),a0n,a0p _ _ e,a1K,h1];exact hk
        | none =>
          rw [h1] at hk
          simp only at hk
          rw [a1m] at hk
          by_cases h2:b≤k∧k < b+N∧decide (k - b < m+1)=true
          · rw [if_pos h2] at hk
            have h3:k - b < m+1:=by simpa using h2.2.2
            by_cases e2:k=b+m
            · subst e2
              rw [a0w]
              rw [Nat.add_sub_cancel_left] at hk;exact hk
            · rw [a0p _ _ e2,a0n,a0p _ _ e,a1K,h1]
              simp only
              rw [a1m,if_pos ⟨h2.1,h2.2.1,by simp;omega⟩];exact hk
          · rw [if_neg h2] at hk;cases hk
  refine a4I.trans (key N (Nat.le_refl _)) (a6h (fun k o' hk=>?_))
  rw [a0n] at hk ⊢
  by_cases e:k=o
  · subst e;rw [a0w] at hk ⊢
    injection hk with hk;subst hk
    exact ⟨_,rfl,.of fun i j hi hj=>by rw [if_pos hj];exact .refl _⟩
  · rw [a0p _ _ e,a1K] at hk ⊢
    refine ⟨o',?_,a2X.refl _⟩
    cases h1:hget L k with
    | some x=>rw [h1] at hk;exact hk
    | none =>
      rw [h1] at hk
      simp only at hk ⊢
      rw [a1m] at hk ⊢
      by_cases h2:b≤k∧k < b+N∧true=true
      · rw [if_pos h2] at hk
        rw [if_pos ⟨h2.1,h2.2.1,by simp;omega⟩];exact hk
      · rw [if_neg h2] at hk;cases hk
end
@[reducible] def b8Q (R:List (List Int)):Nat→Nat→HV:=fun i j=>intV ((R.getD i []).getD j 0)
@[reducible] def tdF (S:List Bag) (R:List (List Int)) (A:List Bool):Nat→HV:=fun j=>match j with
 | 0=>.sl 1 S.length (fun i _=>a0m (S.getD i Bag.zero).list)
 | 1=>.sl 32 R.length (b8Q R)
 | _=>.sl 1 A.length (fun i _=>boolV (A.getD i false))
@[reducible] def tabD (S:List Bag) (R:List (List Int)) (A:List Bool):HV:=.agg 3 (tdF S R A)
def c9w (R:List (List Int)):Prop:=∀ i,i < R.length→∀ s,s < 32→-1≤(R.getD i []).getD s 0∧(R.getD i []).getD s 0 < R.length
def a9r (R:List (List Int)) (a:Int):Nat→Bag
 | 0=>Bag.zero
 | k+1=>if nxT R a (k:Int)=-1 then a9r R a k else (a9r R a k).with_ (k:Int)
theorem b1B (R:List (List Int)) (a:Int):∀ k,(a9r R a k).ok
 | 0=>Bag.zero_ok
 | k+1=>by unfold a9r;split;exact b1B R a k;exact Bag.with_ok _ (b1B R a k) _
theorem b8S (R:List (List Int)) (A:List Bool) (a:Int):HPure Tryz.prog 15 [tabP R A,intV a] (bagH (a9r R a 32)):=by
 refine a0k Tryz.func15 rfl kr _ _ _ rfl 25 rfl rfl (fun w F=>?_)
 refine ru 17 ?_
 refine a0l (α:=Nat) (fun x c=>⟨25,[(0,.v (tabP R A)),(1,.v (intV a)),(4,.v (.pt 4 0 0 0)),(5,.v (.pt 5 1 0 0)),(9,.v (intV x))],[(4,⟨0,1,4,47,0,fun _=>a2I Bag.zero⟩),(5,⟨1,1,4,47,0,fun _ j=>a2I (a9r R a x) j⟩)],c⟩) (fun x=>x≤32) (fun x=>32 - x) (0) om (a0c rfl (Nat.le_refl _) tsa (a0f.cons rfl (.of fun i j hi hj=>by match j,hj with | 0,_=>exact .refl _ | 1,_=>exact .refl _ | 2,_=>exact .refl _ | 3,_=>exact .refl _) (a0f.cons rfl (.of fun i j hi hj=>by match j,hj with | 0,_=>exact .refl _ | 1,_=>exact .refl _ | 2,_=>exact .refl _ | 3,_=>exact .refl _) a0f.nil))) (fun k c hx NhL1 hL1=>?_)
 (try dsimp only at hx hL1 ⊢)
 refine ru 6 ?_
 refine wdc (fun hr0 hc0=>?_) (fun hr0 hc0=>?_)
 ·refine ru 15 ?_
  refine cll (b5N R A a k) ?_
  refine ru 12 ?_
  refine wdc (fun hr1 hc1=>?_) (fun hr1 hc1=>?_)
  ·skip
   have hn:nxT R a (k:Int)≠-1:=(by simpa using hr1)
   refine ru 3 ?_
   refine s0 (a0e (xs:=[_,_]) (c3p (a9r R a k) (b1B _ _ _) k) ⟨rfl,⟨rfl,trivial⟩⟩ ⟨(a1Z (by exact j4 rfl rfl rfl rfl)),⟨(Fz.eq rfl),trivial⟩⟩) ?_
   refine ru 8 ?_
   exact hL1 (k+1) _ _ (by (try dsimp only);omega) (by (try dsimp only);omega) (a0c rfl (Nat.le_refl _) (tsr rfl (tsr rfl (tsr rfl (tsr rfl (a0t.cons rfl (a0H om) a0t.nil))))) (hsr rfl (a0f.cons rfl (.of fun i j hi hj=>by show Sb _ (a2I (a9r R a (k+1)) j);rw [show a9r R a (k+1)=(a9r R a k).with_ k from if_neg hn];exact .refl _) a0f.nil)))
  have hn:nxT R a (k:Int)=-1:=(by simpa using hr1)
  refine ru 7 ?_
  exact hL1 (k+1) _ _ (by (try dsimp only);omega) (by (try dsimp only);omega) (a0c rfl (Nat.le_refl _) (tsr rfl (tsr rfl (tsr rfl (tsr rfl (a0t.cons rfl (a0H om) a0t.nil))))) (hsr rfl (a0f.cons rfl (.of fun i j hi hj=>by show Sb _ (a2I (a9r R a (k+1)) j);rw [show a9r R a (k+1)=a9r R a k from if_pos hn];exact .refl _) a0f.nil)))
 have hk:k=32:=om;subst hk
 refine ru 2 ?_
 refine a0d ?_
 refine ru 9 ?_
 refine rt1 ?_
 exact a1Z (by exact j4 rfl rfl rfl rfl)
theorem a6G (x:Bag):x.list.length≤1000000:=by have:=a2q x;omega
@[reducible] def boF (f:Nat→Bool):Nat→Nat→HV:=fun j _=>boolV (f j)
@[reducible] def c9U (n:Nat) (f:Nat→Nat→Bool):HV:=.sl 1 n (fun i _=>.sl 1 n (boF (f i)))
instance frz_rel (n:Nat) (f:Nat→Nat→Bool):Frz (c9U n f):=⟨.sl _ _ _ _ fun _ _ _ _=>.sl _ _ _ _ fun _ _ _ _=>.imm _⟩
theorem b8q {x:Nat×HObj} {hp:List (Nat×HObj)} {b k:Nat} (hx:Nat.blt x.1 b=true):hget (x::hp) (b+k)=hget hp (b+k):=by
 obtain ⟨k0,o0⟩:=x
 have:k0 < b:=by simpa [Nat.blt_eq] using hx
 rw [a0n,a0p _ _ (by omega)]
theorem b4r {b N k:Nat} {ob:Nat→HObj} (h:k < N):hget (a4U b ob (fun _=>true) N) (b+k)=some (ob k):=by
 rw [a1m,if_pos ⟨by omega,by omega,rfl⟩,Nat.add_sub_cancel_left]
def c8P (r x:Nat→Nat→Bool) (i k j:Nat):Bool:=(List.range k).any (fun q=>r i q&&x q j)
@[reducible] def c7u (n:Nat) (r x:Nat→Nat→Bool):Nat→Nat→Bool:=fun i j=>c8P r x i n j
@[reducible] def orB (r y:Nat→Nat→Bool):Nat→Nat→Bool:=fun a b=>r a b||y a b
def c9D (n:Nat) (y:Nat→Nat→Bool):Nat→Nat→Nat→Bool
 | 0=>fun i j=>decide (i=j)
 | k+1=>c7u n (c9D n y k) y
def c7A (n lo:Nat) (hi:Int) (y:Nat→Nat→Bool) (i j:Nat):Prop:=∃ k,lo≤k∧(hi < 0∨(k:Int)≤hi)∧c9D n y k i j=true
open Classical in
noncomputable def c8r (n lo:Nat) (hi:Int) (y:Nat→Nat→Bool):Nat→Nat→Bool:=fun i j=>decide (c7A n lo hi y i j)
end Go.Proofs.YtdbbbafiegpbpaaGreatDoor
namespace Go.Proofs.YtdbbbafiegpbpaaGreatDoor
set_option linter.unusedSimpArgs false
set_option linter.unusedVariables false
set_option maxRecDepth 10000
def b5b (L:List Int→Prop):Nat→List Int→Prop
 | 0,w=>w=[]
 | k+1,w=>∃ u v,w=u++v∧b5b L k u∧L v
mutual
def c0M (m:List UInt8→Bag):T→List Int→Prop
 | .name s=>fun w=>∃ a,w=[a]∧a∈(m s).list
 | .times lo hi t=>fun w=>∃ k:Nat,lo≤(k:Int)∧(hi < 0∨(k:Int)≤hi)∧b5b (c0M m t) k w
 | .many k ts=>fun w=>if k=3 then c6J m ts w else c6y m ts w
def c6J (m:List UInt8→Bag):List T→List Int→Prop
 | []=>fun _=>False
 | t::ts=>fun w=>c0M m t w∨c6J m ts w
def c6y (m:List UInt8→Bag):List T→List Int→Prop
 | []=>fun w=>w=[]
 | t::ts=>fun w=>∃ u v,w=u++v∧c0M m t u∧c6y m ts v
end
def sch (w:List Int) (x y:Nat):List Int:=(w.drop x).take (y - x)
def d0g (w:List Int) (L:List Int→Prop) (x y:Nat):Prop:=x≤y∧y≤w.length∧L (sch w x y)
def b4v (L K:List Int→Prop) (w:List Int):Prop:=∃ u v,w=u++v∧L u∧K v
end Go.Proofs.YtdbbbafiegpbpaaGreatDoor
namespace Go.Proofs.YtdbbbafiegpbpaaGreatDoor
set_option linter.unusedSimpArgs false
set_option linter.unusedVariables false
set_option maxRecDepth 100000
set_option maxHeartbeats 1000000
open Go.RowKit
abbrev Rl:=Nat→Nat→Bool
def rl0:Rl:=fun _ _=>false
open Classical in
noncomputable def c9W (m:List UInt8→Bag) (w:List Int) (t:T):Rl:=fun x y=>decide (d0g w (c0M m t) x y)
def c9Q (n:Nat) (al:List Rl) (ks:List Int):Rl:=ks.foldl (fun r k=>c7u n r (al.getD k.toNat rl0)) (fun i j=>decide (i=j))
def d0b (al:List Rl) (ks:List Int):Rl:=ks.foldl (fun r k=>orB r (al.getD k.toNat rl0)) (fun _ _=>false)
def c8v (m:List UInt8→Bag) (w:List Int) (s:List UInt8):Rl:=fun a b=>decide (a < w.length)&&(decide (b=a+1)&&decide (w.getD a 0∈(m s).list))
noncomputable def d0c (m:List UInt8→Bag) (w:List Int) (al:List Rl) (p:Pt):Rl :=
 if p.kind=1 then c8v m w p.name else if p.kind=2 then c9Q (w.length+1) al p.kids else if p.kind=3 then d0b al p.kids else c8r (w.length+1) p.low.toNat p.high (al.getD (p.kids.getD 0 0).toNat rl0)
section
variable {m:List UInt8→Bag} {w:List Int} {e:List Pt} {i b:Nat} {al:List Rl}
end
open Classical in
noncomputable def d0h (m:List UInt8→Bag) (t:T) (w:List Int):Bool:=decide (c0M m t w)
section
variable (on:List Bag) (β:Nat→Bag) (ends:Bag)
end
section
variable {on:List Bag} {β:Nat→Bag} {ends:Bag} {ps:List Int} {a:Int}
end
theorem c0H (x y:Bag) (k:Nat):(x.mix a6U y 4).has k=(x.has k&&y.has k):=by
 unfold Bag.has
 have:∀ q,(x.mix a6U y 4).word q=a6U (x.word q) (y.word q):=fun q=>by
  match q with
  | 0=>rfl
  | 1=>rfl
  | 2=>rfl
  | q+3=>rfl
 rw [this]
 unfold a6U
 rw [Nat.testBit_and]
section
variable {on:List Bag} {ends:Bag} {ps:List Int} {a:Int}
end
end Go.Proofs.YtdbbbafiegpbpaaGreatDoor
namespace Go.Proofs.YtdbbbafiegpbpaaGreatDoor
set_option linter.unusedSimpArgs false
set_option linter.unusedVariables false
set_option linter.unusedSectionVars false
set_option maxRecDepth 10000
structure Mc where
 F:Nat→Nat→Prop
 I:Nat→Prop
 E:Nat→Prop
 e:Prop
theorem b2N {A B:Mc} (h1:∀ p q,A.F p q↔B.F p q) (h2:∀ p,A.I p↔B.I p) (h3:∀ p,A.E p↔B.E p) (h4:A.e↔B.e):A=B:=by
 cases A;cases B
 have e1:=funext fun p=>funext fun q=>propext (h1 p q)
 have e2:=funext fun p=>propext (h2 p)
 have e3:=funext fun p=>propext (h3 p)
 have e4:=propext h4
 dsimp only at e1 e2 e3 e4
 subst e1;subst e2;subst e3;subst e4;rfl
structure Mc.In (N M:Nat) (A:Mc):Prop where
 F:∀ {p q},A.F p q→(N≤p∧p < M)∧N≤q∧q < M
 I:∀ {p},A.I p→N≤p∧p < M
 E:∀ {p},A.E p→N≤p∧p < M
theorem Mc.In.mono {N M N' M':Nat} {A:Mc} (h:A.In N M) (h1:N'≤N) (h2:M≤M'):A.In N' M' :=
 ⟨fun k=>by have:=h.F k;omega,fun k=>by have:=h.I k;omega,fun k=>by have:=h.E k;omega⟩
def Mc.alt (A B:Mc):Mc:=⟨fun p q=>A.F p q∨B.F p q,fun p=>A.I p∨B.I p,fun p=>A.E p∨B.E p,A.e∨B.e⟩
def Mc.cat (A B:Mc):Mc:=⟨fun p q=>A.F p q∨B.F p q∨(A.E p∧B.I q),fun p=>A.I p∨(A.e∧B.I p),fun p=>B.E p∨(B.e∧A.E p),A.e∧B.e⟩
def Mc.plus (A:Mc):Mc:=⟨fun p q=>A.F p q∨(A.E p∧A.I q),A.I,A.E,A.e⟩
def Mc.opt (A:Mc):Mc:=⟨A.F,A.I,A.E,True⟩
def Mc.unit:Mc:=⟨fun _ _=>False,fun _=>False,fun _=>False,True⟩
def Mc.void:Mc:=⟨fun _ _=>False,fun _=>False,fun _=>False,False⟩
section
variable {N M K:Nat} {A B:Mc}
theorem a8N:Mc.unit.In N M:=⟨fun h=>h.elim,fun h=>h.elim,fun h=>h.elim⟩
theorem c3Y:Mc.void.In N M:=⟨fun h=>h.elim,fun h=>h.elim,fun h=>h.elim⟩
theorem c7Z (hA:A.In N M):A.opt.In N M:=⟨hA.F,hA.I,hA.E⟩
theorem c5T (hA:A.In N M):A.plus.In N M :=
 ⟨fun h=>h.elim (fun h=>hA.F h) (fun h=>⟨hA.E h.1,hA.I h.2⟩),hA.I,hA.E⟩
theorem c6L (hA:A.In N M) (hB:B.In N M):(A.alt B).In N M :=
 ⟨fun h=>h.elim (fun h=>hA.F h) (fun h=>hB.F h),fun h=>h.elim (fun h=>hA.I h) (fun h=>hB.I h),fun h=>h.elim (fun h=>hA.E h) (fun h=>hB.E h)⟩
theorem b6j (hA:A.In N M) (hB:B.In N M):(A.cat B).In N M :=
 ⟨fun h=>h.elim (fun h=>hA.F h) (fun h=>h.elim (fun h=>hB.F h) (fun h=>⟨hA.E h.1,hB.I h.2⟩)),fun h=>h.elim (fun h=>hA.I h) (fun h=>hB.I h.2),fun h=>h.elim (fun h=>hB.E h) (fun h=>hA.E h.2)⟩
variable (σ:Nat→Int→Prop)
def a4W (A:Mc):List Int→Nat→Prop
 | [],_=>False
 | a::w,p=>σ p a∧((w=[]∧A.E p)∨∃ q,A.F p q∧a4W A w q)
def Mc.L (A:Mc) (w:List Int):Prop:=(w=[]∧A.e)∨∃ p,A.I p∧a4W σ A w p
theorem a3q {A B:Mc} (P:Nat→Prop) (hF:∀ p q,P p→(A.F p q↔B.F p q)) (hE:∀ p,P p→(A.E p↔B.E p)) (hP:∀ p q,P p→A.F p q→P q):∀ w p,P p→(a4W σ A w p↔a4W σ B w p)
  | [],_,_=>Iff.rfl
  | a :: w, p, h => by
    simp only [a4W]
    refine and_congr_right fun _=>or_congr (and_congr_right fun _=>hE p h) (exists_congr fun q=>?_)
    constructor
    · rintro ⟨h1,h2⟩;exact ⟨(hF p q h).1 h1,(a3q P hF hE hP w q (hP p q h h1)).1 h2⟩
    · rintro ⟨h1,h2⟩;have h3:=(hF p q h).2 h1;exact ⟨h3,(a3q P hF hE hP w q (hP p q h h3)).2 h2⟩
theorem b5x (hA:A.In N M) (hB:B.In M K) (w:List Int) (p:Nat) (h:p < M):a4W σ (A.alt B) w p↔a4W σ A w p :=
 a3q σ (A:=A.alt B) (B:=A) (fun p=>p < M) (fun p q hp=>⟨fun h=>h.resolve_right fun h2=>by have:=(hB.F h2).1;omega,.inl⟩) (fun p hp=>⟨fun h=>h.resolve_right fun h2=>by have:=hB.E h2;omega,.inl⟩) (fun p q hp h=>by
  rcases h with h | h
  ·exact (hA.F h).2.2
  ·have:=(hB.F h).1;omega) w p h
theorem b2V (hA:A.In N M) (hB:B.In M K) (w:List Int) (p:Nat) (h:M≤p):a4W σ (A.alt B) w p↔a4W σ B w p :=
 a3q σ (A:=A.alt B) (B:=B) (fun p=>M≤p) (fun p q hp=>⟨fun h=>h.resolve_left fun h2=>by have:=(hA.F h2).1;omega,.inr⟩) (fun p hp=>⟨fun h=>h.resolve_left fun h2=>by have:=hA.E h2;omega,.inr⟩) (fun p q hp h=>by
  rcases h with h | h
  ·have:=(hA.F h).1;omega
  ·exact (hB.F h).2.1) w p h
theorem c9d (hA:A.In N M) (hB:B.In M K) (w:List Int):(A.alt B).L σ w↔A.L σ w∨B.L σ w:=by
 constructor
 ·rintro (⟨rfl,h | h⟩ | ⟨p,h | h,h2⟩)
  ·exact .inl (.inl ⟨rfl,h⟩)
  ·exact .inr (.inl ⟨rfl,h⟩)
  ·exact .inl (.inr ⟨p,h,(b5x σ hA hB w p (hA.I h).2).1 h2⟩)
  ·exact .inr (.inr ⟨p,h,(b2V σ hA hB w p (hB.I h).1).1 h2⟩)
 ·rintro ((⟨rfl,h⟩ | ⟨p,h,h2⟩) | (⟨rfl,h⟩ | ⟨p,h,h2⟩))
  ·exact .inl ⟨rfl,.inl h⟩
  ·exact .inr ⟨p,.inl h,(b5x σ hA hB w p (hA.I h).2).2 h2⟩
  ·exact .inl ⟨rfl,.inr h⟩
  ·exact .inr ⟨p,.inr h,(b2V σ hA hB w p (hB.I h).1).2 h2⟩
theorem a6O (hA:A.In N M) (hB:B.In M K) (w:List Int) (p:Nat) (h:M≤p):a4W σ (A.cat B) w p↔a4W σ B w p :=
 a3q σ (A:=A.cat B) (B:=B) (fun p=>M≤p) (fun p q hp=>⟨fun h=>by
   rcases h with h | h | h
   ·have:=(hA.F h).1;omega
   ·exact h
   ·have:=hA.E h.1;omega,fun h=>.inr (.inl h)⟩) (fun p hp=>⟨fun h=>h.resolve_right fun h2=>by have:=hA.E h2.2;omega,.inl⟩) (fun p q hp h=>by
  rcases h with h | h | h
  ·have:=(hA.F h).1;omega
  ·exact (hB.F h).2.1
  ·have:=hA.E h.1;omega) w p h
theorem a7V (hA:A.In N M) (hB:B.In M K):∀ w p,p < M→(a4W σ (A.cat B) w p↔∃ u v,w=u++v∧a4W σ A u p∧B.L σ v)
  | [], p, h => by
    constructor
    · exact fun h=>h.elim
    · rintro ⟨u,v,e,h1,h2⟩
      cases u with
      | nil=>exact h1
      | cons a u=>cases e
  | a :: w, p, h => by
    constructor
    · rintro ⟨hs,h1⟩
      rcases h1 with ⟨rfl,h1⟩ | ⟨q,h1,h2⟩
      · rcases h1 with h1 | ⟨h1,h3⟩
        · have:=hB.E h1;omega
        · exact ⟨[a],[],rfl,⟨hs,.inl ⟨rfl,h3⟩⟩,.inl ⟨rfl,h1⟩⟩
      · rcases h1 with h1 | h1 | ⟨h1,h3⟩
        · obtain ⟨u,v,e,h4,h5⟩:=(a7V hA hB w q (hA.F h1).2.2).1 h2
          exact ⟨a::u,v,by rw [e];rfl,⟨hs,.inr ⟨q,h1,h4⟩⟩,h5⟩
        · have:=(hB.F h1).1;omega
        · exact ⟨[a],w,rfl,⟨hs,.inl ⟨rfl,h1⟩⟩,.inr ⟨q,h3,(a6O σ hA hB w q (hB.I h3).1).1 h2⟩⟩
    · rintro ⟨u,v,e,h1,h2⟩
      cases u with
      | nil=>exact h1.elim
      | cons b u =>
        obtain ⟨rfl,rfl⟩:=List.cons.inj e
        obtain ⟨hs,h3⟩:=h1
        refine ⟨hs,?_⟩
        rcases h3 with ⟨rfl,h3⟩ | ⟨q,h3,h4⟩
        · rcases h2 with ⟨rfl,h2⟩ | ⟨q,h2,h4⟩
          · exact .inl ⟨rfl,.inr ⟨h2,h3⟩⟩
          · exact .inr ⟨q,.inr (.inr ⟨h3,h2⟩),(a6O σ hA hB _ q (hB.I h2).1).2 h4⟩
        · exact .inr ⟨q,.inl h3,(a7V hA hB _ q (hA.F h3).2.2).2 ⟨u,v,rfl,h4,h2⟩⟩
theorem b2j (hA:A.In N M) (hB:B.In M K) (w:List Int):(A.cat B).L σ w↔b4v (A.L σ) (B.L σ) w:=by
 constructor
 ·rintro (⟨rfl,h1,h2⟩ | ⟨p,h | ⟨h,h3⟩,h2⟩)
  ·exact ⟨[],[],rfl,.inl ⟨rfl,h1⟩,.inl ⟨rfl,h2⟩⟩
  ·obtain ⟨u,v,e,h4,h5⟩:=(a7V σ hA hB w p (hA.I h).2).1 h2
   exact ⟨u,v,e,.inr ⟨p,h,h4⟩,h5⟩
  ·exact ⟨[],w,rfl,.inl ⟨rfl,h⟩,.inr ⟨p,h3,(a6O σ hA hB w p (hB.I h3).1).1 h2⟩⟩
 ·rintro ⟨u,v,rfl,⟨rfl,h1⟩ | ⟨p,h1,h2⟩,h3⟩
  ·rcases h3 with ⟨rfl,h3⟩ | ⟨q,h3,h4⟩
   ·exact .inl ⟨rfl,h1,h3⟩
   ·exact .inr ⟨q,.inr ⟨h1,h3⟩,(a6O σ hA hB _ q (hB.I h3).1).2 h4⟩
  ·exact .inr ⟨p,.inl h1,(a7V σ hA hB _ p (hA.I h1).2).2 ⟨u,v,rfl,h2,h3⟩⟩
end
def b6K (L:List Int→Prop) (w:List Int):Prop:=∃ j,b5b L j w
theorem a1H {L:List Int→Prop}:∀ {k:Nat} {w:List Int},b5b L (k+1) w↔b4v L (b5b L k) w
  | 0, w => by
    constructor
    · rintro ⟨u,v,e,h1,h2⟩
      have h3:u=[]:=h1
      subst h3
      exact ⟨v,[],by rw [e];simp,h2,rfl⟩
    · rintro ⟨u,v,e,h1,h2⟩
      have h3:v=[]:=h2
      subst h3
      exact ⟨[],u,by rw [e];simp,rfl,h1⟩
  | k + 1, w => by
    constructor
    · rintro ⟨u,v,rfl,h1,h2⟩
      obtain ⟨u1,u2,rfl,h3,h4⟩:=a1H.1 h1
      exact ⟨u1,u2++v,List.append_assoc ..,h3,u2,v,rfl,h4,h2⟩
    · rintro ⟨u,v,rfl,h1,v1,v2,rfl,h2,h3⟩
      exact ⟨u++v1,v2,(List.append_assoc ..).symm,a1H.2 ⟨u,v1,rfl,h1,h2⟩,h3⟩
theorem a5B {L:List Int→Prop} (a:Nat):∀ {b:Nat} {w:List Int},b5b L (a+b) w↔b4v (b5b L a) (b5b L b) w
  | 0, w => by
    constructor
    · exact fun h=>⟨w,[],by simp,h,rfl⟩
    · rintro ⟨u,v,e,h1,h2⟩
      have h3:v=[]:=h2
      subst h3
      rw [e,List.append_nil];exact h1
  | b + 1, w => by
    constructor
    · rintro ⟨u,v,rfl,h1,h2⟩
      obtain ⟨u1,u2,rfl,h3,h4⟩:=(a5B a).1 h1
      exact ⟨u1,u2++v,List.append_assoc ..,h3,u2,v,rfl,h4,h2⟩
    · rintro ⟨u,v,rfl,h1,v1,v2,rfl,h2,h3⟩
      exact ⟨u++v1,v2,(List.append_assoc ..).symm,(a5B a).2 ⟨u,v1,rfl,h1,h2⟩,h3⟩
theorem b4G {L:List Int→Prop} {u v:List Int} (h1:L u):b6K L v→b6K L (u++v)
 | ⟨j,h⟩=>⟨j+1,a1H.2 ⟨u,v,rfl,h1,h⟩⟩
theorem a5W {L:List Int→Prop}:∀ {j:Nat} {w:List Int},b5b L j w→w=[]∨∃ u v,w=u++v∧u≠[]∧L u∧b6K L v
  | 0,w,h=>.inl h
  | j + 1, w, h => by
    obtain ⟨u,v,rfl,h1,h2⟩:=a1H.1 h
    cases u with
    | nil=>exact a5W h2
    | cons a u=>exact .inr ⟨a::u,v,rfl,List.cons_ne_nil _ _,h1,j,h2⟩
theorem a3r {L L' K K':List Int→Prop} (h1:∀ w,L w↔L' w) (h2:∀ w,K w↔K' w) (w:List Int):b4v L K w↔b4v L' K' w:=by
 have e1:L=L':=funext fun w=>propext (h1 w)
 have e2:K=K':=funext fun w=>propext (h2 w)
 rw [e1,e2]
section
variable (σ:Nat→Int→Prop) {A:Mc}
theorem c4h (w:List Int):A.opt.L σ w↔w=[]∨A.L σ w:=by
 have hr:∀ p,a4W σ A.opt w p↔a4W σ A w p:=fun p=>a3q σ (A:=A.opt) (B:=A) (fun _=>True) (fun _ _ _=>Iff.rfl) (fun _ _=>Iff.rfl) (fun _ _ _ _=>trivial) w p trivial
 constructor
 ·rintro (⟨h,_⟩ | ⟨p,h1,h2⟩)
  ·exact .inl h
  ·exact .inr (.inr ⟨p,h1,(hr p).1 h2⟩)
 ·rintro (h | ⟨h,_⟩ | ⟨p,h1,h2⟩)
  ·exact .inl ⟨h,trivial⟩
  ·exact .inl ⟨h,trivial⟩
  ·exact .inr ⟨p,h1,(hr p).2 h2⟩
theorem a5R (w:List Int):Mc.unit.L σ w↔w=[]:=⟨fun h=>h.elim (fun h=>h.1) (fun ⟨_,h,_⟩=>h.elim),fun h=>.inl ⟨h,trivial⟩⟩
theorem c8x (w:List Int):Mc.void.L σ w↔False:=⟨fun h=>h.elim (fun h=>h.2) (fun ⟨_,h,_⟩=>h),fun h=>h.elim⟩
theorem a4K:∀ w p,a4W σ A.plus w p↔∃ u v,w=u++v∧a4W σ A u p∧b6K (A.L σ) v
  | [], p => by
    constructor
    · exact fun h=>h.elim
    · rintro ⟨u,v,e,h1,h2⟩
      cases u with
      | nil=>exact h1
      | cons a u=>cases e
  | a :: w, p => by
    constructor
    · rintro ⟨hs,⟨rfl,h1⟩ | ⟨q,h1 | ⟨h1,h3⟩,h2⟩⟩
      · exact ⟨[a],[],rfl,⟨hs,.inl ⟨rfl,h1⟩⟩,0,rfl⟩
      · obtain ⟨u,v,e,h4,h5⟩:=(a4K w q).1 h2
        exact ⟨a::u,v,by rw [e];rfl,⟨hs,.inr ⟨q,h1,h4⟩⟩,h5⟩
      · obtain ⟨u,v,e,h4,h5⟩:=(a4K w q).1 h2
        exact ⟨[a],w,rfl,⟨hs,.inl ⟨rfl,h1⟩⟩,by rw [e];exact b4G (.inr ⟨q,h3,h4⟩) h5⟩
    · rintro ⟨u,v,e,h1,h2⟩
      cases u with
      | nil=>exact h1.elim
      | cons b u =>
        obtain ⟨rfl,rfl⟩:=List.cons.inj e
        obtain ⟨hs,h3⟩:=h1
        refine ⟨hs,?_⟩
        rcases h3 with ⟨rfl,h3⟩ | ⟨q,h3,h4⟩
        · obtain ⟨j,hj⟩:=h2
          rcases a5W hj with rfl | ⟨u1,v1,rfl,h4,h5,h6⟩
          · exact .inl ⟨rfl,h3⟩
          · rcases h5 with ⟨h5,_⟩ | ⟨q,h5,h7⟩
            · exact absurd h5 h4
            · exact .inr ⟨q,.inr ⟨h3,h5⟩,(a4K _ q).2 ⟨u1,v1,rfl,h7,h6⟩⟩
        · exact .inr ⟨q,.inl h3,(a4K _ q).2 ⟨u,v,rfl,h4,h2⟩⟩
theorem c7i (w:List Int):A.plus.L σ w↔b4v (A.L σ) (b6K (A.L σ)) w:=by
 constructor
 ·rintro (⟨rfl,h⟩ | ⟨p,h,h2⟩)
  ·exact ⟨[],[],rfl,.inl ⟨rfl,h⟩,0,rfl⟩
  ·obtain ⟨u,v,e,h4,h5⟩:=(a4K σ w p).1 h2
   exact ⟨u,v,e,.inr ⟨p,h,h4⟩,h5⟩
 ·rintro ⟨u,v,rfl,⟨rfl,h1⟩ | ⟨p,h1,h2⟩,h3⟩
  ·obtain ⟨j,hj⟩:=h3
   rcases a5W hj with rfl | ⟨u1,v1,rfl,h4,h5,h6⟩
   ·exact .inl ⟨rfl,h1⟩
   ·rcases h5 with ⟨h5,_⟩ | ⟨q,h5,h7⟩
    ·exact absurd h5 h4
    ·exact .inr ⟨q,h5,(a4K σ _ q).2 ⟨u1,v1,rfl,h7,h6⟩⟩
  ·exact .inr ⟨p,h1,(a4K σ _ p).2 ⟨u,v,rfl,h2,h3⟩⟩
end
def a6E (x:Bag) (p:Nat):Prop:=p < 256∧x.has p=true
theorem a8e {x y:Bag} {p:Nat}:a6E (bun x y) p↔a6E x p∨a6E y p:=by
 unfold a6E;rw [b1k,Bool.or_eq_true,and_or_left]
theorem a2N {p:Nat}:a6E Bag.zero p↔False:=by
 unfold a6E;rw [Bag.zero_has];simp
theorem b3F {n p:Nat} (hn:n < 256):a6E (a3f n) p↔p=n:=by
 constructor
 ·rintro ⟨h,h2⟩;rw [a5H _ _ h] at h2;exact of_decide_eq_true h2
 ·rintro rfl;exact ⟨hn,by rw [a5H _ _ hn];exact decide_eq_true rfl⟩
def fol (lk:List Lk) (p q:Nat):Prop:=∃ l∈lk,a6E l.1 p∧a6E l.2 q
theorem a6g {p q:Nat}:fol [] p q↔False:=by simp [fol]
theorem a4a {l k:List Lk} {p q:Nat}:fol (l++k) p q↔fol l p q∨fol k p q:=by
 simp only [fol,List.mem_append,or_and_right,exists_or]
theorem a8m {a b:Bag} {p q:Nat}:fol [(a,b)] p q↔a6E a p∧a6E b q:=by simp [fol]
theorem c1i {l k:List Lk} (h:l.Perm k) {p q:Nat}:fol l p q↔fol k p q:=by
 simp only [fol,h.mem_iff]
def mcO (lk:List Lk) (x:Pc):Mc:=⟨fol lk,a6E x.first,a6E x.ends,x.empty=true⟩
theorem b5S {a b:Pc} {p:Nat}:a6E (a.join b).first p↔a6E a.first p∨(a.empty=true∧a6E b.first p):=by
 unfold Pc.join;dsimp only
 cases a.empty with
 | true=>rw [if_pos rfl,a8e];simp
 | false=>rw [if_neg (by decide)];simp
theorem b4X {a b:Pc} {p:Nat}:a6E (a.join b).ends p↔a6E b.ends p∨(b.empty=true∧a6E a.ends p):=by
 unfold Pc.join;dsimp only
 cases b.empty with
 | true=>rw [if_pos rfl,a8e];simp
 | false=>rw [if_neg (by decide)];simp
theorem b7R {a b:Pc}:(a.join b).empty=true↔a.empty=true∧b.empty=true:=by
 unfold Pc.join;dsimp only;rw [Bool.and_eq_true]
theorem c0G (l k:List Lk) (a b:Pc):mcO (l++k++[(a.ends,b.first)]) (a.join b)=(mcO l a).cat (mcO k b) :=
 b2N (fun p q=>by show fol _ p q↔fol l p q∨fol k p q∨_;rw [a4a,a4a,a8m,or_assoc];rfl) (fun p=>b5S) (fun p=>b4X) b7R
theorem b7J (l k:List Lk) (a b:Pc):mcO (l++k) ⟨bun a.first b.first,bun a.ends b.ends,a.empty||b.empty⟩=(mcO l a).alt (mcO k b) :=
 b2N (fun p q=>a4a) (fun p=>a8e) (fun p=>a8e) (by show (_||_)=true↔_;rw [Bool.or_eq_true];rfl)
theorem b4b:mcO [] Pc.nil=Mc.unit:=b2N (fun _ _=>a6g) (fun _=>a2N) (fun _=>a2N) (by show true=true↔True;simp)
theorem b8y:mcO [] default=Mc.void:=b2N (fun _ _=>a6g) (fun _=>a2N) (fun _=>a2N) (by show false=true↔False;simp)
section
variable (hi:Int) (g:Nat→Ly) (many:Nat)
def xkM (k:Nat):Mc:=if hi < 0∧k+1=many then (mcO (g k).lk (g k).pc).plus else mcO (g k).lk (g k).pc
def jjM:Nat→Mc
 | 0=>Mc.unit
 | k+1=>(jjM k).cat (xkM hi g many k)
def ttM:Nat→Nat→Mc
 | _,0=>Mc.unit
 | k,n+1=>((xkM hi g many k).cat (ttM (k+1) n)).opt
def a8j:Nat→Nat→List Pc
 | _,0=>[]
 | k,n+1=>(g k).pc::a8j (k+1) n
variable {hi:Int} {g:Nat→Ly} {many:Nat}
theorem a9R:∀ n k,a8j g k (n+1)=a8j g k n++[(g (k+n)).pc]
  | 0,k=>rfl
  | n + 1, k => by
    rw [a8j,a9R n (k+1),a8j,List.cons_append,show k+1+n=k+(n+1) by omega]
theorem b4k (lo:Nat):∀ k,a3Y lo g k=a8j g lo (k - lo)
  | 0=>by rw [Nat.zero_sub];rfl
  | k + 1 => by
    rw [a3Y]
    split
    · rw [b4k lo k,show k - lo=0 by omega,show k+1 - lo=0 by omega]
    · rw [b4k lo k,show k+1 - lo=(k - lo)+1 by omega,a9R,show lo+(k - lo)=k by omega]
theorem c4t {k p:Nat}:(xkM hi g many k).I p↔a6E (g k).pc.first p:=by unfold xkM;split <;> exact Iff.rfl
theorem c5U {k p:Nat}:(xkM hi g many k).E p↔a6E (g k).pc.ends p:=by unfold xkM;split <;> exact Iff.rfl
theorem c4f {k:Nat}:(xkM hi g many k).e↔(g k).pc.empty=true:=by unfold xkM;split <;> exact Iff.rfl
theorem c8J {k p q:Nat}:(xkM hi g many k).F p q↔fol ((g k).lk++(if hi < 0∧k+1=many then [((g k).pc.ends,(g k).pc.first)] else [])) p q:=by
 unfold xkM
 split
 ·rw [a4a,a8m];exact Iff.rfl
 ·rw [List.append_nil];exact Iff.rfl
theorem c7T {p q:Nat}:∀ k,fol (lkP hi g many k) p q↔∃ i,i < k∧(xkM hi g many i).F p q
  | 0=>⟨fun h=>(a6g.1 h).elim,fun ⟨i,h,_⟩=>by omega⟩
  | k + 1 => by
    rw [lkP,List.append_assoc,a4a,←c8J,c7T k]
    constructor
    · rintro (⟨i,h,h2⟩ | h)
      · exact ⟨i,by omega,h2⟩
      · exact ⟨k,by omega,h⟩
    · rintro ⟨i,h,h2⟩
      by_cases e:i=k
      · exact .inr (e▸h2)
      · exact .inl ⟨i,by omega,h2⟩
theorem c4J:∀ k,(∀ p,(jjM hi g many k).I p↔a6E (b2X g k).first p)∧(∀ p,(jjM hi g many k).E p↔a6E (b2X g k).ends p)∧((jjM hi g many k).e↔(b2X g k).empty=true)
  | 0=>⟨fun p=>a2N.symm,fun p=>a2N.symm,by show True↔true=true;simp⟩
  | k + 1 => by
    obtain ⟨h1,h2,h3⟩:=c4J k
    refine ⟨fun p=>?_,fun p=>?_,?_⟩
    · show (jjM hi g many k).I p∨((jjM hi g many k).e∧_)↔_
      rw [h1,h3,c4t];exact b5S.symm
    · show (xkM hi g many k).E p∨((xkM hi g many k).e∧(jjM hi g many k).E p)↔_
      rw [h2,c4f,c5U];exact b4X.symm
    · show _∧_↔_
      rw [h3,c4f];exact b7R.symm
theorem c7x {p q:Nat}:∀ k,(jjM hi g many k).F p q↔(∃ i,i < k∧(xkM hi g many i).F p q)∨fol (lkJ g k) p q
  | 0=>⟨fun h=>h.elim,fun h=>h.elim (fun ⟨i,h,_⟩=>by omega) (fun h=>a6g.1 h)⟩
  | k + 1 => by
    show _∨_∨_↔_
    rw [c7x k,(c4J k).2.1 p,c4t,lkJ,a4a,a8m]
    constructor
    · rintro ((⟨i,h,h2⟩ | h) | h | h)
      · exact .inl ⟨i,by omega,h2⟩
      · exact .inr (.inl h)
      · exact .inl ⟨k,by omega,h⟩
      · exact .inr (.inr h)
    · rintro (⟨i,h,h2⟩ | h | h)
      · by_cases e:i=k
        · exact .inr (.inl (e▸h2))
        · exact .inl (.inl ⟨i,by omega,h2⟩)
      · exact .inl (.inr h)
      · exact .inr (.inr h)
theorem c3Q:∀ n k,(∀ p,(ttM hi g many k n).I p↔a6E (a1X (a8j g k n)).2.first p)∧(∀ p,(ttM hi g many k n).E p↔a6E (a1X (a8j g k n)).2.ends p)∧((ttM hi g many k n).e↔(a1X (a8j g k n)).2.empty=true)
  | 0,k=>⟨fun p=>a2N.symm,fun p=>a2N.symm,by show True↔true=true;simp⟩
  | n + 1, k => by
    obtain ⟨h1,h2,h3⟩:=c3Q n (k+1)
    refine ⟨fun p=>?_,fun p=>?_,?_⟩
    · show (xkM hi g many k).I p∨((xkM hi g many k).e∧(ttM hi g many (k+1) n).I p)↔_
      rw [h1,c4f,c4t];exact b5S.symm
    · show (ttM hi g many (k+1) n).E p∨((ttM hi g many (k+1) n).e∧(xkM hi g many k).E p)↔_
      rw [h2,h3,c5U];exact b4X.symm
    · show True↔true=true;simp
theorem c6B {p q:Nat}:∀ n k,(ttM hi g many k n).F p q↔(∃ i,k≤i∧i < k+n∧(xkM hi g many i).F p q)∨fol (a1X (a8j g k n)).1 p q
  | 0,k=>⟨fun h=>h.elim,fun h=>h.elim (fun ⟨i,h,h2,_⟩=>by omega) (fun h=>a6g.1 h)⟩
  | n + 1, k => by
    show (xkM hi g many k).F p q∨(ttM hi g many (k+1) n).F p q∨((xkM hi g many k).E p∧(ttM hi g many (k+1) n).I q)↔_
    rw [c6B n (k+1),(c3Q n (k+1)).1 q,c5U,a8j,a1X,a4a,a8m]
    constructor
    · rintro (h | (⟨i,h,h2,h3⟩ | h) | h)
      · exact .inl ⟨k,Nat.le_refl _,by omega,h⟩
      · exact .inl ⟨i,by omega,by omega,h3⟩
      · exact .inr (.inl h)
      · exact .inr (.inr h)
    · rintro (⟨i,h,h2,h3⟩ | h | h)
      · by_cases e:i=k
        · exact .inl (e▸h3)
        · exact .inr (.inl (.inl ⟨i,by omega,by omega,h3⟩))
      · exact .inr (.inl (.inr h))
      · exact .inr (.inr h)
theorem c7O {lo:Int} (hlo:0≤lo) (hm:lo.toNat≤a0j lo hi):mcO (a6V lo hi g).lk (a6V lo hi g).pc=(jjM hi g (a0j lo hi) lo.toNat).cat (ttM hi g (a0j lo hi) lo.toNat (a0j lo hi - lo.toNat)):=by
 obtain ⟨h1,h2,h3,h4⟩:=b1v (hi:=hi) hlo g (a0j lo hi) (a0j lo hi)
 rw [Nat.min_eq_right hm] at h2 h3
 obtain ⟨j1,j2,j3⟩:=c4J (hi:=hi) (g:=g) (many:=a0j lo hi) lo.toNat
 obtain ⟨t1,t2,t3⟩:=c3Q (hi:=hi) (g:=g) (many:=a0j lo hi) (a0j lo hi - lo.toNat) lo.toNat
 rw [b4k] at h4
 refine b2N (fun p q=>?_) (fun p=>?_) (fun p=>?_) ?_
 ·show fol (a6V lo hi g).lk p q↔(jjM hi g (a0j lo hi) lo.toNat).F p q∨(ttM hi g (a0j lo hi) lo.toNat (a0j lo hi - lo.toNat)).F p q∨((jjM hi g (a0j lo hi) lo.toNat).E p∧(ttM hi g (a0j lo hi) lo.toNat (a0j lo hi - lo.toNat)).I q)
  simp only [a6V,h4,h3]
  rw [a4a,a4a,c1i h2,a4a,a8m,c7T,c7x,c6B,j2,t1]
  constructor
  ·rintro (((⟨i,h,h5⟩ | h) | h) | h)
   ·by_cases e:i < lo.toNat
    ·exact .inl (.inl ⟨i,e,h5⟩)
    ·exact .inr (.inl (.inl ⟨i,by omega,by omega,h5⟩))
   ·exact .inl (.inr h)
   ·exact .inr (.inl (.inr h))
   ·exact .inr (.inr h)
  ·rintro ((⟨i,h,h5⟩ | h) | (⟨i,h,h6,h5⟩ | h) | h)
   ·exact .inl (.inl (.inl ⟨i,by omega,h5⟩))
   ·exact .inl (.inl (.inr h))
   ·exact .inl (.inl (.inl ⟨i,by omega,h5⟩))
   ·exact .inl (.inr h)
   ·exact .inr h
 ·show a6E (a6V lo hi g).pc.first p↔(jjM hi g (a0j lo hi) lo.toNat).I p∨((jjM hi g (a0j lo hi) lo.toNat).e∧(ttM hi g (a0j lo hi) lo.toNat (a0j lo hi - lo.toNat)).I p)
  simp only [a6V,h4,h3]
  rw [j1,j3,t1];exact b5S
 ·show a6E (a6V lo hi g).pc.ends p↔(ttM hi g (a0j lo hi) lo.toNat (a0j lo hi - lo.toNat)).E p∨((ttM hi g (a0j lo hi) lo.toNat (a0j lo hi - lo.toNat)).e∧(jjM hi g (a0j lo hi) lo.toNat).E p)
  simp only [a6V,h4,h3]
  rw [j2,t2,t3];exact b4X
 ·show (a6V lo hi g).pc.empty=true↔(jjM hi g (a0j lo hi) lo.toNat).e∧(ttM hi g (a0j lo hi) lo.toNat (a0j lo hi - lo.toNat)).e
  simp only [a6V,h4,h3]
  rw [j3,t3];exact b7R
variable (σ:Nat→Int→Prop) {N w:Nat} {K:List Int→Prop}
theorem a9P {k:Nat} (h:(mcO (g k).lk (g k).pc).In (N+k * w) (N+k * w+w)):(xkM hi g many k).In (N+k * w) (N+(k+1) * w):=by
 rw [Nat.succ_mul,←Nat.add_assoc]
 unfold xkM;split
 ·exact c5T h
 ·exact h
theorem b5g:∀ k,(∀ i,i < k→(mcO (g i).lk (g i).pc).In (N+i * w) (N+i * w+w))→(jjM hi g many k).In N (N+k * w)
 | 0,_=>a8N
 | k+1,h=>b6j ((b5g k fun i hi=>h i (by omega)).mono (Nat.le_refl _) (by rw [Nat.succ_mul];omega)) ((a9P (h k (by omega))).mono (by omega) (Nat.le_refl _))
theorem b8v:∀ n k,(∀ i,i < k+n→(mcO (g i).lk (g i).pc).In (N+i * w) (N+i * w+w))→(ttM hi g many k n).In (N+k * w) (N+(k+n) * w)
  | 0,k,_=>a8N
  | n + 1, k, h => by
    have h1:=b8v n (k+1) (fun i hi=>h i (by omega))
    have e:k+1+n=k+(n+1):=by omega
    rw [e] at h1
    have h2:(k+1) * w≤(k+(n+1)) * w:=Nat.mul_le_mul_right _ (by omega)
    exact c7Z (b6j ((a9P (h k (by omega))).mono (Nat.le_refl _) (by omega)) (h1.mono (by rw [Nat.succ_mul];omega) (Nat.le_refl _)))
theorem c5u:∀ k,(hi < 0→k < many)→(∀ i,i < k→(mcO (g i).lk (g i).pc).In (N+i * w) (N+i * w+w)∧∀ u,(mcO (g i).lk (g i).pc).L σ u↔K u)→∀ u,(jjM hi g many k).L σ u↔b5b K k u
  | 0,_,_,u=>a5R σ u
  | k + 1, hk, h, u => by
    show ((jjM hi g many k).cat (xkM hi g many k)).L σ u↔b4v (b5b K k) K u
    rw [b2j σ (b5g k fun i hi=>(h i (by omega)).1) (a9P (h k (by omega)).1)]
    refine a3r (fun u=>c5u k (fun h=>by have:=hk h;omega) (fun i hi=>h i (by omega)) u) (fun u=>?_) u
    unfold xkM
    rw [if_neg (fun h2=>by have:=hk h2.1;omega)]
    exact (h k (by omega)).2 u
theorem c8w (hhi:¬ hi < 0):∀ n k,(∀ i,i < k+n→(mcO (g i).lk (g i).pc).In (N+i * w) (N+i * w+w)∧∀ u,(mcO (g i).lk (g i).pc).L σ u↔K u)→∀ u,(ttM hi g many k n).L σ u↔∃ j,j≤n∧b5b K j u
  | 0,k,_,u=>(a5R σ u).trans ⟨fun h=>⟨0,Nat.le_refl _,h⟩,fun ⟨j,h,h2⟩=>by obtain rfl:j=0:=(by omega);exact h2⟩
  | n + 1, k, h, u => by
    show (((xkM hi g many k).cat (ttM hi g many (k+1) n)).opt).L σ u↔_
    rw [c4h,b2j σ (a9P (h k (by omega)).1) (b8v n (k+1) fun i hi=>(h i (by omega)).1),
      a3r (L':=K) (K':=fun u=>∃ j,j≤n∧b5b K j u) (fun u=>by unfold xkM;rw [if_neg (fun h2=>hhi h2.1)];exact (h k (by omega)).2 u) (c8w hhi n (k+1) fun i hi=>h i (by omega))]
    constructor
    · rintro (h1 | ⟨a,b,e,h1,j,h2,h3⟩)
      · exact ⟨0,by omega,h1⟩
      · exact ⟨j+1,by omega,a1H.2 ⟨a,b,e,h1,h3⟩⟩
    · rintro ⟨j,h1,h2⟩
      cases j with
      | zero=>exact .inl h2
      | succ j =>
        obtain ⟨a,b,e,h3,h4⟩:=a1H.1 h2
        exact .inr ⟨a,b,e,h3,j,by omega,h4⟩
theorem c7r {lo:Int} (hlo:0≤lo) (hh:hi=-1∨(lo≤hi∧0≤hi)) (h:∀ i,i < a0j lo hi→(mcO (g i).lk (g i).pc).In (N+i * w) (N+i * w+w)∧∀ u,(mcO (g i).lk (g i).pc).L σ u↔K u) :
    (mcO (a6V lo hi g).lk (a6V lo hi g).pc).In N (N+a0j lo hi * w)∧∀ u,(mcO (a6V lo hi g).lk (a6V lo hi g).pc).L σ u↔∃ k:Nat,lo≤(k:Int)∧(hi < 0∨(k:Int)≤hi)∧b5b K k u:=by
  have hm:lo.toNat≤a0j lo hi:=by unfold a0j;split <;> (try split) <;> omega
  have hj:=b5g (hi:=hi) (g:=g) (many:=a0j lo hi) (N:=N) (w:=w) lo.toNat (fun i hi=>(h i (by omega)).1)
  have ht:=b8v (hi:=hi) (g:=g) (many:=a0j lo hi) (N:=N) (w:=w) (a0j lo hi - lo.toNat) lo.toNat (fun i hi=>(h i (by omega)).1)
  rw [show lo.toNat+(a0j lo hi - lo.toNat)=a0j lo hi by omega] at ht
  have hle:lo.toNat * w≤a0j lo hi * w:=Nat.mul_le_mul_right _ hm
  rw [c7O hlo hm]
  refine ⟨b6j (hj.mono (Nat.le_refl _) (by omega)) (ht.mono (by omega) (Nat.le_refl _)),fun u=>?_⟩
  rw [b2j σ hj ht]
  by_cases hneg:hi < 0
  · have em:a0j lo hi=if 1 > lo then 1 else lo.toNat:=by unfold a0j;rw [if_pos hneg];split <;> rfl
    have hst:∀ (k:Nat),k+1=a0j lo hi→∀ u,(xkM hi g (a0j lo hi) k).L σ u↔b4v K (b6K K) u:=fun k hk u=>by
      unfold xkM
      rw [if_pos ⟨hneg,hk⟩,c7i]
      have e:Mc.L σ (mcO (g k).lk (g k).pc)=K:=funext fun u=>propext ((h k (by omega)).2 u)
      rw [e]
    by_cases hl:1 > lo
    · have e0:lo.toNat=0:=by omega
      rw [if_pos hl] at em
      have hst0:=hst 0 (by omega)
      have hx0:=a9P (hi:=hi) (many:=a0j lo hi) (h 0 (by omega)).1
      rw [e0,em] at *
      show b4v (Mc.unit.L σ) ((((xkM hi g 1 0).cat Mc.unit).opt).L σ) u↔_
      constructor
      · rintro ⟨a,b,rfl,h1,h2⟩
        rw [a5R] at h1
        subst h1
        rw [c4h,b2j σ hx0 (a8N (M:=N+(0+1) * w))] at h2
        rcases h2 with rfl | ⟨c,d,rfl,h2,h3⟩
        · exact ⟨0,by omega,.inl hneg,rfl⟩
        · rw [a5R] at h3
          subst h3
          rw [hst0] at h2
          obtain ⟨c1,c2,rfl,h4,j,h5⟩:=h2
          exact ⟨j+1,by omega,.inl hneg,a1H.2 ⟨c1,c2,by simp,h4,h5⟩⟩
      · rintro ⟨k,h1,h2,h3⟩
        refine ⟨[],u,rfl,(a5R σ _).2 rfl,?_⟩
        rw [c4h,b2j σ hx0 (a8N (M:=N+(0+1) * w))]
        cases k with
        | zero=>exact .inl h3
        | succ k =>
          obtain ⟨c1,c2,rfl,h4,h5⟩:=a1H.1 h3
          exact .inr ⟨c1++c2,[],by simp,(hst0 _).2 ⟨c1,c2,rfl,h4,k,h5⟩,(a5R σ _).2 rfl⟩
    · rw [if_neg hl] at em
      obtain ⟨l,el⟩:∃ l,lo.toNat=l+1:=⟨lo.toNat - 1,by omega⟩
      have hstl:=hst l (by omega)
      have hxl:=a9P (hi:=hi) (many:=a0j lo hi) (h l (by omega)).1
      have hjl:=b5g (hi:=hi) (g:=g) (many:=a0j lo hi) (N:=N) (w:=w) l (fun i hi=>(h i (by omega)).1)
      have hjL:=c5u σ (hi:=hi) (g:=g) (many:=a0j lo hi) (N:=N) (w:=w) (K:=K) l (fun _=>by omega) (fun i hi=>h i (by omega))
      rw [show a0j lo hi - lo.toNat=0 by omega,el]
      show b4v (((jjM hi g (a0j lo hi) l).cat (xkM hi g (a0j lo hi) l)).L σ) (Mc.unit.L σ) u↔_
      constructor
      · rintro ⟨a,b,rfl,h1,h2⟩
        rw [a5R] at h2
        subst h2
        rw [b2j σ hjl hxl] at h1
        obtain ⟨c,d,rfl,h3,h4⟩:=h1
        rw [hstl] at h4
        obtain ⟨d1,d2,rfl,h5,j,h6⟩:=h4
        exact ⟨l+(j+1),by omega,.inl hneg,(a5B l).2 ⟨c,d1++d2,by simp,(hjL _).1 h3,a1H.2 ⟨d1,d2,rfl,h5,h6⟩⟩⟩
      · rintro ⟨k,h1,h2,h3⟩
        obtain ⟨j,rfl⟩:∃ j,k=l+(j+1):=⟨k - l - 1,by omega⟩
        obtain ⟨c,d,rfl,h4,h5⟩:=(a5B l).1 h3
        obtain ⟨d1,d2,rfl,h6,h7⟩:=a1H.1 h5
        refine ⟨c++(d1++d2),[],by simp,?_,(a5R σ _).2 rfl⟩
        rw [b2j σ hjl hxl]
        exact ⟨c,d1++d2,rfl,(hjL _).2 h4,(hstl _).2 ⟨d1,d2,rfl,h6,j,h7⟩⟩
  · have hjL:=c5u σ (hi:=hi) (g:=g) (many:=a0j lo hi) (N:=N) (w:=w) (K:=K) lo.toNat (fun h=>absurd h hneg) (fun i hi=>h i (by omega))
    have htL:=c8w σ (hi:=hi) (g:=g) (many:=a0j lo hi) (N:=N) (w:=w) (K:=K) hneg (a0j lo hi - lo.toNat) lo.toNat (fun i hi=>h i (by omega))
    have em:a0j lo hi=hi.toNat:=by unfold a0j;rw [if_neg hneg]
    rw [a3r hjL htL]
    constructor
    · rintro ⟨a,b,rfl,h1,j,h2,h3⟩
      exact ⟨lo.toNat+j,by omega,.inr (by omega),(a5B _).2 ⟨a,b,rfl,h1,h3⟩⟩
    · rintro ⟨k,h1,h2,h3⟩
      obtain ⟨j,rfl⟩:∃ j,k=lo.toNat+j:=⟨k - lo.toNat,by omega⟩
      obtain ⟨a,b,rfl,h4,h5⟩:=(a5B _).1 h3
      exact ⟨a,b,rfl,h4,j,by omega,h5⟩
end
theorem b6L {L K J:List Int→Prop} {w:List Int}:b4v (b4v L K) J w↔b4v L (b4v K J) w:=by
 constructor
 ·rintro ⟨_,v,rfl,⟨a,b,rfl,h1,h2⟩,h3⟩
  exact ⟨a,b++v,List.append_assoc ..,h1,b,v,rfl,h2,h3⟩
 ·rintro ⟨a,_,rfl,h1,b,v,rfl,h2,h3⟩
  exact ⟨a++b,v,(List.append_assoc ..).symm,⟨a,b,rfl,h1,h2⟩,h3⟩
def a5a (σ:Nat→Int→Prop) (N:Nat) (on:List Bag):Prop:=∀ i,i < on.length→∀ a,σ (N+i) a↔a∈(on.getD i Bag.zero).list
section
variable {σ:Nat→Int→Prop} {N:Nat}
theorem a5a.left {a b:List Bag} (h:a5a σ N (a++b)):a5a σ N a:=fun i hi x=>by
 have:=h i (by rw [List.length_append];omega) x
 rwa [List.getD_eq_getElem?_getD,List.getElem?_append_left hi,←List.getD_eq_getElem?_getD] at this
theorem a5a.right {a b:List Bag} (h:a5a σ N (a++b)):a5a σ (N+a.length) b:=fun i hi x=>by
 have:=h (a.length+i) (by rw [List.length_append];omega) x
 rwa [List.getD_eq_getElem?_getD,List.getElem?_append_right (by omega),←List.getD_eq_getElem?_getD,Nat.add_sub_cancel_left,←Nat.add_assoc] at this
theorem a5a.pre {a l:List Bag} (h:a5a σ N l) (hp:a <+: l):a5a σ N a:=by
 obtain ⟨b,rfl⟩:=hp
 exact h.left
end
theorem b9W (g:Nat→Ly) (k:Nat):∀ d,onP g k <+: onP g (k+d)
 | 0=>List.prefix_refl _
 | d+1=>(b9W g k d).trans (List.prefix_append _ _)
theorem c0i (m:List UInt8→Bag):∀ (ts:List T) (N:Nat) (a:Ly),a.on <+: (a5I m ts N a).on
 | [],N,a=>by simp only [a5I];exact List.prefix_refl _
 | t::ts,N,a=>by simp only [a5I];exact (List.prefix_append _ _).trans (c0i m ts (N+t.w) ⟨a.on++(lay m t N).on,a.lk++(lay m t N).lk++[(a.pc.ends,(lay m t N).pc.first)],a.pc.join (lay m t N).pc⟩)
theorem c0w (m:List UInt8→Bag):∀ (ts:List T) (N:Nat) (a:Ly),a.on <+: (a5J m ts N a).on
 | [],N,a=>by simp only [a5J];exact List.prefix_refl _
 | t::ts,N,a=>by simp only [a5J];exact (List.prefix_append _ _).trans (c0w m ts (N+t.w) ⟨a.on++(lay m t N).on,a.lk++(lay m t N).lk,⟨bun a.pc.first (lay m t N).pc.first,bun a.pc.ends (lay m t N).pc.ends,a.pc.empty||(lay m t N).pc.empty⟩⟩)
mutual
theorem c1e {m:List UInt8→Bag} (hm:∀ s,(m s).ok) (σ:Nat→Int→Prop):∀ (t:T) (N:Nat),t.ok=true→N+t.w≤256→a5a σ N (lay m t N).on →
    (mcO (lay m t N).lk (lay m t N).pc).In N (N+t.w)∧∀ u,(mcO (lay m t N).lk (lay m t N).pc).L σ u↔c0M m t u
  | .name s, N, _, hN, hs => by
    simp only [T.w] at hN ⊢
    simp only [lay] at hs ⊢
    have hs0:∀ a,σ N a↔a∈(m s).list:=fun a=>hs 0 (by simp) a
    have h1:∀ p,a6E (a3f N) p↔p=N:=fun p=>b3F (by omega)
    refine ⟨⟨fun h=>(a6g.1 h).elim,fun h=>by have:=(h1 _).1 h;omega,fun h=>by have:=(h1 _).1 h;omega⟩,fun u=>?_⟩
    simp only [c0M]
    constructor
    · rintro (⟨_,h⟩ | ⟨p,h,h2⟩)
      · cases h
      · obtain rfl:=(h1 _).1 h
        cases u with
        | nil=>exact h2.elim
        | cons a u =>
          obtain ⟨h3,⟨rfl,_⟩ | ⟨q,h4,_⟩⟩:=h2
          · exact ⟨a,rfl,(hs0 a).1 h3⟩
          · exact (a6g.1 h4).elim
    · rintro ⟨a,rfl,h⟩
      exact .inr ⟨N,(h1 N).2 rfl,(hs0 a).2 h,.inl ⟨rfl,(h1 N).2 rfl⟩⟩
  | .times lo hi t, N, hok, hN, hs => by
    simp only [T.w] at hN ⊢
    simp only [T.ok,Bool.and_eq_true,Bool.or_eq_true,decide_eq_true_eq] at hok
    simp only [lay] at hs ⊢
    simp only [c0M]
    obtain ⟨⟨⟨hlo,hlo2⟩,hh⟩,hokt⟩:=hok
    have hkw:∀ k,k < a0j lo hi→N+k * t.w+t.w≤256:=fun k hk=>by
      have:(k+1) * t.w≤a0j lo hi * t.w:=Nat.mul_le_mul_right _ hk
      rw [Nat.succ_mul] at this
      rw [Nat.mul_comm] at hN
      omega
    rw [(b5u hlo (fun k=>lay m t (N+k * t.w)) (fun _=>Bag.zero)).1] at hs
    have hg:∀ k,k < a0j lo hi→((fun k=>lay m t (N+k * t.w)) k).Ok (N+k * t.w) t.w:=fun k hk=>a3N hm t _ (hkw k hk)
    rw [Nat.mul_comm t.w]
    refine c7r σ hlo ?_ (fun i hil=>c1e hm σ t (N+i * t.w) hokt (hkw i hil) ?_)
    · rcases hh with hh | ⟨h1,h2⟩
      · exact .inl hh
      · split at h1
        · exact .inr ⟨by omega,by omega⟩
        · exact .inr ⟨by omega,by omega⟩
    · have h1:=hs.pre (a:=onP (fun k=>lay m t (N+k * t.w)) (i+1)) (by
        have:=b9W (fun k=>lay m t (N+k * t.w)) (i+1) (a0j lo hi - (i+1))
        rwa [show i+1+(a0j lo hi - (i+1))=a0j lo hi by omega] at this)
      have h2:=a5a.right (a:=onP (fun k=>lay m t (N+k * t.w)) i) (b:=lay m t (N+i * t.w) |>.on) h1
      rwa [b4i hg i (by omega)] at h2
  | .many k ts, N, hok, hN, hs => by
    simp only [T.w] at hN ⊢
    simp only [T.ok,Bool.and_eq_true] at hok
    simp only [lay] at hs ⊢
    simp only [c0M]
    by_cases h3:k=3
    · simp only [if_pos h3] at hs ⊢
      obtain ⟨h1,h2⟩:=c2J hm σ ts N N ⟨[],[],default⟩ hok.2 hN (by simp) (by rw [b8y];exact c3Y) hs
      refine ⟨h1,fun u=>?_⟩
      rw [h2,b8y,c8x];simp
    · simp only [if_neg h3] at hs ⊢
      obtain ⟨h1,h2⟩:=c3N hm σ ts N N ⟨[],[],Pc.nil⟩ hok.2 hN (by simp) (by rw [b4b];exact a8N) hs
      refine ⟨h1,fun u=>?_⟩
      rw [h2]
      constructor
      · rintro ⟨a,b,rfl,h4,h5⟩
        rw [b4b,a5R] at h4
        subst h4
        exact h5
      · exact fun h=>⟨[],u,rfl,by rw [b4b,a5R],h⟩
theorem c2J {m:List UInt8→Bag} (hm:∀ s,(m s).ok) (σ:Nat→Int→Prop):∀ (ts:List T) (N N0:Nat) (a:Ly),T.okL ts=true→N+T.wL ts≤256→N0+a.on.length=N→(mcO a.lk a.pc).In N0 N→a5a σ N0 (a5J m ts N a).on →
    (mcO (a5J m ts N a).lk (a5J m ts N a).pc).In N0 (N+T.wL ts)∧∀ u,(mcO (a5J m ts N a).lk (a5J m ts N a).pc).L σ u↔(mcO a.lk a.pc).L σ u∨c6J m ts u
  | [], N, N0, a, _, hN, hl, ha, hs => by
    simp only [a5J,T.wL,Nat.add_zero,c6J,or_false]
    exact ⟨ha,fun u=>trivial⟩
  | t :: ts, N, N0, a, hok, hN, hl, ha, hs => by
    simp only [T.wL] at hN ⊢
    simp only [T.okL,Bool.and_eq_true] at hok
    simp only [a5J] at hs ⊢
    have hlen:=(a3N hm t N (by omega)).len
    have hst:a5a σ N0 (a.on++(lay m t N).on):=hs.pre (c0w m ts (N+t.w) ⟨a.on++(lay m t N).on,a.lk++(lay m t N).lk,⟨bun a.pc.first (lay m t N).pc.first,bun a.pc.ends (lay m t N).pc.ends,a.pc.empty||(lay m t N).pc.empty⟩⟩)
    have hst2:a5a σ N (lay m t N).on:=by have:=hst.right;rwa [hl] at this
    obtain ⟨h1,h2⟩:=c1e hm σ t N hok.1 (by omega) hst2
    obtain ⟨h3,h4⟩:=c2J hm σ ts (N+t.w) N0 ⟨a.on++(lay m t N).on,a.lk++(lay m t N).lk,⟨bun a.pc.first (lay m t N).pc.first,bun a.pc.ends (lay m t N).pc.ends,a.pc.empty||(lay m t N).pc.empty⟩⟩ hok.2 (by omega)
      (by show N0+(a.on++(lay m t N).on).length=_;rw [List.length_append,hlen];omega) (by rw [b7J];exact c6L (ha.mono (Nat.le_refl _) (by omega)) (h1.mono (by omega) (Nat.le_refl _))) hs
    refine ⟨by rw [←Nat.add_assoc];exact h3,fun u=>?_⟩
    rw [h4];dsimp only;rw [b7J,c9d σ ha h1,h2,or_assoc]
    simp only [c6J]
theorem c3N {m:List UInt8→Bag} (hm:∀ s,(m s).ok) (σ:Nat→Int→Prop):∀ (ts:List T) (N N0:Nat) (a:Ly),T.okL ts=true→N+T.wL ts≤256→N0+a.on.length=N→(mcO a.lk a.pc).In N0 N→a5a σ N0 (a5I m ts N a).on →
    (mcO (a5I m ts N a).lk (a5I m ts N a).pc).In N0 (N+T.wL ts)∧∀ u,(mcO (a5I m ts N a).lk (a5I m ts N a).pc).L σ u↔b4v ((mcO a.lk a.pc).L σ) (c6y m ts) u
  | [], N, N0, a, _, hN, hl, ha, hs => by
    simp only [a5I,T.wL,Nat.add_zero]
    exact ⟨ha,fun u=>⟨fun h=>⟨u,[],by simp,h,by simp only [c6y]⟩,by
      rintro ⟨x,y,rfl,h1,h2⟩
      simp only [c6y] at h2
      subst h2;rw [List.append_nil];exact h1⟩⟩
  | t :: ts, N, N0, a, hok, hN, hl, ha, hs => by
    simp only [T.wL] at hN ⊢
    simp only [T.okL,Bool.and_eq_true] at hok
    simp only [a5I] at hs ⊢
    have hlen:=(a3N hm t N (by omega)).len
    have hst:a5a σ N0 (a.on++(lay m t N).on):=hs.pre (c0i m ts (N+t.w) ⟨a.on++(lay m t N).on,a.lk++(lay m t N).lk++[(a.pc.ends,(lay m t N).pc.first)],a.pc.join (lay m t N).pc⟩)
    have hst2:a5a σ N (lay m t N).on:=by have:=hst.right;rwa [hl] at this
    obtain ⟨h1,h2⟩:=c1e hm σ t N hok.1 (by omega) hst2
    obtain ⟨h3,h4⟩:=c3N hm σ ts (N+t.w) N0 ⟨a.on++(lay m t N).on,a.lk++(lay m t N).lk++[(a.pc.ends,(lay m t N).pc.first)],a.pc.join (lay m t N).pc⟩ hok.2 (by omega)
      (by show N0+(a.on++(lay m t N).on).length=_;rw [List.length_append,hlen];omega) (by rw [c0G];exact b6j (ha.mono (Nat.le_refl _) (by omega)) (h1.mono (by omega) (Nat.le_refl _))) hs
    refine ⟨by rw [←Nat.add_assoc];exact h3,fun u=>?_⟩
    rw [h4];dsimp only
    rw [c0G,a3r (fun u=>(b2j σ ha h1 u).trans (a3r (fun _=>Iff.rfl) h2 u)) (fun _=>Iff.rfl),b6L]
    exact a3r (fun _=>Iff.rfl) (fun u=>by simp only [c6y];exact Iff.rfl) u
end
theorem c2C {x:Bag} {p:Nat} (h:x.has p=true):∃ p',a6E x p':=by
 by_cases hp:p < 256
 ·exact ⟨p,hp,h⟩
 ·obtain ⟨q,hq⟩:∃ q,p=64 * (q+3)+p % 64:=⟨p / 64 - 3,by omega⟩
  rw [hq,x.has_at _ _ (by omega)] at h
  refine ⟨64 * 3+p % 64,by omega,?_⟩
  rw [x.has_at _ _ (by omega),←h]
  cases q <;> rfl
theorem c2a {M:Nat} {x:Pc} {lk:List Lk} (h:(mcO lk x).In 0 M) (p:Nat):InB 0 M (links (fun _=>Bag.zero) lk p):=by
  have key:∀ (l:List Lk) (β:Nat→Bag),(∀ y∈l,y∈lk)→InB 0 M (β p)→InB 0 M (links β l p):=by
    intro l
    induction l with
    | nil=>exact fun β _ h=>h
    | cons y l ih =>
      intro β hy hb
      refine ih (a1W β y) (fun z hz=>hy z (List.mem_cons_of_mem _ hz)) ?_
      unfold a1W
      split
      · rename_i hh
        obtain ⟨p',hp'⟩:=c2C hh
        exact b2Z hb (fun q hq h3=>(h.F (p:=p') (q:=q) ⟨y,hy y (List.mem_cons_self ..),hp',hq,h3⟩).2)
      · exact hb
  exact key lk _ (fun _ h=>h) (a3j _ _)
end Go.Proofs.YtdbbbafiegpbpaaGreatDoor
namespace Go.Proofs.YtdbbbafiegpbpaaGreatDoor
set_option linter.unusedSimpArgs false
set_option linter.unusedVariables false
set_option linter.unusedSectionVars false
set_option maxRecDepth 100000
set_option maxHeartbeats 1000000
open Go.RowKit
section
variable {on:List Bag} {β:Nat→Bag} {ends:Bag} {a:Int}
end
theorem c6M {m:List UInt8→Bag} (hm:∀ s,(m s).ok) {t:T} (hok:t.ok=true) (hw:t.w≤256) :
  (mcO (lay m t 0).lk (lay m t 0).pc).In 0 (0+t.w)∧∀ u,(mcO (lay m t 0).lk (lay m t 0).pc).L (fun p a=>a∈(onF (lay m t 0).on p).list) u↔c0M m t u :=
 c1e hm _ t 0 hok (by omega) (fun i hi a=>by show a∈(onF (lay m t 0).on (0+i)).list↔_;rw [Nat.zero_add])
section
variable {s:List UInt8} {l:List Mn} {wd:Nat} {on:List Bag} {β:Nat→Bag} {p:Pc} {e:List Pt}
theorem NetOk.inF (V:NetOk s l wd on β p e):InB 0 wd p.first:=by
 rcases V.is with ⟨_,_,_,_,h⟩ | ⟨t,hok,_,hw,_,_,h⟩
 ·rw [h];exact a3j _ _
 ·rw [h,hw];exact (a3N (a3O l) t 0 (by have:=V.w60;omega)).inB.1
theorem NetOk.inβ (V:NetOk s l wd on β p e) (q:Nat):InB 0 wd (β q):=by
 rcases V.is with ⟨_,_,_,h,_⟩ | ⟨t,hok,_,hw,_,h,_⟩
 ·rw [h];exact a3j _ _
 ·rw [h,hw];exact c2a (c6M (a3O l) hok (by have:=V.w60;omega)).1 q
end
section
variable {on:List Bag} {β:Nat→Bag} {x:Bag} {a:Int} {k:Nat}
end
def b0P (l m:List Int):Nat→List Int
 | 0=>[]
 | k+1=>if (k:Int)∈l∧(k:Int)∈m then b0P l m k++[(k:Int)] else b0P l m k
theorem b5c (l m:List Int):∀ k,(b0P l m k).length≤k
 | 0=>Nat.le_refl _
 | k+1=>by have:=b5c l m k;unfold b0P;split <;> simp <;> omega
theorem b6f {l m:List Int}:∀ {k:Nat},b0P l m k=[]↔∀ j,j < k→¬ ((j:Int)∈l∧(j:Int)∈m)
  | 0=>⟨fun _ j hj=>by omega,fun _=>rfl⟩
  | k + 1 => by
    unfold b0P
    split
    · rename_i h;exact ⟨fun e=>by simp at e,fun e=>absurd h (e k (Nat.lt_succ_self _))⟩
    · rename_i h
      rw [b6f]
      exact ⟨fun e j hj=>by rcases Nat.lt_succ_iff_lt_or_eq.1 hj with h1 | rfl;exact e j h1;exact h,fun e j hj=>e j (by omega)⟩
theorem c7h (l m:List Int) (hl:l.length≤1000000) (hm:m.length≤1000000):HPure Tryz.prog 47 [a0m l,a0m m,intV 1] (a0m (b0P l m 256)):=by
 refine a0k Tryz.func47 rfl kr _ _ _ rfl 55 rfl rfl (fun w F=>?_)
 refine ru 17 ?_
 refine a4O 7 9301 1 3 ((a4p [])) rfl (by decide) rfl (c':=1) rfl ?_
 refine a0l (α:=Nat×Nat) (fun x c=>⟨55,[(0,.v (a0m l)),(1,.v (a0m m)),(2,.v (intV 1)),(7,.v (.os 9301 x.2 0 (b0P l m x.1).length)),(8,.v (intV x.1))],[(9301,⟨x.2,(b0P l m x.1).length,1,3,0,a4p (b0P l m x.1)⟩)],c⟩) (fun x=>x.1≤256) (fun x=>256 - x.1) ((0,0)) om (a0c rfl (Nat.le_refl _) tsa hsa) (fun x c hx NhL1 hL1=>?_)
 revert hx hL1;obtain ⟨k,g⟩:=x;intro hx hL1;dsimp only at hx hL1 ⊢
 have hlen:=b5c l m k
 refine ru 7 ?_
 refine wdc (fun hr0 hc0=>?_) (fun hr0 hc0=>?_)
 ·refine ru 8 ?_
  refine cll (c0F l hl k) ?_
  refine ru 7 ?_
  refine cll (c0F m hm k) ?_
  refine ru 36 ?_
  refine wdc (fun hr1 hc1=>?_) (fun hr1 hc1=>?_)
  ·skip
   have hab:(k:Int)∈l∧(k:Int)∈m:=(by simpa using hr1);have hA:b0P l m (k+1)=b0P l m k++[(k:Int)]:=if_pos hab
   refine ru 3 ?_
   refine a0u 52 (a0b (id:=52) (hs:=[_]) ei_49.h omx rfl omx ⟨rfl,rfl,rfl,rfl,trivial⟩) rfl rfl a0g rfl rfl (c':=c+1) rfl ?_
   first
   | refine a0u 53 (a0a ei_49.h (by first | exact Nat.le_of_ble_eq_true rfl | omega | (dsimp only;omega) | (simp <;> omega)) rfl (by first | exact Nat.le_of_ble_eq_true rfl | omega | (dsimp only;omega) | (simp <;> omega)) (by first | exact Nat.le_of_ble_eq_true rfl | omega | (dsimp only;omega) | (simp <;> omega)) (a0x rfl (by first | exact Nat.le_of_ble_eq_true rfl | omega | (dsimp only;omega) | (simp <;> omega))) (by first | exact Nat.le_of_ble_eq_true rfl | omega | (dsimp only;omega) | (simp <;> omega)) rfl) rfl rfl (a0i rfl (a0P rfl)) rfl rfl (c':=c+2) rfl ?_
   | refine a0u 53 (a0a ei_49.h (by first | exact Nat.le_of_ble_eq_true rfl | omega | (dsimp only;omega) | (simp <;> omega)) rfl (by first | exact Nat.le_of_ble_eq_true rfl | omega | (dsimp only;omega) | (simp <;> omega)) (by first | exact Nat.le_of_ble_eq_true rfl | omega | (dsimp only;omega) | (simp <;> omega)) (a0S rfl (by first | exact Nat.le_of_ble_eq_true rfl | omega | (dsimp only;omega) | (simp <;> omega))) (by first | exact Nat.le_of_ble_eq_true rfl | omega | (dsimp only;omega) | (simp <;> omega)) rfl) rfl rfl (a0i rfl (a0P rfl)) rfl rfl (c':=c+2) rfl ?_
   | refine a0u 53 (a0a ei_49.h (by first | exact Nat.le_of_ble_eq_true rfl | omega | (dsimp only;omega) | (simp <;> omega)) rfl (by first | exact Nat.le_of_ble_eq_true rfl | omega | (dsimp only;omega) | (simp <;> omega)) (by first | exact Nat.le_of_ble_eq_true rfl | omega | (dsimp only;omega) | (simp <;> omega)) (a0O rfl) (by first | exact Nat.le_of_ble_eq_true rfl | omega | (dsimp only;omega) | (simp <;> omega)) rfl) rfl rfl (a0i rfl a0g) rfl rfl (c':=c+2) rfl ?_
   | refine a0u 53 (a0a ei_49.h (by first | exact Nat.le_of_ble_eq_true rfl | omega | (dsimp only;omega) | (simp <;> omega)) rfl (by first | exact Nat.le_of_ble_eq_true rfl | omega | (dsimp only;omega) | (simp <;> omega)) (by first | exact Nat.le_of_ble_eq_true rfl | omega | (dsimp only;omega) | (simp <;> omega)) (a0z 1 (fun _ _=>default) rfl) (by first | exact Nat.le_of_ble_eq_true rfl | omega | (dsimp only;omega) | (simp <;> omega)) rfl) rfl rfl (a0i rfl a0g) rfl rfl (c':=c+2) rfl ?_
   refine ru 9 ?_
   exact hL1 ((k+1,c+1)) _ _ (by (try dsimp only);omega) (by (try dsimp only);omega) (a0c rfl (Nat.le_refl _) (tsr rfl (tsr rfl (tsr rfl (a0t.cons rfl (by dsimp only;rw [hA];exact a3k (by simp)) (a0t.cons rfl (a0H om) a0t.nil))))) (a0f.cons rfl (by dsimp only;rw [hA];exact a0G (enc:=fun x _=>intV x) (d:=0) rfl (fun i j hi hj=>.refl _) (fun j hj=>.refl _)) a0f.nil))
  have hA:b0P l m (k+1)=b0P l m k:=if_neg (by simpa using hr1)
  refine ru 8 ?_
  exact hL1 ((k+1,g)) _ _ (by (try dsimp only);omega) (by (try dsimp only);omega) (a0c rfl (Nat.le_refl _) (tsr rfl (tsr rfl (tsr rfl (a0t.cons rfl (by dsimp only;rw [hA];exact .refl _) (a0t.cons rfl (a0H om) a0t.nil))))) (a0f.cons rfl (by dsimp only;rw [hA];exact .refl _) a0f.nil))
 obtain rfl:k=256:=om
 refine ru 2 ?_
 refine a0d ?_
 refine ru 9 ?_
 refine a5f rfl (a0h rfl) [(9301,_)] rfl (a0i rfl a0g) ?_
 exact a2r (l:=b0P l m 256) (enc:=fun x _=>intV x) (d:=0) (List.mem_cons_self ..) rfl rfl (Nat.le_refl _) (fun i j hi hj=>.imm _)
theorem c7y (s E:Bag) (hs:s.ok) (hE:E.ok):decide (((b0P s.list E.list 256).length:Int) > 0)=decide (s.mix a6U E 4≠Bag.zero):=by
 have key:b0P s.list E.list 256=[]↔s.mix a6U E 4=Bag.zero:=by
  rw [b6f]
  constructor
  ·intro h
   refine Bag.ext_has _ _ (c5B s E hs hE) Bag.zero_ok (fun k hk=>?_)
   rw [c0H,Bag.zero_has]
   have:=h k hk
   rw [s.mem_list k hk,E.mem_list k hk] at this
   cases h1:s.has k <;> cases h2:E.has k <;> simp_all
  ·intro h j hj
   rw [s.mem_list j hj,E.mem_list j hj]
   rintro ⟨h1,h2⟩
   have:=c0H s E j
   rw [h,Bag.zero_has,h1,h2] at this;cases this
 by_cases h:b0P s.list E.list 256=[]
 ·rw [decide_eq_false (by rw [h];simp)];exact (decide_eq_false (show ¬ s.mix a6U E 4≠Bag.zero from fun e=>e (key.1 h))).symm
 ·rw [decide_eq_true (by have:=List.length_pos_iff.2 h;omega)];exact (decide_eq_true (show s.mix a6U E 4≠Bag.zero from fun e=>h (key.2 e))).symm
theorem b3o {b:Bag}:∀ {S:List Bag} {i k:Nat},(∀ j,j < k→S.getD j Bag.zero≠b)→k < S.length→S.getD k Bag.zero=b→ixA b S i=some (i+k)
  | [],i,k,_,h,_=>by simp at h
  | x :: r, i, 0, _, _, h2 => by
    show (if x=b then some i else _)=_
    rw [if_pos (show x=b from h2)];rfl
  | x :: r, i, k + 1, h, h1, h2 => by
    show (if x=b then some i else ixA b r (i+1))=_
    rw [if_neg (show ¬ x=b from h 0 (by omega)),b3o (fun j hj=>h (j+1) (by omega)) (by simpa using h1) h2]
    congr 1;omega
def rfV (S:List Bag) (s:Bag):Int:=match idA S s with | some n=>(n:Int) | none=>-1
theorem c7j {S:List Bag} {s:Bag} {i:Nat} (h1:1≤i) (hi:i < S.length) (hno:∀ j,1≤j→j < i→S.getD j Bag.zero≠s) (h:S.getD i Bag.zero=s):rfV S s=(i:Int):=by
 have e:∀ j,(S.drop 1).getD j Bag.zero=S.getD (1+j) Bag.zero:=fun j=>by rw [List.getD_eq_getElem?_getD,List.getD_eq_getElem?_getD,List.getElem?_drop]
 have:=b3o (b:=s) (S:=S.drop 1) (i:=1) (k:=i - 1) (fun j hj=>by rw [e];exact hno _ (by omega) (by omega)) (by rw [List.length_drop];omega) (by rw [e,show 1+(i - 1)=i by omega];exact h)
 unfold rfV idA;rw [this];show ((1+(i - 1):Nat):Int)=_;congr 1;omega
theorem c7a {S:List Bag} {s:Bag} (hno:∀ j,1≤j→j < S.length→S.getD j Bag.zero≠s):rfV S s=-1:=by
 have:idA S s=none:=by
  unfold idA
  rw [b5E]
  intro hm
  obtain ⟨j,hj,he⟩:=List.getElem_of_mem hm
  rw [List.length_drop] at hj
  refine hno (1+j) (by omega) (by omega) ?_
  rw [List.getD_eq_getElem?_getD,List.getElem?_eq_getElem (by omega)]
  rw [List.getElem_drop] at he
  exact he
 unfold rfV;rw [this]
@[reducible] def dtF (g2 g3 g4 n m:Nat):Nat→HV:=fun j=>match j with
 | 0=>.os 9102 g2 0 n
 | 1=>.os 9103 g3 0 m
 | _=>.os 9104 g4 0 n
@[reducible] def dtO (g g2 g3 g4 n m:Nat):HObj:=⟨g,1,3,28,0,fun _=>dtF g2 g3 g4 n m⟩
@[reducible] def sdF (S:List Bag):Nat→Nat→HV:=fun i _=>a0m (S.getD i Bag.zero).list
@[reducible] def sdO (g:Nat) (S:List Bag):HObj:=⟨g,S.length,1,49,0,sdF S⟩
@[reducible] def nxO (g:Nat) (R:List (List Int)):HObj:=⟨g,R.length,32,50,0,b8Q R⟩
@[reducible] def acO (g:Nat) (A:List Bool):HObj:=⟨g,A.length,1,4,0,fun i _=>boolV (A.getD i false)⟩
@[reducible] def dtL (g g2 g3 g4:Nat) (S:List Bag) (R:List (List Int)) (A:List Bool):List (Nat×HObj):=[(9101,dtO g g2 g3 g4 S.length R.length),(9102,sdO g2 S),(9103,nxO g3 R),(9104,acO g4 A)]
theorem b9O {kp sh:List (Nat×HObj)} {g g2 g3 g4 n m:Nat} {o2 o3 o4:HObj} (k2:hget kp 9102=some o2) (e2:o2.g=g2) (k3:hget kp 9103=some o3) (e3:o3.g=g3) (k4:hget kp 9104=some o4) (e4:o4.g=g4):OKz kp sh (dtO g g2 g3 g4 n m) (dtO g g2 g3 g4 n m):=c9P (.os _ _ _ _ _ k2 e2) (.os _ _ _ _ _ k3 e3) (.os _ _ _ _ _ k4 e4)
theorem b8D {kp sh:List (Nat×HObj)} {g:Nat} {S:List Bag}:OKz kp sh (sdO g S) (sdO g S):=a3y rfl fun _ _ _ _=>(show Fz sh (a0m _) (a0m _) from Frz.fz)
theorem c4F (g g2 g3 g4:Nat) (S:List Bag) (R:List (List Int)) (A:List Bool) (hS:S.length≤1000) (hok:∀ b∈S,b.ok) (s:Bag) (hs:s.ok):a4S Tryz.prog 46 [.pt 9101 g 0 0,a0m s.list] (dtL g g2 g3 g4 S R A) (intV (rfV S s)) (dtL g g2 g3 g4 S R A):=by
 intro c
 refine a0v Tryz.func46 rfl kr _ _ _ _ rfl 25 rfl rfl (fun X ok hX=>?_)
 refine ru 12 ?_
 refine a0l (α:=Nat) (fun x c=>⟨25,[(0,.v (.pt 9101 g 0 0)),(1,.v (a0m s.list)),(5,.v (intV x))],[(9101,dtO g g2 g3 g4 S.length R.length),(9102,sdO g2 S),(9103,nxO g3 R),(9104,acO g4 A)],c⟩) (fun x=>1≤x∧(x≤S.length∨x=1)∧∀ j,1≤j→j < x→S.getD j Bag.zero≠s) (fun x=>S.length+1 - x) (1) (by exact ⟨Nat.le_refl _,.inr rfl,fun j h1 h2=>by omega⟩) (a0c rfl (Nat.le_refl _) tsa hsa) (fun i c hx NhL1 hL1=>?_)
 (try dsimp only at hx hL1 ⊢)
 obtain ⟨hi1,hi2,hno⟩:=hx
 refine ru 12 ?_
 refine wdc (fun hr0 hc0=>?_) (fun hr0 hc0=>?_)
 ·skip
  have hil:i < S.length:=om
  refine ru 13 ?_
  refine rvl (a0m (S.getD i Bag.zero).list) ((by show a0m (S.getD (0+i) Bag.zero).list=_;rw [Nat.zero_add])) ?_
  refine ru 1 ?_
  refine cll (b6e (S.getD i Bag.zero).list s.list (a6G _) (a6G _)) ?_
  refine ru 2 ?_
  refine wdc (fun hr1 hc1=>?_) (fun hr1 hc1=>?_)
  ·skip
   have he:S.getD i Bag.zero=s:=Bag.ext_list _ _ (b6a hok hil) hs (by simpa using hr1)
   refine ru 9 ?_
   refine a0o ?_
   refine ru 2 ?_
   refine fr1 ok hX rw1 (()) (trivial) ((by rw [c7j hi1 hil hno he];exact kza)) ?_
   exact ⟨⟨_,rfl,(b9O rfl rfl rfl rfl rfl rfl)⟩,⟨⟨_,rfl,b8D⟩,⟨⟨_,rfl,(a3y rfl fun _ _ _ _=>.imm _)⟩,⟨⟨_,rfl,(a3y rfl fun _ _ _ _=>.imm _)⟩,trivial⟩⟩⟩⟩
  have he:S.getD i Bag.zero≠s:=(fun h=>by have h9:decide ((S.getD i Bag.zero).list=s.list)=false:=hr1;rw [h] at h9;simp at h9)
  refine ru 8 ?_
  exact hL1 (i+1) _ _ (by (try dsimp only);exact ⟨by omega,by omega,fun j h1 h2=>by rcases Nat.lt_succ_iff_lt_or_eq.1 h2 with h | rfl;exact hno j h1 h;exact he⟩) (by (try dsimp only);omega) (a0c rfl (Nat.le_refl _) (tsr rfl (tsr rfl (a0t.cons rfl (a0H om) a0t.nil))) hsa)
 have hie:S.length≤i:=om
 refine ru 2 ?_
 refine a0d ?_
 refine ru 8 ?_
 refine fr1 ok hX rw1 (()) (trivial) ((by rw [c7a (fun j h1 h2=>hno j h1 om)];exact kza)) ?_
 exact ⟨⟨_,rfl,(b9O rfl rfl rfl rfl rfl rfl)⟩,⟨⟨_,rfl,b8D⟩,⟨⟨_,rfl,(a3y rfl fun _ _ _ _=>.imm _)⟩,⟨⟨_,rfl,(a3y rfl fun _ _ _ _=>.imm _)⟩,trivial⟩⟩⟩⟩
set_option maxHeartbeats 2000000
@[reducible] def mbO (g n:Nat) (m:Nat→Bool):HObj:=⟨g,n,1,4,0,fun q _=>boolV (m q)⟩
def b1Z (l:List Int) (m:Nat→Bool):Nat→Nat→Bool
 | 0=>m
 | k+1=>fun q=>b1Z l m k q||decide ((q:Int)=l.getD k 0)
def c5w (β:Nat→Bag) (L:List Int) (M:Nat→Bool):Nat→Nat→Bool
 | 0=>M
 | i+1=>b1Z (β (L.getD i 0).toNat).list (c5w β L M i) (β (L.getD i 0).toNat).list.length
def m0L (a:Nat) (first:Bag):List Int:=if a=0 then first.list else []
def a2A (β:Nat→Bag) (first:Bag) (S:List Bag) (a:Nat):Nat→Bool:=c5w β (S.getD a Bag.zero).list (b1Z (m0L a first) (fun _=>false) (m0L a first).length) (S.getD a Bag.zero).list.length
def inK (l:List Int) (q:Nat) (B:Nat→List Int):Nat→Nat→List Int
 | 0=>B
 | k+1=>fun s=>if l.getD k 0=(s:Int) then inK l q B k s++[(q:Int)] else inK l q B k s
def a3I (m:Nat→Bool) (on:List Bag):Nat→Nat→List Int
 | 0=>fun _=>[]
 | q+1=>if m q=true then inK (onF on q).list q (a3I m on q) (onF on q).list.length else a3I m on q
theorem b4D {l:List Int} {q:Nat} {B:Nat→List Int}:∀ k s,(inK l q B k s).length≤(B s).length+k
  | 0,s=>Nat.le_refl _
  | k + 1, s => by
    have:=b4D (l:=l) (q:=q) (B:=B) k s
    show (if _ then _ else _:List Int).length≤_
    split
    · rw [List.length_append];simp;omega
    · omega
theorem b5w {m:Nat→Bool} {on:List Bag}:∀ q s,(a3I m on q s).length≤q * 256
  | 0,s=>Nat.zero_le _
  | q + 1, s => by
    have:=b5w (m:=m) (on:=on) q s
    unfold a3I
    split
    · have h2:=b4D (l:=(onF on q).list) (q:=q) (B:=a3I m on q) (onF on q).list.length s
      have:=a2q (onF on q)
      omega
    · omega
theorem b9F {g n k:Nat} {l:List Int} {m0:Nat→Bool} {v:Int} {F:HV} (hF:F=boolV true) (hv:l.getD k 0=v) (h0:0≤v):a2X ⟨g,n,1,4,0,upd (fun q _=>boolV (b1Z l m0 k q)) (0+v.toNat) 0 1 (fun j=>F.cell j)⟩ (mbO g n (b1Z l m0 (k+1))):=.of fun i j hi hj=>by
 subst hF
 obtain rfl:j=0:=by omega
 show Sb _ (boolV (b1Z l m0 k i||decide ((i:Int)=l.getD k 0)))
 rw [hv]
 by_cases h:i=v.toNat
 ·rw [a8T ⟨by omega,by omega,by omega⟩,show decide ((i:Int)=v)=true from decide_eq_true (by omega),Bool.or_true];exact .refl _
 ·rw [a7b (by omega),show decide ((i:Int)=v)=false from decide_eq_false (by omega),Bool.or_false];exact .refl _
@[reducible] def rwO (g:Nat) (l:List Int):HObj:=⟨g,l.length,1,3,0,a4p l⟩
@[reducible] def rwb (gs:Nat→Nat) (B:Nat→List Int):Nat→HObj:=fun s=>rwO (gs s) (B s)
@[reducible] def arO (g:Nat) (ob:Nat→HObj):HObj:=⟨g,1,32,106,0,c3H 10000 ob⟩
theorem c5Z {b i id c m:Nat} {ob:Nat→HObj}:c3o b ob i id c m 0 (0+i * 1)=.os id c 0 m:=by
 show (if 0+i * 1=i then _ else _)=_
 rw [if_pos (by omega)]
theorem b0L {C:Ctx} {n clk:Nat} {tm:List (Nat×TV)} (o id b i N go g m sz:Nat) (ty ty2:TypeId) (f:Nat→Nat→HV) (L:List (Nat×HObj)) (ob:Nat→HObj) (hoi:ob i=⟨g,m,sz,ty2,0,f⟩) (hi:i < N) (hob:o < b) (hid:id < b) (hne:id≠o) (hL:b3J b id L=true) {c':Nat} (hc:clk+1=c') :
  a4I C ⟨n,tm,(o,⟨go,1,N,ty,0,c3H b ob⟩)::(L++a4U b ob (fun _=>true) N),clk⟩ ⟨n,tm,(o,⟨go,1,N,ty,0,c3o b ob i id clk m⟩)::(id,⟨clk,m,sz,ty2,0,f⟩)::(L++a4U b ob (fun k=>k != i) N),c'⟩:=by
 subst hc
 have:=b1V (C:=C) (n:=n) (clk:=clk) (tm:=tm) o id b i N go ty L ob hi hob hid hne hL (by rw [hoi];exact Nat.zero_le _)
 rw [hoi] at this
 exact this
theorem c8U {zs:List Value} (hz:zs=List.replicate 32 (Value.slice none 0 0)):∀ j,j < 32→(HV.imm (zs.getD j undef))=.imm (.slice none 0 0):=fun j hj=>by
 subst hz;rw [List.getD_eq_getElem?_getD,List.getElem?_replicate,if_pos hj];rfl
set_option maxHeartbeats 4000000
theorem c6Z (g g2 g3 g4:Nat) (S:List Bag) (R:List (List Int)) (A:List Bool) (wd:Nat) (on:List Bag) (β:Nat→Bag) (p:Pc) (hw:wd≤256) (hF:InB 0 wd p.first) (hβ:∀ q,InB 0 wd (β q)) (a:Nat) (ha:a < S.length) (hS:S.length≤1000) (hSa:InB 0 wd (S.getD a Bag.zero)):a4S Tryz.prog 45 [.pt 9101 g 0 0,ndR wd on β p,intV (a:Int)] (dtL g g2 g3 g4 S R A) (.agg 32 (fun s=>a0m (a3I (a2A β p.first S a) on wd s))) (dtL g g2 g3 g4 S R A):=by
 intro c0
 obtain ⟨nl,hzs⟩:∃ nl,nl=List.replicate 32 (Value.slice none 0 0):=⟨_,rfl⟩
 refine a0v Tryz.func45 rfl kr _ _ _ _ rfl 118 rfl rfl (fun X ok hX=>?_)
 refine ru 11 ?_
 refine a0u 19 (c1y (id:=19) (n:=_) (m:=_) ei_26.h omx omx rfl rfl rfl rfl omx omx omx rfl) rfl rfl a0g rfl rfl (c':=c0+3) rfl ?_
 refine ru 10 ?_
 refine a0l (α:=Nat) (fun x c=>⟨118,[(0,.v (.pt 9101 g 0 0)),(2,.v (intV (a:Int))),(4,.v (.pt 4 c0 0 0)),(6,.v (.pt 6 (c0+1) 0 0)),(7,.v (.os 19 (c0+2) 0 wd)),(8,.v (intV x))],[(9101,dtO g g2 g3 g4 S.length R.length),(9102,sdO g2 S),(9103,nxO g3 R),(9104,acO g4 A),(4,⟨c0,1,5,65,0,fun _=>ndF (.sl 1 wd (lrF (onF on))) (.sl 1 wd (lrF β)) p 0⟩),(6,⟨c0+1,1,32,106,0,fun _ j=>.imm (nl.getD j undef)⟩),(19,mbO (c0+2) wd (b1Z (m0L a p.first) (fun _=>false) x))],c⟩) (fun x=>x≤(m0L a p.first).length) (fun x=>(m0L a p.first).length - x) (0) om (a0c rfl (Nat.le_refl _) tsa (hsr rfl (hsr rfl (hsr rfl (hsr rfl (hsr rfl (a0f.cons rfl (.of fun i j hi hj=>by subst hzs;exact .refl _) (a0f.cons rfl (.of fun i j hi hj=>by obtain rfl:j=0:=om;exact .refl _) a0f.nil)))))))) (fun i c hx NhL1 hL1=>?_)
 (try dsimp only at hx hL1 ⊢)
 refine ru 14 ?_
 refine wdc (fun hr0 hc0=>?_) (fun hr0 hc0=>?_)
 ·skip
  have ha0:a=0:=(by simp at hr0;omega);have hm0:m0L a p.first=p.first.list:=if_pos ha0;have hil:i < p.first.list.length:=(by simp at hr0;omega);have hlb:=a2q p.first;obtain ⟨v,hv256,hvA,hv⟩:=a4v p.first hil;have hvw:=hF v hv256 hvA
  refine ru 11 ?_
  refine rvl (intV (v:Int)) ((by show intV (p.first.list.getD i 0)=_;rw [hv])) ?_
  refine ru 10 ?_
  exact hL1 (i+1) _ _ (by (try dsimp only);rw [hm0];omega) (by (try dsimp only);rw [hm0];omega) (a0c rfl (Nat.le_refl _) (tsr rfl (tsr rfl (tsr rfl (tsr rfl (tsr rfl (a0t.cons rfl (a0H om) a0t.nil)))))) (hsr rfl (hsr rfl (hsr rfl (hsr rfl (hsr rfl (hsr rfl (a0f.cons rfl (b9F rfl (by rw [hm0];exact hv) om) a0f.nil))))))))
 have hie:i=(m0L a p.first).length:=(by by_cases h:a=0;(have e:m0L a p.first=p.first.list:=if_pos h;rw [e] at hx ⊢;simp [h] at hr0;omega);(have e:m0L a p.first=[]:=if_neg h;rw [e] at hx ⊢;simp at hx ⊢;omega));subst hie
 refine ru 2 ?_
 refine a0d ?_
 refine ru 9 ?_
 refine a0l (α:=Nat) (fun x c=>⟨118,[(0,.v (.pt 9101 g 0 0)),(2,.v (intV (a:Int))),(4,.v (.pt 4 c0 0 0)),(6,.v (.pt 6 (c0+1) 0 0)),(7,.v (.os 19 (c0+2) 0 wd)),(9,.v (intV x))],[(9101,dtO g g2 g3 g4 S.length R.length),(9102,sdO g2 S),(9103,nxO g3 R),(9104,acO g4 A),(4,⟨c0,1,5,65,0,fun _=>ndF (.sl 1 wd (lrF (onF on))) (.sl 1 wd (lrF β)) p 0⟩),(6,⟨c0+1,1,32,106,0,fun _ j=>.imm (nl.getD j undef)⟩),(19,mbO (c0+2) wd (c5w β (S.getD a Bag.zero).list (b1Z (m0L a p.first) (fun _=>false) (m0L a p.first).length) x))],c⟩) (fun x=>x≤(S.getD a Bag.zero).list.length) (fun x=>(S.getD a Bag.zero).list.length - x) (0) om (a0c rfl (Nat.le_refl _) tsa hsa) (fun i c hx NhL2 hL2=>?_)
 (try dsimp only at hx hL2 ⊢)
 refine ru 11 ?_
 refine rvl (a0m (S.getD a Bag.zero).list) ((by show a0m (S.getD (0+a) Bag.zero).list=_;rw [Nat.zero_add])) ?_
 refine ru 4 ?_
 refine wdc (fun hr1 hc1=>?_) (fun hr1 hc1=>?_)
 ·skip
  have hil:i < (S.getD a Bag.zero).list.length:=om;have hlb:=a2q (S.getD a Bag.zero);obtain ⟨v,hv256,hvA,hv⟩:=a4v (S.getD a Bag.zero) hil;have hvw:=hSa v hv256 hvA;have hom:c5w β (S.getD a Bag.zero).list (b1Z (m0L a p.first) (fun _=>false) (m0L a p.first).length) (i+1)=b1Z (β v).list (c5w β (S.getD a Bag.zero).list (b1Z (m0L a p.first) (fun _=>false) (m0L a p.first).length) i) (β v).list.length:=(by show b1Z (β ((S.getD a Bag.zero).list.getD i 0).toNat).list _ _=_;rw [hv];rfl)
  refine ru 14 ?_
  first
  | refine a3a 58 (HOp.val (v':=a0m (S.getD a Bag.zero).list) (a0D ty_49.h rfl (by first | exact Nat.le_of_ble_eq_true rfl | omega | (dsimp only;omega) | (simp <;> omega)) (by first | exact Nat.le_of_ble_eq_true rfl | omega | (dsimp only;omega) | (simp <;> omega)) (fun h=>(by first | rfl | cases h))) ((by show a0m (S.getD (0+a) Bag.zero).list=_;rw [Nat.zero_add]))) rfl rfl (a0P rfl) rfl rfl (k':=9) rfl ?_
  | refine a3a 58 (HOp.val (v':=a0m (S.getD a Bag.zero).list) (a0r ty_49.h rfl (by first | exact Nat.le_of_ble_eq_true rfl | omega | (dsimp only;omega) | (simp <;> omega)) (fun h=>(by first | rfl | cases h))) ((by show a0m (S.getD (0+a) Bag.zero).list=_;rw [Nat.zero_add]))) rfl rfl a0g rfl rfl (k':=9) rfl ?_
  refine ru 2 ?_
  first
  | refine a3a 61 (HOp.val (v':=intV (v:Int)) (a0D ty_3.h rfl (by first | exact Nat.le_of_ble_eq_true rfl | omega | (dsimp only;omega) | (simp <;> omega)) (by first | exact Nat.le_of_ble_eq_true rfl | omega | (dsimp only;omega) | (simp <;> omega)) (fun h=>(by first | rfl | cases h))) ((by show intV ((S.getD a Bag.zero).list.getD i 0)=_;rw [hv]))) rfl rfl (a0P rfl) rfl rfl (k':=12) rfl ?_
  | refine a3a 61 (HOp.val (v':=intV (v:Int)) (a0r ty_3.h rfl (by first | exact Nat.le_of_ble_eq_true rfl | omega | (dsimp only;omega) | (simp <;> omega)) (fun h=>(by first | rfl | cases h))) ((by show intV ((S.getD a Bag.zero).list.getD i 0)=_;rw [hv]))) rfl rfl a0g rfl rfl (k':=12) rfl ?_
  refine ru 1 ?_
  first
  | refine a3a 63 (HOp.val (v':=a0m (β v).list) (a0D ty_49.h rfl (by first | exact Nat.le_of_ble_eq_true rfl | omega | (dsimp only;omega) | (simp <;> omega)) (by first | exact Nat.le_of_ble_eq_true rfl | omega | (dsimp only;omega) | (simp <;> omega)) (fun h=>(by first | rfl | cases h))) (rfl)) rfl rfl (a0P rfl) rfl rfl (k':=14) rfl ?_
  | refine a3a 63 (HOp.val (v':=a0m (β v).list) (a0r ty_49.h rfl (by first | exact Nat.le_of_ble_eq_true rfl | omega | (dsimp only;omega) | (simp <;> omega)) (fun h=>(by first | rfl | cases h))) (rfl)) rfl rfl a0g rfl rfl (k':=14) rfl ?_
  refine ru 9 ?_
  refine a0l (α:=Nat) (fun x c=>⟨118,[(0,.v (.pt 9101 g 0 0)),(2,.v (intV (a:Int))),(4,.v (.pt 4 c0 0 0)),(6,.v (.pt 6 (c0+1) 0 0)),(7,.v (.os 19 (c0+2) 0 wd)),(9,.v (intV i)),(10,.v (a0m (β v).list)),(11,.v (intV x))],[(9101,dtO g g2 g3 g4 S.length R.length),(9102,sdO g2 S),(9103,nxO g3 R),(9104,acO g4 A),(4,⟨c0,1,5,65,0,fun _=>ndF (.sl 1 wd (lrF (onF on))) (.sl 1 wd (lrF β)) p 0⟩),(6,⟨c0+1,1,32,106,0,fun _ j=>.imm (nl.getD j undef)⟩),(19,mbO (c0+2) wd (b1Z (β v).list (c5w β (S.getD a Bag.zero).list (b1Z (m0L a p.first) (fun _=>false) (m0L a p.first).length) i) x))],c⟩) (fun x=>x≤(β v).list.length) (fun x=>(β v).list.length - x) (0) om (a0c rfl (Nat.le_refl _) tsa hsa) (fun k c hx NhL3 hL3=>?_)
  (try dsimp only at hx hL3 ⊢)
  refine ru 9 ?_
  refine wdc (fun hr2 hc2=>?_) (fun hr2 hc2=>?_)
  ·skip
   have hkl:k < (β v).list.length:=om;have hlc:=a2q (β v);obtain ⟨u,hu256,huA,hu⟩:=a4v (β v) hkl;have huw:=hβ v u hu256 huA
   refine ru 10 ?_
   refine rvl (intV (u:Int)) ((by show intV ((β v).list.getD k 0)=_;rw [hu])) ?_
   refine ru 10 ?_
   exact hL3 (k+1) _ _ (by (try dsimp only);omega) (by (try dsimp only);omega) (a0c rfl (Nat.le_refl _) (tsr rfl (tsr rfl (tsr rfl (tsr rfl (tsr rfl (tsr rfl (tsr rfl (a0t.cons rfl (a0H om) a0t.nil)))))))) (hsr rfl (hsr rfl (hsr rfl (hsr rfl (hsr rfl (hsr rfl (a0f.cons rfl (b9F rfl hu om) a0f.nil))))))))
  obtain rfl:k=(β v).list.length:=om
  refine ru 2 ?_
  refine a0d ?_
  refine ru 8 ?_
  exact hL2 (i+1) _ _ (by (try dsimp only);omega) (by (try dsimp only);omega) (a0c rfl (Nat.le_refl _) (tsr rfl (tsr rfl (tsr rfl (tsr rfl (tsr rfl (a0t.cons rfl (a0H om) a0t.nil)))))) (hsr rfl (hsr rfl (hsr rfl (hsr rfl (hsr rfl (hsr rfl (a0f.cons rfl (by rw [hom];exact .refl _) a0f.nil))))))))
 obtain rfl:i=(S.getD a Bag.zero).list.length:=om;let k0:=c
 refine ru 2 ?_
 refine a0d ?_
 refine ru 4 ?_
 refine s0 (a9W (m:=32) (hs:=[]) ar_106.h rfl rfl trivial) ?_
 refine ru 6 ?_
 refine (a6h (hp':=(12,⟨k0,1,32,106,0,fun _ j=>.imm (nl.getD j undef)⟩)::[(9101,dtO g g2 g3 g4 S.length R.length),(9102,sdO g2 S),(9103,nxO g3 R),(9104,acO g4 A),(4,⟨c0,1,5,65,0,fun _=>ndF (.sl 1 wd (lrF (onF on))) (.sl 1 wd (lrF β)) p 0⟩),(6,⟨c0+1,1,32,106,0,fun _ j=>.imm (nl.getD j undef)⟩),(19,mbO (c0+2) wd (a2A β p.first S a))]) (a0f.cons rfl (.of fun i j hi hj=>by subst hzs;exact .refl _) (hsr rfl (hsr rfl (hsr rfl (hsr rfl (hsr rfl (hsr rfl (hsr rfl (a0f.nil)))))))))).wp ?_;refine (c0f 12 10000 32 k0 1 106 3 (a4p []) _ [(9101,dtO g g2 g3 g4 S.length R.length),(9102,sdO g2 S),(9103,nxO g3 R),(9104,acO g4 A),(4,⟨c0,1,5,65,0,fun _=>ndF (.sl 1 wd (lrF (onF on))) (.sl 1 wd (lrF β)) p 0⟩),(6,⟨c0+1,1,32,106,0,fun _ j=>.imm (nl.getD j undef)⟩),(19,mbO (c0+2) wd (a2A β p.first S a))] (c8U hzs) (by decide) rfl (by decide)).wp ?_
 refine ru 5 ?_
 refine a0l (α:=Nat×(Nat→Nat)) (fun x c=>⟨118,[(0,.v (.pt 9101 g 0 0)),(2,.v (intV (a:Int))),(4,.v (.pt 4 c0 0 0)),(6,.v (.pt 6 (c0+1) 0 0)),(7,.v (.os 19 (c0+2) 0 wd)),(12,.v (.pt 12 k0 0 0)),(13,.v (intV x.1))],((12,arO k0 (rwb x.2 (a3I (a2A β p.first S a) on x.1)))::(9101,dtO g g2 g3 g4 S.length R.length)::(9102,sdO g2 S)::(9103,nxO g3 R)::(9104,acO g4 A)::(4,⟨c0,1,5,65,0,fun _=>ndF (.sl 1 wd (lrF (onF on))) (.sl 1 wd (lrF β)) p 0⟩)::(6,⟨c0+1,1,32,106,0,fun _ j=>.imm (nl.getD j undef)⟩)::(19,mbO (c0+2) wd (a2A β p.first S a))::a4U 10000 (rwb x.2 (a3I (a2A β p.first S a) on x.1)) (fun _=>true) 32),c⟩) (fun x=>x.1≤wd) (fun x=>wd - x.1) ((0,fun k=>k0+2+k)) om (a0c rfl (Nat.le_refl _) tsa (hsr rfl (hsr rfl (hsr rfl (hsr rfl (hsr rfl (hsr rfl (hsr rfl (hsr rfl (by repeat (first | exact a0f.refl _ | exact a8D | refine a0f.skip ?_ rfl))))))))))) (fun x c hx NhL4 hL4=>?_)
 revert hx hL4;obtain ⟨q,gs⟩:=x;intro hx hL4;dsimp only at hx hL4 ⊢
 refine ru 9 ?_
 refine wdc (fun hr3 hc3=>?_) (fun hr3 hc3=>?_)
 ·skip
  have hqw:q < wd:=om
  refine ru 10 ?_
  refine a0l (α:=Nat×(Nat→Nat)) (fun x c=>⟨118,[(0,.v (.pt 9101 g 0 0)),(2,.v (intV (a:Int))),(4,.v (.pt 4 c0 0 0)),(6,.v (.pt 6 (c0+1) 0 0)),(7,.v (.os 19 (c0+2) 0 wd)),(12,.v (.pt 12 k0 0 0)),(13,.v (intV q)),(14,.v (intV x.1))],((12,arO k0 (rwb x.2 (inK (onF on q).list q (a3I (a2A β p.first S a) on q) x.1)))::(9101,dtO g g2 g3 g4 S.length R.length)::(9102,sdO g2 S)::(9103,nxO g3 R)::(9104,acO g4 A)::(4,⟨c0,1,5,65,0,fun _=>ndF (.sl 1 wd (lrF (onF on))) (.sl 1 wd (lrF β)) p 0⟩)::(6,⟨c0+1,1,32,106,0,fun _ j=>.imm (nl.getD j undef)⟩)::(19,mbO (c0+2) wd (a2A β p.first S a))::a4U 10000 (rwb x.2 (inK (onF on q).list q (a3I (a2A β p.first S a) on q) x.1)) (fun _=>true) 32),c⟩) (fun x=>x.1≤(onF on q).list.length∧(x.1=0∨(a2A β p.first S a) q=true)) (fun x=>(onF on q).list.length - x.1) ((0,gs)) (by exact ⟨Nat.zero_le _,.inl rfl⟩) (a0c rfl (Nat.le_refl _) tsa (hsr rfl (hsr rfl (hsr rfl (hsr rfl (hsr rfl (hsr rfl (hsr rfl (hsr rfl (by repeat (first | exact a0f.refl _ | exact a8D | refine a0f.skip ?_ rfl))))))))))) (fun x c hx NhL5 hL5=>?_)
  revert hx hL5;obtain ⟨k,hs⟩:=x;intro hx hL5;dsimp only at hx hL5 ⊢
  obtain ⟨hk,hkm⟩:=hx
  refine ru 7 ?_
  refine rvl (boolV ((a2A β p.first S a) q)) ((by show boolV ((a2A β p.first S a) (0+q))=_;rw [Nat.zero_add])) ?_
  refine ru 12 ?_
  refine wdc (fun hr4 hc4=>?_) (fun hr4 hc4=>?_)
  ·skip
   have hmq:(a2A β p.first S a) q=true:=(by simp at hr4;exact hr4.1);have hkl:k < (onF on q).list.length:=(by simp at hr4;exact hr4.2);have hld:=a2q (onF on q);obtain ⟨s,hs256,hsA,hs0⟩:=a4v (onF on q) hkl
   refine ru 14 ?_
   refine rvl (intV (s:Int)) ((by show intV ((onF on q).list.getD k 0)=_;rw [hs0])) ?_
   refine ru 9 ?_
   refine wdc (fun hr5 hc5=>?_) (fun hr5 hc5=>?_)
   ·skip
    have hs32:s < 32:=om;have hA:(inK (onF on q).list q (a3I (a2A β p.first S a) on q) (k+1)) s=(inK (onF on q).list q (a3I (a2A β p.first S a) on q) k) s++[(q:Int)]:=if_pos hs0;have hB:∀ j,j≠s→(inK (onF on q).list q (a3I (a2A β p.first S a) on q) (k+1)) j=(inK (onF on q).list q (a3I (a2A β p.first S a) on q) k) j:=(fun j hj=>if_neg (by rw [hs0];omega));have heq:∀ j,j < 32→fup (rwb hs (inK (onF on q).list q (a3I (a2A β p.first S a) on q) k)) s ⟨c+4,((inK (onF on q).list q (a3I (a2A β p.first S a) on q) (k+1)) s).length,1,3,0,a4p ((inK (onF on q).list q (a3I (a2A β p.first S a) on q) (k+1)) s)⟩ j=rwb (fun t=>if t=s then c+4 else hs t) (inK (onF on q).list q (a3I (a2A β p.first S a) on q) (k+1)) j:=(fun j _=>by unfold fup;by_cases e:j=s;(subst e;rw [if_pos rfl];show _=rwO (if j=j then _ else _) _;rw [if_pos rfl]);(rw [if_neg e];show rwO _ _=rwO (if j=s then _ else _) _;rw [if_neg e,hB j e]))
    have hl1:=b4D (l:=(onF on q).list) (q:=q) (B:=a3I (a2A β p.first S a) on q) k s;have hl2:=b5w (m:=(a2A β p.first S a)) (on:=on) q s;have hl3:=a2q (onF on q);refine (b0L 12 9377 10000 s 32 k0 (hs s) ((inK (onF on q).list q (a3I (a2A β p.first S a) on q) k) s).length 1 106 3 (a4p ((inK (onF on q).list q (a3I (a2A β p.first S a) on q) k) s)) [(9101,dtO g g2 g3 g4 S.length R.length),(9102,sdO g2 S),(9103,nxO g3 R),(9104,acO g4 A),(4,⟨c0,1,5,65,0,fun _=>ndF (.sl 1 wd (lrF (onF on))) (.sl 1 wd (lrF β)) p 0⟩),(6,⟨c0+1,1,32,106,0,fun _ j=>.imm (nl.getD j undef)⟩),(19,mbO (c0+2) wd (a2A β p.first S a))] (rwb hs (inK (onF on q).list q (a3I (a2A β p.first S a) on q) k)) rfl hs32 (by decide) (by decide) (by decide) rfl (c':=c+1) rfl).wp ?_
    refine ru 5 ?_
    refine rvl (HV.os 9377 c 0 ((inK (onF on q).list q (a3I (a2A β p.first S a) on q) k) s).length) ((by exact c5Z)) ?_
    refine ru 1 ?_
    refine a0u 114 (a0b (id:=114) (hs:=[_]) ei_49.h omx rfl omx ⟨rfl,rfl,rfl,rfl,trivial⟩) rfl rfl a0g rfl rfl (c':=c+2) rfl ?_
    first
    | refine a0u 115 (a0a ei_49.h (by first | exact Nat.le_of_ble_eq_true rfl | omega | (dsimp only;omega) | (simp <;> omega)) rfl (by first | exact Nat.le_of_ble_eq_true rfl | omega | (dsimp only;omega) | (simp <;> omega)) (by first | exact Nat.le_of_ble_eq_true rfl | omega | (dsimp only;omega) | (simp <;> omega)) (a0x rfl (by first | exact Nat.le_of_ble_eq_true rfl | omega | (dsimp only;omega) | (simp <;> omega))) (by first | exact Nat.le_of_ble_eq_true rfl | omega | (dsimp only;omega) | (simp <;> omega)) rfl) rfl rfl (a0i rfl (a0P rfl)) rfl rfl (c':=c+3) rfl ?_
    | refine a0u 115 (a0a ei_49.h (by first | exact Nat.le_of_ble_eq_true rfl | omega | (dsimp only;omega) | (simp <;> omega)) rfl (by first | exact Nat.le_of_ble_eq_true rfl | omega | (dsimp only;omega) | (simp <;> omega)) (by first | exact Nat.le_of_ble_eq_true rfl | omega | (dsimp only;omega) | (simp <;> omega)) (a0S rfl (by first | exact Nat.le_of_ble_eq_true rfl | omega | (dsimp only;omega) | (simp <;> omega))) (by first | exact Nat.le_of_ble_eq_true rfl | omega | (dsimp only;omega) | (simp <;> omega)) rfl) rfl rfl (a0i rfl (a0P rfl)) rfl rfl (c':=c+3) rfl ?_
    | refine a0u 115 (a0a ei_49.h (by first | exact Nat.le_of_ble_eq_true rfl | omega | (dsimp only;omega) | (simp <;> omega)) rfl (by first | exact Nat.le_of_ble_eq_true rfl | omega | (dsimp only;omega) | (simp <;> omega)) (by first | exact Nat.le_of_ble_eq_true rfl | omega | (dsimp only;omega) | (simp <;> omega)) (a0O rfl) (by first | exact Nat.le_of_ble_eq_true rfl | omega | (dsimp only;omega) | (simp <;> omega)) rfl) rfl rfl (a0i rfl a0g) rfl rfl (c':=c+3) rfl ?_
    | refine a0u 115 (a0a ei_49.h (by first | exact Nat.le_of_ble_eq_true rfl | omega | (dsimp only;omega) | (simp <;> omega)) rfl (by first | exact Nat.le_of_ble_eq_true rfl | omega | (dsimp only;omega) | (simp <;> omega)) (by first | exact Nat.le_of_ble_eq_true rfl | omega | (dsimp only;omega) | (simp <;> omega)) (a0z 1 (fun _ _=>default) rfl) (by first | exact Nat.le_of_ble_eq_true rfl | omega | (dsimp only;omega) | (simp <;> omega)) rfl) rfl rfl (a0i rfl a0g) rfl rfl (c':=c+3) rfl ?_
    refine ru 10 ?_
    exact hL5 ((k+1,fun t=>if t=s then c+4 else hs t)) _ _ (by (try dsimp only);exact ⟨by omega,.inr hmq⟩) (by (try dsimp only);omega) (a4I.trans (a6h (a0f.cons (o':=⟨k0,1,32,106,0,c3o 10000 (rwb hs (inK (onF on q).list q (a3I (a2A β p.first S a) on q) k)) s 9377 (c+2) ((inK (onF on q).list q (a3I (a2A β p.first S a) on q) (k+1)) s).length⟩) rfl (.of fun i' j hi' hj=>by obtain rfl:i'=0:=om;by_cases e:j=s;(subst e;rw [a8T ⟨rfl,by omega,by omega⟩];show Sb _ (if j=j then _ else _);rw [if_pos rfl];exact a3k (by rw [hA];simp));(rw [a7b om];show Sb (if j=s then _ else _) (if j=s then _ else _);rw [if_neg e,if_neg e];exact .refl _)) (a0f.cons (o':=⟨c+2,((inK (onF on q).list q (a3I (a2A β p.first S a) on q) (k+1)) s).length,1,3,0,a4p ((inK (onF on q).list q (a3I (a2A β p.first S a) on q) (k+1)) s)⟩) rfl (by rw [hA];exact a0G (enc:=fun x _=>intV x) (d:=0) rfl (fun _ _ _ _=>.refl _) (fun _ _=>.refl _)) (hsr rfl (hsr rfl (hsr rfl (hsr rfl (hsr rfl (hsr rfl (hsr rfl ((by repeat (first | exact a0f.refl _ | exact a8D | refine a0f.skip ?_ rfl))))))))))))) (a4I.trans (b7q 12 9377 10000 s 32 k0 (c+2) ((inK (onF on q).list q (a3I (a2A β p.first S a) on q) (k+1)) s).length 1 0 106 3 (a4p ((inK (onF on q).list q (a3I (a2A β p.first S a) on q) (k+1)) s)) [(9101,dtO g g2 g3 g4 S.length R.length),(9102,sdO g2 S),(9103,nxO g3 R),(9104,acO g4 A),(4,⟨c0,1,5,65,0,fun _=>ndF (.sl 1 wd (lrF (onF on))) (.sl 1 wd (lrF β)) p 0⟩),(6,⟨c0+1,1,32,106,0,fun _ j=>.imm (nl.getD j undef)⟩),(19,mbO (c0+2) wd (a2A β p.first S a))] (rwb hs (inK (onF on q).list q (a3I (a2A β p.first S a) on q) k)) om (by decide) (by decide) (by decide) rfl) (a0c rfl (Nat.le_refl _) (tsr rfl (tsr rfl (tsr rfl (tsr rfl (tsr rfl (tsr rfl (tsr rfl (a0t.cons rfl (a0H om) a0t.nil)))))))) (a0f.cons rfl (.of fun i' j hi' hj=>by have e:=heq j hj;show Sb (.os _ (fup _ _ _ j).g 0 (fup _ _ _ j).n) (.os _ (if j=s then c+4 else hs j) 0 ((inK (onF on q).list q (a3I (a2A β p.first S a) on q) (k+1)) j).length);rw [e];exact .refl _) (hsr rfl (hsr rfl (hsr rfl (hsr rfl (hsr rfl (hsr rfl (hsr rfl ((by repeat (first | exact a8P (fun j hj _=>heq j hj) | refine a0f.skip ?_ rfl))))))))))))))
   have hno:∀ j,j < 32→(inK (onF on q).list q (a3I (a2A β p.first S a) on q) k) j=(inK (onF on q).list q (a3I (a2A β p.first S a) on q) (k+1)) j:=(fun j hj=>(if_neg (by rw [hs0];omega)).symm)
   refine ru 8 ?_
   exact hL5 ((k+1,hs)) _ _ (by (try dsimp only);exact ⟨by omega,.inr hmq⟩) (by (try dsimp only);omega) (a0c rfl (Nat.le_refl _) (tsr rfl (tsr rfl (tsr rfl (tsr rfl (tsr rfl (tsr rfl (tsr rfl (a0t.cons rfl (a0H om) a0t.nil)))))))) (a0f.cons rfl (.of fun i' j hi' hj=>by show Sb (.os _ _ 0 ((inK (onF on q).list q (a3I (a2A β p.first S a) on q) k) j).length) (.os _ _ 0 ((inK (onF on q).list q (a3I (a2A β p.first S a) on q) (k+1)) j).length);rw [hno j hj];exact .refl _) (hsr rfl (hsr rfl (hsr rfl (hsr rfl (hsr rfl (hsr rfl (hsr rfl ((by repeat (first | exact a8P (fun j hj _=>by show rwO _ _=rwO _ _;rw [hno j hj]) | refine a0f.skip ?_ rfl))))))))))))
  have hend:∀ t,(inK (onF on q).list q (a3I (a2A β p.first S a) on q) k) t=a3I (a2A β p.first S a) on (q+1) t:=(fun t=>by by_cases h:(a2A β p.first S a) q=true;(have hk2:k=(onF on q).list.length:=(by rw [h] at hr4;have:=of_decide_eq_false hr4;rw [Int.toNat_natCast] at this;omega);show _=(if (a2A β p.first S a) q=true then _ else _:Nat→List Int) t;rw [if_pos h,hk2]);(have hk0:k=0:=(hkm.resolve_right h);subst hk0;show _=(if (a2A β p.first S a) q=true then _ else _:Nat→List Int) t;rw [if_neg h];rfl))
  refine ru 2 ?_
  refine a0d ?_
  refine ru 8 ?_
  exact hL4 ((q+1,hs)) _ _ (by (try dsimp only);omega) (by (try dsimp only);omega) (a0c rfl (Nat.le_refl _) (tsr rfl (tsr rfl (tsr rfl (tsr rfl (tsr rfl (tsr rfl (a0t.cons rfl (a0H om) a0t.nil))))))) (a0f.cons rfl (.of fun i' j hi' hj=>by show Sb (.os _ _ 0 ((inK (onF on q).list q (a3I (a2A β p.first S a) on q) k) j).length) (.os _ _ 0 (a3I (a2A β p.first S a) on (q+1) j).length);rw [hend j];exact .refl _) (hsr rfl (hsr rfl (hsr rfl (hsr rfl (hsr rfl (hsr rfl (hsr rfl ((by repeat (first | exact a8P (fun j hj _=>by show rwO _ _=rwO _ _;rw [hend j]) | refine a0f.skip ?_ rfl))))))))))))
 obtain rfl:q=wd:=om
 refine ru 2 ?_
 refine a0d ?_
 refine ru 9 ?_
 exact a1q ok hX a3g.one rfl (a0I rfl rfl ty_106.h (fun h=>by cases h) rfl rfl) (a4U 10000 (rwb gs (a3I (a2A β p.first S a) on q)) (fun _=>true) 32) (b9j 32) (b7M (fun k hk=>by (repeat rw [b8q rfl]);exact b4r hk) 32 (Nat.le_refl _)) () trivial rfl rfl (.fz _ _ (.agg _ _ _ fun s hs=>Fz.os (10000+s) (gs s) 0 _ (rwO (gs s) (a3I (a2A β p.first S a) on q s)) _ (c0E hs) rfl (Nat.le_of_eq (Nat.zero_add _)) (fun i j hi hj=>by rw [Nat.zero_add];exact .imm _))) ⟨⟨_,rfl,b9O rfl rfl rfl rfl rfl rfl⟩,⟨_,rfl,b8D⟩,⟨_,rfl,a3y rfl fun _ _ _ _=>.imm _⟩,⟨_,rfl,a3y rfl fun _ _ _ _=>.imm _⟩,trivial⟩
end Go.Proofs.YtdbbbafiegpbpaaGreatDoor
namespace Go.Proofs.YtdbbbafiegpbpaaGreatDoor
set_option linter.unusedSimpArgs false
set_option linter.unusedVariables false
theorem b6z {l:List Int} {P:Int→Prop}:(∃ k,k < l.length∧P (l.getD k 0))↔∃ v∈l,P v:=by
 constructor
 ·rintro ⟨k,hk,h⟩
  rw [List.getD_eq_getElem?_getD,List.getElem?_eq_getElem hk] at h
  exact ⟨_,List.getElem_mem hk,h⟩
 ·rintro ⟨v,hv,h⟩
  obtain ⟨k,hk,e⟩:=List.getElem_of_mem hv
  exact ⟨k,hk,by rw [List.getD_eq_getElem?_getD,List.getElem?_eq_getElem hk];show P l[k];rw [e];exact h⟩
theorem a5c {k:Nat} {P:Nat→Prop}:(∃ j,j < k+1∧P j)↔(∃ j,j < k∧P j)∨P k:=by
 constructor
 ·rintro ⟨j,hj,h⟩
  rcases Nat.lt_succ_iff_lt_or_eq.1 hj with h1 | rfl
  ·exact .inl ⟨j,h1,h⟩
  ·exact .inr h
 ·rintro (⟨j,hj,h⟩ | h)
  ·exact ⟨j,by omega,h⟩
  ·exact ⟨k,by omega,h⟩
theorem a7p {P:Nat→Prop}:(∃ j,j < 0∧P j)↔False:=⟨fun ⟨j,h,_⟩=>absurd h (Nat.not_lt_zero j),False.elim⟩
theorem b7T {l:List Int} {m:Nat→Bool} {q:Nat}:∀ k,b1Z l m k q=true↔m q=true∨∃ j,j < k∧(q:Int)=l.getD j 0
  | 0=>by rw [a7p,or_false];rfl
  | k + 1 => by
    rw [a5c,←or_assoc,←b7T k]
    show (b1Z l m k q||decide _)=true↔_
    rw [Bool.or_eq_true,decide_eq_true_eq]
theorem b5d {l:List Int} {m:Nat→Bool} {q:Nat}:b1Z l m l.length q=true↔m q=true∨(q:Int)∈l:=by
 rw [b7T,b6z (P:=fun v=>(q:Int)=v)]
 simp
theorem b7W {β:Nat→Bag} {L:List Int} {M:Nat→Bool} {q:Nat}:∀ i,c5w β L M i q=true↔M q=true∨∃ j,j < i∧(q:Int)∈(β (L.getD j 0).toNat).list
  | 0=>by rw [a7p,or_false];rfl
  | i + 1 => by
    rw [a5c,←or_assoc,←b7W i]
    exact b5d
theorem c4X {β:Nat→Bag} {first:Bag} {S:List Bag} {a q:Nat}:a2A β first S a q=true↔(a=0∧(q:Int)∈first.list)∨∃ v∈(S.getD a Bag.zero).list,(q:Int)∈(β v.toNat).list:=by
 unfold a2A
 rw [b7W,b5d,b6z (P:=fun v=>(q:Int)∈(β v.toNat).list)]
 unfold m0L
 by_cases h:a=0 <;> simp [h]
theorem c3G {l:List Int} (hn:l.Nodup) {q:Nat} {B:Nat→List Int} {s:Nat}:∀ k,k≤l.length→inK l q B k s=B s++(if ∃ j,j < k∧l.getD j 0=(s:Int) then [(q:Int)] else [])
  | 0,_=>by rw [if_neg (by rw [a7p];exact id),List.append_nil];rfl
  | k + 1, hk => by
    show (if l.getD k 0=(s:Int) then inK l q B k s++[(q:Int)] else inK l q B k s)=_
    rw [c3G hn k (by omega)]
    by_cases h:l.getD k 0=(s:Int)
    · rw [if_pos h,if_pos (a5c.2 (.inr h)),if_neg,List.append_nil]
      rintro ⟨j,hj,e⟩
      rw [←h,List.getD_eq_getElem?_getD,List.getD_eq_getElem?_getD,List.getElem?_eq_getElem (by omega),List.getElem?_eq_getElem (by omega)] at e
      have:=(List.pairwise_iff_getElem.1 hn) j k (by omega) (by omega) hj
      exact this e
    · rw [if_neg h]
      congr 1
      by_cases h2:∃ j,j < k∧l.getD j 0=(s:Int)
      · rw [if_pos h2,if_pos (a5c.2 (.inl h2))]
      · rw [if_neg h2,if_neg (fun h3=>(a5c.1 h3).elim h2 h)]
theorem b8f {m:Nat→Bool} {on:List Bag} {s:Nat}:∀ q,a3I m on q s=((List.range q).filter (fun p=>m p&&decide ((s:Int)∈(onF on p).list))).map (fun j:Nat=>(j:Int))
  | 0=>rfl
  | q + 1 => by
    rw [List.range_succ,List.filter_append,List.map_append,←b8f q]
    show (if m q=true then inK (onF on q).list q (a3I m on q) (onF on q).list.length else a3I m on q:Nat→List Int) s=_
    have hex:(∃ j,j < (onF on q).list.length∧(onF on q).list.getD j 0=(s:Int))↔(s:Int)∈(onF on q).list:=by
      rw [b6z (P:=fun v=>v=(s:Int))];simp
    by_cases h:m q=true
    · rw [if_pos h,c3G (b0n _) _ (Nat.le_refl _)]
      congr 1
      by_cases h2:(s:Int)∈(onF on q).list
      · rw [if_pos (hex.2 h2),List.filter_cons_of_pos (by rw [h,decide_eq_true h2];rfl)];rfl
      · rw [if_neg (fun h3=>h2 (hex.1 h3)),List.filter_cons_of_neg (by rw [decide_eq_false h2,Bool.and_false];decide)];rfl
    · rw [if_neg h,List.filter_cons_of_neg (by rw [eq_false_of_ne_true h,Bool.false_and];decide)];simp
theorem a7q {f g:Nat→Bool} {n:Nat}:∀ k,(∀ p,p < n→g p=f p)→(∀ p,n≤p→p < n+k→g p=false)→(List.range (n+k)).filter g=(List.range n).filter f
  | 0,h1,h2=>List.filter_congr fun p hp=>h1 p (List.mem_range.1 hp)
  | k + 1, h1, h2 => by
    rw [←Nat.add_assoc,List.range_succ,List.filter_append,a7q k h1 (fun p a b=>h2 p a (by omega)),List.filter_cons_of_neg (by rw [h2 (n+k) (by omega) (by omega)];decide),List.filter_nil,List.append_nil]
theorem b0W {l:List Int} {B:Nat→Bag} {p:Int} {s j:Nat} (hj:j < 256):∀ k,(b0O l B p k s).has j=true↔(B s).has j=true∨((j:Int)=p∧s < 32∧∃ i,i < k∧l.getD i 0=(s:Int))
  | 0=>by rw [a7p];simp [b0O]
  | k + 1 => by
    rw [a5c]
    unfold b0O
    by_cases h:l.getD k 0=(s:Int)∧s < 32
    · rw [if_pos h,Bag.with_has _ _ _ hj,Bool.or_eq_true,decide_eq_true_eq,b0W hj k]
      have h1:=h.1
      have h2:=h.2
      constructor
      · rintro (e | e | e)
        · exact .inr ⟨e,h2,.inr h1⟩
        · exact .inl e
        · exact .inr ⟨e.1,e.2.1,.inl e.2.2⟩
      · rintro (e | ⟨e,_,e2⟩)
        · exact .inr (.inl e)
        · exact .inl e
    · rw [if_neg h,b0W hj k]
      constructor
      · rintro (e | ⟨e,e2,e3⟩)
        · exact .inl e
        · exact .inr ⟨e,e2,.inl e3⟩
      · rintro (e | ⟨e,e2,e3 | e3⟩)
        · exact .inl e
        · exact .inr ⟨e,e2,e3⟩
        · exact absurd ⟨e3,e2⟩ h
theorem b5H {L:List Int} {O:Int→Bag} {s j:Nat} (hj:j < 256):∀ k,(b7z L O k s).has j=true↔∃ i,i < k∧((j:Int)=L.getD i 0∧s < 32∧(s:Int)∈(O (L.getD i 0)).list)
  | 0=>by rw [a7p];simp [b7z,Bag.zero_has]
  | k + 1 => by
    rw [a5c,←b5H hj k]
    show (b0O (O (L.getD k 0)).list (b7z L O k) (L.getD k 0) (O (L.getD k 0)).list.length s).has j=true↔_
    rw [b0W hj,b6z (P:=fun v=>v=(s:Int))]
    simp
theorem a6A {wd:Nat} {on:List Bag} {m:Bag} {s j:Nat} (hj:j < 256) (hs:s < 32):(a1D wd on m s).has j=true↔m.has j=true∧j < wd∧(s:Int)∈(onF on j).list:=by
 unfold a1D
 rw [b5H hj,b6z (P:=fun v=>(j:Int)=v∧s < 32∧(s:Int)∈(onI wd on v).list)]
 constructor
 ·rintro ⟨v,hv,rfl,_,h⟩
  by_cases hw:j < wd
  ·refine ⟨(m.mem_list j hj).1 hv,hw,?_⟩
   unfold onI at h
   rwa [if_pos ⟨by omega,by omega⟩,Int.toNat_natCast] at h
  ·unfold onI at h
   rw [if_neg (by omega)] at h
   rw [Bag.mem_list _ _ (by omega),Bag.zero_has] at h
   cases h
 ·rintro ⟨h1,h2,h3⟩
  refine ⟨(j:Int),(m.mem_list j hj).2 h1,rfl,hs,?_⟩
  unfold onI
  rwa [if_pos ⟨by omega,by omega⟩,Int.toNat_natCast]
theorem b5L {wd:Nat} {β:Nat→Bag} {L:List Int} {q:Nat}:∀ k,(c0O wd β L k).has q=true↔∃ j,j < k∧(beI wd β (L.getD j 0)).has q=true
  | 0=>by rw [a7p];simp [c0O,Bag.zero_has]
  | k + 1 => by
    rw [a5c,←b5L k]
    show (bun _ _).has q=true↔_
    rw [b1k,Bool.or_eq_true]
theorem b4f {wd:Nat} (hw:wd≤256) {on:List Bag} {β:Nat→Bag} {first:Bag} {S:List Bag} {a s:Nat} (hs:s < 32) (h0:S.getD 0 Bag.zero=Bag.zero) (hSa:InB 0 wd (S.getD a Bag.zero)):a3I (a2A β first S a) on wd s=(gD wd on β first S a s).list:=by
  rw [b8f,Bag.list_eq]
  congr 1
  obtain ⟨k,hk⟩:∃ k,256=wd+k:=⟨256 - wd,by omega⟩
  have hz:∀ v:Int,v∉Bag.zero.list:=by
    intro v hv
    rw [Bag.list_eq,List.mem_map] at hv
    obtain ⟨j,hj,rfl⟩:=hv
    have:=(List.mem_filter.1 hj).2
    rw [Bag.zero_has] at this;cases this
  have key:∀ p,p < 256→((gD wd on β first S a s).has p=true↔p < wd∧a2A β first S a p=true∧(s:Int)∈(onF on p).list):=by
    intro p hp
    rw [c4X]
    cases a with
    | zero =>
      show (a1D wd on first s).has p=true↔_
      rw [a6A hp hs,h0,←first.mem_list p hp]
      constructor
      · rintro ⟨x1,x2,x3⟩;exact ⟨x2,.inl ⟨rfl,x1⟩,x3⟩
      · rintro ⟨x1,x2 | ⟨v,hv,_⟩,x3⟩
        · exact ⟨x2.2,x1,x3⟩
        · exact absurd hv (hz v)
    | succ a =>
      show (a1D wd on (c0O wd β (S.getD (a+1) Bag.zero).list (S.getD (a+1) Bag.zero).list.length) s).has p=true↔_
      rw [a6A hp hs,b5L,b6z (P:=fun v=>(beI wd β v).has p=true)]
      constructor
      · rintro ⟨⟨v,hv,x1⟩,x2,x3⟩
        refine ⟨x2,.inr ⟨v,hv,?_⟩,x3⟩
        unfold beI at x1
        split at x1
        · exact (Bag.mem_list _ p hp).2 x1
        · rw [Bag.zero_has] at x1;cases x1
      · rintro ⟨x1,x2 | ⟨v,hv,x2⟩,x3⟩
        · exact absurd x2.1 (Nat.succ_ne_zero a)
        · refine ⟨⟨v,hv,?_⟩,x1,x3⟩
          rw [Bag.list_eq,List.mem_map] at hv
          obtain ⟨j,hj,rfl⟩:=hv
          have h1:=List.mem_filter.1 hj
          have h2:=hSa j (List.mem_range.1 h1.1) h1.2
          unfold beI
          rw [if_pos ⟨by omega,by omega⟩]
          exact (Bag.mem_list _ p hp).1 x2
  symm
  rw [hk]
  refine a7q k (fun p hp=>?_) (fun p h1 h2=>?_)
  · rw [Bool.eq_iff_iff,key p (by omega),Bool.and_eq_true,decide_eq_true_eq]
    exact ⟨fun h=>h.2,fun h=>⟨hp,h⟩⟩
  · cases h : (gD wd on β first S a s).has p with
    | false=>rfl
    | true=>have:=(key p (by omega)).1 h;omega
theorem c9t {wd:Nat} {on:List Bag} {β:Nat→Bag} {first:Bag} {S:List Bag} {a s:Nat} (hs:s < 32):InB 0 wd (gD wd on β first S a s):=fun p hp h=>by
 cases a with
 | zero=>exact ⟨Nat.zero_le _,((a6A hp hs).1 h).2.1⟩
 | succ a=>exact ⟨Nat.zero_le _,((a6A hp hs).1 h).2.1⟩
theorem c0b {wd:Nat} {on:List Bag} {β:Nat→Bag} {first:Bag} {S:List Bag} {a s:Nat}:(gD wd on β first S a s).ok:=by
 cases a with
 | zero=>exact a4X _ _ _ _
 | succ a=>exact a4X _ _ _ _
structure SetOk (wd:Nat) (S:List Bag):Prop where
 one:0 < S.length
 fst:S.getD 0 Bag.zero=Bag.zero
 ok:∀ b∈S,b.ok
 inb:∀ b∈S,InB 0 wd b
theorem SetOk.at {wd:Nat} {S:List Bag} (h:SetOk wd S) {a:Nat} (ha:a < S.length):(S.getD a Bag.zero).ok∧InB 0 wd (S.getD a Bag.zero):=by
 rw [List.getD_eq_getElem?_getD,List.getElem?_eq_getElem ha]
 exact ⟨h.ok _ (List.getElem_mem ha),h.inb _ (List.getElem_mem ha)⟩
theorem SetOk.put {wd:Nat} {S:List Bag} (h:SetOk wd S) {b:Bag} (hb:b.ok) (hi:InB 0 wd b):SetOk wd (a4g Bag.zero S b).1:=by
  unfold a4g
  split
  · exact h
  · cases idA S b with
    | some n=>exact h
    | none =>
      have hl:=h.one
      refine ⟨by show 0 < (S++[b]).length;simp,by show (S++[b]).getD 0 Bag.zero=_;rw [b7u hl];exact h.fst,fun x hx=>?_,fun x hx=>?_⟩
      · rcases List.mem_append.1 hx with hx | hx
        · exact h.ok x hx
        · simp at hx;subst hx;exact hb
      · rcases List.mem_append.1 hx with hx | hx
        · exact h.inb x hx
        · simp at hx;subst hx;exact hi
theorem SetOk.row {wd:Nat} {S:List Bag} (h:SetOk wd S) {g:Nat→Bag} (hg:∀ k,k < 32→(g k).ok∧InB 0 wd (g k)):∀ k,k≤32→SetOk wd (a1z Bag.zero g S k).1
 | 0,_=>h
 | k+1,hk=>(h.row hg k (by omega)).put (hg k (by omega)).1 (hg k (by omega)).2
theorem SetOk.zero (wd:Nat):SetOk wd [Bag.zero]:=⟨by decide,rfl,fun b hb=>by simp at hb;subst hb;exact Bag.zero_ok,fun b hb=>by simp at hb;subst hb;exact fun p _ h=>by rw [Bag.zero_has] at h;cases h⟩
theorem b9U {S:List Bag} {b:Bag} (hb:b≠Bag.zero):a4g Bag.zero S b=if rfV S b < 0 then (S++[b],(S.length:Int)) else (S,rfV S b):=by
 unfold a4g rfV
 rw [if_neg hb]
 cases idA S b with
 | some n=>show (S,(n:Int))=if (n:Int) < 0 then _ else (S,(n:Int));rw [if_neg (by omega)]
 | none=>show (S++[b],(S.length:Int))=if (-1:Int) < 0 then (S++[b],(S.length:Int)) else _;rw [if_pos (by omega)]
theorem a9c {b:Bag} (hb:b.ok):b.list=[]↔b=Bag.zero:=by
 constructor
 ·intro h
  refine Bag.ext_has _ _ hb Bag.zero_ok fun k hk=>?_
  rw [Bag.zero_has]
  cases h1:b.has k with
  | false=>rfl
  | true=>have:=(b.mem_list k hk).2 h1;rw [h] at this;cases this
 ·rintro rfl
  rw [Bag.list_eq,List.map_eq_nil_iff,List.filter_eq_nil_iff]
  intro k _
  rw [Bag.zero_has];decide
end Go.Proofs.YtdbbbafiegpbpaaGreatDoor
namespace Go.Proofs.YtdbbbafiegpbpaaGreatDoor
set_option linter.unusedSimpArgs false
set_option linter.unusedVariables false
set_option maxRecDepth 100000
set_option maxHeartbeats 4000000
open Go.RowKit
theorem c2p {g ty fl:Nat} {f f':Nat→Nat→HV} (h0:Sb (f 0 0) (f' 0 0)) (h1:Sb (f 0 1) (f' 0 1)) (h2:Sb (f 0 2) (f' 0 2)) (hfn:fl≤1:=by exact Nat.zero_le _):a2X ⟨g,1,3,ty,fl,f⟩ ⟨g,1,3,ty,fl,f'⟩:=.of (hfn:=hfn) fun i j hi hj=>by
 obtain rfl:i=0:=by omega
 match j,hj with | 0,_=>exact h0 | 1,_=>exact h1 | 2,_=>exact h2
def c9E (p:Pc):Option (List Bag×List (List Int))→HV
 | some (S,R)=>t2 (tabD S R (accS p.empty p.ends S)) (boolV true)
 | none=>t2 (.agg 3 fun _=>.imm (.slice none 0 0)) (boolV false)
theorem c9n {sh:List (Nat×HObj)} {g2 g3 g4 n m:Nat} {S:List Bag} {R:List (List Int)} {A:List Bool} (hn:n=S.length) (hm:m=R.length) (m2:(9102,sdO g2 S)∈sh) (m3:(9103,nxO g3 R)∈sh) (m4:(9104,acO g4 A)∈sh) (hA:A.length=S.length):∀ i,i < 3→Fz sh (dtF g2 g3 g4 n m i) (tdF S R A i):=fun i hi=>by
  subst hn;subst hm
  match i,hi with
  | 0,_=>exact Fz.os 9102 g2 0 S.length (sdO g2 S) _ m2 rfl (Nat.le_of_eq (Nat.zero_add _)) (fun i j hi hj=>by rw [Nat.zero_add];show Fz sh (a0m _) (a0m _);exact Frz.fz)
  | 1,_=>exact Fz.os 9103 g3 0 R.length (nxO g3 R) _ m3 rfl (Nat.le_of_eq (Nat.zero_add _)) (fun i j hi hj=>by rw [Nat.zero_add];exact .imm _)
  | 2, _ =>
    show Fz sh (.os 9104 g4 0 S.length) (.sl 1 A.length _)
    rw [←hA]
    exact Fz.os 9104 g4 0 A.length (acO g4 A) _ m4 rfl (Nat.le_of_eq (Nat.zero_add _)) (fun i j hi hj=>by rw [Nat.zero_add];exact .imm _)
theorem c5Y:Sb (.imm (.slice none 0 0)) (a0m Bag.zero.list):=by
 rw [(a9c Bag.zero_ok).2 rfl];exact Sb.nil 0 1 _ (Nat.zero_le _) _
theorem c1Z {e:Bool} {E:Bag} {S:List Bag} (hS:0 < S.length) (s:Bag):accS e E (S++[s])=accS e E S++[decide (s.mix a6U E 4≠Bag.zero)]:=by
 cases S with
 | nil=>simp at hS
 | cons x r=>simp [accS]
theorem b3O {z:Bag} {g:Nat→Bag} {S A:List Bag} {k:Nat} {x:Int} (h:a4g z (a1z z g S k).1 (g k)=(A,x)):(a1z z g S (k+1)).1=A∧(a1z z g S (k+1)).2=(a1z z g S k).2++[x]:=by
 have e:a1z z g S (k+1)=((a4g z (a1z z g S k).1 (g k)).1,(a1z z g S k).2++[(a4g z (a1z z g S k).1 (g k)).2]):=rfl
 rw [e,h];exact ⟨rfl,rfl⟩
theorem c6Y {zs:List Value} (hz:zs=List.replicate 32 (Value.int .i64 0)) {j:Nat} (hj:j < 32) {x:HV} (hx:x=intV 0):Sb (.imm (zs.getD j undef)) x:=by
 subst hz;subst hx
 rw [show (List.replicate 32 (Value.int .i64 0)).getD j undef=.int .i64 0 from by rw [List.getD_eq_getElem?_getD,List.getElem?_replicate,if_pos hj];rfl];exact .refl _
theorem b4B {g s off:Nat} {r:List Int} {x:Int} (hr:r.length=s) (hs:s < 32) (ho:off=s):a2X ⟨g,1,32,50,0,upd (fun _ j=>intV (r.getD j 0)) 0 off 1 (fun j=>(intV x).cell j)⟩ ⟨g,1,32,50,0,fun _ j=>intV ((r++[x]).getD j 0)⟩:=.of fun i j hi hj=>by
 subst ho;subst hr
 obtain rfl:i=0:=by omega
 by_cases h:j=r.length
 ·subst h
  rw [a8T ⟨rfl,by omega,by omega⟩,b7v rfl];exact .refl _
 ·rw [a7b (by omega)]
  rcases Nat.lt_or_ge j r.length with h2 | h2
  ·rw [b7u h2];exact .refl _
  ·rw [b0R (l:=r) h2,b0R (l:=r++[x]) (by simp;omega)];exact .refl _
theorem c1d (wd:Nat) (on:List Bag) (β:Nat→Bag) (p:Pc) (hw:wd≤256) (hF:InB 0 wd p.first) (hβ:∀ q,InB 0 wd (β q)) (hpk:p.ok):HPure Tryz.prog 22 [ndR wd on β p] (c9E p (tabV wd on β p)):=by
 refine a8V Tryz.func22 rfl kr _ _ _ rfl 76 rfl rfl (fun w F=>?_)
 refine ru 9 ?_
 refine a0u 11 (a0b (id:=9102) (hs:=[_]) ei_24.h (nb rfl) rfl (nb rfl) ⟨rfl,rfl,rfl,rfl,trivial⟩) rfl rfl a0g rfl rfl (c':=3) rfl ?_
 refine ru 2 ?_
 refine a0u 14 (a0b (id:=9104) (hs:=[_]) ei_26.h (nb rfl) rfl (nb rfl) ⟨rfl,rfl,rfl,rfl,trivial⟩) rfl rfl a0g rfl rfl (c':=4) rfl ?_
 refine ru 1 ?_
 refine a0u 4 (a0X (id:=9101) (sz:=3) zc_28.h rfl rfl (nb rfl) (nb rfl)) rfl rfl a0g rfl rfl (c':=5) rfl ?_
 refine ru 5 ?_
 refine (a1e 9101 ⟨4,1,3,28,0,fun _ j=>match j with | 0=>.os 9102 2 0 1 | 1=>.imm (.slice none 0 0) | _=>.os 9104 3 0 1⟩ rfl (c2p (.refl _) (.refl _) (.refl _))).wp ?_;refine (a1x 9101 1 9103 32 50 (b8Q []) (fun _=>dtF 2 6 3 1 0) rfl rfl (fun j hj=>by match j,hj with | 0,_=>exact .inr rfl | 1,_=>exact .inl ⟨rfl,rfl⟩ | 2,_=>exact .inr rfl) (by decide) (by decide) (c':=7) rfl).wp ?_
 refine ru 5 ?_
 refine a0l (α:=Nat×Nat×Nat×Nat×List Bag×List (List Int)) (fun x c=>⟨76,[(1,.v (.pt 1 0 0 0)),(2,.v (.pt 2 1 0 0)),(3,.v (boolV false)),(4,.v (.pt 9101 4 0 0)),(5,.v (intV (x.1:Int)))],[(9101,dtO 4 x.2.1 x.2.2.1 x.2.2.2.1 x.2.2.2.2.1.length x.2.2.2.2.2.length),(9102,sdO x.2.1 x.2.2.2.2.1),(9103,nxO x.2.2.1 x.2.2.2.2.2),(9104,acO x.2.2.2.1 (accS p.empty p.ends x.2.2.2.2.1)),(1,⟨0,1,5,65,0,fun _=>ndF (.sl 1 wd (lrF (onF on))) (.sl 1 wd (lrF β)) p 0⟩),(2,⟨1,1,3,28,0,fun _ _=>.imm (.slice none 0 0)⟩)],c⟩) (fun x=>x.1≤x.2.2.2.2.1.length∧x.2.2.2.2.2.length=x.1∧x.2.2.2.2.1.length≤200∧SetOk wd x.2.2.2.2.1∧tabV wd on β p=goA Bag.zero (gD wd on β p.first) x.1 x.2.2.2.2.1 x.2.2.2.2.2) (fun x=>201 - x.1) ((0,2,6,3,[Bag.zero],[])) (by exact ⟨by decide,rfl,by decide,SetOk.zero wd,rfl⟩) (a0c rfl (Nat.le_refl _) tsa (hsr rfl (a0f.cons rfl (.of fun i j hi hj=>by obtain rfl:i=0:=om;exact c5Y) (hsr rfl (a0f.cons rfl (.of fun i j hi hj=>by obtain rfl:i=0:=om;exact .refl _) (hsr rfl (a0f.cons rfl (.of fun i j hi hj=>by match j,hj with | 0,_=>exact .refl _ | 1,_=>exact .refl _ | 2,_=>exact .refl _) a0f.nil))))))) (fun x c hx NhL1 hL1=>?_)
 revert hx hL1;obtain ⟨a,g2,g3,g4,S,R⟩:=x;intro hx hL1;dsimp only at hx hL1 ⊢
 obtain ⟨haS,hRa,hS2,hok,hT⟩:=hx
 refine ru 10 ?_
 refine wdc (fun hr0 hc0=>?_) (fun hr0 hc0=>?_)
 ·skip
  have ha:a < S.length:=om;have hSa:=hok.at ha;have hst:=b1a (z:=Bag.zero) (g:=gD wd on β p.first) (R:=R) ha hS2;let k0:=c
  refine ru 6 ?_
  refine s0 (a9W (m:=32) (hs:=[]) ar_50.h rfl rfl trivial) ?_
  refine ru 8 ?_
  refine hq_ 26 (a0C (xs:=[_,_,_]) (pre:=[(9101,_),(9102,_),(9103,_),(9104,_)]) (c6Z 4 g2 g3 g4 S R (accS p.empty p.ends S) wd on β p hw hF hβ a ha om hSa.2) ⟨rfl,⟨rfl,⟨rfl,trivial⟩⟩⟩) rfl rfl (a0i rfl (a0i rfl (a0i rfl (a0i rfl a0g)))) rfl rfl ?_
  refine ru 11 ?_
  refine a0l (α:=Nat×Nat×Nat) (fun x c=>⟨76,[(1,.v (.pt 1 0 0 0)),(2,.v (.pt 2 1 0 0)),(3,.v (boolV false)),(4,.v (.pt 9101 4 0 0)),(5,.v (intV (a:Int))),(6,.v (.pt 6 k0 0 0)),(7,.v (.pt 7 (k0+2) 0 0)),(8,.v (intV x.1))],[(9101,dtO 4 x.2.1 g3 x.2.2 (a1z Bag.zero (gD wd on β p.first S a) S x.1).1.length R.length),(9102,sdO x.2.1 (a1z Bag.zero (gD wd on β p.first S a) S x.1).1),(9103,nxO g3 R),(9104,acO x.2.2 (accS p.empty p.ends (a1z Bag.zero (gD wd on β p.first S a) S x.1).1)),(1,⟨0,1,5,65,0,fun _=>ndF (.sl 1 wd (lrF (onF on))) (.sl 1 wd (lrF β)) p 0⟩),(2,⟨1,1,3,28,0,fun _ _=>.imm (.slice none 0 0)⟩),(6,⟨k0,1,32,50,0,fun _ j=>intV ((a1z Bag.zero (gD wd on β p.first S a) S x.1).2.getD j 0)⟩),(7,⟨k0+2,1,32,106,0,fun _ j=>a0m ((gD wd on β p.first S a) j).list⟩)],c⟩) (fun x=>x.1≤32) (fun x=>32 - x.1) ((0,g2,g4)) om (a0c rfl (Nat.le_refl _) tsa (hsr rfl (hsr rfl (hsr rfl (hsr rfl (hsr rfl (hsr rfl (a0f.cons rfl (.of fun i j hi hj=>c6Y rfl hj rfl) (a0f.cons rfl (.of fun i j hi hj=>by show Sb (a0m (a3I (a2A β p.first S a) on wd j)) _;rw [b4f hw hj hok.fst hSa.2];exact .refl _) a0f.nil))))))))) (fun x c hx NhL2 hL2=>?_)
  revert hx hL2;obtain ⟨s,q2,q4⟩:=x;intro hx hL2;dsimp only at hx hL2 ⊢
  have hl:=a3V Bag.zero (gD wd on β p.first S a) S s;have hok1:=hok.row (g:=(gD wd on β p.first S a)) (fun k hk=>⟨c0b,c9t hk⟩) s om;have hone:=hok1.one;have hAl:=a7Z p.empty p.ends (a1z Bag.zero (gD wd on β p.first S a) S s).1
  refine ru 7 ?_
  refine wdc (fun hr1 hc1=>?_) (fun hr1 hc1=>?_)
  ·skip
   have hs32:s < 32:=om
   refine ru 9 ?_
   refine rvl (a0m ((gD wd on β p.first S a) s).list) ((by show a0m ((gD wd on β p.first S a) (0+s * 1)).list=_;rw [Nat.mul_one,Nat.zero_add])) ?_
   refine ru 16 ?_
   refine wdc (fun hr2 hc2=>?_) (fun hr2 hc2=>?_)
   ·skip
    have h9:=of_decide_eq_true hr2;have hne:(gD wd on β p.first S a) s≠Bag.zero:=(fun e=>by rw [(a9c c0b).2 e] at h9;simp at h9)
    refine ru 3 ?_
    refine hq_ 38 (a0C (xs:=[_,_]) (pre:=[(9101,_),(9102,_),(9103,_),(9104,_)]) (c4F 4 q2 g3 q4 (a1z Bag.zero (gD wd on β p.first S a) S s).1 R (accS p.empty p.ends (a1z Bag.zero (gD wd on β p.first S a) S s).1) om (hok1.ok) ((gD wd on β p.first S a) s) c0b) ⟨rfl,⟨rfl,trivial⟩⟩) rfl rfl (a0i rfl (a0i rfl (a0i rfl (a0i rfl a0g)))) rfl rfl ?_
    refine ru 9 ?_
    refine wdc (fun hr3 hc3=>?_) (fun hr3 hc3=>?_)
    ·skip
     have hP:a4g Bag.zero (a1z Bag.zero (gD wd on β p.first S a) S s).1 ((gD wd on β p.first S a) s)=((a1z Bag.zero (gD wd on β p.first S a) S s).1++[(gD wd on β p.first S a) s],((a1z Bag.zero (gD wd on β p.first S a) S s).1.length:Int)):=(by rw [b9U hne,if_pos (of_decide_eq_true hr3)]);obtain ⟨A1,A2⟩:=b3O hP
     refine ru 13 ?_
     refine a0u 47 (a0b (id:=47) (hs:=[_]) ei_24.h omx rfl omx ⟨rfl,rfl,rfl,rfl,trivial⟩) rfl rfl a0g rfl rfl (c':=c+1) rfl ?_
     first
     | refine a0u 48 (a0a ei_24.h (by first | exact Nat.le_of_ble_eq_true rfl | omega | (dsimp only;omega) | (simp <;> omega)) rfl (by first | exact Nat.le_of_ble_eq_true rfl | omega | (dsimp only;omega) | (simp <;> omega)) (by first | exact Nat.le_of_ble_eq_true rfl | omega | (dsimp only;omega) | (simp <;> omega)) (a0x rfl (by first | exact Nat.le_of_ble_eq_true rfl | omega | (dsimp only;omega) | (simp <;> omega))) (by first | exact Nat.le_of_ble_eq_true rfl | omega | (dsimp only;omega) | (simp <;> omega)) rfl) rfl rfl (a0i rfl (a0P rfl)) rfl rfl (c':=c+2) rfl ?_
     | refine a0u 48 (a0a ei_24.h (by first | exact Nat.le_of_ble_eq_true rfl | omega | (dsimp only;omega) | (simp <;> omega)) rfl (by first | exact Nat.le_of_ble_eq_true rfl | omega | (dsimp only;omega) | (simp <;> omega)) (by first | exact Nat.le_of_ble_eq_true rfl | omega | (dsimp only;omega) | (simp <;> omega)) (a0S rfl (by first | exact Nat.le_of_ble_eq_true rfl | omega | (dsimp only;omega) | (simp <;> omega))) (by first | exact Nat.le_of_ble_eq_true rfl | omega | (dsimp only;omega) | (simp <;> omega)) rfl) rfl rfl (a0i rfl (a0P rfl)) rfl rfl (c':=c+2) rfl ?_
     | refine a0u 48 (a0a ei_24.h (by first | exact Nat.le_of_ble_eq_true rfl | omega | (dsimp only;omega) | (simp <;> omega)) rfl (by first | exact Nat.le_of_ble_eq_true rfl | omega | (dsimp only;omega) | (simp <;> omega)) (by first | exact Nat.le_of_ble_eq_true rfl | omega | (dsimp only;omega) | (simp <;> omega)) (a0O rfl) (by first | exact Nat.le_of_ble_eq_true rfl | omega | (dsimp only;omega) | (simp <;> omega)) rfl) rfl rfl (a0i rfl a0g) rfl rfl (c':=c+2) rfl ?_
     | refine a0u 48 (a0a ei_24.h (by first | exact Nat.le_of_ble_eq_true rfl | omega | (dsimp only;omega) | (simp <;> omega)) rfl (by first | exact Nat.le_of_ble_eq_true rfl | omega | (dsimp only;omega) | (simp <;> omega)) (by first | exact Nat.le_of_ble_eq_true rfl | omega | (dsimp only;omega) | (simp <;> omega)) (a0z 1 (fun _ _=>default) rfl) (by first | exact Nat.le_of_ble_eq_true rfl | omega | (dsimp only;omega) | (simp <;> omega)) rfl) rfl rfl (a0i rfl a0g) rfl rfl (c':=c+2) rfl ?_
     refine ru 10 ?_
     refine clx (c7h ((gD wd on β p.first S a) s).list p.ends.list (a6G _) (a6G _)) ?_
     refine ru 2 ?_
     refine a2n 58 (a0b (id:=58) (hs:=[_]) ei_26.h omx rfl omx ⟨rfl,rfl,rfl,rfl,trivial⟩) rfl rfl a0g rfl rfl (k':=9) rfl ?_
     first
     | refine a2n 59 (a0a ei_26.h (by first | exact Nat.le_of_ble_eq_true rfl | omega | (dsimp only;omega) | (simp <;> omega)) rfl (by first | exact Nat.le_of_ble_eq_true rfl | omega | (dsimp only;omega) | (simp <;> omega)) (by first | exact Nat.le_of_ble_eq_true rfl | omega | (dsimp only;omega) | (simp <;> omega)) (a0x rfl (by first | exact Nat.le_of_ble_eq_true rfl | omega | (dsimp only;omega) | (simp <;> omega))) (by first | exact Nat.le_of_ble_eq_true rfl | omega | (dsimp only;omega) | (simp <;> omega)) rfl) rfl rfl (a0i rfl (a0P rfl)) rfl rfl (k':=10) rfl ?_
     | refine a2n 59 (a0a ei_26.h (by first | exact Nat.le_of_ble_eq_true rfl | omega | (dsimp only;omega) | (simp <;> omega)) rfl (by first | exact Nat.le_of_ble_eq_true rfl | omega | (dsimp only;omega) | (simp <;> omega)) (by first | exact Nat.le_of_ble_eq_true rfl | omega | (dsimp only;omega) | (simp <;> omega)) (a0S rfl (by first | exact Nat.le_of_ble_eq_true rfl | omega | (dsimp only;omega) | (simp <;> omega))) (by first | exact Nat.le_of_ble_eq_true rfl | omega | (dsimp only;omega) | (simp <;> omega)) rfl) rfl rfl (a0i rfl (a0P rfl)) rfl rfl (k':=10) rfl ?_
     | refine a2n 59 (a0a ei_26.h (by first | exact Nat.le_of_ble_eq_true rfl | omega | (dsimp only;omega) | (simp <;> omega)) rfl (by first | exact Nat.le_of_ble_eq_true rfl | omega | (dsimp only;omega) | (simp <;> omega)) (by first | exact Nat.le_of_ble_eq_true rfl | omega | (dsimp only;omega) | (simp <;> omega)) (a0O rfl) (by first | exact Nat.le_of_ble_eq_true rfl | omega | (dsimp only;omega) | (simp <;> omega)) rfl) rfl rfl (a0i rfl a0g) rfl rfl (k':=10) rfl ?_
     | refine a2n 59 (a0a ei_26.h (by first | exact Nat.le_of_ble_eq_true rfl | omega | (dsimp only;omega) | (simp <;> omega)) rfl (by first | exact Nat.le_of_ble_eq_true rfl | omega | (dsimp only;omega) | (simp <;> omega)) (by first | exact Nat.le_of_ble_eq_true rfl | omega | (dsimp only;omega) | (simp <;> omega)) (a0z 1 (fun _ _=>default) rfl) (by first | exact Nat.le_of_ble_eq_true rfl | omega | (dsimp only;omega) | (simp <;> omega)) rfl) rfl rfl (a0i rfl a0g) rfl rfl (k':=10) rfl ?_
     refine ru 17 ?_
     exact hL2 ((s+1,c+1,c+3+9)) _ _ (by (try dsimp only);omega) (by (try dsimp only);omega) (a0c rfl (Nat.le_refl _) (tsr rfl (tsr rfl (tsr rfl (tsr rfl (tsr rfl (tsr rfl (tsr rfl (a0t.cons rfl (a0H om) a0t.nil)))))))) (a0f.cons rfl (by (try dsimp only);rw [A1];exact c2p (a3k (by simp)) (.refl _) (a3k (by simp))) (a0f.cons rfl (by (try dsimp only);rw [A1];exact a0G (enc:=fun b _=>a0m (Bag.list b)) (d:=Bag.zero) rfl (fun _ _ _ _=>.refl _) (fun _ _=>.refl _)) (hsr rfl (a0f.cons rfl (by (try dsimp only);rw [A1,c1Z hone];exact a0G (enc:=fun b _=>boolV b) (d:=false) hAl.symm (fun _ _ _ _=>.refl _) (fun j hj=>by show Sb (boolV (decide (((b0P ((gD wd on β p.first S a) s).list p.ends.list 256).length:Int) > 0))) (boolV (decide _));rw [c7y _ _ c0b hpk.2];exact .refl _)) (hsr rfl (hsr rfl (a0f.cons rfl (by (try dsimp only);rw [A2];exact b4B hl.2.2 hs32 om) hsa))))))))
    have hP:a4g Bag.zero (a1z Bag.zero (gD wd on β p.first S a) S s).1 ((gD wd on β p.first S a) s)=((a1z Bag.zero (gD wd on β p.first S a) S s).1,rfV (a1z Bag.zero (gD wd on β p.first S a) S s).1 ((gD wd on β p.first S a) s)):=(by rw [b9U hne,if_neg (of_decide_eq_false hr3)]);obtain ⟨A1,A2⟩:=b3O hP
    refine ru 15 ?_
    exact hL2 ((s+1,q2,q4)) _ _ (by (try dsimp only);omega) (by (try dsimp only);omega) (a0c rfl (Nat.le_refl _) (tsr rfl (tsr rfl (tsr rfl (tsr rfl (tsr rfl (tsr rfl (tsr rfl (a0t.cons rfl (a0H om) a0t.nil)))))))) (a0f.cons rfl (by (try dsimp only);rw [A1];exact .refl _) (a0f.cons rfl (by (try dsimp only);rw [A1];exact .refl _) (hsr rfl (a0f.cons rfl (by (try dsimp only);rw [A1];exact .refl _) (hsr rfl (hsr rfl (a0f.cons rfl (by (try dsimp only);rw [A2];exact b4B hl.2.2 hs32 om) hsa))))))))
   have h9:=of_decide_eq_false hr2;have hz:(gD wd on β p.first S a) s=Bag.zero:=(a9c c0b).1 (List.eq_nil_of_length_eq_zero om);have hP:a4g Bag.zero (a1z Bag.zero (gD wd on β p.first S a) S s).1 ((gD wd on β p.first S a) s)=((a1z Bag.zero (gD wd on β p.first S a) S s).1,-1):=(by unfold a4g;rw [if_pos hz]);obtain ⟨A1,A2⟩:=b3O hP
   refine ru 15 ?_
   exact hL2 ((s+1,q2,q4)) _ _ (by (try dsimp only);omega) (by (try dsimp only);omega) (a0c rfl (Nat.le_refl _) (tsr rfl (tsr rfl (tsr rfl (tsr rfl (tsr rfl (tsr rfl (tsr rfl (a0t.cons rfl (a0H om) a0t.nil)))))))) (a0f.cons rfl (by (try dsimp only);rw [A1];exact .refl _) (a0f.cons rfl (by (try dsimp only);rw [A1];exact .refl _) (hsr rfl (a0f.cons rfl (by (try dsimp only);rw [A1];exact .refl _) (hsr rfl (hsr rfl (a0f.cons rfl (by (try dsimp only);rw [A2];exact b4B hl.2.2 hs32 om) hsa))))))))
  obtain rfl:s=32:=om
  refine ru 2 ?_
  refine a0d ?_
  refine ru 7 ?_
  refine a0u 67 (a0b (id:=67) (hs:=[_]) ei_25.h omx rfl omx ⟨rfl,rfl,rfl,rfl,trivial⟩) rfl rfl a0g rfl rfl (c':=c+1) rfl ?_
  first
  | refine a0u 68 (a0a ei_25.h (by first | exact Nat.le_of_ble_eq_true rfl | omega | (dsimp only;omega) | (simp <;> omega)) rfl (by first | exact Nat.le_of_ble_eq_true rfl | omega | (dsimp only;omega) | (simp <;> omega)) (by first | exact Nat.le_of_ble_eq_true rfl | omega | (dsimp only;omega) | (simp <;> omega)) (a0x rfl (by first | exact Nat.le_of_ble_eq_true rfl | omega | (dsimp only;omega) | (simp <;> omega))) (by first | exact Nat.le_of_ble_eq_true rfl | omega | (dsimp only;omega) | (simp <;> omega)) rfl) rfl rfl (a0i rfl (a0P rfl)) rfl rfl (c':=c+2) rfl ?_
  | refine a0u 68 (a0a ei_25.h (by first | exact Nat.le_of_ble_eq_true rfl | omega | (dsimp only;omega) | (simp <;> omega)) rfl (by first | exact Nat.le_of_ble_eq_true rfl | omega | (dsimp only;omega) | (simp <;> omega)) (by first | exact Nat.le_of_ble_eq_true rfl | omega | (dsimp only;omega) | (simp <;> omega)) (a0S rfl (by first | exact Nat.le_of_ble_eq_true rfl | omega | (dsimp only;omega) | (simp <;> omega))) (by first | exact Nat.le_of_ble_eq_true rfl | omega | (dsimp only;omega) | (simp <;> omega)) rfl) rfl rfl (a0i rfl (a0P rfl)) rfl rfl (c':=c+2) rfl ?_
  | refine a0u 68 (a0a ei_25.h (by first | exact Nat.le_of_ble_eq_true rfl | omega | (dsimp only;omega) | (simp <;> omega)) rfl (by first | exact Nat.le_of_ble_eq_true rfl | omega | (dsimp only;omega) | (simp <;> omega)) (by first | exact Nat.le_of_ble_eq_true rfl | omega | (dsimp only;omega) | (simp <;> omega)) (a0O rfl) (by first | exact Nat.le_of_ble_eq_true rfl | omega | (dsimp only;omega) | (simp <;> omega)) rfl) rfl rfl (a0i rfl a0g) rfl rfl (c':=c+2) rfl ?_
  | refine a0u 68 (a0a ei_25.h (by first | exact Nat.le_of_ble_eq_true rfl | omega | (dsimp only;omega) | (simp <;> omega)) rfl (by first | exact Nat.le_of_ble_eq_true rfl | omega | (dsimp only;omega) | (simp <;> omega)) (by first | exact Nat.le_of_ble_eq_true rfl | omega | (dsimp only;omega) | (simp <;> omega)) (a0z 32 (fun _ _=>default) rfl) (by first | exact Nat.le_of_ble_eq_true rfl | omega | (dsimp only;omega) | (simp <;> omega)) rfl) rfl rfl (a0i rfl a0g) rfl rfl (c':=c+2) rfl ?_
  refine ru 12 ?_
  refine wdc (fun hr4 hc4=>?_) (fun hr4 hc4=>?_)
  ·skip
   have h9:=of_decide_eq_true hr4
   refine ru 10 ?_
   refine a0o ?_
   refine ru 2 ?_
   refine a7j ?_
   refine rt2 ?_
   rw [hT,hst,if_pos om];exact a4F (.agg 3 _ _ fun i hi=>by match i,hi with | 0,_=>exact .imm _ | 1,_=>exact .imm _ | 2,_=>exact .imm _) (.imm _)
  have h9:=of_decide_eq_false hr4
  refine ru 8 ?_
  exact hL1 ((a+1,q2,c+1,q4,(a1z Bag.zero (gD wd on β p.first S a) S 32).1,R++[(a1z Bag.zero (gD wd on β p.first S a) S 32).2])) _ _ (by (try dsimp only);exact ⟨by omega,by simp [hRa],by omega,hok1,by rw [hT,hst,if_neg om]⟩) (by (try dsimp only);omega) (a0c rfl (Nat.le_refl _) (tsr rfl (tsr rfl (tsr rfl (tsr rfl (a0t.cons rfl (a0H om) a0t.nil))))) (a0f.cons rfl (c2p (.refl _) (a3k (by simp)) (.refl _)) (hsr rfl (a0f.cons rfl (a0G (enc:=fun (r:List Int) j=>intV (r.getD j 0)) (d:=[]) rfl (fun _ _ _ _=>.refl _) (fun _ _=>.refl _)) hsa))))
 have haE:a=S.length:=om
 refine ru 2 ?_
 refine a0d ?_
 refine ru 10 ?_
 refine a7j ?_
 refine a8y rfl (a0I rfl rfl ty_28.h rqc rfl rfl) (a0h rfl) [(9102,_),(9103,_),(9104,_)] rfl (a0i rfl (a0i rfl (a0i rfl a0g))) ?_
 rw [hT,b9s om];exact a4F (.agg 3 _ _ (c9n rfl rfl (.head _) (.tail _ (.head _)) (.tail _ (.tail _ (.head _))) (a7Z _ _ _))) (.imm _)
set_option maxHeartbeats 1000000
theorem c1c (s:List UInt8) (hs:s≠[]):HPure Tryz.prog 26 [strV s] (bagH (a2V [(s.length:Int),bz s 0 - 90])):=by
 have hl:0 < s.length:=List.length_pos_iff.2 hs
 have hb8:(s.getD 0 0).toNat < 256:=UInt8.toNat_lt _
 have hb9:(s[0]?.getD 0).toNat < 256:=UInt8.toNat_lt _
 refine a0k Tryz.func26 rfl kr _ _ _ rfl 11 rfl rfl (fun w F=>?_)
 refine ru 13 ?_
 refine a0u 9 (a0b (id:=9) (hs:=[_,_]) ei_49.h omx rfl omx ⟨rfl,rfl,rfl,rfl,⟨rfl,rfl,rfl,rfl,trivial⟩⟩) rfl rfl a0g rfl rfl (c':=2) rfl ?_
 refine hm_ 10 (b1S (xs:=[_]) [(9,_)] (c9p [(s.length:Int),bz s 0 - 90] (by simp)) ⟨rfl,trivial⟩ ⟨(show Fz _ _ (a0m [(s.length:Int),bz s 0 - 90]) from a2r (l:=[(s.length:Int),bz s 0 - 90]) (enc:=fun x _=>intV x) (d:=0) (List.mem_cons_self ..) rfl rfl (Nat.le_refl _) (fun i j hi hj=>by match i,hi,j,hj with | 0,_,0,_=>exact .imm _ | 1,_,0,_=>exact b4C (by show _=bz s 0 - 90;rw [a3E hl];rfl))),trivial⟩ rfl) rfl rfl (a0i rfl a0g) rfl rfl (c':=3) rfl ?_
 refine ru 4 ?_
 refine rt1 ?_
 exact a1Z (by exact j4 rfl rfl rfl rfl)
def c8B:List UInt8:=[97,42,32,98]
def c6u:List Sg:=[⟨1,0,0,0,[97]⟩,⟨5,1,0,-1,[]⟩,⟨1,3,0,0,[98]⟩]
def b3p:T:=.many 2 [.times 0 (-1) (.name [97]),.name [98]]
theorem b7S:(match lexV c8B with | .ok l=>decide (l=c6u) | .error _=>false)=true:=by decide +kernel
theorem a6H:lexV c8B=.ok c6u:=by
 have:=b7S
 split at this
 ·rename_i l hl;rw [hl,of_decide_eq_true this]
 ·cases this
theorem b9b:b3p.ok=true:=by decide +kernel
theorem b5q:Seg c6u 3 0 c6u.length b3p:=by
 refine .choice1 _ _ _ (.row 0 3 [.times 0 (-1) (.name [97]),.name [98]] (fun i=>match i with | 0=>0 | 1=>2 | _=>3) (by decide) rfl rfl (fun i hi=>?_))
 match i,hi with
 | 0,_=>exact .times 0 1 (.name [97]) (.name 0 (by decide)) (by decide)
 | 1,_=>exact .item 2 3 (.name [98]) (.name 2 (by decide)) (by decide)
theorem b8t {r:List Pt×Int×Int} (h:ParseIs c8B r):r=(T.flat 0 b3p,0,0):=by
 have hne:c6u≠[]:=by decide
 have hc:chk c6u 0 0 true true=(-1,false):=b1K b5q
 cases h with
 | err e hv=>rw [a6H] at hv;cases hv
 | none hv=>rw [a6H] at hv;injection hv with hv;exact absurd hv hne
 | odd l q hv _ _ hq=>rw [a6H] at hv;injection hv with hv;subst hv;rw [hc] at hq;injection hq with hq _;exact absurd hq (by omega)
 | end_ l hv _ hq=>rw [a6H] at hv;injection hv with hv;subst hv;rw [hc] at hq;injection hq with _ hq;cases hq
 | ok l t hv hs=>rw [a6H] at hv;injection hv with hv;subst hv;rw [b8Y hs b5q]
def c0N (s:List UInt8):Bag:=a2V [(s.length:Int),bz s 0 - 90]
theorem c5i:MeanOk 26 0 (fun _=>default) [] c0N :=
 ⟨rfl,fun i hi=>absurd hi (Nat.not_lt_zero _),trivial,fun sh=>.fn _ _ _ _ (fun i hi=>absurd hi (Nat.not_lt_zero _)),fun s hs=>c1c s (c1I hs),fun s=>(a1N _).1⟩
theorem c0Q:noneV c0N (T.flat 0 b3p)=false:=by decide +kernel
theorem c5p:b3p.w=2:=by decide +kernel
@[reducible] def c8H:Option (List Bag×List (List Int)):=tabV (0+b3p.w) (lay c0N b3p 0).on (links (fun _=>Bag.zero) (lay c0N b3p 0).lk) (lay c0N b3p 0).pc
theorem c1k:(match c8H with | some (S,R)=>decide (2 < R.length)&&decide (0 < nxT R 0 7) | none=>false)=true:=by decide +kernel
theorem c5D:∃ S R,c8H=some (S,R)∧2 < R.length∧0 < nxT R 0 7:=by
 have:=c1k
 split at this
 ·rename_i S R h;rw [Bool.and_eq_true,decide_eq_true_eq,decide_eq_true_eq] at this;exact ⟨S,R,h,this.1,this.2⟩
 ·cases this
theorem d0e:HPure Tryz.prog 10 [treeNet c0N b3p] (c9y (lay c0N b3p 0).pc c8H):=by
 have hm:∀ s,(c0N s).ok:=fun s=>(a1N _).1
 have hly:=a3N hm b3p 0 (by rw [c5p];decide)
 refine b3l (0+b3p.w) (by rw [c5p];decide) _ (fun i=>?_) _ (a1h hly.lk (fun _=>Bag.zero_ok)) _ hly.pc
 show ((lay c0N b3p 0).on.getD i Bag.zero).ok
 by_cases hi:i < (lay c0N b3p 0).on.length
 ·rw [List.getD_eq_getElem?_getD,List.getElem?_eq_getElem hi];exact hly.on _ (List.getElem_mem hi)
 ·rw [List.getD_eq_getElem?_getD,List.getElem?_eq_none (by omega)];exact Bag.zero_ok
theorem a8E:HPure Tryz.prog 7 [] (boolV true):=by
 have hw:=c5p
 have hB:=b5f b9b (by decide +kernel)
 have hn:=d0e
 obtain ⟨S,R,e8,h2,h7⟩:=c5D
 rw [e8] at hn
 refine a0k Tryz.func7 rfl kr _ _ _ rfl 44 rfl rfl (fun w F=>?_)
 refine ru 7 ?_
 refine a0s 11 (xs:=[_]) (pre:=[]) (b3y _ c8B (by decide)) ⟨rfl,trivial⟩ a0g rfl rfl (fun r c1 hr=>?_)
 (try dsimp only)
 refine ru 10 ?_
 obtain rfl:=b8t hr
 refine ru 2 ?_
 refine cll (c4b c5i (T.flat 0 b3p) hB _ (.fine b3p b9b rfl c0Q (by rw [hw];decide))) ?_
 refine ru 10 ?_
 refine cll (hn) ?_
 refine ru 10 ?_
 refine cll (b5N R _ 0 7) ?_
 refine ru 13 ?_
 first
 | refine stg 32 (fun hb=>a0e (xs:=[_]) (b1F R _) ⟨rfl,trivial⟩ ⟨(Fz.eq rfl),trivial⟩) rfl rfl rfl rfl rfl ?_
 | refine sth 32 (fun hb=>a0e (xs:=[_]) (b1F R _) ⟨rfl,trivial⟩ ⟨(Fz.eq rfl),trivial⟩) rfl rfl rfl rfl rfl ?_
 refine ru 13 ?_
 refine rt1 ?_
 exact a3d (by rw [if_neg om,bne_iff_ne.2 (show nxT R 0 7≠-1 by omega),decide_eq_true (show (R.length:Int) > 2 by omega),decide_eq_true (show nxT R 0 7 > 0 by omega)];rfl)
@[reducible] def c7c:HV:=.agg 3 fun _=>.imm (.slice none 0 0)
@[reducible] def TabP (s:List UInt8) (l:List Mn) (y:HV):Prop:=HPure Tryz.prog 6 [strV s,mnsV l] y
structure TabOk (s:List UInt8) (l:List Mn) (wd:Nat) (on:List Bag) (β:Nat→Bag) (p:Pc) (e:List Pt) (S:List Bag) (R:List (List Int)):Prop where
 net:NetOk s l wd on β p e
 is:tabV wd on β p=some (S,R)
 tab:TabP s l (t4 (tabP R (accS p.empty p.ends S)) (tabD S R (accS p.empty p.ends S)) (intV 0) (boolV true))
section
variable {s:List UInt8} {l:List Mn} {wd:Nat} {on:List Bag} {β:Nat→Bag} {p:Pc} {e:List Pt}
theorem NetOk.new (V:NetOk s l wd on β p e):HPure Tryz.prog 10 [netP wd on β p] (c9y p (tabV wd on β p)):=b3l wd (by have:=V.w60;omega) on V.onk β V.bek p V.pck
theorem NetOk.ref (V:NetOk s l wd on β p e):HPure Tryz.prog 22 [ndR wd on β p] (c9E p (tabV wd on β p)):=c1d wd on β p (by have:=V.w60;omega) V.inF V.inβ V.pck
theorem NetOk.many (V:NetOk s l wd on β p e):∃ k:Int,0 < e.length→HPure Tryz.prog 21 [ptsV e,intV ((e.length:Int) - 1)] (intV k):=by
 rcases V.is with ⟨rfl,_⟩ | ⟨t,hok,rfl,_⟩
 ·exact ⟨0,fun h=>absurd h (Nat.lt_irrefl _)⟩
 ·refine ⟨a3J t.w,fun h=>?_⟩
  have:=a9j (T.flat 0 t) V.ptb.1 t 0 hok ⟨[],[],by simp,rfl⟩
  have hsz:(T.flat 0 t).length=t.size:=T.flat_len 0 t
  have hps:=t.size_pos
  have e:((T.flat 0 t).length:Int) - 1=((0+t.size - 1:Nat):Int):=by omega
  rw [e];exact this
end
theorem c0n {sh:List (Nat×HObj)} (S:List Bag) (R:List (List Int)) (A:List Bool) (i:Nat):Fz sh (tdF S R A i) (tdF S R A i):=by
 unfold tdF
 split
 ·exact .sl _ _ _ _ fun _ _ _ _=>.sl _ _ _ _ fun _ _ _ _=>.imm _
 ·exact .sl _ _ _ _ fun _ _ _ _=>.imm _
 ·exact .sl _ _ _ _ fun _ _ _ _=>.imm _
def c9T (p:Pc):Option (List Bag×List (List Int))→HV
 | some (S,R)=>t4 (tabP R (accS p.empty p.ends S)) (tabD S R (accS p.empty p.ends S)) (intV 0) (boolV true)
 | none=>t4 a9s c7c (intV 7) (boolV false)
theorem b9Q (s:List UInt8) (l:List Mn) (y:HV) (z:Int) (b:Bool) (hx:NetP s l (t4 a9s y (intV z) (boolV b))) (hy:∀ sh,Fz sh y y) (n:Nat) (f:Nat→Nat→HV) (hyf:y=.sl 5 n f∨y=a1g) (hb:b=false∨z≠0):TabP s l (t4 a9s c7c (intV z) (boolV false)):=by
 refine a0k Tryz.func6 rfl kr _ _ _ rfl 71 rfl rfl (fun w F=>?_)
 refine ru 12 ?_
 refine cll (hx) ?_
 refine ru 13 ?_
 rcases hyf with rfl | rfl
 ·refine ru 13 ?_
  first
  | refine stg 34 (fun hb=>a2z (T:=56) rfl (a0L el_56.h).1 rfl) rfl rfl rfl rfl rfl ?_
  | refine sth 34 (fun hb=>a2z (T:=56) rfl (a0L el_56.h).1 rfl) rfl rfl rfl rfl rfl ?_
  | refine stg 34 (fun hb=>a3p (T:=56) rfl (a0L el_56.h).1 rfl) rfl rfl rfl rfl rfl ?_
  | refine sth 34 (fun hb=>a3p (T:=56) rfl (a0L el_56.h).1 rfl) rfl rfl rfl rfl rfl ?_
  | refine stg 34 (fun hb=>a2D (T:=56) rfl (a0L el_56.h).1 rfl) rfl rfl rfl rfl rfl ?_
  | refine sth 34 (fun hb=>a2D (T:=56) rfl (a0L el_56.h).1 rfl) rfl rfl rfl rfl rfl ?_
  refine ru 4 ?_
  first
  | refine stg 38 (fun hb=>a2z (T:=56) rfl (a0L el_56.h).1 rfl) rfl rfl rfl rfl rfl ?_
  | refine a4R 41 14 38 34 false true _ _ (fun hb hb2=>a2z (T:=56) rfl (a0L el_56.h).1 rfl) rfl rfl rfl rfl rfl a0g rfl rfl rfl ?_
  | refine sth 38 (fun hb=>a2z (T:=56) rfl (a0L el_56.h).1 rfl) rfl rfl rfl rfl rfl ?_
  | refine stg 38 (fun hb=>a3p (T:=56) rfl (a0L el_56.h).1 rfl) rfl rfl rfl rfl rfl ?_
  | refine a4R 41 14 38 34 false true _ _ (fun hb hb2=>a3p (T:=56) rfl (a0L el_56.h).1 rfl) rfl rfl rfl rfl rfl a0g rfl rfl rfl ?_
  | refine sth 38 (fun hb=>a3p (T:=56) rfl (a0L el_56.h).1 rfl) rfl rfl rfl rfl rfl ?_
  | refine stg 38 (fun hb=>a2D (T:=56) rfl (a0L el_56.h).1 rfl) rfl rfl rfl rfl rfl ?_
  | refine a4R 41 14 38 34 false true _ _ (fun hb hb2=>a2D (T:=56) rfl (a0L el_56.h).1 rfl) rfl rfl rfl rfl rfl a0g rfl rfl rfl ?_
  | refine sth 38 (fun hb=>a2D (T:=56) rfl (a0L el_56.h).1 rfl) rfl rfl rfl rfl rfl ?_
  first
  | refine stg 38 (fun hb=>a4B rfl rfl rfl (by first | exact Nat.le_of_ble_eq_true rfl | (simp at hb;first | omega | (dsimp only;omega) | (simp <;> omega)) | omega | (dsimp only;omega)) (by first | exact Nat.le_of_ble_eq_true rfl | (simp at hb;first | omega | (dsimp only;omega) | (simp <;> omega)) | omega | (dsimp only;omega))) rfl rfl rfl rfl rfl ?_
  | refine a4R 42 14 38 34 false true _ _ (fun hb hb2=>a4B rfl rfl rfl (by first | exact Nat.le_of_ble_eq_true rfl | (simp at hb;omega) | (simp at hb2;omega) | (simp at hb hb2;first | omega | (dsimp only;omega) | (simp <;> omega)) | omega | (dsimp only;omega)) (by first | exact Nat.le_of_ble_eq_true rfl | (simp at hb;omega) | (simp at hb2;omega) | (simp at hb hb2;first | omega | (dsimp only;omega) | (simp <;> omega)) | omega | (dsimp only;omega))) rfl rfl rfl rfl rfl a0g rfl rfl rfl ?_
  | refine sth 38 (fun hb=>a4B rfl rfl rfl (by first | exact Nat.le_of_ble_eq_true rfl | (simp at hb;first | omega | (dsimp only;omega) | (simp <;> omega)) | omega | (dsimp only;omega)) (by first | exact Nat.le_of_ble_eq_true rfl | (simp at hb;first | omega | (dsimp only;omega) | (simp <;> omega)) | omega | (dsimp only;omega))) rfl rfl rfl rfl rfl ?_
  | refine stg 38 (fun hb=>a5i rfl rfl) rfl rfl rfl rfl rfl ?_
  | refine a4R 42 14 38 34 false true _ _ (fun hb hb2=>a5i rfl rfl) rfl rfl rfl rfl rfl a0g rfl rfl rfl ?_
  | refine sth 38 (fun hb=>a5i rfl rfl) rfl rfl rfl rfl rfl ?_
  refine a4R 43 14 38 34 false true _ _ (v:=intV 0) (fun h1 h2=>absurd h2 (by rcases hb with h | h <;> simp [h])) rfl rfl rfl rfl rfl a0g rfl rfl rfl ?_
  refine ru 5 ?_
  refine wdc (fun hr0 hc0=>?_) (fun hr0 hc0=>?_)
  ·refine ru 12 ?_
   refine a3Z rfl (a0h rfl) (a0I rfl rfl ty_28.h rqc rfl rfl) (a0h rfl) (a0h rfl) [] rfl a0g ?_
   exact a9x (.imm _) (.agg 3 _ _ fun i hi=>by match i,hi with | 0,_=>exact .imm _ | 1,_=>exact .imm _ | 2,_=>exact .imm _) (.imm _) (.imm _)
  exfalso;rcases hb with h | h <;> simp [h] at hr0
 ·refine ru 20 ?_
  refine a4R 43 14 38 34 false true _ _ (v:=intV 0) (fun h1 h2=>absurd h2 (by rcases hb with h | h <;> simp [h])) rfl rfl rfl rfl rfl a0g rfl rfl rfl ?_
  refine ru 5 ?_
  refine wdc (fun hr0 hc0=>?_) (fun hr0 hc0=>?_)
  ·refine ru 12 ?_
   refine a3Z rfl (a0h rfl) (a0I rfl rfl ty_28.h rqc rfl rfl) (a0h rfl) (a0h rfl) [] rfl a0g ?_
   exact a9x (.imm _) (.agg 3 _ _ fun i hi=>by match i,hi with | 0,_=>exact .imm _ | 1,_=>exact .imm _ | 2,_=>exact .imm _) (.imm _) (.imm _)
  exfalso;rcases hb with h | h <;> simp [h] at hr0
section
variable {s:List UInt8} {l:List Mn} {wd:Nat} {on:List Bag} {β:Nat→Bag} {p:Pc} {e:List Pt}
theorem NetOk.tab (V:NetOk s l wd on β p e):∃ k:Int,TabP s l (if 0 < e.length∧25 < k then t4 a9s c7c (intV 0) (boolV false) else c9T p (tabV wd on β p)):=by
 have hnew:=V.new
 have href:=V.ref
 obtain ⟨k,hM⟩:=V.many
 have hel:=V.eln
 refine ⟨k,?_⟩
 generalize tabV wd on β p=o at hnew href ⊢
 refine a0k Tryz.func6 rfl kr _ _ _ rfl 71 rfl rfl (fun w F=>?_)
 refine ru 12 ?_
 refine cll (V.net) ?_
 refine ru 32 ?_
 first
 | refine stg 38 (fun hb=>a4B rfl rfl rfl (by first | exact Nat.le_of_ble_eq_true rfl | (simp at hb;first | omega | (dsimp only;omega) | (simp <;> omega)) | omega | (dsimp only;omega)) (by first | exact Nat.le_of_ble_eq_true rfl | (simp at hb;first | omega | (dsimp only;omega) | (simp <;> omega)) | omega | (dsimp only;omega))) rfl rfl rfl rfl rfl ?_
 | refine a4R 42 14 38 34 false true _ _ (fun hb hb2=>a4B rfl rfl rfl (by first | exact Nat.le_of_ble_eq_true rfl | (simp at hb;omega) | (simp at hb2;omega) | (simp at hb hb2;first | omega | (dsimp only;omega) | (simp <;> omega)) | omega | (dsimp only;omega)) (by first | exact Nat.le_of_ble_eq_true rfl | (simp at hb;omega) | (simp at hb2;omega) | (simp at hb hb2;first | omega | (dsimp only;omega) | (simp <;> omega)) | omega | (dsimp only;omega))) rfl rfl rfl rfl rfl a0g rfl rfl rfl ?_
 | refine sth 38 (fun hb=>a4B rfl rfl rfl (by first | exact Nat.le_of_ble_eq_true rfl | (simp at hb;first | omega | (dsimp only;omega) | (simp <;> omega)) | omega | (dsimp only;omega)) (by first | exact Nat.le_of_ble_eq_true rfl | (simp at hb;first | omega | (dsimp only;omega) | (simp <;> omega)) | omega | (dsimp only;omega))) rfl rfl rfl rfl rfl ?_
 | refine stg 38 (fun hb=>a5i rfl rfl) rfl rfl rfl rfl rfl ?_
 | refine a4R 42 14 38 34 false true _ _ (fun hb hb2=>a5i rfl rfl) rfl rfl rfl rfl rfl a0g rfl rfl rfl ?_
 | refine sth 38 (fun hb=>a5i rfl rfl) rfl rfl rfl rfl rfl ?_
 first
 | refine stg 38 (fun hb=>a0e (xs:=[_,_]) (hM (by simp at hb;omega)) ⟨rfl,⟨rfl,trivial⟩⟩ ⟨(Fz.eq rfl),⟨(Fz.eq rfl),trivial⟩⟩) rfl rfl rfl rfl rfl ?_
 | refine a4R 43 14 38 34 false true _ _ (fun hb hb2=>a0e (xs:=[_,_]) (hM (by simp at hb;omega)) ⟨rfl,⟨rfl,trivial⟩⟩ ⟨(Fz.eq rfl),⟨(Fz.eq rfl),trivial⟩⟩) rfl rfl rfl rfl rfl a0g rfl rfl rfl ?_
 | refine sth 38 (fun hb=>a0e (xs:=[_,_]) (hM (by simp at hb;omega)) ⟨rfl,⟨rfl,trivial⟩⟩ ⟨(Fz.eq rfl),⟨(Fz.eq rfl),trivial⟩⟩) rfl rfl rfl rfl rfl ?_
 refine ru 5 ?_
 refine wdc (fun hr0 hc0=>?_) (fun hr0 hc0=>?_)
 ·refine ru 12 ?_
  refine a3Z rfl (a0h rfl) (a0I rfl rfl ty_28.h rqc rfl rfl) (a0h rfl) (a0h rfl) [] rfl a0g ?_
  rw [if_pos (by simp at hr0;omega)];exact a9x (.imm _) (.agg 3 _ _ fun i hi=>by match i,hi with | 0,_=>exact .imm _ | 1,_=>exact .imm _ | 2,_=>exact .imm _) (.imm _) (.imm _)
 rw [if_neg (by simp at hr0;omega)]
 refine ru 3 ?_
 rcases o with _ | ⟨S,R⟩
 ·refine ru 2 ?_
  refine s0 (HOp.val (v':=t2 a9s (intV 7)) (a0e (xs:=[_]) (hnew) ⟨rfl,trivial⟩ ⟨(Fz.eq rfl),trivial⟩) (rfl)) ?_
  refine ru 11 ?_
  refine cll (V.doc) ?_
  refine s0 (HOp.val (v':=t2 c7c (boolV false)) (a0e (xs:=[_]) (href) ⟨rfl,trivial⟩ ⟨(Fz.eq rfl),trivial⟩) (rfl)) ?_
  refine ru 15 ?_
  refine wdc (fun hr1 hc1=>?_) (fun hr1 hc1=>?_)
  ·refine ru 15 ?_
   refine a3Z rfl (a0h rfl) (a0I rfl rfl ty_28.h rqc rfl rfl) (a0h rfl) (a0h rfl) [] rfl a0g ?_
   exact a9x (.imm _) (.agg 3 _ _ fun i hi=>by match i,hi with | 0,_=>exact .imm _ | 1,_=>exact .imm _ | 2,_=>exact .imm _) (.imm _) (a3d (by decide))
  exfalso;simp at hr1
 ·refine ru 2 ?_
  refine s0 (HOp.val (v':=t2 (tabP R (accS p.empty p.ends S)) (intV 0)) (a0e (xs:=[_]) (hnew) ⟨rfl,trivial⟩ ⟨(Fz.eq rfl),trivial⟩) (rfl)) ?_
  refine ru 11 ?_
  refine cll (V.doc) ?_
  refine s0 (HOp.val (v':=t2 (tabD S R (accS p.empty p.ends S)) (boolV true)) (a0e (xs:=[_]) (href) ⟨rfl,trivial⟩ ⟨(Fz.eq rfl),trivial⟩) (rfl)) ?_
  refine ru 15 ?_
  refine wdc (fun hr1 hc1=>?_) (fun hr1 hc1=>?_)
  ·skip
   exfalso;simp at hr1
  refine ru 14 ?_
  refine a3Z rfl (a0h rfl) (a0I rfl rfl ty_28.h rqc rfl rfl) (a0h rfl) (a0h rfl) [] rfl a0g ?_
  exact a9x (show Fz _ (tabP R (accS p.empty p.ends S)) (tabP R (accS p.empty p.ends S)) from Frz.fz) (.agg 3 _ _ fun i hi=>by match i,hi with | 0,_=>exact c0n _ _ _ 0 | 1,_=>exact c0n _ _ _ 1 | 2,_=>exact c0n _ _ _ 2) (.imm _) (.imm _)
end
theorem b7K (s:List UInt8) (l:List Mn) (hs:s.length≤9223372036854775807):(∃ z:Int,TabP s l (t4 a9s c7c (intV z) (boolV false)))∨∃ wd on β p e S R,TabOk s l wd on β p e S R:=by
 rcases b9T s l hs with ⟨x,hx⟩ | ⟨e,hx,hne,hel,hmb⟩ | ⟨wd,on,β,p,e,V⟩
 ·exact .inl ⟨x,b9Q s l _ x false hx (fun sh=>.imm _) 0 (fun _ _=>default) (.inr rfl) (.inl rfl)⟩
 ·exact .inl ⟨6,b9Q s l _ 6 true hx (fun sh=>Frz.fz) _ _ (.inl rfl) (.inr (by decide))⟩
 ·obtain ⟨k,hk⟩:=V.tab
  by_cases h:0 < e.length∧25 < k
  ·rw [if_pos h] at hk;exact .inl ⟨0,hk⟩
  ·rw [if_neg h] at hk
   rcases ht:tabV wd on β p with _ | ⟨S,R⟩
   ·rw [ht] at hk;exact .inl ⟨7,hk⟩
   ·rw [ht] at hk;exact .inr ⟨wd,on,β,p,e,S,R,V,ht,hk⟩
theorem b3r:HPure Tryz.prog 13 [a9s] (intV 0):=by
 refine a0k Tryz.func13 rfl kr _ _ _ rfl 10 rfl rfl (fun w F=>?_)
 refine ru 12 ?_
 refine wdc (fun hr0 hc0=>?_) (fun hr0 hc0=>?_)
 ·refine ru 7 ?_
  refine rt1 ?_
  exact Frz.fz
 exfalso;simp at hr0
theorem b9n (a:Int):HPure Tryz.prog 36 [a9s,intV a] (boolV false):=by
 refine a0k Tryz.func36 rfl kr _ _ _ rfl 20 rfl rfl (fun w F=>?_)
 refine ru 14 ?_
 refine a5v 12 6 11 true false (v:=.imm undef) (fun h=>absurd h (by decide)) rfl rfl rfl rfl a0g rfl rfl rfl ?_
 refine a5v 13 6 11 true false (v:=.imm undef) (fun h=>absurd h (by decide)) rfl rfl rfl rfl a0g rfl rfl rfl ?_
 refine a5v 14 6 11 true false (v:=.imm undef) (fun h=>absurd h (by decide)) rfl rfl rfl rfl a0g rfl rfl rfl ?_
 refine a5v 15 6 11 true false (v:=.imm undef) (fun h=>absurd h (by decide)) rfl rfl rfl rfl a0g rfl rfl rfl ?_
 refine a5v 16 6 11 true false (v:=.imm undef) (fun h=>absurd h (by decide)) rfl rfl rfl rfl a0g rfl rfl rfl ?_
 refine a5v 17 6 11 true false (v:=.imm undef) (fun h=>absurd h (by decide)) rfl rfl rfl rfl a0g rfl rfl rfl ?_
 refine a5v 18 6 11 true false (v:=.imm undef) (fun h=>absurd h (by decide)) rfl rfl rfl rfl a0g rfl rfl rfl ?_
 refine s0 (a9M rfl rfl) ?_
 refine ru 4 ?_
 refine rt1 ?_
 exact .imm _
theorem c0B (a s:Int):HPure Tryz.prog 11 [a9s,intV a,intV s] (t2 (intV 0) (boolV false)):=by
 refine a0k Tryz.func11 rfl kr _ _ _ rfl 43 rfl rfl (fun w F=>?_)
 refine ru 11 ?_
 refine cll (b9n a) ?_
 refine ru 10 ?_
 refine a5v 21 12 20 false true (v:=.imm undef) (fun h=>absurd h (by decide)) rfl rfl rfl rfl a0g rfl rfl rfl ?_
 refine a5v 22 12 20 false true (v:=.imm undef) (fun h=>absurd h (by decide)) rfl rfl rfl rfl a0g rfl rfl rfl ?_
 refine a5v 23 12 20 false true (v:=.imm undef) (fun h=>absurd h (by decide)) rfl rfl rfl rfl a0g rfl rfl rfl ?_
 refine a5v 24 12 20 false true (v:=.imm undef) (fun h=>absurd h (by decide)) rfl rfl rfl rfl a0g rfl rfl rfl ?_
 refine a5v 25 12 20 false true (v:=.imm undef) (fun h=>absurd h (by decide)) rfl rfl rfl rfl a0g rfl rfl rfl ?_
 refine a5v 26 12 20 false true (v:=.imm undef) (fun h=>absurd h (by decide)) rfl rfl rfl rfl a0g rfl rfl rfl ?_
 refine a5v 27 12 20 false true (v:=.imm undef) (fun h=>absurd h (by decide)) rfl rfl rfl rfl a0g rfl rfl rfl ?_
 refine a5v 28 12 20 false true (v:=.imm undef) (fun h=>absurd h (by decide)) rfl rfl rfl rfl a0g rfl rfl rfl ?_
 refine a5v 29 12 20 false true (v:=.imm undef) (fun h=>absurd h (by decide)) rfl rfl rfl rfl a0g rfl rfl rfl ?_
 refine a5v 30 12 20 false true (v:=.imm undef) (fun h=>absurd h (by decide)) rfl rfl rfl rfl a0g rfl rfl rfl ?_
 refine a5v 31 12 20 false true (v:=.imm undef) (fun h=>absurd h (by decide)) rfl rfl rfl rfl a0g rfl rfl rfl ?_
 refine s0 (b6A rfl rfl) ?_
 refine ru 2 ?_
 refine wdc (fun hr0 hc0=>?_) (fun hr0 hc0=>?_)
 ·refine ru 8 ?_
  refine rt2 ?_
  exact a4F (.imm _) (.imm _)
 exfalso;simp at hr0
theorem c2L (a:Int):HPure Tryz.prog 14 [a9s,intV a] (boolV false):=by
 refine a0k Tryz.func14 rfl kr _ _ _ rfl 18 rfl rfl (fun w F=>?_)
 refine ru 9 ?_
 refine cll (b9n a) ?_
 refine ru 1 ?_
 refine a5v 9 3 8 true false (v:=.imm undef) (fun h=>absurd h (by decide)) rfl rfl rfl rfl a0g rfl rfl rfl ?_
 refine a5v 10 3 8 true false (v:=.imm undef) (fun h=>absurd h (by decide)) rfl rfl rfl rfl a0g rfl rfl rfl ?_
 refine a5v 11 3 8 true false (v:=.imm undef) (fun h=>absurd h (by decide)) rfl rfl rfl rfl a0g rfl rfl rfl ?_
 refine a5v 12 3 8 true false (v:=.imm undef) (fun h=>absurd h (by decide)) rfl rfl rfl rfl a0g rfl rfl rfl ?_
 refine a5v 13 3 8 true false (v:=.imm undef) (fun h=>absurd h (by decide)) rfl rfl rfl rfl a0g rfl rfl rfl ?_
 refine a5v 14 3 8 true false (v:=.imm undef) (fun h=>absurd h (by decide)) rfl rfl rfl rfl a0g rfl rfl rfl ?_
 refine a5v 15 3 8 true false (v:=.imm undef) (fun h=>absurd h (by decide)) rfl rfl rfl rfl a0g rfl rfl rfl ?_
 refine a5v 16 3 8 true false (v:=.imm undef) (fun h=>absurd h (by decide)) rfl rfl rfl rfl a0g rfl rfl rfl ?_
 refine s0 (a9M rfl rfl) ?_
 refine ru 4 ?_
 refine rt1 ?_
 exact .imm _
theorem c7t (a:Int):HPure Tryz.prog 12 [a9s,intV a,.imm (.slice none 0 0)] (t2 (intV 0) (boolV false)):=by
 refine a0k Tryz.func12 rfl kr _ _ _ rfl 32 rfl rfl (fun w F=>?_)
 refine ru 10 ?_
 refine cll (b9n a) ?_
 refine ru 12 ?_
 refine a0l (α:=Nat) (fun x c=>⟨32,[(0,.v a9s),(1,.v (intV a)),(8,.v (boolV false)),(14,.v (.imm (.slice none 0 0))),(15,.v (intV 0)),(16,.v (intV x))],[],c⟩) (fun x=>x=0) (fun x=>1 - x) (0) om (a0c rfl (Nat.le_refl _) tsa a0f.nil) (fun i c hx NhL1 hL1=>?_)
 (try dsimp only at hx hL1 ⊢)
 refine ru 6 ?_
 refine wdc (fun hr0 hc0=>?_) (fun hr0 hc0=>?_)
 ·skip
  exfalso;subst hx;simp at hr0
 refine ru 2 ?_
 refine a0d ?_
 refine ru 9 ?_
 refine wdc (fun hr2 hc2=>?_) (fun hr2 hc2=>?_)
 ·refine ru 8 ?_
  refine rt2 ?_
  exact a4F (.imm _) (.imm _)
 exfalso;simp at hr2
theorem b9a (a:Int):HPure Tryz.prog 15 [a9s,intV a] (bagH Bag.zero):=by
 refine a0k Tryz.func15 rfl kr _ _ _ rfl 25 rfl rfl (fun w F=>?_)
 refine ru 17 ?_
 refine a0l (α:=Nat) (fun x c=>⟨25,[(0,.v a9s),(1,.v (intV a)),(4,.v (.pt 4 0 0 0)),(5,.v (.pt 5 1 0 0)),(9,.v (intV x))],[(4,⟨0,1,4,47,0,fun _=>a2I Bag.zero⟩),(5,⟨1,1,4,47,0,fun _=>a2I Bag.zero⟩)],c⟩) (fun x=>x≤32) (fun x=>32 - x) (0) om (a0c rfl (Nat.le_refl _) tsa (a0f.cons rfl (.of fun i j hi hj=>by match j,hj with | 0,_=>exact .refl _ | 1,_=>exact .refl _ | 2,_=>exact .refl _ | 3,_=>exact .refl _) (a0f.cons rfl (.of fun i j hi hj=>by match j,hj with | 0,_=>exact .refl _ | 1,_=>exact .refl _ | 2,_=>exact .refl _ | 3,_=>exact .refl _) a0f.nil))) (fun k c hx NhL1 hL1=>?_)
 (try dsimp only at hx hL1 ⊢)
 refine ru 6 ?_
 refine wdc (fun hr0 hc0=>?_) (fun hr0 hc0=>?_)
 ·refine ru 15 ?_
  refine cll (c0B a k) ?_
  refine ru 12 ?_
  refine wdc (fun hr1 hc1=>?_) (fun hr1 hc1=>?_)
  ·skip
   exfalso;simp at hr1
  refine ru 7 ?_
  exact hL1 (k+1) _ _ (by (try dsimp only);omega) (by (try dsimp only);omega) (a0c rfl (Nat.le_refl _) (tsr rfl (tsr rfl (tsr rfl (tsr rfl (a0t.cons rfl (a0H om) a0t.nil))))) hsa)
 refine ru 2 ?_
 refine a0d ?_
 refine ru 9 ?_
 refine rt1 ?_
 exact a1Z (by exact j4 rfl rfl rfl rfl)
def c5J (n:Nat) (r:List Int):Prop:=r.length=32∧∀ x∈r,-1≤x∧x < (n:Int)∧x≠0
theorem c5O (z:Bag) (g:List Bag→Nat→Nat→Bag) {S':List Bag} {R':List (List Int)} (n:Nat):∀ (at_:Nat) (S:List Bag) (R:List (List Int)),R.length=at_→at_≤S.length→1≤S.length→S.length≤200→200≤n+at_→(∀ r∈R,c5J S.length r)→c2Q z g n at_ S R=some (S',R')→R'.length=S'.length∧1≤S'.length∧S'.length≤200∧∀ r∈R',c5J S'.length r:=by
  induction n with
  | zero =>
    intro at_ S R h1 h2 h3 h4 h5 h6 h
    injection h with h;injection h with ha hb;subst ha;subst hb
    exact ⟨by omega,h3,h4,h6⟩
  | succ n ih =>
    intro at_ S R h1 h2 h3 h4 h5 h6 h
    have e:c2Q z g (n+1) at_ S R=if at_ < S.length then (if 200 < (a1z z (g S at_) S 32).1.length then none else c2Q z g n (at_+1) (a1z z (g S at_) S 32).1 (R++[(a1z z (g S at_) S 32).2])) else some (S,R):=rfl
    have hl:=a3V z (g S at_) S 32
    have ht:=b7Z z (g S at_) S h3 32
    rw [e] at h
    clear e
    generalize a1z z (g S at_) S 32=w at h hl ht
    obtain ⟨A,r⟩:=w
    dsimp only at h hl ht
    by_cases hlt:at_ < S.length
    · rw [if_pos hlt] at h
      by_cases hle:200 < A.length
      · rw [if_pos hle] at h;cases h
      · rw [if_neg hle] at h
        refine ih (at_+1) A _ (by simp [h1]) (by omega) (by omega) (by omega) (by omega) (fun q hq=>?_) h
        rcases List.mem_append.1 hq with hq | hq
        · exact ⟨(h6 q hq).1,fun x hx=>by have:=(h6 q hq).2 x hx;omega⟩
        · simp at hq;subst hq;exact ⟨hl.2.2,ht⟩
    · rw [if_neg hlt] at h
      injection h with h;injection h with ha hb;subst ha;subst hb
      exact ⟨by omega,h3,h4,h6⟩
theorem b9D {wd:Nat} {on:List Bag} {β:Nat→Bag} {p:Pc} {S:List Bag} {R:List (List Int)} (h:tabV wd on β p=some (S,R)):R.length=S.length∧1≤S.length∧S.length≤200∧∀ r∈R,c5J S.length r :=
 c5O _ _ 200 0 [Bag.zero] [] rfl (Nat.zero_le _) (Nat.le_refl _) (by show 1≤200;omega) (Nat.le_refl _) (fun r hr=>by cases hr) h
theorem b9d {wd:Nat} {on:List Bag} {β:Nat→Bag} {p:Pc} {S:List Bag} {R:List (List Int)} (h:tabV wd on β p=some (S,R)):c9w R:=fun i hi s hs=>by
 obtain ⟨h1,h2,h3,h4⟩:=b9D h
 have e:R.getD i []=R[i]:=by rw [List.getD_eq_getElem?_getD,List.getElem?_eq_getElem hi];rfl
 have h5:=h4 _ (List.getElem_mem hi)
 have hs2:s < R[i].length:=by rw [h5.1];exact hs
 have e2:R[i].getD s 0=R[i][s]:=by rw [List.getD_eq_getElem?_getD,List.getElem?_eq_getElem hs2];rfl
 rw [e,e2]
 have:=h5.2 _ (List.getElem_mem hs2)
 rw [h1]
 exact ⟨this.1,this.2.1⟩
theorem c8d {R:List (List Int)} {i k:Nat} (hi:i < R.length) (hk:k < 32):nxT R i k=(R.getD i []).getD k 0:=by
 unfold nxT
 rw [if_pos ⟨⟨by omega,by omega⟩,by omega,by omega⟩,Int.toNat_natCast,Int.toNat_natCast]
def byK (R:List (List Int)) (a:Int) (k:Nat):List Int:=((List.range k).filter (fun j:Nat=>nxT R a (j:Int) != -1)).map fun j:Nat=>(j:Int)
theorem c4B {R:List (List Int)} {a:Int} {k:Nat} (h:nxT R a (k:Int)≠-1):byK R a (k+1)=byK R a k++[(k:Int)]:=by
 unfold byK
 rw [List.range_succ,List.filter_append,List.map_append,List.filter_cons_of_pos (by simpa using h)];rfl
theorem c6S {R:List (List Int)} {a:Int} {k:Nat} (h:nxT R a (k:Int)=-1):byK R a (k+1)=byK R a k:=by
 unfold byK
 rw [List.range_succ,List.filter_append,List.map_append,List.filter_cons_of_neg (by simpa using h)];simp
theorem c4l (R:List (List Int)) (a:Int) (k:Nat):(byK R a k).length≤k:=by
 unfold byK
 rw [List.length_map]
 exact Nat.le_trans (List.length_filter_le _ _) (by rw [List.length_range];exact Nat.le_refl _)
theorem b1w (R:List (List Int)) (a:Int) {p:Nat} (hp:p < 256):∀ k,k≤256→((a9r R a k).has p=true↔p < k∧nxT R a (p:Int)≠-1)
  | 0, _ => by
    show Bag.zero.has p=true↔_
    rw [Bag.zero_has]
    exact ⟨fun h=>(by cases h),fun h=>absurd h.1 (Nat.not_lt_zero _)⟩
  | k + 1, hk => by
    have ih:=b1w R a hp k (by omega)
    unfold a9r
    split
    · rename_i h
      rw [ih]
      refine ⟨fun ⟨x,y⟩=>⟨by omega,y⟩,fun ⟨x,y⟩=>⟨?_,y⟩⟩
      rcases Nat.lt_succ_iff_lt_or_eq.1 x with e | rfl
      · exact e
      · exact absurd h y
    · rename_i h
      rw [Bag.with_has _ _ _ hp,Bool.or_eq_true,decide_eq_true_eq,ih]
      constructor
      · rintro (e | ⟨x,y⟩)
        · obtain rfl:p=k:=by omega
          exact ⟨Nat.lt_succ_self _,h⟩
        · exact ⟨by omega,y⟩
      · rintro ⟨x,y⟩
        rcases Nat.lt_succ_iff_lt_or_eq.1 x with e | rfl
        · exact .inr ⟨e,y⟩
        · exact .inl rfl
theorem b8T (R:List (List Int)) (a:Int):(a9r R a 32).list=byK R a 32:=by
  rw [Bag.list_eq]
  unfold byK
  congr 1
  refine a7q (n:=32) 224 (fun p hp=>?_) (fun p h1 h2=>?_)
  · rw [Bool.eq_iff_iff,b1w R a (by omega) 32 (by decide),bne_iff_ne]
    exact ⟨fun h=>h.2,fun h=>⟨hp,h⟩⟩
  · cases h : (a9r R a 32).has p with
    | false=>rfl
    | true=>have:=(b1w R a (by omega) 32 (by decide)).1 h;omega
theorem b5F {R:List (List Int)} {a:Int} (h:a < 0∨(R.length:Int)≤a):∀ k,a9r R a k=Bag.zero
  | 0=>rfl
  | k + 1 => by
    unfold a9r
    rw [if_pos (by unfold nxT;rw [if_neg (by omega)])]
    exact b5F h k
@[reducible] def twF (a b:Int):Nat→HV:=fun j=>match j with
 | 0=>intV a
 | _=>intV b
theorem b3x (s:List UInt8) (l:List Mn) (a b:Int) (hs:s.length≤9223372036854775807):HPure Tryz.prog 4 [strV s,mnsV l,.agg 2 (twF a b)] (boolV true):=by
 have hn:=b7K s l hs
 refine a0k Tryz.func4 rfl kr _ _ _ rfl 199 rfl rfl (fun w F=>?_)
 refine ru 13 ?_
 refine cll (c6Q) ?_
 refine ru 10 ?_
 refine cll (c0B 0 0) ?_
 refine ru 10 ?_
 refine cll (c7t 0) ?_
 refine ru 14 ?_
 first
 | refine stg 43 (fun hb=>a0e (xs:=[_]) (b3r) ⟨rfl,trivial⟩ ⟨(Fz.eq rfl),trivial⟩) rfl rfl rfl rfl rfl ?_
 | refine sth 43 (fun hb=>a0e (xs:=[_]) (b3r) ⟨rfl,trivial⟩ ⟨(Fz.eq rfl),trivial⟩) rfl rfl rfl rfl rfl ?_
 refine ru 10 ?_
 first
 | refine stg 54 (fun hb=>a0e (xs:=[_,_]) (c2L 0) ⟨rfl,⟨rfl,trivial⟩⟩ ⟨(Fz.eq rfl),⟨(Fz.eq rfl),trivial⟩⟩) rfl rfl rfl rfl rfl ?_
 | refine sth 54 (fun hb=>a0e (xs:=[_,_]) (c2L 0) ⟨rfl,⟨rfl,trivial⟩⟩ ⟨(Fz.eq rfl),⟨(Fz.eq rfl),trivial⟩⟩) rfl rfl rfl rfl rfl ?_
 refine ru 3 ?_
 first
 | refine stg 58 (fun hb=>a0e (xs:=[_,_]) (b9a 0) ⟨rfl,⟨rfl,trivial⟩⟩ ⟨(Fz.eq rfl),⟨(Fz.eq rfl),trivial⟩⟩) rfl rfl rfl rfl rfl ?_
 | refine sth 58 (fun hb=>a0e (xs:=[_,_]) (b9a 0) ⟨rfl,⟨rfl,trivial⟩⟩ ⟨(Fz.eq rfl),⟨(Fz.eq rfl),trivial⟩⟩) rfl rfl rfl rfl rfl ?_
 refine ru 1 ?_
 refine stg 58 (fun hb=>a8I Bag.zero Bag.zero rfl rfl rfl (by exact j4 rfl rfl rfl rfl) (by exact j4 rfl rfl rfl rfl)) rfl rfl rfl rfl rfl ?_
 refine ru 3 ?_
 refine wdc (fun hr0 hc0=>?_) (fun hr0 hc0=>?_)
 ·skip
  exfalso;simp at hr0
 refine ru 3 ?_
 rcases hn with ⟨z,hx⟩ | ⟨wd,on,β,p,e,S,R,V⟩
 ·refine ru 3 ?_
  refine cll (hx) ?_
  refine ru 19 ?_
  refine wdc (fun hr1 hc1=>?_) (fun hr1 hc1=>?_)
  ·refine ru 2 ?_
   refine cll (a8E) ?_
   refine ru 5 ?_
   refine rt1 ?_
   exact .imm _
  exfalso;simp at hr1
 ·refine ru 3 ?_
  refine cll (V.tab) ?_
  refine ru 19 ?_
  refine wdc (fun hr1 hc1=>?_) (fun hr1 hc1=>?_)
  ·skip
   exfalso;simp at hr1
  have hin:=b9D V.is;have hrw:=b9d V.is;have hal:=a7Z p.empty p.ends S;obtain ⟨hRS,hS1,hS2,hin4⟩:=hin
  refine ru 9 ?_
  refine b5U 79 2 77 false _ (fun hb=>a0e (xs:=[_]) (b1F R _) ⟨rfl,trivial⟩ ⟨fe,trivial⟩) rfl rfl rfl rfl a0g rfl rfl rfl (k':=5) rfl ?_
  refine ru 1 ?_
  first
  | refine b5U 81 2 77 false _ (fun hb=>a0D ty_24.h rfl (by first | exact Nat.le_of_ble_eq_true rfl | (simp at hb;first | omega | (dsimp only;omega) | (simp <;> omega)) | omega | (dsimp only;omega)) (by first | exact Nat.le_of_ble_eq_true rfl | (simp at hb;first | omega | (dsimp only;omega) | (simp <;> omega)) | omega | (dsimp only;omega)) (fun h=>(by first | rfl | cases h))) rfl rfl rfl rfl (a0P rfl) rfl rfl rfl (k':=7) rfl ?_
  | refine b5U 81 2 77 false _ (fun hb=>a0r ty_24.h rfl (by first | exact Nat.le_of_ble_eq_true rfl | (simp at hb;first | omega | (dsimp only;omega) | (simp <;> omega)) | omega | (dsimp only;omega)) (fun h=>(by first | rfl | cases h))) rfl rfl rfl rfl a0g rfl rfl rfl (k':=7) rfl ?_
  refine ru 3 ?_
  refine b0h kr kr (c':=13) rfl ?_
  refine ru 1 ?_
  refine wdc (fun hr2 hc2=>?_) (fun hr2 hc2=>?_)
  ·skip
   exfalso;simp [hRS] at hr2
  refine ru 9 ?_
  refine a0l (α:=Nat) (fun x c=>⟨199,[(5,.v (.pt 5 0 0 0)),(14,.v (tabP R (accS p.empty p.ends S))),(15,.v (.pt 15 1 0 0)),(18,.v (intV (x:Int)))],[(5,⟨0,1,2,36,0,fun _=>twF a b⟩),(15,⟨1,1,3,28,0,fun _=>tdF S R (accS p.empty p.ends S)⟩)],c⟩) (fun x=>x≤S.length) (fun x=>S.length - x) (0) om (a0c rfl (Nat.le_refl _) tsa (a0f.cons rfl (.of fun i j hi hj=>by match j,hj with | 0,_=>exact .refl _ | 1,_=>exact .refl _) (a0f.cons rfl (c2p (.refl _) (.refl _) (.refl _)) a0f.nil))) (fun i c hx NhL1 hL1=>?_)
  (try dsimp only at hx hL1 ⊢)
  refine ru 10 ?_
  refine wdc (fun hr3 hc3=>?_) (fun hr3 hc3=>?_)
  ·skip
   have hiS:i < S.length:=om;have hiR:i < R.length:=om
   refine ru 16 ?_
   refine a4O 19 9401 1 3 ((a4p [])) rfl (by decide) rfl (c':=c+1) rfl ?_
   refine a0l (α:=Nat×Nat) (fun x c=>⟨199,[(5,.v (.pt 5 0 0 0)),(14,.v (tabP R (accS p.empty p.ends S))),(15,.v (.pt 15 1 0 0)),(18,.v (intV (i:Int))),(19,.v (.os 9401 x.2 0 (byK R i x.1).length)),(20,.v (intV (x.1:Int)))],[(5,⟨0,1,2,36,0,fun _=>twF a b⟩),(15,⟨1,1,3,28,0,fun _=>tdF S R (accS p.empty p.ends S)⟩),(9401,⟨x.2,(byK R i x.1).length,1,3,0,a4p (byK R i x.1)⟩)],c⟩) (fun x=>x.1≤32) (fun x=>32 - x.1) ((0,c)) om (a0c rfl (Nat.le_refl _) tsa hsa) (fun x c hx NhL2 hL2=>?_)
   revert hx hL2;obtain ⟨k,g⟩:=x;intro hx hL2;dsimp only at hx hL2 ⊢
   have hbl:=c4l R i k
   refine ru 7 ?_
   refine wdc (fun hr4 hc4=>?_) (fun hr4 hc4=>?_)
   ·skip
    have hk32:k < 32:=om;have hnx:=c8d hiR hk32;have hrr:=hrw i hiR k hk32;have hqa:(nxT R i k != -1)=decide ((R.getD i []).getD k 0≥0):=(by rw [hnx,Bool.eq_iff_iff,bne_iff_ne,decide_eq_true_eq];omega);have hqb:(if nxT R i k=-1 then 0 else nxT R i k)=(if (R.getD i []).getD k 0 < 0 then 0 else (R.getD i []).getD k 0):=(by rw [hnx];split <;> split <;> omega)
    refine ru 9 ?_
    refine cll (b5N R _ i k) ?_
    refine ru 18 ?_
    refine rvl (intV ((R.getD i []).getD k 0)) ((by show intV ((R.getD i []).getD (k * 1+0) 0)=_;rw [show k * 1+0=k by omega])) ?_
    refine ru 11 ?_
    refine ry (intV ((R.getD i []).getD k 0)) rfl (fun hb=>(by show intV ((R.getD i []).getD (k * 1+0) 0)=_;rw [show k * 1+0=k by omega])) ?_
    refine ru 5 ?_
    refine wdc (fun hr5 hc5=>?_) (fun hr5 hc5=>?_)
    ·skip
     exfalso;rw [hqa,hqb] at hr5;simp at hr5
    refine ru 7 ?_
    refine wdc (fun hr6 hc6=>?_) (fun hr6 hc6=>?_)
    ·skip
     have hne:nxT R i k≠-1:=(by simpa using hr6);have hA:=c4B hne
     refine ru 3 ?_
     refine a0u 128 (a0b (id:=128) (hs:=[_]) ei_49.h omx rfl omx ⟨rfl,rfl,rfl,rfl,trivial⟩) rfl rfl a0g rfl rfl (c':=c+1) rfl ?_
     first
     | refine a0u 129 (a0a ei_49.h (by first | exact Nat.le_of_ble_eq_true rfl | omega | (dsimp only;omega) | (simp <;> omega)) rfl (by first | exact Nat.le_of_ble_eq_true rfl | omega | (dsimp only;omega) | (simp <;> omega)) (by first | exact Nat.le_of_ble_eq_true rfl | omega | (dsimp only;omega) | (simp <;> omega)) (a0x rfl (by first | exact Nat.le_of_ble_eq_true rfl | omega | (dsimp only;omega) | (simp <;> omega))) (by first | exact Nat.le_of_ble_eq_true rfl | omega | (dsimp only;omega) | (simp <;> omega)) rfl) rfl rfl (a0i rfl (a0P rfl)) rfl rfl (c':=c+2) rfl ?_
     | refine a0u 129 (a0a ei_49.h (by first | exact Nat.le_of_ble_eq_true rfl | omega | (dsimp only;omega) | (simp <;> omega)) rfl (by first | exact Nat.le_of_ble_eq_true rfl | omega | (dsimp only;omega) | (simp <;> omega)) (by first | exact Nat.le_of_ble_eq_true rfl | omega | (dsimp only;omega) | (simp <;> omega)) (a0S rfl (by first | exact Nat.le_of_ble_eq_true rfl | omega | (dsimp only;omega) | (simp <;> omega))) (by first | exact Nat.le_of_ble_eq_true rfl | omega | (dsimp only;omega) | (simp <;> omega)) rfl) rfl rfl (a0i rfl (a0P rfl)) rfl rfl (c':=c+2) rfl ?_
     | refine a0u 129 (a0a ei_49.h (by first | exact Nat.le_of_ble_eq_true rfl | omega | (dsimp only;omega) | (simp <;> omega)) rfl (by first | exact Nat.le_of_ble_eq_true rfl | omega | (dsimp only;omega) | (simp <;> omega)) (by first | exact Nat.le_of_ble_eq_true rfl | omega | (dsimp only;omega) | (simp <;> omega)) (a0O rfl) (by first | exact Nat.le_of_ble_eq_true rfl | omega | (dsimp only;omega) | (simp <;> omega)) rfl) rfl rfl (a0i rfl a0g) rfl rfl (c':=c+2) rfl ?_
     | refine a0u 129 (a0a ei_49.h (by first | exact Nat.le_of_ble_eq_true rfl | omega | (dsimp only;omega) | (simp <;> omega)) rfl (by first | exact Nat.le_of_ble_eq_true rfl | omega | (dsimp only;omega) | (simp <;> omega)) (by first | exact Nat.le_of_ble_eq_true rfl | omega | (dsimp only;omega) | (simp <;> omega)) (a0z 1 (fun _ _=>default) rfl) (by first | exact Nat.le_of_ble_eq_true rfl | omega | (dsimp only;omega) | (simp <;> omega)) rfl) rfl rfl (a0i rfl a0g) rfl rfl (c':=c+2) rfl ?_
     refine ru 9 ?_
     exact hL2 ((k+1,c+1)) _ _ (by (try dsimp only);omega) (by (try dsimp only);omega) (a0c rfl (Nat.le_refl _) (tsr rfl (tsr rfl (tsr rfl (tsr rfl (a0t.cons rfl (by dsimp only;rw [hA];exact a3k (by simp)) (a0t.cons rfl (a0H om) a0t.nil)))))) (hsr rfl (hsr rfl (a0f.cons rfl (by dsimp only;rw [hA];exact a0G (enc:=fun x _=>intV x) (d:=0) rfl (fun i j hi hj=>.refl _) (fun j hj=>.refl _)) a0f.nil))))
    have hne:nxT R i k=-1:=(by simpa using hr6);have hA:=c6S hne
    refine ru 8 ?_
    exact hL2 ((k+1,g)) _ _ (by (try dsimp only);omega) (by (try dsimp only);omega) (a0c rfl (Nat.le_refl _) (tsr rfl (tsr rfl (tsr rfl (tsr rfl (a0t.cons rfl (by dsimp only;rw [hA];exact .refl _) (a0t.cons rfl (a0H om) a0t.nil)))))) (hsr rfl (hsr rfl (a0f.cons rfl (by dsimp only;rw [hA];exact .refl _) a0f.nil))))
   obtain rfl:k=32:=om
   refine ru 2 ?_
   refine a0d ?_
   refine ru 3 ?_
   refine (a1a 19 [(9401,_)] rfl (a0i rfl a0g) rfl (a2r (l:=byK R i 32) (enc:=fun x _=>intV x) (d:=0) (List.mem_cons_self ..) rfl rfl (Nat.le_refl _) (fun i j hi hj=>.imm _))).wp ?_
   refine ru 3 ?_
   refine clx (b8o R _ i) ?_
   refine ru 4 ?_
   first
   | refine a3a 137 (HOp.val (v':=boolV ((accS p.empty p.ends S).getD i false)) (a0D ty_4.h rfl (by first | exact Nat.le_of_ble_eq_true rfl | omega | (dsimp only;omega) | (simp <;> omega)) (by first | exact Nat.le_of_ble_eq_true rfl | omega | (dsimp only;omega) | (simp <;> omega)) (fun h=>(by first | rfl | cases h))) (rfl)) rfl rfl (a0P rfl) rfl rfl (k':=8) rfl ?_
   | refine a3a 137 (HOp.val (v':=boolV ((accS p.empty p.ends S).getD i false)) (a0r ty_4.h rfl (by first | exact Nat.le_of_ble_eq_true rfl | omega | (dsimp only;omega) | (simp <;> omega)) (fun h=>(by first | rfl | cases h))) (rfl)) rfl rfl a0g rfl rfl (k':=8) rfl ?_
   refine ru 4 ?_
   refine b5U 142 9 139 false _ (fun hb=>a0e (xs:=[_,_]) (b8S R _ i) ⟨rfl,⟨rfl,trivial⟩⟩ ⟨fe,⟨fe,trivial⟩⟩) rfl rfl rfl rfl a0g rfl rfl rfl (k':=13) rfl ?_
   refine b5U 143 9 139 false _ (fun hb=>a0e (xs:=[_]) (c5Q (a9r R i 32) (b1B _ _ _)) ⟨rfl,trivial⟩ ⟨fe,trivial⟩) rfl rfl rfl rfl a0g rfl rfl rfl (k':=14) rfl ?_
   refine ru 1 ?_
   refine b5U 145 9 139 false _ (fun hb=>a0e (xs:=[_,_]) (b6e (a9r R i 32).list (byK R i 32) (a6G _) om) ⟨rfl,⟨rfl,trivial⟩⟩ ⟨fe,⟨fe,trivial⟩⟩) rfl rfl rfl rfl a0g rfl rfl rfl (k':=16) rfl ?_
   refine ru 2 ?_
   refine b0h kr kr (c':=c+18) rfl ?_
   refine ru 1 ?_
   refine wdc (fun hr7 hc7=>?_) (fun hr7 hc7=>?_)
   ·skip
    exfalso;rw [b8T,show c3S R i=true by simp [c3S,hiR]] at hr7;simp at hr7
   refine ru 8 ?_
   exact hL1 (i+1) _ _ (by (try dsimp only);omega) (by (try dsimp only);omega) (a0c rfl (Nat.le_refl _) (tsr rfl (tsr rfl (tsr rfl (a0t.cons rfl (a0H om) a0t.nil)))) hsa)
  have hiS:i=S.length:=om
  refine ru 2 ?_
  refine a0d ?_
  refine ru 5 ?_
  first
  | refine a3a 149 (HOp.val (v':=intV a) (a0D ty_3.h rfl (by first | exact Nat.le_of_ble_eq_true rfl | omega | (dsimp only;omega) | (simp <;> omega)) (by first | exact Nat.le_of_ble_eq_true rfl | omega | (dsimp only;omega) | (simp <;> omega)) (fun h=>(by first | rfl | cases h))) (rfl)) rfl rfl (a0P rfl) rfl rfl (k':=2) rfl ?_
  | refine a3a 149 (HOp.val (v':=intV a) (a0r ty_3.h rfl (by first | exact Nat.le_of_ble_eq_true rfl | omega | (dsimp only;omega) | (simp <;> omega)) (fun h=>(by first | rfl | cases h))) (rfl)) rfl rfl a0g rfl rfl (k':=2) rfl ?_
  refine ru 1 ?_
  first
  | refine a3a 151 (HOp.val (v':=intV b) (a0D ty_3.h rfl (by first | exact Nat.le_of_ble_eq_true rfl | omega | (dsimp only;omega) | (simp <;> omega)) (by first | exact Nat.le_of_ble_eq_true rfl | omega | (dsimp only;omega) | (simp <;> omega)) (fun h=>(by first | rfl | cases h))) (rfl)) rfl rfl (a0P rfl) rfl rfl (k':=4) rfl ?_
  | refine a3a 151 (HOp.val (v':=intV b) (a0r ty_3.h rfl (by first | exact Nat.le_of_ble_eq_true rfl | omega | (dsimp only;omega) | (simp <;> omega)) (fun h=>(by first | rfl | cases h))) (rfl)) rfl rfl a0g rfl rfl (k':=4) rfl ?_
  refine ru 9 ?_
  refine cll (b5N R _ a b) ?_
  refine ru 21 ?_
  refine wdc (fun hr8 hc8=>?_) (fun hr8 hc8=>?_)
  ·skip
   have hout:a < 0∨(R.length:Int)≤a:=(by simp at hr8;omega);have hno:nxT R a b=-1:=(by unfold nxT;rw [if_neg om]);have hh:c3S R a=false:=(by unfold c3S;rw [Bool.and_eq_false_iff,decide_eq_false_iff_not,decide_eq_false_iff_not];omega)
   refine ru 7 ?_
   first
   | refine stg 170 (fun hb=>a0e (xs:=[_,_]) (b8o R _ a) ⟨rfl,⟨rfl,trivial⟩⟩ ⟨(Fz.eq rfl),⟨(Fz.eq rfl),trivial⟩⟩) rfl rfl rfl rfl rfl ?_
   | refine sth 170 (fun hb=>a0e (xs:=[_,_]) (b8o R _ a) ⟨rfl,⟨rfl,trivial⟩⟩ ⟨(Fz.eq rfl),⟨(Fz.eq rfl),trivial⟩⟩) rfl rfl rfl rfl rfl ?_
   refine ru 5 ?_
   first
   | refine stg 176 (fun hb=>a0e (xs:=[_,_]) (b8S R _ a) ⟨rfl,⟨rfl,trivial⟩⟩ ⟨(Fz.eq rfl),⟨(Fz.eq rfl),trivial⟩⟩) rfl rfl rfl rfl rfl ?_
   | refine sth 176 (fun hb=>a0e (xs:=[_,_]) (b8S R _ a) ⟨rfl,⟨rfl,trivial⟩⟩ ⟨(Fz.eq rfl),⟨(Fz.eq rfl),trivial⟩⟩) rfl rfl rfl rfl rfl ?_
   refine ru 1 ?_
   refine stg 176 (fun hb=>a6e (a9r R a 32) Bag.zero rfl rfl rfl (by exact j4 rfl rfl rfl rfl) (by exact j4 rfl rfl rfl rfl)) rfl rfl rfl rfl rfl ?_
   refine ru 2 ?_
   first
   | refine stg 183 (fun hb=>a0e (xs:=[]) (a8E) trivial trivial) rfl rfl rfl rfl rfl ?_
   | refine sth 183 (fun hb=>a0e (xs:=[]) (a8E) trivial trivial) rfl rfl rfl rfl rfl ?_
   refine ru 6 ?_
   refine rt1 ?_
   exact a3d (by rw [hno,hh,b5F hout];rfl)
  refine ru 15 ?_
  first
  | refine stg 196 (fun hb=>a0e (xs:=[]) (a8E) trivial trivial) rfl rfl rfl rfl rfl ?_
  | refine sth 196 (fun hb=>a0e (xs:=[]) (a8E) trivial trivial) rfl rfl rfl rfl rfl ?_
  refine ru 5 ?_
  refine rt1 ?_
  exact a3d (by unfold nxT;split <;> simp <;> omega)
end Go.Proofs.YtdbbbafiegpbpaaGreatDoor
namespace Go.Proofs.YtdbbbafiegpbpaaGreatDoor
set_option linter.unusedSimpArgs false
set_option linter.unusedVariables false
open Go.ChangeShapes Go.WideShapes Go.ChangeAt Go.RowKit Go.Deep
section
variable {H:Type} {encH:TypeId×Value→H} {P:Program} {w:World} {base:Nat} {spare:Nat→Bool} {held:Bool}
theorem b9v {α:Type} {t e:TypeId} {fuel:Nat} {A:Option Addr} {n c:Nat} {x:DataW H×List MemPlace} (ht:P.underlying t=some (.slice e)) (size:Nat) (hC:P.cellsOf e=size) (hpos:0 < size)
    (enc:α→List Value) (henc:∀ a,(enc a).length=size) (ok:α→Prop)
    (hel:∀ (m:Nat) (cs:List Value) (y:DataW H×List MemPlace),DataW.trod encH P w base spare held m e cs=some y→∃ a:α,cs=enc a∧ok a)
    (hf:DataW.trod encH P w base spare held fuel t [.slice A n c]=some x) :
    ∃ l:List α,l.length=n∧Sl w w.heap.size size enc A l∧n≤c∧c≤9223372036854775807∧∀ a∈l,ok a:=by
  rcases open_slice ht hf with ⟨h0,_⟩ | ⟨a,len,cap,m,k,D,Pl,hcs,hb,hl,hm,hmm,hx,hi⟩
  · injection h0 with h0 _
    injection h0 with h1 h2 h3
    subst h1;subst h2;subst h3
    exact ⟨[],rfl,⟨henc,a1l.none_⟩,by omega,by omega,by simp⟩
  · injection hcs with h0 _
    injection h0 with h1 h2 h3
    subst h1;subst h2;subst h3
    have hnm:n≤m:=by rw [hmm];split <;> omega
    have each:∀ k,k≤n→∃ l:List α,l.length=k∧(∀ i (hi:i < l.length),w.cells? base (a.add (i * size)) size=some (enc l[i]))∧∀ y∈l,ok y:=by
      intro k
      induction k with
      | zero=>intro _;exact ⟨[],rfl,fun i hi=>by simp at hi,by simp⟩
      | succ k ih =>
        intro hk
        obtain ⟨l,hl1,hl2,hl3⟩:=ih (by omega)
        obtain ⟨cs',h1,h2⟩:=hi k (by omega)
        rw [hC] at h1
        obtain ⟨a',rfl,hok⟩:=hel _ _ _ h2
        refine ⟨l++[a'],by simp [hl1],fun i hi=>?_,fun y hy=>?_⟩
        · by_cases hik:i < l.length
          · rw [List.getElem_append_left hik];exact hl2 i hik
          · have:i=k:=by simp at hi;omega
            subst this
            simp [hl1,h1]
        · rcases List.mem_append.1 hy with hy | hy
          · exact hl3 y hy
          · simp at hy;subst hy;exact hok
    obtain ⟨l,hl1,hl2,hl3⟩:=each n (Nat.le_refl _)
    refine ⟨l,hl1,⟨henc,?_,fun hn=>?_⟩,hl,by unfold maxLen at hm;omega,hl3⟩
    · have:∀ m:List α,(m.flatMap enc).length=m.length * size:=by
        intro m
        induction m with
        | nil=>simp
        | cons x m ih=>simp [List.flatMap_cons,ih,henc,Nat.add_mul,Nat.add_comm]
      exact this l
    · refine ⟨a,rfl,?_,fun j u hu=>?_⟩
      · have h0:=hl2 0 hn
        have:=World.cells?_block h0 hpos
        rwa [a2S] at this
      · have hfl:(l.flatMap enc).length=l.length * size:=by
          have:∀ m:List α,(m.flatMap enc).length=m.length * size:=by
            intro m
            induction m with
            | nil=>simp
            | cons x m ih=>simp [List.flatMap_cons,ih,henc,Nat.add_mul,Nat.add_comm]
          exact this l
        have hj:j < l.length * size:=by
          rcases Nat.lt_or_ge j (l.flatMap enc).length with hlt | hge
          · rw [hfl] at hlt;exact hlt
          · rw [List.getElem?_eq_none hge] at hu;cases hu
        have hjd:j / size < l.length:=(Nat.div_lt_iff_lt_mul hpos).2 hj
        have hjm:j % size < size:=Nat.mod_lt _ hpos
        have e1:j=j / size * size+j % size:=by rw [Nat.mul_comm];exact (Nat.div_add_mod j size).symm
        rw [e1] at hu ⊢
        rw [a1U henc _ _ _ hjd hjm] at hu
        have:=(World.cells?_some (hl2 _ hjd)).2.2 (j % size) hjm
        rw [a5A] at this
        rw [this,hu]
def c2D (x:Int):Prop:=(Lit.int .i64 x).wf=true
def c3D (p:Int×Int):Prop:=c2D p.1∧c2D p.2
theorem c8t {e:TypeId} (he:P.underlying e=some (.int .i64)) (m:Nat) (cs:List Value) (y:DataW H×List MemPlace) (h:DataW.trod encH P w base spare held m e cs=some y):∃ a:Int,cs=a4T a∧c2D a:=by
 obtain ⟨b,rfl,_,hw⟩:=DataW.trod_int he h
 exact ⟨b,rfl,hw⟩
theorem c4V {e i:TypeId} (he:P.underlying e=some (.array 2 i)) (hi:P.underlying i=some (.int .i64)) (hci:P.cellsOf i=1) (hce:P.cellsOf e=2) (m:Nat) (cs:List Value) (y:DataW H×List MemPlace) (h:DataW.trod encH P w base spare held m e cs=some y) :
    ∃ a:Int×Int,cs=b8R a∧c3D a:=by
  obtain ⟨xs,k,_,_,hlen,hxl,hx⟩:=DataW.trod_array he h
  rw [hce] at hlen
  rw [hci] at hx
  match cs,hlen,xs,hxl with
  | [c0, c1], _, [x0, x1], _ =>
    obtain ⟨a,h0,_,w0⟩:=DataW.trod_int hi (hx 0 (by omega))
    obtain ⟨b,h1,_,w1⟩:=DataW.trod_int hi (hx 1 (by omega))
    simp at h0 h1
    subst h0;subst h1
    exact ⟨(a,b),rfl,w0,w1⟩
end
structure PtI where
 v:Pt
 A:Option Addr
 n:Nat
 c:Nat
def PtI.cells (x:PtI):List Value:=[.int .i64 x.v.kind,.int .i64 x.v.low,.int .i64 x.v.high,.string ⟨x.v.name.toArray⟩,.slice x.A x.n x.c]
def PtI.none:PtI:=⟨default,.none,0,0⟩
theorem PtI.cells_length (x:PtI):x.cells.length=5:=by simp [PtI.cells]
def PtI.inOk (w:World) (x:PtI):Prop:=x.v.kids.length=x.n∧Sl w w.heap.size 1 a4T x.A x.v.kids∧x.n≤x.c∧x.c≤9223372036854775807
section
variable {H:Type} {encH:TypeId×Value→H} {w:World} {base:Nat} {spare:Nat→Bool} {held:Bool}
theorem b6Y {P:Program} {t e:TypeId} (ht:P.underlying t=some (.slice e)) {fuel:Nat} {v:Value} {x:DataW H×List MemPlace} (hf:DataW.trod encH P w base spare held fuel t [v]=some x):∃ A n c,v=.slice A n c:=by
 rcases open_slice ht hf with ⟨h0,_⟩ | ⟨a,len,cap,m,k,D,Pl,hcs,_⟩
 ·injection h0 with h0 _;exact ⟨_,_,_,h0⟩
 ·injection hcs with h0 _;exact ⟨_,_,_,h0⟩
end
theorem c0T (x:Int):∀ u∈a4T x,u.oneCell'=true:=by
 intro u hu
 simp only [a4T,List.mem_cons,List.not_mem_nil,or_false] at hu
 subst hu;rfl
theorem c0Z {w:World} {B:Nat} {A:Option Addr} {c:Nat} {l:List Int} (h:Sl w B 1 a4T A l) (hc:l.length≤c) (hm:c≤maxLen):Rep w (Env.just (c6s w)) (.slice A l.length c) (a1u l) :=
 c3f 1 (by omega) a4T c0T (fun x _=>intV x) 0 l hc hm h (fun i j _ hj=>by
  match j,hj with
  | 0,_=>exact .imm _)
structure MnI where
 v:Mn
 A:Option Addr
 n:Nat
 c:Nat
def MnI.cells (x:MnI):List Value:=[.string ⟨x.v.name.toArray⟩,.slice x.A x.n x.c]
def MnI.none:MnI:=⟨default,.none,0,0⟩
theorem MnI.cells_length (x:MnI):x.cells.length=2:=by simp [MnI.cells]
def MnI.inOk (w:World) (x:MnI):Prop:=x.v.on.length=x.n∧Sl w w.heap.size 1 a4T x.A x.v.on∧x.n≤x.c∧x.c≤9223372036854775807
theorem c4W (x:MnI):∀ u∈x.cells,u.oneCell'=true:=by
 intro u hu
 simp only [MnI.cells,List.mem_cons,List.not_mem_nil,or_false] at hu
 rcases hu with rfl | rfl <;> rfl
section
variable {H:Type} {encH:TypeId×Value→H} {w:World} {base:Nat} {spare:Nat→Bool} {held:Bool}
set_option maxRecDepth 100000 in
theorem c9C (m:Nat) (cs:List Value) (y:DataW H×List MemPlace) (h:DataW.trod encH Tryz.prog w base spare held m 145 cs=some y):∃ t:MnI,cs=t.cells∧t.inOk w:=by
  obtain ⟨xs,k,_,_,hlen,hxl,hx⟩:=DataW.trod_struct Tryz.underlying145 h
  have hC:Tryz.prog.cellsOf 145=2:=by kernel_rfl
  have hS:Tryz.prog.cellsOf 9=1:=by kernel_rfl
  have hK:Tryz.prog.cellsOf 49=1:=by kernel_rfl
  rw [hC] at hlen
  match cs,hlen,xs,hxl with
  | [c3, c4], _, [x3, x4], _ =>
    have f3:DataW.trod encH Tryz.prog w base spare held k 9 (([c3,c4].drop 0).take (Tryz.prog.cellsOf 9))=[x3,x4][0]?:=hx 0 _ rfl
    have f4:DataW.trod encH Tryz.prog w base spare held k 49 (([c3,c4].drop 1).take (Tryz.prog.cellsOf 49))=[x3,x4][1]?:=hx 1 _ rfl
    rw [hS] at f3
    rw [hK] at f4
    obtain ⟨b3,h3,_,_⟩:=DataW.trod_string Tryz.underlying9 f3
    simp at h3
    subst h3
    simp only [List.drop_succ_cons,List.drop_zero,List.take_succ_cons,List.take_zero] at f4
    obtain ⟨A,n,c,rfl⟩:=b6Y Tryz.underlying49 f4
    obtain ⟨l,e,s,o,m',_⟩:=b9v Tryz.underlying49 1 (by kernel_rfl) (by omega) a4T (fun a=>by simp [a4T]) c2D (c8t Tryz.underlying3) f4
    exact ⟨⟨⟨b3.data.toList,l⟩,A,n,c⟩,rfl,e,s,o,m'⟩
end
theorem c5d {w:World} {B:Nat} {A:Option Addr} {c:Nat} {l:List MnI} (h:Sl w B 2 MnI.cells A l) (hc:l.length≤c) (hm:c≤maxLen) (hok:∀ x∈l,x.inOk w):Rep w (Env.just (c6s w)) (.slice A l.length c) (mnsV (l.map (·.v))):=by
 have key:=c3f (w:=w) 2 (by omega) MnI.cells c4W (fun x=>mnF x.v) MnI.none l hc hm h (fun i j hi hj=>by
  have hg:l.getD i MnI.none=l[i]:=by rw [List.getD_eq_getElem?_getD,List.getElem?_eq_getElem hi];rfl
  rw [hg]
  obtain ⟨e,s,o,m⟩:=hok _ (List.getElem_mem hi)
  generalize l[i]=x at e s o m
  obtain ⟨v,A',n',c'⟩:=x
  simp only at e s o m
  subst e
  match j,hj with
  | 0,_=>exact .imm _
  | 1,_=>exact c0Z s o (by unfold maxLen;omega))
 have e:mnsV (l.map (·.v))=.sl 2 l.length (fun i=>mnF (l.getD i MnI.none).v):=by
  show HV.sl 2 (l.map (·.v)).length (fun i=>mnF ((l.map (·.v)).getD i default))=_
  rw [List.length_map]
  congr 1
  funext i
  show mnF ((l.map (·.v)).getD i default)=_
  congr 1
  rw [List.getD_eq_getElem?_getD,List.getD_eq_getElem?_getD,List.getElem?_map]
  cases l[i]? <;> rfl
 rw [e];exact key
theorem b3n {P:Program} {w:World} {r:Reach} {base:Nat} {t:TypeId} {v:Value} {n:Nat} {e:TypeId} (ht:P.underlying t=some (.array n e)) (h:Value.okWide P w r base t v):∃ cs,v=.agg cs∧cs.size=P.cellsOf t:=by
 simp only [Value.okWide,ht] at h
 obtain ⟨cs,h1,h2,_⟩:=h
 exact ⟨cs,h1,h2⟩
theorem c4u {w:World} {E:Env} (x:Int×Int):Rep w E (.agg (b8R x).toArray) (.agg 2 (twF x.1 x.2)):=by
  refine .agg _ 2 _ (fun j=>match j with | 0=>.int .i64 x.1 | _=>.int .i64 x.2) rfl (fun j hj=>?_) (fun j hj=>?_)
  · match j, hj with
    | 0,_=>exact ⟨rfl,rfl⟩
    | 1,_=>exact ⟨rfl,rfl⟩
  · match j, hj with
    | 0,_=>exact .imm _
    | 1,_=>exact .imm _
theorem a9C (W:World) (hL:LibW W) (s:ByteArray) (hs:s.size≤maxLen) (a:Option Addr) (n c:Nat) (l:List MnI) (hn:l.length=n) (sl:Sl W W.heap.size 2 MnI.cells a l) (hc:n≤c) (hm:c≤9223372036854775807) (hok:∀ x∈l,x.inOk W) (x:Int×Int) (hx:c3D x) :
  Calls Tryz.prog 4 #[.string s,.slice a n c,.agg (b8R x).toArray] W fun e w'=>e=.returned (.bool true)∧Below W.heap.size W w':=by
 subst hn
 have hs':s.data.toList.length≤9223372036854775807:=by have:s.size=s.data.toList.length:=rfl;rw [←this];unfold maxLen at hs;omega
 exact c1g (b3x s.data.toList (l.map (·.v)) x.1 x.2 hs') W [.string s,.slice a l.length c,.agg (b8R x).toArray] ⟨.imm _,c5d sl hc (by unfold maxLen;omega) hok,c4u x,trivial⟩ hL
end Go.Proofs.YtdbbbafiegpbpaaGreatDoor
namespace Go.Proofs.YtdbbbafiegpbpaaGreatDoor
set_option linter.unusedSimpArgs false
set_option linter.unusedVariables false
set_option maxRecDepth 100000
open Go.RowKit
theorem a8h {W:World} {l:List (String×DataW Unit)} (h:laidMetH Tryz.prog l W) (hl:(l.all fun x=>x.2.handleName?.isNone)=true) (n:String) (d:DataW Unit) (hf:l.filter (fun x=>x.1 == n)=[(n,d)]):laidMet Tryz.prog [(n,d)] W:=by
 rw [MakeChecks.laidMetH_plain _ _ _ hl] at h
 have:=laidMet.filter (fun x=>x.1 == n) h
 rwa [hf] at this
theorem b3s {W:World} {n:String} {name:String} {d:DataW Unit} {g:Nat} {t:TypeId} {ms:Array (String×TypeId)} (hg:Tryz.prog.globalNamed n=some g) (hty:(Tryz.prog.globals[g]?).map (·.type)=some t) (ht:Tryz.prog.underlying t=some (.interface ms))
  (h:laidMet Tryz.prog [(n,.iface name d)] W):∃ tp p,W.var? Tryz.prog n=some #[.iface tp p]:=by
 obtain ⟨ps,⟨g',t',cs,fuel,p,q,hg',ht',hvar,hd,_,_⟩,_⟩:=h
 obtain rfl:=Option.some.inj (hg.symm.trans hg')
 obtain rfl:=Option.some.inj (hty.symm.trans ht')
 obtain ⟨f1,u,v,hc,_⟩:=iface_of_trod ht hd
 refine ⟨u,v,?_⟩
 rw [hvar]
 congr 1
 apply Array.ext'
 exact hc
theorem b0v {H:Type} {enc:TypeId×Value→H} {a:Assume} {C:Checked} {os:Os} {f:FuncId} {fn:Func} {s:ChangeSpec} {conds:List PathCond} {apart fresh handsOn again:Bool} {X:World→Array Value→Prop}
  (hX:∀ (w w':World) (args:Array Value),w.heap=w'.heap→X w args→X w' args)
  (own:ownKnob C.prog.godebug=none) (started:os.Started) (noInit:C.prog.inits.idxOf? f=none) (hfn:C.prog.funcs[f]?=some fn)
  (wit:∃ (w:World) (tape:Tape) (i:Input),w.os=os∧(w.forCall tape i).Shaped C.prog∧i.vars=[]∧Input.okWide C.prog (w.forCall tape i) .any w.heap.size f i ∧
   ((s.pre enc C.prog fn conds apart (w.forCall tape i).memory i.args∧X (w.forCall tape i).memory i.args)∧sizedMet enc C.prog fn (OpenSpec.ofChange s) apart (w.forCall tape i).memory i.args)∧a.holds C.prog (lone (Frame.enter C.prog f i.args .normal) [] (w.forCall tape i)))
  (con:∀ (W:World) (base:Nat) (args:Array Value) (ds gs:List (DataW H)) (before:List MemPlace),
   (∀ (j:Nat) t v,fn.params[j]?=some t→args[j]?=some v→Value.okWide C.prog W .any base t v) →
   DataW.Whole enc C.prog fn.params.toList s.vars apart W args.toList ds gs before →
   conds.all (PathCond.test C.prog ⟨fn.params.toList,ds,s.plain.varTypes C.prog,gs⟩)=true→X W args→W.ShapedOpen C.prog →
   Calls C.prog f args W fun e W'=>∃ v,e=.returned v∧s.post enc C.prog fn apart fresh handsOn again W args v W') :
  ReturnsInHanded a C os f .any (fun w args=>(s.pre enc C.prog fn conds apart w args∧X w args)∧sizedMet enc C.prog fn (OpenSpec.ofChange s) apart w args) (s.post enc C.prog fn apart fresh handsOn again):=by
 refine returnsInHanded_of_calls own started noInit wit fun w tape i _ hsh _ hok hpre _=>?_
 obtain ⟨_,_,_,fn',hfn',_,_,_,_,hval⟩:=hok
 obtain rfl:fn'=fn:=Option.some.inj (hfn'.symm.trans hfn)
 obtain ⟨⟨⟨ds,gs,before,hw,hc⟩,hx⟩,_⟩:=hpre
 refine (con (w.forCall tape i) w.heap.size i.args ds gs before hval (DataW.Whole.of_heap (w':=w.forCall tape i) (by rfl) hw) hc (hX _ _ _ (by rfl) hx) hsh).mono fun e W' ⟨v,he,hp⟩=>?_
 subst he
 exact ChangeSpec.post_blind hp
theorem c6G {W:World} (hs:W.ShapedOpen Tryz.prog):∃ m,W.cell? ⟨1,0,none⟩=some (.int .i64 m) :=
 cell_of_shapedOpen_int (zero:=#[.int .i64 0]) (t:=3) (k:=.i64) hs (of_decide_eq_true (by kernel_rfl)) (by kernel_rfl) rfl (by kernel_rfl) (by kernel_rfl) Tryz.underlying3
theorem c5l {W:World} {l:List (String×DataW Unit)} (hs:W.ShapedOpen Tryz.prog) (h:laidMetH Tryz.prog l W) (hl:(l.all fun x=>x.2.handleName?.isNone)=true)
  (h1:l.filter (fun x=>x.1 == "internal/strconv.uint64pow10")=[("internal/strconv.uint64pow10", Rows.laid_internal_strconv_uint64pow10)])
  (h2:l.filter (fun x=>x.1 == "strconv.ErrSyntax")=[("strconv.ErrSyntax", Rows.laid_strconv_ErrSyntax)])
  (h3:l.filter (fun x=>x.1 == "strconv.ErrRange")=[("strconv.ErrRange", Rows.laid_strconv_ErrRange)])
  (h4:l.filter (fun x=>x.1 == "math/bits.deBruijn64tab")=[("math/bits.deBruijn64tab", Rows.laid_math_bits_deBruijn64tab)]):LibW W:=by
 have t:=a8h h hl _ _ h1
 have a:=a8h h hl _ _ h2
 have b:=a8h h hl _ _ h3
 have t4:=a8h h hl _ _ h4
 have t4':Lib.TabIs Tryz.prog W "math/bits.deBruijn64tab" .u8 (Lib.deBruijn64tab.map (fun n:Nat=>(n:Int))) :=
  Lib.tabIs_of_head (zs:=Lib.deBruijn64tab.map (fun n:Nat=>(n:Int))) (k:=.u8) (g:=0) (t:=171) (e:=5) (n:=64) (by kernel_rfl) (by kernel_rfl) Tryz.underlying171 Tryz.underlying5 (by kernel_rfl) (by kernel_rfl) t4
 have t':Lib.TabIs Tryz.prog W "internal/strconv.uint64pow10" .u64 Lib.pow10Tab :=
  Lib.tabIs_of_head (zs:=Lib.pow10Tab) (k:=.u64) (g:=4) (t:=221) (e:=44) (n:=20) (by kernel_rfl) (by kernel_rfl) Tryz.underlying221 Tryz.underlying44 (by kernel_rfl) (by kernel_rfl) t
 have a':=b3s (g:=2) (t:=192) (by kernel_rfl) (by kernel_rfl) Tryz.underlying192 a
 have b':=b3s (g:=3) (t:=192) (by kernel_rfl) (by kernel_rfl) Tryz.underlying192 b
 have lt:∀ {n:String} {g:Nat} {x:Array Value},Tryz.prog.globalNamed n=some g→W.var? Tryz.prog n=some x→g < W.heap.size:=by
  intro n g x hg hv
  unfold World.var? at hv
  rw [hg] at hv
  simp only [Option.bind_some] at hv
  rcases Nat.lt_or_ge g W.heap.size with h | h
  ·exact h
  ·rw [Array.getElem?_eq_none h] at hv;cases hv
 have m':=c6G hs
 refine ⟨fun k hk=>?_,fun _=>t',fun _=>a',fun _=>b',fun g hg=>by
  obtain rfl:=Option.some.inj ((show Tryz.prog.globalNamed "internal/bytealg.MaxLen" = some 1 by kernel_rfl).symm.trans hg)
  exact m',fun _=>t4'⟩
 obtain ⟨n,hn,hg⟩:=hk
 simp only [a3h,List.mem_cons,List.not_mem_nil,or_false] at hn
 rcases hn with rfl | rfl | rfl | rfl | rfl
 ·exact lt hg t'
 ·obtain ⟨_,_,a'⟩:=a';exact lt hg a'
 ·obtain ⟨_,_,b'⟩:=b';exact lt hg b'
 ·obtain rfl:=Option.some.inj ((show Tryz.prog.globalNamed "internal/bytealg.MaxLen" = some 1 by kernel_rfl).symm.trans hg)
  obtain ⟨m,hm⟩:=m'
  exact World.block_lt_of_cell? W _ hm
 ·exact lt hg t4'
theorem c5P {W:World} (hs:W.ShapedOpen Tryz.prog) (h:laidMetH Tryz.prog Rows.dfaStatesRow.laid W):LibW W:=c5l hs h (by kernel_rfl) (by kernel_rfl) (by kernel_rfl) (by kernel_rfl) (by kernel_rfl)
end Go.Proofs.YtdbbbafiegpbpaaGreatDoor
