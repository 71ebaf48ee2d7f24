/-
  The document's count of places.
-/
import Derived.Test.YtdbbbafiegpbpaaGreatDoorNb12
import Derived.Test.YtdbbbafiegpbpaaGreatDoorHq
import Derived.Test.YtdbbbafiegpbpaaGreatDoorEx3
import Derived.Test.YtdbbbafiegpbpaaGreatDoorLexB
namespace Go.Proofs.YtdbbbafiegpbpaaGreatDoor
set_option linter.unusedSimpArgs false
set_option linter.unusedVariables false
set_option maxRecDepth 100000
set_option maxHeartbeats 1000000
open Go.RowKit
@[reducible] def MnC (e:List Pt) (b:Nat) (t:T):Prop:=HPure Tryz.prog 21 [ptsV e,intV ((b+t.size - 1:Nat):Int)] (intV (a3J t.w))
theorem c5Z (n:Nat):(if 257 < a3J n then (257:Int) else a3J n)=a3J n:=by unfold a3J;split <;> split <;> omega
theorem b1x (e:List Pt) (he:e.length≤100000) (b:Nat) (t:T) (hok:t.ok=true) (hat:AtP e b (T.flat b t)) (hkl:t.kidsT.length≤100000)
  (ih:∀ i,i < t.kidsT.length→MnC e (b+T.sizeL (t.kidsT.take i)) (t.kidsT.getD i default)):MnC e b t:=by
 have htop:=a3v hat
 have hps:=t.size_pos
 have hkid:=a6p b t
 have hrl:=a0K t.kidsT b
 generalize htp:t.top b=p at htop hkid
 have hpk:p.kind=t.kind:=by rw [←htp];exact a6D b t
 refine a0k Tryz.func21 rfl kr _ _ _ rfl 54 rfl rfl (fun w F=>?_)
 refine ru 11 ?_
 refine rvl (ptH p) (c0s om htop.1) ?_
 refine ru 12 ?_
 refine wdc (fun hr0 hc0=>?_) (fun hr0 hc0=>?_)
 ·refine ru 7 ?_
  refine rt1 ?_
  rw [c3Q (by rw [←hpk];exact hc0) hok];exact .imm _
 refine ru 14 ?_
 refine a0l (α:=Nat) (fun x c=>⟨54,[(0,.v (ptsV e)),(5,.v (.pt 5 0 0 0)),(6,.v (intV (a3J (T.wL (t.kidsT.take x))))),(7,.v (intV x))],[(5,⟨0,1,5,105,0,fun _=>ptF p⟩)],c⟩) (fun x=>x≤t.kidsT.length) (fun x=>t.kidsT.length - x) (0) om (a0c rfl (Nat.le_refl _) tsa hsa) (fun i c hx NhL1 hL1=>?_)
 (try dsimp only at hx hL1 ⊢)
 have hm1:=b1L (T.wL (t.kidsT.take i))
 refine ru 6 ?_
 refine rvl (a1v p.kids) (rfl) ?_
 refine ru 4 ?_
 refine wdc (fun hr1 hc1=>?_) (fun hr1 hc1=>?_)
 ·skip
  have him:i < t.kidsT.length:=(by have h:=hr1;simp [hkid,hrl] at h;omega);have hka:=a2v hat him;have hkt:=a3v hka;have hks:=(t.kidsT.getD i default).size_pos;have hroot:=a2Y t.kidsT b i him;have hm2:=b1L (t.kidsT.getD i default).w;have hwt:=a6c t.kidsT i him;have hma:=b5y (T.wL (t.kidsT.take i)) (t.kidsT.getD i default).w
  refine ru 9 ?_
  refine rvl (a1v p.kids) (rfl) ?_
  refine ru 3 ?_
  refine rvl (intV ((b+T.sizeL (t.kidsT.take i)+(t.kidsT.getD i default).size - 1:Nat):Int)) (by exact a1O (i:=i) om (by rw [hkid,hroot];unfold T.root;omega)) ?_
  refine cll (ih i him) ?_
  refine ru 2 ?_
  refine rvl (intV (a3J (T.wL (t.kidsT.take (i+1))))) (by rw [hwt,←hma]) ?_
  refine ru 9 ?_
  exact hL1 (i+1) _ _ (by (try dsimp only);omega) (by (try dsimp only);omega) (a0c rfl (Nat.le_refl _) tsa hsa)
 have hit:i=t.kidsT.length:=(by have h:=hr1;simp [hkid,hrl] at h;omega);rw [hit,List.take_length] at hm1 ⊢
 refine ru 2 ?_
 refine a0d ?_
 refine ru 15 ?_
 refine wdc (fun hr2 hc2=>?_) (fun hr2 hc2=>?_)
 ·skip
  have hct:=a8W b (by rw [←hpk];exact hc2.1) hok;rw [htp] at hct;have hmi:=a6G p.low p.high hct.2.1;have hmm:=b0L (T.wL t.kidsT) (a0j p.low p.high) om;have hmx:(if p.low < 1 then 1 else p.low)=((a0j p.low p.high:Nat):Int):=(by rw [←hmi,if_pos hc2.2])
  refine ru 5 ?_
  refine rvl (intV ((a0j p.low p.high:Nat):Int)) (by rw [←hmx]) ?_
  refine ru 12 ?_
  refine rt1 ?_
  rw [hct.1,←hmm.1];exact .imm _
 refine ru 7 ?_
 refine wdc (fun hr3 hc3=>?_) (fun hr3 hc3=>?_)
 ·skip
  have hct:=a8W b (by rw [←hpk];exact hc3) hok;rw [htp] at hct;have hmi:=a6G p.low p.high hct.2.1;have hmm:=b0L (T.wL t.kidsT) (a0j p.low p.high) om;have hmx:p.high=((a0j p.low p.high:Nat):Int):=(by rw [←hmi,if_neg (fun h=>by have h2:=hr2;simp [hc3,h] at h2)])
  refine ru 4 ?_
  refine rvl (intV ((a0j p.low p.high:Nat):Int)) (by exact congrArg intV hmx) ?_
  refine ru 12 ?_
  refine rt1 ?_
  rw [hct.1,←hmm.1];exact .imm _
 have hwm:=a9V (by rw [←hpk];exact hc0) (by rw [←hpk];exact hc3);rw [←hwm] at hm1 ⊢
 refine ru 10 ?_
 refine rt1 ?_
 rw [c5Z];exact .imm _
mutual
theorem a8s (e:List Pt) (he:e.length≤100000):∀ (t:T) (b:Nat),t.ok=true→AtP e b (T.flat b t)→MnC e b t
  | .name s,b,hok,hat=>b1x e he b (.name s) hok hat (Nat.zero_le _) (fun i hi=>absurd hi (Nat.not_lt_zero _))
  | .times lo hi t, b, hok, hat => by
    have hok':t.ok=true:=by simp only [T.ok,Bool.and_eq_true] at hok;exact hok.2
    refine b1x e he b (.times lo hi t) hok hat (by simp [T.kidsT]) (fun i hi=>?_)
    obtain rfl:i=0:=by simpa [T.kidsT] using hi
    have:=a8s e he t b hok' (by simp only [T.flat] at hat;exact a4A hat)
    simpa [T.kidsT,T.sizeL] using this
  | .many k ts, b, hok, hat => by
    have hok':T.okL ts=true:=by simp only [T.ok,Bool.and_eq_true] at hok;exact hok.2
    have hkl:(T.many k ts).kidsT.length≤100000:=by
      have:=a6R (t:=.many k ts);have:=(a3v hat).2;omega
    exact b1x e he b (.many k ts) hok hat hkl (fun i hi=>b8u e he ts hok' i hi _ (a2v hat hi))
theorem b8u (e:List Pt) (he:e.length≤100000):∀ ts:List T,T.okL ts=true→∀ i,i < ts.length→∀ b,AtP e b (T.flat b (ts.getD i default))→MnC e b (ts.getD i default)
  | [],_,i,hi=>absurd hi (Nat.not_lt_zero _)
  | t :: ts, hok, i, hi => fun b hat => by
    simp only [T.okL,Bool.and_eq_true] at hok
    cases i with
    | zero=>exact a8s e he t b hok.1 hat
    | succ i=>exact b8u e he ts hok.2 i (by simpa using hi) b (by simpa using hat)
end
section
variable {ov:Nat→Option HV} {g:Nat} {d:Option Tmp} {ty:TypeId} {pos:String} {af:Array Edge} {gd:Option (Nat×Bool)} {T yT:TypeId} {x y:Operand}
end
theorem c2F (wd:Nat) (on:List Bag) (β:Nat→Bag) (p:Pc):HPure Tryz.prog 32 [netP wd on β p] (bagH p.first):=by
 refine a0k Tryz.func32 rfl kr _ _ _ rfl 10 rfl rfl (fun w F=>?_)
 refine ru 12 ?_
 refine wdc (fun hr0 hc0=>?_) (fun hr0 hc0=>?_)
 ·skip
  exfalso;simp at hr0
 refine ru 12 ?_
 refine rt1 ?_
 exact a2r (by exact j4 rfl rfl rfl rfl)
theorem c5f (wd:Nat) (on:List Bag) (β:Nat→Bag) (p:Pc):HPure Tryz.prog 92 [netP wd on β p] (bagH p.ends):=by
 refine a0k Tryz.func92 rfl kr _ _ _ rfl 10 rfl rfl (fun w F=>?_)
 refine ru 12 ?_
 refine wdc (fun hr0 hc0=>?_) (fun hr0 hc0=>?_)
 ·skip
  exfalso;simp at hr0
 refine ru 12 ?_
 refine rt1 ?_
 exact a2r (by exact j4 rfl rfl rfl rfl)
theorem c8i (wd:Nat) (γ:Nat→Bag) (i:Int) (hw:wd≤1000):HPure Tryz.prog 63 [.sl 4 wd (c0a γ),intV i] (bagH (if 0≤i∧i < (wd:Int) then γ i.toNat else Bag.zero)):=by
 refine a0k Tryz.func63 rfl kr _ _ _ rfl 18 rfl rfl (fun w F=>?_)
 refine ru 18 ?_
 refine wdc (fun hr0 hc0=>?_) (fun hr0 hc0=>?_)
 ·refine ru 8 ?_
  refine rt1 ?_
  rw [if_neg om];exact a2r (by exact j4 rfl rfl rfl rfl)
 have hin:0≤i∧i < (wd:Int):=(by simp at hr0;omega)
 refine ru 12 ?_
 refine rt1 ?_
 rw [if_pos hin];exact a2r (by exact j4 rfl rfl rfl rfl)
theorem b8p (wd:Nat) (on:List Bag) (β:Nat→Bag) (p:Pc) (i:Int) (hw:wd≤1000):HPure Tryz.prog 35 [netP wd on β p,intV i] (bagH (if 0≤i∧i < (wd:Int) then β i.toNat else Bag.zero)):=by
 refine a0k Tryz.func35 rfl kr _ _ _ rfl 14 rfl rfl (fun w F=>?_)
 refine ru 12 ?_
 refine wdc (fun hr0 hc0=>?_) (fun hr0 hc0=>?_)
 ·skip
  exfalso;simp at hr0
 refine ru 8 ?_
 refine rvl ((HV.sl 4 wd (c0a β))) (rfl) ?_
 refine ru 1 ?_
 refine s0 (a0f (xs:=[_,_]) (c8i wd β i hw) ⟨rfl,⟨rfl,trivial⟩⟩ ⟨(.sl _ _ _ _ fun _ _ _ _=>.imm _),⟨fe,trivial⟩⟩) ?_
 refine ru 4 ?_
 refine rt1 ?_
 exact a2r (by exact j4 rfl rfl rfl rfl)
theorem c9x (wd:Nat) (on:List Bag) (β:Nat→Bag) (p:Pc) (i:Int) (hw:wd≤1000):HPure Tryz.prog 57 [netP wd on β p,intV i] (bagH (if 0≤i∧i < (wd:Int) then onF on i.toNat else Bag.zero)):=by
 refine a0k Tryz.func57 rfl kr _ _ _ rfl 14 rfl rfl (fun w F=>?_)
 refine ru 12 ?_
 refine wdc (fun hr0 hc0=>?_) (fun hr0 hc0=>?_)
 ·skip
  exfalso;simp at hr0
 refine ru 8 ?_
 refine rvl ((HV.sl 4 wd (c0a (onF on)))) (rfl) ?_
 refine ru 1 ?_
 refine s0 (a0f (xs:=[_,_]) (c8i wd (onF on) i hw) ⟨rfl,⟨rfl,trivial⟩⟩ ⟨(.sl _ _ _ _ fun _ _ _ _=>.imm _),⟨fe,trivial⟩⟩) ?_
 refine ru 4 ?_
 refine rt1 ?_
 exact a2r (by exact j4 rfl rfl rfl rfl)
theorem c2w {s:List UInt8} (h:nameV s=true):s≠[]:=by rintro rfl;revert h;decide +kernel
instance (w:Nat) (on:List Bag) (β:Nat→Bag) (p:Pc) (j:Nat):Frz (c9H w on β p j):=⟨by unfold c9H;split <;> first | exact .imm _ | exact .sl _ _ _ _ fun _ _ _ _=>.imm _⟩
end Go.Proofs.YtdbbbafiegpbpaaGreatDoor
namespace Go.Proofs.YtdbbbafiegpbpaaGreatDoor
set_option linter.unusedSimpArgs false
set_option linter.unusedVariables false
set_option maxRecDepth 10000
def mrg:List Int→List Int→List Int
 | [],b=>b
 | x::a,[]=>x::a
 | x::a,y::b=>if x < y then x::mrg a (y::b) else if x=y then y::mrg a b else y::mrg (x::a) b
termination_by a b=>a.length+b.length
theorem b1u (a:List Int):mrg a []=a:=by cases a <;> simp [mrg]
theorem b0Q (b:List Int):mrg [] b=b:=by simp [mrg]
theorem c8P {x:Int} {a g:List Int} (h:∀ y∈g,x < y):mrg (x::a) g=x::mrg a g:=by
 cases g with
 | nil=>rw [b1u,b1u]
 | cons y b=>rw [mrg,if_pos (h y (List.mem_cons_self ..))]
theorem c7T {y:Int} {f b:List Int} (h:∀ x∈f,y < x):mrg f (y::b)=y::mrg f b:=by
 cases f with
 | nil=>rw [b0Q,b0Q]
 | cons x a=>have:=h x (List.mem_cons_self ..);rw [mrg,if_neg (by omega),if_neg (by omega)]
theorem c3h {y:Int} {a b:List Int}:mrg (y::a) (y::b)=y::mrg a b:=by
 rw [mrg,if_neg (by omega),if_pos rfl]
theorem a9Y (p q:Nat→Bool):∀ l:List Nat,l.Pairwise (· < ·) →
    mrg ((l.filter p).map fun j:Nat=>(j:Int)) ((l.filter q).map fun j:Nat=>(j:Int))=(l.filter fun j=>p j||q j).map fun j:Nat=>(j:Int)
  | [],_=>by simp [mrg]
  | a :: l, h => by
    have hl:=List.pairwise_cons.1 h
    have ih:=a9Y p q l hl.2
    have hgt:∀ r:Nat→Bool,∀ y∈(l.filter r).map (fun j:Nat=>(j:Int)),(a:Int) < y:=fun r y hy=>by
      obtain ⟨j,hj,rfl⟩:=List.mem_map.1 hy
      have:=hl.1 j (List.mem_filter.1 hj).1
      omega
    by_cases hp:p a=true <;> by_cases hq:q a=true
    · rw [List.filter_cons_of_pos hp,List.filter_cons_of_pos hq,List.filter_cons_of_pos (by simp [hp])]
      simp only [List.map_cons];rw [c3h,ih]
    · rw [List.filter_cons_of_pos hp,List.filter_cons_of_neg hq,List.filter_cons_of_pos (by simp [hp])]
      simp only [List.map_cons];rw [c8P (hgt q),ih]
    · rw [List.filter_cons_of_neg hp,List.filter_cons_of_pos hq,List.filter_cons_of_pos (by simp [hq])]
      simp only [List.map_cons];rw [c7T (hgt p),ih]
    · rw [List.filter_cons_of_neg hp,List.filter_cons_of_neg hq,List.filter_cons_of_neg (by simp [hp,hq]),ih]
theorem c6r (x y:Bag):mrg x.list y.list=(bun x y).list:=by
 rw [x.list_eq,y.list_eq,(bun x y).list_eq]
 have:=a9Y x.has y.has (List.range 256) List.pairwise_lt_range
 rw [this]
 congr 1
 apply List.filter_congr
 intro j _
 rw [b0w]
def lkP (hi:Int) (g:Nat→Ly) (many:Nat):Nat→List Lk
 | 0=>[]
 | k+1=>lkP hi g many k++(g k).lk++(if hi < 0∧k+1=many then [((g k).pc.ends,(g k).pc.first)] else [])
def b3v (g:Nat→Ly):Nat→Pc
 | 0=>Pc.nil
 | k+1=>(b3v g k).join (g k).pc
def lkJ (g:Nat→Ly):Nat→List Lk
 | 0=>[]
 | k+1=>lkJ g k++[((b3v g k).ends,(g k).pc.first)]
def onP (g:Nat→Ly):Nat→List Bag
 | 0=>[]
 | k+1=>onP g k++(g k).on
def a3Z (lo:Nat) (g:Nat→Ly):Nat→List Pc
 | 0=>[]
 | k+1=>if k < lo then a3Z lo g k else a3Z lo g k++[(g k).pc]
theorem b0G {lo hi:Int} (hlo:0≤lo) (g:Nat→Ly) (many:Nat):∀ k,(a3U lo hi g many k).1=onP g k∧(a3U lo hi g many k).2.1.Perm (lkP hi g many k++lkJ g (min k lo.toNat))∧(a3U lo hi g many k).2.2.1=b3v g (min k lo.toNat)∧(a3U lo hi g many k).2.2.2=a3Z lo.toNat g k
  | 0=>by simp [a3U,onP,lkP,lkJ,b3v,a3Z]
  | k + 1 => by
    obtain ⟨h1,h2,h3,h4⟩:=b0G hlo g many k
    have hperm:((a3U lo hi g many k).2.1++(g k).lk++(if hi < 0∧k+1=many then [((g k).pc.ends,(g k).pc.first)] else [])).Perm (lkP hi g many (k+1)++lkJ g (min k lo.toNat)):=by
      show List.Perm _ (lkP hi g many k++(g k).lk++_++lkJ g (min k lo.toNat))
      rw [List.append_assoc,List.append_assoc (lkP hi g many k),List.append_assoc (lkP hi g many k)]
      refine (List.Perm.append_right _ h2).trans ?_
      rw [List.append_assoc]
      exact List.Perm.append_left _ List.perm_append_comm
    by_cases hk:(k:Int) < lo
    · have e1:min k lo.toNat=k:=by omega
      have e2:min (k+1) lo.toNat=k+1:=by omega
      rw [e1] at hperm h3
      simp only [a3U]
      rw [if_pos hk,e2,h1,h4]
      refine ⟨rfl,?_,?_,?_⟩
      · simp only [lkJ,h3]
        rw [←List.append_assoc]
        exact List.Perm.append_right _ hperm
      · simp only [h3];rfl
      · simp only [a3Z];rw [if_pos (by omega)]
    · have e:min k lo.toNat=min (k+1) lo.toNat:=by omega
      rw [e] at hperm h3
      simp only [a3U]
      rw [if_neg hk]
      refine ⟨by simp only [h1];rfl,hperm,h3,?_⟩
      simp only [h4,a3Z];rw [if_neg (by omega)]
theorem a5k (lo:Nat) (g:Nat→Ly):∀ k,(a3Z lo g k).length=k - lo
  | 0=>by simp [a3Z]
  | k + 1 => by
    have:=a5k lo g k
    simp only [a3Z]
    split
    · omega
    · rw [List.length_append,List.length_singleton];omega
theorem a8x (lo:Nat) (g:Nat→Ly):∀ k j,j < k - lo→(a3Z lo g k).getD j default=(g (lo+j)).pc
  | 0,j,h=>by omega
  | k + 1, j, h => by
    have hl:=a5k lo g k
    simp only [a3Z]
    split
    · exact a8x lo g k j (by omega)
    · by_cases hj:j < k - lo
      · rw [List.getD_eq_getElem?_getD,List.getElem?_append_left (by omega),←List.getD_eq_getElem?_getD]
        exact a8x lo g k j hj
      · rw [List.getD_eq_getElem?_getD,List.getElem?_append_right (by omega)]
        have e:j - (a3Z lo g k).length=0:=by omega
        rw [e]
        simp only [List.getElem?_cons_zero,Option.getD_some]
        congr 2;omega
theorem b5e {lo hi:Int} (hlo:0≤lo) (g:Nat→Ly) (β:Nat→Bag) :
  (a7a lo hi g).on=onP g (a0j lo hi) ∧
  links (links (links (links β (lkP hi g (a0j lo hi) (a0j lo hi))) (lkJ g (min (a0j lo hi) lo.toNat))) (a1Y (a3Z lo.toNat g (a0j lo hi))).1) [((b3v g (min (a0j lo hi) lo.toNat)).ends,(a1Y (a3Z lo.toNat g (a0j lo hi))).2.first)]=links β (a7a lo hi g).lk ∧
  (a7a lo hi g).pc=(b3v g (min (a0j lo hi) lo.toNat)).join (a1Y (a3Z lo.toNat g (a0j lo hi))).2:=by
 obtain ⟨h1,h2,h3,h4⟩:=b0G (hi:=hi) hlo g (a0j lo hi) (a0j lo hi)
 refine ⟨h1,?_,?_⟩
 ·rw [←a0M,←a0M,←a0M,←List.append_assoc,←List.append_assoc]
  refine b7B ?_ β
  simp only [a7a,h4,h3]
  exact List.Perm.append_right _ (List.Perm.append_right _ h2.symm)
 ·simp only [a7a,h3,h4]
theorem c8G {k many w:Nat} (h:k < many):k * w+w≤many * w:=by rw [←Nat.succ_mul];exact Nat.mul_le_mul_right w h
theorem b3C {g:Nat→Ly} {many N w:Nat} (hg:∀ k,k < many→(g k).Ok (N+k * w) w):∀ k,k≤many→(onP g k).length=k * w
  | 0,_=>by simp [onP]
  | k + 1, h => by
    simp only [onP]
    rw [List.length_append,b3C hg k (by omega),(hg k (by omega)).len,Nat.succ_mul]
theorem b8n {hi:Int} {g:Nat→Ly} {many N w:Nat} (hg:∀ k,k < many→(g k).Ok (N+k * w) w):∀ k,k≤many→Lks (N+k * w) (lkP hi g many k)
  | 0,_=>fun q hq=>by simp [lkP] at hq
  | k + 1, h => by
    have ih:=b8n (hi:=hi) hg k (by omega)
    have hx:=hg k (by omega)
    have e:N+k * w+w=N+(k+1) * w:=by rw [Nat.succ_mul];omega
    simp only [lkP]
    refine ((ih.mono (by omega)).app (by rw [←e];exact hx.lk)).app ?_
    split
    · rw [←e];exact a5o hx.pc.2 hx.pc.1 hx.inB.2
    · exact fun q hq=>by cases hq
theorem b4Y {g:Nat→Ly} {many N w:Nat} (hg:∀ k,k < many→(g k).Ok (N+k * w) w):∀ k,k≤many→(b3v g k).ok∧(b3v g k).inB N (N+k * w)
  | 0,_=>⟨Pc.nil_ok,Pc.inB_nil _ _⟩
  | k + 1, h => by
    obtain ⟨h1,h2⟩:=b4Y hg k (by omega)
    have hx:=hg k (by omega)
    have e:N+k * w+w=N+(k+1) * w:=by rw [Nat.succ_mul];omega
    exact ⟨Pc.join_ok h1 hx.pc,Pc.inB_join (h2.mono (Nat.le_refl _) (by omega)) (hx.inB.mono (by omega) (by omega))⟩
theorem c4n {g:Nat→Ly} {many N w:Nat} (hg:∀ k,k < many→(g k).Ok (N+k * w) w):∀ k,k≤many→Lks (N+k * w) (lkJ g k)
  | 0,_=>fun q hq=>by simp [lkJ] at hq
  | k + 1, h => by
    have ih:=c4n hg k (by omega)
    obtain ⟨h1,h2⟩:=b4Y hg k (by omega)
    have hx:=hg k (by omega)
    have e:N+k * w+w=N+(k+1) * w:=by rw [Nat.succ_mul];omega
    simp only [lkJ]
    exact (ih.mono (by omega)).app (a5o h1.2 hx.pc.1 (h2.2.mono (Nat.le_refl _) (by omega)))
theorem b5A {lo:Nat} {g:Nat→Ly} {many N w:Nat} (hg:∀ k,k < many→(g k).Ok (N+k * w) w):∀ k,k≤many→∀ p∈a3Z lo g k,p.ok∧p.inB N (N+k * w)
  | 0,_=>fun p hp=>by simp [a3Z] at hp
  | k + 1, h => fun p hp => by
    have ih:=b5A (lo:=lo) hg k (by omega)
    have hx:=hg k (by omega)
    have e:N+k * w+w=N+(k+1) * w:=by rw [Nat.succ_mul];omega
    simp only [a3Z] at hp
    split at hp
    · exact ⟨(ih p hp).1,(ih p hp).2.mono (Nat.le_refl _) (by omega)⟩
    · rcases List.mem_append.1 hp with hp | hp
      · exact ⟨(ih p hp).1,(ih p hp).2.mono (Nat.le_refl _) (by omega)⟩
      · rw [List.mem_singleton] at hp;subst hp;exact ⟨hx.pc,hx.inB.mono (by omega) (by omega)⟩
def a8Z (g:Nat→Ly):Nat→List Pc
 | 0=>[]
 | k+1=>a8Z g k++[(g k).pc]
theorem b0s (g:Nat→Ly):∀ k,(a8Z g k).length=k
 | 0=>rfl
 | k+1=>by simp [a8Z,b0s g k]
theorem b1p (g:Nat→Ly):∀ k j,j < k→(a8Z g k).getD j default=(g j).pc
  | 0,j,h=>by omega
  | k + 1, j, h => by
    have hl:=b0s g k
    simp only [a8Z]
    by_cases hj:j < k
    · rw [List.getD_eq_getElem?_getD,List.getElem?_append_left (by omega),←List.getD_eq_getElem?_getD]
      exact b1p g k j hj
    · obtain rfl:j=k:=by omega
      rw [List.getD_eq_getElem?_getD,List.getElem?_append_right (by omega),hl,Nat.sub_self]
      rfl
theorem c2Z (a b:Pc):a.join b=⟨if a.empty then bun a.first b.first else a.first,if b.empty then bun a.ends b.ends else b.ends,a.empty&&b.empty⟩:=by
 unfold Pc.join;rw [b5W b.ends a.ends]
end Go.Proofs.YtdbbbafiegpbpaaGreatDoor
namespace Go.Proofs.YtdbbbafiegpbpaaGreatDoor
set_option linter.unusedSimpArgs false
set_option linter.unusedVariables false
open Go.RowKit
set_option maxHeartbeats 400000 in
theorem b7C (A1 A2:Option Addr) (n1 n2 c1 c2 B1 B2:Nat) (l1 l2:List Int) (w:World) (hn1:l1.length=n1) (hn2:l2.length=n2) (h1:Sl w B1 1 a7p A1 l1) (h2:Sl w B2 1 a7p A2 l2) (hb1:n1≤1000000000) (hb2:n2≤1000000000) :
  Calls Tryz.prog 16 #[.slice A1 n1 c1,.slice A2 n2 c2] w fun e w'=>e=.returned (.bool (decide (l1=l2)))∧∃ n,w'=w.drewN n:=by
 subst hn1;subst hn2
 by_cases hl:l1.length=l2.length
 ·have hne:((l1.length:Int) != (l2.length:Int))=false:=by simp [hl]
  have HL:=Lib.hid hl;clear hl
  go_enter Tryz.func16,Tryz.ntmps16
  go_wp2
  go_loopw [5] (fun i wr=>∃ k n:Nat,k≤l1.length∧i=.int .i64 k∧wr=w.drewN n∧Hid (∀ j (a:j < l1.length) (b:j < l2.length),j < k→l1[j]=l2[j])) (fun i _=>l1.length - (intOf i).toNat)
  case atStart=>exact ⟨0,0,Nat.zero_le _,rfl,rfl,fun j a b h=>absurd h (by omega)⟩
  case round =>
   obtain ⟨k,n,hk,rfl,rfl,HE⟩:=hrel
   by_cases hlt:k < l1.length
   ·have hlt2:k < l2.length:=by have:=HL.out;omega
    obtain ⟨b1,o1,rfl,_⟩:=h1.addr (by omega) (by omega)
    obtain ⟨b2,o2,rfl,_⟩:=h2.addr (by omega) (by omega)
    have r1:w.cell? ⟨b1,o1+k,none⟩=some (.int .i64 l1[k]):=h1.cell1 hlt
    have r2:w.cell? ⟨b2,o2+k,none⟩=some (.int .i64 l2[k]):=h2.cell1 hlt2
    by_cases he:l1[k]=l2[k]
    ·have hd:(l1[k] != l2[k])=false:=by simp [he]
     have HE':=Lib.hid he;clear he
     go_wp2
     go_quiet (fail)
     go_wp2
     go_roundw
     case rel =>
      refine ⟨k+1,_,by omega,by go_num,rfl,fun j a b hj=>?_⟩
      rcases Nat.lt_or_ge j k with h | h
      ·exact HE.out j a b h
      ·obtain rfl:j=k:=by omega
       exact HE'.out
     case measure=>simp [intOf];omega
    ·have hd:(l1[k] != l2[k])=true:=by simp [he]
     have hne2:decide (l1=l2)=false:=by
      simp only [decide_eq_false_iff_not]
      intro e;subst e;exact he rfl
     clear he
     go_wp2
     go_quiet (fail)
     go_wp2
     go_ret
     exact ⟨a5B hne2.symm,n+nq,by rw [World.drewN_drewN]⟩
   ·have he2:decide (l1=l2)=true:=by
     simp only [decide_eq_true_eq]
     exact List.ext_getElem HL.out fun j a b=>HE.out j a b (by omega)
    go_wp2
    go_ret
    exact ⟨a5B he2.symm,_,rfl⟩
 ·have hne:((l1.length:Int) != (l2.length:Int))=true:=by simp;omega
  have he2:decide (l1=l2)=false:=by
   simp only [decide_eq_false_iff_not]
   intro e;exact hl (by rw [e])
  clear hl
  go_enter Tryz.func16,Tryz.ntmps16
  go_wp2
  go_ret
  exact ⟨a5B he2.symm,0,rfl⟩
set_option maxRecDepth 100000
set_option maxHeartbeats 1000000
theorem a9i (x:Int) (j:Nat) (hj:j < 1):intV x=.imm ((a7p x).getD j undef):=by obtain rfl:j=0:=(by omega);rfl
theorem c2A (l:List Int) (hl:l.length≤1000000):HPure Tryz.prog 69 [a0n l] (a0n (a2Q l).list):=by
 refine ⟨⟨_,_,Tryz.func69,rfl,by kernel_rfl⟩,fun w F vs hF hr hw=>?_⟩
 obtain ⟨v,rfl,hv⟩:=c8Y hr
 obtain ⟨A,c,rfl,hc,hm,hs⟩:=b8s 1 a7p (fun _=>rfl) (fun x _=>intV x) (fun x j hj=>a9i x j hj) 0 l hv
 refine (b6R A l.length c w.heap.size l w rfl hs (Nat.le_refl _) hl).mono ?_
 intro e w' hg
 rw [←b4A]
 exact b6Z hF (fun x _=>intV x) a9i b9g 0 hg
theorem c0B (l:List Int) (hl:l.length≤1000000) (x:Int):HPure Tryz.prog 71 [a0n l,intV x] (boolV (decide (x∈l))):=by
 refine ⟨⟨_,_,Tryz.func71,rfl,by kernel_rfl⟩,fun w F vs hF hr hw=>?_⟩
 obtain ⟨u,v,rfl,hu,hv⟩:=c6P hr
 obtain ⟨A,c,rfl,hc,hm,hs⟩:=b8s 1 a7p (fun _=>rfl) (fun x _=>intV x) (fun x j hj=>a9i x j hj) 0 l hu
 rw [hv.imm_inv]
 refine (b2g A l.length c w.heap.size l x w rfl hs hl).mono ?_
 rintro e w' ⟨rfl,rfl⟩
 exact a8c hF (Below.refl _ _)
theorem c2i (a b:List Int) (ha:a.length≤1000000) (hb:b.length≤1000000):HPure Tryz.prog 16 [a0n a,a0n b] (boolV (decide (a=b))):=by
 refine ⟨⟨_,_,Tryz.func16,rfl,by kernel_rfl⟩,fun w F vs hF hr hw=>?_⟩
 obtain ⟨u,v,rfl,hu,hv⟩:=c6P hr
 obtain ⟨A,c,rfl,hc,hm,hs⟩:=b8s 1 a7p (fun _=>rfl) (fun x _=>intV x) (fun x j hj=>a9i x j hj) 0 a hu
 obtain ⟨A',c',rfl,hc',hm',hs'⟩:=b8s 1 a7p (fun _=>rfl) (fun x _=>intV x) (fun x j hj=>a9i x j hj) 0 b hv
 refine (b7C A A' a.length b.length c c' w.heap.size w.heap.size a b w rfl rfl hs hs' (by omega) (by omega)).mono ?_
 rintro e w' ⟨rfl,n,rfl⟩
 exact a8c hF b4u
theorem b0h {l:List Int} {i:Nat} (h:i < l.length):l.drop i=l.getD i 0::l.drop (i+1):=by
 rw [List.drop_eq_getElem_cons h,List.getD_eq_getElem?_getD,List.getElem?_eq_getElem h];rfl
theorem b1v:∀ a b:List Int,(mrg a b).length≤a.length+b.length
  | [],b=>by simp [mrg]
  | x::a,[]=>by simp [mrg]
  | x :: a, y :: b => by
    rw [mrg]
    have h1:=b1v a (y::b)
    have h2:=b1v a b
    have h3:=b1v (x::a) b
    simp only [List.length_cons] at h1 h2 h3 ⊢
    split
    · simp only [List.length_cons];omega
    · split <;> simp only [List.length_cons] <;> omega
termination_by a b=>a.length+b.length
theorem c9v {A B:List Int} {i k:Nat} (hi:i < A.length) (h:k=B.length∨(k < B.length∧A.getD i 0 < B.getD k 0)):mrg (A.drop i) (B.drop k)=A.getD i 0::mrg (A.drop (i+1)) (B.drop k):=by
 rw [b0h hi]
 rcases h with h | ⟨h,h2⟩
 ·rw [List.drop_eq_nil_of_le (by omega:B.length≤k),b1u,b1u]
 ·rw [b0h h,mrg,if_pos h2]
theorem c9b {A B:List Int} {i k:Nat} (hi:i < A.length) (hk:k < B.length) (h:A.getD i 0=B.getD k 0):mrg (A.drop i) (B.drop k)=B.getD k 0::mrg (A.drop (i+1)) (B.drop (k+1)):=by
 rw [b0h hi,b0h hk,h,c3h]
theorem c9z {A B:List Int} {i k:Nat} (hk:k < B.length) (h:i=A.length∨(i < A.length∧B.getD k 0 < A.getD i 0)):mrg (A.drop i) (B.drop k)=B.getD k 0::mrg (A.drop i) (B.drop (k+1)):=by
 rw [b0h hk]
 rcases h with h | ⟨h,h2⟩
 ·rw [List.drop_eq_nil_of_le (by omega:A.length≤i),b0Q,b0Q]
 ·rw [b0h h,mrg,if_neg (by omega),if_neg (by omega)]
@[reducible] def iO (g:Nat) (l:List Int):HObj:=⟨g,l.length,1,3,0,a4W l⟩
theorem c0Z (A B:List Int) (hA:A.length≤1000000) (hB:B.length≤1000000):HPure Tryz.prog 72 [a0n A,a0n B] (a0n (mrg A B)):=by
 have hml:=b1v A B
 refine a0k Tryz.func72 rfl kr _ _ _ rfl 75 rfl rfl (fun w F=>?_)
 refine ru 22 ?_
 refine a5i 5 9005 1 3 ((a4W [])) rfl (by decide) rfl (c':=1) rfl ?_
 refine a0l (α:=Nat×Nat×List Int×Nat) (fun x c=>⟨75,[(0,.v (a0n A)),(1,.v (a0n B)),(5,.v (.os 9005 x.2.2.2 0 x.2.2.1.length)),(6,.v (intV x.1)),(7,.v (intV x.2.1))],[(9005,iO x.2.2.2 x.2.2.1)],c⟩) (fun x=>x.1≤A.length∧x.2.1≤B.length∧x.2.2.1++mrg (A.drop x.1) (B.drop x.2.1)=mrg A B) (fun x=>A.length+B.length - x.1 - x.2.1) ((0,0,[],0)) (by exact ⟨Nat.zero_le _,Nat.zero_le _,rfl⟩) (a0c rfl (Nat.le_refl _) tsa hsa) (fun x c hx NhL1 hL1=>?_)
 revert hx hL1;obtain ⟨i,k,out,gr⟩:=x;intro hx hL1;dsimp only at hx hL1 ⊢
 obtain ⟨hi,hk,hm⟩:=hx
 have hol:out.length≤2000000:=(by have:=congrArg List.length hm;rw [List.length_append] at this;omega)
 refine ru 15 ?_
 refine wdc (fun hr0 hc0=>?_) (fun hr0 hc0=>?_)
 ·refine ru 16 ?_
  refine a7C 28 9 27 22 false true _ _ (fun hb hb2=>a3M rfl) rfl rfl rfl rfl rfl a0g rfl (k':=11) rfl ?_
  refine a7C 29 9 27 22 false true _ _ (fun hb hb2=>a3M rfl) rfl rfl rfl rfl rfl a0g rfl (k':=12) rfl ?_
  first
  | refine a7C 30 9 27 22 false true _ _ (fun hb hb2=>a6t el_49.h rfl rfl (by first | exact Nat.le_of_ble_eq_true rfl | (simp at hb;omega) | (simp at hb2;omega) | (simp at hb hb2;first | omega | (dsimp only;omega) | (simp <;> omega)) | omega | (dsimp only;omega)) (by first | exact Nat.le_of_ble_eq_true rfl | (simp at hb;omega) | (simp at hb2;omega) | (simp at hb hb2;first | omega | (dsimp only;omega) | (simp <;> omega)) | omega | (dsimp only;omega)) (by first | exact Nat.le_of_ble_eq_true rfl | (simp at hb;omega) | (simp at hb2;omega) | (simp at hb hb2;first | omega | (dsimp only;omega) | (simp <;> omega)) | omega | (dsimp only;omega))) rfl rfl rfl rfl rfl a0g rfl (k':=13) rfl ?_
  | refine a7C 30 9 27 22 false true _ _ (fun hb hb2=>a4l el_49.h rfl rfl (by first | exact Nat.le_of_ble_eq_true rfl | (simp at hb;omega) | (simp at hb2;omega) | (simp at hb hb2;first | omega | (dsimp only;omega) | (simp <;> omega)) | omega | (dsimp only;omega)) (by first | exact Nat.le_of_ble_eq_true rfl | (simp at hb;omega) | (simp at hb2;omega) | (simp at hb hb2;first | omega | (dsimp only;omega) | (simp <;> omega)) | omega | (dsimp only;omega))) rfl rfl rfl rfl rfl (a0P rfl) rfl (k':=13) rfl ?_
  first
  | refine a7C 31 9 27 22 false true _ _ (fun hb hb2=>a0D ty_3.h rfl (by first | exact Nat.le_of_ble_eq_true rfl | (simp at hb;omega) | (simp at hb2;omega) | (simp at hb hb2;first | omega | (dsimp only;omega) | (simp <;> omega)) | omega | (dsimp only;omega)) (by first | exact Nat.le_of_ble_eq_true rfl | (simp at hb;omega) | (simp at hb2;omega) | (simp at hb hb2;first | omega | (dsimp only;omega) | (simp <;> omega)) | omega | (dsimp only;omega)) (fun h=>(by first | rfl | cases h))) rfl rfl rfl rfl rfl (a0P rfl) rfl (k':=14) rfl ?_
  | refine a7C 31 9 27 22 false true _ _ (fun hb hb2=>a0r ty_3.h rfl (by first | exact Nat.le_of_ble_eq_true rfl | (simp at hb;omega) | (simp at hb2;omega) | (simp at hb hb2;first | omega | (dsimp only;omega) | (simp <;> omega)) | omega | (dsimp only;omega)) (fun h=>(by first | rfl | cases h))) rfl rfl rfl rfl rfl a0g rfl (k':=14) rfl ?_
  refine a7C 32 9 27 22 false true _ _ (fun hb hb2=>a3M rfl) rfl rfl rfl rfl rfl a0g rfl (k':=15) rfl ?_
  refine a7C 33 9 27 22 false true _ _ (fun hb hb2=>a3M rfl) rfl rfl rfl rfl rfl a0g rfl (k':=16) rfl ?_
  first
  | refine a7C 34 9 27 22 false true _ _ (fun hb hb2=>a6t el_49.h rfl rfl (by first | exact Nat.le_of_ble_eq_true rfl | (simp at hb;omega) | (simp at hb2;omega) | (simp at hb hb2;first | omega | (dsimp only;omega) | (simp <;> omega)) | omega | (dsimp only;omega)) (by first | exact Nat.le_of_ble_eq_true rfl | (simp at hb;omega) | (simp at hb2;omega) | (simp at hb hb2;first | omega | (dsimp only;omega) | (simp <;> omega)) | omega | (dsimp only;omega)) (by first | exact Nat.le_of_ble_eq_true rfl | (simp at hb;omega) | (simp at hb2;omega) | (simp at hb hb2;first | omega | (dsimp only;omega) | (simp <;> omega)) | omega | (dsimp only;omega))) rfl rfl rfl rfl rfl a0g rfl (k':=17) rfl ?_
  | refine a7C 34 9 27 22 false true _ _ (fun hb hb2=>a4l el_49.h rfl rfl (by first | exact Nat.le_of_ble_eq_true rfl | (simp at hb;omega) | (simp at hb2;omega) | (simp at hb hb2;first | omega | (dsimp only;omega) | (simp <;> omega)) | omega | (dsimp only;omega)) (by first | exact Nat.le_of_ble_eq_true rfl | (simp at hb;omega) | (simp at hb2;omega) | (simp at hb hb2;first | omega | (dsimp only;omega) | (simp <;> omega)) | omega | (dsimp only;omega))) rfl rfl rfl rfl rfl (a0P rfl) rfl (k':=17) rfl ?_
  first
  | refine a7C 35 9 27 22 false true _ _ (fun hb hb2=>a0D ty_3.h rfl (by first | exact Nat.le_of_ble_eq_true rfl | (simp at hb;omega) | (simp at hb2;omega) | (simp at hb hb2;first | omega | (dsimp only;omega) | (simp <;> omega)) | omega | (dsimp only;omega)) (by first | exact Nat.le_of_ble_eq_true rfl | (simp at hb;omega) | (simp at hb2;omega) | (simp at hb hb2;first | omega | (dsimp only;omega) | (simp <;> omega)) | omega | (dsimp only;omega)) (fun h=>(by first | rfl | cases h))) rfl rfl rfl rfl rfl (a0P rfl) rfl (k':=18) rfl ?_
  | refine a7C 35 9 27 22 false true _ _ (fun hb hb2=>a0r ty_3.h rfl (by first | exact Nat.le_of_ble_eq_true rfl | (simp at hb;omega) | (simp at hb2;omega) | (simp at hb hb2;first | omega | (dsimp only;omega) | (simp <;> omega)) | omega | (dsimp only;omega)) (fun h=>(by first | rfl | cases h))) rfl rfl rfl rfl rfl a0g rfl (k':=18) rfl ?_
  refine a7C 36 9 27 22 false true _ _ (fun hb hb2=>b4F rfl rfl) rfl rfl rfl rfl rfl a0g rfl (k':=19) rfl ?_
  first
  | refine c6z 37 (b0m (gi:=4) (j:=22) _ _ rfl rfl rfl rfl) rfl rfl (k':=20) rfl ?_
  | refine c6z 37 (b2B (gi:=4) (j:=22) _ _ rfl rfl rfl rfl) rfl rfl (k':=20) rfl ?_
  | refine c6z 37 (a4C (gi:=4) (j:=22) _ _ _ _ rfl rfl rfl rfl (fun _=>.refl _) (fun _=>.refl _)) rfl rfl (k':=20) rfl ?_
  refine ru 1 ?_
  refine c0J kr kr (by rfl) (by simp only [a5g,a7q];exact rfl) (c':=c+21) rfl ?_
  refine ru 1 ?_
  refine wdc (fun hr1 hc1=>?_) (fun hr1 hc1=>?_)
  ·skip
   have hia:i < A.length:=om;have hab:k=B.length∨(k < B.length∧A.getD i 0 < B.getD k 0):=(by rcases hc1 with h | h;exact .inl om;rcases Nat.lt_or_ge k B.length with h' | h';exact .inr ⟨h',h.2⟩;exact .inl om)
   refine ru 7 ?_
   refine a0u 44 (a0b (id:=44) (hs:=[_]) ei_49.h omx rfl omx ⟨rfl,rfl,rfl,rfl,trivial⟩) rfl rfl a0g rfl rfl (c':=c+22) rfl ?_
   first
   | refine a0u 45 (a0a ei_49.h (by first | exact Nat.le_of_ble_eq_true rfl | omega | (dsimp only;omega) | (simp <;> omega)) rfl (by first | exact Nat.le_of_ble_eq_true rfl | omega | (dsimp only;omega) | (simp <;> omega)) (by first | exact Nat.le_of_ble_eq_true rfl | omega | (dsimp only;omega) | (simp <;> omega)) (a0x rfl (by first | exact Nat.le_of_ble_eq_true rfl | omega | (dsimp only;omega) | (simp <;> omega))) (by first | exact Nat.le_of_ble_eq_true rfl | omega | (dsimp only;omega) | (simp <;> omega)) rfl) rfl rfl (a0i rfl (a0P rfl)) rfl rfl (c':=c+23) rfl ?_
   | refine a0u 45 (a0a ei_49.h (by first | exact Nat.le_of_ble_eq_true rfl | omega | (dsimp only;omega) | (simp <;> omega)) rfl (by first | exact Nat.le_of_ble_eq_true rfl | omega | (dsimp only;omega) | (simp <;> omega)) (by first | exact Nat.le_of_ble_eq_true rfl | omega | (dsimp only;omega) | (simp <;> omega)) (a0U rfl (by first | exact Nat.le_of_ble_eq_true rfl | omega | (dsimp only;omega) | (simp <;> omega))) (by first | exact Nat.le_of_ble_eq_true rfl | omega | (dsimp only;omega) | (simp <;> omega)) rfl) rfl rfl (a0i rfl (a0P rfl)) rfl rfl (c':=c+23) rfl ?_
   | refine a0u 45 (a0a ei_49.h (by first | exact Nat.le_of_ble_eq_true rfl | omega | (dsimp only;omega) | (simp <;> omega)) rfl (by first | exact Nat.le_of_ble_eq_true rfl | omega | (dsimp only;omega) | (simp <;> omega)) (by first | exact Nat.le_of_ble_eq_true rfl | omega | (dsimp only;omega) | (simp <;> omega)) (a0O rfl) (by first | exact Nat.le_of_ble_eq_true rfl | omega | (dsimp only;omega) | (simp <;> omega)) rfl) rfl rfl (a0i rfl a0g) rfl rfl (c':=c+23) rfl ?_
   | refine a0u 45 (a0a ei_49.h (by first | exact Nat.le_of_ble_eq_true rfl | omega | (dsimp only;omega) | (simp <;> omega)) rfl (by first | exact Nat.le_of_ble_eq_true rfl | omega | (dsimp only;omega) | (simp <;> omega)) (by first | exact Nat.le_of_ble_eq_true rfl | omega | (dsimp only;omega) | (simp <;> omega)) (a0A 1 (fun _ _=>default) rfl) (by first | exact Nat.le_of_ble_eq_true rfl | omega | (dsimp only;omega) | (simp <;> omega)) rfl) rfl rfl (a0i rfl a0g) rfl rfl (c':=c+23) rfl ?_
   refine ru 13 ?_
   exact hL1 ((i+1,k,out++[A.getD i 0],c+22)) _ _ (by (try dsimp only);exact ⟨by omega,hk,by rw [List.append_assoc,List.singleton_append,←c9v hia hab];exact hm⟩) (by (try dsimp only);omega) (a0c rfl (Nat.le_refl _) (tsr rfl (tsr rfl (a0t.cons rfl (a3l (by simp)) tsa))) (a0e.cons rfl (a0G (enc:=fun x _=>intV x) (d:=0) rfl (fun i j _ _=>.refl _) (fun j hj=>.refl _)) a0e.nil))
  have hkb:k < B.length:=om
  refine ru 20 ?_
  refine c0J kr kr (by rfl) (by simp only [a5g,a7q];exact rfl) (c':=c+36) rfl ?_
  refine ru 1 ?_
  refine wdc (fun hr2 hc2=>?_) (fun hr2 hc2=>?_)
  ·skip
   have hib:i < A.length∧A.getD i 0=B.getD k 0:=⟨by omega,hc2.2⟩
   refine ru 13 ?_
   refine a0u 70 (a0b (id:=70) (hs:=[_]) ei_49.h omx rfl omx ⟨rfl,rfl,rfl,rfl,trivial⟩) rfl rfl a0g rfl rfl (c':=c+37) rfl ?_
   first
   | refine a0u 71 (a0a ei_49.h (by first | exact Nat.le_of_ble_eq_true rfl | omega | (dsimp only;omega) | (simp <;> omega)) rfl (by first | exact Nat.le_of_ble_eq_true rfl | omega | (dsimp only;omega) | (simp <;> omega)) (by first | exact Nat.le_of_ble_eq_true rfl | omega | (dsimp only;omega) | (simp <;> omega)) (a0x rfl (by first | exact Nat.le_of_ble_eq_true rfl | omega | (dsimp only;omega) | (simp <;> omega))) (by first | exact Nat.le_of_ble_eq_true rfl | omega | (dsimp only;omega) | (simp <;> omega)) rfl) rfl rfl (a0i rfl (a0P rfl)) rfl rfl (c':=c+38) rfl ?_
   | refine a0u 71 (a0a ei_49.h (by first | exact Nat.le_of_ble_eq_true rfl | omega | (dsimp only;omega) | (simp <;> omega)) rfl (by first | exact Nat.le_of_ble_eq_true rfl | omega | (dsimp only;omega) | (simp <;> omega)) (by first | exact Nat.le_of_ble_eq_true rfl | omega | (dsimp only;omega) | (simp <;> omega)) (a0U rfl (by first | exact Nat.le_of_ble_eq_true rfl | omega | (dsimp only;omega) | (simp <;> omega))) (by first | exact Nat.le_of_ble_eq_true rfl | omega | (dsimp only;omega) | (simp <;> omega)) rfl) rfl rfl (a0i rfl (a0P rfl)) rfl rfl (c':=c+38) rfl ?_
   | refine a0u 71 (a0a ei_49.h (by first | exact Nat.le_of_ble_eq_true rfl | omega | (dsimp only;omega) | (simp <;> omega)) rfl (by first | exact Nat.le_of_ble_eq_true rfl | omega | (dsimp only;omega) | (simp <;> omega)) (by first | exact Nat.le_of_ble_eq_true rfl | omega | (dsimp only;omega) | (simp <;> omega)) (a0O rfl) (by first | exact Nat.le_of_ble_eq_true rfl | omega | (dsimp only;omega) | (simp <;> omega)) rfl) rfl rfl (a0i rfl a0g) rfl rfl (c':=c+38) rfl ?_
   | refine a0u 71 (a0a ei_49.h (by first | exact Nat.le_of_ble_eq_true rfl | omega | (dsimp only;omega) | (simp <;> omega)) rfl (by first | exact Nat.le_of_ble_eq_true rfl | omega | (dsimp only;omega) | (simp <;> omega)) (by first | exact Nat.le_of_ble_eq_true rfl | omega | (dsimp only;omega) | (simp <;> omega)) (a0A 1 (fun _ _=>default) rfl) (by first | exact Nat.le_of_ble_eq_true rfl | omega | (dsimp only;omega) | (simp <;> omega)) rfl) rfl rfl (a0i rfl a0g) rfl rfl (c':=c+38) rfl ?_
   refine ru 9 ?_
   exact hL1 ((i+1,k+1,out++[B.getD k 0],c+37)) _ _ (by (try dsimp only);exact ⟨by omega,by omega,by rw [List.append_assoc,List.singleton_append,←c9b hib.1 hkb hib.2];exact hm⟩) (by (try dsimp only);omega) (a0c rfl (Nat.le_refl _) (tsr rfl (tsr rfl (a0t.cons rfl (a3l (by simp)) tsa))) (a0e.cons rfl (a0G (enc:=fun x _=>intV x) (d:=0) rfl (fun i j _ _=>.refl _) (fun j hj=>.refl _)) a0e.nil))
  have hib:i=A.length∨(i < A.length∧B.getD k 0 < A.getD i 0):=(by rcases Nat.lt_or_ge i A.length with h | h;(have hd:decide ((i:Int) < (A.length:Int))=true:=decide_eq_true om;have h1:=hc1.2;rw [hd,Bool.true_and,decide_eq_false_iff_not] at h1;have h2:=hr2;rw [hd,Bool.true_and,beq_eq_false_iff_ne,Int.toNat_natCast,Int.toNat_natCast] at h2;exact .inr ⟨h,by omega⟩);exact .inl om)
  refine ru 9 ?_
  refine a0u 70 (a0b (id:=70) (hs:=[_]) ei_49.h omx rfl omx ⟨rfl,rfl,rfl,rfl,trivial⟩) rfl rfl a0g rfl rfl (c':=c+37) rfl ?_
  first
  | refine a0u 71 (a0a ei_49.h (by first | exact Nat.le_of_ble_eq_true rfl | omega | (dsimp only;omega) | (simp <;> omega)) rfl (by first | exact Nat.le_of_ble_eq_true rfl | omega | (dsimp only;omega) | (simp <;> omega)) (by first | exact Nat.le_of_ble_eq_true rfl | omega | (dsimp only;omega) | (simp <;> omega)) (a0x rfl (by first | exact Nat.le_of_ble_eq_true rfl | omega | (dsimp only;omega) | (simp <;> omega))) (by first | exact Nat.le_of_ble_eq_true rfl | omega | (dsimp only;omega) | (simp <;> omega)) rfl) rfl rfl (a0i rfl (a0P rfl)) rfl rfl (c':=c+38) rfl ?_
  | refine a0u 71 (a0a ei_49.h (by first | exact Nat.le_of_ble_eq_true rfl | omega | (dsimp only;omega) | (simp <;> omega)) rfl (by first | exact Nat.le_of_ble_eq_true rfl | omega | (dsimp only;omega) | (simp <;> omega)) (by first | exact Nat.le_of_ble_eq_true rfl | omega | (dsimp only;omega) | (simp <;> omega)) (a0U rfl (by first | exact Nat.le_of_ble_eq_true rfl | omega | (dsimp only;omega) | (simp <;> omega))) (by first | exact Nat.le_of_ble_eq_true rfl | omega | (dsimp only;omega) | (simp <;> omega)) rfl) rfl rfl (a0i rfl (a0P rfl)) rfl rfl (c':=c+38) rfl ?_
  | refine a0u 71 (a0a ei_49.h (by first | exact Nat.le_of_ble_eq_true rfl | omega | (dsimp only;omega) | (simp <;> omega)) rfl (by first | exact Nat.le_of_ble_eq_true rfl | omega | (dsimp only;omega) | (simp <;> omega)) (by first | exact Nat.le_of_ble_eq_true rfl | omega | (dsimp only;omega) | (simp <;> omega)) (a0O rfl) (by first | exact Nat.le_of_ble_eq_true rfl | omega | (dsimp only;omega) | (simp <;> omega)) rfl) rfl rfl (a0i rfl a0g) rfl rfl (c':=c+38) rfl ?_
  | refine a0u 71 (a0a ei_49.h (by first | exact Nat.le_of_ble_eq_true rfl | omega | (dsimp only;omega) | (simp <;> omega)) rfl (by first | exact Nat.le_of_ble_eq_true rfl | omega | (dsimp only;omega) | (simp <;> omega)) (by first | exact Nat.le_of_ble_eq_true rfl | omega | (dsimp only;omega) | (simp <;> omega)) (a0A 1 (fun _ _=>default) rfl) (by first | exact Nat.le_of_ble_eq_true rfl | omega | (dsimp only;omega) | (simp <;> omega)) rfl) rfl rfl (a0i rfl a0g) rfl rfl (c':=c+38) rfl ?_
  refine ru 9 ?_
  exact hL1 ((i,k+1,out++[B.getD k 0],c+37)) _ _ (by (try dsimp only);exact ⟨hi,by omega,by rw [List.append_assoc,List.singleton_append,←c9z hkb hib];exact hm⟩) (by (try dsimp only);omega) (a0c rfl (Nat.le_refl _) (tsr rfl (tsr rfl (a0t.cons rfl (a3l (by simp)) tsa))) (a0e.cons rfl (a0G (enc:=fun x _=>intV x) (d:=0) rfl (fun i j _ _=>.refl _) (fun j hj=>.refl _)) a0e.nil))
 refine ru 2 ?_
 refine a0d ?_
 refine ru 9 ?_
 refine a5l rfl (a0h rfl) [(9005,_)] rfl (a0i rfl a0g) ?_
 have ho:out=mrg A B:=(by rw [List.drop_eq_nil_of_le om,List.drop_eq_nil_of_le om] at hm;simpa [mrg] using hm);rw [←ho];exact a2x (l:=out) (enc:=fun x _=>intV x) (d:=0) (List.mem_cons_self ..) rfl rfl (Nat.le_refl _) (fun i j hi hj=>.imm _)
theorem a3H (x y:Bag):HPure Tryz.prog 72 [a0n x.list,a0n y.list] (a0n (bun x y).list):=by
 rw [←c6r]
 exact c0Z _ _ (by have:=a2H x;omega) (by have:=a2H y;omega)
structure Mn where
 name:List UInt8
 on:List Int
instance:Inhabited Mn:=⟨⟨[],[]⟩⟩
@[reducible] def mnF (x:Mn):Nat→HV:=fun j=>match j with | 0=>strV x.name | _=>a0n x.on
@[reducible] def mnsV (l:List Mn):HV:=.sl 2 l.length (fun i=>mnF (l.getD i default))
theorem c7q {sh:List (Nat×HObj)} (x:Mn) (j:Nat):Fz sh (mnF x j) (mnF x j):=by unfold mnF;split <;> exact Frz.fz
instance frz_mns (l:List Mn):Frz (mnsV l):=⟨.sl _ _ _ _ fun _ _ _ _=>c7q _ _⟩
def meansV:List Mn→List UInt8→Bag
 | [],_=>Bag.zero
 | x::l,s=>if x.name=s then a2Q x.on else meansV l s
theorem a3R:∀ (l:List Mn) (s:List UInt8),(meansV l s).ok
 | [],_=>Bag.zero_ok
 | x::l,s=>by unfold meansV;split;exact (a1N _).1;exact a3R l s
theorem a7F:∀ (l:List Mn) (s:List UInt8) (i:Nat),i≤l.length→(∀ j,j < i→(l.getD j default).name≠s)→meansV l s=meansV (l.drop i) s
  | l,s,0,_,_=>rfl
  | [],s,i+1,h,_=>absurd h (by simp)
  | x :: l, s, i + 1, h, hn => by
    have h0:x.name≠s:=hn 0 (by omega)
    show (if x.name=s then _ else _)=_
    rw [if_neg h0]
    exact a7F l s i (by simpa using h) (fun j hj=>hn (j+1) (by omega))
theorem c2m {l:List Mn} {s:List UInt8} {i:Nat} (hi:i < l.length) (hn:∀ j,j < i→(l.getD j default).name≠s) (h:(l.getD i default).name=s):meansV l s=a2Q (l.getD i default).on:=by
 rw [a7F l s i (by omega) hn,List.drop_eq_getElem_cons hi]
 have e:l[i]=l.getD i default:=by rw [List.getD_eq_getElem?_getD,List.getElem?_eq_getElem hi];rfl
 rw [e]
 unfold meansV
 rw [if_pos h]
theorem b6E {l:List Mn} {s:List UInt8} (hn:∀ j,j < l.length→(l.getD j default).name≠s):meansV l s=Bag.zero:=by
 rw [a7F l s l.length (Nat.le_refl _) hn,List.drop_length];rfl
theorem a9m:Bag.zero.list=[]:=by decide +kernel
def MnB (l:List Mn):Prop:=l.length≤1000000∧∀ i,i < l.length→(l.getD i default).on.length≤1000000
theorem b8d (l:List Mn) (hB:MnB l) (s:List UInt8):HPure Tryz.prog 42 [mnsV l,strV s] (a0n (meansV l s).list):=by
 have hl:=hB.1
 refine a0k Tryz.func42 rfl kr _ _ _ rfl 25 rfl rfl (fun w F=>?_)
 refine ru 12 ?_
 refine a0l (α:=Nat) (fun x c=>⟨25,[(0,.v (mnsV l)),(1,.v (strV s)),(5,.v (intV x))],[],c⟩) (fun x=>x≤l.length∧∀ j,j < x→(l.getD j default).name≠s) (fun x=>l.length - x) (0) (by exact ⟨Nat.zero_le _,fun j hj=>absurd hj (Nat.not_lt_zero _)⟩) (a0c rfl (Nat.le_refl _) tsa a0e.nil) (fun i c hx NhL1 hL1=>?_)
 (try dsimp only at hx hL1 ⊢)
 obtain ⟨hi,hn⟩:=hx
 refine ru 9 ?_
 refine wdc (fun hr0 hc0=>?_) (fun hr0 hc0=>?_)
 ·skip
  have hil:i < l.length:=om;have hio:=hB.2 i hil
  refine ru 15 ?_
  refine wdc (fun hr1 hc1=>?_) (fun hr1 hc1=>?_)
  ·refine ru 7 ?_
   refine cll (c2A (l.getD i default).on hio) ?_
   refine ru 6 ?_
   refine a0o ?_
   refine ru 2 ?_
   refine rt1 ?_
   rw [c2m hil hn hc1];exact Frz.fz
  refine ru 8 ?_
  exact hL1 (i+1) _ _ (by (try dsimp only);exact ⟨by omega,fun j hj=>by rcases Nat.lt_or_ge j i with h | h;exact hn j h;obtain rfl:j=i:=om;exact hc1⟩) (by (try dsimp only);omega) (a0c rfl (Nat.le_refl _) tsa a0e.nil)
 refine ru 2 ?_
 refine a0d ?_
 refine ru 8 ?_
 refine rt1 ?_
 rw [b6E (fun j hj=>hn j om),a9m];exact .nil 0 1 _ (by decide) none
def b7w (l:List Mn):Bool:=decide (l.length≤20)&&l.all (fun x=>decide (x.on.length≤50)&&decide (x.name.length≤50))
theorem c5V {l:List Mn} {i:Nat} (hi:i < l.length) (h:50 < (l.getD i default).on.length∨50 < (l.getD i default).name.length):b7w l=false:=by
 unfold b7w
 rw [Bool.and_eq_false_iff];right
 rw [List.all_eq_false]
 have e:l.getD i default=l[i]:=by rw [List.getD_eq_getElem?_getD,List.getElem?_eq_getElem hi];rfl
 refine ⟨l[i],List.getElem_mem hi,?_⟩
 rw [←e]
 rw [Bool.and_eq_true,decide_eq_true_eq,decide_eq_true_eq];omega
theorem c1m {l:List Mn} {i:Nat} (hil:l.length≤i∨21≤i) (hi:i≤l.length) (h:∀ j,j < i→(l.getD j default).on.length≤50∧(l.getD j default).name.length≤50):b7w l=decide (l.length≤20):=by
 unfold b7w
 by_cases h20:l.length≤20
 ·have:l.all (fun x=>decide (x.on.length≤50)&&decide (x.name.length≤50))=true:=by
   rw [List.all_eq_true]
   intro x hx
   obtain ⟨j,hj,rfl⟩:=List.mem_iff_getElem.1 hx
   have:=h j (by omega)
   rw [List.getD_eq_getElem?_getD,List.getElem?_eq_getElem hj] at this
   simpa using this
  rw [this,Bool.and_true]
 ·rw [decide_eq_false h20];rfl
theorem b5U {l:List Mn} (h:b7w l=true):MnB l∧l.length≤20:=by
 unfold b7w at h
 rw [Bool.and_eq_true,decide_eq_true_eq,List.all_eq_true] at h
 refine ⟨⟨by omega,fun i hi=>?_⟩,h.1⟩
 have:=h.2 _ (List.getElem_mem hi)
 rw [List.getD_eq_getElem?_getD,List.getElem?_eq_getElem hi]
 simp at this
 show (l[i]).on.length≤_
 omega
theorem a5Z (l:List Mn):HPure Tryz.prog 40 [mnsV l] (boolV (b7w l)):=by
 refine a0k Tryz.func40 rfl kr _ _ _ rfl 33 rfl rfl (fun w F=>?_)
 refine ru 12 ?_
 refine a0l (α:=Nat) (fun x c=>⟨33,[(0,.v (mnsV l)),(3,.v (intV x))],[],c⟩) (fun x=>x≤l.length∧x≤21∧∀ j,j < x→(l.getD j default).on.length≤50∧(l.getD j default).name.length≤50) (fun x=>21 - x) (0) (by exact ⟨Nat.zero_le _,Nat.zero_le _,fun j hj=>absurd hj (Nat.not_lt_zero _)⟩) (a0c rfl (Nat.le_refl _) tsa a0e.nil) (fun i c hx NhL1 hL1=>?_)
 (try dsimp only at hx hL1 ⊢)
 obtain ⟨hi,hi21,hn⟩:=hx
 refine ru 13 ?_
 refine wdc (fun hr0 hc0=>?_) (fun hr0 hc0=>?_)
 ·skip
  have hil:i < l.length∧i < 21:=om;have hil1:=hil.1
  refine ru 24 ?_
  refine wdc (fun hr1 hc1=>?_) (fun hr1 hc1=>?_)
  ·refine ru 8 ?_
   refine a0o ?_
   refine ru 2 ?_
   refine rt1 ?_
   rw [c5V hil1 om];exact .imm _
  refine ru 8 ?_
  exact hL1 (i+1) _ _ (by (try dsimp only);exact ⟨by omega,by omega,fun j hj=>by rcases Nat.lt_or_ge j i with h | h;exact hn j h;obtain rfl:j=i:=om;omega⟩) (by (try dsimp only);omega) (a0c rfl (Nat.le_refl _) tsa a0e.nil)
 have hie:l.length≤i∨21≤i:=(by have h:=hr0;simp at h;omega)
 refine ru 2 ?_
 refine a0d ?_
 refine ru 11 ?_
 refine rt1 ?_
 rw [c1m hie hi hn];exact a2c (decide_eq_decide.2 om)
theorem c8z (l:List Mn) (hB:MnB l) (s:List UInt8):HPure Tryz.prog 41 [strV s,.fp 1 (fun _=>mnsV l)] (bagH (meansV l s)):=by
 have hml:=a2H (meansV l s)
 refine a0k Tryz.func41 rfl kr _ _ _ rfl 8 rfl rfl (fun w F=>?_)
 refine ru 9 ?_
 refine cll (b8d l hB s) ?_
 refine cll (c9V (meansV l s).list om) ?_
 refine ru 4 ?_
 refine rt1 ?_
 rw [Bag.of_list _ (a3R l s)];exact a2r (by exact j4 rfl rfl rfl rfl)
theorem b8m (l:List Mn) (hB:MnB l):MeanOk 41 1 (fun i=>[HV.fp 1 (fun _=>mnsV l)].getD i default) [.fp 1 (fun _=>mnsV l)] (meansV l) :=
 ⟨rfl,fun i hi=>by obtain rfl:i=0:=(by omega);rfl,⟨.fp _ _ (Nat.le_refl _) _ _ (fun j hj=>Frz.fz),trivial⟩,fun sh=>.fn _ _ _ _ (fun i hi=>by obtain rfl:i=0:=(by omega);exact .fp _ _ (Nat.le_refl _) _ _ (fun j hj=>Frz.fz)),fun s _=>c8z l hB s,a3R l⟩
def noneE (l:List Mn) (e:List Pt):Bool:=e.any (fun p=>decide (p.kind=1)&&decide (meansV l p.name=Bag.zero))
@[reducible] def a1g:HV:=.imm (.slice none 0 0)
def ndF (on be:HV) (p:Pc):Nat→Nat→HV:=fun _ j=>match j with
 | 0=>on | 1=>be | 2=>a0n p.first.list | 3=>a0n p.ends.list | _=>boolV p.empty
@[reducible] def ndO (g:Nat) (on be:HV) (p:Pc):HObj:=⟨g,1,5,65,0,ndF on be p⟩
@[reducible] def ndV (p:Pc):HV:=.agg 5 (ndF a1g a1g p 0)
@[reducible] def lrF (β:Nat→Bag):Nat→Nat→HV:=fun i _=>a0n (β i).list
@[reducible] def lrO (g M:Nat) (β:Nat→Bag):HObj:=⟨g,M,1,49,0,lrF β⟩
theorem c3z {sh:List (Nat×HObj)} (p:Pc) (j:Nat):Fz sh (ndF a1g a1g p 0 j) (ndF a1g a1g p 0 j):=by unfold ndF;split <;> exact Frz.fz
instance frz_nd (p:Pc):Frz (ndV p):=⟨.agg _ _ _ fun j _=>c3z p j⟩
theorem jn5 {P:Nat→Prop} (h0:P 0) (h1:P 1) (h2:P 2) (h3:P 3) (h4:P 4):∀ j,j < 5→P j:=fun j hj=>by
 match j,hj with | 0,_=>exact h0 | 1,_=>exact h1 | 2,_=>exact h2 | 3,_=>exact h3 | 4,_=>exact h4
theorem a1d {kp sh:List (Nat×HObj)} {g M:Nat} {β β':Nat→Bag} (h:∀ p,p < M→β p=β' p):OKz kp sh (lrO g M β) (lrO g M β'):=.of fun i j hi hj=>by
 show Kz kp sh (a0n (β i).list) (a0n (β' i).list)
 rw [h i hi];exact .fz _ _ Frz.fz
theorem a5q {g M:Nat} {f:Nat→Nat→HV} {β:Nat→Bag} (h:∀ i,i < M→f i 0=a0n (β i).list):a2J ⟨g,M,1,49,0,f⟩ (lrO g M β):=a2J.of fun i j hi hj=>by
 obtain rfl:j=0:=by omega
 rw [h i hi];exact .refl _
theorem b1d {γ:Nat→Bag} {x:Bag} {q i:Nat}:upd (lrF γ) q 0 1 (a0n x.list).cell i 0=a0n (if i=q then x else γ i).list:=by
 unfold upd inb
 have h0:(Nat.ble 0 0&&Nat.blt 0 (0+1))=true:=by simp
 by_cases e:i=q
 ·subst e
  have:Nat.beq i i=true:=by simp
  rw [h0,this,if_pos rfl];rfl
 ·have:Nat.beq i q=false:=(by rw [Bool.eq_false_iff];intro h;exact e (Nat.eq_of_beq_eq_true h))
  rw [this,if_neg e];rfl
theorem a4d {kp sh:List (Nat×HObj)} {g:Nat} {f f':Nat→Nat→HV} (h:∀ j,j < 5→Kz kp sh (f 0 j) (f' 0 j)):OKz kp sh ⟨g,1,5,65,0,f⟩ ⟨g,1,5,65,0,f'⟩:=.of fun i j hi hj=>by
 obtain rfl:i=0:=by omega
 exact h j hj
theorem a2X {kp sh:List (Nat×HObj)} {f:HV} {y:Bag} (x:Bag) (hf:f=a0n x.list) (h:x=y):Kz kp sh f (a0n y.list):=by subst hf;subst h;exact .fz _ _ Frz.fz
theorem a7i {kp sh:List (Nat×HObj)} {f:HV} {y:Bool} (x:Bool) (hf:f=boolV x) (h:x=y):Kz kp sh f (boolV y):=by subst hf;subst h;exact .fz _ _ (.imm _)
theorem a2k (a b:Pc):(a.join b).first=if a.empty then bun a.first b.first else a.first:=rfl
theorem a2O (a b:Pc):(a.join b).ends=if b.empty then bun a.ends b.ends else b.ends:=by rw [c2Z]
theorem a2e (a b:Pc):(a.join b).empty=(a.empty&&b.empty):=rfl
theorem a9x {g:Nat} {f f':Nat→Nat→HV} (h0:Sb (f 0 0) (f' 0 0)) (h1:Sb (f 0 1) (f' 0 1)) (h2:Sb (f 0 2) (f' 0 2)) (h3:Sb (f 0 3) (f' 0 3)) (h4:Sb (f 0 4) (f' 0 4)):a2J ⟨g,1,5,65,0,f⟩ ⟨g,1,5,65,0,f'⟩:=a2J.of fun i j hi hj=>by
 obtain rfl:i=0:=by omega
 exact jn5 (P:=fun j=>Sb (f 0 j) (f' 0 j)) h0 h1 h2 h3 h4 j hj
theorem b6O (a b:Pc) (ha:a.ok) (hb:b.ok) (M g3 g4:Nat) (β:Nat→Bag) (hin:∀ p,p < 256→a.ends.has p=true→p < M) (hN:M≤256) :
  a4Q Tryz.prog 96 [.pt 9210 g4 0 0,ndV b] [(9210,ndO g4 a1g (.os 9103 g3 0 M) a),(9103,lrO g3 M β)] (.tup 0 fun _=>default) [(9210,ndO g4 a1g (.os 9103 g3 0 M) (a.join b)),(9103,lrO g3 M (a1X β (a.ends,b.first)))]:=by
 intro c
 let k0:=c
 have hle:=a2H a.ends
 refine a0w Tryz.func96 rfl kr _ _ _ _ rfl 84 rfl rfl (fun X ok hX=>?_)
 refine ru 12 ?_
 refine a0l (α:=Nat) (fun x c=>⟨84,[(0,.v (.pt 9210 g4 0 0)),(3,.v (.pt 3 k0 0 0)),(4,.v (intV x))],[(9210,ndO g4 a1g (.os 9103 g3 0 M) a),(9103,lrO g3 M (a4b a.ends b.first β x)),(3,⟨k0,1,5,65,0,ndF a1g a1g b⟩)],c⟩) (fun x=>x≤a.ends.list.length) (fun x=>a.ends.list.length - x) (0) om (a0c rfl (Nat.le_refl _) tsa (hsr rfl (a0e.cons rfl (a2J.of fun i j hi hj=>by show Sb (a0n (β i).list) (a0n (a4b a.ends b.first β 0 i).list);rw [a7r];exact .refl _) (a0e.cons rfl (a2J.of fun i j hi hj=>by obtain rfl:i=0:=om;exact jn5 (P:=fun j=>Sb (ndF a1g a1g b 0 j) (ndF a1g a1g b 0 j)) (.refl _) (.refl _) (.refl _) (.refl _) (.refl _) j hj) a0e.nil)))) (fun i c hx NhL1 hL1=>?_)
 (try dsimp only at hx hL1 ⊢)
 refine ru 12 ?_
 refine wdc (fun hr0 hc0=>?_) (fun hr0 hc0=>?_)
 ·skip
  have hi':i < a.ends.list.length:=om;obtain ⟨q,hq256,hqA,hq⟩:=a4J a.ends hi';have hqN:=hin q hq256 hqA
  refine ru 7 ?_
  first
  | refine a3I 16 (HOp.val (v':=HV.pt 9210 g4 0 1) (b5m fd_65_1.h rfl) (rfl)) rfl rfl a0g rfl rfl (k':=3) rfl ?_
  | refine a3I 16 (HOp.val (v':=HV.pt 9210 g4 0 1) (a9b fd_65_1.h rfl (by first | exact Nat.le_of_ble_eq_true rfl | omega | (dsimp only;omega) | (simp <;> omega))) (rfl)) rfl rfl a0g rfl rfl (k':=3) rfl ?_
  refine ru 7 ?_
  first
  | refine a3I 24 (HOp.val (v':=intV (q:Int)) (a0D ty_3.h rfl (by first | exact Nat.le_of_ble_eq_true rfl | omega | (dsimp only;omega) | (simp <;> omega)) (by first | exact Nat.le_of_ble_eq_true rfl | omega | (dsimp only;omega) | (simp <;> omega)) (fun h=>(by first | rfl | cases h))) (congrArg intV hq)) rfl rfl (a0P rfl) rfl rfl (k':=11) rfl ?_
  | refine a3I 24 (HOp.val (v':=intV (q:Int)) (a0r ty_3.h rfl (by first | exact Nat.le_of_ble_eq_true rfl | omega | (dsimp only;omega) | (simp <;> omega)) (fun h=>(by first | rfl | cases h))) (congrArg intV hq)) rfl rfl a0g rfl rfl (k':=11) rfl ?_
  refine ru 10 ?_
  first
  | refine a3I 35 (HOp.val (v':=intV (q:Int)) (a0D ty_3.h rfl (by first | exact Nat.le_of_ble_eq_true rfl | omega | (dsimp only;omega) | (simp <;> omega)) (by first | exact Nat.le_of_ble_eq_true rfl | omega | (dsimp only;omega) | (simp <;> omega)) (fun h=>(by first | rfl | cases h))) (congrArg intV hq)) rfl rfl (a0P rfl) rfl rfl (k':=22) rfl ?_
  | refine a3I 35 (HOp.val (v':=intV (q:Int)) (a0r ty_3.h rfl (by first | exact Nat.le_of_ble_eq_true rfl | omega | (dsimp only;omega) | (simp <;> omega)) (fun h=>(by first | rfl | cases h))) (congrArg intV hq)) rfl rfl a0g rfl rfl (k':=22) rfl ?_
  refine ru 4 ?_
  refine d0 27 (a0f (xs:=[_,_]) (a3H (a4b a.ends b.first β i q) b.first) ⟨rfl,⟨rfl,trivial⟩⟩ ⟨(Fz.eq (by rw [Nat.zero_add];rfl)),⟨(Fz.eq rfl),trivial⟩⟩) ?_
  refine ru 10 ?_
  exact hL1 (i+1) _ _ (by (try dsimp only);omega) (by (try dsimp only);omega) (a0c rfl (Nat.le_refl _) tsa (hsr rfl (a0e.cons rfl (a5q fun p hp=>b1d.trans (by rw [a5F a.ends b.first β hi' hq,Nat.zero_add];rfl)) hsa)))
 have hie:i=a.ends.list.length:=om
 refine ru 2 ?_
 refine a0d ?_
 refine ru 11 ?_
 refine wdc (fun hr1 hc1=>?_) (fun hr1 hc1=>?_)
 ·refine ru 8 ?_
  refine clx (a3H a.first b.first) ?_
  refine ru 12 ?_
  refine wdc (fun hr2 hc2=>?_) (fun hr2 hc2=>?_)
  ·refine ru 8 ?_
   refine clx (a3H a.ends b.ends) ?_
   refine ru 19 ?_
   refine a1W ?_
   refine a1w ok hX a3g.one rfl  [] rfl a0g (()) (trivial) (by rfl) (by rfl) (kza) ?_
   exact ⟨⟨_,rfl,(a4d (by exact jn5 (.fz _ _ (.imm _)) (.os _ _ _ _ _ rfl rfl) (a2X (bun a.first b.first) rfl (by rw [a2k];simp [hc1])) (a2X (bun a.ends b.ends) rfl (by rw [a2O];simp [hc2])) (a7i (a.empty&&b.empty) rfl (a2e a b).symm)))⟩,⟨⟨_,rfl,(a1d (fun p hp=>by rw [hie];exact a1P _ _ _ om))⟩,trivial⟩⟩
  refine ru 23 ?_
  refine a1W ?_
  refine a1w ok hX a3g.one rfl  [] rfl a0g (()) (trivial) (by rfl) (by rfl) (kza) ?_
  exact ⟨⟨_,rfl,(a4d (by exact jn5 (.fz _ _ (.imm _)) (.os _ _ _ _ _ rfl rfl) (a2X (bun a.first b.first) rfl (by rw [a2k];simp [hc1])) (a2X (b.ends) rfl (by rw [a2O];simp [hc2])) (a7i (a.empty&&b.empty) rfl (a2e a b).symm)))⟩,⟨⟨_,rfl,(a1d (fun p hp=>by rw [hie];exact a1P _ _ _ om))⟩,trivial⟩⟩
 refine ru 9 ?_
 refine wdc (fun hr2 hc2=>?_) (fun hr2 hc2=>?_)
 ·refine ru 8 ?_
  refine clx (a3H a.ends b.ends) ?_
  refine ru 19 ?_
  refine a1W ?_
  refine a1w ok hX a3g.one rfl  [] rfl a0g (()) (trivial) (by rfl) (by rfl) (kza) ?_
  exact ⟨⟨_,rfl,(a4d (by exact jn5 (.fz _ _ (.imm _)) (.os _ _ _ _ _ rfl rfl) (a2X (a.first) rfl (by rw [a2k];simp [hc1])) (a2X (bun a.ends b.ends) rfl (by rw [a2O];simp [hc2])) (a7i (a.empty&&b.empty) rfl (a2e a b).symm)))⟩,⟨⟨_,rfl,(a1d (fun p hp=>by rw [hie];exact a1P _ _ _ om))⟩,trivial⟩⟩
 refine ru 23 ?_
 refine a1W ?_
 refine a1w ok hX a3g.one rfl  [] rfl a0g (()) (trivial) (by rfl) (by rfl) (kza) ?_
 exact ⟨⟨_,rfl,(a4d (by exact jn5 (.fz _ _ (.imm _)) (.os _ _ _ _ _ rfl rfl) (a2X (a.first) rfl (by rw [a2k];simp [hc1])) (a2X (b.ends) rfl (by rw [a2O];simp [hc2])) (a7i (a.empty&&b.empty) rfl (a2e a b).symm)))⟩,⟨⟨_,rfl,(a1d (fun p hp=>by rw [hie];exact a1P _ _ _ om))⟩,trivial⟩⟩
theorem a9s (a b:Pc) (ha:a.ok) (hb:b.ok) (M g1 g2 g3 g4:Nat) (ρ β:Nat→Bag) (p0:Pc) (hin:∀ p,p < 256→a.ends.has p=true→p < M) (hN:M≤256) :
  a4Q Tryz.prog 73 [.pt 9101 g1 0 0,.pt 9210 g4 0 0,ndV b] [(9101,ndO g1 (.os 9102 g2 0 M) (.os 9103 g3 0 M) p0),(9102,lrO g2 M ρ),(9103,lrO g3 M β),(9210,ndO g4 a1g a1g a)] (.tup 0 fun _=>default) [(9101,ndO g1 (.os 9102 g2 0 M) (.os 9103 g3 0 M) p0),(9102,lrO g2 M ρ),(9103,lrO g3 M (a1X β (a.ends,b.first))),(9210,ndO g4 a1g a1g (a.join b))]:=by
 intro c
 let k0:=c
 refine a0w Tryz.func73 rfl kr _ _ _ _ rfl 19 rfl rfl (fun X ok hX=>?_)
 refine ru 18 ?_
 refine (a1b 9210 (ndO g4 a1g (.os 9103 g3 0 M) a) rfl (by exact a9x (.refl _) (.refl _) (.refl _) (.refl _) (.refl _))).wp ?_
 refine ru 3 ?_
 refine rvl (ndV b) (rfl) ?_
 refine hm_ 15 (a1R (xs:=[_,_]) (pre:=[(9210,_),(9103,_)]) (b6O a b ha hb M g3 g4 β hin hN) ((a1f (.head _) rfl (a1f (.tail _ (.head _)) rfl a4m))) ⟨rfl,⟨rfl,trivial⟩⟩) rfl rfl (a0i rfl (a0i rfl a0g)) rfl rfl (c':=c+3) rfl ?_
 refine ru 8 ?_
 refine a1W ?_
 refine a1w ok hX a3g.one rfl  [] rfl a0g (()) (trivial) (by rfl) (by rfl) (kza) ?_
 exact ⟨⟨_,rfl,(a4d (by exact jn5 (.os _ _ _ _ _ rfl rfl) (.os _ _ _ _ _ rfl rfl) (a2X p0.first rfl rfl) (a2X p0.ends rfl rfl) (a7i p0.empty rfl rfl)))⟩,⟨⟨_,rfl,(a1d (fun _ _=>rfl))⟩,⟨⟨_,rfl,(a1d (fun _ _=>rfl))⟩,⟨⟨_,rfl,(a4d (by exact jn5 (.fz _ _ (.imm _)) (.fz _ _ (.imm _)) (a2X (a.join b).first rfl rfl) (a2X (a.join b).ends rfl rfl) (a7i (a.join b).empty rfl rfl)))⟩,trivial⟩⟩⟩⟩
theorem b6J (a b:Pc) (ha:a.ok) (hb:b.ok) (M g3 g4:Nat) (β:Nat→Bag) (hin:∀ p,p < 256→a.ends.has p=true→p < M) (hN:M≤256) :
  a4Q Tryz.prog 96 [.pt 9224 g4 0 0,ndV b] [(9224,ndO g4 a1g (.os 9103 g3 0 M) a),(9103,lrO g3 M β)] (.tup 0 fun _=>default) [(9224,ndO g4 a1g (.os 9103 g3 0 M) (a.join b)),(9103,lrO g3 M (a1X β (a.ends,b.first)))]:=by
 intro c
 let k0:=c
 have hle:=a2H a.ends
 refine a0w Tryz.func96 rfl kr _ _ _ _ rfl 84 rfl rfl (fun X ok hX=>?_)
 refine ru 12 ?_
 refine a0l (α:=Nat) (fun x c=>⟨84,[(0,.v (.pt 9224 g4 0 0)),(3,.v (.pt 3 k0 0 0)),(4,.v (intV x))],[(9224,ndO g4 a1g (.os 9103 g3 0 M) a),(9103,lrO g3 M (a4b a.ends b.first β x)),(3,⟨k0,1,5,65,0,ndF a1g a1g b⟩)],c⟩) (fun x=>x≤a.ends.list.length) (fun x=>a.ends.list.length - x) (0) om (a0c rfl (Nat.le_refl _) tsa (hsr rfl (a0e.cons rfl (a2J.of fun i j hi hj=>by show Sb (a0n (β i).list) (a0n (a4b a.ends b.first β 0 i).list);rw [a7r];exact .refl _) (a0e.cons rfl (a2J.of fun i j hi hj=>by obtain rfl:i=0:=om;exact jn5 (P:=fun j=>Sb (ndF a1g a1g b 0 j) (ndF a1g a1g b 0 j)) (.refl _) (.refl _) (.refl _) (.refl _) (.refl _) j hj) a0e.nil)))) (fun i c hx NhL1 hL1=>?_)
 (try dsimp only at hx hL1 ⊢)
 refine ru 12 ?_
 refine wdc (fun hr0 hc0=>?_) (fun hr0 hc0=>?_)
 ·skip
  have hi':i < a.ends.list.length:=om;obtain ⟨q,hq256,hqA,hq⟩:=a4J a.ends hi';have hqN:=hin q hq256 hqA
  refine ru 7 ?_
  first
  | refine a3I 16 (HOp.val (v':=HV.pt 9224 g4 0 1) (b5m fd_65_1.h rfl) (rfl)) rfl rfl a0g rfl rfl (k':=3) rfl ?_
  | refine a3I 16 (HOp.val (v':=HV.pt 9224 g4 0 1) (a9b fd_65_1.h rfl (by first | exact Nat.le_of_ble_eq_true rfl | omega | (dsimp only;omega) | (simp <;> omega))) (rfl)) rfl rfl a0g rfl rfl (k':=3) rfl ?_
  refine ru 7 ?_
  first
  | refine a3I 24 (HOp.val (v':=intV (q:Int)) (a0D ty_3.h rfl (by first | exact Nat.le_of_ble_eq_true rfl | omega | (dsimp only;omega) | (simp <;> omega)) (by first | exact Nat.le_of_ble_eq_true rfl | omega | (dsimp only;omega) | (simp <;> omega)) (fun h=>(by first | rfl | cases h))) (congrArg intV hq)) rfl rfl (a0P rfl) rfl rfl (k':=11) rfl ?_
  | refine a3I 24 (HOp.val (v':=intV (q:Int)) (a0r ty_3.h rfl (by first | exact Nat.le_of_ble_eq_true rfl | omega | (dsimp only;omega) | (simp <;> omega)) (fun h=>(by first | rfl | cases h))) (congrArg intV hq)) rfl rfl a0g rfl rfl (k':=11) rfl ?_
  refine ru 10 ?_
  first
  | refine a3I 35 (HOp.val (v':=intV (q:Int)) (a0D ty_3.h rfl (by first | exact Nat.le_of_ble_eq_true rfl | omega | (dsimp only;omega) | (simp <;> omega)) (by first | exact Nat.le_of_ble_eq_true rfl | omega | (dsimp only;omega) | (simp <;> omega)) (fun h=>(by first | rfl | cases h))) (congrArg intV hq)) rfl rfl (a0P rfl) rfl rfl (k':=22) rfl ?_
  | refine a3I 35 (HOp.val (v':=intV (q:Int)) (a0r ty_3.h rfl (by first | exact Nat.le_of_ble_eq_true rfl | omega | (dsimp only;omega) | (simp <;> omega)) (fun h=>(by first | rfl | cases h))) (congrArg intV hq)) rfl rfl a0g rfl rfl (k':=22) rfl ?_
  refine ru 4 ?_
  refine d0 27 (a0f (xs:=[_,_]) (a3H (a4b a.ends b.first β i q) b.first) ⟨rfl,⟨rfl,trivial⟩⟩ ⟨(Fz.eq (by rw [Nat.zero_add];rfl)),⟨(Fz.eq rfl),trivial⟩⟩) ?_
  refine ru 10 ?_
  exact hL1 (i+1) _ _ (by (try dsimp only);omega) (by (try dsimp only);omega) (a0c rfl (Nat.le_refl _) tsa (hsr rfl (a0e.cons rfl (a5q fun p hp=>b1d.trans (by rw [a5F a.ends b.first β hi' hq,Nat.zero_add];rfl)) hsa)))
 have hie:i=a.ends.list.length:=om
 refine ru 2 ?_
 refine a0d ?_
 refine ru 11 ?_
 refine wdc (fun hr1 hc1=>?_) (fun hr1 hc1=>?_)
 ·refine ru 8 ?_
  refine clx (a3H a.first b.first) ?_
  refine ru 12 ?_
  refine wdc (fun hr2 hc2=>?_) (fun hr2 hc2=>?_)
  ·refine ru 8 ?_
   refine clx (a3H a.ends b.ends) ?_
   refine ru 19 ?_
   refine a1W ?_
   refine a1w ok hX a3g.one rfl  [] rfl a0g (()) (trivial) (by rfl) (by rfl) (kza) ?_
   exact ⟨⟨_,rfl,(a4d (by exact jn5 (.fz _ _ (.imm _)) (.os _ _ _ _ _ rfl rfl) (a2X (bun a.first b.first) rfl (by rw [a2k];simp [hc1])) (a2X (bun a.ends b.ends) rfl (by rw [a2O];simp [hc2])) (a7i (a.empty&&b.empty) rfl (a2e a b).symm)))⟩,⟨⟨_,rfl,(a1d (fun p hp=>by rw [hie];exact a1P _ _ _ om))⟩,trivial⟩⟩
  refine ru 23 ?_
  refine a1W ?_
  refine a1w ok hX a3g.one rfl  [] rfl a0g (()) (trivial) (by rfl) (by rfl) (kza) ?_
  exact ⟨⟨_,rfl,(a4d (by exact jn5 (.fz _ _ (.imm _)) (.os _ _ _ _ _ rfl rfl) (a2X (bun a.first b.first) rfl (by rw [a2k];simp [hc1])) (a2X (b.ends) rfl (by rw [a2O];simp [hc2])) (a7i (a.empty&&b.empty) rfl (a2e a b).symm)))⟩,⟨⟨_,rfl,(a1d (fun p hp=>by rw [hie];exact a1P _ _ _ om))⟩,trivial⟩⟩
 refine ru 9 ?_
 refine wdc (fun hr2 hc2=>?_) (fun hr2 hc2=>?_)
 ·refine ru 8 ?_
  refine clx (a3H a.ends b.ends) ?_
  refine ru 19 ?_
  refine a1W ?_
  refine a1w ok hX a3g.one rfl  [] rfl a0g (()) (trivial) (by rfl) (by rfl) (kza) ?_
  exact ⟨⟨_,rfl,(a4d (by exact jn5 (.fz _ _ (.imm _)) (.os _ _ _ _ _ rfl rfl) (a2X (a.first) rfl (by rw [a2k];simp [hc1])) (a2X (bun a.ends b.ends) rfl (by rw [a2O];simp [hc2])) (a7i (a.empty&&b.empty) rfl (a2e a b).symm)))⟩,⟨⟨_,rfl,(a1d (fun p hp=>by rw [hie];exact a1P _ _ _ om))⟩,trivial⟩⟩
 refine ru 23 ?_
 refine a1W ?_
 refine a1w ok hX a3g.one rfl  [] rfl a0g (()) (trivial) (by rfl) (by rfl) (kza) ?_
 exact ⟨⟨_,rfl,(a4d (by exact jn5 (.fz _ _ (.imm _)) (.os _ _ _ _ _ rfl rfl) (a2X (a.first) rfl (by rw [a2k];simp [hc1])) (a2X (b.ends) rfl (by rw [a2O];simp [hc2])) (a7i (a.empty&&b.empty) rfl (a2e a b).symm)))⟩,⟨⟨_,rfl,(a1d (fun p hp=>by rw [hie];exact a1P _ _ _ om))⟩,trivial⟩⟩
theorem c0u (a b:Pc) (ha:a.ok) (hb:b.ok) (M g1 g2 g3 g4:Nat) (ρ β:Nat→Bag) (p0:Pc) (hin:∀ p,p < 256→a.ends.has p=true→p < M) (hN:M≤256) :
  a4Q Tryz.prog 73 [.pt 9101 g1 0 0,.pt 9224 g4 0 0,ndV b] [(9101,ndO g1 (.os 9102 g2 0 M) (.os 9103 g3 0 M) p0),(9102,lrO g2 M ρ),(9103,lrO g3 M β),(9224,ndO g4 a1g a1g a)] (.tup 0 fun _=>default) [(9101,ndO g1 (.os 9102 g2 0 M) (.os 9103 g3 0 M) p0),(9102,lrO g2 M ρ),(9103,lrO g3 M (a1X β (a.ends,b.first))),(9224,ndO g4 a1g a1g (a.join b))]:=by
 intro c
 let k0:=c
 refine a0w Tryz.func73 rfl kr _ _ _ _ rfl 19 rfl rfl (fun X ok hX=>?_)
 refine ru 18 ?_
 refine (a1b 9224 (ndO g4 a1g (.os 9103 g3 0 M) a) rfl (by exact a9x (.refl _) (.refl _) (.refl _) (.refl _) (.refl _))).wp ?_
 refine ru 3 ?_
 refine rvl (ndV b) (rfl) ?_
 refine hm_ 15 (a1R (xs:=[_,_]) (pre:=[(9224,_),(9103,_)]) (b6J a b ha hb M g3 g4 β hin hN) ((a1f (.head _) rfl (a1f (.tail _ (.head _)) rfl a4m))) ⟨rfl,⟨rfl,trivial⟩⟩) rfl rfl (a0i rfl (a0i rfl a0g)) rfl rfl (c':=c+3) rfl ?_
 refine ru 8 ?_
 refine a1W ?_
 refine a1w ok hX a3g.one rfl  [] rfl a0g (()) (trivial) (by rfl) (by rfl) (kza) ?_
 exact ⟨⟨_,rfl,(a4d (by exact jn5 (.os _ _ _ _ _ rfl rfl) (.os _ _ _ _ _ rfl rfl) (a2X p0.first rfl rfl) (a2X p0.ends rfl rfl) (a7i p0.empty rfl rfl)))⟩,⟨⟨_,rfl,(a1d (fun _ _=>rfl))⟩,⟨⟨_,rfl,(a1d (fun _ _=>rfl))⟩,⟨⟨_,rfl,(a4d (by exact jn5 (.fz _ _ (.imm _)) (.fz _ _ (.imm _)) (a2X (a.join b).first rfl rfl) (a2X (a.join b).ends rfl rfl) (a7i (a.join b).empty rfl rfl)))⟩,trivial⟩⟩⟩⟩
@[reducible] def d0c (g1 g2 g3 M:Nat) (on:List Bag) (β:Nat→Bag) (p0:Pc):List (Nat×HObj):=[(9101,ndO g1 (.os 9102 g2 0 M) (.os 9103 g3 0 M) p0),(9102,lrO g2 M (onF on)),(9103,lrO g3 M β)]
def b7L (l:List Mn) (e:List Pt) (b:Nat) (t:T):Prop:=∀ (c g1 g2 g3 M:Nat) (on:List Bag) (β:Nat→Bag) (p0:Pc),on.length=M→M+t.w≤256→(∀ p,(β p).ok)→(∀ p,M≤p→p < 256→β p=Bag.zero) →
 a4n Tryz.prog 48 c [.pt 9101 g1 0 0,ptsV e,intV ((b+t.size - 1:Nat):Int),mnsV l] (d0c g1 g2 g3 M on β p0) (a9C (fun (y:Nat×Nat) _=>True) (fun _=>ndV (lay (meansV l) t M).pc) (fun y=>d0c g1 y.1 y.2 (M+t.w) (on++(lay (meansV l) t M).on) (links β (lay (meansV l) t M).lk) p0))
theorem b3D (n:Nat) (hn:n < 256):(a3f n).list=[(n:Int)]:=by
 rw [Bag.list_eq]
 have:(List.range 256).filter (a3f n).has=[n]:=by
  have h:(List.range 256).filter (a3f n).has=(List.range 256).filter (fun k=>k == n):=by
   apply List.filter_congr
   intro k hk
   rw [a5C n k (List.mem_range.1 hk)]
   by_cases e:k=n <;> simp [e]
  rw [h,List.filter_beq,List.count_range]
  simp [hn]
 rw [this];rfl
theorem b8S:Sb a1g (a0n Bag.zero.list):=by rw [a9m];exact .nil 0 1 _ (by decide) none
theorem a3j {g:Nat} {f:Nat→Nat→HV} {p:Pc} (h0:f 0 0=a1g) (h1:f 0 1=a1g) (h2:f 0 2=a1g) (h3:f 0 3=a1g) (h4:f 0 4=boolV p.empty) (h5:p.first=Bag.zero) (h6:p.ends=Bag.zero):a2J ⟨g,1,5,65,0,f⟩ (ndO g a1g a1g p):=by
 refine a9x ?_ ?_ ?_ ?_ ?_
 ·rw [h0];exact .refl _
 ·rw [h1];exact .refl _
 ·rw [h2];show Sb a1g (a0n p.first.list);rw [h5];exact b8S
 ·rw [h3];show Sb a1g (a0n p.ends.list);rw [h6];exact b8S
 ·rw [h4];exact .refl _
theorem a8f {g:Nat} {f:Nat→Nat→HV} {p:Pc} (h:∀ j,j < 5→f 0 j=ndF a1g a1g p 0 j):a2J ⟨g,1,5,65,0,f⟩ (ndO g a1g a1g p):=a2J.of fun i j hi hj=>by
 obtain rfl:i=0:=by omega
 rw [h j hj];exact .refl _
theorem c6d {kp sh:List (Nat×HObj)} {f:Nat→HV} {p:Pc} (h:∀ j,j < 5→f j=ndF a1g a1g p 0 j):Kz kp sh (.agg 5 f) (ndV p):=.fz _ _ (.agg _ _ _ fun j hj=>by rw [h j hj];exact c3z p j)
theorem a8o {kp sh:List (Nat×HObj)} {g1 g2 g3 M:Nat} {o2 o3:HObj} {p0:Pc} (h2:hget kp 9102=some o2) (e2:o2.g=g2) (h3:hget kp 9103=some o3) (e3:o3.g=g3):OKz kp sh (ndO g1 (.os 9102 g2 0 M) (.os 9103 g3 0 M) p0) (ndO g1 (.os 9102 g2 0 M) (.os 9103 g3 0 M) p0) :=
 a4d (by exact jn5 (.os _ _ _ _ _ h2 e2) (.os _ _ _ _ _ h3 e3) (a2X p0.first rfl rfl) (a2X p0.ends rfl rfl) (a7i p0.empty rfl rfl))
@[reducible] def c6v (l:List Pc):Nat→Nat→HV:=fun i=>ndF a1g a1g (l.getD i default) 0
theorem c8X {i:Nat} {o1 o2 o3 o4 p1 p2 p3 p4:HObj} (h1:p1.g=o1.g) (h2:p2.g=o2.g) (h3:p3.g=o3.g) (h4:p4.g=o4.g):a7O [(9101,o1),(9102,o2),(9103,o3),(i,o4)] [(9101,p1),(9102,p2),(9103,p3),(i,p4)] :=
 a1f (.head _) h1.symm (a1f (.tail _ (.head _)) h2.symm (a1f (.tail _ (.tail _ (.head _))) h3.symm (a1f (.tail _ (.tail _ (.tail _ (.head _)))) h4.symm a4m)))
theorem b3n {g M:Nat} {γ γ':Nat→Bag} {L:List HV} (h1:∀ i,i < M→γ i=γ' i) (h2:Sb (bsf L 0 0) (a0n (γ' M).list)):a2J ⟨g,M+1,1,49,0,cat M (lrF γ) (bsf L)⟩ (lrO g (M+1) γ'):=a2J.of fun i j hi hj=>by
 obtain rfl:j=0:=by omega
 unfold cat
 by_cases h:i < M
 ·have e:Nat.blt i M=true:=by simpa [Nat.blt_eq] using h
  rw [e];show Sb (a0n (γ i).list) (a0n (γ' i).list);rw [h1 i h];exact .refl _
 ·obtain rfl:i=M:=by omega
  have e:Nat.blt i i=false:=by rw [Bool.eq_false_iff];intro h';simp [Nat.blt_eq] at h'
  rw [e];show Sb (bsf L (i - i) 0) _;rw [Nat.sub_self];exact h2
theorem c8M {kp sh:List (Nat×HObj)} {id g fl M:Nat} {ty:TypeId} {f:Nat→Nat→HV} (ho:(id,(⟨g,1,1,ty,fl,f⟩:HObj))∈sh) (hf:f 0 0=intV (M:Int)) (h:M < 256):Kz kp sh (.os id g 0 1) (a0n (a3f M).list):=by
 rw [b3D M h]
 exact .fz _ _ (a2x (l:=[(M:Int)]) (enc:=fun x _=>intV x) (d:=0) ho rfl rfl (Nat.le_refl _) (fun i j hi hj=>by
  obtain rfl:i=0:=by simpa using hi
  obtain rfl:j=0:=by have:j < 1:=hj;omega
  show Fz sh (f 0 0) (intV (M:Int));rw [hf];exact .imm _))
theorem c9u {t:T} (hok:t.ok=true) (h1:t.kind≠1) (h3:t.kind≠3) (h2:t.kind≠2):t.kind=4:=by
 rcases c5v hok with h | h | h | h
 ·exact absurd h h1
 ·exact absurd h h2
 ·exact absurd h h3
 ·exact h
theorem c2O (l:List Mn) (hB:MnB l) (e:List Pt) (he:e.length≤100000) (b:Nat) (t:T) (hk4:t.kind≠4) (hok:t.ok=true) (hat:AtP e b (T.flat b t)) (hkl:t.kidsT.length≤100000)
  (ih:∀ i,i < t.kidsT.length→b7L l e (b+T.sizeL (t.kidsT.take i)) (t.kidsT.getD i default)):b7L l e b t:=by
 intro c g1 g2 g3 M0 on β p0 hon hw hβ hz
 have htop:=a3v hat
 have hps:=t.size_pos
 have hkid:=a6p b t
 have hrl:=a0K t.kidsT b
 generalize htp:t.top b=p at htop hkid
 have hpk:p.kind=t.kind:=by rw [←htp];exact a6D b t
 obtain ⟨m,hm⟩:∃ m,m=meansV l:=⟨_,rfl⟩
 have hmo:∀ s,(m s).ok:=by rw [hm];exact a3R l
 rw [←hm]
 let k0:=c
 refine a0w Tryz.func48 rfl kr _ _ _ _ rfl 233 rfl rfl (fun X ok hX=>?_)
 refine ru 2 ?_
 refine a0u 8 (a0T (id:=9208) (sz:=5) zc_65.h rfl rfl omx omx) rfl rfl a0g rfl rfl (c':=c+1) rfl ?_
 refine ru 8 ?_
 refine rvl (ptH p) (c0s om htop.1) ?_
 refine a0u 9 (a0T (id:=9209) (sz:=5) zc_105.h rfl rfl omx omx) rfl rfl a0g rfl rfl (c':=c+2) rfl ?_
 refine ru 6 ?_
 refine a0u 10 (a0T (id:=9210) (sz:=5) zc_65.h rfl rfl omx omx) rfl rfl a0g rfl rfl (c':=c+4) rfl ?_
 refine ru 11 ?_
 refine wdc (fun hr0 hc0=>?_) (fun hr0 hc0=>?_)
 ·skip
  obtain ⟨s,hts⟩:=d0e (by rw [←hpk];exact hc0) hok;have hpn:p.name=s:=(by rw [←htp,hts];rfl);have hl1:lay m t M0=⟨[m s],[],⟨a3f M0,a3f M0,false⟩⟩:=(by rw [hts];simp [lay]);have hw1:t.w=1:=(by rw [hts];rfl)
  refine ru 20 ?_
  refine clx (b8d l hB p.name) ?_
  refine a2n 47 (a0b (id:=9247) (hs:=[_]) ei_24.h omx rfl omx ⟨rfl,rfl,rfl,rfl,trivial⟩) rfl rfl a0g rfl rfl (k':=10) rfl ?_
  first
  | refine a2n 48 (a0a ei_24.h (by first | exact Nat.le_of_ble_eq_true rfl | omega | (dsimp only;omega) | (simp <;> omega)) rfl (by first | exact Nat.le_of_ble_eq_true rfl | omega | (dsimp only;omega) | (simp <;> omega)) (by first | exact Nat.le_of_ble_eq_true rfl | omega | (dsimp only;omega) | (simp <;> omega)) (a0x rfl (by first | exact Nat.le_of_ble_eq_true rfl | omega | (dsimp only;omega) | (simp <;> omega))) (by first | exact Nat.le_of_ble_eq_true rfl | omega | (dsimp only;omega) | (simp <;> omega)) rfl) rfl rfl (a0i rfl (a0P rfl)) rfl rfl (k':=11) rfl ?_
  | refine a2n 48 (a0a ei_24.h (by first | exact Nat.le_of_ble_eq_true rfl | omega | (dsimp only;omega) | (simp <;> omega)) rfl (by first | exact Nat.le_of_ble_eq_true rfl | omega | (dsimp only;omega) | (simp <;> omega)) (by first | exact Nat.le_of_ble_eq_true rfl | omega | (dsimp only;omega) | (simp <;> omega)) (a0U rfl (by first | exact Nat.le_of_ble_eq_true rfl | omega | (dsimp only;omega) | (simp <;> omega))) (by first | exact Nat.le_of_ble_eq_true rfl | omega | (dsimp only;omega) | (simp <;> omega)) rfl) rfl rfl (a0i rfl (a0P rfl)) rfl rfl (k':=11) rfl ?_
  | refine a2n 48 (a0a ei_24.h (by first | exact Nat.le_of_ble_eq_true rfl | omega | (dsimp only;omega) | (simp <;> omega)) rfl (by first | exact Nat.le_of_ble_eq_true rfl | omega | (dsimp only;omega) | (simp <;> omega)) (by first | exact Nat.le_of_ble_eq_true rfl | omega | (dsimp only;omega) | (simp <;> omega)) (a0O rfl) (by first | exact Nat.le_of_ble_eq_true rfl | omega | (dsimp only;omega) | (simp <;> omega)) rfl) rfl rfl (a0i rfl a0g) rfl rfl (k':=11) rfl ?_
  | refine a2n 48 (a0a ei_24.h (by first | exact Nat.le_of_ble_eq_true rfl | omega | (dsimp only;omega) | (simp <;> omega)) rfl (by first | exact Nat.le_of_ble_eq_true rfl | omega | (dsimp only;omega) | (simp <;> omega)) (by first | exact Nat.le_of_ble_eq_true rfl | omega | (dsimp only;omega) | (simp <;> omega)) (a0A 1 (fun _ _=>default) rfl) (by first | exact Nat.le_of_ble_eq_true rfl | omega | (dsimp only;omega) | (simp <;> omega)) rfl) rfl rfl (a0i rfl a0g) rfl rfl (k':=11) rfl ?_
  refine ru 12 ?_
  refine a0u 56 (a0b (id:=9256) (hs:=[_]) ei_24.h omx rfl omx ⟨rfl,rfl,rfl,rfl,trivial⟩) rfl rfl a0g rfl rfl (c':=c+20) rfl ?_
  first
  | refine a0u 57 (a0a ei_24.h (by first | exact Nat.le_of_ble_eq_true rfl | omega | (dsimp only;omega) | (simp <;> omega)) rfl (by first | exact Nat.le_of_ble_eq_true rfl | omega | (dsimp only;omega) | (simp <;> omega)) (by first | exact Nat.le_of_ble_eq_true rfl | omega | (dsimp only;omega) | (simp <;> omega)) (a0x rfl (by first | exact Nat.le_of_ble_eq_true rfl | omega | (dsimp only;omega) | (simp <;> omega))) (by first | exact Nat.le_of_ble_eq_true rfl | omega | (dsimp only;omega) | (simp <;> omega)) rfl) rfl rfl (a0i rfl (a0P rfl)) rfl rfl (c':=c+21) rfl ?_
  | refine a0u 57 (a0a ei_24.h (by first | exact Nat.le_of_ble_eq_true rfl | omega | (dsimp only;omega) | (simp <;> omega)) rfl (by first | exact Nat.le_of_ble_eq_true rfl | omega | (dsimp only;omega) | (simp <;> omega)) (by first | exact Nat.le_of_ble_eq_true rfl | omega | (dsimp only;omega) | (simp <;> omega)) (a0U rfl (by first | exact Nat.le_of_ble_eq_true rfl | omega | (dsimp only;omega) | (simp <;> omega))) (by first | exact Nat.le_of_ble_eq_true rfl | omega | (dsimp only;omega) | (simp <;> omega)) rfl) rfl rfl (a0i rfl (a0P rfl)) rfl rfl (c':=c+21) rfl ?_
  | refine a0u 57 (a0a ei_24.h (by first | exact Nat.le_of_ble_eq_true rfl | omega | (dsimp only;omega) | (simp <;> omega)) rfl (by first | exact Nat.le_of_ble_eq_true rfl | omega | (dsimp only;omega) | (simp <;> omega)) (by first | exact Nat.le_of_ble_eq_true rfl | omega | (dsimp only;omega) | (simp <;> omega)) (a0O rfl) (by first | exact Nat.le_of_ble_eq_true rfl | omega | (dsimp only;omega) | (simp <;> omega)) rfl) rfl rfl (a0i rfl a0g) rfl rfl (c':=c+21) rfl ?_
  | refine a0u 57 (a0a ei_24.h (by first | exact Nat.le_of_ble_eq_true rfl | omega | (dsimp only;omega) | (simp <;> omega)) rfl (by first | exact Nat.le_of_ble_eq_true rfl | omega | (dsimp only;omega) | (simp <;> omega)) (by first | exact Nat.le_of_ble_eq_true rfl | omega | (dsimp only;omega) | (simp <;> omega)) (a0A 1 (fun _ _=>default) rfl) (by first | exact Nat.le_of_ble_eq_true rfl | omega | (dsimp only;omega) | (simp <;> omega)) rfl) rfl rfl (a0i rfl a0g) rfl rfl (c':=c+21) rfl ?_
  refine ru 6 ?_
  have hsn:=b6v hon (m p.name);refine (a1b 9101 (ndO g1 (.os 9102 (c+5+10) 0 (M0+1)) (.os 9103 (c+20) 0 (M0+1)) p0) rfl (by exact a9x (.refl _) (.refl _) (.refl _) (.refl _) (.refl _))).wp ?_;refine (a1b 9102 (lrO (c+5+10) (M0+1) (onF (on++[m p.name]))) rfl (by exact b3n hsn.1 (by rw [hsn.2,hm];exact .refl _))).wp ?_;refine (a1b 9103 (lrO (c+20) (M0+1) β) rfl (by exact b3n (fun _ _=>rfl) (by rw [hz M0 (Nat.le_refl _) om];exact b8S))).wp ?_
  refine ru 2 ?_
  refine a0u 61 (a0b (id:=9261) (hs:=[_]) ei_49.h omx rfl omx ⟨rfl,rfl,rfl,rfl,trivial⟩) rfl rfl a0g rfl rfl (c':=c+23) rfl ?_
  refine ru 7 ?_
  refine a0u 64 (a0b (id:=9264) (hs:=[_]) ei_49.h omx rfl omx ⟨rfl,rfl,rfl,rfl,trivial⟩) rfl rfl a0g rfl rfl (c':=c+25) rfl ?_
  refine ru 12 ?_
  refine a1t ok hX a3g.one rfl (a0J rfl rfl ty_65.h rqc rfl rfl) [(9261,_),(9264,_)] rfl (a0i rfl (a0i rfl a0g)) ((c+5+10,c+20)) (trivial) (by rfl) (by rfl) ((by rw [hl1];exact .agg 5 _ _ (by exact jn5 (.fz _ _ (.imm _)) (.fz _ _ (.imm _)) (c8M (.head _) rfl om) (c8M (.tail _ (.head _)) rfl om) (.fz _ _ (.imm _))))) ?_
  exact ⟨⟨_,rfl,(by rw [hw1];exact a8o rfl rfl rfl rfl)⟩,⟨⟨_,rfl,(by rw [hw1,hl1,←hpn];exact a1d (fun _ _=>rfl))⟩,⟨⟨_,rfl,(by rw [hw1,hl1];exact a1d (fun _ _=>rfl))⟩,trivial⟩⟩⟩
 refine ru 10 ?_
 refine wdc (fun hr1 hc1=>?_) (fun hr1 hc1=>?_)
 ·skip
  have hkd3:t.kind=3:=(by rw [←hpk];exact hc1);have hwm:=a9V (t:=t) (by rw [hkd3];decide) (by rw [hkd3];decide);have hll:lay m t M0=a5I m t.kidsT M0 ⟨[],[],default⟩:=(by obtain ⟨ts,hts⟩:=b5o hkd3 hok;rw [hts];simp [lay,T.kidsT])
  refine ru 7 ?_
  refine a0l (α:=Nat×Nat×List Bag×(Nat→Bag)×Pc×Nat×Nat) (fun x c=>⟨233,[(0,.v (.pt 9101 g1 0 0)),(1,.v (ptsV e)),(3,.v (mnsV l)),(8,.v (.pt 9208 k0 0 0)),(9,.v (.pt 9209 (k0+1) 0 0)),(10,.v (.pt 9210 (k0+3) 0 0)),(12,.v (intV (x.1:Int)))],[(9101,ndO g1 (.os 9102 x.2.2.2.2.2.1 0 x.2.1) (.os 9103 x.2.2.2.2.2.2 0 x.2.1) p0),(9102,lrO x.2.2.2.2.2.1 x.2.1 (onF x.2.2.1)),(9103,lrO x.2.2.2.2.2.2 x.2.1 x.2.2.2.1),(9208,ndO k0 a1g a1g default),(9209,⟨k0+1,1,5,105,0,fun _=>ptF p⟩),(9210,ndO (k0+3) a1g a1g x.2.2.2.2.1)],c⟩) (fun x=>x.1≤t.kidsT.length∧x.2.1=M0+T.wL (t.kidsT.take x.1)∧x.2.2.1=on++(a5I m (t.kidsT.take x.1) M0 ⟨[],[],default⟩).on∧x.2.2.2.1=links β (a5I m (t.kidsT.take x.1) M0 ⟨[],[],default⟩).lk∧x.2.2.2.2.1=(a5I m (t.kidsT.take x.1) M0 ⟨[],[],default⟩).pc) (fun x=>t.kidsT.length - x.1) ((0,M0,on,β,default,g2,g3)) (by exact ⟨Nat.zero_le _,by simp [T.wL],by simp [a5I],by simp [a5I,links],by simp [a5I]⟩) (a0c rfl (Nat.le_refl _) tsa (hsr rfl (hsr rfl (hsr rfl (a0e.cons rfl (a3j rfl rfl rfl rfl rfl rfl rfl) (hsr rfl (a0e.cons rfl (a3j rfl rfl rfl rfl rfl rfl rfl) a0e.nil))))))) (fun x c hx NhL1 hL1=>?_)
  revert hx hL1;obtain ⟨ii,MM,on1,be1,ou1,y2,y3⟩:=x;intro hx hL1;dsimp only at hx hL1 ⊢
  obtain ⟨hi,hMM,hon1,hbe1,hou1⟩:=hx
  have hA:=b5C hmo t.kidsT ii M0 om
  refine ru 10 ?_
  refine wdc (fun hr2 hc2=>?_) (fun hr2 hc2=>?_)
  ·skip
   have him:ii < t.kidsT.length:=(by have h:=hr2;simp [hkid,hrl] at h;omega);have hka:=a2v hat him;have hkt:=a3v hka;have hks:=(t.kidsT.getD ii default).size_pos;have hroot:=a2Y t.kidsT b ii him;have hwt:=a6c t.kidsT ii him;have hwl:=b4e t.kidsT (ii+1);have hxw:MM+(t.kidsT.getD ii default).w≤256:=om;have hlen1:on1.length=MM:=(by rw [hon1,List.length_append,hA.len,hon,hMM]);have hbok:∀ q,(be1 q).ok:=(by rw [hbe1];exact a1j hA.lk hβ);have hbz:∀ q,MM≤q→q < 256→be1 q=Bag.zero:=(by rw [hbe1,hMM];exact a2F hA.lk (fun q hq hq2=>hz q om hq2));have hsn:=a8C m (t.kidsT.take ii) M0 ⟨[],[],default⟩ (t.kidsT.getD ii default);rw [←a4c him] at hsn;have hih:=ih ii him;unfold b7L at hih;rw [←hm] at hih
   refine ru 13 ?_
   refine rvl (intV ((b+T.sizeL (t.kidsT.take ii)+(t.kidsT.getD ii default).size - 1:Nat):Int)) (by exact a1O (i:=ii) om (by rw [hkid,hroot];unfold T.root;omega)) ?_
   refine ru 1 ?_
   refine a0s 85 (xs:=[_,_,_,_]) (pre:=[(9101,_),(9102,_),(9103,_)]) (hih _ g1 y2 y3 MM on1 be1 p0 hlen1 hxw hbok hbz) ⟨rfl,⟨rfl,⟨rfl,⟨rfl,trivial⟩⟩⟩⟩ (a0i rfl (a0i rfl (a0i rfl a0g))) rfl rfl (fun x1 c1 hzz=>?_)
   obtain ⟨z2,z3⟩:=x1
   (try dsimp only)
   refine a0u 13 (a0T (id:=9213) (sz:=5) zc_65.h rfl rfl omx omx) rfl rfl a0g rfl rfl (c':=c1+1) rfl ?_
   refine ru 9 ?_
   refine cll (a3H ou1.first (lay m (t.kidsT.getD ii default) MM).pc.first) ?_
   refine ru 10 ?_
   refine cll (a3H ou1.ends (lay m (t.kidsT.getD ii default) MM).pc.ends) ?_
   refine ru 21 ?_
   exact hL1 ((ii+1,MM+(t.kidsT.getD ii default).w,on1++(lay m (t.kidsT.getD ii default) MM).on,links be1 (lay m (t.kidsT.getD ii default) MM).lk,⟨bun ou1.first (lay m (t.kidsT.getD ii default) MM).pc.first,bun ou1.ends (lay m (t.kidsT.getD ii default) MM).pc.ends,ou1.empty||(lay m (t.kidsT.getD ii default) MM).pc.empty⟩,z2,z3)) _ _ (by (try dsimp only);exact ⟨by omega,by rw [hMM,hwt,Nat.add_assoc],by rw [hsn,←hMM,hon1];simp only [stC,List.append_assoc],by rw [hsn,←hMM,hbe1];simp only [stC];rw [a0M],by rw [hsn,←hMM,hou1];rfl⟩) (by (try dsimp only);omega) (a0c rfl (Nat.le_refl _) tsa (hsr rfl (hsr rfl (hsr rfl (hsr rfl (hsr rfl (a0e.cons rfl (a8f (by exact jn5 rfl rfl rfl rfl rfl)) a0e.nil)))))))
  have hit:ii=t.kidsT.length:=(by have h:=hr2;simp [hkid,hrl] at h;omega);rw [hit,List.take_length] at hA hMM hon1 hbe1 hou1
  refine ru 2 ?_
  refine a0d ?_
  refine ru 10 ?_
  refine fr1 ok hX rw1 ((y2,y3)) (trivial) ((by rw [hll,←hou1];exact c6d (by exact jn5 rfl rfl rfl rfl rfl))) ?_
  exact ⟨⟨_,rfl,(by rw [hwm,←hMM];exact a8o rfl rfl rfl rfl)⟩,⟨⟨_,rfl,(by rw [hwm,←hMM,hll,←hon1];exact a1d (fun _ _=>rfl))⟩,⟨⟨_,rfl,(by rw [hwm,←hMM,hll,←hbe1];exact a1d (fun _ _=>rfl))⟩,trivial⟩⟩⟩
 refine ru 16 ?_
 refine wdc (fun hr3 hc3=>?_) (fun hr3 hc3=>?_)
 ·skip
  have hkd2:t.kind=2:=(by rw [←hpk];exact hc3);have hwm:=a9V (t:=t) (by rw [←hpk];exact hc0) (by rw [hkd2];decide);have hll:lay m t M0=a5J m t.kidsT M0 ⟨[],[],Pc.nil⟩:=(by obtain ⟨k,ts,hts,hk3⟩:=c8l (by rw [←hpk];exact hc0) (by rw [hkd2];decide) (by rw [←hpk];exact hc1) hok;rw [hts];simp [lay,hk3,T.kidsT])
  refine ru 7 ?_
  refine a0l (α:=Nat×Nat×List Bag×(Nat→Bag)×Pc×Nat×Nat) (fun x c=>⟨233,[(0,.v (.pt 9101 g1 0 0)),(1,.v (ptsV e)),(3,.v (mnsV l)),(8,.v (.pt 9208 k0 0 0)),(9,.v (.pt 9209 (k0+1) 0 0)),(10,.v (.pt 9210 (k0+3) 0 0)),(14,.v (intV (x.1:Int)))],[(9101,ndO g1 (.os 9102 x.2.2.2.2.2.1 0 x.2.1) (.os 9103 x.2.2.2.2.2.2 0 x.2.1) p0),(9102,lrO x.2.2.2.2.2.1 x.2.1 (onF x.2.2.1)),(9103,lrO x.2.2.2.2.2.2 x.2.1 x.2.2.2.1),(9208,ndO k0 a1g a1g default),(9209,⟨k0+1,1,5,105,0,fun _=>ptF p⟩),(9210,ndO (k0+3) a1g a1g x.2.2.2.2.1)],c⟩) (fun x=>x.1≤t.kidsT.length∧x.2.1=M0+T.wL (t.kidsT.take x.1)∧x.2.2.1=on++(a5J m (t.kidsT.take x.1) M0 ⟨[],[],Pc.nil⟩).on∧x.2.2.2.1=links β (a5J m (t.kidsT.take x.1) M0 ⟨[],[],Pc.nil⟩).lk∧x.2.2.2.2.1=(a5J m (t.kidsT.take x.1) M0 ⟨[],[],Pc.nil⟩).pc) (fun x=>t.kidsT.length - x.1) ((0,M0,on,β,Pc.nil,g2,g3)) (by exact ⟨Nat.zero_le _,by simp [T.wL],by simp [a5J],by simp [a5J,links],by simp [a5J]⟩) (a0c rfl (Nat.le_refl _) tsa (hsr rfl (hsr rfl (hsr rfl (a0e.cons rfl (a3j rfl rfl rfl rfl rfl rfl rfl) (hsr rfl (a0e.cons rfl (a3j rfl rfl rfl rfl rfl rfl rfl) a0e.nil))))))) (fun x c hx NhL2 hL2=>?_)
  revert hx hL2;obtain ⟨ii,MM,on1,be1,ou1,y2,y3⟩:=x;intro hx hL2;dsimp only at hx hL2 ⊢
  obtain ⟨hi,hMM,hon1,hbe1,hou1⟩:=hx
  have hA:=b6d hmo t.kidsT ii M0 om
  refine ru 10 ?_
  refine wdc (fun hr4 hc4=>?_) (fun hr4 hc4=>?_)
  ·skip
   have him:ii < t.kidsT.length:=(by have h:=hr4;simp [hkid,hrl] at h;omega);have hka:=a2v hat him;have hkt:=a3v hka;have hks:=(t.kidsT.getD ii default).size_pos;have hroot:=a2Y t.kidsT b ii him;have hwt:=a6c t.kidsT ii him;have hwl:=b4e t.kidsT (ii+1);have hxw:MM+(t.kidsT.getD ii default).w≤256:=om;have hly:=a3T hmo (t.kidsT.getD ii default) MM hxw;have hlen1:on1.length=MM:=(by rw [hon1,List.length_append,hA.len,hon,hMM]);have hbok:∀ q,(be1 q).ok:=(by rw [hbe1];exact a1j hA.lk hβ);have hbz:∀ q,MM≤q→q < 256→be1 q=Bag.zero:=(by rw [hbe1,hMM];exact a2F hA.lk (fun q hq hq2=>hz q om hq2));have hou2:ou1.ok:=(by rw [hou1];exact hA.pc);have hino:InB M0 (MM+(t.kidsT.getD ii default).w) ou1.ends:=(by rw [hou1,hMM];exact hA.inB.2.mono (Nat.le_refl _) om);have hsn:=a8J m (t.kidsT.take ii) M0 ⟨[],[],Pc.nil⟩ (t.kidsT.getD ii default);rw [←a4c him] at hsn;have hih:=ih ii him;unfold b7L at hih;rw [←hm] at hih
   refine ru 13 ?_
   refine rvl (intV ((b+T.sizeL (t.kidsT.take ii)+(t.kidsT.getD ii default).size - 1:Nat):Int)) (by exact a1O (i:=ii) om (by rw [hkid,hroot];unfold T.root;omega)) ?_
   refine ru 1 ?_
   refine a0s 125 (xs:=[_,_,_,_]) (pre:=[(9101,_),(9102,_),(9103,_)]) (hih _ g1 y2 y3 MM on1 be1 p0 hlen1 hxw hbok hbz) ⟨rfl,⟨rfl,⟨rfl,⟨rfl,trivial⟩⟩⟩⟩ (a0i rfl (a0i rfl (a0i rfl a0g))) rfl rfl (fun x2 c2 hzz=>?_)
   obtain ⟨z2,z3⟩:=x2
   (try dsimp only)
   refine a0u 15 (a0T (id:=9215) (sz:=5) zc_65.h rfl rfl omx omx) rfl rfl a0g rfl rfl (c':=c2+1) rfl ?_
   refine ru 6 ?_
   refine rvl (ndV (lay m (t.kidsT.getD ii default) MM).pc) (rfl) ?_
   refine hm_ 128 (a1R (xs:=[_,_,_]) (pre:=[(9101,_),(9102,_),(9103,_),(9210,_)]) (a9s ou1 (lay m (t.kidsT.getD ii default) MM).pc hou2 hly.pc (MM+(t.kidsT.getD ii default).w) g1 z2 z3 (k0+3) (onF (on1++(lay m (t.kidsT.getD ii default) MM).on)) _ p0 (a5O hino) hxw) ((c8X rfl rfl rfl rfl)) ⟨rfl,⟨rfl,⟨rfl,trivial⟩⟩⟩) rfl rfl (a0i rfl (a0i rfl (a0i rfl (a0i rfl a0g)))) rfl rfl (c':=c2+3) rfl ?_
   refine ru 8 ?_
   exact hL2 ((ii+1,MM+(t.kidsT.getD ii default).w,on1++(lay m (t.kidsT.getD ii default) MM).on,a1X (links be1 (lay m (t.kidsT.getD ii default) MM).lk) (ou1.ends,(lay m (t.kidsT.getD ii default) MM).pc.first),ou1.join (lay m (t.kidsT.getD ii default) MM).pc,z2,z3)) _ _ (by (try dsimp only);exact ⟨by omega,by rw [hMM,hwt,Nat.add_assoc],by rw [hsn,←hMM,hon1];simp only [stR,List.append_assoc],by rw [hsn,←hMM,hbe1,hou1];simp only [stR];rw [a0M,a0M];rfl,by rw [hsn,←hMM,hou1];rfl⟩) (by (try dsimp only);omega) (a0c rfl (Nat.le_refl _) tsa hsa)
  have hit:ii=t.kidsT.length:=(by have h:=hr4;simp [hkid,hrl] at h;omega);rw [hit,List.take_length] at hA hMM hon1 hbe1 hou1
  refine ru 2 ?_
  refine a0d ?_
  refine ru 10 ?_
  refine fr1 ok hX rw1 ((y2,y3)) (trivial) ((by rw [hll,←hou1];exact c6d (by exact jn5 rfl rfl rfl rfl rfl))) ?_
  exact ⟨⟨_,rfl,(by rw [hwm,←hMM];exact a8o rfl rfl rfl rfl)⟩,⟨⟨_,rfl,(by rw [hwm,←hMM,hll,←hon1];exact a1d (fun _ _=>rfl))⟩,⟨⟨_,rfl,(by rw [hwm,←hMM,hll,←hbe1];exact a1d (fun _ _=>rfl))⟩,trivial⟩⟩⟩
 exfalso;exact hk4 (c9u hok (by rw [←hpk];exact hc0) (by rw [←hpk];exact hc1) (by rw [←hpk];exact hc3))
theorem c3O {l:List Pc} {i:Nat} {x:Pc} {f:Nat→HV} (h:l.getD i default=x) (hf:∀ j,f j=c6v l i j):HV.agg 5 f=ndV x:=by
 subst h
 show HV.agg 5 f=HV.agg 5 _
 congr 1;funext j;exact hf j
theorem b6Q (l:List Mn) (hB:MnB l) (e:List Pt) (he:e.length≤100000) (b:Nat) (t:T) (hk4:t.kind=4) (hok:t.ok=true) (hat:AtP e b (T.flat b t)) (hkl:t.kidsT.length≤100000)
  (ih:∀ i,i < t.kidsT.length→b7L l e (b+T.sizeL (t.kidsT.take i)) (t.kidsT.getD i default)):b7L l e b t:=by
 intro c g1 g2 g3 M0 on β p0 hon hw hβ hz
 have htop:=a3v hat
 have hps:=t.size_pos
 have hkid:=a6p b t
 have hrl:=a0K t.kidsT b
 generalize htp:t.top b=p at htop hkid
 have hpk:p.kind=4:=by rw [←htp,a6D b t];exact hk4
 obtain ⟨m,hm⟩:∃ m,m=meansV l:=⟨_,rfl⟩
 have hmo:∀ s,(m s).ok:=by rw [hm];exact a3R l
 rw [←hm]
 obtain ⟨lo,hi,u,htu⟩:=b3L hk4 hok
 have hct:=a8W b hk4 hok
 rw [htp] at hct
 have hmi:=a6G p.low p.high hct.2.1
 have hpl:p.low=lo∧p.high=hi:=by rw [←htp,htu];exact ⟨rfl,rfl⟩
 have hk1:t.kidsT=[u]:=by rw [htu];rfl
 have hkl0:p.kids.length=1:=by rw [hkid,hrl,hk1];rfl
 have h0k:0 < t.kidsT.length:=by rw [hk1];exact Nat.zero_lt_one
 have hiu:b7L l e b u:=by have h:=ih 0 h0k;rw [hk1] at h;simpa [T.sizeL] using h
 have hka:=a2v hat h0k
 have hroot:=a2Y t.kidsT b 0 h0k
 have hu0:t.kidsT.getD 0 default=u:=by rw [hk1];rfl
 have hs0:T.sizeL (t.kidsT.take 0)=0:=by simp [T.sizeL]
 rw [hu0,hs0,Nat.add_zero] at hroot
 have hus:=u.size_pos
 unfold b7L at hiu
 rw [←hm] at hiu
 have hll:lay m t M0=a7a p.low p.high (fun k=>lay m u (M0+k * u.w)):=by rw [htu,hpl.1,hpl.2];simp [lay]
 have htw:t.w=a0j p.low p.high * u.w:=by rw [hct.1,hk1,Nat.mul_comm];simp [T.wL]
 have hdoc:=b5e hct.2.1 (hi:=p.high) (fun k=>lay m u (M0+k * u.w)) β
 obtain ⟨many,hmany⟩:∃ k,k=a0j p.low p.high:=⟨_,rfl⟩
 obtain ⟨g,hg'⟩:∃ g,g=fun k=>lay m u (M0+k * u.w):=⟨_,rfl⟩
 have hgk:∀ k,lay m u (M0+k * u.w)=g k:=fun k=>by rw [hg']
 rw [←hmany] at hmi htw hdoc
 rw [←hg'] at hll hdoc
 have hm20:many≤20:=by rw [hmany];exact hct.2.2.2.2
 have hg:∀ k,k < many→(g k).Ok (M0+k * u.w) u.w:=fun k hk=>by rw [←hgk];exact a3T hmo u _ (by have:=c8G (w:=u.w) hk;omega)
 rw [htw] at hw ⊢
 rw [hll]
 obtain ⟨R,hR⟩:∃ R,R=a3Z p.low.toNat g many:=⟨_,rfl⟩
 rw [←hR] at hdoc
 have hRl:R.length=many - p.low.toNat:=by rw [hR];exact a5k _ _ _
 have hRo:∀ x∈R,x.ok∧x.inB M0 (M0+many * u.w):=by rw [hR];exact b5A hg many (Nat.le_refl _)
 let k0:=c
 refine a0w Tryz.func48 rfl kr _ _ _ _ rfl 233 rfl rfl (fun X ok hX=>?_)
 refine ru 2 ?_
 refine a0u 8 (a0T (id:=9208) (sz:=5) zc_65.h rfl rfl omx omx) rfl rfl a0g rfl rfl (c':=c+1) rfl ?_
 refine ru 8 ?_
 refine rvl (ptH p) (c0s om htop.1) ?_
 refine a0u 9 (a0T (id:=9209) (sz:=5) zc_105.h rfl rfl omx omx) rfl rfl a0g rfl rfl (c':=c+2) rfl ?_
 refine ru 6 ?_
 refine a0u 10 (a0T (id:=9210) (sz:=5) zc_65.h rfl rfl omx omx) rfl rfl a0g rfl rfl (c':=c+4) rfl ?_
 refine ru 11 ?_
 refine wdc (fun hr0 hc0=>?_) (fun hr0 hc0=>?_)
 ·skip
  exfalso;omega
 refine ru 10 ?_
 refine wdc (fun hr1 hc1=>?_) (fun hr1 hc1=>?_)
 ·skip
  exfalso;omega
 refine ru 16 ?_
 refine wdc (fun hr3 hc3=>?_) (fun hr3 hc3=>?_)
 ·skip
  exfalso;omega
 refine ru 9 ?_
 refine a6q (α:=Nat) (fun x c=>⟨233,[(0,.v (.pt 9101 g1 0 0)),(1,.v (ptsV e)),(3,.v (mnsV l)),(8,.v (.pt 9208 k0 0 0)),(9,.v (.pt 9209 (k0+1) 0 0)),(10,.v (.pt 9210 (k0+3) 0 0)),(16,.v (intV (many:Int)))],[(9101,ndO g1 (.os 9102 g2 0 M0) (.os 9103 g3 0 M0) p0),(9102,lrO g2 M0 (onF on)),(9103,lrO g3 M0 β),(9208,ndO k0 a1g a1g default),(9209,⟨k0+1,1,5,105,0,fun _=>ptF p⟩),(9210,ndO (k0+3) a1g a1g Pc.nil)],c⟩) (fun x=>x≤0) (fun NhJ1 hJ1=>?_) (fun q c hx=>?_)
 ·refine ru 6 ?_
  refine wdc (fun hr5 hc5=>?_) (fun hr5 hc5=>?_)
  ·refine ru 4 ?_
   refine rvl (intV (many:Int)) (by rw [←hmi,if_pos hc5]) ?_
   refine ru 2 ?_
   exact hJ1 (0) _ _ (by (try dsimp only);first | done | exact Nat.le_refl _) (a0c rfl (Nat.le_refl _) tsa (hsr rfl (hsr rfl (hsr rfl (a0e.cons rfl (a3j rfl rfl rfl rfl rfl rfl rfl) (hsr rfl (a0e.cons rfl (a3j rfl rfl rfl rfl rfl rfl rfl) a0e.nil)))))))
  refine ru 1 ?_
  exact hJ1 (0) _ _ (by (try dsimp only);first | done | exact Nat.le_refl _) (a0c rfl (Nat.le_refl _) (tsr rfl (tsr rfl (tsr rfl (tsr rfl (tsr rfl (tsr rfl (a0t.cons rfl (by rw [←hmi,if_neg hc5];exact .refl _) a0t.nil))))))) (hsr rfl (hsr rfl (hsr rfl (a0e.cons rfl (a3j rfl rfl rfl rfl rfl rfl rfl) (hsr rfl (a0e.cons rfl (a3j rfl rfl rfl rfl rfl rfl rfl) a0e.nil)))))))
 ·skip
  (try dsimp only at hx ⊢)
  refine ru 12 ?_
  refine a5i 17 9117 5 65 ((c6v [])) rfl (by decide) rfl (c':=c+1) rfl ?_
  refine a0l (α:=Nat×Nat×List Bag×(Nat→Bag)×Nat×Nat×Nat) (fun x c=>⟨233,[(0,.v (.pt 9101 g1 0 0)),(1,.v (ptsV e)),(3,.v (mnsV l)),(8,.v (.pt 9208 k0 0 0)),(9,.v (.pt 9209 (k0+1) 0 0)),(10,.v (.pt 9210 (k0+3) 0 0)),(16,.v (intV (many:Int))),(17,.v (.os 9117 x.2.2.2.2.2.2 0 (a8Z g x.1).length)),(18,.v (intV (x.1:Int)))],[(9101,ndO g1 (.os 9102 x.2.2.2.2.1 0 x.2.1) (.os 9103 x.2.2.2.2.2.1 0 x.2.1) p0),(9102,lrO x.2.2.2.2.1 x.2.1 (onF x.2.2.1)),(9103,lrO x.2.2.2.2.2.1 x.2.1 x.2.2.2.1),(9208,ndO k0 a1g a1g default),(9209,⟨k0+1,1,5,105,0,fun _=>ptF p⟩),(9210,ndO (k0+3) a1g a1g Pc.nil),(9117,⟨x.2.2.2.2.2.2,(a8Z g x.1).length,5,65,0,c6v (a8Z g x.1)⟩)],c⟩) (fun x=>x.1≤many∧x.2.1=M0+x.1 * u.w∧x.2.2.1=on++onP g x.1∧x.2.2.2.1=links β (lkP p.high g many x.1)) (fun x=>many - x.1) ((0,M0,on,β,g2,g3,c)) (by exact ⟨Nat.zero_le _,by simp,by simp [onP],by simp [lkP,links]⟩) (a0c rfl (Nat.le_refl _) tsa hsa) (fun x c hx NhL2 hL2=>?_)
  revert hx hL2;obtain ⟨kk,MM,on1,be1,y2,y3,gr⟩:=x;intro hx hL2;dsimp only at hx hL2 ⊢
  obtain ⟨hk,hMM,hon1,hbe1⟩:=hx
  have hpl2:=b0s g kk
  refine ru 8 ?_
  refine wdc (fun hr6 hc6=>?_) (fun hr6 hc6=>?_)
  ·skip
   have hkm:kk < many:=om;have hgo:=hg kk hkm;have hkw:=c8G (w:=u.w) hkm;have hMw:MM+u.w≤256:=om;have hL:=b8n (hi:=p.high) hg kk hk;have hlen1:on1.length=MM:=(by rw [hon1,List.length_append,hon,b3C hg kk hk,hMM]);have hbok:∀ q,(be1 q).ok:=(by rw [hbe1];exact a1j hL hβ);have hbz:∀ q,MM≤q→q < 256→be1 q=Bag.zero:=(by rw [hbe1,hMM];exact a2F hL (fun q hq hq2=>hz q om hq2));have hMg:lay m u MM=g kk:=(by rw [hMM];exact hgk kk);have hih:=fun c=>hiu c g1 y2 y3 MM on1 be1 p0 hlen1 hMw hbok hbz;simp only [hMg] at hih;have hine:InB (M0+kk * u.w) (MM+u.w) (g kk).pc.ends:=(by rw [hMM];exact hgo.inB.2);have hle:=a2H (g kk).pc.ends
   refine ru 12 ?_
   refine rvl (intV ((b+u.size - 1:Nat):Int)) (by exact a1O (i:=0) om (by rw [hkid,hroot];unfold T.root;omega)) ?_
   refine ru 1 ?_
   refine a0s 149 (xs:=[_,_,_,_]) (pre:=[(9101,_),(9102,_),(9103,_)]) (hih _) ⟨rfl,⟨rfl,⟨rfl,⟨rfl,trivial⟩⟩⟩⟩ (a0i rfl (a0i rfl (a0i rfl a0g))) rfl rfl (fun x1 c1 hzz=>?_)
   obtain ⟨z2,z3⟩:=x1
   (try dsimp only)
   refine a0u 19 (a0T (id:=9219) (sz:=5) zc_65.h rfl rfl omx omx) rfl rfl a0g rfl rfl (c':=c1+1) rfl ?_
   refine ru 3 ?_
   refine a6q (α:=Nat→Bag) (fun x c=>⟨233,[(0,.v (.pt 9101 g1 0 0)),(1,.v (ptsV e)),(3,.v (mnsV l)),(8,.v (.pt 9208 k0 0 0)),(9,.v (.pt 9209 (k0+1) 0 0)),(10,.v (.pt 9210 (k0+3) 0 0)),(16,.v (intV (many:Int))),(17,.v (.os 9117 gr 0 (a8Z g kk).length)),(18,.v (intV (kk:Int))),(19,.v (.pt 9219 c1 0 0))],[(9101,ndO g1 (.os 9102 z2 0 (MM+u.w)) (.os 9103 z3 0 (MM+u.w)) p0),(9102,lrO z2 (MM+u.w) (onF (on1++(g kk).on))),(9103,lrO z3 (MM+u.w) x),(9208,ndO k0 a1g a1g default),(9209,⟨k0+1,1,5,105,0,fun _=>ptF p⟩),(9210,ndO (k0+3) a1g a1g Pc.nil),(9117,⟨gr,(a8Z g kk).length,5,65,0,c6v (a8Z g kk)⟩),(9219,ndO c1 a1g a1g (g kk).pc)],c⟩) (fun x=>x=links β (lkP p.high g many (kk+1))) (fun NhJ3 hJ3=>?_) (fun be2 c hx=>?_)
   ·refine ru 13 ?_
    refine wdc (fun hr7 hc7=>?_) (fun hr7 hc7=>?_)
    ·refine ru 6 ?_
     refine a0l (α:=Nat) (fun x c=>⟨233,[(0,.v (.pt 9101 g1 0 0)),(1,.v (ptsV e)),(3,.v (mnsV l)),(8,.v (.pt 9208 k0 0 0)),(9,.v (.pt 9209 (k0+1) 0 0)),(10,.v (.pt 9210 (k0+3) 0 0)),(16,.v (intV (many:Int))),(17,.v (.os 9117 gr 0 (a8Z g kk).length)),(18,.v (intV (kk:Int))),(19,.v (.pt 9219 c1 0 0)),(20,.v (intV (x:Int)))],[(9101,ndO g1 (.os 9102 z2 0 (MM+u.w)) (.os 9103 z3 0 (MM+u.w)) p0),(9102,lrO z2 (MM+u.w) (onF (on1++(g kk).on))),(9103,lrO z3 (MM+u.w) (a4b (g kk).pc.ends (g kk).pc.first (links be1 (g kk).lk) x)),(9208,ndO k0 a1g a1g default),(9209,⟨k0+1,1,5,105,0,fun _=>ptF p⟩),(9210,ndO (k0+3) a1g a1g Pc.nil),(9117,⟨gr,(a8Z g kk).length,5,65,0,c6v (a8Z g kk)⟩),(9219,ndO c1 a1g a1g (g kk).pc)],c⟩) (fun x=>x≤(g kk).pc.ends.list.length) (fun x=>(g kk).pc.ends.list.length - x) (0) om (a0c rfl (Nat.le_refl _) tsa (hsr rfl (hsr rfl (a0e.cons rfl (a5q fun p hp=>by show a0n _=_;rw [a7r]) (hsr rfl (hsr rfl (hsr rfl (hsr rfl (a0e.cons rfl (a8f (by exact jn5 rfl rfl rfl rfl rfl)) a0e.nil))))))))) (fun j c hx NhL4 hL4=>?_)
     (try dsimp only at hx hL4 ⊢)
     obtain hj:=hx
     refine ru 10 ?_
     refine wdc (fun hr8 hc8=>?_) (fun hr8 hc8=>?_)
     ·skip
      have hj':j < (g kk).pc.ends.list.length:=om;obtain ⟨q,hq256,hqA,hq⟩:=a4J (g kk).pc.ends hj';have hqM:=a5O hine q hq256 hqA
      refine ru 13 ?_
      first
      | refine a3I 174 (HOp.val (v':=intV (q:Int)) (a0D ty_3.h rfl (by first | exact Nat.le_of_ble_eq_true rfl | omega | (dsimp only;omega) | (simp <;> omega)) (by first | exact Nat.le_of_ble_eq_true rfl | omega | (dsimp only;omega) | (simp <;> omega)) (fun h=>(by first | rfl | cases h))) (congrArg intV hq)) rfl rfl (a0P rfl) rfl rfl (k':=9) rfl ?_
      | refine a3I 174 (HOp.val (v':=intV (q:Int)) (a0r ty_3.h rfl (by first | exact Nat.le_of_ble_eq_true rfl | omega | (dsimp only;omega) | (simp <;> omega)) (fun h=>(by first | rfl | cases h))) (congrArg intV hq)) rfl rfl a0g rfl rfl (k':=9) rfl ?_
      refine ru 8 ?_
      first
      | refine a3I 183 (HOp.val (v':=intV (q:Int)) (a0D ty_3.h rfl (by first | exact Nat.le_of_ble_eq_true rfl | omega | (dsimp only;omega) | (simp <;> omega)) (by first | exact Nat.le_of_ble_eq_true rfl | omega | (dsimp only;omega) | (simp <;> omega)) (fun h=>(by first | rfl | cases h))) (congrArg intV hq)) rfl rfl (a0P rfl) rfl rfl (k':=18) rfl ?_
      | refine a3I 183 (HOp.val (v':=intV (q:Int)) (a0r ty_3.h rfl (by first | exact Nat.le_of_ble_eq_true rfl | omega | (dsimp only;omega) | (simp <;> omega)) (fun h=>(by first | rfl | cases h))) (congrArg intV hq)) rfl rfl a0g rfl rfl (k':=18) rfl ?_
      refine ru 4 ?_
      refine d0 23 (a0f (xs:=[_,_]) (a3H (a4b (g kk).pc.ends (g kk).pc.first (links be1 (g kk).lk) j q) (g kk).pc.first) ⟨rfl,⟨rfl,trivial⟩⟩ ⟨(Fz.eq (by rw [Nat.zero_add];rfl)),⟨(Fz.eq rfl),trivial⟩⟩) ?_
      refine ru 10 ?_
      exact hL4 (j+1) _ _ (by (try dsimp only);omega) (by (try dsimp only);omega) (a0c rfl (Nat.le_refl _) tsa (hsr rfl (hsr rfl (a0e.cons rfl (a5q fun p hp=>b1d.trans (by rw [a5F _ _ _ hj' hq,Nat.zero_add];rfl)) hsa))))
     have hje:j=(g kk).pc.ends.list.length:=om
     refine ru 2 ?_
     refine a0d ?_
     refine ru 1 ?_
     exact hJ3 (a1X (links be1 (g kk).lk) ((g kk).pc.ends,(g kk).pc.first)) _ _ (by (try dsimp only);rw [hbe1];simp only [lkP];rw [if_pos om,a0M,a0M];rfl) (a0c rfl (Nat.le_refl _) tsa (hsr rfl (hsr rfl (a0e.cons rfl (a5q fun p hp=>by show a0n _=_;rw [hje,a1P _ _ _ om]) hsa))))
    refine ru 1 ?_
    exact hJ3 (links be1 (g kk).lk) _ _ (by (try dsimp only);rw [hbe1];simp only [lkP];rw [if_neg (fun h=>by simp [h.1] at hc7;omega),List.append_nil,a0M]) (a0c rfl (Nat.le_refl _) tsa (hsr rfl (hsr rfl (hsr rfl (hsr rfl (hsr rfl (hsr rfl (hsr rfl (a0e.cons rfl (a8f (by exact jn5 rfl rfl rfl rfl rfl)) a0e.nil)))))))))
   ·skip
    (try dsimp only at hx ⊢)
    refine ru 3 ?_
    refine rvl (ndV (g kk).pc) (rfl) ?_
    refine a0u 192 (a0b (id:=9392) (hs:=[_]) ei_152.h omx rfl omx ⟨rfl,rfl,rfl,rfl,trivial⟩) rfl rfl a0g rfl rfl (c':=c+1) rfl ?_
    first
    | refine a0u 193 (a0a ei_152.h (by first | exact Nat.le_of_ble_eq_true rfl | omega | (dsimp only;omega) | (simp <;> omega)) rfl (by first | exact Nat.le_of_ble_eq_true rfl | omega | (dsimp only;omega) | (simp <;> omega)) (by first | exact Nat.le_of_ble_eq_true rfl | omega | (dsimp only;omega) | (simp <;> omega)) (a0x rfl (by first | exact Nat.le_of_ble_eq_true rfl | omega | (dsimp only;omega) | (simp <;> omega))) (by first | exact Nat.le_of_ble_eq_true rfl | omega | (dsimp only;omega) | (simp <;> omega)) rfl) rfl rfl (a0i rfl (a0P rfl)) rfl rfl (c':=c+2) rfl ?_
    | refine a0u 193 (a0a ei_152.h (by first | exact Nat.le_of_ble_eq_true rfl | omega | (dsimp only;omega) | (simp <;> omega)) rfl (by first | exact Nat.le_of_ble_eq_true rfl | omega | (dsimp only;omega) | (simp <;> omega)) (by first | exact Nat.le_of_ble_eq_true rfl | omega | (dsimp only;omega) | (simp <;> omega)) (a0U rfl (by first | exact Nat.le_of_ble_eq_true rfl | omega | (dsimp only;omega) | (simp <;> omega))) (by first | exact Nat.le_of_ble_eq_true rfl | omega | (dsimp only;omega) | (simp <;> omega)) rfl) rfl rfl (a0i rfl (a0P rfl)) rfl rfl (c':=c+2) rfl ?_
    | refine a0u 193 (a0a ei_152.h (by first | exact Nat.le_of_ble_eq_true rfl | omega | (dsimp only;omega) | (simp <;> omega)) rfl (by first | exact Nat.le_of_ble_eq_true rfl | omega | (dsimp only;omega) | (simp <;> omega)) (by first | exact Nat.le_of_ble_eq_true rfl | omega | (dsimp only;omega) | (simp <;> omega)) (a0O rfl) (by first | exact Nat.le_of_ble_eq_true rfl | omega | (dsimp only;omega) | (simp <;> omega)) rfl) rfl rfl (a0i rfl a0g) rfl rfl (c':=c+2) rfl ?_
    | refine a0u 193 (a0a ei_152.h (by first | exact Nat.le_of_ble_eq_true rfl | omega | (dsimp only;omega) | (simp <;> omega)) rfl (by first | exact Nat.le_of_ble_eq_true rfl | omega | (dsimp only;omega) | (simp <;> omega)) (by first | exact Nat.le_of_ble_eq_true rfl | omega | (dsimp only;omega) | (simp <;> omega)) (a0A 5 (fun _ _=>default) rfl) (by first | exact Nat.le_of_ble_eq_true rfl | omega | (dsimp only;omega) | (simp <;> omega)) rfl) rfl rfl (a0i rfl a0g) rfl rfl (c':=c+2) rfl ?_
    refine ru 9 ?_
    exact hL2 ((kk+1,MM+u.w,on1++(g kk).on,be2,z2,z3,c+1)) _ _ (by (try dsimp only);exact ⟨by omega,by rw [hMM,Nat.succ_mul,Nat.add_assoc],by rw [hon1,List.append_assoc];rfl,hx⟩) (by (try dsimp only);omega) (a0c rfl (Nat.le_refl _) (tsr rfl (tsr rfl (tsr rfl (tsr rfl (tsr rfl (tsr rfl (tsr rfl (a0t.cons rfl (a3l (by simp [a8Z])) tsa)))))))) (hsr rfl (hsr rfl (hsr rfl (hsr rfl (hsr rfl (hsr rfl (a0e.cons rfl (by exact a0G (enc:=fun x=>ndF a1g a1g x 0) (d:=default) rfl (fun i j _ _=>.refl _) (fun j hj=>.refl _)) a0e.nil))))))))
  have hkm:kk=many:=om;have hMm:MM=M0+many * u.w:=(by rw [hMM,hkm]);have hM256:MM≤256:=om;have hL:=b8n (hi:=p.high) hg kk hk;have hbok:∀ q,(be1 q).ok:=(by rw [hbe1];exact a1j hL hβ)
  refine ru 2 ?_
  refine a0d ?_
  refine ru 9 ?_
  refine a0l (α:=Nat×(Nat→Bag)) (fun x c=>⟨233,[(0,.v (.pt 9101 g1 0 0)),(8,.v (.pt 9208 k0 0 0)),(9,.v (.pt 9209 (k0+1) 0 0)),(10,.v (.pt 9210 (k0+3) 0 0)),(16,.v (intV (many:Int))),(17,.v (.os 9117 gr 0 (a8Z g kk).length)),(21,.v (intV (x.1:Int)))],[(9101,ndO g1 (.os 9102 y2 0 MM) (.os 9103 y3 0 MM) p0),(9102,lrO y2 MM (onF on1)),(9103,lrO y3 MM x.2),(9208,ndO k0 a1g a1g default),(9209,⟨k0+1,1,5,105,0,fun _=>ptF p⟩),(9210,ndO (k0+3) a1g a1g (b3v g x.1)),(9117,⟨gr,(a8Z g kk).length,5,65,0,c6v (a8Z g kk)⟩)],c⟩) (fun x=>x.1≤many∧x.1≤p.low.toNat∧x.2=links be1 (lkJ g x.1)) (fun x=>many - x.1) ((0,be1)) (by exact ⟨Nat.zero_le _,Nat.zero_le _,by simp [lkJ,links]⟩) (a0c rfl (Nat.le_refl _) tsa hsa) (fun x c hx NhL5 hL5=>?_)
  revert hx hL5;obtain ⟨k2,be3⟩:=x;intro hx hL5;dsimp only at hx hL5 ⊢
  obtain ⟨hk2,hk2l,hbe3⟩:=hx
  have hJ:=c4n hg k2 hk2;have hO:=b4Y hg k2 hk2;have hkk2:M0+k2 * u.w≤MM:=(by have:=Nat.mul_le_mul_right u.w hk2;omega);have hb3:∀ q,(be3 q).ok:=(by rw [hbe3];exact a1j hJ hbok);have hino:InB M0 MM (b3v g k2).ends:=hO.2.2.mono (Nat.le_refl _) hkk2
  refine ru 14 ?_
  refine wdc (fun hr9 hc9=>?_) (fun hr9 hc9=>?_)
  ·skip
   have hk2m:k2 < many:=om;have hk2p:k2 < p.low.toNat:=om;have hgo:=hg k2 hk2m
   refine ru 10 ?_
   refine rvl (ndV (g k2).pc) (c3O (l:=a8Z g kk) (i:=k2) (by rw [hkm];exact b1p g many k2 hk2m) (fun j=>by simp only [Nat.zero_add];rfl)) ?_
   refine hm_ 210 (a1R (xs:=[_,_,_]) (pre:=[(9101,_),(9102,_),(9103,_),(9210,_)]) (a9s (b3v g k2) (g k2).pc hO.1 hgo.pc MM g1 y2 y3 (k0+3) (onF on1) be3 p0 (a5O hino) hM256) ((c8X rfl rfl rfl rfl)) ⟨rfl,⟨rfl,⟨rfl,trivial⟩⟩⟩) rfl rfl (a0i rfl (a0i rfl (a0i rfl (a0i rfl a0g)))) rfl rfl (c':=c+1) rfl ?_
   refine ru 8 ?_
   exact hL5 ((k2+1,a1X be3 ((b3v g k2).ends,(g k2).pc.first))) _ _ (by (try dsimp only);exact ⟨by omega,by omega,by rw [hbe3];simp only [lkJ];rw [a0M];rfl⟩) (by (try dsimp only);omega) (a0c rfl (Nat.le_refl _) tsa hsa)
  have hke:k2=min many p.low.toNat:=(by have h:=hr9;simp at h;omega);let kt:=c
  refine ru 2 ?_
  refine a0d ?_
  refine ru 5 ?_
  refine a0u 22 (a0T (id:=9222) (sz:=5) zc_65.h rfl rfl omx omx) rfl rfl a0g rfl rfl (c':=c+1) rfl ?_
  refine ru 12 ?_
  refine a0l (α:=Nat×(Nat→Bag)×Pc) (fun x c=>⟨233,[(0,.v (.pt 9101 g1 0 0)),(8,.v (.pt 9208 k0 0 0)),(9,.v (.pt 9209 (k0+1) 0 0)),(10,.v (.pt 9210 (k0+3) 0 0)),(17,.v (.os 9117 gr 0 (a8Z g kk).length)),(22,.v (.pt 9222 kt 0 0)),(23,.v (intV ((many:Int) - 1 - (x.1:Int))))],[(9101,ndO g1 (.os 9102 y2 0 MM) (.os 9103 y3 0 MM) p0),(9102,lrO y2 MM (onF on1)),(9103,lrO y3 MM x.2.1),(9208,ndO k0 a1g a1g default),(9209,⟨k0+1,1,5,105,0,fun _=>ptF p⟩),(9210,ndO (k0+3) a1g a1g (b3v g k2)),(9117,⟨gr,(a8Z g kk).length,5,65,0,c6v (a8Z g kk)⟩),(9222,ndO kt a1g a1g x.2.2)],c⟩) (fun x=>x.1≤R.length∧x.2.1=links be3 (a1Y (R.drop (R.length - x.1))).1∧x.2.2=(a1Y (R.drop (R.length - x.1))).2) (fun x=>R.length - x.1) ((0,be3,Pc.nil)) (by exact ⟨Nat.zero_le _,by simp [a1Y,links],by simp [a1Y]⟩) (a0c rfl (Nat.le_refl _) (tsr rfl (tsr rfl (tsr rfl (tsr rfl (tsr rfl (tsr rfl (a0t.cons rfl (a0F om) a0t.nil))))))) (hsr rfl (hsr rfl (hsr rfl (hsr rfl (hsr rfl (hsr rfl (hsr rfl (a0e.cons rfl (a3j rfl rfl rfl rfl rfl rfl rfl) a0e.nil))))))))) (fun x c hx NhL6 hL6=>?_)
  revert hx hL6;obtain ⟨j4,be4,ta4⟩:=x;intro hx hL6;dsimp only at hx hL6 ⊢
  obtain ⟨hj4,hbe4,hta4⟩:=hx
  have htt:=a6F (N:=M0) (M:=M0+many * u.w) (l:=R.drop (R.length - j4)) (fun x hx=>hRo x (List.mem_of_mem_drop hx));have hto:ta4.ok:=(by rw [hta4];exact htt.2.1);have hb4:∀ q,(be4 q).ok:=(by rw [hbe4];exact a1j htt.1 hb3)
  refine ru 9 ?_
  refine wdc (fun hr10 hc10=>?_) (fun hr10 hc10=>?_)
  ·skip
   have hjl:j4 < R.length:=om;have hxm:=hRo _ (b6r (l:=R) (j:=R.length - 1 - j4) om);have hxin:InB M0 MM (R.getD (R.length - 1 - j4) default).ends:=(by rw [hMm];exact hxm.2.2);have hidx:many - 1 - j4 < many:=om;have hRg:(g (many - 1 - j4)).pc=R.getD (R.length - 1 - j4) default:=(by rw [hR,a8x _ _ _ _ (by rw [a5k] ; omega),a5k];congr 2;omega)
   refine ru 8 ?_
   refine rvl (intV ((many - 1 - j4:Nat):Int)) (congrArg intV om) ?_
   refine ru 2 ?_
   refine rvl (ndV (R.getD (R.length - 1 - j4) default)) (c3O (l:=a8Z g kk) (i:=many - 1 - j4) (by rw [hkm,b1p g many _ hidx];exact hRg) (fun j=>by simp only [Nat.zero_add];rfl)) ?_
   refine a0u 24 (a0T (id:=9224) (sz:=5) zc_65.h rfl rfl omx omx) rfl rfl a0g rfl rfl (c':=c+1) rfl ?_
   refine ru 7 ?_
   refine rvl (ndV ta4) (rfl) ?_
   refine hm_ 226 (a1R (xs:=[_,_,_]) (pre:=[(9101,_),(9102,_),(9103,_),(9224,_)]) (c0u (R.getD (R.length - 1 - j4) default) ta4 hxm.1 hto MM g1 y2 y3 _ (onF on1) be4 p0 (a5O hxin) hM256) ((c8X rfl rfl rfl rfl)) ⟨rfl,⟨rfl,⟨rfl,trivial⟩⟩⟩) rfl rfl (a0i rfl (a0i rfl (a0i rfl (a0i rfl a0g)))) rfl rfl (c':=c+3) rfl ?_
   refine ru 19 ?_
   exact hL6 ((j4+1,a1X be4 ((R.getD (R.length - 1 - j4) default).ends,ta4.first),{ (R.getD (R.length - 1 - j4) default).join ta4 with empty:=true })) _ _ (by (try dsimp only);exact ⟨by omega,by rw [b0W hjl,hbe4,hta4];simp only [a1Y];rw [a0M];rfl,by rw [b0W hjl,hta4];rfl⟩) (by (try dsimp only);omega) (a0c rfl (Nat.le_refl _) (tsr rfl (tsr rfl (tsr rfl (tsr rfl (tsr rfl (tsr rfl (a0t.cons rfl (a0F om) a0t.nil))))))) (hsr rfl (hsr rfl (hsr rfl (hsr rfl (hsr rfl (hsr rfl (hsr rfl (a0e.cons rfl (a8f (by exact jn5 rfl rfl rfl rfl rfl)) a0e.nil)))))))))
  have hje:j4=R.length:=om;have hta:ta4=(a1Y R).2:=(by rw [hta4,hje,Nat.sub_self,List.drop_zero]);have hbe:be4=links be3 (a1Y R).1:=(by rw [hbe4,hje,Nat.sub_self,List.drop_zero])
  refine ru 2 ?_
  refine a0d ?_
  refine ru 6 ?_
  refine rvl (ndV ta4) (rfl) ?_
  refine hm_ 231 (a1R (xs:=[_,_,_]) (pre:=[(9101,_),(9102,_),(9103,_),(9210,_)]) (a9s (b3v g k2) ta4 hO.1 hto MM g1 y2 y3 (k0+3) (onF on1) be4 p0 (a5O hino) hM256) ((c8X rfl rfl rfl rfl)) ⟨rfl,⟨rfl,⟨rfl,trivial⟩⟩⟩) rfl rfl (a0i rfl (a0i rfl (a0i rfl (a0i rfl a0g)))) rfl rfl (c':=c+1) rfl ?_
  refine ru 9 ?_
  refine fr1 ok hX rw1 ((y2,y3)) (trivial) ((by rw [hdoc.2.2,←hke,←hta];exact c6d (by exact jn5 rfl rfl rfl rfl rfl))) ?_
  exact ⟨⟨_,rfl,(by rw [←hMm];exact a8o rfl rfl rfl rfl)⟩,⟨⟨_,rfl,(by rw [←hMm,hdoc.1,hon1,hkm];exact a1d (fun _ _=>rfl))⟩,⟨⟨_,rfl,(by rw [←hMm,←hdoc.2.1,←hke,←hta];exact a1d (fun q _=>by rw [hbe,hbe3,hbe1,hkm];rfl))⟩,trivial⟩⟩⟩
theorem b5d (k:Int) (out:List Pt) (ks:List Int):∃ y,a9P k out ks y:=by
 unfold a9P
 split
 ·exact ⟨(0,out,ks.getD 0 0),rfl⟩
 ·exact ⟨(0,out++[⟨k,0,0,[],ks⟩],(out.length:Int)),rfl⟩
theorem c6t {l:List Sg} (hk:b7G l) (hne:l≠[]) {p:Nat} (hp:p≤l.length) (out:List Pt) (hc:∀ p',p < p'→p'≤l.length→∀ out,∃ x,a5P l 3 p' out x):∃ x,a5P l 1 p out x:=by
  by_cases h1:kd l p=1
  · by_cases h5:kd l (p+1)=5
    · exact ⟨_,b5s (g:=0) h1 h5⟩
    · exact ⟨_,b8b (g:=0) h1 h5⟩
  · by_cases h2:kd l p=2
    · have hlt:=a2t (l:=l) (i:=p) (by rw [h2];decide)
      obtain ⟨⟨t,q,g,o,r⟩,hx⟩:=hc (p+1) (by omega) (by omega) out
      cases t with
      | none=>exact ⟨_,b8X hk hx h2 (.inl rfl)⟩
      | some t =>
        by_cases h3:kd l q=3
        · by_cases h5:kd l (q+1)=5
          · exact ⟨_,b2U (g':=0) hx h2 h3 h5⟩
          · exact ⟨_,b5b hx h2 h3 h5⟩
        · exact ⟨_,b8X hk hx h2 (.inr h3)⟩
    · exact ⟨⟨none,p,0,out,-1⟩,b2Z hne hp h1 h2,by simp⟩
theorem b7S {l:List Sg} {p:Nat} {out:List Pt} (hi:∀ p',p≤p'→p'≤l.length→∀ out,∃ x,a5P l 1 p' out x):∀ (n:Nat) (bad:Bool) (q:Nat) (o:List Pt) (ks:List Int),2 * (l.length - q)+(if bad then 0 else 1) < n→c4c l p out bad q o ks→∃ x,a5P l 2 p out x
  | 0,_,_,_,_,h,_=>absurd h (Nat.not_lt_zero _)
  | n + 1, bad, q, o, ks, h, hI => by
    by_cases hk:bad=true∨(kd l q≠1∧kd l q≠2)
    · obtain ⟨tt,_,hd⟩:=b5c hI hk
      obtain ⟨y,hy⟩:=b5d 2 o ks
      exact ⟨_,hd y hy⟩
    · have hb:bad=false:=by cases bad with | true=>exact absurd (.inl rfl) hk | false=>rfl
      subst hb
      have hkq:kd l q=1∨kd l q=2:=by
        by_cases h1:kd l q=1
        · exact .inl h1
        · by_cases h2:kd l q=2
          · exact .inr h2
          · exact absurd (.inr ⟨h1,h2⟩) hk
      obtain ⟨⟨t,q',g,o',r⟩,hx⟩:=hi q hI.2.1 hI.2.2.1 o
      have:=b7R hx
      exact b7S hi n t.isNone q' o' (ks++[r]) (by omega) (b5g hI hkq hx)
theorem c6W {l:List Sg} {p:Nat} (hp:p≤l.length) (out:List Pt) (hi:∀ p',p≤p'→p'≤l.length→∀ out,∃ x,a5P l 1 p' out x):∃ x,a5P l 2 p out x:=by
 obtain ⟨⟨t,q,g,o,r⟩,hx⟩:=hi p (Nat.le_refl _) hp out
 exact b7S hi _ _ _ _ _ (Nat.lt_succ_self _) (b3s hx)
theorem c3V {l:List Sg} {p:Nat} {out:List Pt} (hi:∀ p',p≤p'→p'≤l.length→∀ out,∃ x,a5P l 2 p' out x):∀ (n:Nat) (bad:Bool) (q:Nat) (o:List Pt) (ks:List Int),2 * (l.length - q)+(if bad then 0 else 1) < n→ChI l p out bad q o ks→∃ x,a5P l 3 p out x
  | 0,_,_,_,_,h,_=>absurd h (Nat.not_lt_zero _)
  | n + 1, bad, q, o, ks, h, hI => by
    by_cases hk:bad=true∨kd l q≠4
    · obtain ⟨tt,_,hd⟩:=c0m hI hk
      obtain ⟨y,hy⟩:=b5d 3 o ks
      exact ⟨_,hd y hy⟩
    · have hb:bad=false:=by cases bad with | true=>exact absurd (.inl rfl) hk | false=>rfl
      subst hb
      have hkq:kd l q=4:=Classical.byContradiction fun h'=>hk (.inr h')
      have hlt:=a2t (l:=l) (i:=q) (by rw [hkq];decide)
      have hpq:=hI.2.1
      obtain ⟨⟨t,q',g,o',r⟩,hx⟩:=hi (q+1) (by omega) (by omega) o
      have:=b9G hlt hx
      exact c3V hi n t.isNone q' o' (ks++[r]) (by omega) (b8v hI hkq hx)
theorem b9Q {l:List Sg} {p:Nat} (hp:p≤l.length) (out:List Pt) (hi:∀ p',p≤p'→p'≤l.length→∀ out,∃ x,a5P l 2 p' out x):∃ x,a5P l 3 p out x:=by
 obtain ⟨⟨t,q,g,o,r⟩,hx⟩:=hi p (Nat.le_refl _) hp out
 exact c3V hi _ _ _ _ _ (Nat.lt_succ_self _) (b6e hx)
theorem b9n {l:List Sg} (hk:b7G l) (hne:l≠[]):∀ n p,l.length - p < n→p≤l.length→∀ out,∃ x,a5P l 3 p out x
 | 0,p,h,_,_=>absurd h (Nat.not_lt_zero _)
 | n+1,p,h,hp,out=>b9Q hp out fun p1 h1 hp1 out1=>c6W hp1 out1 fun p2 h2 hp2 out2=>c6t hk hne hp2 out2 fun p3 h3 hp3 out3=>b9n hk hne n p3 (by omega) hp3 out3
theorem c3d (s:List UInt8):∃ r,ParseIs s r:=by
  cases hv:lexV s with
  | error e=>exact ⟨_,.err e hv⟩
  | ok l =>
    by_cases hne:l=[]
    · subst hne;exact ⟨_,.none hv⟩
    · have hk:=c3J (b2r hv)
      obtain ⟨x,hx⟩:=b9n hk hne _ 0 (Nat.lt_succ_self _) (Nat.zero_le _) []
      by_cases hq:x.q < l.length
      · exact ⟨_,b2K hv hk hne hx hq⟩
      · cases hb : x.t.isNone with
        | true=>exact ⟨_,b2x hv hne hx (by omega) hb⟩
        | false=>exact ⟨_,b5P hv hx (by omega) hb⟩
theorem b1c (l:List Mn) (hB:MnB l) (e:List Pt) (he:e.length≤100000) (b:Nat) (t:T) (hok:t.ok=true) (hat:AtP e b (T.flat b t)) (hkl:t.kidsT.length≤100000)
  (ih:∀ i,i < t.kidsT.length→b7L l e (b+T.sizeL (t.kidsT.take i)) (t.kidsT.getD i default)):b7L l e b t:=by
 by_cases h:t.kind=4
 ·exact b6Q l hB e he b t h hok hat hkl ih
 ·exact c2O l hB e he b t h hok hat hkl ih
mutual
theorem b4N (l:List Mn) (hB:MnB l) (e:List Pt) (he:e.length≤100000):∀ (t:T) (b:Nat),t.ok=true→AtP e b (T.flat b t)→b7L l e b t
  | .name s,b,hok,hat=>b1c l hB e he b (.name s) hok hat (Nat.zero_le _) (fun i hi=>absurd hi (Nat.not_lt_zero _))
  | .times lo hi t, b, hok, hat => by
    have hok':t.ok=true:=by simp only [T.ok,Bool.and_eq_true] at hok;exact hok.2
    refine b1c l hB e he b (.times lo hi t) hok hat (by simp [T.kidsT]) (fun i hi=>?_)
    obtain rfl:i=0:=by simpa [T.kidsT] using hi
    have:=b4N l hB e he t b hok' (by simp only [T.flat] at hat;exact a4A hat)
    simpa [T.kidsT,T.sizeL] using this
  | .many k ts, b, hok, hat => by
    have hok':T.okL ts=true:=by simp only [T.ok,Bool.and_eq_true] at hok;exact hok.2
    have hkl:(T.many k ts).kidsT.length≤100000:=by
      have:=a6R (t:=.many k ts);have:=(a3v hat).2;omega
    exact b1c l hB e he b (.many k ts) hok hat hkl (fun i hi=>b9d l hB e he ts hok' i hi _ (a2v hat hi))
theorem b9d (l:List Mn) (hB:MnB l) (e:List Pt) (he:e.length≤100000):∀ ts:List T,T.okL ts=true→∀ i,i < ts.length→∀ b,AtP e b (T.flat b (ts.getD i default))→b7L l e b (ts.getD i default)
  | [],_,i,hi=>absurd hi (Nat.not_lt_zero _)
  | t :: ts, hok, i, hi => fun b hat => by
    simp only [T.okL,Bool.and_eq_true] at hok
    cases i with
    | zero=>exact b4N l hB e he t b hok.1 hat
    | succ i=>exact b9d l hB e he ts hok.2 i (by simpa using hi) b (by simpa using hat)
end
@[reducible] def ndR (M:Nat) (on:List Bag) (β:Nat→Bag) (p:Pc):HV:=.agg 5 (ndF (.sl 1 M (lrF (onF on))) (.sl 1 M (lrF β)) p 0)
instance frz_ndR (M:Nat) (on:List Bag) (β:Nat→Bag) (p:Pc):Frz (ndR M on β p):=⟨.agg _ _ _ (by exact jn5 (.sl _ _ _ _ fun _ _ _ _=>Frz.fz) (.sl _ _ _ _ fun _ _ _ _=>Frz.fz) (show Fz _ (a0n p.first.list) (a0n p.first.list) from Frz.fz) (show Fz _ (a0n p.ends.list) (a0n p.ends.list) from Frz.fz) (.imm _))⟩
theorem c3s {sh:List (Nat×HObj)} {M:Nat} {on:List Bag} {β:Nat→Bag} {p:Pc} {f:Nat→HV} (h0:Fz sh (f 0) (.sl 1 M (lrF (onF on)))) (h1:Fz sh (f 1) (.sl 1 M (lrF β))) (h2:Fz sh (f 2) (a0n p.first.list)) (h3:Fz sh (f 3) (a0n p.ends.list)) (h4:f 4=boolV p.empty):Fz sh (.agg 5 f) (ndR M on β p) :=
 .agg _ _ _ (by exact jn5 h0 h1 h2 h3 (by rw [h4];exact .imm _))
theorem c7G {sh:List (Nat×HObj)}:Fz sh a1g (a0n Bag.zero.list):=by rw [a9m];exact .nil 0 1 _ (by decide) none
theorem b9r {sh:List (Nat×HObj)} {id g n n':Nat} {γ γ':Nat→Bag} (ho:(id,lrO g n γ)∈sh) (hn:n'=n) (h:∀ i,i < n→γ i=γ' i):Fz sh (.os id g 0 n') (.sl 1 n' (lrF γ')):=by
 subst hn
 refine Fz.os id g 0 n' (lrO g n' γ) _ ho rfl (by show 0+n'≤n';omega) (fun i j hi hj=>?_)
 show Fz sh (a0n (γ (0+i)).list) (a0n (γ' i).list)
 rw [Nat.zero_add,h i hi];exact Frz.fz
def nd2 (a b:HV):Nat→Nat→HV:=fun _ j=>match j with | 0=>a | 1=>b | 2=>a1g | 3=>a1g | _=>boolV true
theorem c2u (l:List Mn):HPure Tryz.prog 23 [ptsV [],mnsV l] (ndR 0 [] (fun _=>Bag.zero) Pc.nil):=by
 refine a0k Tryz.func23 rfl kr _ _ _ rfl 28 rfl rfl (fun w F=>?_)
 refine ru 20 ?_
 refine wdc (fun hr0 hc0=>?_) (fun hr0 hc0=>?_)
 ·refine ru 8 ?_
  refine rt1 ?_
  exact c3s (.nil 0 1 _ (by decide) none) (.nil 0 1 _ (by decide) none) c7G c7G rfl
 exfalso;exact absurd hc0 (by simp)
theorem c1q (l:List Mn) (hB:MnB l) (t:T) (hok:t.ok=true) (he:(T.flat 0 t).length≤100000) (hw:t.w≤256):HPure Tryz.prog 23 [ptsV (T.flat 0 t),mnsV l] (ndR (0+t.w) (lay (meansV l) t 0).on (links (fun _=>Bag.zero) (lay (meansV l) t 0).lk) (lay (meansV l) t 0).pc):=by
 have hat:AtP (T.flat 0 t) 0 (T.flat 0 t):=⟨[],[],by simp,rfl⟩
 have hsz:(T.flat 0 t).length=t.size:=T.flat_len 0 t
 have hps:=t.size_pos
 obtain ⟨e,hee⟩:∃ e,e=T.flat 0 t:=⟨_,rfl⟩
 have hP:=b4N l hB e (by rw [hee];exact he) t 0 hok (by rw [hee];exact hat)
 rw [←hee] at he hsz ⊢
 refine a0k Tryz.func23 rfl kr _ _ _ rfl 28 rfl rfl (fun w F=>?_)
 refine ru 8 ?_
 refine a0u 5 (a0T (id:=9101) (sz:=5) zc_65.h rfl rfl (by decide) (by decide)) rfl rfl a0g rfl rfl (c':=2) rfl ?_
 refine ru 11 ?_
 refine wdc (fun hr0 hc0=>?_) (fun hr0 hc0=>?_)
 ·skip
  exfalso;omega
 refine ru 3 ?_
 refine (a1x 9101 0 9102 1 49 (lrF (onF [])) (nd2 (.os 9102 3 0 0) a1g) rfl rfl (by exact jn5 (.inl ⟨rfl,rfl⟩) (.inr rfl) (.inr rfl) (.inr rfl) (.inr rfl)) (by decide) (by decide) (c':=4) rfl).wp ?_;refine (a1x 9101 1 9103 1 49 (lrF (fun _=>Bag.zero)) (nd2 (.os 9102 3 0 0) (.os 9103 4 0 0)) rfl rfl (by exact jn5 (.inr rfl) (.inl ⟨rfl,rfl⟩) (.inr rfl) (.inr rfl) (.inr rfl)) (by decide) (by decide) (c':=5) rfl).wp ?_;refine (a1b 9101 (ndO 1 (.os 9102 3 0 0) (.os 9103 4 0 0) Pc.nil) rfl (by exact a9x (.refl _) (.refl _) b8S b8S (.refl _))).wp ?_
 refine ru 5 ?_
 refine rvl (intV ((0+t.size - 1:Nat):Int)) (congrArg intV om) ?_
 refine ru 1 ?_
 refine a0s 17 (xs:=[_,_,_,_]) (pre:=[(9101,_),(9102,_),(9103,_)]) (hP _ 1 3 4 0 [] (fun _=>Bag.zero) Pc.nil rfl om (fun _=>Bag.zero_ok) (fun _ _ _=>rfl)) ⟨rfl,⟨rfl,⟨rfl,⟨rfl,trivial⟩⟩⟩⟩ (a0i rfl (a0i rfl (a0i rfl a0g))) rfl rfl (fun x1 c1 hyy=>?_)
 obtain ⟨y2,y3⟩:=x1
 (try dsimp only)
 refine ru 35 ?_
 refine a5l rfl (a0J rfl rfl ty_65.h rqc rfl rfl) [(9102,_),(9103,_)] rfl (a0i rfl (a0i rfl a0g)) ?_
 exact c3s (b9r (.head _) rfl (fun _ _=>rfl)) (b9r (.tail _ (.head _)) rfl (fun _ _=>rfl)) (show Fz _ (a0n (lay (meansV l) t 0).pc.first.list) (a0n (lay (meansV l) t 0).pc.first.list) from Frz.fz) (show Fz _ (a0n (lay (meansV l) t 0).pc.ends.list) (a0n (lay (meansV l) t 0).pc.ends.list) from Frz.fz) rfl
@[reducible] def t4 (a b c d:HV):HV:=.tup 4 (fun i=>match i with | 0=>a | 1=>b | 2=>c | _=>d)
theorem a3Y {P:Program} {w:World} {F:Addr→Prop} {fn:Func} {rv1 rv2 rv3 rv4:ResultVar} {s:HSt} {x1 x2 x3 x4 y:HV} (hres:fn.results=#[rv1,rv2,rv3,rv4]) (hrv1:a6h P s rv1 x1) (hrv2:a6h P s rv2 x2) (hrv3:a6h P s rv3 x3) (hrv4:a6h P s rv4 x4) (sh:List (Nat×HObj)) (hd:a1n (sh.map (·.1))=true) (hsh:∀ p∈sh,hget s.hp p.1=some p.2)
  (hz:Fz sh (t4 x1 x2 x3 x4) y):HQ (Ctx.top w F) (bodyPost P fn (a1a w F y)) .ret s:=by
 intro a w' ⟨E,e0,r,hG,hsz,hdf,ht⟩
 obtain ⟨v1,h1,g1⟩:=hrv1 (Ctx.top w F) a w' E r ht
 obtain ⟨v2,h2,g2⟩:=hrv2 (Ctx.top w F) a w' E r ht
 obtain ⟨v3,h3,g3⟩:=hrv3 (Ctx.top w F) a w' E r ht
 obtain ⟨v4,h4,g4⟩:=hrv4 (Ctx.top w F) a w' E r ht
 have hrep:Rep w' E (.tuple #[v1,v2,v3,v4]) (.tup 4 (fun i=>match i with | 0=>x1 | 1=>x2 | 2=>x3 | _=>x4)) :=
  .tup _ 4 _ (fun i=>match i with | 0=>v1 | 1=>v2 | 2=>v3 | _=>v4) rfl (fun i hi=>by match i,hi with | 0,_=>rfl | 1,_=>rfl | 2,_=>rfl | 3,_=>rfl) (fun i hi=>by match i,hi with | 0,_=>exact g1 | 1,_=>exact g2 | 2,_=>exact g3 | 3,_=>exact g4)
 refine ⟨hdf,_,?_,a1a.of e0 r sh hd hsh hz hrep⟩
 have:(results fn a.tmps).run P w'=.ok (.tuple #[v1,v2,v3,v4]) w':=by
  unfold results
  rw [hres]
  cases rv1 <;> cases rv2 <;> cases rv3 <;> cases rv4 <;> (simp [Sem.run_bind] at h1 h2 h3 h4 ⊢)
  all_goals first | done | (try (first | rw [a0N h1] | skip);try (first | rw [a0N h2] | skip);try (first | rw [a0N h3] | skip);try (first | rw [a0N h4] | skip);try simp [h1,h2,h3,h4])
 exact this
theorem a9Q {sh:List (Nat×HObj)} {x1 x2 x3 x4 y1 y2 y3 y4:HV} (h1:Fz sh x1 y1) (h2:Fz sh x2 y2) (h3:Fz sh x3 y3) (h4:Fz sh x4 y4):Fz sh (t4 x1 x2 x3 x4) (t4 y1 y2 y3 y4):=.tup _ _ _ fun i hi=>by
 match i,hi with
 | 0,_=>exact h1 | 1,_=>exact h2 | 2,_=>exact h3 | 3,_=>exact h4
@[reducible] def b3z:HV:=.imm (.pointer none)
theorem c1k (wd:Nat) (on:List Bag) (β:Nat→Bag) (p:Pc):HPure Tryz.prog 30 [netP wd on β p] (boolV p.empty):=by
 refine a0k Tryz.func30 rfl kr _ _ _ rfl 11 rfl rfl (fun w F=>?_)
 refine ru 19 ?_
 refine rt1 ?_
 exact Frz.fz
theorem b2I:∀ (l:List Pt) (o:List (List UInt8)) (s:List UInt8),(s∈o∨∃ x∈l,x.kind=1∧x.name=s)→s∈l.foldl b7j o
  | [],o,s,h=>by rcases h with h | ⟨x,hx,_⟩;exact h;cases hx
  | y :: l, o, s, h => by
    refine b2I l (b7j o y) s ?_
    have hsub:s∈o→s∈b7j o y:=fun h=>by unfold b7j;split;exact List.mem_append_left _ h;exact h
    rcases h with h | ⟨x,hx,hk,hn⟩
    · exact .inl (hsub h)
    · rcases List.mem_cons.1 hx with rfl | hx
      · left
        by_cases hm:x.name∈o
        · exact hsub (hn▸hm)
        · unfold b7j;rw [if_pos ⟨hk,hm⟩,←hn];exact List.mem_append_right _ (List.mem_singleton_self _)
      · exact .inr ⟨x,hx,hk,hn⟩
theorem b8E (l:List Mn) (e:List Pt):noneV (meansV l) e=noneE l e:=by
 rw [Bool.eq_iff_iff]
 unfold noneV noneE
 rw [List.any_eq_true,List.any_eq_true]
 constructor
 ·rintro ⟨s,hs,h⟩
  rcases a7f e [] s hs with h' | ⟨x,hx,hk,hn⟩
  ·cases h'
  ·exact ⟨x,hx,by rw [hn,decide_eq_true hk];simpa using h⟩
 ·rintro ⟨x,hx,h⟩
  rw [Bool.and_eq_true,decide_eq_true_eq,decide_eq_true_eq] at h
  exact ⟨x.name,b2I e [] _ (.inr ⟨x,hx,h.1,rfl⟩),by simpa using h.2⟩
theorem b6F {s:List UInt8} (hv:lexV s=.ok []) {r:List Pt×Int×Int} (h:ParseIs s r):r=([],0,0):=by
 have hC:chk ([]:List Sg) 0 0 true true=(-1,false):=by rw [a7m (l:=[]) (i:=0) (Nat.le_refl _)];rfl
 cases h with
 | err e hv'=>rw [hv] at hv';cases hv'
 | none=>rfl
 | odd l q hv' hne=>rw [hv] at hv';injection hv' with hv';exact absurd hv'.symm hne
 | end_ l hv' hne=>rw [hv] at hv';injection hv' with hv';exact absurd hv'.symm hne
 | ok l t hv' hs=>rw [hv] at hv';injection hv' with hv';subst hv';have:=a0Y hs;simp at this
@[reducible] def NetP (s:List UInt8) (l:List Mn) (y:HV):Prop:=HPure Tryz.prog 19 [strV s,mnsV l] y
structure NetOk (s:List UInt8) (l:List Mn) (w:Nat) (on:List Bag) (β:Nat→Bag) (p:Pc) (e:List Pt):Prop where
 net:NetP s l (t4 (netP w on β p) (ptsV e) (intV 0) (boolV true))
 doc:HPure Tryz.prog 23 [ptsV e,mnsV l] (ndR w on β p)
 none:noneE l e=false
 w60:w≤60
 len:on.length=w
 onk:∀ i,(onF on i).ok
 bek:∀ i,(β i).ok
 pck:p.ok
 eln:e.length≤100000
 mnb:MnB l
 ptb:PtB e
 is:(e=[]∧w=0∧on=[]∧(∀ i,β i=Bag.zero)∧p=Pc.nil)∨∃ t:T,t.ok=true∧e=T.flat 0 t∧w=0+t.w∧on=(lay (meansV l) t 0).on∧β=links (fun _=>Bag.zero) (lay (meansV l) t 0).lk∧p=(lay (meansV l) t 0).pc
theorem b4P (s:List UInt8) (l:List Mn) (hs:s.length≤9223372036854775807) (a b:Int) (hp:ParseIs s ([],a,b)) (hb:b≠0):NetP s l (t4 b3z a1g (intV b) (boolV false)):=by
 refine a0k Tryz.func19 rfl kr _ _ _ rfl 63 rfl rfl (fun w F=>?_)
 refine ru 12 ?_
 refine a0s 18 (xs:=[_]) (pre:=[]) (a4g s ([],a,b) hs hp _) ⟨rfl,trivial⟩ a0g rfl rfl (fun u c1 hu=>?_)
 (try dsimp only)
 refine ru 21 ?_
 first
 | refine stg 29 (fun hb=>a0f (xs:=[_]) (a5Z l) ⟨rfl,trivial⟩ ⟨(Fz.eq rfl),trivial⟩) rfl rfl rfl rfl rfl ?_
 | refine sth 29 (fun hb=>a0f (xs:=[_]) (a5Z l) ⟨rfl,trivial⟩ ⟨(Fz.eq rfl),trivial⟩) rfl rfl rfl rfl rfl ?_
 refine ru 11 ?_
 refine sth (v:=intV 0) 38 (fun hb=>by simp at hb) rfl rfl rfl rfl rfl ?_
 refine ru 5 ?_
 refine wdc (fun hr0 hc0=>?_) (fun hr0 hc0=>?_)
 ·refine ru 11 ?_
  refine a3Y rfl (a0h rfl) (a0h rfl) (a0h rfl) (a0h rfl) [] rfl a0g ?_
  exact a9Q (.imm _) (.imm _) (.imm _) (.imm _)
 exfalso;simp [hb] at hr0
theorem c2T (s:List UInt8) (l:List Mn) (hs:s.length≤9223372036854775807) (hp:ParseIs s ([],0,0)) (hf:¬ (s.length≤500∧b7w l=true)):NetP s l (t4 b3z a1g (intV 0) (boolV false)):=by
 refine a0k Tryz.func19 rfl kr _ _ _ rfl 63 rfl rfl (fun w F=>?_)
 refine ru 12 ?_
 refine a0s 18 (xs:=[_]) (pre:=[]) (a4g s ([],0,0) hs hp _) ⟨rfl,trivial⟩ a0g rfl rfl (fun u c1 hu=>?_)
 (try dsimp only)
 refine ru 21 ?_
 first
 | refine stg 29 (fun hb=>a0f (xs:=[_]) (a5Z l) ⟨rfl,trivial⟩ ⟨(Fz.eq rfl),trivial⟩) rfl rfl rfl rfl rfl ?_
 | refine sth 29 (fun hb=>a0f (xs:=[_]) (a5Z l) ⟨rfl,trivial⟩ ⟨(Fz.eq rfl),trivial⟩) rfl rfl rfl rfl rfl ?_
 refine ru 11 ?_
 refine sth (v:=intV 0) 38 (fun hb=>by simp at hb) rfl rfl rfl rfl rfl ?_
 refine ru 5 ?_
 refine wdc (fun hr0 hc0=>?_) (fun hr0 hc0=>?_)
 ·refine ru 11 ?_
  refine a3Y rfl (a0h rfl) (a0h rfl) (a0h rfl) (a0h rfl) [] rfl a0g ?_
  exact a9Q (.imm _) (.imm _) (.imm _) (.imm _)
 exfalso;have h:=hr0;simp at h;exact hf ⟨by omega,by simpa using h.2⟩
theorem c5P (s:List UInt8) (l:List Mn) (hs:s.length≤9223372036854775807) (t:T) (hok:t.ok=true) (hB:PtB (T.flat 0 t)) (hp:ParseIs s (T.flat 0 t,0,0)) (hf:¬ (s.length≤500∧b7w l=true∧t.w≤60)):NetP s l (t4 b3z a1g (intV 0) (boolV false)):=by
 have hel:=hB.1
 have hat:AtP (T.flat 0 t) 0 (T.flat 0 t):=⟨[],[],by simp,rfl⟩
 have hsz:(T.flat 0 t).length=t.size:=T.flat_len 0 t
 have hps:=t.size_pos
 have hwm:a3J t.w≤60↔t.w≤60:=by unfold a3J;split <;> omega
 have hmn:=a8s (T.flat 0 t) hel t 0 hok hat
 generalize T.flat 0 t=e at hel hat hsz hmn hp hB
 have hel0:0 < e.length:=by omega
 refine a0k Tryz.func19 rfl kr _ _ _ rfl 63 rfl rfl (fun w F=>?_)
 refine ru 12 ?_
 refine a0s 18 (xs:=[_]) (pre:=[]) (a4g s (e,0,0) hs hp _) ⟨rfl,trivial⟩ a0g rfl rfl (fun u c1 hu=>?_)
 (try dsimp only)
 refine ru 21 ?_
 first
 | refine stg 29 (fun hb=>a0f (xs:=[_]) (a5Z l) ⟨rfl,trivial⟩ ⟨(Fz.eq rfl),trivial⟩) rfl rfl rfl rfl rfl ?_
 | refine sth 29 (fun hb=>a0f (xs:=[_]) (a5Z l) ⟨rfl,trivial⟩ ⟨(Fz.eq rfl),trivial⟩) rfl rfl rfl rfl rfl ?_
 refine ru 11 ?_
 refine ry3 (intV ((0+t.size - 1:Nat):Int)) rfl rfl (fun hb hb2=>congrArg intV (by dsimp only;omega)) ?_
 first
 | refine stg 38 (fun hb=>a0f (xs:=[_,_]) (hmn) ⟨rfl,⟨rfl,trivial⟩⟩ ⟨(Fz.eq rfl),⟨(Fz.eq rfl),trivial⟩⟩) rfl rfl rfl rfl rfl ?_
 | refine a4P 43 16 38 34 false true _ _ (fun hb hb2=>a0f (xs:=[_,_]) (hmn) ⟨rfl,⟨rfl,trivial⟩⟩ ⟨(Fz.eq rfl),⟨(Fz.eq rfl),trivial⟩⟩) rfl rfl rfl rfl rfl a0g rfl rfl rfl ?_
 | refine sth 38 (fun hb=>a0f (xs:=[_,_]) (hmn) ⟨rfl,⟨rfl,trivial⟩⟩ ⟨(Fz.eq rfl),⟨(Fz.eq rfl),trivial⟩⟩) rfl rfl rfl rfl rfl ?_
 refine ru 5 ?_
 refine wdc (fun hr0 hc0=>?_) (fun hr0 hc0=>?_)
 ·refine ru 11 ?_
  refine a3Y rfl (a0h rfl) (a0h rfl) (a0h rfl) (a0h rfl) [] rfl a0g ?_
  exact a9Q (.imm _) (.imm _) (.imm _) (.imm _)
 exfalso;have h:=hc0;have h60:=h.2;rw [decide_eq_true (by omega:(0:Int) < (e.length:Int)),Bool.true_and,decide_eq_false_iff_not] at h60;exact hf ⟨by omega,h.1.2,hwm.1 om⟩
theorem c3I {sh:List (Nat×HObj)} {g ty fl:Nat} {l:List Mn} {f:Nat→Nat→HV} (ho:(3,(⟨g,1,1,ty,fl,f⟩:HObj))∈sh) (hf:f 0 0=mnsV l):Fz sh (.fn (.func 41) 1 (fun i=>[HV.pt 3 g 0 0].getD i default)) (.fn (.func 41) 1 (fun i=>[HV.fp 1 (fun _=>mnsV l)].getD i default)) :=
 .fn _ _ _ _ (fun i hi=>by
  obtain rfl:i=0:=by omega
  exact .pt 3 _ 0 0 1 _ _ ho rfl (Nat.lt_succ_self 0) (Nat.le_refl _) (fun j hj=>by
   obtain rfl:j=0:=by omega
   show Fz sh (f 0 0) (mnsV l);rw [hf];exact Frz.fz))
theorem c0K (s:List UInt8) (l:List Mn) (hs5:s.length≤500) (hF:b7w l=true) (hv:lexV s=.ok []):NetP s l (t4 (netP 0 [] (fun _=>Bag.zero) ⟨Bag.zero,Bag.zero,true⟩) (ptsV []) (intV 0) (boolV true)):=by
 have hB:=(b5U hF).1
 refine a0k Tryz.func19 rfl kr _ _ _ rfl 63 rfl rfl (fun w F=>?_)
 refine ru 12 ?_
 refine a0s 18 (xs:=[_]) (pre:=[]) (a4g s ([],0,0) om (.none hv) _) ⟨rfl,trivial⟩ a0g rfl rfl (fun u c1 hu=>?_)
 (try dsimp only)
 refine ru 21 ?_
 first
 | refine stg 29 (fun hb=>a0f (xs:=[_]) (a5Z l) ⟨rfl,trivial⟩ ⟨(Fz.eq rfl),trivial⟩) rfl rfl rfl rfl rfl ?_
 | refine sth 29 (fun hb=>a0f (xs:=[_]) (a5Z l) ⟨rfl,trivial⟩ ⟨(Fz.eq rfl),trivial⟩) rfl rfl rfl rfl rfl ?_
 refine ru 11 ?_
 refine sth (v:=intV 0) 38 (fun hb=>by simp at hb) rfl rfl rfl rfl rfl ?_
 refine ru 5 ?_
 refine wdc (fun hr0 hc0=>?_) (fun hr0 hc0=>?_)
 ·skip
  exfalso;have h:=hr0;simp [hF] at h;omega
 refine ru 5 ?_
 refine a0s 50 (xs:=[_]) (pre:=[]) (b4g _ s om) ⟨rfl,trivial⟩ a0g rfl rfl (fun r c2 hr=>?_)
 (try dsimp only)
 refine ru 10 ?_
 obtain rfl:=b6F hv hr
 refine ru 3 ?_
 refine (a1c 56 [(3,_)] rfl (a0i rfl a0g) rfl (c3I (.head _) rfl)).seq ?_
 refine s0 (a0f (xs:=[_,_]) (c4U (b8m l hB) [] ⟨Nat.zero_le _,fun i hi=>absurd hi (Nat.not_lt_zero _)⟩ _ (.nil rfl)) ⟨rfl,⟨rfl,trivial⟩⟩ ⟨(Fz.eq rfl),⟨(.fn _ _ _ _ (fun i hi=>by obtain rfl:i=0:=om;exact .fp _ _ (Nat.le_refl _) _ _ (fun j hj=>show Fz _ (mnsV l) (mnsV l) from Frz.fz))),trivial⟩⟩) ?_
 refine ru 19 ?_
 refine a3Y rfl (a0h rfl) (a0h rfl) (a0h rfl) (a0h rfl) [] rfl a0g ?_
 exact a9Q (.fp _ _ (Nat.le_refl _) _ _ (fun j hj=>Frz.fz)) (show Fz _ (ptsV []) (ptsV []) from Frz.fz) (.imm _) (.imm _)
theorem b6o (s:List UInt8) (l:List Mn) (hs5:s.length≤500) (hF:b7w l=true) (lx:List Sg) (t:T) (hok:t.ok=true) (hv:lexV s=.ok lx) (hsg:Seg lx 3 0 lx.length t) (hPB:PtB (T.flat 0 t)) (hw:t.w≤60) (y:HV) (z:Int)
  (hn:NewIs (meansV l) (T.flat 0 t) (t2 y (intV z))) (hy:∀ sh,Fz sh y y):NetP s l (t4 y (ptsV (T.flat 0 t)) (intV z) (boolV true)):=by
 have hB:=(b5U hF).1
 have hel:=hPB.1
 have hat:AtP (T.flat 0 t) 0 (T.flat 0 t):=⟨[],[],by simp,rfl⟩
 have hsz:(T.flat 0 t).length=t.size:=T.flat_len 0 t
 have hps:=t.size_pos
 have hwm:a3J t.w≤60:=by unfold a3J;split <;> omega
 have hmn:=a8s (T.flat 0 t) hel t 0 hok hat
 have hpt:=fun r (h:ParseIs s r)=>b7d hv hsg h
 have hp:ParseIs s (T.flat 0 t,0,0):=.ok lx t hv hsg
 generalize T.flat 0 t=e at hel hat hsz hmn hp hpt hPB hn ⊢
 have hel0:0 < e.length:=by omega
 refine a0k Tryz.func19 rfl kr _ _ _ rfl 63 rfl rfl (fun w F=>?_)
 refine ru 12 ?_
 refine a0s 18 (xs:=[_]) (pre:=[]) (a4g s (e,0,0) om hp _) ⟨rfl,trivial⟩ a0g rfl rfl (fun u c1 hu=>?_)
 (try dsimp only)
 refine ru 21 ?_
 first
 | refine stg 29 (fun hb=>a0f (xs:=[_]) (a5Z l) ⟨rfl,trivial⟩ ⟨(Fz.eq rfl),trivial⟩) rfl rfl rfl rfl rfl ?_
 | refine sth 29 (fun hb=>a0f (xs:=[_]) (a5Z l) ⟨rfl,trivial⟩ ⟨(Fz.eq rfl),trivial⟩) rfl rfl rfl rfl rfl ?_
 refine ru 11 ?_
 refine ry3 (intV ((0+t.size - 1:Nat):Int)) rfl rfl (fun hb hb2=>congrArg intV (by dsimp only;omega)) ?_
 first
 | refine stg 38 (fun hb=>a0f (xs:=[_,_]) (hmn) ⟨rfl,⟨rfl,trivial⟩⟩ ⟨(Fz.eq rfl),⟨(Fz.eq rfl),trivial⟩⟩) rfl rfl rfl rfl rfl ?_
 | refine a4P 43 16 38 34 false true _ _ (fun hb hb2=>a0f (xs:=[_,_]) (hmn) ⟨rfl,⟨rfl,trivial⟩⟩ ⟨(Fz.eq rfl),⟨(Fz.eq rfl),trivial⟩⟩) rfl rfl rfl rfl rfl a0g rfl rfl rfl ?_
 | refine sth 38 (fun hb=>a0f (xs:=[_,_]) (hmn) ⟨rfl,⟨rfl,trivial⟩⟩ ⟨(Fz.eq rfl),⟨(Fz.eq rfl),trivial⟩⟩) rfl rfl rfl rfl rfl ?_
 refine ru 5 ?_
 refine wdc (fun hr0 hc0=>?_) (fun hr0 hc0=>?_)
 ·skip
  exfalso;have h:=hr0;simp [hF] at h;omega
 refine ru 5 ?_
 refine a0s 50 (xs:=[_]) (pre:=[]) (b4g _ s om) ⟨rfl,trivial⟩ a0g rfl rfl (fun r c2 hr=>?_)
 (try dsimp only)
 refine ru 10 ?_
 obtain rfl:=hpt _ hr
 refine ru 3 ?_
 refine (a1c 56 [(3,_)] rfl (a0i rfl a0g) rfl (c3I (.head _) rfl)).seq ?_
 refine s0 (a0f (xs:=[_,_]) (c4U (b8m l hB) e hPB _ hn) ⟨rfl,⟨rfl,trivial⟩⟩ ⟨(Fz.eq rfl),⟨(.fn _ _ _ _ (fun i hi=>by obtain rfl:i=0:=om;exact .fp _ _ (Nat.le_refl _) _ _ (fun j hj=>show Fz _ (mnsV l) (mnsV l) from Frz.fz))),trivial⟩⟩) ?_
 refine ru 19 ?_
 refine a3Y rfl (a0h rfl) (a0h rfl) (a0h rfl) (a0h rfl) [] rfl a0g ?_
 exact a9Q (hy _) (show Fz _ (ptsV e) (ptsV e) from Frz.fz) (.imm _) (.imm _)
theorem c0H (s:List UInt8) (l:List Mn) (hs:s.length≤9223372036854775807):(∃ x:Int,NetP s l (t4 b3z a1g (intV x) (boolV false)))∨(∃ e,NetP s l (t4 b3z (ptsV e) (intV 6) (boolV true))∧noneE l e=true∧e.length≤100000∧MnB l)∨∃ w on β p e,NetOk s l w on β p e:=by
  obtain ⟨r,hp⟩:=c3d s
  have hpr:=b4p hp
  cases hp with
  | err e hv=>exact .inl ⟨_,b4P s l hs _ _ (.err e hv) (a6B hv)⟩
  | odd lx q hv hne hq hC=>exact .inl ⟨_,b4P s l hs _ _ (.odd lx q hv hne hq hC) (by decide)⟩
  | end_ lx hv hne hC=>exact .inl ⟨_,b4P s l hs _ _ (.end_ lx hv hne hC) (by decide)⟩
  | none hv =>
    by_cases h:s.length≤500∧b7w l=true
    · have hB:=(b5U h.2).1
      exact .inr (.inr ⟨0,[],fun _=>Bag.zero,Pc.nil,[],⟨c0K s l h.1 h.2 hv,c2u l,rfl,Nat.zero_le _,rfl,fun i=>Bag.zero_ok,fun i=>Bag.zero_ok,Pc.nil_ok,Nat.zero_le _,hB,⟨Nat.zero_le _,fun i hi=>absurd hi (Nat.not_lt_zero _)⟩,.inl ⟨rfl,rfl,rfl,fun _=>rfl,rfl⟩⟩⟩)
    · exact .inl ⟨_,c2T s l hs (.none hv) h⟩
  | ok lx t hv hsg =>
    have hok:=c3T (b2r hv) hsg
    have hPB:=hpr.1
    by_cases h:s.length≤500∧b7w l=true∧t.w≤60
    · have hB:=(b5U h.2.1).1
      have hR:rightV (T.flat 0 t)=true:=a4H hok
      have hmo:=a3R l
      cases hn:noneE l (T.flat 0 t) with
      | true=>exact .inr (.inl ⟨_,b6o s l h.1 h.2.1 lx t hok hv hsg hPB h.2.2 _ _ (.none hR (by rw [b8E];exact hn)) (fun sh=>.imm _),hn,hPB.1,hB⟩)
      | false =>
        have hly:=a3T hmo t 0 (by omega)
        refine .inr (.inr ⟨0+t.w,_,_,_,_,⟨b6o s l h.1 h.2.1 lx t hok hv hsg hPB h.2.2 (treeNet (meansV l) t) 0 (.fine t hok rfl (by rw [b8E];exact hn) (by omega)) (fun sh=>.fp _ _ (Nat.le_refl _) _ _ (fun j hj=>Frz.fz)),c1q l hB t hok hPB.1 (by omega),hn,by omega,?_,?_,?_,hly.pc,hPB.1,hB,hPB,.inr ⟨t,hok,rfl,rfl,rfl,rfl,rfl⟩⟩⟩)
        · rw [Nat.zero_add];exact hly.len
        · intro i
          show ((lay (meansV l) t 0).on.getD i Bag.zero).ok
          by_cases hi:i < (lay (meansV l) t 0).on.length
          · rw [List.getD_eq_getElem?_getD,List.getElem?_eq_getElem hi];exact hly.on _ (List.getElem_mem hi)
          · rw [List.getD_eq_getElem?_getD,List.getElem?_eq_none (by omega)];exact Bag.zero_ok
        · exact a1j hly.lk (fun _=>Bag.zero_ok)
    · exact .inl ⟨_,c5P s l hs t hok hPB (.ok lx t hv hsg) h⟩
@[reducible] def c9M (b:Bag):Value:=.agg b.cells.toArray
theorem c3m:KeyOk Tryz.prog 88 Bag c9M (.int .i64 0) :=
 a7M (et:=3) (by kernel_rfl) Tryz.underlying47 (fun w=>by kernel_rfl) (fun b a w=>by obtain ⟨x,y,z,u⟩:=a;kernel_rfl) (fun p q w=>a9h w p q (Op.maxDepth - 3)) (fun a=>by simp [Instr.sameBits,Bag.cells])
theorem b2D {b:Bag} {f:Nat→HV} (hf:∀ j,j < 4→f j=a3p b j):b4C (.agg 4 f) (c9M b):=fun w E u h=>a6E hf h
def kn:List Bag→Nat→List (Bag×Value)
 | [],_=>[]
 | b::r,i=>(b,.int .i64 (i:Int))::kn r (i+1)
@[reducible] def knS (S:List Bag):List (Bag×Value):=kn (S.drop 1) 1
theorem b4s (b:Bag):∀ (l:List Bag) (i k:Nat),(mfind b (kn l i) k).map (·.2)=(ixA b l i).map (fun n=>Value.int .i64 (n:Int))
  | [],i,k=>rfl
  | x :: r, i, k => by
    show (if b=x then some (k,Value.int .i64 (i:Int)) else mfind b (kn r (i+1)) (k+1)).map (·.2)=(if x=b then some i else ixA b r (i+1)).map (fun n=>Value.int .i64 (n:Int))
    by_cases e:x=b
    · rw [if_pos e,if_pos e.symm];rfl
    · rw [if_neg e,if_neg (fun h=>e h.symm)];exact b4s b r (i+1) (k+1)
theorem b8T (b:Bag):∀ (l:List Bag) (i:Nat),kn (l++[b]) i=kn l i++[(b,.int .i64 ((i+l.length:Nat):Int))]
  | [],i=>rfl
  | x :: r, i => by
    show (x,_)::kn (r++[b]) (i+1)=(x,_)::(kn r (i+1)++_)
    rw [b8T b r (i+1),show i+1+r.length=i+(x::r).length by simp;omega]
theorem c6i (S:List Bag) (b:Bag):c3k (knS S) b=(idA S b).map (fun n=>Value.int .i64 (n:Int)):=b4s b _ _ _
theorem c4Z {S:List Bag} {b:Bag} (hS:0 < S.length) (h:idA S b=none):c3p (knS S) b (.int .i64 (S.length:Int))=knS (S++[b]):=by
 have h1:=b4s b (S.drop 1) 1 0
 rw [show ixA b (S.drop 1) 1=none from h] at h1
 have h2:mfind b (knS S) 0=none:=by
  cases hm:mfind b (knS S) 0 with
  | none=>rfl
  | some p=>rw [show mfind b (kn (S.drop 1) 1) 0=some p from hm] at h1;cases h1
 unfold c3p;rw [h2]
 show knS S++_=kn ((S++[b]).drop 1) 1
 rw [List.drop_append_of_le_length (by omega),b8T,List.length_drop,show 1+(S.length - 1)=S.length by omega]
theorem c7v {S:List Bag} {s:Bag} (h:s=Bag.zero):a4a Bag.zero S s=(S,-1):=by unfold a4a;rw [if_pos h]
theorem c1A {S:List Bag} {s:Bag} {n:Nat} (h:s≠Bag.zero) (hn:idA S s=some n):a4a Bag.zero S s=(S,(n:Int)):=by unfold a4a;rw [if_neg h,hn]
theorem c3a {S:List Bag} {s:Bag} (h:s≠Bag.zero) (hn:idA S s=none):a4a Bag.zero S s=(S++[s],(S.length:Int)):=by unfold a4a;rw [if_neg h,hn]
def b7s (E:Bag) (S:List Bag) (A:List Bool) (s:Bag):List Bool:=if s=Bag.zero then A else match idA S s with
 | some _=>A
 | none=>A++[decide (s.mix a6Z E 4≠Bag.zero)]
theorem c2R {E:Bag} {S:List Bag} {A:List Bool} {s:Bag} (h:A.length=S.length):(b7s E S A s).length=(a4a Bag.zero S s).1.length:=by
  unfold b7s a4a
  split
  · exact h
  · cases idA S s with
    | some n=>exact h
    | none=>simp [h]
@[reducible] def mkF (N:HV) (g2 g3 n g5:Nat):Nat→HV:=fun j=>match j with
 | 0=>N
 | 1=>.pt 9002 g2 0 0
 | 2=>.os 9003 g3 0 n
 | _=>.mp 9005 g5
@[reducible] def mkO (g:Nat) (N:HV) (g2 g3 n g5:Nat):HObj:=⟨g,1,4,90,0,fun _=>mkF N g2 g3 n g5⟩
@[reducible] def tbO (g g4 n:Nat):HObj:=⟨g,1,1,86,0,fun _ _=>.os 9004 g4 0 n⟩
@[reducible] def seO (g:Nat) (S:List Bag):HObj:=⟨g,S.length,4,47,0,fun i j=>a6Y ((S.getD i Bag.zero).word j)⟩
@[reducible] def stO (g n:Nat) (R:List (List Int)) (A:List Bool):HObj:=⟨g,n,33,83,0,tbF R A⟩
@[reducible] def knO (g:Nat) (S:List Bag):HObj:=a9L g (encL c9M (knS S))
section
variable {kp sh:List (Nat×HObj)}
theorem b1h {g:Nat} {l l':List (Value×Value)} (h:l=l':=by rfl):OKz kp sh (a9L g l) (a9L g l'):=by subst h;exact ⟨rfl,rfl,rfl,rfl,Nat.le_refl _,fun i j hi=>absurd hi (Nat.not_lt_zero _),fun _=>rfl⟩
theorem b5w {g g2 g3 n n' g5:Nat} {N:HV} {F:Nat→Nat→HV} {o2 o3 o5:HObj} (h0:F 0 0=N) (h1:F 0 1=.pt 9002 g2 0 0) (h2:F 0 2=.os 9003 g3 0 n) (h3:F 0 3=.mp 9005 g5) (hN:∀ sh,Fz sh N N) (hn:n=n') (k2:hget kp 9002=some o2) (e2:o2.g=g2) (k3:hget kp 9003=some o3) (e3:o3.g=g3) (k5:hget kp 9005=some o5) (e5:o5.g=g5):OKz kp sh ⟨g,1,4,90,0,F⟩ (mkO g N g2 g3 n' g5):=by
 subst hn
 exact c8Z (by rw [h0];exact .fz _ _ (hN _)) (by rw [h1];exact .pt _ _ _ _ _ k2 e2) (by rw [h2];exact .os _ _ _ _ _ k3 e3) (by rw [h3];exact .mp _ _ _ k5 e5)
theorem b5E {g g4 n n':Nat} {F:Nat→Nat→HV} {o4:HObj} (h0:F 0 0=.os 9004 g4 0 n) (hn:n=n') (k4:hget kp 9004=some o4) (e4:o4.g=g4):OKz kp sh ⟨g,1,1,86,0,F⟩ (tbO g g4 n'):=by
 subst hn
 exact c6T (by rw [h0];exact .os _ _ _ _ _ k4 e4)
theorem a3z {g n n' sz ty:Nat} {f f':Nat→Nat→HV} (hn:n=n') (h:∀ i j,i < n→j < sz→Fz sh (f i j) (f' i j)):OKz kp sh ⟨g,n,sz,ty,0,f⟩ ⟨g,n',sz,ty,0,f'⟩:=by
 subst hn;exact .of fun i j hi hj=>.fz _ _ (h i j hi hj)
end
theorem c3t {sh:List (Nat×HObj)} {a b:Nat} (h:a=b):Fz sh (a6Y a) (a6Y b):=by subst h;exact .imm _
theorem c8E {zs:List Value} {x:HV} {w:Nat} (hw:w=1) (hz:zs=List.replicate 32 (Value.int .i64 0)++[Value.bool false]):(∀ j,j < 32→bld [(32,w,x)] (fun j=>.imm (zs.getD j undef)) j=intV 0):=fun j hj=>by
 subst hz;subst hw
 show (match inr 32 1 j with | true=>x.cell (j - 32) | false=>HV.imm ((List.replicate 32 (Value.int .i64 0)++[Value.bool false]).getD j undef))=_
 rw [show inr 32 1 j=false from by rw [←Bool.not_eq_true,b3O];omega]
 rw [List.getD_eq_getElem?_getD,List.getElem?_append_left (by simpa using hj),List.getElem?_replicate,if_pos hj];rfl
theorem c6L {sh:List (Nat×HObj)} {S:List Bag} {s:Bag} {f:Nat→HV} (hf:∀ j,j < 4→f j=a3p s j):∀ i j,i < S.length+1→j < 4→Fz sh (cat S.length (fun i j=>a6Y ((S.getD i Bag.zero).word j)) (bsf [.agg 4 f]) i j) (a6Y (((S++[s]).getD i Bag.zero).word j)):=fun i j hi hj=>by
 by_cases h:i < S.length
 ·rw [a5S h];exact c3t (by rw [List.getD_eq_getElem?_getD,List.getD_eq_getElem?_getD,List.getElem?_append_left h])
 ·obtain rfl:i=S.length:=by omega
  rw [a5n (by omega),Nat.sub_self]
  show Fz sh (f j) _
  rw [hf j hj];exact c3t (by rw [List.getD_eq_getElem?_getD,List.getElem?_append_right (by omega),Nat.sub_self];rfl)
theorem c4Q {sh:List (Nat×HObj)} {R:List (List Int)} {A:List Bool} {n:Nat} {b:Bool} {f:Nat→HV} (hA:A.length=n) (hR:R.length≤n) (h0:∀ j,j < 32→f j=intV 0) (h1:f 32=boolV b):∀ i j,i < n+1→j < 33→Fz sh (cat n (tbF R A) (bsf [.agg 33 f]) i j) (tbF R (A++[b]) i j):=fun i j hi hj=>by
 by_cases h:i < n
 ·rw [a5S h]
  by_cases hj2:j < 32
  ·rw [a2s hj2,a2s hj2];exact .imm _
  ·obtain rfl:j=32:=by omega
   rw [b4R,b4R]
   rw [show (A++[b]).getD i false=A.getD i false by rw [List.getD_eq_getElem?_getD,List.getD_eq_getElem?_getD,List.getElem?_append_left (by omega)]];exact .imm _
 ·obtain rfl:i=n:=by omega
  rw [a5n (by omega),Nat.sub_self]
  show Fz sh (f j) _
  by_cases hj2:j < 32
  ·rw [h0 j hj2,a2s hj2,show R.getD i []=[] by rw [List.getD_eq_getElem?_getD,List.getElem?_eq_none (by omega)];rfl];exact .imm _
  ·obtain rfl:j=32:=by omega
   rw [h1,b4R,show (A++[b]).getD i false=b by rw [List.getD_eq_getElem?_getD,List.getElem?_append_right (by omega),hA,Nat.sub_self];rfl];exact .imm _
theorem c8b (S:List Bag) (s:Bag):lkV true (c3k (knS S) s) (.int .i64 0)=t2 (intV ((idA S s).getD 0:Nat)) (boolV (idA S s).isSome):=by
 rw [c6i];cases idA S s <;> rfl
theorem c7m (c g1 g2 g3 g4 g5:Nat) (wd:Nat) (on:List Bag) (β:Nat→Bag) (p:Pc) (hpk:p.ok) (S:List Bag) (A:List Bool) (R:List (List Int)) (s:Bag) (hs:s.ok) (hS:0 < S.length∧S.length≤1000) (hA:A.length=S.length) (hR:R.length≤S.length):a4n Tryz.prog 58 c [.pt 9001 g1 0 0,bagH s] [(9001,mkO g1 (netP wd on β p) g2 g3 S.length g5),(9002,tbO g2 g4 S.length),(9003,seO g3 S),(9004,stO g4 S.length R A),(9005,knO g5 S)] (a9C (fun (_:Nat×Nat) _=>True) (fun _=>intV (a4a Bag.zero S s).2) (fun q=>[(9001,mkO g1 (netP wd on β p) g2 q.1 (a4a Bag.zero S s).1.length g5),(9002,tbO g2 q.2 (a4a Bag.zero S s).1.length),(9003,seO q.1 (a4a Bag.zero S s).1),(9004,stO q.2 (a4a Bag.zero S s).1.length R (b7s p.ends S A s)),(9005,knO g5 (a4a Bag.zero S s).1)])):=by
 have hN:∀ sh,Fz sh (netP wd on β p) (netP wd on β p):=fun sh=>Frz.fz
 refine a0w Tryz.func58 rfl kr _ _ _ _ rfl 72 rfl rfl (fun X ok hX=>?_)
 refine ru 11 ?_
 refine s0 (a9j s Bag.zero rfl rfl rfl (by exact j4 rfl rfl rfl rfl) (by exact j4 rfl rfl rfl rfl)) ?_
 refine ru 2 ?_
 refine wdc (fun hr0 hc0=>?_) (fun hr0 hc0=>?_)
 ·skip
  have hP:=c7v (S:=S) (show s=Bag.zero by simpa using hr0);have hB:b7s p.ends S A s=A:=(by unfold b7s;rw [if_pos (by simpa using hr0)])
  refine ru 7 ?_
  refine fr1 ok hX rw1 ((g3,g4)) (trivial) ((by rw [hP];exact kza)) ?_
  exact ⟨⟨_,rfl,(by rw [hP];exact b5w rfl rfl rfl rfl hN rfl rfl rfl rfl rfl rfl rfl)⟩,⟨⟨_,rfl,(by rw [hP];exact b5E rfl rfl rfl rfl)⟩,⟨⟨_,rfl,(by rw [hP];exact a3z rfl fun _ _ _ _=>.imm _)⟩,⟨⟨_,rfl,(by rw [hP,hB];exact a3z rfl fun _ _ _ _=>b2s _ _ _ _)⟩,⟨⟨_,rfl,(by rw [hP];exact b1h)⟩,trivial⟩⟩⟩⟩⟩
 have hz:s≠Bag.zero:=(by simpa using hr0)
 refine ru 10 ?_
 refine a3I 16 (HOp.val (v':=t2 (intV ((idA S s).getD 0:Nat)) (boolV (idA S s).isSome)) (b0c c3m (l:=knS S) (a:=s) rfl rfl (b2D (by exact j4 rfl rfl rfl rfl))) (c8b S s)) rfl rfl (a0P rfl) rfl rfl (k':=6) rfl ?_
 refine ru 12 ?_
 refine wdc (fun hr1 hc1=>?_) (fun hr1 hc1=>?_)
 ·skip
  obtain ⟨m,hm⟩:=Option.isSome_iff_exists.1 (show (idA S s).isSome=true from hr1);have hP:=c1A hz hm;have hB:b7s p.ends S A s=A:=(by unfold b7s;rw [if_neg hz,hm])
  refine ru 8 ?_
  refine fr1 ok hX rw1 ((g3,g4)) (trivial) ((by rw [hP,hm];exact kza)) ?_
  exact ⟨⟨_,rfl,(by rw [hP];exact b5w rfl rfl rfl rfl hN rfl rfl rfl rfl rfl rfl rfl)⟩,⟨⟨_,rfl,(by rw [hP];exact b5E rfl rfl rfl rfl)⟩,⟨⟨_,rfl,(by rw [hP];exact a3z rfl fun _ _ _ _=>.imm _)⟩,⟨⟨_,rfl,(by rw [hP,hB];exact a3z rfl fun _ _ _ _=>b2s _ _ _ _)⟩,⟨⟨_,rfl,(by rw [hP];exact b1h)⟩,trivial⟩⟩⟩⟩⟩
 have hm:idA S s=none:=(by have h9:(idA S s).isSome=false:=hr1;cases h8:idA S s with | none=>rfl | some q=>rw [h8] at h9;cases h9);have hP:=c3a hz hm;have hB:b7s p.ends S A s=A++[decide (s.mix a6Z p.ends 4≠Bag.zero)]:=(by unfold b7s;rw [if_neg hz,hm])
 refine ru 14 ?_
 refine c5t (a6l c3m (l:=knS S) (a:=s) (v:=.int .i64 (S.length:Int)) rfl rfl (b2D (by exact j4 rfl rfl rfl rfl)) rfl) rfl rfl (a0P rfl) (k':=11) rfl ?_
 refine ru 10 ?_
 refine a2n 37 (a0b (id:=37) (hs:=[_]) ei_87.h omx rfl omx ⟨rfl,rfl,rfl,rfl,trivial⟩) rfl rfl a0g rfl rfl (k':=7) rfl ?_
 first
 | refine a2n 38 (a0a ei_87.h (by first | exact Nat.le_of_ble_eq_true rfl | omega | (dsimp only;omega) | (simp <;> omega)) rfl (by first | exact Nat.le_of_ble_eq_true rfl | omega | (dsimp only;omega) | (simp <;> omega)) (by first | exact Nat.le_of_ble_eq_true rfl | omega | (dsimp only;omega) | (simp <;> omega)) (a0x rfl (by first | exact Nat.le_of_ble_eq_true rfl | omega | (dsimp only;omega) | (simp <;> omega))) (by first | exact Nat.le_of_ble_eq_true rfl | omega | (dsimp only;omega) | (simp <;> omega)) rfl) rfl rfl (a0i rfl (a0P rfl)) rfl rfl (k':=8) rfl ?_
 | refine a2n 38 (a0a ei_87.h (by first | exact Nat.le_of_ble_eq_true rfl | omega | (dsimp only;omega) | (simp <;> omega)) rfl (by first | exact Nat.le_of_ble_eq_true rfl | omega | (dsimp only;omega) | (simp <;> omega)) (by first | exact Nat.le_of_ble_eq_true rfl | omega | (dsimp only;omega) | (simp <;> omega)) (a0U rfl (by first | exact Nat.le_of_ble_eq_true rfl | omega | (dsimp only;omega) | (simp <;> omega))) (by first | exact Nat.le_of_ble_eq_true rfl | omega | (dsimp only;omega) | (simp <;> omega)) rfl) rfl rfl (a0i rfl (a0P rfl)) rfl rfl (k':=8) rfl ?_
 | refine a2n 38 (a0a ei_87.h (by first | exact Nat.le_of_ble_eq_true rfl | omega | (dsimp only;omega) | (simp <;> omega)) rfl (by first | exact Nat.le_of_ble_eq_true rfl | omega | (dsimp only;omega) | (simp <;> omega)) (by first | exact Nat.le_of_ble_eq_true rfl | omega | (dsimp only;omega) | (simp <;> omega)) (a0O rfl) (by first | exact Nat.le_of_ble_eq_true rfl | omega | (dsimp only;omega) | (simp <;> omega)) rfl) rfl rfl (a0i rfl a0g) rfl rfl (k':=8) rfl ?_
 | refine a2n 38 (a0a ei_87.h (by first | exact Nat.le_of_ble_eq_true rfl | omega | (dsimp only;omega) | (simp <;> omega)) rfl (by first | exact Nat.le_of_ble_eq_true rfl | omega | (dsimp only;omega) | (simp <;> omega)) (by first | exact Nat.le_of_ble_eq_true rfl | omega | (dsimp only;omega) | (simp <;> omega)) (a0A 4 (fun _ _=>default) rfl) (by first | exact Nat.le_of_ble_eq_true rfl | omega | (dsimp only;omega) | (simp <;> omega)) rfl) rfl rfl (a0i rfl a0g) rfl rfl (k':=8) rfl ?_
 refine ru 23 ?_
 refine clx (c5f wd on β p) ?_
 refine d0 18 (a0f (xs:=[_,_]) (c9E s p.ends hs hpk.2) ⟨rfl,⟨rfl,trivial⟩⟩ ⟨(a2r (by exact j4 rfl rfl rfl rfl)),⟨(a2r (by exact j4 rfl rfl rfl rfl)),trivial⟩⟩) ?_
 refine ru 1 ?_
 refine d0 20 (b4U (s.mix a6Z p.ends 4) Bag.zero rfl rfl rfl (by exact j4 rfl rfl rfl rfl) (by exact j4 rfl rfl rfl rfl)) ?_
 refine ru 1 ?_
 refine a2n 62 (a0b (id:=62) (hs:=[_]) ei_84.h omx rfl omx ⟨rfl,rfl,rfl,rfl,trivial⟩) rfl rfl a0g rfl rfl (k':=22) rfl ?_
 first
 | refine a2n 63 (a0a ei_84.h (by first | exact Nat.le_of_ble_eq_true rfl | omega | (dsimp only;omega) | (simp <;> omega)) rfl (by first | exact Nat.le_of_ble_eq_true rfl | omega | (dsimp only;omega) | (simp <;> omega)) (by first | exact Nat.le_of_ble_eq_true rfl | omega | (dsimp only;omega) | (simp <;> omega)) (a0x rfl (by first | exact Nat.le_of_ble_eq_true rfl | omega | (dsimp only;omega) | (simp <;> omega))) (by first | exact Nat.le_of_ble_eq_true rfl | omega | (dsimp only;omega) | (simp <;> omega)) rfl) rfl rfl (a0i rfl (a0P rfl)) rfl rfl (k':=23) rfl ?_
 | refine a2n 63 (a0a ei_84.h (by first | exact Nat.le_of_ble_eq_true rfl | omega | (dsimp only;omega) | (simp <;> omega)) rfl (by first | exact Nat.le_of_ble_eq_true rfl | omega | (dsimp only;omega) | (simp <;> omega)) (by first | exact Nat.le_of_ble_eq_true rfl | omega | (dsimp only;omega) | (simp <;> omega)) (a0U rfl (by first | exact Nat.le_of_ble_eq_true rfl | omega | (dsimp only;omega) | (simp <;> omega))) (by first | exact Nat.le_of_ble_eq_true rfl | omega | (dsimp only;omega) | (simp <;> omega)) rfl) rfl rfl (a0i rfl (a0P rfl)) rfl rfl (k':=23) rfl ?_
 | refine a2n 63 (a0a ei_84.h (by first | exact Nat.le_of_ble_eq_true rfl | omega | (dsimp only;omega) | (simp <;> omega)) rfl (by first | exact Nat.le_of_ble_eq_true rfl | omega | (dsimp only;omega) | (simp <;> omega)) (by first | exact Nat.le_of_ble_eq_true rfl | omega | (dsimp only;omega) | (simp <;> omega)) (a0O rfl) (by first | exact Nat.le_of_ble_eq_true rfl | omega | (dsimp only;omega) | (simp <;> omega)) rfl) rfl rfl (a0i rfl a0g) rfl rfl (k':=23) rfl ?_
 | refine a2n 63 (a0a ei_84.h (by first | exact Nat.le_of_ble_eq_true rfl | omega | (dsimp only;omega) | (simp <;> omega)) rfl (by first | exact Nat.le_of_ble_eq_true rfl | omega | (dsimp only;omega) | (simp <;> omega)) (by first | exact Nat.le_of_ble_eq_true rfl | omega | (dsimp only;omega) | (simp <;> omega)) (a0A 33 (fun _ _=>default) rfl) (by first | exact Nat.le_of_ble_eq_true rfl | omega | (dsimp only;omega) | (simp <;> omega)) rfl) rfl rfl (a0i rfl a0g) rfl rfl (k':=23) rfl ?_
 refine ru 17 ?_
 refine fr1 ok hX rw1 ((c+23+7,c+34+22)) (trivial) ((by rw [hP];exact a6v (by simp))) ?_
 exact ⟨⟨_,rfl,(by rw [hP];exact b5w rfl rfl rfl rfl hN (by simp) rfl rfl rfl rfl rfl rfl)⟩,⟨⟨_,rfl,(by rw [hP];exact b5E rfl (by simp) rfl rfl)⟩,⟨⟨_,rfl,(by rw [hP];exact a3z (by simp) (c6L (by exact j4 rfl rfl rfl rfl)))⟩,⟨⟨_,rfl,(by rw [hP,hB];exact a3z (by simp) (c4Q hA hR (c8E rfl rfl) (show boolV (!decide (s.mix a6Z p.ends 4=Bag.zero))=_ from congrArg boolV (by simp))))⟩,⟨⟨_,rfl,(by rw [hP];exact b1h (by rw [c4Z hS.1 hm]))⟩,trivial⟩⟩⟩⟩⟩
def d0b (P:Program) (T:TypeId):Option (Nat×Nat):=match P.underlying T with
  | some (.array len e) => match tyOf P e with
    | some (true,s)=>some (len,s)
    | _=>none
  | _=>none
section
variable {P:Program} {ov:Nat→Option HV} {g:Nat} {d:Option Tmp} {ty T:TypeId} {pos:String} {af:Array Edge} {x y:Operand} {gd:Option (Nat×Bool)}
theorem b4G {n s len:Nat} {f:Nat→HV} {k:IntKind} {i:Int} (hT:d0b P T=some (len,s)) (h1:ovl ov x=some (.agg n f)) (h2:ovl ov y=some (.imm (.int k i))) (hi0:0≤i) (hi:i < (len:Int)) (hn:len * s≤n) :
    HOp P ⟨d,.index T x y,ty,pos,af,gd⟩ ov g [] (.agg s (fun j=>f (i.toNat * s+j))) [] :=
  a0q fun w E ρ hr=>by
    have e1:=hr x _ (by simp [Op.operands]) h1
    have e2:=Rep.imm_inv (hr y _ (by simp [Op.operands]) h2)
    unfold d0b at hT
    split at hT
    · rename_i len' e hu
      split at hT
      · rename_i s' ht
        injection hT with hT
        injection hT with hT1 hT2
        subst hT1;subst hT2
        generalize hv:ρ x=v at e1
        cases e1 with
        | agg cs _ _ vs hn' hc hrep =>
          have hb:i.toNat * s'+s'≤cs.size:=by
            have:(i.toNat+1) * s'≤len' * s':=Nat.mul_le_mul_right _ (by omega)
            rw [Nat.add_mul] at this;omega
          refine ⟨.agg (cs.extract (i.toNat * s') (i.toNat * s'+s')),?_,?_⟩
          · simp [execOp,hv,e2,Instr.index,asIntOf,run_underlying hu,hi0,hi,part,(a2S ht).1,(a2S ht).2.1]
          · refine .agg _ s' _ (fun j=>vs (i.toNat * s'+j)) (by simp;omega) (fun j hj=>?_) (fun j hj=>hrep _ (by omega))
            have:=hc (i.toNat * s'+j) (by omega)
            refine ⟨?_,this.2⟩
            rw [Array.getElem?_extract,if_pos (by omega)]
            exact this.1
      · cases hT
    · cases hT
end
def b1F (l:List Int) (B:Nat→Bag) (p:Int):Nat→Nat→Bag
 | 0=>B
 | k+1=>fun s=>if l.getD k 0=(s:Int)∧s < 32 then (b1F l B p k s).with_ p else b1F l B p k s
def b7H (L:List Int) (O:Int→Bag):Nat→Nat→Bag
 | 0=>fun _=>Bag.zero
 | k+1=>b1F (O (L.getD k 0)).list (b7H L O k) (L.getD k 0) (O (L.getD k 0)).list.length
theorem b1Q {l:List Int} {B:Nat→Bag} {p:Int} (h:∀ s,(B s).ok):∀ k s,(b1F l B p k s).ok
  | 0,s=>h s
  | k + 1, s => by
    unfold b1F
    split
    · exact Bag.with_ok _ (b1Q h k s) _
    · exact b1Q h k s
theorem a5j (L:List Int) (O:Int→Bag):∀ k s,(b7H L O k s).ok
 | 0,s=>Bag.zero_ok
 | k+1,s=>b1Q (a5j L O k) _ s
theorem c3P (n:Nat) (f:Nat→HV) (off:Nat):ldv true n f off=.agg n (fun j=>f (off+j)):=by
 cases off with
 | zero=>show HV.agg n f=_;congr 1;funext j;rw [Nat.zero_add]
 | succ k=>rfl
@[reducible] def byF (B:Nat→Bag):Nat→Nat→HV:=fun _ j=>a6Y ((B (j / 4)).word (j % 4))
@[reducible] def byO (g:Nat) (B:Nat→Bag):HObj:=⟨g,1,128,130,0,byF B⟩
theorem c4b {B:Nat→Bag} {s:Nat}:∀ j,j < 4→byF B 0 (s * 4+j)=a3p (B s) j:=fun j hj=>by
 show a6Y _=a6Y _
 rw [show (s * 4+j) / 4=s by omega,show (s * 4+j) % 4=j by omega]
theorem c4M {B B':Nat→Bag} {s:Nat} {x:Bag} (hs:s < 32) (h1:B' s=x) (h2:∀ t,t≠s→t < 32→B' t=B t):∀ i j,i < 1→j < 128→upd (byF B) 0 (0+s * 4) 4 (bagH x).cell i j=byF B' i j:=fun i j hi hj=>by
 obtain rfl:i=0:=by omega
 by_cases h:s * 4≤j∧j < s * 4+4
 ·rw [a8E ⟨rfl,by omega,by omega⟩]
  show a6Y (x.word (j - (0+s * 4)))=a6Y _
  rw [show j / 4=s by omega,h1,show j - (0+s * 4)=j % 4 by omega]
 ·rw [a7t (by omega)]
  show a6Y _=a6Y _
  rw [h2 (j / 4) (by omega) (by omega)]
theorem c4u (g:Nat) (cs:List Value) (hcs:cs=List.replicate 128 (.int .u64 0)):a2J ⟨g,1,128,130,0,fun _ j=>.imm (cs.getD j undef)⟩ (byO g (fun _=>Bag.zero)):=.of fun i j hi hj=>by
 subst hcs
 have e:(List.replicate 128 (Value.int .u64 0)).getD j undef=.int .u64 0:=by rw [List.getD_eq_getElem?_getD,List.getElem?_replicate,if_pos hj];rfl
 show Sb (.imm ((List.replicate 128 (Value.int .u64 0)).getD j undef)) (a6Y (Bag.zero.word (j % 4)))
 rw [e]
 have:Bag.zero.word (j % 4)=0:=by
  have:=Nat.mod_lt j (show 0 < 4 by decide)
  generalize j % 4=m at this
  match m,this with | 0,_=>rfl | 1,_=>rfl | 2,_=>rfl | 3,_=>rfl
 rw [this];exact .refl _
def c3L (E:Bag) (g:Nat→Bag) (S:List Bag) (A:List Bool):Nat→List Bool
 | 0=>A
 | k+1=>b7s E (a1z Bag.zero g S k).1 (c3L E g S A k) (g k)
theorem b6g {E:Bag} {g:Nat→Bag} {S:List Bag} {A:List Bool} (h:A.length=S.length):∀ k,(c3L E g S A k).length=(a1z Bag.zero g S k).1.length
 | 0=>h
 | k+1=>c2R (b6g h k)
theorem b7i {α:Type} {l k:List α} {i:Nat} {d:α} (h:i < l.length):(l++k).getD i d=l.getD i d:=by rw [List.getD_eq_getElem?_getD,List.getD_eq_getElem?_getD,List.getElem?_append_left h]
theorem b7h {α:Type} {l:List α} {x d:α} {i:Nat} (h:i=l.length):(l++[x]).getD i d=x:=by subst h;rw [List.getD_eq_getElem?_getD,List.getElem?_append_right (Nat.le_refl _),Nat.sub_self];rfl
theorem b0Y {α:Type} {l:List α} {i:Nat} {d:α} (h:l.length≤i):l.getD i d=d:=by rw [List.getD_eq_getElem?_getD,List.getElem?_eq_none h];rfl
theorem c7C {R:List (List Int)} {A:List Bool} {r:List Int} {at_ off n:Nat} {x:Int} (hR:R.length=at_) (ho:r.length=off) (hr:r.length < 32):∀ i j,i < n→j < 33→upd (tbF (R++[r]) A) at_ off 1 (fun j=>(intV x).cell j) i j=tbF (R++[r++[x]]) A i j:=fun i j hi hj=>by
 subst ho
 by_cases h:i=at_∧j=r.length
 ·obtain ⟨rfl,rfl⟩:=h
  rw [a8E ⟨rfl,by omega,by omega⟩,a2s hr,b7h hR.symm,b7h rfl]
  rfl
 ·rw [a7t (by omega)]
  by_cases hj2:j < 32
  ·rw [a2s hj2,a2s hj2]
   congr 1
   by_cases hi2:i < R.length
   ·rw [b7i hi2,b7i hi2]
   ·by_cases hi3:i=R.length
    ·rw [b7h hi3,b7h hi3]
     by_cases hj3:j < r.length
     ·rw [b7i hj3]
     ·rw [b0Y (l:=r) (by omega),b0Y (l:=r++[x]) (by simp;omega)]
    ·rw [b0Y (l:=R++[r]) (by simp;omega),b0Y (l:=R++[r++[x]]) (by simp;omega)]
  ·obtain rfl:j=32:=by omega
   rfl
theorem c8R {R:List (List Int)} {A:List Bool} (i j:Nat):tbF R A i j=tbF (R++[[]]) A i j:=by
 by_cases hj:j < 32
 ·rw [a2s hj,a2s hj]
  congr 1
  by_cases hi2:i < R.length
  ·rw [b7i hi2]
  ·by_cases hi3:i=R.length
   ·rw [b7h hi3,b0Y (l:=R) (by omega)]
   ·rw [b0Y (l:=R) (by omega),b0Y (l:=R++[[]]) (by simp;omega)]
 ·unfold tbF;rw [show Nat.blt j 32=false from by rw [←Bool.not_eq_true,Nat.blt_eq];omega]
theorem b7Q {g n n':Nat} {F:Nat→Nat→HV} {R:List (List Int)} {A:List Bool} (hn:n=n') (h:∀ i j,i < n→j < 33→F i j=tbF R A i j):a2J ⟨g,n,33,83,0,F⟩ (stO g n' R A):=by
 subst hn;exact .of fun i j hi hj=>by rw [h i j hi hj];exact .refl _
@[reducible] def onI (wd:Nat) (on:List Bag) (i:Int):Bag:=if 0≤i∧i < (wd:Int) then onF on i.toNat else Bag.zero
theorem c7r {wd:Nat} {on:List Bag} (h:∀ i,(onF on i).ok) (i:Int):(onI wd on i).ok:=by unfold onI;split;exact h _;exact Bag.zero_ok
theorem c4K {l:List Int} {B:Nat→Bag} {p:Int} {k s:Nat} (h:l.getD k 0=(s:Int)) (hs:s < 32):b1F l B p (k+1) s=(b1F l B p k s).with_ p∧∀ t,t≠s→t < 32→b1F l B p (k+1) t=b1F l B p k t :=
 ⟨by show (if _ then _ else _)=_;rw [if_pos ⟨h,hs⟩],fun t ht _=>by show (if _ then _ else _)=_;rw [if_neg (fun e=>ht (by have:=e.1;rw [h] at this;omega))]⟩
theorem c5W {l:List Int} {B:Nat→Bag} {p:Int} {k:Nat} (h:¬ (l.getD k 0 < 32)):b1F l B p (k+1)=b1F l B p k:=by
 funext t;show (if _ then _ else _)=_;rw [if_neg (fun e=>h (by rw [e.1];omega))]
@[reducible] def a1E (wd:Nat) (on:List Bag) (may:Bag):Nat→Bag:=b7H may.list (onI wd on) may.list.length
theorem c3S (c0 g1 g2 g3 g4 g5:Nat) (wd:Nat) (hw:wd≤1000) (on:List Bag) (hon:∀ i,(onF on i).ok) (β:Nat→Bag) (p:Pc) (hpk:p.ok) (S:List Bag) (A:List Bool) (R:List (List Int)) (may:Bag) (hm:may.ok) (hS:R.length < S.length∧S.length≤300) (hA:A.length=S.length) :
  a4n Tryz.prog 31 c0 [.pt 9001 g1 0 0,intV (R.length:Int),bagH may] [(9001,mkO g1 (netP wd on β p) g2 g3 S.length g5),(9002,tbO g2 g4 S.length),(9003,seO g3 S),(9004,stO g4 S.length R A),(9005,knO g5 S)] (a9C (fun (_:Nat×Nat) _=>True) (fun _=>.tup 0 fun _=>default) (fun q=>[(9001,mkO g1 (netP wd on β p) g2 q.1 (a1z Bag.zero (a1E wd on may) S 32).1.length g5),(9002,tbO g2 q.2 (a1z Bag.zero (a1E wd on may) S 32).1.length),(9003,seO q.1 (a1z Bag.zero (a1E wd on may) S 32).1),(9004,stO q.2 (a1z Bag.zero (a1E wd on may) S 32).1.length (R++[(a1z Bag.zero (a1E wd on may) S 32).2]) (c3L p.ends (a1E wd on may) S A 32)),(9005,knO g5 (a1z Bag.zero (a1E wd on may) S 32).1)])):=by
 have hN:∀ sh,Fz sh (netP wd on β p) (netP wd on β p):=fun sh=>Frz.fz
 have hS0:0 < S.length:=by omega
 refine b0Z Tryz.func31 rfl kr _ _ _ _ rfl 54 rfl rfl (fun X ok hX hM=>?_)
 refine ru 15 ?_
 refine cll (c2B may) ?_
 refine ru 3 ?_
 refine a8l (α:=Nat) ⟨rfl,rfl,rfl⟩ (b5D may hm) rfl (cs:=[_]) rfl (fun i hi=>by first | rfl | (cases i <;> first | rfl | (simp at hi))) ⟨(Fz.eq rfl),trivial⟩ rfl (fun _=>rfl) rfl (fun x=>[(9001,mkO g1 (netP wd on β p) g2 g3 S.length g5),(9002,tbO g2 g4 S.length),(9003,seO g3 S),(9004,stO g4 S.length R A),(9005,knO g5 S),(3,⟨c0,1,1,81,0,fun _ _=>.pt 9001 g1 0 0⟩),(6,byO (c0+2) (b7H may.list (onI wd on) x))]) (fun x=>x) (fun x=>x≤may.list.length) (0) om (by first | rfl | omega) (hsr rfl (hsr rfl (hsr rfl (hsr rfl (hsr rfl (hsr rfl (a0e.cons rfl (c4u _ _ rfl) a0e.nil))))))) rfl (fun i c hx hi C1 lr hC1 NhR1 hR1=>?_) (fun i c hx hi=>?_)
 ·skip
  (try dsimp only at hx hi hR1 ⊢)
  have hpo:=a5j may.list (onI wd on)
  refine ru 4 ?_
  refine hR1 _ (fun C2 hC2=>?_)
  refine ru 8 ?_
  refine clx (c9x wd on β p _ hw) ?_
  refine clx (c2B (onI wd on (may.list.getD i 0))) ?_
  refine ru 3 ?_
  refine b9i (α:=Nat) hC2 (b5D (onI wd on (may.list.getD i 0)) (c7r hon _)) rfl (cs:=[_]) rfl (fun i hi=>by first | rfl | (cases i <;> first | rfl | (simp at hi))) ⟨(Fz.eq rfl),trivial⟩ rfl (fun _=>rfl) rfl (fun x=>[(9001,mkO g1 (netP wd on β p) g2 g3 S.length g5),(9002,tbO g2 g4 S.length),(9003,seO g3 S),(9004,stO g4 S.length R A),(9005,knO g5 S),(3,⟨c0,1,1,81,0,fun _ _=>.pt 9001 g1 0 0⟩),(6,byO (c0+2) (b1F (onI wd on (may.list.getD i 0)).list (b7H may.list (onI wd on) i) (may.list.getD i 0) x)),(7,⟨c,1,1,3,0,fun _ _=>intV (may.list.getD i 0)⟩)]) (fun x=>x) (fun x=>x≤(onI wd on (may.list.getD i 0)).list.length) (0) om (by first | rfl | omega) hsa rfl (fun k c hx hi C1 lr hC1 NhR3 hR3=>?_) (fun k c hx hi=>?_)
  ·skip
   (try dsimp only at hx hi hR3 ⊢)
   obtain ⟨s,hs256,hsA,hs⟩:=a4J (onI wd on (may.list.getD i 0)) hi;rw [hs]
   refine ru 3 ?_
   refine hR3 _ (fun C2 hC4=>?_)
   refine ru 7 ?_
   refine wdc (fun hr0 hc0=>?_) (fun hr0 hc0=>?_)
   ·skip
    have hs32:s < 32:=om;have hin:=c4K (B:=b7H may.list (onI wd on) i) (p:=may.list.getD i 0) hs hs32
    refine ru 4 ?_
    first
    | refine a3I 28 (HOp.val (v':=HV.agg 4 (fun j=>byF (b1F (onI wd on (may.list.getD i 0)).list (b7H may.list (onI wd on) i) (may.list.getD i 0) k) 0 (s * 4+j))) (a0D ty_47.h rfl (by first | exact Nat.le_of_ble_eq_true rfl | omega | (dsimp only;omega) | (simp <;> omega)) (by first | exact Nat.le_of_ble_eq_true rfl | omega | (dsimp only;omega) | (simp <;> omega)) (fun h=>(by first | rfl | cases h))) ((by show ldv true 4 _ (0+s * 4)=_;rw [c3P,Nat.zero_add]))) rfl rfl (a0P rfl) rfl rfl (k':=4) rfl ?_
    | refine a3I 28 (HOp.val (v':=HV.agg 4 (fun j=>byF (b1F (onI wd on (may.list.getD i 0)).list (b7H may.list (onI wd on) i) (may.list.getD i 0) k) 0 (s * 4+j))) (a0r ty_47.h rfl (by first | exact Nat.le_of_ble_eq_true rfl | omega | (dsimp only;omega) | (simp <;> omega)) (fun h=>(by first | rfl | cases h))) ((by show ldv true 4 _ (0+s * 4)=_;rw [c3P,Nat.zero_add]))) rfl rfl a0g rfl rfl (k':=4) rfl ?_
    refine ru 1 ?_
    refine d0 6 (a0f (xs:=[_,_]) (c8m (b1F (onI wd on (may.list.getD i 0)).list (b7H may.list (onI wd on) i) (may.list.getD i 0) k s) (b1Q (a5j _ _ _) _ _) (may.list.getD i 0)) ⟨rfl,⟨rfl,trivial⟩⟩ ⟨(a2r c4b),⟨fe,trivial⟩⟩) ?_
    refine ru 4 ?_
    exact a4e ⟨k+1,by (try dsimp only);omega,by first | rfl | omega,(hsr rfl (hsr rfl (hsr rfl (hsr rfl (hsr rfl (hsr rfl (a0e.cons rfl (a2J.of fun i' j hi' hj=>by have h9:=c4M hs32 hin.1 hin.2 i' j hi' hj;exact h9▸.refl _) hsa)))))))⟩
   refine ru 2 ?_
   exact a4e ⟨k+1,by (try dsimp only);omega,by first | rfl | omega,(hsr rfl (hsr rfl (hsr rfl (hsr rfl (hsr rfl (hsr rfl (a0e.cons rfl (by rw [c5W (show ¬ _ < (32:Int) by rw [hs];omega)];exact .refl _) hsa)))))))⟩
  ·skip
   (try dsimp only at hx hi ⊢)
   subst hi
   refine ru 2 ?_
   exact a4e ⟨i+1,by (try dsimp only);omega,by first | rfl | omega,hsa⟩
 ·skip
  (try dsimp only at hx hi ⊢)
  subst hi
  refine ru 9 ?_
  refine a0l (α:=Nat×Nat×Nat) (fun x c=>⟨54,[(1,.v (intV (R.length:Int))),(3,.v (.pt 3 c0 0 0)),(32,.v (.agg 128 (byF (a1E wd on may) 0))),(33,.v (intV x.1))],[(9001,mkO g1 (netP wd on β p) g2 x.2.1 (a1z Bag.zero (a1E wd on may) S x.1).1.length g5),(9002,tbO g2 x.2.2 (a1z Bag.zero (a1E wd on may) S x.1).1.length),(9003,seO x.2.1 (a1z Bag.zero (a1E wd on may) S x.1).1),(9004,stO x.2.2 (a1z Bag.zero (a1E wd on may) S x.1).1.length (R++[(a1z Bag.zero (a1E wd on may) S x.1).2]) (c3L p.ends (a1E wd on may) S A x.1)),(9005,knO g5 (a1z Bag.zero (a1E wd on may) S x.1).1),(3,⟨c0,1,1,81,0,fun _ _=>.pt 9001 g1 0 0⟩)],c⟩) (fun x=>x.1≤32) (fun x=>32 - x.1) ((0,g3,g4)) om (a0c rfl (Nat.le_refl _) tsa (hsr rfl (hsr rfl (hsr rfl (a0e.cons rfl (b7Q rfl fun i j _ _=>c8R i j) hsa))))) (fun x c hx NhL5 hL5=>?_)
  revert hx hL5;obtain ⟨k,q1,q2⟩:=x;intro hx hL5;dsimp only at hx hL5 ⊢
  have hl:=a3O Bag.zero (a1E wd on may) S k;have hbl:=b6g (E:=p.ends) (g:=a1E wd on may) hA k
  refine ru 6 ?_
  refine wdc (fun hr1 hc1=>?_) (fun hr1 hc1=>?_)
  ·refine ru 7 ?_
   refine s0 (b4G (len:=32) (s:=4) kr rfl rfl om om omx) ?_
   refine ru 9 ?_
   refine (a1c 38 [] rfl a0g rfl ((a2r (c4b (B:=a1E wd on may) (s:=k))))).seq ?_
   refine a0s 39 (xs:=[_,_]) (pre:=[(9001,_),(9002,_),(9003,_),(9004,_),(9005,_)]) (c7m _ g1 g2 q1 q2 g5 wd on β p hpk (a1z Bag.zero (a1E wd on may) S k).1 (c3L p.ends (a1E wd on may) S A k) (R++[(a1z Bag.zero (a1E wd on may) S k).2]) (a1E wd on may k) (a5j _ _ _ _) om hbl (by simp;omega)) ⟨rfl,⟨rfl,trivial⟩⟩ (a0i rfl (a0i rfl (a0i rfl (a0i rfl (a0i rfl a0g))))) rfl rfl (fun x1 c1 hx1=>?_)
   obtain ⟨r1,r2⟩:=x1
   (try dsimp only)
   refine ru 3 ?_
   have hpl:=b1j Bag.zero (a1z Bag.zero (a1E wd on may) S k).1 (a1E wd on may k)
   refine ru 22 ?_
   exact hL5 ((k+1,r1,r2)) _ _ (by (try dsimp only);omega) (by (try dsimp only);omega) (a0c rfl (Nat.le_refl _) (tsr rfl (tsr rfl (tsr rfl (a0t.cons rfl (a0F om) a0t.nil)))) (hsr rfl (hsr rfl (hsr rfl (a0e.cons rfl (b7Q rfl (c7C om om om)) hsa)))))
  obtain rfl:k=32:=om
  refine ru 2 ?_
  refine a0d ?_
  refine ru 1 ?_
  refine b6a ?_
  refine b3X hM ?_
  refine a1w ok hX a3g.one rfl  [] rfl a0g ((q1,q2)) (trivial) (by rfl) (by rfl) (kza) ?_
  exact ⟨⟨_,rfl,(b5w rfl rfl rfl rfl hN rfl rfl rfl rfl rfl rfl rfl)⟩,⟨⟨_,rfl,(b5E rfl rfl rfl rfl)⟩,⟨⟨_,rfl,(a3z rfl fun _ _ _ _=>.imm _)⟩,⟨⟨_,rfl,(a3z rfl fun _ _ _ _=>b2s _ _ _ _)⟩,⟨⟨_,rfl,b1h⟩,trivial⟩⟩⟩⟩⟩
def accS (e:Bool) (E:Bag) (S:List Bag):List Bool:=match S with
 | []=>[]
 | _::r=>e::r.map (fun b=>decide (b.mix a6Z E 4≠Bag.zero))
theorem a6M (e:Bool) (E:Bag) (S:List Bag):(accS e E S).length=S.length:=by cases S <;> simp [accS]
theorem c2I {e:Bool} {E:Bag} {S:List Bag} (hS:0 < S.length) (s:Bag):b7s E S (accS e E S) s=accS e E (a4a Bag.zero S s).1:=by
  unfold b7s a4a
  split
  · rfl
  · cases idA S s with
    | some n=>rfl
    | none => cases S with
      | nil=>simp at hS
      | cons x r=>simp [accS]
theorem b1H {e:Bool} {E:Bag} {S:List Bag} (hS:0 < S.length) (g:Nat→Bag):∀ k,c3L E g S (accS e E S) k=accS e E (a1z Bag.zero g S k).1
  | 0=>rfl
  | k + 1 => by
    show b7s E (a1z Bag.zero g S k).1 (c3L E g S (accS e E S) k) (g k)=accS e E (a4a Bag.zero (a1z Bag.zero g S k).1 (g k)).1
    rw [b1H hS g k,c2I (by have:=a3O Bag.zero g S k;omega)]
theorem c6I {S:List Bag} {s:Bag} (h:∀ b∈S,b.ok) (hs:s.ok):∀ b∈(a4a Bag.zero S s).1,b.ok:=by
  unfold a4a
  split
  · exact h
  · cases idA S s with
    | some n=>exact h
    | none =>
      intro b hb;rcases List.mem_append.1 hb with hb | hb;exact h b hb;simp at hb;subst hb;exact hs
theorem b3G {S:List Bag} {g:Nat→Bag} (h:∀ b∈S,b.ok) (hg:∀ k,(g k).ok):∀ k,∀ b∈(a1z Bag.zero g S k).1,b.ok
 | 0=>h
 | k+1=>c6I (b3G h hg k) (hg k)
@[reducible] def beI (wd:Nat) (β:Nat→Bag) (i:Int):Bag:=if 0≤i∧i < (wd:Int) then β i.toNat else Bag.zero
theorem c3R {wd:Nat} {β:Nat→Bag} (h:∀ i,(β i).ok) (i:Int):(beI wd β i).ok:=by unfold beI;split;exact h _;exact Bag.zero_ok
def c0U (wd:Nat) (β:Nat→Bag) (L:List Int):Nat→Bag
 | 0=>Bag.zero
 | k+1=>bun (c0U wd β L k) (beI wd β (L.getD k 0))
theorem b4v {wd:Nat} {β:Nat→Bag} (h:∀ i,(β i).ok) (L:List Int):∀ k,(c0U wd β L k).ok
 | 0=>Bag.zero_ok
 | k+1=>a8L (b4v h L k) (c3R h _)
def gD (wd:Nat) (on:List Bag) (β:Nat→Bag) (first:Bag) (S:List Bag) (at_:Nat):Nat→Bag:=match at_ with
 | 0=>a1E wd on first
 | k+1=>a1E wd on (c0U wd β (S.getD (k+1) Bag.zero).list (S.getD (k+1) Bag.zero).list.length)
theorem c7z {wd:Nat} {on:List Bag} {β:Nat→Bag} {first:Bag} {S:List Bag} {k:Nat} (h:1≤k):gD wd on β first S k=a1E wd on (c0U wd β (S.getD k Bag.zero).list (S.getD k Bag.zero).list.length):=by
 cases k with | zero=>omega | succ k=>rfl
def tabV (wd:Nat) (on:List Bag) (β:Nat→Bag) (p:Pc):Option (List Bag×List (List Int)):=goA Bag.zero (gD wd on β p.first) 0 [Bag.zero] []
def c9A (p:Pc):Option (List Bag×List (List Int))→HV
 | some (S,R)=>t2 (tabP R (accS p.empty p.ends S)) (intV 0)
 | none=>t2 b3z (intV 7)
theorem b1b {z:Bag} {g:List Bag→Nat→Nat→Bag} {i:Nat} {S:List Bag} {R:List (List Int)} (h:i < S.length) (hS:S.length≤200):goA z g i S R=if 200 < (a1z z (g S i) S 32).1.length then none else goA z g (i+1) (a1z z (g S i) S 32).1 (R++[(a1z z (g S i) S 32).2]):=by
 by_cases h3:200 < (a1z z (g S i) S 32).1.length
 ·rw [if_pos h3];exact c6B h hS h3
 ·rw [if_neg h3];exact c7V h hS h3
theorem b5S {S:List Bag} {i:Nat} (h:∀ b∈S,b.ok) (hi:i < S.length):(S.getD i Bag.zero).ok:=by
 rw [List.getD_eq_getElem?_getD,List.getElem?_eq_getElem hi];exact h _ (List.getElem_mem hi)
theorem c8O {g2 g4 n:Nat} {R:List (List Int)} {A:List Bool} {F:Nat→Nat→HV} (hF:F 0 0=.os 9004 g4 0 n) (hn:n=R.length):Fz [(9002,⟨g2,1,1,86,0,F⟩),(9004,stO g4 n R A)] (.pt 9002 g2 0 0) (tabP R A):=by
 subst hn
 refine .pt 9002 g2 0 0 1 _ _ (.head _) rfl (Nat.lt_succ_self 0) (Nat.le_refl _) (fun j hj=>?_)
 obtain rfl:j=0:=by omega
 show Fz _ (F 0 0) _
 rw [hF]
 exact .os 9004 g4 0 R.length (stO g4 R.length R A) _ (.tail _ (.head _)) rfl (by show 0+R.length≤R.length;omega) (fun i j hi hj=>by rw [Nat.zero_add];exact b2s R A i j)
theorem b2a (wd:Nat) (hw:wd≤1000) (on:List Bag) (hon:∀ i,(onF on i).ok) (β:Nat→Bag) (hβ:∀ i,(β i).ok) (p:Pc) (hpk:p.ok):HPure Tryz.prog 10 [netP wd on β p] (c9A p (tabV wd on β p)):=by
 have h0:tabV wd on β p=if 200 < (a1z Bag.zero (a1E wd on p.first) [Bag.zero] 32).1.length then none else goA Bag.zero (gD wd on β p.first) 1 (a1z Bag.zero (a1E wd on p.first) [Bag.zero] 32).1 ([]++[(a1z Bag.zero (a1E wd on p.first) [Bag.zero] 32).2]):=b1b (S:=[Bag.zero]) (i:=0) (by decide) (by decide)
 have hA0:c3L p.ends (a1E wd on p.first) [Bag.zero] [p.empty] 32=accS p.empty p.ends (a1z Bag.zero (a1E wd on p.first) [Bag.zero] 32).1:=b1H (e:=p.empty) (S:=[Bag.zero]) (by decide) _ 32
 have hl0:=a3O Bag.zero (a1E wd on p.first) [Bag.zero] 32
 refine b2M Tryz.func10 rfl kr _ _ _ rfl 69 rfl rfl (fun w F=>?_)
 refine ru 14 ?_
 refine wdc (fun hr0 hc0=>?_) (fun hr0 hc0=>?_)
 ·skip
  exfalso;simp at hr0
 refine ru 6 ?_
 refine clx (c1k wd on β p) ?_
 refine ru 1 ?_
 refine a2n 14 (a0b (id:=9004) (hs:=[_]) ei_84.h (nb rfl) rfl (nb rfl) ⟨rfl,rfl,rfl,rfl,trivial⟩) rfl rfl a0g rfl rfl (k':=5) rfl ?_
 refine ru 1 ?_
 refine a2n 16 (a6k (id:=9002) (sz:=1) rfl rfl rfl (nb rfl) (nb rfl)) rfl rfl a0g rfl rfl (k':=7) rfl ?_
 refine ru 1 ?_
 refine a2n 18 (a0b (id:=9003) (hs:=[_]) ei_87.h (nb rfl) rfl (nb rfl) ⟨rfl,rfl,rfl,rfl,trivial⟩) rfl rfl a0g rfl rfl (k':=9) rfl ?_
 refine a2n 19 (a8I (id:=9005)) rfl rfl a0g rfl rfl (k':=10) rfl ?_
 refine ru 1 ?_
 refine a2n 21 (a6k (id:=9001) (sz:=4) rfl rfl rfl (nb rfl) (nb rfl)) rfl rfl a0g rfl rfl (k':=12) rfl ?_
 refine ru 4 ?_
 refine (a1b 9001 (mkO 12 (netP wd on β p) 7 9 1 10) rfl (by exact b1W (.refl _) (.refl _) (.refl _) (.refl _))).wp ?_;refine (a1b 9002 (tbO 7 5 1) rfl (by exact c4S (.refl _))).wp ?_;refine (a1b 9003 (seO 9 [Bag.zero]) rfl (.of fun i j hi hj=>by obtain rfl:i=0:=(by have:i < 1:=hi;omega);match j,hj with | 0,_=>exact .refl _ | 1,_=>exact .refl _ | 2,_=>exact .refl _ | 3,_=>exact .refl _)).wp ?_;refine (a1b 9004 (stO 5 1 [] [p.empty]) rfl (.of fun i j hi hj=>by obtain rfl:i=0:=(by have:i < 1:=hi;omega);by_cases hj2:j < 32;(rw [a2s hj2];show Sb (bld [(32,1,boolV p.empty)] (fun j=>.imm ((List.replicate 32 (Value.int .i64 0)++[Value.bool false]).getD j undef)) j) _;rw [c8E rfl rfl j hj2];exact .refl _);(obtain rfl:j=32:=om;exact .refl _))).wp ?_
 refine ru 3 ?_
 refine cll (c2F wd on β p) ?_
 refine a0s 25 (xs:=[_,_,_]) (pre:=[(9001,_),(9002,_),(9003,_),(9004,_),(9005,_)]) (c3S _ 12 7 9 5 10 wd hw on hon β p hpk [Bag.zero] [p.empty] [] p.first hpk.1 ⟨by decide,by decide⟩ rfl) ⟨rfl,⟨rfl,⟨rfl,trivial⟩⟩⟩ (a0i rfl (a0i rfl (a0i rfl (a0i rfl (a0i rfl a0g))))) rfl rfl (fun x1 c1 hx1=>?_)
 obtain ⟨r1,r2⟩:=x1
 (try dsimp only)
 refine ru 4 ?_
 have hok0:=b3G (S:=[Bag.zero]) (g:=a1E wd on p.first) (by intro b hb;simp at hb;subst hb;exact Bag.zero_ok) (a5j _ _ _) 32;rw [hA0];clear hA0;generalize a1z Bag.zero (a1E wd on p.first) [Bag.zero] 32=rw0 at h0 hl0 hok0 ⊢
 refine ru 5 ?_
 refine a0l (α:=Nat×Nat×Nat×List Bag×List (List Int)) (fun x c=>⟨69,[(1,.v (.pt 1 0 0 0)),(4,.v (.pt 9001 12 0 0)),(5,.v (intV x.1))],[(9001,mkO 12 (netP wd on β p) 7 x.2.1 x.2.2.2.1.length 10),(9002,tbO 7 x.2.2.1 x.2.2.2.1.length),(9003,seO x.2.1 x.2.2.2.1),(9004,stO x.2.2.1 x.2.2.2.1.length x.2.2.2.2 (accS p.empty p.ends x.2.2.2.1)),(9005,knO 10 x.2.2.2.1),(1,⟨0,1,1,55,0,fun _ _=>netP wd on β p⟩)],c⟩) (fun x=>1≤x.1∧x.1≤x.2.2.2.1.length∧x.2.2.2.2.length=x.1∧x.2.2.2.1.length≤232∧(∀ b∈x.2.2.2.1,b.ok)∧tabV wd on β p=(if 200 < x.2.2.2.1.length then none else goA Bag.zero (gD wd on β p.first) x.1 x.2.2.2.1 x.2.2.2.2)) (fun x=>233 - x.1) ((1,r1,r2,rw0.1,[]++[rw0.2])) (by exact ⟨Nat.le_refl _,hl0.1,rfl,Nat.le_trans hl0.2.1 (by decide),hok0,h0⟩) (a0c rfl (Nat.le_refl _) tsa hsa) (fun x c hx NhL1 hL1=>?_)
 revert hx hL1;obtain ⟨i,q1,q2,S,R⟩:=x;intro hx hL1;dsimp only at hx hL1 ⊢
 obtain ⟨hi1,hiS,hRi,hS2,hok,hT⟩:=hx
 refine ru 12 ?_
 refine wdc (fun hr1 hc1=>?_) (fun hr1 hc1=>?_)
 ·skip
  have hiS2:i < S.length:=om
  refine ru 15 ?_
  refine wdc (fun hr2 hc2=>?_) (fun hr2 hc2=>?_)
  ·refine ru 10 ?_
   refine a0o ?_
   refine ru 2 ?_
   refine a9u ?_
   refine rt2 ?_
   rw [hT,if_pos om];exact a5K (.imm _) (.imm _)
  have hS3:S.length≤200:=om;have hsk:=b5S hok hiS2
  refine ru 17 ?_
  refine s0 (a0f (xs:=[_]) (c2B (S.getD i Bag.zero)) ⟨rfl,trivial⟩ ⟨(a2r (fun j hj=>by show a6Y ((S.getD (0+(i:Int).toNat) Bag.zero).word _)=_;rw [Nat.zero_add];rfl)),trivial⟩) ?_
  refine ru 3 ?_
  refine a8l (α:=Nat) ⟨rfl,rfl,rfl⟩ (b5D (S.getD i Bag.zero) hsk) rfl (cs:=[_]) rfl (fun i hi=>by first | rfl | (cases i <;> first | rfl | (simp at hi))) ⟨(Fz.eq rfl),trivial⟩ rfl (fun _=>rfl) rfl (fun x=>[(9001,mkO 12 (netP wd on β p) 7 q1 S.length 10),(9002,tbO 7 q2 S.length),(9003,seO q1 S),(9004,stO q2 S.length R (accS p.empty p.ends S)),(9005,knO 10 S),(1,⟨0,1,1,55,0,fun _ _=>netP wd on β p⟩),(6,⟨c,1,4,47,0,fun _ j=>a3p (c0U wd β (S.getD i Bag.zero).list x) j⟩)]) (fun x=>x) (fun x=>x≤(S.getD i Bag.zero).list.length) (0) om (by first | rfl | omega) (hsr rfl (hsr rfl (hsr rfl (hsr rfl (hsr rfl (hsr rfl (a0e.cons rfl (.of fun i j hi hj=>by match j,hj with | 0,_=>exact .refl _ | 1,_=>exact .refl _ | 2,_=>exact .refl _ | 3,_=>exact .refl _) a0e.nil))))))) rfl (fun m c hx hi C1 lr hC1 NhR2 hR2=>?_) (fun m c hx hi=>?_)
  ·skip
   (try dsimp only at hx hi hR2 ⊢)
   refine ru 3 ?_
   refine hR2 _ (fun C2 hC3=>?_)
   refine ru 5 ?_
   refine clx (b8p wd on β p _ hw) ?_
   refine d0 5 (a0f (xs:=[_,_]) (c5u (c0U wd β (S.getD i Bag.zero).list m) (beI wd β ((S.getD i Bag.zero).list.getD m 0)) (b4v hβ _ _) (c3R hβ _)) ⟨rfl,⟨rfl,trivial⟩⟩ ⟨(a2r (by exact j4 rfl rfl rfl rfl)),⟨(Fz.eq rfl),trivial⟩⟩) ?_
   refine ru 3 ?_
   exact a4e ⟨m+1,by (try dsimp only);omega,by first | rfl | omega,hsa⟩
  ·skip
   (try dsimp only at hx hi ⊢)
   subst hi;have hgd:=c7z (wd:=wd) (on:=on) (β:=β) (first:=p.first) (S:=S) hi1;have hl:=a3O Bag.zero (gD wd on β p.first S i) S 32;have hst:=b1b (z:=Bag.zero) (g:=gD wd on β p.first) (R:=R) hiS2 hS3
   refine ru 5 ?_
   refine rvl (intV (R.length:Int)) ((by rw [hRi])) ?_
   refine ru 1 ?_
   refine (a1c 57 [] rfl a0g rfl ((a2r (by exact j4 rfl rfl rfl rfl)))).seq ?_
   refine a0s 58 (xs:=[_,_,_]) (pre:=[(9001,_),(9002,_),(9003,_),(9004,_),(9005,_)]) (c3S _ 12 7 q1 q2 10 wd hw on hon β p hpk S (accS p.empty p.ends S) R (c0U wd β (S.getD i Bag.zero).list (S.getD i Bag.zero).list.length) (b4v hβ _ _) ⟨by omega,by omega⟩ (a6M _ _ _)) ⟨rfl,⟨rfl,⟨rfl,trivial⟩⟩⟩ (a0i rfl (a0i rfl (a0i rfl (a0i rfl (a0i rfl a0g))))) rfl rfl (fun x2 c2 hx2=>?_)
   obtain ⟨r1,r2⟩:=x2
   (try dsimp only)
   refine ru 3 ?_
   rw [b1H (e:=p.empty) (E:=p.ends) om,←hgd]
   refine ru 5 ?_
   exact hL1 ((i+1,r1,r2,(a1z Bag.zero (gD wd on β p.first S i) S 32).1,R++[(a1z Bag.zero (gD wd on β p.first S i) S 32).2])) _ _ (by (try dsimp only);exact ⟨by omega,by omega,by simp [hRi],by omega,b3G hok (by rw [hgd];exact a5j _ _ _) 32,by rw [hT,if_neg om,hst]⟩) (by (try dsimp only);omega) (a0c rfl (Nat.le_refl _) (tsr rfl (tsr rfl (a0t.cons rfl (a0F om) a0t.nil))) hsa)
 have hie:i=S.length:=om
 refine ru 2 ?_
 refine a0d ?_
 refine ru 13 ?_
 refine wdc (fun hr3 hc3=>?_) (fun hr3 hc3=>?_)
 ·refine ru 8 ?_
  refine a9u ?_
  refine rt2 ?_
  rw [hT,if_pos om];exact a5K (.imm _) (.imm _)
 refine ru 13 ?_
 refine a9u ?_
 refine a9k rfl (a0h rfl) (a0h rfl) [(9002,_),(9004,_)] rfl (a0i rfl (a0i rfl a0g)) ?_
 rw [hT,if_neg om,b8f om];exact a5K (c8O rfl om) (.imm _)
@[reducible] def c4a (b:Nat) (ob:Nat→HObj):Nat→Nat→HV:=fun _ k=>.os (b+k) (ob k).g 0 (ob k).n
@[reducible] def c3n (b:Nat) (ob:Nat→HObj) (i id c m:Nat):Nat→Nat→HV:=fun _ k=>if k=i then .os id c 0 m else .os (b+k) (ob k).g 0 (ob k).n
section
variable {C:Ctx} {n clk:Nat} {tm:List (Nat×TV)}
theorem b3b (o id b i N go:Nat) (ty:TypeId) (L:List (Nat×HObj)) (ob:Nat→HObj) (hi:i < N) (hob:o < b) (hid:id < b) (hne:id≠o) (hL:b3M b id L=true) (hfl:(ob i).fl≤(ob i).n) :
    a4w C ⟨n,tm,(o,⟨go,1,N,ty,0,c4a b ob⟩)::(L++a4S b ob (fun _=>true) N),clk⟩ ⟨n,tm,(o,⟨go,1,N,ty,0,c3n b ob i id clk (ob i).n⟩)::(id,{ ob i with g:=clk })::(L++a4S b ob (fun k=>k != i) N),clk+1⟩:=by
  have hrow:hget ((o,(⟨go,1,N,ty,0,c4a b ob⟩:HObj))::(L++a4S b ob (fun _=>true) N)) (b+i)=some (ob i):=by
    rw [a0m,a0p _ _ (by omega),a1K,a2D hL _ (.inl (by omega))]
    simp only
    rw [a1m,if_pos ⟨by omega,by omega,rfl⟩,Nat.add_sub_cancel_left]
  have key:=b3q (C:=C) (n:=n) (clk:=clk) (tm:=tm) o (b+i) id ((o,⟨go,1,N,ty,0,c4a b ob⟩)::(L++a4S b ob (fun k=>k != i) N)) (lo:=0) (m:=(ob i).n) (c3n b ob i id clk (ob i).n) hrow
    (by rw [a0m,a0v]) hne (by omega) (fun k j hk hj=>by
      by_cases e:j=i
      · subst e;right;exact ⟨rfl,by show (if j=j then _ else _)=_;rw [if_pos rfl]⟩
      · left;show (if j=i then _ else _)=_;rw [if_neg e]) (Nat.zero_le _) (fun k o' hk=>by
      rw [a0m] at hk
      by_cases e:k=o
      · subst e;rw [a0v] at hk;exact ⟨by omega,Ne.symm hne,by rw [a0m,a0v];exact hk⟩
      · rw [a0p _ _ e,a1K] at hk
        rw [a0m,a0p _ _ e,a1K]
        cases h1:hget L k with
        | some x =>
          rw [h1] at hk
          refine ⟨fun e2=>?_,fun e2=>?_,by simpa using hk⟩
          · rw [e2,a2D hL _ (.inl (by omega))] at h1;cases h1
          · rw [e2,a2D hL _ (.inr rfl)] at h1;cases h1
        | none =>
          rw [h1] at hk
          simp only at hk ⊢
          rw [a1m] at hk ⊢
          by_cases h2:b≤k∧k < b+N∧((k - b) != i)=true
          · rw [if_pos h2] at hk
            have h3:k - b≠i:=by simpa using h2.2.2
            refine ⟨by omega,by omega,?_⟩
            rw [if_pos ⟨h2.1,h2.2.1,rfl⟩];exact hk
          · rw [if_neg h2] at hk;cases hk)
  refine a4w.trans key (a6e (fun k o' hk=>⟨o',?_,a2J.refl _⟩))
  rw [a0m] at hk ⊢
  by_cases e:k=o
  · subst e;rw [a0v] at hk ⊢;exact hk
  · rw [a0p _ _ e,a0m] at hk ⊢
    by_cases e2:k=id
    · subst e2;rw [a0v] at hk ⊢;exact hk
    · rw [a0p _ _ e2] at hk ⊢
      rw [a0m,a0p _ _ e];exact hk
theorem b6y (o id b i N go c m sz fl:Nat) (ty ty2:TypeId) (f:Nat→Nat→HV) (L:List (Nat×HObj)) (ob:Nat→HObj) (hi:i < N) (hob:o < b) (hid:id < b) (hne:id≠o) (hL:b3M b id L=true) :
    a4w C ⟨n,tm,(o,⟨go,1,N,ty,0,c3n b ob i id c m⟩)::(id,⟨c,m,sz,ty2,fl,f⟩)::(L++a4S b ob (fun k=>k != i) N),clk⟩ ⟨n,tm,(o,⟨go,1,N,ty,0,c4a b (fup ob i ⟨clk,m,sz,ty2,fl,f⟩)⟩)::(L++a4S b (fup ob i ⟨clk,m,sz,ty2,fl,f⟩) (fun _=>true) N),clk+1⟩:=by
  have hLo:∀ k x,hget L k=some x→k < b∧k≠id:=fun k x h=>by
    refine ⟨Nat.lt_of_not_le fun h'=>?_,fun h'=>?_⟩
    · rw [a2D hL _ (.inl h')] at h;cases h
    · rw [a2D hL _ (.inr h')] at h;cases h
  have key:=b3q (C:=C) (n:=n) (clk:=clk) (tm:=tm) (hp:=(o,⟨go,1,N,ty,0,c3n b ob i id c m⟩)::(id,⟨c,m,sz,ty2,fl,f⟩)::(L++a4S b ob (fun k=>k != i) N)) o id (b+i) ((o,⟨go,1,N,ty,0,c3n b ob i id c m⟩)::(L++a4S b ob (fun k=>k != i) N)) (lo:=0) (m:=m) (c4a b (fup ob i ⟨clk,m,sz,ty2,fl,f⟩))
    (by rw [a0m,a0p _ _ hne,a0m,a0v]) (by rw [a0m,a0v]) (by omega) (by omega) (fun k j hk hj=>by
      by_cases e:j=i
      · subst e;right
        refine ⟨by show (if j=j then _ else _)=_;rw [if_pos rfl],?_⟩
        show HV.os (b+j) (fup ob j _ j).g 0 (fup ob j _ j).n=_
        unfold fup;rw [if_pos rfl]
      · left
        show HV.os (b+j) (fup ob i _ j).g 0 (fup ob i _ j).n=if j=i then _ else _
        unfold fup;rw [if_neg e,if_neg e]) (Nat.zero_le _) (fun k o' hk=>by
      rw [a0m] at hk
      by_cases e:k=o
      · subst e;rw [a0v] at hk;exact ⟨Ne.symm hne,by omega,by rw [a0m,a0v];exact hk⟩
      · rw [a0p _ _ e,a1K] at hk
        cases h1:hget L k with
        | some x =>
          have:=hLo k x h1
          rw [h1] at hk
          refine ⟨this.2,by omega,?_⟩
          rw [a0m,a0p _ _ e,a0m,a0p _ _ this.2,a1K,h1];exact hk
        | none =>
          rw [h1] at hk
          simp only at hk
          rw [a1m] at hk
          by_cases h2:b≤k∧k < b+N∧((k - b) != i)=true
          · have h3:k - b≠i:=by simpa using h2.2.2
            refine ⟨by omega,by omega,?_⟩
            rw [a0m,a0p _ _ e,a0m,a0p _ _ (by omega),a1K,h1]
            simp only
            rw [a1m];exact hk
          · rw [if_neg h2] at hk;cases hk)
  refine a4w.trans key (a6e (fun k o' hk=>⟨o',?_,a2J.refl _⟩))
  rw [a0m] at hk ⊢
  by_cases e:k=o
  · subst e;rw [a0v] at hk ⊢;exact hk
  · rw [a0p _ _ e] at hk ⊢
    rw [a0m]
    rw [a1K] at hk
    cases h1:hget L k with
    | some x =>
      have:=hLo k x h1
      rw [h1] at hk
      rw [a0p _ _ (by omega),a0m,a0p _ _ e,a1K,h1];exact hk
    | none =>
      rw [h1] at hk
      simp only at hk
      rw [a1m] at hk
      by_cases h2:b≤k∧k < b+N∧true=true
      · rw [if_pos h2] at hk
        by_cases e2:k=b+i
        · subst e2
          rw [a0v]
          rw [Nat.add_sub_cancel_left] at hk
          unfold fup at hk;rw [if_pos rfl] at hk;exact hk
        · rw [a0p _ _ e2,a0m,a0p _ _ e,a1K,h1]
          simp only
          rw [a1m,if_pos ⟨h2.1,h2.2.1,by simp;omega⟩]
          unfold fup at hk;rw [if_neg (by omega)] at hk;exact hk
      · rw [if_neg h2] at hk;cases hk
theorem c0l (o b N go sz:Nat) (ty ty2:TypeId) (f F:Nat→Nat→HV) (L:List (Nat×HObj)) (hF:∀ j,j < N→F 0 j=.imm (.slice none 0 0)) (hob:o < b) (hL:b3M b o L=true) (hsz:0 < sz) :
    a4w C ⟨n,tm,(o,⟨go,1,N,ty,0,F⟩)::L,clk⟩ ⟨n,tm,(o,⟨go,1,N,ty,0,c4a b (fun k=>⟨clk+k,0,sz,ty2,0,f⟩)⟩)::(L++a4S b (fun k=>⟨clk+k,0,sz,ty2,0,f⟩) (fun _=>true) N),clk+N⟩:=by
  have hLo:∀ k x,hget L k=some x→k < b∧k≠o:=fun k x h=>by
    refine ⟨Nat.lt_of_not_le fun h'=>?_,fun h'=>?_⟩
    · rw [a2D hL _ (.inl h')] at h;cases h
    · rw [a2D hL _ (.inr h')] at h;cases h
  have key:∀ m,m≤N→a4w C ⟨n,tm,(o,⟨go,1,N,ty,0,F⟩)::L,clk⟩ ⟨n,tm,(o,⟨go,1,N,ty,0,fun _ j=>if j < m then .os (b+j) (clk+j) 0 0 else F 0 j⟩)::(L++a4S b (fun k=>⟨clk+k,0,sz,ty2,0,f⟩) (fun j=>decide (j < m)) N),clk+m⟩:=by
    intro m
    induction m with
    | zero =>
      intro _
      refine a6e (fun k o' hk=>?_)
      rw [a0m] at hk ⊢
      by_cases e:k=o
      · subst e;rw [a0v] at hk ⊢
        injection hk with hk;subst hk
        exact ⟨_,rfl,.of fun i j hi hj=>by obtain rfl:i=0:=(by omega);rw [if_neg (Nat.not_lt_zero _)];exact .refl _⟩
      · rw [a0p _ _ e,a1K] at hk
        rw [a0p _ _ e]
        cases h1:hget L k with
        | some x=>rw [h1] at hk;exact ⟨o',hk,a2J.refl _⟩
        | none =>
          rw [h1] at hk
          simp only at hk
          rw [a1m] at hk
          by_cases h2:b≤k∧k < b+N∧decide (k - b < 0)=true
          · simp at h2
          · rw [if_neg h2] at hk;cases hk
    | succ m ih =>
      intro hm
      refine a4w.trans (ih (by omega)) ?_
      refine a4w.trans (a1x o m (b+m) sz ty2 f (fun _ j=>if j < m+1 then .os (b+j) (clk+j) 0 0 else F 0 j) (by rw [a0m,a0v]) (by rw [if_neg (Nat.lt_irrefl _)];exact hF m (by omega)) (fun j hj=>by
        by_cases e:j=m
        · subst e;left;exact ⟨rfl,by rw [if_pos (Nat.lt_succ_self _)]⟩
        · right
          by_cases h:j < m
          · rw [if_pos h,if_pos (by omega)]
          · rw [if_neg h,if_neg (by omega)]) (by omega) hsz (c':=clk+(m+1)) rfl) (a6e (fun k o' hk=>⟨o',?_,a2J.refl _⟩))
      rw [a0m] at hk ⊢
      by_cases e:k=o
      · subst e;rw [a0v] at hk ⊢;exact hk
      · rw [a0p _ _ e] at hk ⊢
        rw [a0m]
        rw [a1K] at hk
        cases h1:hget L k with
        | some x =>
          have:=hLo k x h1
          rw [h1] at hk
          rw [a0p _ _ (by omega),a0m,a0p _ _ e,a1K,h1];exact hk
        | none =>
          rw [h1] at hk
          simp only at hk
          rw [a1m] at hk
          by_cases h2:b≤k∧k < b+N∧decide (k - b < m+1)=true
          · rw [if_pos h2] at hk
            have h3:k - b < m+1:=by simpa using h2.2.2
            by_cases e2:k=b+m
            · subst e2
              rw [a0v]
              rw [Nat.add_sub_cancel_left] at hk;exact hk
            · rw [a0p _ _ e2,a0m,a0p _ _ e,a1K,h1]
              simp only
              rw [a1m,if_pos ⟨h2.1,h2.2.1,by simp;omega⟩];exact hk
          · rw [if_neg h2] at hk;cases hk
  refine a4w.trans (key N (Nat.le_refl _)) (a6e (fun k o' hk=>?_))
  rw [a0m] at hk ⊢
  by_cases e:k=o
  · subst e;rw [a0v] at hk ⊢
    injection hk with hk;subst hk
    exact ⟨_,rfl,.of fun i j hi hj=>by rw [if_pos hj];exact .refl _⟩
  · rw [a0p _ _ e,a1K] at hk ⊢
    refine ⟨o',?_,a2J.refl _⟩
    cases h1:hget L k with
    | some x=>rw [h1] at hk;exact hk
    | none =>
      rw [h1] at hk
      simp only at hk ⊢
      rw [a1m] at hk ⊢
      by_cases h2:b≤k∧k < b+N∧true=true
      · rw [if_pos h2] at hk
        rw [if_pos ⟨h2.1,h2.2.1,by simp;omega⟩];exact hk
      · rw [if_neg h2] at hk;cases hk
end
@[reducible] def b8j (R:List (List Int)):Nat→Nat→HV:=fun i j=>intV ((R.getD i []).getD j 0)
@[reducible] def tdF (S:List Bag) (R:List (List Int)) (A:List Bool):Nat→HV:=fun j=>match j with
 | 0=>.sl 1 S.length (fun i _=>a0n (S.getD i Bag.zero).list)
 | 1=>.sl 32 R.length (b8j R)
 | _=>.sl 1 A.length (fun i _=>boolV (A.getD i false))
@[reducible] def tabD (S:List Bag) (R:List (List Int)) (A:List Bool):HV:=.agg 3 (tdF S R A)
theorem c0G (S:List Bag) (R:List (List Int)) (A:List Bool) (a s:Int) (ha:a < R.length) (hs:0≤s∧s < 32):HPure Tryz.prog 29 [tabD S R A,intV a,intV s] (intV (nxT R a s)):=by
 refine a0k Tryz.func29 rfl kr _ _ _ rfl 16 rfl rfl (fun w F=>?_)
 refine ru 13 ?_
 refine wdc (fun hr0 hc0=>?_) (fun hr0 hc0=>?_)
 ·skip
  have hx:nxT R a s=-1:=(by unfold nxT;rw [if_neg om])
  refine ru 7 ?_
  refine rt1 ?_
  rw [hx];exact .imm _
 have hx:nxT R a s=(R.getD a.toNat []).getD s.toNat 0:=(by unfold nxT;rw [if_pos om])
 refine ru 11 ?_
 refine rvl (intV ((R.getD a.toNat []).getD s.toNat 0)) ((by show intV ((R.getD a.toNat []).getD (s.toNat * 1+0) 0)=_;rw [show s.toNat * 1+0=s.toNat by omega])) ?_
 refine ru 4 ?_
 refine rt1 ?_
 rw [hx];exact .imm _
def c1N (R:List (List Int)):Prop:=∀ i,i < R.length→∀ s,s < 32→-1≤(R.getD i []).getD s 0∧(R.getD i []).getD s 0 < R.length
theorem a7J {R:List (List Int)} (hR:c1N R) (a s:Int):-1≤nxT R a s∧nxT R a s < R.length:=by
 unfold nxT
 split
 ·exact hR _ (by omega) _ (by omega)
 ·omega
theorem a8n (x:Bag):x.list.length≤1000000:=by have:=a2H x;omega
@[reducible] def boF (f:Nat→Bool):Nat→Nat→HV:=fun j _=>boolV (f j)
@[reducible] def d0z (n:Nat) (f:Nat→Nat→Bool):HV:=.sl 1 n (fun i _=>.sl 1 n (boF (f i)))
instance frz_rel (n:Nat) (f:Nat→Nat→Bool):Frz (d0z n f):=⟨.sl _ _ _ _ fun _ _ _ _=>.sl _ _ _ _ fun _ _ _ _=>.imm _⟩
theorem b9V {x:Nat×HObj} {hp:List (Nat×HObj)} {b k:Nat} (hx:Nat.blt x.1 b=true):hget (x::hp) (b+k)=hget hp (b+k):=by
 obtain ⟨k0,o0⟩:=x
 have:k0 < b:=by simpa [Nat.blt_eq] using hx
 rw [a0m,a0p _ _ (by omega)]
theorem b4K {b N k:Nat} {ob:Nat→HObj} (h:k < N):hget (a4S b ob (fun _=>true) N) (b+k)=some (ob k):=by
 rw [a1m,if_pos ⟨by omega,by omega,rfl⟩,Nat.add_sub_cancel_left]
def c9k (r x:Nat→Nat→Bool) (i k j:Nat):Bool:=(List.range k).any (fun q=>r i q&&x q j)
@[reducible] def c7y (n:Nat) (r x:Nat→Nat→Bool):Nat→Nat→Bool:=fun i j=>c9k r x i n j
@[reducible] def orB (r y:Nat→Nat→Bool):Nat→Nat→Bool:=fun a b=>r a b||y a b
def d0h (n:Nat) (y:Nat→Nat→Bool):Nat→Nat→Nat→Bool
 | 0=>fun i j=>decide (i=j)
 | k+1=>c7y n (d0h n y k) y
def c7R (n lo:Nat) (hi:Int) (y:Nat→Nat→Bool) (i j:Nat):Prop:=∃ k,lo≤k∧(hi < 0∨(k:Int)≤hi)∧d0h n y k i j=true
open Classical in
noncomputable def c7P (n lo:Nat) (hi:Int) (y:Nat→Nat→Bool):Nat→Nat→Bool:=fun i j=>decide (c7R n lo hi y i j)
end Go.Proofs.YtdbbbafiegpbpaaGreatDoor
namespace Go.Proofs.YtdbbbafiegpbpaaGreatDoor
set_option linter.unusedSimpArgs false
set_option linter.unusedVariables false
set_option maxRecDepth 10000
def b6h (L:List Int→Prop):Nat→List Int→Prop
 | 0,w=>w=[]
 | k+1,w=>∃ u v,w=u++v∧b6h L k u∧L v
mutual
def c0V (m:List UInt8→Bag):T→List Int→Prop
 | .name s=>fun w=>∃ a,w=[a]∧a∈(m s).list
 | .times lo hi t=>fun w=>∃ k:Nat,lo≤(k:Int)∧(hi < 0∨(k:Int)≤hi)∧b6h (c0V m t) k w
 | .many k ts=>fun w=>if k=3 then c8H m ts w else c6V m ts w
def c8H (m:List UInt8→Bag):List T→List Int→Prop
 | []=>fun _=>False
 | t::ts=>fun w=>c0V m t w∨c8H m ts w
def c6V (m:List UInt8→Bag):List T→List Int→Prop
 | []=>fun w=>w=[]
 | t::ts=>fun w=>∃ u v,w=u++v∧c0V m t u∧c6V m ts v
end
def sch (w:List Int) (x y:Nat):List Int:=(w.drop x).take (y - x)
def d0t (w:List Int) (L:List Int→Prop) (x y:Nat):Prop:=x≤y∧y≤w.length∧L (sch w x y)
def b4n (L K:List Int→Prop) (w:List Int):Prop:=∃ u v,w=u++v∧L u∧K v
end Go.Proofs.YtdbbbafiegpbpaaGreatDoor
namespace Go.Proofs.YtdbbbafiegpbpaaGreatDoor
set_option linter.unusedSimpArgs false
set_option linter.unusedVariables false
set_option maxRecDepth 100000
set_option maxHeartbeats 1000000
open Go.RowKit
abbrev Rl:=Nat→Nat→Bool
def rl0:Rl:=fun _ _=>false
open Classical in
noncomputable def d0r (m:List UInt8→Bag) (w:List Int) (t:T):Rl:=fun x y=>decide (d0t w (c0V m t) x y)
def d0m (n:Nat) (al:List Rl) (ks:List Int):Rl:=ks.foldl (fun r k=>c7y n r (al.getD k.toNat rl0)) (fun i j=>decide (i=j))
def d0v (al:List Rl) (ks:List Int):Rl:=ks.foldl (fun r k=>orB r (al.getD k.toNat rl0)) (fun _ _=>false)
def c8d (m:List UInt8→Bag) (w:List Int) (s:List UInt8):Rl:=fun a b=>decide (a < w.length)&&(decide (b=a+1)&&decide (w.getD a 0∈(m s).list))
noncomputable def d0A (m:List UInt8→Bag) (w:List Int) (al:List Rl) (p:Pt):Rl :=
 if p.kind=1 then c8d m w p.name else if p.kind=2 then d0m (w.length+1) al p.kids else if p.kind=3 then d0v al p.kids else c7P (w.length+1) p.low.toNat p.high (al.getD (p.kids.getD 0 0).toNat rl0)
section
variable {m:List UInt8→Bag} {w:List Int} {e:List Pt} {i b:Nat} {al:List Rl}
end
open Classical in
noncomputable def d0D (m:List UInt8→Bag) (t:T) (w:List Int):Bool:=decide (c0V m t w)
section
variable (on:List Bag) (β:Nat→Bag) (ends:Bag)
end
section
variable {on:List Bag} {β:Nat→Bag} {ends:Bag} {ps:List Int} {a:Int}
end
theorem c0C (x y:Bag) (k:Nat):(x.mix a6Z y 4).has k=(x.has k&&y.has k):=by
 unfold Bag.has
 have:∀ q,(x.mix a6Z y 4).word q=a6Z (x.word q) (y.word q):=fun q=>by
  match q with
  | 0=>rfl
  | 1=>rfl
  | 2=>rfl
  | q+3=>rfl
 rw [this]
 unfold a6Z
 rw [Nat.testBit_and]
section
variable {on:List Bag} {ends:Bag} {ps:List Int} {a:Int}
end
end Go.Proofs.YtdbbbafiegpbpaaGreatDoor
namespace Go.Proofs.YtdbbbafiegpbpaaGreatDoor
set_option linter.unusedSimpArgs false
set_option linter.unusedVariables false
set_option linter.unusedSectionVars false
set_option maxRecDepth 10000
structure Mc where
 F:Nat→Nat→Prop
 I:Nat→Prop
 E:Nat→Prop
 e:Prop
theorem b2t {A B:Mc} (h1:∀ p q,A.F p q↔B.F p q) (h2:∀ p,A.I p↔B.I p) (h3:∀ p,A.E p↔B.E p) (h4:A.e↔B.e):A=B:=by
 cases A;cases B
 have e1:=funext fun p=>funext fun q=>propext (h1 p q)
 have e2:=funext fun p=>propext (h2 p)
 have e3:=funext fun p=>propext (h3 p)
 have e4:=propext h4
 dsimp only at e1 e2 e3 e4
 subst e1;subst e2;subst e3;subst e4;rfl
structure Mc.In (N M:Nat) (A:Mc):Prop where
 F:∀ {p q},A.F p q→(N≤p∧p < M)∧N≤q∧q < M
 I:∀ {p},A.I p→N≤p∧p < M
 E:∀ {p},A.E p→N≤p∧p < M
theorem Mc.In.mono {N M N' M':Nat} {A:Mc} (h:A.In N M) (h1:N'≤N) (h2:M≤M'):A.In N' M' :=
 ⟨fun k=>by have:=h.F k;omega,fun k=>by have:=h.I k;omega,fun k=>by have:=h.E k;omega⟩
def Mc.alt (A B:Mc):Mc:=⟨fun p q=>A.F p q∨B.F p q,fun p=>A.I p∨B.I p,fun p=>A.E p∨B.E p,A.e∨B.e⟩
def Mc.cat (A B:Mc):Mc:=⟨fun p q=>A.F p q∨B.F p q∨(A.E p∧B.I q),fun p=>A.I p∨(A.e∧B.I p),fun p=>B.E p∨(B.e∧A.E p),A.e∧B.e⟩
def Mc.plus (A:Mc):Mc:=⟨fun p q=>A.F p q∨(A.E p∧A.I q),A.I,A.E,A.e⟩
def Mc.opt (A:Mc):Mc:=⟨A.F,A.I,A.E,True⟩
def Mc.unit:Mc:=⟨fun _ _=>False,fun _=>False,fun _=>False,True⟩
def Mc.void:Mc:=⟨fun _ _=>False,fun _=>False,fun _=>False,False⟩
section
variable {N M K:Nat} {A B:Mc}
theorem a8G:Mc.unit.In N M:=⟨fun h=>h.elim,fun h=>h.elim,fun h=>h.elim⟩
theorem c4C:Mc.void.In N M:=⟨fun h=>h.elim,fun h=>h.elim,fun h=>h.elim⟩
theorem c7Y (hA:A.In N M):A.opt.In N M:=⟨hA.F,hA.I,hA.E⟩
theorem c4B (hA:A.In N M):A.plus.In N M :=
 ⟨fun h=>h.elim (fun h=>hA.F h) (fun h=>⟨hA.E h.1,hA.I h.2⟩),hA.I,hA.E⟩
theorem c7k (hA:A.In N M) (hB:B.In N M):(A.alt B).In N M :=
 ⟨fun h=>h.elim (fun h=>hA.F h) (fun h=>hB.F h),fun h=>h.elim (fun h=>hA.I h) (fun h=>hB.I h),fun h=>h.elim (fun h=>hA.E h) (fun h=>hB.E h)⟩
theorem b6m (hA:A.In N M) (hB:B.In N M):(A.cat B).In N M :=
 ⟨fun h=>h.elim (fun h=>hA.F h) (fun h=>h.elim (fun h=>hB.F h) (fun h=>⟨hA.E h.1,hB.I h.2⟩)),fun h=>h.elim (fun h=>hA.I h) (fun h=>hB.I h.2),fun h=>h.elim (fun h=>hB.E h) (fun h=>hA.E h.2)⟩
variable (σ:Nat→Int→Prop)
def a4X (A:Mc):List Int→Nat→Prop
 | [],_=>False
 | a::w,p=>σ p a∧((w=[]∧A.E p)∨∃ q,A.F p q∧a4X A w q)
def Mc.L (A:Mc) (w:List Int):Prop:=(w=[]∧A.e)∨∃ p,A.I p∧a4X σ A w p
theorem a3o {A B:Mc} (P:Nat→Prop) (hF:∀ p q,P p→(A.F p q↔B.F p q)) (hE:∀ p,P p→(A.E p↔B.E p)) (hP:∀ p q,P p→A.F p q→P q):∀ w p,P p→(a4X σ A w p↔a4X σ B w p)
  | [],_,_=>Iff.rfl
  | a :: w, p, h => by
    simp only [a4X]
    refine and_congr_right fun _=>or_congr (and_congr_right fun _=>hE p h) (exists_congr fun q=>?_)
    constructor
    · rintro ⟨h1,h2⟩;exact ⟨(hF p q h).1 h1,(a3o P hF hE hP w q (hP p q h h1)).1 h2⟩
    · rintro ⟨h1,h2⟩;have h3:=(hF p q h).2 h1;exact ⟨h3,(a3o P hF hE hP w q (hP p q h h3)).2 h2⟩
theorem b5n (hA:A.In N M) (hB:B.In M K) (w:List Int) (p:Nat) (h:p < M):a4X σ (A.alt B) w p↔a4X σ A w p :=
 a3o σ (A:=A.alt B) (B:=A) (fun p=>p < M) (fun p q hp=>⟨fun h=>h.resolve_right fun h2=>by have:=(hB.F h2).1;omega,.inl⟩) (fun p hp=>⟨fun h=>h.resolve_right fun h2=>by have:=hB.E h2;omega,.inl⟩) (fun p q hp h=>by
  rcases h with h | h
  ·exact (hA.F h).2.2
  ·have:=(hB.F h).1;omega) w p h
theorem b3w (hA:A.In N M) (hB:B.In M K) (w:List Int) (p:Nat) (h:M≤p):a4X σ (A.alt B) w p↔a4X σ B w p :=
 a3o σ (A:=A.alt B) (B:=B) (fun p=>M≤p) (fun p q hp=>⟨fun h=>h.resolve_left fun h2=>by have:=(hA.F h2).1;omega,.inr⟩) (fun p hp=>⟨fun h=>h.resolve_left fun h2=>by have:=hA.E h2;omega,.inr⟩) (fun p q hp h=>by
  rcases h with h | h
  ·have:=(hA.F h).1;omega
  ·exact (hB.F h).2.1) w p h
theorem c9s (hA:A.In N M) (hB:B.In M K) (w:List Int):(A.alt B).L σ w↔A.L σ w∨B.L σ w:=by
 constructor
 ·rintro (⟨rfl,h | h⟩ | ⟨p,h | h,h2⟩)
  ·exact .inl (.inl ⟨rfl,h⟩)
  ·exact .inr (.inl ⟨rfl,h⟩)
  ·exact .inl (.inr ⟨p,h,(b5n σ hA hB w p (hA.I h).2).1 h2⟩)
  ·exact .inr (.inr ⟨p,h,(b3w σ hA hB w p (hB.I h).1).1 h2⟩)
 ·rintro ((⟨rfl,h⟩ | ⟨p,h,h2⟩) | (⟨rfl,h⟩ | ⟨p,h,h2⟩))
  ·exact .inl ⟨rfl,.inl h⟩
  ·exact .inr ⟨p,.inl h,(b5n σ hA hB w p (hA.I h).2).2 h2⟩
  ·exact .inl ⟨rfl,.inr h⟩
  ·exact .inr ⟨p,.inr h,(b3w σ hA hB w p (hB.I h).1).2 h2⟩
theorem a6P (hA:A.In N M) (hB:B.In M K) (w:List Int) (p:Nat) (h:M≤p):a4X σ (A.cat B) w p↔a4X σ B w p :=
 a3o σ (A:=A.cat B) (B:=B) (fun p=>M≤p) (fun p q hp=>⟨fun h=>by
   rcases h with h | h | h
   ·have:=(hA.F h).1;omega
   ·exact h
   ·have:=hA.E h.1;omega,fun h=>.inr (.inl h)⟩) (fun p hp=>⟨fun h=>h.resolve_right fun h2=>by have:=hA.E h2.2;omega,.inl⟩) (fun p q hp h=>by
  rcases h with h | h | h
  ·have:=(hA.F h).1;omega
  ·exact (hB.F h).2.1
  ·have:=hA.E h.1;omega) w p h
theorem a8r (hA:A.In N M) (hB:B.In M K):∀ w p,p < M→(a4X σ (A.cat B) w p↔∃ u v,w=u++v∧a4X σ A u p∧B.L σ v)
  | [], p, h => by
    constructor
    · exact fun h=>h.elim
    · rintro ⟨u,v,e,h1,h2⟩
      cases u with
      | nil=>exact h1
      | cons a u=>cases e
  | a :: w, p, h => by
    constructor
    · rintro ⟨hs,h1⟩
      rcases h1 with ⟨rfl,h1⟩ | ⟨q,h1,h2⟩
      · rcases h1 with h1 | ⟨h1,h3⟩
        · have:=hB.E h1;omega
        · exact ⟨[a],[],rfl,⟨hs,.inl ⟨rfl,h3⟩⟩,.inl ⟨rfl,h1⟩⟩
      · rcases h1 with h1 | h1 | ⟨h1,h3⟩
        · obtain ⟨u,v,e,h4,h5⟩:=(a8r hA hB w q (hA.F h1).2.2).1 h2
          exact ⟨a::u,v,by rw [e];rfl,⟨hs,.inr ⟨q,h1,h4⟩⟩,h5⟩
        · have:=(hB.F h1).1;omega
        · exact ⟨[a],w,rfl,⟨hs,.inl ⟨rfl,h1⟩⟩,.inr ⟨q,h3,(a6P σ hA hB w q (hB.I h3).1).1 h2⟩⟩
    · rintro ⟨u,v,e,h1,h2⟩
      cases u with
      | nil=>exact h1.elim
      | cons b u =>
        obtain ⟨rfl,rfl⟩:=List.cons.inj e
        obtain ⟨hs,h3⟩:=h1
        refine ⟨hs,?_⟩
        rcases h3 with ⟨rfl,h3⟩ | ⟨q,h3,h4⟩
        · rcases h2 with ⟨rfl,h2⟩ | ⟨q,h2,h4⟩
          · exact .inl ⟨rfl,.inr ⟨h2,h3⟩⟩
          · exact .inr ⟨q,.inr (.inr ⟨h3,h2⟩),(a6P σ hA hB _ q (hB.I h2).1).2 h4⟩
        · exact .inr ⟨q,.inl h3,(a8r hA hB _ q (hA.F h3).2.2).2 ⟨u,v,rfl,h4,h2⟩⟩
theorem b2X (hA:A.In N M) (hB:B.In M K) (w:List Int):(A.cat B).L σ w↔b4n (A.L σ) (B.L σ) w:=by
 constructor
 ·rintro (⟨rfl,h1,h2⟩ | ⟨p,h | ⟨h,h3⟩,h2⟩)
  ·exact ⟨[],[],rfl,.inl ⟨rfl,h1⟩,.inl ⟨rfl,h2⟩⟩
  ·obtain ⟨u,v,e,h4,h5⟩:=(a8r σ hA hB w p (hA.I h).2).1 h2
   exact ⟨u,v,e,.inr ⟨p,h,h4⟩,h5⟩
  ·exact ⟨[],w,rfl,.inl ⟨rfl,h⟩,.inr ⟨p,h3,(a6P σ hA hB w p (hB.I h3).1).1 h2⟩⟩
 ·rintro ⟨u,v,rfl,⟨rfl,h1⟩ | ⟨p,h1,h2⟩,h3⟩
  ·rcases h3 with ⟨rfl,h3⟩ | ⟨q,h3,h4⟩
   ·exact .inl ⟨rfl,h1,h3⟩
   ·exact .inr ⟨q,.inr ⟨h1,h3⟩,(a6P σ hA hB _ q (hB.I h3).1).2 h4⟩
  ·exact .inr ⟨p,.inl h1,(a8r σ hA hB _ p (hA.I h1).2).2 ⟨u,v,rfl,h2,h3⟩⟩
end
def b7u (L:List Int→Prop) (w:List Int):Prop:=∃ j,b6h L j w
theorem a1I {L:List Int→Prop}:∀ {k:Nat} {w:List Int},b6h L (k+1) w↔b4n L (b6h L k) w
  | 0, w => by
    constructor
    · rintro ⟨u,v,e,h1,h2⟩
      have h3:u=[]:=h1
      subst h3
      exact ⟨v,[],by rw [e];simp,h2,rfl⟩
    · rintro ⟨u,v,e,h1,h2⟩
      have h3:v=[]:=h2
      subst h3
      exact ⟨[],u,by rw [e];simp,rfl,h1⟩
  | k + 1, w => by
    constructor
    · rintro ⟨u,v,rfl,h1,h2⟩
      obtain ⟨u1,u2,rfl,h3,h4⟩:=a1I.1 h1
      exact ⟨u1,u2++v,List.append_assoc ..,h3,u2,v,rfl,h4,h2⟩
    · rintro ⟨u,v,rfl,h1,v1,v2,rfl,h2,h3⟩
      exact ⟨u++v1,v2,(List.append_assoc ..).symm,a1I.2 ⟨u,v1,rfl,h1,h2⟩,h3⟩
theorem a5v {L:List Int→Prop} (a:Nat):∀ {b:Nat} {w:List Int},b6h L (a+b) w↔b4n (b6h L a) (b6h L b) w
  | 0, w => by
    constructor
    · exact fun h=>⟨w,[],by simp,h,rfl⟩
    · rintro ⟨u,v,e,h1,h2⟩
      have h3:v=[]:=h2
      subst h3
      rw [e,List.append_nil];exact h1
  | b + 1, w => by
    constructor
    · rintro ⟨u,v,rfl,h1,h2⟩
      obtain ⟨u1,u2,rfl,h3,h4⟩:=(a5v a).1 h1
      exact ⟨u1,u2++v,List.append_assoc ..,h3,u2,v,rfl,h4,h2⟩
    · rintro ⟨u,v,rfl,h1,v1,v2,rfl,h2,h3⟩
      exact ⟨u++v1,v2,(List.append_assoc ..).symm,(a5v a).2 ⟨u,v1,rfl,h1,h2⟩,h3⟩
theorem b3I {L:List Int→Prop} {u v:List Int} (h1:L u):b7u L v→b7u L (u++v)
 | ⟨j,h⟩=>⟨j+1,a1I.2 ⟨u,v,rfl,h1,h⟩⟩
theorem a6d {L:List Int→Prop}:∀ {j:Nat} {w:List Int},b6h L j w→w=[]∨∃ u v,w=u++v∧u≠[]∧L u∧b7u L v
  | 0,w,h=>.inl h
  | j + 1, w, h => by
    obtain ⟨u,v,rfl,h1,h2⟩:=a1I.1 h
    cases u with
    | nil=>exact a6d h2
    | cons a u=>exact .inr ⟨a::u,v,rfl,List.cons_ne_nil _ _,h1,j,h2⟩
theorem a3q {L L' K K':List Int→Prop} (h1:∀ w,L w↔L' w) (h2:∀ w,K w↔K' w) (w:List Int):b4n L K w↔b4n L' K' w:=by
 have e1:L=L':=funext fun w=>propext (h1 w)
 have e2:K=K':=funext fun w=>propext (h2 w)
 rw [e1,e2]
section
variable (σ:Nat→Int→Prop) {A:Mc}
theorem c5B (w:List Int):A.opt.L σ w↔w=[]∨A.L σ w:=by
 have hr:∀ p,a4X σ A.opt w p↔a4X σ A w p:=fun p=>a3o σ (A:=A.opt) (B:=A) (fun _=>True) (fun _ _ _=>Iff.rfl) (fun _ _=>Iff.rfl) (fun _ _ _ _=>trivial) w p trivial
 constructor
 ·rintro (⟨h,_⟩ | ⟨p,h1,h2⟩)
  ·exact .inl h
  ·exact .inr (.inr ⟨p,h1,(hr p).1 h2⟩)
 ·rintro (h | ⟨h,_⟩ | ⟨p,h1,h2⟩)
  ·exact .inl ⟨h,trivial⟩
  ·exact .inl ⟨h,trivial⟩
  ·exact .inr ⟨p,h1,(hr p).2 h2⟩
theorem a5Q (w:List Int):Mc.unit.L σ w↔w=[]:=⟨fun h=>h.elim (fun h=>h.1) (fun ⟨_,h,_⟩=>h.elim),fun h=>.inl ⟨h,trivial⟩⟩
theorem c7X (w:List Int):Mc.void.L σ w↔False:=⟨fun h=>h.elim (fun h=>h.2) (fun ⟨_,h,_⟩=>h),fun h=>h.elim⟩
theorem a4y:∀ w p,a4X σ A.plus w p↔∃ u v,w=u++v∧a4X σ A u p∧b7u (A.L σ) v
  | [], p => by
    constructor
    · exact fun h=>h.elim
    · rintro ⟨u,v,e,h1,h2⟩
      cases u with
      | nil=>exact h1
      | cons a u=>cases e
  | a :: w, p => by
    constructor
    · rintro ⟨hs,⟨rfl,h1⟩ | ⟨q,h1 | ⟨h1,h3⟩,h2⟩⟩
      · exact ⟨[a],[],rfl,⟨hs,.inl ⟨rfl,h1⟩⟩,0,rfl⟩
      · obtain ⟨u,v,e,h4,h5⟩:=(a4y w q).1 h2
        exact ⟨a::u,v,by rw [e];rfl,⟨hs,.inr ⟨q,h1,h4⟩⟩,h5⟩
      · obtain ⟨u,v,e,h4,h5⟩:=(a4y w q).1 h2
        exact ⟨[a],w,rfl,⟨hs,.inl ⟨rfl,h1⟩⟩,by rw [e];exact b3I (.inr ⟨q,h3,h4⟩) h5⟩
    · rintro ⟨u,v,e,h1,h2⟩
      cases u with
      | nil=>exact h1.elim
      | cons b u =>
        obtain ⟨rfl,rfl⟩:=List.cons.inj e
        obtain ⟨hs,h3⟩:=h1
        refine ⟨hs,?_⟩
        rcases h3 with ⟨rfl,h3⟩ | ⟨q,h3,h4⟩
        · obtain ⟨j,hj⟩:=h2
          rcases a6d hj with rfl | ⟨u1,v1,rfl,h4,h5,h6⟩
          · exact .inl ⟨rfl,h3⟩
          · rcases h5 with ⟨h5,_⟩ | ⟨q,h5,h7⟩
            · exact absurd h5 h4
            · exact .inr ⟨q,.inr ⟨h3,h5⟩,(a4y _ q).2 ⟨u1,v1,rfl,h7,h6⟩⟩
        · exact .inr ⟨q,.inl h3,(a4y _ q).2 ⟨u,v,rfl,h4,h2⟩⟩
theorem c8p (w:List Int):A.plus.L σ w↔b4n (A.L σ) (b7u (A.L σ)) w:=by
 constructor
 ·rintro (⟨rfl,h⟩ | ⟨p,h,h2⟩)
  ·exact ⟨[],[],rfl,.inl ⟨rfl,h⟩,0,rfl⟩
  ·obtain ⟨u,v,e,h4,h5⟩:=(a4y σ w p).1 h2
   exact ⟨u,v,e,.inr ⟨p,h,h4⟩,h5⟩
 ·rintro ⟨u,v,rfl,⟨rfl,h1⟩ | ⟨p,h1,h2⟩,h3⟩
  ·obtain ⟨j,hj⟩:=h3
   rcases a6d hj with rfl | ⟨u1,v1,rfl,h4,h5,h6⟩
   ·exact .inl ⟨rfl,h1⟩
   ·rcases h5 with ⟨h5,_⟩ | ⟨q,h5,h7⟩
    ·exact absurd h5 h4
    ·exact .inr ⟨q,h5,(a4y σ _ q).2 ⟨u1,v1,rfl,h7,h6⟩⟩
  ·exact .inr ⟨p,h1,(a4y σ _ p).2 ⟨u,v,rfl,h2,h3⟩⟩
end
def a6J (x:Bag) (p:Nat):Prop:=p < 256∧x.has p=true
theorem a8h {x y:Bag} {p:Nat}:a6J (bun x y) p↔a6J x p∨a6J y p:=by
 unfold a6J;rw [b0w,Bool.or_eq_true,and_or_left]
theorem a2P {p:Nat}:a6J Bag.zero p↔False:=by
 unfold a6J;rw [Bag.zero_has];simp
theorem b4t {n p:Nat} (hn:n < 256):a6J (a3f n) p↔p=n:=by
 constructor
 ·rintro ⟨h,h2⟩;rw [a5C _ _ h] at h2;exact of_decide_eq_true h2
 ·rintro rfl;exact ⟨hn,by rw [a5C _ _ hn];exact decide_eq_true rfl⟩
def fol (lk:List Lk) (p q:Nat):Prop:=∃ l∈lk,a6J l.1 p∧a6J l.2 q
theorem a6a {p q:Nat}:fol [] p q↔False:=by simp [fol]
theorem a3X {l k:List Lk} {p q:Nat}:fol (l++k) p q↔fol l p q∨fol k p q:=by
 simp only [fol,List.mem_append,or_and_right,exists_or]
theorem a9o {a b:Bag} {p q:Nat}:fol [(a,b)] p q↔a6J a p∧a6J b q:=by simp [fol]
theorem c2z {l k:List Lk} (h:l.Perm k) {p q:Nat}:fol l p q↔fol k p q:=by
 simp only [fol,h.mem_iff]
def mcO (lk:List Lk) (x:Pc):Mc:=⟨fol lk,a6J x.first,a6J x.ends,x.empty=true⟩
theorem b5M {a b:Pc} {p:Nat}:a6J (a.join b).first p↔a6J a.first p∨(a.empty=true∧a6J b.first p):=by
 unfold Pc.join;dsimp only
 cases a.empty with
 | true=>rw [if_pos rfl,a8h];simp
 | false=>rw [if_neg (by decide)];simp
theorem b5Z {a b:Pc} {p:Nat}:a6J (a.join b).ends p↔a6J b.ends p∨(b.empty=true∧a6J a.ends p):=by
 unfold Pc.join;dsimp only
 cases b.empty with
 | true=>rw [if_pos rfl,a8h];simp
 | false=>rw [if_neg (by decide)];simp
theorem c0r {a b:Pc}:(a.join b).empty=true↔a.empty=true∧b.empty=true:=by
 unfold Pc.join;dsimp only;rw [Bool.and_eq_true]
theorem b9l (l k:List Lk) (a b:Pc):mcO (l++k++[(a.ends,b.first)]) (a.join b)=(mcO l a).cat (mcO k b) :=
 b2t (fun p q=>by show fol _ p q↔fol l p q∨fol k p q∨_;rw [a3X,a3X,a9o,or_assoc];rfl) (fun p=>b5M) (fun p=>b5Z) c0r
theorem c0g (l k:List Lk) (a b:Pc):mcO (l++k) ⟨bun a.first b.first,bun a.ends b.ends,a.empty||b.empty⟩=(mcO l a).alt (mcO k b) :=
 b2t (fun p q=>a3X) (fun p=>a8h) (fun p=>a8h) (by show (_||_)=true↔_;rw [Bool.or_eq_true];rfl)
theorem b4q:mcO [] Pc.nil=Mc.unit:=b2t (fun _ _=>a6a) (fun _=>a2P) (fun _=>a2P) (by show true=true↔True;simp)
theorem b9T:mcO [] default=Mc.void:=b2t (fun _ _=>a6a) (fun _=>a2P) (fun _=>a2P) (by show false=true↔False;simp)
section
variable (hi:Int) (g:Nat→Ly) (many:Nat)
def xkM (k:Nat):Mc:=if hi < 0∧k+1=many then (mcO (g k).lk (g k).pc).plus else mcO (g k).lk (g k).pc
def jjM:Nat→Mc
 | 0=>Mc.unit
 | k+1=>(jjM k).cat (xkM hi g many k)
def ttM:Nat→Nat→Mc
 | _,0=>Mc.unit
 | k,n+1=>((xkM hi g many k).cat (ttM (k+1) n)).opt
def a9a:Nat→Nat→List Pc
 | _,0=>[]
 | k,n+1=>(g k).pc::a9a (k+1) n
variable {hi:Int} {g:Nat→Ly} {many:Nat}
theorem a9W:∀ n k,a9a g k (n+1)=a9a g k n++[(g (k+n)).pc]
  | 0,k=>rfl
  | n + 1, k => by
    rw [a9a,a9W n (k+1),a9a,List.cons_append,show k+1+n=k+(n+1) by omega]
theorem b4d (lo:Nat):∀ k,a3Z lo g k=a9a g lo (k - lo)
  | 0=>by rw [Nat.zero_sub];rfl
  | k + 1 => by
    rw [a3Z]
    split
    · rw [b4d lo k,show k - lo=0 by omega,show k+1 - lo=0 by omega]
    · rw [b4d lo k,show k+1 - lo=(k - lo)+1 by omega,a9W,show lo+(k - lo)=k by omega]
theorem c6g {k p:Nat}:(xkM hi g many k).I p↔a6J (g k).pc.first p:=by unfold xkM;split <;> exact Iff.rfl
theorem c5z {k p:Nat}:(xkM hi g many k).E p↔a6J (g k).pc.ends p:=by unfold xkM;split <;> exact Iff.rfl
theorem c5j {k:Nat}:(xkM hi g many k).e↔(g k).pc.empty=true:=by unfold xkM;split <;> exact Iff.rfl
theorem c9r {k p q:Nat}:(xkM hi g many k).F p q↔fol ((g k).lk++(if hi < 0∧k+1=many then [((g k).pc.ends,(g k).pc.first)] else [])) p q:=by
 unfold xkM
 split
 ·rw [a3X,a9o];exact Iff.rfl
 ·rw [List.append_nil];exact Iff.rfl
theorem c6Y {p q:Nat}:∀ k,fol (lkP hi g many k) p q↔∃ i,i < k∧(xkM hi g many i).F p q
  | 0=>⟨fun h=>(a6a.1 h).elim,fun ⟨i,h,_⟩=>by omega⟩
  | k + 1 => by
    rw [lkP,List.append_assoc,a3X,←c9r,c6Y k]
    constructor
    · rintro (⟨i,h,h2⟩ | h)
      · exact ⟨i,by omega,h2⟩
      · exact ⟨k,by omega,h⟩
    · rintro ⟨i,h,h2⟩
      by_cases e:i=k
      · exact .inr (e▸h2)
      · exact .inl ⟨i,by omega,h2⟩
theorem c5C:∀ k,(∀ p,(jjM hi g many k).I p↔a6J (b3v g k).first p)∧(∀ p,(jjM hi g many k).E p↔a6J (b3v g k).ends p)∧((jjM hi g many k).e↔(b3v g k).empty=true)
  | 0=>⟨fun p=>a2P.symm,fun p=>a2P.symm,by show True↔true=true;simp⟩
  | k + 1 => by
    obtain ⟨h1,h2,h3⟩:=c5C k
    refine ⟨fun p=>?_,fun p=>?_,?_⟩
    · show (jjM hi g many k).I p∨((jjM hi g many k).e∧_)↔_
      rw [h1,h3,c6g];exact b5M.symm
    · show (xkM hi g many k).E p∨((xkM hi g many k).e∧(jjM hi g many k).E p)↔_
      rw [h2,c5j,c5z];exact b5Z.symm
    · show _∧_↔_
      rw [h3,c5j];exact c0r.symm
theorem c6Z {p q:Nat}:∀ k,(jjM hi g many k).F p q↔(∃ i,i < k∧(xkM hi g many i).F p q)∨fol (lkJ g k) p q
  | 0=>⟨fun h=>h.elim,fun h=>h.elim (fun ⟨i,h,_⟩=>by omega) (fun h=>a6a.1 h)⟩
  | k + 1 => by
    show _∨_∨_↔_
    rw [c6Z k,(c5C k).2.1 p,c6g,lkJ,a3X,a9o]
    constructor
    · rintro ((⟨i,h,h2⟩ | h) | h | h)
      · exact .inl ⟨i,by omega,h2⟩
      · exact .inr (.inl h)
      · exact .inl ⟨k,by omega,h⟩
      · exact .inr (.inr h)
    · rintro (⟨i,h,h2⟩ | h | h)
      · by_cases e:i=k
        · exact .inr (.inl (e▸h2))
        · exact .inl (.inl ⟨i,by omega,h2⟩)
      · exact .inl (.inr h)
      · exact .inr (.inr h)
theorem c5K:∀ n k,(∀ p,(ttM hi g many k n).I p↔a6J (a1Y (a9a g k n)).2.first p)∧(∀ p,(ttM hi g many k n).E p↔a6J (a1Y (a9a g k n)).2.ends p)∧((ttM hi g many k n).e↔(a1Y (a9a g k n)).2.empty=true)
  | 0,k=>⟨fun p=>a2P.symm,fun p=>a2P.symm,by show True↔true=true;simp⟩
  | n + 1, k => by
    obtain ⟨h1,h2,h3⟩:=c5K n (k+1)
    refine ⟨fun p=>?_,fun p=>?_,?_⟩
    · show (xkM hi g many k).I p∨((xkM hi g many k).e∧(ttM hi g many (k+1) n).I p)↔_
      rw [h1,c5j,c6g];exact b5M.symm
    · show (ttM hi g many (k+1) n).E p∨((ttM hi g many (k+1) n).e∧(xkM hi g many k).E p)↔_
      rw [h2,h3,c5z];exact b5Z.symm
    · show True↔true=true;simp
theorem c7e {p q:Nat}:∀ n k,(ttM hi g many k n).F p q↔(∃ i,k≤i∧i < k+n∧(xkM hi g many i).F p q)∨fol (a1Y (a9a g k n)).1 p q
  | 0,k=>⟨fun h=>h.elim,fun h=>h.elim (fun ⟨i,h,h2,_⟩=>by omega) (fun h=>a6a.1 h)⟩
  | n + 1, k => by
    show (xkM hi g many k).F p q∨(ttM hi g many (k+1) n).F p q∨((xkM hi g many k).E p∧(ttM hi g many (k+1) n).I q)↔_
    rw [c7e n (k+1),(c5K n (k+1)).1 q,c5z,a9a,a1Y,a3X,a9o]
    constructor
    · rintro (h | (⟨i,h,h2,h3⟩ | h) | h)
      · exact .inl ⟨k,Nat.le_refl _,by omega,h⟩
      · exact .inl ⟨i,by omega,by omega,h3⟩
      · exact .inr (.inl h)
      · exact .inr (.inr h)
    · rintro (⟨i,h,h2,h3⟩ | h | h)
      · by_cases e:i=k
        · exact .inl (e▸h3)
        · exact .inr (.inl (.inl ⟨i,by omega,by omega,h3⟩))
      · exact .inr (.inl (.inr h))
      · exact .inr (.inr h)
theorem c8B {lo:Int} (hlo:0≤lo) (hm:lo.toNat≤a0j lo hi):mcO (a7a lo hi g).lk (a7a lo hi g).pc=(jjM hi g (a0j lo hi) lo.toNat).cat (ttM hi g (a0j lo hi) lo.toNat (a0j lo hi - lo.toNat)):=by
 obtain ⟨h1,h2,h3,h4⟩:=b0G (hi:=hi) hlo g (a0j lo hi) (a0j lo hi)
 rw [Nat.min_eq_right hm] at h2 h3
 obtain ⟨j1,j2,j3⟩:=c5C (hi:=hi) (g:=g) (many:=a0j lo hi) lo.toNat
 obtain ⟨t1,t2,t3⟩:=c5K (hi:=hi) (g:=g) (many:=a0j lo hi) (a0j lo hi - lo.toNat) lo.toNat
 rw [b4d] at h4
 refine b2t (fun p q=>?_) (fun p=>?_) (fun p=>?_) ?_
 ·show fol (a7a lo hi g).lk p q↔(jjM hi g (a0j lo hi) lo.toNat).F p q∨(ttM hi g (a0j lo hi) lo.toNat (a0j lo hi - lo.toNat)).F p q∨((jjM hi g (a0j lo hi) lo.toNat).E p∧(ttM hi g (a0j lo hi) lo.toNat (a0j lo hi - lo.toNat)).I q)
  simp only [a7a,h4,h3]
  rw [a3X,a3X,c2z h2,a3X,a9o,c6Y,c6Z,c7e,j2,t1]
  constructor
  ·rintro (((⟨i,h,h5⟩ | h) | h) | h)
   ·by_cases e:i < lo.toNat
    ·exact .inl (.inl ⟨i,e,h5⟩)
    ·exact .inr (.inl (.inl ⟨i,by omega,by omega,h5⟩))
   ·exact .inl (.inr h)
   ·exact .inr (.inl (.inr h))
   ·exact .inr (.inr h)
  ·rintro ((⟨i,h,h5⟩ | h) | (⟨i,h,h6,h5⟩ | h) | h)
   ·exact .inl (.inl (.inl ⟨i,by omega,h5⟩))
   ·exact .inl (.inl (.inr h))
   ·exact .inl (.inl (.inl ⟨i,by omega,h5⟩))
   ·exact .inl (.inr h)
   ·exact .inr h
 ·show a6J (a7a lo hi g).pc.first p↔(jjM hi g (a0j lo hi) lo.toNat).I p∨((jjM hi g (a0j lo hi) lo.toNat).e∧(ttM hi g (a0j lo hi) lo.toNat (a0j lo hi - lo.toNat)).I p)
  simp only [a7a,h4,h3]
  rw [j1,j3,t1];exact b5M
 ·show a6J (a7a lo hi g).pc.ends p↔(ttM hi g (a0j lo hi) lo.toNat (a0j lo hi - lo.toNat)).E p∨((ttM hi g (a0j lo hi) lo.toNat (a0j lo hi - lo.toNat)).e∧(jjM hi g (a0j lo hi) lo.toNat).E p)
  simp only [a7a,h4,h3]
  rw [j2,t2,t3];exact b5Z
 ·show (a7a lo hi g).pc.empty=true↔(jjM hi g (a0j lo hi) lo.toNat).e∧(ttM hi g (a0j lo hi) lo.toNat (a0j lo hi - lo.toNat)).e
  simp only [a7a,h4,h3]
  rw [j3,t3];exact c0r
variable (σ:Nat→Int→Prop) {N w:Nat} {K:List Int→Prop}
theorem a9U {k:Nat} (h:(mcO (g k).lk (g k).pc).In (N+k * w) (N+k * w+w)):(xkM hi g many k).In (N+k * w) (N+(k+1) * w):=by
 rw [Nat.succ_mul,←Nat.add_assoc]
 unfold xkM;split
 ·exact c4B h
 ·exact h
theorem b5X:∀ k,(∀ i,i < k→(mcO (g i).lk (g i).pc).In (N+i * w) (N+i * w+w))→(jjM hi g many k).In N (N+k * w)
 | 0,_=>a8G
 | k+1,h=>b6m ((b5X k fun i hi=>h i (by omega)).mono (Nat.le_refl _) (by rw [Nat.succ_mul];omega)) ((a9U (h k (by omega))).mono (by omega) (Nat.le_refl _))
theorem b8R:∀ n k,(∀ i,i < k+n→(mcO (g i).lk (g i).pc).In (N+i * w) (N+i * w+w))→(ttM hi g many k n).In (N+k * w) (N+(k+n) * w)
  | 0,k,_=>a8G
  | n + 1, k, h => by
    have h1:=b8R n (k+1) (fun i hi=>h i (by omega))
    have e:k+1+n=k+(n+1):=by omega
    rw [e] at h1
    have h2:(k+1) * w≤(k+(n+1)) * w:=Nat.mul_le_mul_right _ (by omega)
    exact c7Y (b6m ((a9U (h k (by omega))).mono (Nat.le_refl _) (by omega)) (h1.mono (by rw [Nat.succ_mul];omega) (Nat.le_refl _)))
theorem c5m:∀ k,(hi < 0→k < many)→(∀ i,i < k→(mcO (g i).lk (g i).pc).In (N+i * w) (N+i * w+w)∧∀ u,(mcO (g i).lk (g i).pc).L σ u↔K u)→∀ u,(jjM hi g many k).L σ u↔b6h K k u
  | 0,_,_,u=>a5Q σ u
  | k + 1, hk, h, u => by
    show ((jjM hi g many k).cat (xkM hi g many k)).L σ u↔b4n (b6h K k) K u
    rw [b2X σ (b5X k fun i hi=>(h i (by omega)).1) (a9U (h k (by omega)).1)]
    refine a3q (fun u=>c5m k (fun h=>by have:=hk h;omega) (fun i hi=>h i (by omega)) u) (fun u=>?_) u
    unfold xkM
    rw [if_neg (fun h2=>by have:=hk h2.1;omega)]
    exact (h k (by omega)).2 u
theorem c8S (hhi:¬ hi < 0):∀ n k,(∀ i,i < k+n→(mcO (g i).lk (g i).pc).In (N+i * w) (N+i * w+w)∧∀ u,(mcO (g i).lk (g i).pc).L σ u↔K u)→∀ u,(ttM hi g many k n).L σ u↔∃ j,j≤n∧b6h K j u
  | 0,k,_,u=>(a5Q σ u).trans ⟨fun h=>⟨0,Nat.le_refl _,h⟩,fun ⟨j,h,h2⟩=>by obtain rfl:j=0:=(by omega);exact h2⟩
  | n + 1, k, h, u => by
    show (((xkM hi g many k).cat (ttM hi g many (k+1) n)).opt).L σ u↔_
    rw [c5B,b2X σ (a9U (h k (by omega)).1) (b8R n (k+1) fun i hi=>(h i (by omega)).1),
      a3q (L':=K) (K':=fun u=>∃ j,j≤n∧b6h K j u) (fun u=>by unfold xkM;rw [if_neg (fun h2=>hhi h2.1)];exact (h k (by omega)).2 u) (c8S hhi n (k+1) fun i hi=>h i (by omega))]
    constructor
    · rintro (h1 | ⟨a,b,e,h1,j,h2,h3⟩)
      · exact ⟨0,by omega,h1⟩
      · exact ⟨j+1,by omega,a1I.2 ⟨a,b,e,h1,h3⟩⟩
    · rintro ⟨j,h1,h2⟩
      cases j with
      | zero=>exact .inl h2
      | succ j =>
        obtain ⟨a,b,e,h3,h4⟩:=a1I.1 h2
        exact .inr ⟨a,b,e,h3,j,by omega,h4⟩
theorem c7H {lo:Int} (hlo:0≤lo) (hh:hi=-1∨(lo≤hi∧0≤hi)) (h:∀ i,i < a0j lo hi→(mcO (g i).lk (g i).pc).In (N+i * w) (N+i * w+w)∧∀ u,(mcO (g i).lk (g i).pc).L σ u↔K u) :
    (mcO (a7a lo hi g).lk (a7a lo hi g).pc).In N (N+a0j lo hi * w)∧∀ u,(mcO (a7a lo hi g).lk (a7a lo hi g).pc).L σ u↔∃ k:Nat,lo≤(k:Int)∧(hi < 0∨(k:Int)≤hi)∧b6h K k u:=by
  have hm:lo.toNat≤a0j lo hi:=by unfold a0j;split <;> (try split) <;> omega
  have hj:=b5X (hi:=hi) (g:=g) (many:=a0j lo hi) (N:=N) (w:=w) lo.toNat (fun i hi=>(h i (by omega)).1)
  have ht:=b8R (hi:=hi) (g:=g) (many:=a0j lo hi) (N:=N) (w:=w) (a0j lo hi - lo.toNat) lo.toNat (fun i hi=>(h i (by omega)).1)
  rw [show lo.toNat+(a0j lo hi - lo.toNat)=a0j lo hi by omega] at ht
  have hle:lo.toNat * w≤a0j lo hi * w:=Nat.mul_le_mul_right _ hm
  rw [c8B hlo hm]
  refine ⟨b6m (hj.mono (Nat.le_refl _) (by omega)) (ht.mono (by omega) (Nat.le_refl _)),fun u=>?_⟩
  rw [b2X σ hj ht]
  by_cases hneg:hi < 0
  · have em:a0j lo hi=if 1 > lo then 1 else lo.toNat:=by unfold a0j;rw [if_pos hneg];split <;> rfl
    have hst:∀ (k:Nat),k+1=a0j lo hi→∀ u,(xkM hi g (a0j lo hi) k).L σ u↔b4n K (b7u K) u:=fun k hk u=>by
      unfold xkM
      rw [if_pos ⟨hneg,hk⟩,c8p]
      have e:Mc.L σ (mcO (g k).lk (g k).pc)=K:=funext fun u=>propext ((h k (by omega)).2 u)
      rw [e]
    by_cases hl:1 > lo
    · have e0:lo.toNat=0:=by omega
      rw [if_pos hl] at em
      have hst0:=hst 0 (by omega)
      have hx0:=a9U (hi:=hi) (many:=a0j lo hi) (h 0 (by omega)).1
      rw [e0,em] at *
      show b4n (Mc.unit.L σ) ((((xkM hi g 1 0).cat Mc.unit).opt).L σ) u↔_
      constructor
      · rintro ⟨a,b,rfl,h1,h2⟩
        rw [a5Q] at h1
        subst h1
        rw [c5B,b2X σ hx0 (a8G (M:=N+(0+1) * w))] at h2
        rcases h2 with rfl | ⟨c,d,rfl,h2,h3⟩
        · exact ⟨0,by omega,.inl hneg,rfl⟩
        · rw [a5Q] at h3
          subst h3
          rw [hst0] at h2
          obtain ⟨c1,c2,rfl,h4,j,h5⟩:=h2
          exact ⟨j+1,by omega,.inl hneg,a1I.2 ⟨c1,c2,by simp,h4,h5⟩⟩
      · rintro ⟨k,h1,h2,h3⟩
        refine ⟨[],u,rfl,(a5Q σ _).2 rfl,?_⟩
        rw [c5B,b2X σ hx0 (a8G (M:=N+(0+1) * w))]
        cases k with
        | zero=>exact .inl h3
        | succ k =>
          obtain ⟨c1,c2,rfl,h4,h5⟩:=a1I.1 h3
          exact .inr ⟨c1++c2,[],by simp,(hst0 _).2 ⟨c1,c2,rfl,h4,k,h5⟩,(a5Q σ _).2 rfl⟩
    · rw [if_neg hl] at em
      obtain ⟨l,el⟩:∃ l,lo.toNat=l+1:=⟨lo.toNat - 1,by omega⟩
      have hstl:=hst l (by omega)
      have hxl:=a9U (hi:=hi) (many:=a0j lo hi) (h l (by omega)).1
      have hjl:=b5X (hi:=hi) (g:=g) (many:=a0j lo hi) (N:=N) (w:=w) l (fun i hi=>(h i (by omega)).1)
      have hjL:=c5m σ (hi:=hi) (g:=g) (many:=a0j lo hi) (N:=N) (w:=w) (K:=K) l (fun _=>by omega) (fun i hi=>h i (by omega))
      rw [show a0j lo hi - lo.toNat=0 by omega,el]
      show b4n (((jjM hi g (a0j lo hi) l).cat (xkM hi g (a0j lo hi) l)).L σ) (Mc.unit.L σ) u↔_
      constructor
      · rintro ⟨a,b,rfl,h1,h2⟩
        rw [a5Q] at h2
        subst h2
        rw [b2X σ hjl hxl] at h1
        obtain ⟨c,d,rfl,h3,h4⟩:=h1
        rw [hstl] at h4
        obtain ⟨d1,d2,rfl,h5,j,h6⟩:=h4
        exact ⟨l+(j+1),by omega,.inl hneg,(a5v l).2 ⟨c,d1++d2,by simp,(hjL _).1 h3,a1I.2 ⟨d1,d2,rfl,h5,h6⟩⟩⟩
      · rintro ⟨k,h1,h2,h3⟩
        obtain ⟨j,rfl⟩:∃ j,k=l+(j+1):=⟨k - l - 1,by omega⟩
        obtain ⟨c,d,rfl,h4,h5⟩:=(a5v l).1 h3
        obtain ⟨d1,d2,rfl,h6,h7⟩:=a1I.1 h5
        refine ⟨c++(d1++d2),[],by simp,?_,(a5Q σ _).2 rfl⟩
        rw [b2X σ hjl hxl]
        exact ⟨c,d1++d2,rfl,(hjL _).2 h4,(hstl _).2 ⟨d1,d2,rfl,h6,j,h7⟩⟩
  · have hjL:=c5m σ (hi:=hi) (g:=g) (many:=a0j lo hi) (N:=N) (w:=w) (K:=K) lo.toNat (fun h=>absurd h hneg) (fun i hi=>h i (by omega))
    have htL:=c8S σ (hi:=hi) (g:=g) (many:=a0j lo hi) (N:=N) (w:=w) (K:=K) hneg (a0j lo hi - lo.toNat) lo.toNat (fun i hi=>h i (by omega))
    have em:a0j lo hi=hi.toNat:=by unfold a0j;rw [if_neg hneg]
    rw [a3q hjL htL]
    constructor
    · rintro ⟨a,b,rfl,h1,j,h2,h3⟩
      exact ⟨lo.toNat+j,by omega,.inr (by omega),(a5v _).2 ⟨a,b,rfl,h1,h3⟩⟩
    · rintro ⟨k,h1,h2,h3⟩
      obtain ⟨j,rfl⟩:∃ j,k=lo.toNat+j:=⟨k - lo.toNat,by omega⟩
      obtain ⟨a,b,rfl,h4,h5⟩:=(a5v _).1 h3
      exact ⟨a,b,rfl,h4,j,by omega,h5⟩
end
end Go.Proofs.YtdbbbafiegpbpaaGreatDoor
