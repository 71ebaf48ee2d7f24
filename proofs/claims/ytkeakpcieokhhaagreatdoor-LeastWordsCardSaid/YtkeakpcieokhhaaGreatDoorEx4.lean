/-
  Where an expression's pieces are cut, and that it is read in one way: plain lemmas, no program in sight.
-/
import Derived.Test.YtkeakpcieokhhaaGreatDoorExprV
import Derived.Laws.Bits64b
import Derived.Laws.BitsAll
import Derived.Lib.TrailingZeros
import Derived.Test.YtkeakpcieokhhaaGreatDoorHc
import Derived.Test.YtkeakpcieokhhaaGreatDoorChecked
import Derived.Laws.Bits
import Derived.RangeFuncBox
import Derived.RangeFuncBound
import Derived.RangeFuncCalls
import Derived.RangeFuncLeaves
import Derived.Shelf.Abstract
import Derived.Shelf.RegionOpen
import Derived.WalkKit
import Derived.OwnWalkIn
import Derived.TacticsInMore
import Derived.LoopNIn
import Derived.LoopIn
import Derived.Maps.AppendAt
import Derived.RangeFuncNested
import Derived.Laws.BitsAllLaws
import Derived.Test.YtkeakpcieokhhaaGreatDoorHq
set_option linter.unusedSimpArgs false
set_option linter.unusedVariables false
namespace Go.Proofs.YtkeakpcieokhhaaGreatDoor
section
@[reducible] def b0I (l:List Sg) (v q:Nat):Prop:=(2≤v→kd l q≠1∧kd l q≠2)∧(3≤v→kd l q≠4)
theorem c6V {l:List Sg} {v p q:Nat} {t:T} (h:Seg l v p q t):∀ {q':Nat} {t':T},Seg l v p q' t'→b0I l v q→b0I l v q'→q=q'∧t=t':=by
  induction h with
  | name p h =>
    intro q' t' h' _ _
    cases h' with
    | name _ _=>exact ⟨rfl,rfl⟩
    | group _ _ _ h2 _ _=>rw [h] at h2;exact absurd h2 dcd
  | group p q t h hs h3 ih =>
    intro q' t' h' _ _
    cases h' with
    | name _ h2=>rw [h] at h2;exact absurd h2 dcd
    | group _ q2 _ h2 hs2 h32 =>
      have:=ih hs2 ⟨fun _=>by rw [h3];decide,fun _=>by rw [h3];decide⟩ ⟨fun _=>by rw [h32];decide,fun _=>by rw [h32];decide⟩
      exact ⟨by rw [this.1],this.2⟩
  | item p q t hs h5 ih =>
    intro q' t' h' _ _
    have e:b0I l 0=fun _=>b0I l 0 0:=by funext q;simp [b0I]
    cases h' with
    | item _ _ _ hs2 h52=>exact ih hs2 ⟨fun h=>absurd h dcd,fun h=>absurd h dcd⟩ ⟨fun h=>absurd h dcd,fun h=>absurd h dcd⟩
    | times _ q2 t2 hs2 h52 =>
      have:=ih hs2 ⟨fun h=>absurd h dcd,fun h=>absurd h dcd⟩ ⟨fun h=>absurd h dcd,fun h=>absurd h dcd⟩
      rw [this.1] at h5;exact absurd h52 h5
  | times p q t hs h5 ih =>
    intro q' t' h' _ _
    cases h' with
    | item _ _ _ hs2 h52 =>
      have:=ih hs2 ⟨fun h=>absurd h dcd,fun h=>absurd h dcd⟩ ⟨fun h=>absurd h dcd,fun h=>absurd h dcd⟩
      rw [this.1] at h5;exact absurd h5 h52
    | times _ q2 t2 hs2 h52 =>
      have:=ih hs2 ⟨fun h=>absurd h dcd,fun h=>absurd h dcd⟩ ⟨fun h=>absurd h dcd,fun h=>absurd h dcd⟩
      rw [this.1,this.2];exact ⟨rfl,rfl⟩
  | row1 p q t hs ih =>
    intro q' t' h' he he'
    cases h' with
    | row1 _ _ _ hs2=>exact ih hs2 ⟨fun h=>absurd h dcd,fun h=>absurd h dcd⟩ ⟨fun h=>absurd h dcd,fun h=>absurd h dcd⟩
    | row _ _ ts c h2 h0 hq hs2 =>
      have a:=hs2 0 omo
      rw [h0] at a
      have b:=ih a ⟨fun h=>absurd h dcd,fun h=>absurd h dcd⟩ ⟨fun h=>absurd h dcd,fun h=>absurd h dcd⟩
      have d:=a5S (hs2 1 omo)
      rw [←b.1] at d
      have:=he.1 dcd
      exact absurd d omo
  | row p q ts c h2 h0 hq hs ih =>
    intro q' t' h' he he'
    cases h' with
    | row1 _ _ _ hs2 =>
      have b:=ih 0 omo (h0.symm▸hs2) ⟨fun h=>absurd h dcd,fun h=>absurd h dcd⟩ ⟨fun h=>absurd h dcd,fun h=>absurd h dcd⟩
      have d:=a5S (hs 1 omo)
      rw [b.1] at d
      have:=he'.1 dcd
      exact absurd d omo
    | row _ _ ts2 c2 h22 h02 hq2 hs2 =>
      have key:∀ i,i≤ts.length→i≤ts2.length→c i=c2 i∧∀ j,j < i→ts.getD j default=ts2.getD j default:=by
        intro i
        induction i with
        | zero=>intro _ _;exact ⟨by rw [h0,h02],fun j hj=>absurd hj (Nat.not_lt_zero _)⟩
        | succ i ihi =>
          intro h1 h3
          have a:=ihi omo omo
          have b:=ih i h1 (a.1▸hs2 i h3) ⟨fun h=>absurd h dcd,fun h=>absurd h dcd⟩ ⟨fun h=>absurd h dcd,fun h=>absurd h dcd⟩
          refine ⟨b.1,fun j hj=>?_⟩
          by_cases e:j=i
          · subst e;exact b.2
          · exact a.2 j omo
      have hlen:ts.length=ts2.length:=by
        rcases Nat.lt_trichotomy ts.length ts2.length with h | h | h
        · have a:=(key ts.length lrf omo).1
          have d:=a5S (hs2 ts.length h)
          rw [←a,hq] at d
          have:=he.1 dcd;exact absurd d omo
        · exact h
        · have a:=(key ts2.length omo lrf).1
          have d:=a5S (hs ts2.length h)
          rw [a,hq2] at d
          have:=he'.1 dcd;exact absurd d omo
      have k:=key ts.length lrf omo
      refine ⟨by rw [←hq,k.1,hlen,hq2],?_⟩
      congr 1
      apply List.ext_getElem hlen
      intro i h1 h3
      have:=k.2 i h1
      rwa [List.getD_eq_getElem?_getD,List.getD_eq_getElem?_getD,List.getElem?_eq_getElem h1,List.getElem?_eq_getElem h3] at this
  | choice1 p q t hs ih =>
    intro q' t' h' he he'
    cases h' with
    | choice1 _ _ _ hs2=>exact ih hs2 ⟨fun _=>he.1 dcd,fun h=>absurd h dcd⟩ ⟨fun _=>he'.1 dcd,fun h=>absurd h dcd⟩
    | choice _ _ ts c e h2 h0 hq hs2 hg =>
      have a:=hs2 0 omo
      rw [h0] at a
      have g:=(hg 0 omo).1
      have b:=ih a ⟨fun _=>he.1 dcd,fun h=>absurd h dcd⟩ ⟨fun _=>by rw [g];decide,fun h=>absurd h dcd⟩
      rw [←b.1] at g
      exact absurd g (he.2 dcd)
  | choice p q ts c e h2 h0 hq hs hg ih =>
    intro q' t' h' he he'
    have e4:∀ i,i+1 < ts.length→b0I l 2 (e i):=fun i hi=>⟨fun _=>by rw [(hg i hi).1];decide,fun h=>absurd h dcd⟩
    cases h' with
    | choice1 _ _ _ hs2 =>
      have b:=ih 0 omo (h0.symm▸hs2) (e4 0 omo) ⟨fun _=>he'.1 dcd,fun h=>absurd h dcd⟩
      have g:=(hg 0 omo).1
      rw [b.1] at g
      exact absurd g (he'.2 dcd)
    | choice _ _ ts2 c2 e2 h22 h02 hq2 hs2 hg2 =>
      have e42:∀ i,i+1 < ts2.length→b0I l 2 (e2 i):=fun i hi=>⟨fun _=>by rw [(hg2 i hi).1];decide,fun h=>absurd h dcd⟩
      have en:∀ i,i < ts.length→b0I l 2 (e i):=fun i hi=>by
        by_cases h:i+1 < ts.length
        · exact e4 i h
        · rw [show i=ts.length - 1 by omega,hq];exact ⟨fun _=>he.1 dcd,fun h=>absurd h dcd⟩
      have en2:∀ i,i < ts2.length→b0I l 2 (e2 i):=fun i hi=>by
        by_cases h:i+1 < ts2.length
        · exact e42 i h
        · rw [show i=ts2.length - 1 by omega,hq2];exact ⟨fun _=>he'.1 dcd,fun h=>absurd h dcd⟩
      have key:∀ i,i < ts.length→i < ts2.length→c i=c2 i∧e i=e2 i∧∀ j,j < i+1→ts.getD j default=ts2.getD j default:=by
        intro i
        induction i with
        | zero =>
          intro h1 h3
          have b:=ih 0 h1 ((h0.trans h02.symm)▸hs2 0 h3) (en 0 h1) (en2 0 h3)
          exact ⟨by rw [h0, h02], b.1, fun j hj => by obtain rfl : j = 0 := by omega
                                                      exact b.2⟩
        | succ i ihi =>
          intro h1 h3
          have a:=ihi omo omo
          have hc:c (i+1)=c2 (i+1):=by rw [(hg i h1).2,(hg2 i h3).2,a.2.1]
          have b:=ih (i+1) h1 (hc▸hs2 (i+1) h3) (en _ h1) (en2 _ h3)
          refine ⟨hc,b.1,fun j hj=>?_⟩
          by_cases e:j=i+1
          · subst e;exact b.2
          · exact a.2.2 j omo
      have hlen:ts.length=ts2.length:=by
        rcases Nat.lt_trichotomy ts.length ts2.length with h | h | h
        · have a:=(key (ts.length - 1) omo omo).2.1
          have d:=(hg2 (ts.length - 1) omo).1
          rw [←a,hq] at d
          exact absurd d (he.2 dcd)
        · exact h
        · have a:=(key (ts2.length - 1) omo omo).2.1
          have d:=(hg (ts2.length - 1) omo).1
          rw [a,hq2] at d
          exact absurd d (he'.2 dcd)
      have k:=key (ts.length - 1) omo omo
      refine ⟨by rw [←hq,k.2.1,hlen,hq2],?_⟩
      congr 1
      apply List.ext_getElem hlen
      intro i h1 h3
      have:=k.2.2 i omo
      rwa [List.getD_eq_getElem?_getD,List.getD_eq_getElem?_getD,List.getElem?_eq_getElem h1,List.getElem?_eq_getElem h3] at this
def d1u (l:List Sg):Nat→Nat→Int→Nat
  | 0,i,_=>i
  | f + 1, i, d =>
    let d':=if kd l i=2 then d+1 else if kd l i=3 then d - 1 else d
    if d'=0 then i else d1u l f (i+1) d'
def a1M (l:List Sg) (i:Nat) (d:Int):Nat:=d1u l (l.length - i) i d
theorem b8g {l:List Sg} {i:Nat} {d:Int} (h:l.length≤i):a1M l i d=i:=by unfold a1M;rw [show l.length - i=0 by omega];rfl
theorem a1w {l:List Sg} {i:Nat} {d d':Int} (h:i < l.length) (hd:d'=if kd l i=2 then d+1 else if kd l i=3 then d - 1 else d):a1M l i d=if d'=0 then i else a1M l (i+1) d':=by
 subst hd
 unfold a1M
 rw [show l.length - i=(l.length - (i+1))+1 by omega]
 rfl
theorem b1O {l:List Sg}:∀ {n i:Nat} {d:Int},l.length - i=n→i≤l.length→i≤a1M l i d∧a1M l i d≤l.length
  | 0,i,d,hn,hi=>by rw [b8g omo];omega
  | n + 1, i, d, hn, hi => by
    have e:=a1w (l:=l) (i:=i) (d:=d) omo rfl
    generalize (if kd l i=2 then d+1 else if kd l i=3 then d - 1 else d)=d' at e
    rw [e]
    by_cases h:d'=0
    · rw [if_pos h];omega
    · rw [if_neg h]
      have:=b1O (l:=l) (n:=n) (i:=i+1) (d:=d') omo omo;omega
theorem c4L {l:List Sg} {v p q:Nat} {t:T} (h:Seg l v p q t):∀ d:Int,1≤d→a1M l p d=a1M l q d:=by
  induction h with
  | name p h=>intro d hd;rw [a1w (a2Z (by rw [h];decide)) rfl,h];simp;intro h;omega
  | group p q t h hs h3 ih =>
    intro d hd
    rw [a1w (a2Z (by rw [h];decide)) rfl,h]
    simp only [if_true]
    rw [if_neg omo,ih (d+1) omo,a1w (a2Z (by rw [h3];decide)) rfl,h3]
    simp;intro h;omega
  | item p q t _ _ ih=>exact ih
  | times p q t _ h5 ih =>
    intro d hd
    rw [ih d hd,a1w (a2Z (by rw [h5];decide)) rfl,h5]
    simp;intro h;omega
  | row1 p q t _ ih=>exact ih
  | row p q ts c h2 h0 hq hs ih =>
    intro d hd
    have key:∀ i,i≤ts.length→a1M l (c 0) d=a1M l (c i) d:=by
      intro i
      induction i with
      | zero=>intro _;rfl
      | succ i ihi=>intro hi;rw [ihi omo];exact ih i hi d hd
    rw [←h0,key ts.length lrf,hq]
  | choice1 p q t _ ih=>exact ih
  | choice p q ts c e h2 h0 hq hs hg ih =>
    intro d hd
    have key:∀ i,i < ts.length→a1M l (c 0) d=a1M l (e i) d:=by
      intro i
      induction i with
      | zero=>intro hi;exact ih 0 hi d hd
      | succ i ihi =>
        intro hi
        have g:=hg i hi
        rw [ihi omo,a1w (a2Z (by rw [g.1];decide)) rfl,g.1]
        simp only [show ¬ (4:Int)=2 by decide,show ¬ (4:Int)=3 by decide,if_false]
        rw [if_neg omo,←g.2]
        exact ih (i+1) hi d hd
    rw [←h0,key (ts.length - 1) omo,hq]
theorem b8k {l:List Sg} {p q:Nat} {t:T} (h:kd l p=2) (hs:Seg l 3 (p+1) q t) (h3:kd l q=3):a1M l p 0=q:=by
 rw [a1w (a2Z (by rw [h];decide)) rfl,h]
 simp only [if_true]
 rw [if_neg omo,c4L hs (0+1) omo,a1w (a2Z (by rw [h3];decide)) rfl,h3]
 simp
def c6e (l:List Sg) (from_ to_:Nat) (way:Int):Nat→Nat→List Int→List Int
  | 0,_,acc=>acc
  | f + 1, i, acc =>
    if to_≤i then acc
    else
      let a1:=if way=2∧from_ < i∧(kd l i=1∨kd l i=2) then acc++[(i:Int)] else acc
      let a2:=if way=3∧kd l i=4 then a1++[((i+1:Nat):Int)] else a1
      c6e l from_ to_ way f ((if kd l i=2 then a1M l i 0 else i)+1) a2
def a3F (l:List Sg) (from_ to_:Nat) (way:Int) (i:Nat) (acc:List Int):List Int:=c6e l from_ to_ way (to_ - i) i acc
theorem b7U {l:List Sg} {from_ to_:Nat} {way:Int} (hl:to_≤l.length):∀ {f f' i:Nat} {acc:List Int},to_ - i≤f→to_ - i≤f'→c6e l from_ to_ way f i acc=c6e l from_ to_ way f' i acc
  | 0,0,_,_,_,_=>rfl
  | 0,f'+1,i,acc,h,h'=>by simp only [c6e];rw [if_pos omo]
  | f+1,0,i,acc,h,h'=>by simp only [c6e];rw [if_pos omo]
  | f + 1, f' + 1, i, acc, h, h' => by
    simp only [c6e]
    by_cases h1:to_≤i
    · rw [if_pos h1,if_pos h1]
    · rw [if_neg h1,if_neg h1]
      have:i≤(if kd l i=2 then a1M l i 0 else i):=by
        split
        · exact (b1O rfl omo).1
        · omega
      exact b7U hl omo omo
theorem b0z {l:List Sg} {from_ to_ i:Nat} {way:Int} {acc:List Int} (h:to_≤i):a3F l from_ to_ way i acc=acc:=by
 unfold a3F;rw [show to_ - i=0 by omega];rfl
theorem a3L {l:List Sg} {from_ to_ i:Nat} {way:Int} {acc a1 a2:List Int} {j:Nat} (hl:to_≤l.length) (h:i < to_) (h1:a1=if way=2∧from_ < i∧(kd l i=1∨kd l i=2) then acc++[(i:Int)] else acc)
  (h2:a2=if way=3∧kd l i=4 then a1++[((i+1:Nat):Int)] else a1) (hj:j=if kd l i=2 then a1M l i 0 else i):a3F l from_ to_ way i acc=a3F l from_ to_ way (j+1) a2:=by
 subst h1;subst h2;subst hj
 have:i≤(if kd l i=2 then a1M l i 0 else i):=by
  split
  ·exact (b1O rfl omo).1
  ·omega
 unfold a3F
 rw [show to_ - i=(to_ - i - 1)+1 by omega]
 simp only [c6e]
 rw [if_neg omo]
 exact b7U hl omo omo
@[reducible] def b7o (from_:Nat) (way:Int) (p:Nat):List Int:=if way=2∧from_ < p then [(p:Int)] else []
theorem a7u {l:List Sg} {from_ to_:Nat} {way:Int} (hl:to_≤l.length) {v p q:Nat} {t:T} (h:Seg l v p q t):v≤1→q≤to_→∀ acc,a3F l from_ to_ way p acc=a3F l from_ to_ way q (acc++b7o from_ way p):=by
  induction h with
  | name p h =>
    intro _ hq acc
    rw [a3L (a1:=acc++b7o from_ way p) (a2:=acc++b7o from_ way p) (j:=p) hl omo (by rw [h];unfold b7o;by_cases hw:way=2∧from_ < p <;> simp [hw]) (by rw [h];simp) (by rw [h];simp)]
  | group p q t h hs h3 _ =>
    intro _ hq acc
    have:=a1h hs
    rw [a3L (a1:=acc++b7o from_ way p) (a2:=acc++b7o from_ way p) (j:=q) hl omo (by rw [h];unfold b7o;by_cases hw:way=2∧from_ < p <;> simp [hw]) (by rw [h];simp) (by rw [h,b8k h hs h3];simp)]
  | item p q t _ _ ih=>exact fun _=>ih dcd
  | times p q t hs h5 ih =>
    intro _ hq acc
    rw [ih dcd omo acc]
    rw [a3L (i:=q) (a1:=acc++b7o from_ way p) (a2:=acc++b7o from_ way p) (j:=q) hl omo (by rw [h5];simp) (by rw [h5];simp) (by rw [h5];simp)]
  | row1 _ _ _ _ _=>intro h;exact absurd h dcd
  | row _ _ _ _ _ _ _ _ _=>intro h;exact absurd h dcd
  | choice1 _ _ _ _ _=>intro h;exact absurd h dcd
  | choice _ _ _ _ _ _ _ _ _ _ _=>intro h;exact absurd h dcd
def a1k (c:Nat→Nat) (n:Nat):List Int:=(List.range n).map fun i=>((c (i+1):Nat):Int)
theorem a6R (c:Nat→Nat) (n:Nat):a1k c (n+1)=a1k c n++[((c (n+1):Nat):Int)]:=by simp [a1k,List.range_succ]
theorem b6e {l:List Sg} {from_ to_:Nat} {way:Int} (hl:to_≤l.length) {p q:Nat} {t:T} (h:Seg l 2 p q t) (hq:q≤to_) (hw:way≠2):∀ acc,a3F l from_ to_ way p acc=a3F l from_ to_ way q acc:=by
  have ad:∀ p,b7o from_ way p=[]:=fun p=>by unfold b7o;rw [if_neg omo]
  cases h with
  | row1 _ _ _ h=>intro acc;have:=a7u (from_:=from_) (way:=way) hl h dcd hq acc;rwa [ad,List.append_nil] at this
  | row _ _ ts c h2 h0 he hs =>
    intro acc
    have up:=c9l (n:=ts.length) (c:=c) (fun i hi=>(a1h (hs i hi)).1)
    have key:∀ i,i≤ts.length→a3F l from_ to_ way (c 0) acc=a3F l from_ to_ way (c i) acc:=by
      intro i
      induction i with
      | zero=>intro _;rfl
      | succ i ihi =>
        intro hi
        have u:=up (i+1) ts.length hi lrf
        have:=a7u (from_:=from_) (way:=way) hl (hs i hi) dcd omo acc
        rw [ad,List.append_nil] at this
        rw [ihi omo,this]
    rw [←h0,key ts.length lrf,he]
theorem c0B {l:List Sg} {p q:Nat} {t:T} (h:Seg l 2 p q t):a3F l p q 3 p [(p:Int)]++[(q:Int)]=[(p:Int),(q:Int)]:=by
 rw [b6e (a1h h).2 h lrf dcd,b0z lrf];rfl
theorem a4M {l:List Sg} {v p q:Nat} {way:Int} {t:T} (h:Seg l v p q t) (hv:v≤1):a3F l p q way p [(p:Int)]++[(q:Int)]=[(p:Int),(q:Int)]:=by
 rw [a7u (a1h h).2 h hv lrf,b0z lrf]
 unfold b7o;rw [if_neg omo];rfl
theorem b9o {l:List Sg} {p q:Nat} {ts:List T} {c:Nat→Nat} (h0:c 0=p) (he:c ts.length=q) (h1:1≤ts.length) (hs:∀ i,i < ts.length→Seg l 1 (c i) (c (i+1)) (ts.getD i default)) :
    a3F l p q 2 p [(p:Int)]++[(q:Int)]=[(p:Int)]++a1k c ts.length:=by
  have up:=c9l (n:=ts.length) (c:=c) (fun i hi=>(a1h (hs i hi)).1)
  have hql:q≤l.length:=by rw [←he];have:=(a1h (hs (ts.length - 1) omo)).2;rwa [show ts.length - 1+1=ts.length by omega] at this
  have key:∀ i,i < ts.length→a3F l p q 2 (c 0) [(p:Int)]=a3F l p q 2 (c (i+1)) ([(p:Int)]++a1k c i):=by
    intro i
    induction i with
    | zero =>
      intro hi
      have u:=up (0+1) ts.length omo lrf
      rw [he] at u
      rw [a7u hql (hs 0 hi) dcd omo]
      unfold b7o;rw [if_neg omo];rfl
    | succ i ihi =>
      intro hi
      have u:=up (i+1+1) ts.length omo lrf
      have u2:=up 0 (i+1) omo omo
      rw [he] at u
      rw [ihi omo,a7u hql (hs (i+1) hi) dcd omo,a6R]
      unfold b7o;rw [if_pos ⟨rfl,by omega⟩,List.append_assoc]
  have k:=key (ts.length - 1) omo
  rw [show ts.length - 1+1=ts.length by omega,h0,he] at k
  rw [k,b0z lrf,List.append_assoc]
  congr 1
  have:=a6R c (ts.length - 1)
  rw [show ts.length - 1+1=ts.length by omega,he] at this
  exact this.symm
theorem c1i {l:List Sg} {p q:Nat} {ts:List T} {c e:Nat→Nat} (h1:1≤ts.length) (h0:c 0=p) (he:e (ts.length - 1)=q) (hs:∀ i,i < ts.length→Seg l 2 (c i) (e i) (ts.getD i default)) (hg:∀ i,i+1 < ts.length→kd l (e i)=4∧c (i+1)=e i+1) :
    a3F l p q 3 p [(p:Int)]++[(q:Int)]=[(p:Int)]++a1k c (ts.length - 1)++[(q:Int)]:=by
  have mono:∀ j,j < ts.length→∀ i,i≤j→e i≤e j:=by
    intro j
    induction j with
    | zero=>intro _ i hi;rw [show i=0 by omega];exact Nat.le_refl _
    | succ j ihj =>
      intro hj i hi
      by_cases h:i=j+1
      · subst h;exact Nat.le_refl _
      · have a:=ihj omo i omo
        have b:=(a1h (hs (j+1) hj)).1
        have d:=hg j hj
        omega
  have hql:q≤l.length:=by rw [←he];exact (a1h (hs (ts.length - 1) omo)).2
  have key:∀ i,i < ts.length→a3F l p q 3 (c 0) [(p:Int)]=a3F l p q 3 (e i) ([(p:Int)]++a1k c i):=by
    intro i
    induction i with
    | zero =>
      intro hi
      rw [b6e hql (hs 0 hi) (by rw [←he];exact mono _ omo 0 omo) dcd]
      simp [a1k]
    | succ i ihi =>
      intro hi
      have g:=hg i hi
      have m1:=mono (ts.length - 1) omo (i+1) omo
      have m2:=(a1h (hs (i+1) hi)).1
      rw [ihi omo,a3L (i:=e i) (a1:=[(p:Int)]++a1k c i) (a2:=[(p:Int)]++a1k c (i+1)) (j:=e i) hql omo (by rw [g.1];simp) (by rw [g.1,a6R,g.2];simp) (by rw [g.1];simp),←g.2]
      exact b6e hql (hs (i+1) hi) omo dcd _
  have k:=key (ts.length - 1) omo
  rw [h0,he] at k
  rw [k,b0z lrf]
def nameV (s:List UInt8):Bool:=match lexV s with | .ok [x]=>decide (x.kind=1)&&decide (x.name=s) | _=>false
def a2g (x:Pt):Bool :=
 if x.kind=1 then decide (x.kids.length=0)&&decide (x.low=0)&&decide (x.high=0)&&nameV x.name
 else if x.kind=2∨x.kind=3 then decide (1 < x.kids.length)&&decide (x.low=0)&&decide (x.high=0)&&decide (x.name=[])
 else if x.kind=4 then decide (x.kids.length=1)&&decide (0≤x.low)&&decide (x.low≤20)&&(decide (x.high=-1)||decide ((if 1 > x.low then 1 else x.low)≤x.high)&&decide (x.high≤20))&&decide (x.name=[])
 else false
def a3p (n:Nat):Nat→List Pt→List Int→Bool
 | _,[],op=>decide (op.length=1)||decide (n=0)
 | i,x::r,op=>(a2g x&&(decide (x.kids.length≤op.length)&&decide (op.drop (op.length - x.kids.length)=x.kids)))&&a3p n (i+1) r (op.take (op.length - x.kids.length)++[(i:Int)])
def rightV (e:List Pt):Bool:=a3p e.length 0 e []
mutual
def T.ok:T→Bool
 | .name s=>nameV s
 | .times lo hi t=>decide (0≤lo)&&decide (lo≤20)&&(decide (hi=-1)||decide ((if 1 > lo then 1 else lo)≤hi)&&decide (hi≤20))&&T.ok t
 | .many k ts=>(decide (k=2)||decide (k=3))&&decide (2≤ts.length)&&T.okL ts
def T.okL:List T→Bool
 | []=>true
 | t::ts=>T.ok t&&T.okL ts
end
theorem a8H {α:Type} (a b:List α):(a++b).drop ((a++b).length - b.length)=b:=by
 rw [List.length_append,Nat.add_sub_cancel];simp
theorem a8N {α:Type} (a b:List α):(a++b).take ((a++b).length - b.length)=a:=by
 rw [List.length_append,Nat.add_sub_cancel];simp
mutual
theorem a8n (n:Nat):∀ (t:T) (b:Nat) (r:List Pt) (op:List Int),t.ok=true→a3p n b (T.flat b t++r) op=a3p n (b+t.size) r (op++[T.root b t])
  | .name s, b, r, op, h => by
    simp only [T.ok] at h
    simp only [T.flat,List.singleton_append,a3p,a2g,if_true,h,T.size,T.root]
    simp
  | .times lo hi t, b, r, op, h => by
    simp only [T.ok,Bool.and_eq_true] at h
    have e:=a8n n t b ([⟨4,lo,hi,[],[((b+t.size:Nat):Int) - 1]⟩]++r) op h.2
    simp only [T.flat,List.append_assoc]
    rw [e]
    simp only [List.singleton_append,a3p]
    have ha:a2g ⟨4,lo,hi,[],[((b+t.size:Nat):Int) - 1]⟩=true:=by
      unfold a2g
      rw [if_neg (show ¬ (4:Int)=1 by decide),if_neg (show ¬ ((4:Int)=2∨(4:Int)=3) by decide),if_pos rfl]
      simp only [Bool.and_eq_true]
      exact ⟨⟨⟨⟨rfl,h.1.1.1⟩,h.1.1.2⟩,h.1.2⟩,rfl⟩
    have e1:=a8H op [T.root b t]
    have e2:=a8N op [T.root b t]
    rw [show ([((b+t.size:Nat):Int) - 1]:List Int)=[T.root b t] from rfl] at ha ⊢
    rw [ha,e1,e2]
    rw [decide_eq_true sml,decide_eq_true rfl]
    simp only [Bool.true_and,T.size,T.root]
    have e3:((b+(t.size+1):Nat):Int) - 1=((b+t.size:Nat):Int):=by omega
    have e4:b+t.size+1=b+(t.size+1):=by omega
    rw [e3,e4]
  | .many k ts, b, r, op, h => by
    simp only [T.ok,Bool.and_eq_true,Bool.or_eq_true,decide_eq_true_eq] at h
    have e:=b0i n ts b ([⟨k,0,0,[],rootsL b ts⟩]++r) op h.2
    simp only [T.flat,List.append_assoc]
    rw [e]
    simp only [List.singleton_append,a3p]
    have hl:=a0M ts b
    have ha:a2g ⟨k,0,0,[],rootsL b ts⟩=true:=by
      unfold a2g
      rw [if_neg (by show ¬ k=1;omega),if_pos (by show k=2∨k=3;exact h.1.1)]
      simp only [hl]
      rw [decide_eq_true (show 1 < ts.length by omega)];rfl
    have e1:=a8H op (rootsL b ts)
    have e2:=a8N op (rootsL b ts)
    rw [ha,e1,e2]
    rw [decide_eq_true sml,decide_eq_true rfl]
    simp only [Bool.true_and,T.size,T.root]
    have e3:((b+(T.sizeL ts+1):Nat):Int) - 1=((b+T.sizeL ts:Nat):Int):=by omega
    have e4:b+T.sizeL ts+1=b+(T.sizeL ts+1):=by omega
    rw [e3,e4]
theorem b0i (n:Nat):∀ (ts:List T) (b:Nat) (r:List Pt) (op:List Int),T.okL ts=true→a3p n b (T.flatL b ts++r) op=a3p n (b+T.sizeL ts) r (op++rootsL b ts)
  | [],b,r,op,h=>by simp [T.flatL,T.sizeL,rootsL]
  | t :: ts, b, r, op, h => by
    simp only [T.okL,Bool.and_eq_true] at h
    simp only [T.flatL,List.append_assoc]
    rw [a8n n t b _ op h.1,b0i n ts _ r _ h.2]
    simp [T.sizeL,rootsL,T.root,Nat.add_assoc]
end
theorem a5b {t:T} (h:t.ok=true):rightV (T.flat 0 t)=true:=by
 have:=a8n (T.flat 0 t).length t 0 [] [] h
 rw [List.append_nil] at this
 unfold rightV
 rw [this]
 simp [a3p]
theorem c5r {p:Int} {n:List UInt8} (h:SgW ⟨1,p,0,0,n⟩):nameV n=true:=by
  have:=b7x (l:=[⟨1,0,0,0,n⟩]) (f:=true) (p:=[]) (out:=[]) (by
    intro x hx
    simp only [List.mem_singleton] at hx
    subst hx
    cases h with
    | name h1 h2 h3=>exact .name h1 h2 h3) sml
  obtain ⟨l',e,hs⟩:=this
  have e:lexV n=.ok l':=by
    simpa [b0N,d2s,a4p,←b5F] using e
  unfold nameV
  rw [e]
  match l',hs with
  | [y], hs =>
    have:=hs.1
    simp only at this ⊢
    rw [this];simp
theorem c5T {l:List Sg} (h:∀ x∈l,SgW x) {i:Nat} (hi:i < l.length):SgW (l.getD i default):=by
 rw [List.getD_eq_getElem?_getD,List.getElem?_eq_getElem hi];exact h _ (List.getElem_mem hi)
theorem c6a {ts:List T} (h:∀ i,i < ts.length→(ts.getD i default).ok=true):T.okL ts=true:=by
  induction ts with
  | nil=>rfl
  | cons t ts ih =>
    simp only [T.okL,Bool.and_eq_true]
    exact ⟨h 0 sml,ih fun i hi=>by have:=h (i+1) (by simpa using hi);simpa using this⟩
theorem kd1 {x:Sg} (hw:SgW x) (h:x.kind=1):SgW ⟨1,0,0,0,x.name⟩:=by
 cases hw with
 | @name a n h1 h2 h3=>exact .name h1 h2 h3
 | open_=>exact absurd (show (2:Int)=1 from h) dcd
 | shut=>exact absurd (show (3:Int)=1 from h) dcd
 | or_=>exact absurd (show (4:Int)=1 from h) dcd
 | times _=>exact absurd (show (5:Int)=1 from h) dcd
theorem kd5 {x:Sg} (hw:SgW x) (h:x.kind=5):TimesOk x.low x.high:=by
 cases hw with
 | name _ _ _=>exact absurd (show (1:Int)=5 from h) dcd
 | open_=>exact absurd (show (2:Int)=5 from h) dcd
 | shut=>exact absurd (show (3:Int)=5 from h) dcd
 | or_=>exact absurd (show (4:Int)=5 from h) dcd
 | times h'=>exact h'
theorem c5y {l:List Sg} (hW:∀ x∈l,SgW x) {v p q:Nat} {t:T} (h:Seg l v p q t):t.ok=true:=by
  induction h with
  | name p h =>
    have hp:=a2Z (l:=l) (i:=p) (by rw [h];decide)
    have hw:=c5T hW hp
    rw [b0K hp] at h
    exact c5r (kd1 hw h)
  | group _ _ _ _ _ _ ih=>exact ih
  | item _ _ _ _ _ ih=>exact ih
  | times p q t hs h5 ih =>
    have hp:=a2Z (l:=l) (i:=q) (by rw [h5];decide)
    have hw:=c5T hW hp
    rw [b0K hp] at h5
    obtain ⟨⟨h1,h2⟩,h3⟩:=kd5 hw h5
    simp only [T.ok,Bool.and_eq_true,Bool.or_eq_true,decide_eq_true_eq]
    refine ⟨⟨⟨h1,h2⟩,?_⟩,ih⟩
    rcases h3 with h3 | h3
    · exact .inl h3
    · right;split <;> omega
  | row1 _ _ _ _ ih=>exact ih
  | row p q ts c h2 _ _ _ ih =>
    simp only [T.ok,Bool.and_eq_true,Bool.or_eq_true,decide_eq_true_eq]
    exact ⟨⟨.inl trivial,h2⟩,c6a ih⟩
  | choice1 _ _ _ _ ih=>exact ih
  | choice p q ts c e h2 _ _ _ _ ih =>
    simp only [T.ok,Bool.and_eq_true,Bool.or_eq_true,decide_eq_true_eq]
    exact ⟨⟨.inr trivial,h2⟩,c6a ih⟩
def T.kind:T→Int
 | .name _=>1
 | .times _ _ _=>4
 | .many k _=>k
def inB (p k:Int):Bool:=if p=3 then decide (k=3) else if p=2 then decide (k=2)||decide (k=3) else !decide (k=1)
def AtP (e:List Pt) (b:Nat) (l:List Pt):Prop:=∃ u v,e=u++l++v∧u.length=b
theorem c7W {e:List Pt} {b:Nat} {l:List Pt} (h:AtP e b l) {i:Nat} (hi:i < l.length):e.getD (b+i) default=l.getD i default∧b+i < e.length:=by
 obtain ⟨u,v,rfl,rfl⟩:=h
 refine ⟨?_,by simp only [List.length_append];omega⟩
 rw [List.append_assoc,List.getD_eq_getElem?_getD,List.getElem?_append_right omo,Nat.add_sub_cancel_left,List.getElem?_append_left hi,←List.getD_eq_getElem?_getD]
theorem a5e {e:List Pt} {b:Nat} {l k:List Pt} (h:AtP e b (l++k)):AtP e b l:=by
 obtain ⟨u,v,rfl,hu⟩:=h
 exact ⟨u,k++v,by simp,hu⟩
theorem b9V {e:List Pt} {b b':Nat} {l k:List Pt} (h:AtP e b (l++k)) (hb:b'=b+l.length):AtP e b' k:=by
 obtain ⟨u,v,rfl,hu⟩:=h
 exact ⟨u++l,v,by simp,by rw [List.length_append,hu,hb]⟩
theorem b4L:∀ (ts:List T) (b i:Nat),i < ts.length→∃ v,T.flatL b ts=T.flatL b (ts.take i)++T.flat (b+T.sizeL (ts.take i)) (ts.getD i default)++v
  | t::ts,b,0,_=>⟨T.flatL (b+t.size) ts,by simp [T.flatL,T.sizeL]⟩
  | t :: ts, b, i + 1, h => by
    obtain ⟨v,hv⟩:=b4L ts (b+t.size) i (by simpa using h)
    refine ⟨v,?_⟩
    simp only [T.flatL,List.take_succ_cons,T.sizeL,hv,List.getD_cons_succ,List.append_assoc,Nat.add_assoc]
theorem d1U {e:List Pt} {b i:Nat} {ts:List T} {k:Int} (h:AtP e b (T.flat b (.many k ts))) (hi:i < ts.length):AtP e (b+T.sizeL (ts.take i)) (T.flat (b+T.sizeL (ts.take i)) (ts.getD i default)):=by
 obtain ⟨v,hv⟩:=b4L ts b i hi
 simp only [T.flat,hv] at h
 have h:=a5e (a5e h)
 exact b9V h (by rw [T.flatL_len])
theorem a3r:∀ (ts:List T) (b i:Nat),i < ts.length→(rootsL b ts).getD i 0=T.root (b+T.sizeL (ts.take i)) (ts.getD i default)
  | t::ts,b,0,_=>by simp [rootsL,T.root,T.sizeL]
  | t :: ts, b, i + 1, h => by
    have:=a3r ts (b+t.size) i (by simpa using h)
    simp only [rootsL,List.getD_cons_succ,List.take_succ_cons,T.sizeL,this,Nat.add_assoc]
def T.top (b:Nat):T→Pt
 | .name s=>⟨1,0,0,s,[]⟩
 | .times lo hi t=>⟨4,lo,hi,[],[((b+t.size:Nat):Int) - 1]⟩
 | .many k ts=>⟨k,0,0,[],rootsL b ts⟩
theorem a7i (b:Nat) (t:T):(t.top b).kind=t.kind:=by cases t <;> rfl
theorem c5o (b:Nat) (t:T):(T.flat b t).getD (t.size - 1) default=t.top b:=by
 cases t with
 | name s=>rfl
 | times lo hi t=>simp only [T.flat,T.size,T.top,Nat.add_sub_cancel];rw [←T.flat_len b t];exact a2z _ _ _
 | many k ts=>simp only [T.flat,T.size,T.top,Nat.add_sub_cancel];rw [←T.flatL_len b ts];exact a2z _ _ _
theorem a4b {e:List Pt} {b:Nat} {t:T} (h:AtP e b (T.flat b t)):e.getD (b+t.size - 1) default=t.top b∧b+t.size≤e.length:=by
 have hs:=t.size_pos
 have:=c7W h (i:=t.size - 1) (by rw [T.flat_len];omega)
 rw [c5o,show b+(t.size - 1)=b+t.size - 1 by omega] at this
 exact ⟨this.1,by omega⟩
set_option maxRecDepth 100000
theorem c9z {s:List UInt8} (h:nameV s=true):SgW ⟨1,0,0,0,s⟩:=by
 unfold nameV at h
 split at h
 ·rename_i x hx
  simp only [Bool.and_eq_true,decide_eq_true_eq] at h
  have:=kd1 (b3B hx x sml) h.1
  rw [h.2] at this;exact this
 ·cases h
theorem c0i {s:List UInt8} (h:nameV s=true):s.length≤12:=by
 have:=c9z h
 cases this with
 | name h1 _ _=>exact h1
mutual
theorem a7Z:∀ (t:T) (b:Nat),t.ok=true→∀ x∈T.flat b t,x.kids.length≤t.size∧x.name.length≤12
  | .name s, b, h => fun x hx => by
    simp only [T.flat,List.mem_singleton] at hx
    subst hx;exact ⟨Nat.zero_le _,c0i (by simpa [T.ok] using h)⟩
  | .times lo hi t, b, h => fun x hx => by
    simp only [T.ok,Bool.and_eq_true] at h
    simp only [T.flat,List.mem_append,List.mem_singleton] at hx
    rcases hx with hx | rfl
    · have:=a7Z t b h.2 x hx
      exact ⟨Nat.le_trans this.1 (by simp only [T.size];omega),this.2⟩
    · exact ⟨by show 1≤_;simp only [T.size];omega,Nat.zero_le _⟩
  | .many k ts, b, h => fun x hx => by
    simp only [T.ok,Bool.and_eq_true] at h
    simp only [T.flat,List.mem_append,List.mem_singleton] at hx
    rcases hx with hx | rfl
    · have:=a9y ts b h.2 x hx
      exact ⟨Nat.le_trans this.1 (by simp only [T.size];omega),this.2⟩
    · refine ⟨?_,Nat.zero_le _⟩
      show (rootsL b ts).length≤_
      rw [a0M]
      have:∀ ts:List T,ts.length≤T.sizeL ts:=fun ts=>by
        induction ts with
        | nil=>exact Nat.le_refl _
        | cons t ts ih=>have:=t.size_pos;simp only [List.length_cons,T.sizeL];omega
      have:=this ts
      simp only [T.size];omega
theorem a9y:∀ (ts:List T) (b:Nat),T.okL ts=true→∀ x∈T.flatL b ts,x.kids.length≤T.sizeL ts∧x.name.length≤12
  | [],b,_=>fun x hx=>by simp [T.flatL] at hx
  | t :: ts, b, h => fun x hx => by
    simp only [T.okL,Bool.and_eq_true] at h
    simp only [T.flatL,List.mem_append] at hx
    rcases hx with hx | hx
    · have:=a7Z t b h.1 x hx
      exact ⟨Nat.le_trans this.1 (by simp only [T.sizeL];omega),this.2⟩
    · have:=a9y ts _ h.2 x hx
      exact ⟨Nat.le_trans this.1 (by simp only [T.sizeL];omega),this.2⟩
end
theorem c2G {l:List Sg} {t t':T} (h:Seg l 3 0 l.length t) (h':Seg l 3 0 l.length t'):t=t':=by
 have e:b0I l 3 l.length:=⟨fun _=>by rw [b3K lrf];decide,fun _=>by rw [b3K lrf];decide⟩
 exact (c6V h h' e e).2
theorem b9g {x:Pt} {ts:List T} {b:Nat} (hx:a2g x=true) (hk:rootsL b ts=x.kids) (hok:T.okL ts=true):∃ t:T,t.ok=true∧T.flat b t=T.flatL b ts++[x]:=by
  have hl:=a0M ts b
  rw [hk] at hl
  unfold a2g at hx
  obtain ⟨kind,low,high,name,kids⟩:=x
  simp only at hx hk hl
  by_cases h1:kind=1
  · rw [if_pos h1] at hx
    simp only [Bool.and_eq_true,decide_eq_true_eq] at hx
    obtain ⟨⟨⟨h2,h3⟩,h4⟩,h5⟩:=hx
    rw [h2] at hl
    have:ts=[]:=List.length_eq_zero_iff.1 hl.symm
    subst this
    refine ⟨.name name,by simpa [T.ok] using h5,?_⟩
    subst h1;subst h3;subst h4
    rw [List.length_eq_zero_iff.1 h2];rfl
  · rw [if_neg h1] at hx
    by_cases h2:kind=2∨kind=3
    · rw [if_pos h2] at hx
      simp only [Bool.and_eq_true,decide_eq_true_eq] at hx
      obtain ⟨⟨⟨h3,h4⟩,h5⟩,h6⟩:=hx
      refine ⟨.many kind ts,?_,?_⟩
      · simp only [T.ok,Bool.and_eq_true,Bool.or_eq_true,decide_eq_true_eq]
        exact ⟨⟨h2,by omega⟩,hok⟩
      · subst h4;subst h5;subst h6;simp only [T.flat,hk]
    · rw [if_neg h2] at hx
      by_cases h3:kind=4
      · rw [if_pos h3] at hx
        have hx0:=hx
        simp only [Bool.and_eq_true,decide_eq_true_eq] at hx
        obtain ⟨⟨⟨⟨h4,h5⟩,h6⟩,h7⟩,h8⟩:=hx
        rw [h4] at hl
        match ts,hl,hk,hok with
        | [t], _, hk, hok =>
          simp only [T.okL,Bool.and_eq_true] at hok
          refine ⟨.times low high t,?_,?_⟩
          · simp only [T.ok]
            rw [hok.1,decide_eq_true h5,decide_eq_true h6,h7];rfl
          · subst h3;subst h8;rw [←hk];simp [T.flat,T.flatL,rootsL]
      · rw [if_neg h3] at hx;cases hx
theorem a8m:∀ (ts us:List T) (b:Nat),rootsL b (ts++us)=rootsL b ts++rootsL (b+T.sizeL ts) us
 | [],us,b=>by simp [rootsL,T.sizeL]
 | t::ts,us,b=>by simp [rootsL,T.sizeL,a8m ts,Nat.add_assoc]
theorem b3n:∀ (ts us:List T) (b:Nat),T.flatL b (ts++us)=T.flatL b ts++T.flatL (b+T.sizeL ts) us
 | [],us,b=>by simp [T.flatL,T.sizeL]
 | t::ts,us,b=>by simp [T.flatL,T.sizeL,b3n ts,Nat.add_assoc]
theorem b5d:∀ (ts us:List T),T.okL (ts++us)=(T.okL ts&&T.okL us)
 | [],us=>by simp [T.okL]
 | t::ts,us=>by simp [T.okL,b5d ts,Bool.and_assoc]
theorem a9I (n:Nat):∀ (r:List Pt) (i:Nat) (ts:List T),T.okL ts=true→T.sizeL ts=i→a3p n i r (rootsL 0 ts)=true→∃ us:List T,T.okL us=true∧T.flatL 0 us=T.flatL 0 ts++r∧(us.length=1∨n=0)
  | [],i,ts,hok,hs,h=>⟨ts,hok,by simp,by simpa [a3p,a0M] using h⟩
  | x :: r, i, ts, hok, hs, h => by
    simp only [a3p,Bool.and_eq_true,decide_eq_true_eq] at h
    obtain ⟨⟨hal,hk,hd⟩,hr⟩:=h
    rw [a0M] at hk hd hr
    obtain ⟨u,v,rfl,hv⟩:∃ u v,ts=u++v∧v.length=x.kids.length:=⟨ts.take (ts.length - x.kids.length),ts.drop (ts.length - x.kids.length),(List.take_append_drop _ _).symm,by rw [List.length_drop];omega⟩
    have hul:(u++v).length - x.kids.length=(rootsL 0 u).length:=by rw [a0M,List.length_append];omega
    rw [hul,a8m,List.drop_left] at hd
    rw [hul,a8m,List.take_left] at hr
    rw [b5d,Bool.and_eq_true] at hok
    obtain ⟨t,htok,hfl⟩:=b9g hal hd hok.2
    have hsz:T.sizeL u+T.sizeL v=i:=by
      have:∀ a b:List T,T.sizeL (a++b)=T.sizeL a+T.sizeL b:=fun a b=>by
        induction a with
        | nil=>simp [T.sizeL]
        | cons t a ih=>simp [T.sizeL,ih,Nat.add_assoc]
      rw [this] at hs;exact hs
    have htl:t.size=T.sizeL v+1:=by
      have:=congrArg List.length hfl
      rw [T.flat_len,List.length_append,T.flatL_len] at this
      simpa using this
    have e1:rootsL 0 u++[(i:Int)]=rootsL 0 (u++[t]):=by
      rw [a4f]
      congr 1
      unfold T.root
      congr 1
      omega
    rw [e1] at hr
    obtain ⟨us,h1,h2,h3⟩:=a9I n r (i+1) (u++[t]) (by rw [b5d,hok.1];simp [T.okL,htok]) (by rw [T.sizeL_snoc];omega) hr
    refine ⟨us,h1,?_,h3⟩
    rw [h2,T.flatL_snoc,b3n,hfl]
    simp
theorem b5x {e:List Pt} (h:rightV e=true):e=[]∨∃ t:T,t.ok=true∧e=T.flat 0 t:=by
  obtain ⟨us,hok,hf,hu⟩:=a9I e.length e 0 [] rfl rfl h
  simp only [T.flatL,List.nil_append] at hf
  rcases hu with hu | hu
  · match us, hu with
    | [t], _ =>
      simp only [T.okL,Bool.and_eq_true] at hok
      exact .inr ⟨t,hok.1,by rw [←hf];simp [T.flatL]⟩
  · exact .inl (List.length_eq_zero_iff.1 hu)
mutual
theorem b0a:∀ (t:T) (b:Nat),t.ok=true→∀ x∈T.flat b t,a2g x=true
  | .name s, b, h => fun x hx => by
    simp only [T.flat,List.mem_singleton] at hx
    subst hx
    simp only [T.ok] at h
    simp [a2g,h]
  | .times lo hi t, b, h => fun x hx => by
    simp only [T.ok,Bool.and_eq_true] at h
    simp only [T.flat,List.mem_append,List.mem_singleton] at hx
    rcases hx with hx | rfl
    · exact b0a t b h.2 x hx
    · unfold a2g
      rw [if_neg (show ¬ (4:Int)=1 by decide),if_neg (show ¬ ((4:Int)=2∨(4:Int)=3) by decide),if_pos rfl]
      simp only [Bool.and_eq_true]
      exact ⟨⟨⟨⟨rfl,h.1.1.1⟩,h.1.1.2⟩,h.1.2⟩,rfl⟩
  | .many k ts, b, h => fun x hx => by
    simp only [T.ok,Bool.and_eq_true,Bool.or_eq_true,decide_eq_true_eq] at h
    simp only [T.flat,List.mem_append,List.mem_singleton] at hx
    rcases hx with hx | rfl
    · exact b1a ts b h.2 x hx
    · unfold a2g
      rw [if_neg (by show ¬ k=1;omega),if_pos (by show k=2∨k=3;exact h.1.1)]
      simp only [a0M]
      rw [decide_eq_true (show 1 < ts.length by omega)];rfl
theorem b1a:∀ (ts:List T) (b:Nat),T.okL ts=true→∀ x∈T.flatL b ts,a2g x=true
  | [],b,_=>fun x hx=>by simp [T.flatL] at hx
  | t :: ts, b, h => fun x hx => by
    simp only [T.okL,Bool.and_eq_true] at h
    simp only [T.flatL,List.mem_append] at hx
    rcases hx with hx | hx
    · exact b0a t b h.1 x hx
    · exact b1a ts _ h.2 x hx
end
def a5A (x:Nat):List Nat:=(List.range 64).filter fun j=>x.testBit j
theorem c0A:a5A 0=[]:=by simp [a5A]
theorem b3F (p:Nat→Bool) (k:Nat) (hk:p k=true) (hlo:∀ j,j < k→p j=false):∀ n,k < n →
    (List.range n).filter p=k::(List.range n).filter (fun j=>p j&&decide (j≠k)):=by
  intro n
  induction n with
  | zero=>intro h;omega
  | succ n ih =>
    intro h
    rw [List.range_succ,List.filter_append,List.filter_append]
    by_cases hkn:k < n
    · rw [ih hkn]
      have:n≠k:=by omega
      simp [List.filter_cons,this]
    · obtain rfl:k=n:=by omega
      have h1:(List.range k).filter p=[]:=by
        rw [List.filter_eq_nil_iff]
        intro a ha
        simp [hlo a (by simpa using ha)]
      have h2:(List.range k).filter (fun j=>p j&&decide (j≠k))=[]:=by
        rw [List.filter_eq_nil_iff]
        intro a ha
        simp [hlo a (by simpa using ha)]
      rw [h1,h2]
      simp [List.filter_cons,hk]
theorem a5D (k m j:Nat):(2 ^ k * (2 * m+1)).testBit j=(decide (k≤j)&&(2 * m+1).testBit (j - k)):=Nat.testBit_two_pow_mul
theorem c0v (k m j:Nat):(2 ^ k * (2 * m+1) &&& (2 ^ k * (2 * m+1) - 1)).testBit j=((2 ^ k * (2 * m+1)).testBit j&&decide (j≠k)):=by
 have hp:0 < 2 ^ k:=Nat.two_pow_pos k
 have e:2 ^ k * (2 * m+1) - 1=2 ^ k * (2 * m)+(2 ^ k - 1):=by rw [Nat.mul_add];omega
 rw [Nat.testBit_and,e,Nat.testBit_two_pow_mul_add _ (by omega),a5D]
 by_cases h:j < k
 ·simp [h,Nat.not_le.2 h]
 ·have hk:k≤j:=by omega
  simp only [hk,h,decide_true,Bool.true_and,if_false]
  by_cases hj:j=k
  ·subst hj;simp [Nat.testBit_zero]
  ·obtain ⟨i,rfl⟩:∃ i,j=k+(i+1):=⟨j - k - 1,by omega⟩
   have:k+(i+1) - k=i+1:=by omega
   rw [this,Nat.testBit_succ,Nat.testBit_succ]
   have d1:(2 * m+1) / 2=m:=by omega
   have d2:2 * m / 2=m:=by omega
   rw [d1,d2]
   simp
theorem b3r (x:Nat) (h0:x≠0) (h:x < 2 ^ 64):Lib.ctz 64 x < 64∧a5A x=Lib.ctz 64 x::a5A (x &&& (x - 1)):=by
 obtain ⟨m,hm,hk⟩:=Lib.ctzFrom_spec 64 x (by omega) h
 have e:Lib.ctz 64 x=Lib.ctzFrom 64 x:=by simp [Lib.ctz,h0]
 rw [e]
 refine ⟨hk,?_⟩
 obtain ⟨k,hkk⟩:∃ k,Lib.ctzFrom 64 x=k:=⟨_,rfl⟩
 rw [hkk] at hm hk ⊢
 have hb:∀ j,x.testBit j=(decide (k≤j)&&(2 * m+1).testBit (j - k)):=fun j=>by rw [hm];exact a5D k m j
 have h1:x.testBit k=true:=by rw [hb];simp [Nat.testBit_zero]
 have h2:∀ j,j < k→x.testBit j=false:=fun j hj=>by rw [hb];simp [Nat.not_le.2 hj]
 unfold a5A
 rw [b3F (fun j=>x.testBit j) k h1 h2 64 hk]
 have:(fun j=>x.testBit j&&decide (j≠k))=(fun j=>(x &&& (x - 1)).testBit j):=by
  funext j
  rw [hm]
  exact (c0v k m j).symm
 rw [this]
theorem a9V (x:Nat) (h0:x≠0):x &&& (x - 1) < x:=by
 have:=@Nat.and_le_right x (x - 1)
 omega
def pc:Nat→Nat→Nat
 | 0,_=>0
 | n+1,x=>x % 2+pc n (x / 2)
theorem a8g (p:Nat→Bool) (n:Nat):((List.range (n+1)).filter p).length=(if p 0 then 1 else 0)+((List.range n).filter (fun j=>p (j+1))).length:=by
 rw [List.range_succ_eq_map,List.filter_cons]
 have h:(List.filter p (List.map Nat.succ (List.range n))).length=(List.filter (fun j=>p (j+1)) (List.range n)).length:=by
  rw [List.filter_map,List.length_map];rfl
 split <;> simp [h,Nat.add_comm]
theorem d1c:∀ (n x:Nat),((List.range n).filter (fun j=>x.testBit j)).length=pc n x:=by
  intro n
  induction n with
  | zero=>intro x;simp [pc]
  | succ n ih =>
    intro x
    rw [a8g,pc,←ih (x / 2)]
    congr 1
    · rw [Nat.testBit_zero]
      rcases Nat.mod_two_eq_zero_or_one x with h | h <;> simp [h]
    · congr 1
      apply List.filter_congr
      intro j _
      rw [Nat.testBit_succ]
theorem b5X (x:Nat):(a5A x).length=pc 64 x:=d1c 64 x
def m0:Nat→Nat | 0=>0 | n+1=>256 * m0 n+0x55
def m1:Nat→Nat | 0=>0 | n+1=>256 * m1 n+0x33
def m2:Nat→Nat | 0=>0 | n+1=>256 * m2 n+0x0f
def b0 (r:Nat):Nat:=(r / 2 &&& 0x55)+(r &&& 0x55)
def b1 (r:Nat):Nat:=(r / 4 &&& 0x33)+(r &&& 0x33)
def b2 (r:Nat):Nat:=(r / 16+r) &&& 0x0f
def ps:Nat→Nat→Nat | 0,_=>0 | n+1,x=>ps n (x / 256)+pc 8 (x % 256)
def r1:Nat→Nat | 0=>0 | n+1=>256 * r1 n+1
end
section
open Go.RowKit
theorem d2B (a:Int) (x m:Nat) (h:a=(x:Int)) (hx:x < 18446744073709551616) (hm:m < 18446744073709551616):bits .and .u64 a (m:Int)=((x &&& m:Nat):Int):=by
 subst h;exact bits_and_u64_nat x m hx hm
def c1P (w:World):Prop:=∀ j,j < 64→w.cell? ⟨0,j,none⟩=some (.int .u8 (Lib.deBruijn64tab.getD j 0))
theorem c1P.below {B:Nat} {w w':World} (h:c1P w) (hb:Below B w w') (hB:0 < B):c1P w':=fun j hj=>(hb.cell hB).trans (h j hj)
set_option maxHeartbeats 1000000 in
theorem c0z (x k idx:Nat) (w:World) (hx0:((x:Int) == 0)=false)
  (key:IntKind.u64.wrap (bits BinOp.and IntKind.u64 (x:Int) (IntKind.u64.wrap (-(x:Int))) * 285870213051353865) / 288230376151711744=(idx:Int))
  (hi:idx < 64) (hk:k < 64) (hcell:w.cell? ⟨0,idx,none⟩=some (.int .u8 k)) :
  Calls Tryz.prog 68 #[.int .u64 x] w fun e w'=>e=.returned (.int .i64 k)∧w'=w:=by
 go_enter Tryz.func68,Tryz.ntmps68
 go_wp2_with (simp only [key])
 go_ret
 exact ⟨rfl,rfl⟩
theorem c4f (x a:Nat) (hx:x < 18446744073709551616) (hx0:x≠0) (hlow:x &&& (18446744073709551616 - x)=a) :
  IntKind.u64.wrap (bits BinOp.and IntKind.u64 (x:Int) (IntKind.u64.wrap (-(x:Int))) * 285870213051353865) / 288230376151711744=((a * 285870213051353865 % 18446744073709551616 / 288230376151711744:Nat):Int):=by
 have e1:IntKind.u64.wrap (-(x:Int))=((18446744073709551616 - x:Nat):Int):=by rw [IntKind.wrap_u64];omega
 rw [e1,bits_and_u64_nat x _ hx (by omega),hlow,IntKind.wrap_u64]
 omega
theorem a8b (x:Nat) (hx:x < 18446744073709551616) (hx0:x≠0) (w:World) (hT:c1P w) :
  Calls Tryz.prog 68 #[.int .u64 x] w fun e w'=>e=.returned (.int .i64 (Lib.ctz 64 x))∧w'=w:=by
 obtain ⟨hlow,hk⟩:=Lib.lowest_bit 64 x hx0 hx
 obtain ⟨hi,htab⟩:=Lib.deBruijn64_at _ hk
 have hcell:=hT _ hi
 rw [htab] at hcell
 exact c0z x _ _ w (by simp;omega) (c4f x _ hx hx0 hlow) hi hk hcell
structure Bag where
 a:Nat
 b:Nat
 c:Nat
 d:Nat
def Bag.cells (x:Bag):List Value:=[.int .u64 x.a,.int .u64 x.b,.int .u64 x.c,.int .u64 x.d]
def Bag.ok (x:Bag):Prop:=x.a < 18446744073709551616∧x.b < 18446744073709551616∧x.c < 18446744073709551616∧x.d < 18446744073709551616
theorem a5V:∀ w,(isAgg 72).run Tryz.prog w=.ok true w:=fun w=>by kernel_rfl
theorem a4s:∀ w,(sizeOf 72).run Tryz.prog w=.ok 4 w:=fun w=>by kernel_rfl
theorem a3k (w:World) (ρ:Operand→Value) (x:Operand) (d:Option Tmp) (ty:TypeId) (pos:String) (af:Array _) (g:Option _) :
  (execOp ρ ⟨d,.load 72 x,ty,pos,af,g⟩).run Tryz.prog w=b0B Tryz.prog 72 4 w (ρ x):=a8I _ a5V 4 a4s w ρ x d ty pos af g
theorem a2F (w:World) (ρ:Operand→Value) (p x:Operand) (d:Option Tmp) (ty:TypeId) (pos:String) (af:Array _) (g:Option _) :
  (execOp ρ ⟨d,.store 72 p x,ty,pos,af,g⟩).run Tryz.prog w=a9e Tryz.prog 72 4 w (ρ p) (ρ x):=b2W _ 4 (by kernel_rfl) w ρ p x d ty pos af g
theorem c6Y:∀ w,(isAgg 70).run Tryz.prog w=.ok true w:=fun w=>by kernel_rfl
theorem c5l:∀ w,(sizeOf 70).run Tryz.prog w=.ok 4 w:=fun w=>by kernel_rfl
theorem a3j (w:World) (ρ:Operand→Value) (x:Operand) (d:Option Tmp) (ty:TypeId) (pos:String) (af:Array _) (g:Option _) :
  (execOp ρ ⟨d,.load 70 x,ty,pos,af,g⟩).run Tryz.prog w=b0B Tryz.prog 70 4 w (ρ x):=a8I _ c6Y 4 c5l w ρ x d ty pos af g
theorem Bag.cells_length (x:Bag):x.cells.length=4:=rfl
theorem a9B (x:Bag):(∀ u,u∈x.cells→u.oneCell'=true)=True:=by simp [Bag.cells];exact ⟨rfl,rfl,rfl,rfl⟩
theorem b4B (w:World) (cs:Array Value) (t:TypeId) (g n:Nat) (hg:g=w.heap.size) (h:cs.size=n):rd (w.alloc (.cells cs t)) ⟨g,0,none⟩ n=some cs.toList:=by
 subst h;subst hg;exact (Blk.new w t cs).rd_
theorem a5x (w:World) (g g':Nat) (cs:Array Value) (n:Nat) (hg:g=g') (hr:a3T w g'=some n) (h:cs.size=n):rd (w.setRow g' cs) ⟨g,0,none⟩ n=some cs.toList:=by
 obtain ⟨cur,t,h1,h2⟩:=b0Z hr
 subst hg;subst h
 exact (Blk.setRow (t:=t) (cs:=cur) h1 cs).rd_
theorem a5N (w:World) (a:Addr) (u:Value) (g:Nat):a3T (w.setCell a u) g=a3T w g:=by
  unfold a3T World.setCell
  simp only [Array.getElem?_modify]
  by_cases hg:a.block=g
  · subst hg
    cases h:w.heap[a.block]? with
    | none=>simp
    | some o =>
      cases o with
      | cells cur t z=>obtain ⟨z1,z2⟩:=z;rcases z1 with _ | z1 <;> rcases z2 with _ | z2 <;> simp <;> split <;> simp
      | _=>simp
  · rw [if_neg hg]
theorem a6l {w w':World} {g:Nat} (h:w'.heap[g]?=w.heap[g]?):a3T w' g=a3T w g:=by unfold a3T;rw [h]
theorem a7N (w:World) (cs:Array Value) (t:TypeId) (g:Nat) (hg:g=w.heap.size):a3T (w.alloc (.cells cs t)) g=some cs.size:=by subst hg;exact c2g w cs t
theorem a7J (w:World) (o:Obj) (g:Nat) (hg:g < w.heap.size):a3T (w.alloc o) g=a3T w g:=a6l (Below.heap_alloc w o g hg)
theorem a5Z (w:World) (g g':Nat) (cs:Array Value) (hg:g≠g'):a3T (w.setRow g' cs) g=a3T w g:=a6l (a1l w g' cs g hg)
theorem a3U (w:World) (k g:Nat):a3T (w.drewN k) g=a3T w g:=a6l rfl
theorem a4E (w:World) (g:Nat):a3T w.drew g=a3T w g:=a6l rfl
theorem a4N (w:World) (g:Nat) (cs:Array Value) (a:Addr) (n:Nat) (h:a.block≠g):rd (w.setRow g cs) a n=rd w a n:=a8w (a1l w g cs _ h) n
attribute [local go_sem ↓] a3k a2F a3j
attribute [local go_sem] a6f a7U a2Y a2R a3q b4B a7w a4N a5x a5N a7N a7J a5Z a3U a4E a9B Bag.cells_length
theorem c6s (n:Int) (w:World):Calls Tryz.prog 93 #[.int .i64 n] w fun e w'=>e=.returned (.bool (decide (0≤n∧n < 256)))∧w'=w:=by
 go_enter Tryz.func93,Tryz.ntmps93
 by_cases h0:0≤n
 ·by_cases h1:n < 256
  ·have d0:decide (0≤n)=true:=by simp [h0]
   have d1:decide (n < 256)=true:=by simp [h1]
   have he:decide (0≤n∧n < 256)=true:=by simp [h0,h1]
   clear h0 h1
   go_wp2
   go_ret
   exact ⟨a6e he.symm,rfl⟩
  ·have d0:decide (0≤n)=true:=by simp [h0]
   have d1:decide (n < 256)=false:=by simp [h1]
   have he:decide (0≤n∧n < 256)=false:=by simp [h1]
   clear h0 h1
   go_wp2
   go_ret
   exact ⟨a6e he.symm,rfl⟩
 ·have d0:decide (0≤n)=false:=by simp [h0]
  have he:decide (0≤n∧n < 256)=false:=by simp [h0]
  clear h0
  go_wp2
  go_ret
  exact ⟨a6e he.symm,rfl⟩
set_option maxHeartbeats 1000000 in
theorem c3U (x:Bag) (n:Int) (hn:¬ (0≤n∧n < 256)) (w:World):Calls Tryz.prog 53 #[.agg x.cells.toArray,.int .i64 n] w fun e w'=>e=.returned (.agg x.cells.toArray)∧Below w.heap.size w w':=by
 have he:decide (0≤n∧n < 256)=false:=by simpa using hn
 have hb:=c6s n
 rw [he] at hb
 clear he hn
 go_enter Tryz.func53,Tryz.ntmps53
 go_wp2_with (go_at_call 93;refine (hb _).mono ?_;rintro e w' ⟨rfl,rfl⟩)
 refine bodyPost_ret (a1K rfl a5V 4 a4s _ _ ⟨w.heap.size+1,0,none⟩ x.cells rfl ?_) rfl ?_
 ·exact a5x _ _ _ _ _ rfl (by simp [go_sem]) rfl
 ·exact ⟨rfl,a2u ((Below.refl _ _).alloc (Nat.le_refl _) _ |>.alloc (by simp) _) (by simp) _⟩
def Bag.word (x:Bag):Nat→Nat | 0=>x.a | 1=>x.b | 2=>x.c | _=>x.d
def Bag.put (x:Bag):Nat→Nat→Bag
 | 0,m=>{ x with a:=x.a ||| m }
 | 1,m=>{ x with b:=x.b ||| m }
 | 2,m=>{ x with c:=x.c ||| m }
 | _,m=>{ x with d:=x.d ||| m }
theorem b3u (m:Nat) (h:m < 18446744073709551616):IntKind.u64.wrap (m:Int)=(m:Int):=by rw [IntKind.wrap_u64];omega
theorem q4 {q:Nat} (h:q < 4):q=0∨q=1∨q=2∨q=3:=by omega
theorem Bag.cell_at (x:Bag) (q:Nat) (hq:q < 4) (h:q < x.cells.length):x.cells[q]=.int .u64 (x.word q):=by
 rcases q4 hq with rfl | rfl | rfl | rfl <;> rfl
theorem Bag.set_at (x:Bag) (q m:Nat) (hq:q < 4):x.cells.set q (.int .u64 (x.word q ||| m:Nat))=(x.put q m).cells:=by
 rcases q4 hq with rfl | rfl | rfl | rfl <;> rfl
theorem Bag.word_lt (x:Bag) (hx:x.ok) (q:Nat):x.word q < 18446744073709551616:=by
 obtain ⟨h1,h2,h3,h4⟩:=hx
 unfold Bag.word;split <;> assumption
theorem c0k (n:Int) (h0:0≤n) (h1:n < 256):bits .and .i64 n 63=n % 64:=bits_mask .i64 63 (by decide) (fun n h0 h1=>by rw [IntKind.wrap_i64];omega) 6 (by decide) n h0 (by omega)
theorem b7X (r:Nat) (hr:r < 64):2 ^ r < 18446744073709551616:=Nat.pow_lt_pow_right (m:=r) (n:=64) (by decide) hr
set_option maxHeartbeats 1000000 in
theorem c7N (x:Bag) (hx:x.ok) (q r:Nat) (hq:q < 4) (hr:r < 64) (w:World):Calls Tryz.prog 53 #[.agg x.cells.toArray,.int .i64 (64 * q+r:Nat)] w fun e w' =>
  e=.returned (.agg (x.put q (2 ^ r)).cells.toArray)∧Below w.heap.size w w':=by
 have hb:=c6s (64 * q+r:Nat)
 rw [show decide (0≤((64 * q+r:Nat):Int)∧((64 * q+r:Nat):Int) < 256)=true from by simp;omega] at hb
 obtain ⟨n,hn⟩:∃ n:Int,n=((64 * q+r:Nat):Int):=⟨_,rfl⟩
 rw [←hn] at hb ⊢
 have h6:n / 64=(q:Int):=by omega
 have h63:bits .and .i64 n 63=(r:Int):=by rw [c0k n (by omega) (by omega)];omega
 have hp:=b7X r hr
 have h2:IntKind.u64.wrap (2 ^ r)=((2 ^ r:Nat):Int):=by
  have e:((2:Int) ^ r)=((2 ^ r:Nat):Int):=by simp
  rw [e];exact b3u _ hp
 obtain ⟨m,hm⟩:∃ m,2 ^ r=m:=⟨_,rfl⟩
 rw [hm] at hp h2 ⊢
 have hor:=bits_or_u64_nat (x.word q) m (x.word_lt hx q) hp
 have hc:=x.cell_at q hq
 have hs:=x.set_at q m hq
 have HX:=Lib.hid hx
 have HN:=Lib.hid hn
 clear hn hx hm
 go_enter Tryz.func53,Tryz.ntmps53
 go_wp2_with (go_at_call 93;refine (hb _).mono ?_;rintro e w' ⟨rfl,rfl⟩)
 refine bodyPost_ret (a1K rfl a5V 4 a4s _ _ ⟨w.heap.size+1,0,none⟩ (x.put q m).cells rfl ?_) rfl ?_
 ·exact a5x _ _ _ _ _ rfl (by simp [go_sem]) rfl
 ·refine ⟨rfl,a2u ((Below.refl _ _).alloc (Nat.le_refl _) _ |>.alloc (by simp) _) (by simp) _⟩
def Bag.has (x:Bag) (n:Nat):Bool:=(x.word (n / 64)).testBit (n % 64)
theorem Bag.has_at (x:Bag) (q r:Nat) (hr:r < 64):x.has (64 * q+r)=(x.word q).testBit r:=by
 unfold Bag.has
 rw [show (64 * q+r) / 64=q from by omega,show (64 * q+r) % 64=r from by omega]
def Bag.with_ (x:Bag) (n:Int):Bag:=if 0≤n∧n < 256 then x.put (n.toNat / 64) (2 ^ (n.toNat % 64)) else x
theorem b8f (x:Bag) (hx:x.ok) (n:Int) (w:World):Calls Tryz.prog 53 #[.agg x.cells.toArray,.int .i64 n] w fun e w' =>
  e=.returned (.agg (x.with_ n).cells.toArray)∧Below w.heap.size w w':=by
 unfold Bag.with_
 by_cases h:0≤n∧n < 256
 ·rw [if_pos h]
  have:=c7N x hx (n.toNat / 64) (n.toNat % 64) (by omega) (by omega) w
  rw [show ((64 * (n.toNat / 64)+n.toNat % 64:Nat):Int)=n from by omega] at this
  exact this
 ·rw [if_neg h];exact c3U x n h w
theorem c3z (a b:Nat) (ha:a < 18446744073709551616) (hb:b < 18446744073709551616):a ||| b < 18446744073709551616:=Nat.or_lt_two_pow (n:=64) ha hb
theorem Bag.put_ok (x:Bag) (hx:x.ok) (q m:Nat) (hm:m < 18446744073709551616):(x.put q m).ok:=by
 obtain ⟨h1,h2,h3,h4⟩:=hx
 unfold Bag.put
 split
 ·exact ⟨c3z _ _ h1 hm,h2,h3,h4⟩
 ·exact ⟨h1,c3z _ _ h2 hm,h3,h4⟩
 ·exact ⟨h1,h2,c3z _ _ h3 hm,h4⟩
 ·exact ⟨h1,h2,h3,c3z _ _ h4 hm⟩
theorem Bag.with_ok (x:Bag) (hx:x.ok) (n:Int):(x.with_ n).ok:=by
 unfold Bag.with_;split
 ·exact x.put_ok hx _ _ (b7X _ (by omega))
 ·exact hx
theorem Bag.put_has (x:Bag) (q r:Nat) (hq:q < 4) (hr:r < 64) (k:Nat) (hk:k < 256):(x.put q (2 ^ r)).has k=(decide (k=64 * q+r)||x.has k):=by
 have key:∀ i,i < 4→(x.put q (2 ^ r)).word i=if i=q then x.word q ||| 2 ^ r else x.word i:=by
  intro i hi
  rcases q4 hq with rfl | rfl | rfl | rfl <;> rcases q4 hi with rfl | rfl | rfl | rfl <;> rfl
 unfold Bag.has
 rw [key _ (by omega)]
 by_cases h:k / 64=q
 ·rw [if_pos h,Nat.testBit_or,Nat.testBit_two_pow,h]
  have:(r=k % 64)↔(k=64 * q+r):=by omega
  by_cases h2:r=k % 64
  ·simp [h2];omega
  ·have h3:¬ (k=64 * q+r):=fun e=>h2 (this.2 e)
   simp [h2,h3]
 ·rw [if_neg h]
  have:¬ (k=64 * q+r):=by omega
  simp [this]
theorem Bag.with_has (x:Bag) (n:Int) (k:Nat) (hk:k < 256):(x.with_ n).has k=(decide ((k:Int)=n)||x.has k):=by
 unfold Bag.with_;split
 ·rename_i h
  rw [x.put_has _ _ (by omega) (by omega) k hk]
  congr 1
  apply decide_eq_decide.2
  omega
 ·have:¬ ((k:Int)=n):=by omega
  simp [this]
def Bag.zero:Bag:=⟨0,0,0,0⟩
theorem Bag.zero_ok:Bag.zero.ok:=by unfold Bag.ok Bag.zero;simp
theorem Bag.zero_has (k:Nat):Bag.zero.has k=false:=by
 unfold Bag.has Bag.zero Bag.word;split <;> simp
def a3h (l:List Int):Bag:=l.foldl Bag.with_ Bag.zero
theorem b1t (l:List Int) (n:Int):a3h (l++[n])=(a3h l).with_ n:=by simp [a3h]
theorem a1X (l:List Int):(a3h l).ok∧∀ k,k < 256→(a3h l).has k=decide ((k:Int)∈l):=by
  have:∀ m:List Int,(a3h m.reverse).ok∧∀ k,k < 256→(a3h m.reverse).has k=decide ((k:Int)∈m):=by
    intro m
    induction m with
    | nil=>exact ⟨Bag.zero_ok,fun k _=>by simp [a3h,Bag.zero_has]⟩
    | cons n m ih =>
      rw [List.reverse_cons,b1t]
      refine ⟨Bag.with_ok _ ih.1 _,fun k hk=>?_⟩
      rw [Bag.with_has _ _ _ hk,ih.2 k hk]
      simp
  have h:=this l.reverse
  rw [List.reverse_reverse] at h
  refine ⟨h.1,fun k hk=>?_⟩
  rw [h.2 k hk]
  simp
end
section
open Go.RowKit
attribute [local go_sem ↓] a3k a2F a3j
attribute [local go_sem] a6f a7U a2Y a2R a3q b4B a7w a4N a5x a5N a7N a7J a5Z a3U a4E a9B Bag.cells_length
set_option maxHeartbeats 1000000 in
theorem d1L (A:Option Addr) (n c B:Nat) (l:List Int) (w:World) (hn:l.length=n) (h:Sl w B 1 a4U A l) (hB:B≤w.heap.size) (hl:l.length≤1000000) :
  Calls Tryz.prog 24 #[.slice A n c] w fun e w'=>e=.returned (.agg (a3h l).cells.toArray)∧Below w.heap.size w w':=by
 subst hn
 go_enter Tryz.func24,Tryz.ntmps24
 go_wp2
 go_loopw [8] (fun i wr=>∃ k:Nat,k≤l.length∧i=.int .i64 k∧Blk wr (w.heap.size+1) 72 (a3h (l.take k)).cells.toArray∧(∃ cs,Blk wr w.heap.size 72 cs∧cs.size=4)∧Below w.heap.size w wr) (fun i _=>l.length - (intOf i).toNat)
 case atStart =>
  refine ⟨0,Nat.zero_le _,rfl,?_,⟨_,Blk.new w _ _ |>.alloc _,rfl⟩,(Below.refl _ _).alloc (Nat.le_refl _) _ |>.alloc (by simp) _⟩
  have:=Blk.new (w.alloc (.cells Bag.zero.cells.toArray 72)) 72 Bag.zero.cells.toArray
  rw [World.size_alloc] at this
  exact this
 case round =>
  obtain ⟨k,hk,rfl,h1,⟨cs,h2,h3⟩,hb⟩:=hrel
  have r1:rd wr ⟨w.heap.size+1,0,none⟩ 4=some (a3h (l.take k)).cells:=h1.rd_
  by_cases hlt:k < l.length
  ·obtain ⟨b,o,rfl,hbB⟩:=h.addr (by omega) (by omega)
   have r:wr.cell? ⟨b,o+k,none⟩=some (.int .i64 l[k]):=((h.below (hb.mono hB)).cell1 hlt)
   have hok:=(a1X (l.take k)).1
   have HC:=b8f (a3h (l.take k)) hok l[k]
   have HB:=Lib.hid hb
   have HT:Hid ((a3h (l.take k)).with_ l[k]=a3h (l.take (k+1))):=by
    show _=_
    rw [←b1t,List.take_succ_eq_append_getElem hlt]
   obtain ⟨y,hy⟩:∃ y,(a3h (l.take k)).with_ l[k]=y:=⟨_,rfl⟩
   rw [hy] at HC HT
   have HH:=Lib.hid (And.intro h1 h2)
   clear hb hy h1 h2 hok
   go_wp2_with (go_at_call 53;refine (HC _).mono ?_;rintro e w1 ⟨rfl,hb1⟩;have s1:=a5g (HH.out.1.below hb1 HH.out.1.lt);rw [show (a3h (l.take k)).cells.toArray.size=4 from rfl] at s1)
   go_roundw
   case rel =>
    refine ⟨k+1,by omega,by go_num,?_,⟨cs,?_,h3⟩,?_⟩
    ·have:=(HH.out.1.below hb1 HH.out.1.lt).setRow y.cells.toArray
     rw [←HT.out]
     exact this
    ·exact (HH.out.2.below hb1 HH.out.2.lt).setRow_far (by omega) _
    ·exact a2u (HB.out.trans (hb1.mono HB.out.size)) (by omega) _
   case measure=>simp [intOf];omega
  ·have hk2:k=l.length:=by omega
   subst hk2
   rw [List.take_length] at r1
   have s2:=a5g h2
   rw [h3] at s2
   have HB:=Lib.hid hb
   clear hb h1 h2
   go_wp2
   refine bodyPost_ret (a1K rfl a5V 4 a4s _ _ ⟨w.heap.size,0,none⟩ (a3h l).cells rfl ?_) rfl ?_
   ·exact a5x _ _ _ _ _ rfl s2 rfl
   ·exact ⟨rfl,a2u HB.out (Nat.le_refl _) _⟩
def Bag.len (x:Bag):Nat:=pc 64 x.a+pc 64 x.b+pc 64 x.c+pc 64 x.d
theorem d3c (n x:Nat):pc n x≤n:=by
 rw [←d1c];exact Nat.le_trans (List.length_filter_le _ _) (by simp)
theorem a7s (x:Bag) (k:Nat) (hk:k < 4) (w:World):(Instr.index 70 (.agg x.cells.toArray) (.int .i64 k)).run Tryz.prog w=.ok (.int .u64 (x.word k)) w:=by
 rcases q4 hk with rfl | rfl | rfl | rfl <;> simp [Instr.index,asIntOf,run_underlying Tryz.underlying70,part,go_sem,Bag.cells,Bag.word]
end
section
open Go.RowKit Go.Shelf
attribute [local go_sem ↓] a3k a2F a3j
attribute [local go_sem] a6f a7U a2Y a2R a3q b4B a7w a4N a5x a5N a7N a7J a5Z a3U a4E a9B Bag.cells_length
attribute [local go_sem] Oper.semAt_some
def b5B (k:Nat) (l:List Nat):List Int:=l.map fun j=>((64 * k+j:Nat):Int)
def Bag.part (x:Bag):Nat→List Int | 0=>[] | k+1=>x.part k++b5B k (a5A (x.word k))
def Bag.list (x:Bag):List Int:=x.part 4
attribute [local irreducible] a5A
attribute [irreducible] b5B Bag.list
end
section
open Go.RowKit
theorem c8O:Elem Tryz.prog 23 3 1 8 :=
 ⟨Tryz.underlying23,b3w (z:=.int .i64 0) (by kernel_rfl) rfl,by omega,by omega⟩
theorem c2Z (x:Int):∀ u∈a4U x,u.oneCell'=true:=by intro u hu;simp [a4U] at hu;subst hu;rfl
set_option maxHeartbeats 400000 in
theorem b4i (A:Option Addr) (n c B:Nat) (l:List Int) (x:Int) (w:World) (hn:l.length=n) (h:Sl w B 1 a4U A l) (hl:l.length≤1000000) :
  Calls Tryz.prog 72 #[.slice A n c,.int .i64 x] w fun e w'=>e=.returned (.bool (decide (x∈l)))∧w=w':=by
 subst hn
 go_enter Tryz.func72,Tryz.ntmps72
 go_wp2
 go_loop [5] (fun i=>∃ k:Nat,k≤l.length∧i=.int .i64 k∧Hid (¬ x∈l.take k)) (fun i=>l.length - (intOf i).toNat)
 case atStart=>exact ⟨0,Nat.zero_le _,rfl,by show ¬ _;simp⟩
 case round =>
  obtain ⟨k,hk,rfl,HE⟩:=hrel
  by_cases hlt:k < l.length
  ·obtain ⟨b,o,rfl,_⟩:=h.addr (by omega) (by omega)
   have r:w.cell? ⟨b,o+k,none⟩=some (.int .i64 l[k]):=h.cell1 hlt
   by_cases he:l[k]=x
   ·have hd:decide (x∈l)=true:=by
     simp only [decide_eq_true_eq];rw [←he];exact List.getElem_mem _
    go_wp2
    go_ret
    exact ⟨rfl,rfl⟩
   ·have HN:=Lib.hid he
    go_wp2
    go_round
    case rel =>
     refine ⟨k+1,by omega,by go_num,?_⟩
     show ¬ _
     rw [List.take_succ_eq_append_getElem hlt]
     have h1:=HE.out
     have h2:=HN.out
     simp only [List.mem_append,List.mem_singleton,not_or]
     exact ⟨h1,fun e=>h2 e.symm⟩
    case measure=>simp [intOf];omega
  ·have hd:decide (x∈l)=false:=by
    have h1:=HE.out
    rw [List.take_of_length_le (by omega)] at h1
    simpa using h1
   go_wp2
   go_ret
   exact ⟨rfl,rfl⟩
def a2B (l:List Int) (k:Nat):List Int:=((List.range k).filter (fun j:Nat=>decide ((j:Int)∈l))).map (fun j:Nat=>(j:Int))
theorem a9x (l:List Int) (k:Nat):a2B l (k+1)=if (k:Int)∈l then a2B l k++[(k:Int)] else a2B l k:=by
 unfold a2B
 rw [List.range_succ,List.filter_append,List.map_append]
 by_cases h:(k:Int)∈l <;> simp [List.filter_cons,h]
theorem c0a (l:List Int) (k:Nat):(a2B l k).length≤k:=by
 unfold a2B
 rw [List.length_map]
 exact Nat.le_trans (List.length_filter_le _ _) (by simp)
theorem a9u (l:List Int):a2B l 0=[]:=rfl
attribute [irreducible] a2B
set_option maxHeartbeats 1000000 in
set_option maxRecDepth 100000 in
theorem b9c (A:Option Addr) (n c B:Nat) (l:List Int) (w:World) (hn:l.length=n) (h:Sl w B 1 a4U A l) (hB:B≤w.heap.size) (hl:l.length≤1000000) :
  Calls Tryz.prog 64 #[.slice A n c] w (a3V 3 1 a4U w (a2B l 256)):=by
 subst hn
 go_enter Tryz.func64,Tryz.ntmps64
 go_wp2
 go_loopw [3,4] (fun v i wr=>∃ k m:Nat,∃ A' c',k≤256∧i=.int .i64 k∧v=.slice A' m c'∧m=(a2B l k).length∧Own wr w.heap.size 3 1 a4U (.slice A' m c') (a2B l k)∧Below w.heap.size w wr) (fun _ i _=>256 - (intOf i).toNat)
 case atStart=>exact ⟨0,0,none,0,by omega,rfl,rfl,by rw [a9u];rfl,by rw [a9u];exact Own.nil _ _ _ c2V,Below.refl _ _⟩
 case round =>
  obtain ⟨k,m,A',c',hk,rfl,rfl,hm,ho,hb⟩:=hrel
  have hmk:=c0a l k
  rw [←hm] at hmk
  have HM:=Lib.hid hm
  have HO:=Lib.hid ho
  have HB:=Lib.hid hb
  have HS:=h.below (hb.mono hB)
  have hsz:=hb.size
  clear hm ho hb
  by_cases hlt:k < 256
  ·have HC:=fun W hW=>b4i A l.length c B l k W rfl hW hl
   by_cases he:(k:Int)∈l
   ·have hd:decide ((k:Int)∈l)=true:=by simpa using he
    rw [hd] at HC
    have HL:Hid (a2B l (k+1)=a2B l k++[(k:Int)]):=by show _=_;rw [a9x,if_pos he]
    clear he hd
    go_wp2_with (first
     | (go_at_call 72;refine (HC _ HS).mono ?_;rintro e w1 ⟨rfl,rfl⟩)
     | (at_builtin;refine a5w rfl (.tmp 12) (.tmp 14) 23 rfl c8O w.heap.size a4U c2Z (.slice A' m c') (a2B l k) m HM.out.symm rfl (HO.out.alloc _) (wr.heap.size+1) (some ⟨wr.heap.size,0,none⟩) 1 1 [(k:Int)] rfl rfl (Sl.new wr a4U 1 c2V 3 (k:Int)) (by omega) (by simp;omega) ?_;intro A2 c2 w2 ho2 hg2 _;have HO2:=Lib.hid ho2;have HG2:=Lib.hid hg2;clear ho2 hg2))
    go_roundw
    case rel =>
     refine ⟨k+1,m+1,A2,c2,by omega,by go_num,rfl,by rw [HL.out,List.length_append,←HM.out];rfl,by rw [HL.out];exact HO2.out,?_⟩
     exact (HO.out.alloc _).below_grown (HB.out.alloc (by omega) _) HG2.out (Nat.le_refl _) (by simp;omega)
    case measure=>simp [intOf];omega
   ·have hd:decide ((k:Int)∈l)=false:=by simpa using he
    rw [hd] at HC
    have HL:Hid (a2B l (k+1)=a2B l k):=by show _=_;rw [a9x,if_neg he]
    clear he hd
    go_wp2_with (go_at_call 72;refine (HC _ HS).mono ?_;rintro e w1 ⟨rfl,rfl⟩)
    go_roundw
    case rel=>exact ⟨k+1,m,A',c',by omega,by go_num,rfl,by rw [HL.out];exact HM.out,by rw [HL.out];exact HO.out,HB.out⟩
    case measure=>simp [intOf];omega
  ·have hk2:k=256:=by omega
   subst hk2
   go_wp2
   go_ret
   exact a3V.of HM.out.symm rfl HO.out HB.out
end
section
open Go.RowKit Go.Shelf
attribute [local go_sem ↓] a3k a2F a3j
attribute [local go_sem] a6f a7U a2Y a2R a3q b4B a7w a4N a5x a5N a7N a7J a5Z a3U a4E a9B Bag.cells_length
attribute [local go_sem] Oper.semAt_some
theorem a3a (x:Bag):x.list.length≤256:=by
  have key:∀ k,(x.part k).length≤64 * k:=by
    intro k
    induction k with
    | zero=>simp [Bag.part]
    | succ k ih =>
      show (x.part k++b5B k (a5A (x.word k))).length≤_
      have h1:(b5B k (a5A (x.word k))).length≤64:=by
        unfold b5B;rw [List.length_map,b5X];exact d3c 64 _
      rw [List.length_append];omega
  have:=key 4
  unfold Bag.list
  omega
end
section
theorem Bag.part_eq (x:Bag):∀ k,x.part k=((List.range (64 * k)).filter x.has).map (fun j:Nat=>(j:Int)):=by
  intro k
  induction k with
  | zero=>rfl
  | succ k ih =>
    show x.part k++b5B k (a5A (x.word k))=_
    rw [ih,Nat.mul_succ,List.range_add,List.filter_append,List.map_append,List.filter_map,List.map_map]
    congr 1
    unfold b5B a5A
    have:List.filter (x.has∘fun j=>64 * k+j) (List.range 64)=List.filter (fun j=>(x.word k).testBit j) (List.range 64):=by
      apply List.filter_congr
      intro j hj
      simp only [List.mem_range] at hj
      exact x.has_at k j hj
    rw [this]
    rfl
theorem Bag.list_eq (x:Bag):x.list=((List.range 256).filter x.has).map (fun j:Nat=>(j:Int)):=by
 unfold Bag.list;exact x.part_eq 4
theorem b8S (l:List Int):(a3h l).list=a2B l 256:=by
 rw [Bag.list_eq]
 unfold a2B
 congr 1
 apply List.filter_congr
 intro k hk
 exact (a1X l).2 k (List.mem_range.1 hk)
theorem Bag.mem_list (x:Bag) (k:Nat) (hk:k < 256):((k:Int)∈x.list)↔x.has k=true:=by
 rw [Bag.list_eq,List.mem_map]
 constructor
 ·rintro ⟨j,hj,e⟩
  have:j=k:=by omega
  subst this
  exact (List.mem_filter.1 hj).2
 ·intro h
  exact ⟨k,List.mem_filter.2 ⟨List.mem_range.2 hk,h⟩,rfl⟩
theorem c3M (a b:Nat) (ha:a < 18446744073709551616) (hb:b < 18446744073709551616) (h:∀ j,j < 64→a.testBit j=b.testBit j):a=b:=by
 apply Nat.eq_of_testBit_eq
 intro j
 by_cases hj:j < 64
 ·exact h j hj
 ·have h2:(2:Nat) ^ 64≤2 ^ j:=Nat.pow_le_pow_right (by omega) (by omega)
  rw [Nat.testBit_lt_two_pow (Nat.lt_of_lt_of_le (by simpa using ha) h2),Nat.testBit_lt_two_pow (Nat.lt_of_lt_of_le (by simpa using hb) h2)]
theorem Bag.ext_has (x y:Bag) (hx:x.ok) (hy:y.ok) (h:∀ k,k < 256→x.has k=y.has k):x=y:=by
 have key:∀ q,q < 4→x.word q=y.word q:=fun q hq=>c3M _ _ (x.word_lt hx q) (y.word_lt hy q) fun j hj=>by
  have:=h (64 * q+j) (by omega)
  rwa [x.has_at q j hj,y.has_at q j hj] at this
 have h0:=key 0 (by omega);have h1:=key 1 (by omega);have h2:=key 2 (by omega);have h3:=key 3 (by omega)
 cases x;cases y
 simp only [Bag.word] at h0 h1 h2 h3
 simp only [Bag.mk.injEq]
 exact ⟨h0,h1,h2,h3⟩
theorem Bag.ext_list (x y:Bag) (hx:x.ok) (hy:y.ok) (h:x.list=y.list):x=y :=
 x.ext_has y hx hy fun k hk=>by
  have h1:=x.mem_list k hk
  have h2:=y.mem_list k hk
  rw [h] at h1
  exact Bool.eq_iff_iff.2 (h1.symm.trans h2)
theorem b6w (l:List Int):a2B l 256=(a3h l).list:=(b8S l).symm
theorem Bag.of_list (x:Bag) (hx:x.ok):a3h x.list=x :=
 Bag.ext_has _ _ (a1X _).1 hx fun k hk=>by
  rw [(a1X x.list).2 k hk]
  have:=x.mem_list k hk
  by_cases h:x.has k=true
  ·rw [h];simpa using this.2 h
  ·have h2:¬ ((k:Int)∈x.list):=fun e=>h (this.1 e)
   simp only [Bool.not_eq_true] at h
   rw [h];simpa using h2
end
section
open Go.RowKit
attribute [local go_sem ↓] a3k a2F a3j
attribute [local go_sem] a6f a7U a2Y a2R a3q b4B a7w a4N a5x a5N a7N a7J a5Z a3U a4E a9B Bag.cells_length
def Bag.mix (f:Nat→Nat→Nat) (x y:Bag) (k:Nat):Bag:=⟨if 0 < k then f x.a y.a else x.a,if 1 < k then f x.b y.b else x.b,if 2 < k then f x.c y.c else x.c,if 3 < k then f x.d y.d else x.d⟩
theorem b6J (f:Nat→Nat→Nat) (x y:Bag) (k:Nat) (hk:k < 4):(x.mix f y k).cells.toArray[k]?=some (.int .u64 (x.word k)):=by
 rcases q4 hk with rfl | rfl | rfl | rfl <;> rfl
theorem c2u (f:Nat→Nat→Nat) (x y:Bag) (k:Nat) (hk:k < 4):(x.mix f y k).cells.toArray.setIfInBounds k (.int .u64 (f (x.word k) (y.word k):Nat))=(x.mix f y (k+1)).cells.toArray:=by
 rcases q4 hk with rfl | rfl | rfl | rfl <;> rfl
def orF (a b:Nat):Nat:=a ||| b
def a7P (a b:Nat):Nat:=a &&& b
theorem b7H (a b:Nat) (ha:a < 18446744073709551616) (hb:b < 18446744073709551616):orF a b < 18446744073709551616:=Nat.or_lt_two_pow (n:=64) ha hb
theorem d1h (x y:Bag) (hx:x.ok) (hy:y.ok):(x.mix orF y 4).ok:=by
 obtain ⟨h1,h2,h3,h4⟩:=hx
 obtain ⟨g1,g2,g3,g4⟩:=hy
 exact ⟨b7H _ _ h1 g1,b7H _ _ h2 g2,b7H _ _ h3 g3,b7H _ _ h4 g4⟩
theorem d1D (a b:Nat) (ha:a < 18446744073709551616) (hb:b < 18446744073709551616) (w:World):Calls Tryz.prog 70 #[.int .u64 a,.int .u64 b] w fun e w'=>e=.returned (.int .u64 (orF a b:Nat))∧w=w':=by
 have hb:bits .or .u64 (a:Int) (b:Int)=((orF a b:Nat):Int):=bits_or_u64_nat a b ha hb
 go_enter Tryz.func70,Tryz.ntmps70
 go_wp2
 go_ret
 exact ⟨rfl,rfl⟩
set_option maxHeartbeats 1000000 in
theorem c3E (x y:Bag) (hx:x.ok) (hy:y.ok) (w:World):Calls Tryz.prog 69 #[.agg x.cells.toArray,.agg y.cells.toArray,.func (.func 70) #[] #[]] w fun e w' =>
  e=.returned (.agg (x.mix orF y 4).cells.toArray)∧Below w.heap.size w w':=by
 go_enter Tryz.func69,Tryz.ntmps69
 go_wp2
 go_loopw [11] (fun i wr=>∃ k:Nat,k≤4∧i=.int .i64 k∧Blk wr w.heap.size 72 (x.mix orF y k).cells.toArray∧(∃ cs,Blk wr (w.heap.size+1+1) 72 cs∧cs.size=4)∧Below w.heap.size w wr) (fun i _=>4 - (intOf i).toNat)
 case atStart =>
  refine ⟨0,by omega,rfl,((Blk.new w _ _).alloc _).alloc _,⟨Bag.zero.cells.toArray,?_,rfl⟩,(((Below.refl _ _).alloc (Nat.le_refl _) _).alloc (by simp) _).alloc (by simp;omega) _⟩
  have:=Blk.new ((w.alloc (.cells x.cells.toArray 72)).alloc (.cells y.cells.toArray 72)) 72 Bag.zero.cells.toArray
  rw [World.size_alloc,World.size_alloc] at this
  exact this
 case round =>
  obtain ⟨k,hk,rfl,h1,⟨cs,h2,h3⟩,hb⟩:=hrel
  by_cases hlt:k < 4
  ·have hi:=a7s y k hlt
   have hc:wr.cell? ⟨w.heap.size,k,none⟩=some (.int .u64 (x.word k)):=by rw [h1.cell k];exact b6J orF x y k hlt
   have hf:=h1.frozen k
   have HD:=d1D (x.word k) (y.word k) (x.word_lt hx k) (y.word_lt hy k)
   have HS:=Lib.hid (c2u orF x y k hlt)
   have HH:=Lib.hid (And.intro h1 h2)
   have HB:=Lib.hid hb
   have H3:=Lib.hid h3
   obtain ⟨r,hr⟩:∃ r,orF (x.word k) (y.word k)=r:=⟨_,rfl⟩
   rw [hr] at HD HS
   clear h1 h2 hb h3 hr
   go_wp2_with (go_at_call 70;refine (HD _).mono ?_;rintro e w' ⟨rfl,rfl⟩)
   go_roundw
   case rel =>
    refine ⟨k+1,by omega,by go_num,?_,⟨cs,HH.out.2.far (by simp;omega) _,H3.out⟩,HB.out.setCell (by simp) _⟩
    rw [←HS.out]
    exact HH.out.1.set_ k _
   case measure=>simp [intOf];omega
  ·obtain rfl:k=4:=by omega
   have r1:rd wr ⟨w.heap.size,0,none⟩ 4=some (x.mix orF y 4).cells:=h1.rd_
   have s2:=a5g h2
   rw [h3] at s2
   have HB:=Lib.hid hb
   clear hb h1 h2
   go_wp2
   refine bodyPost_ret (a1K rfl a5V 4 a4s _ _ ⟨w.heap.size+1+1,0,none⟩ (x.mix orF y 4).cells rfl ?_) rfl ?_
   ·exact a5x _ _ _ _ _ rfl s2 rfl
   ·exact ⟨rfl,a2u HB.out (by omega) _⟩
set_option maxHeartbeats 1000000 in
theorem d0R (x y:Bag) (hx:x.ok) (hy:y.ok) (w:World):Calls Tryz.prog 39 #[.agg x.cells.toArray,.agg y.cells.toArray] w fun e w'=>e=.returned (.agg (x.mix orF y 4).cells.toArray)∧Below w.heap.size w w':=by
 have HC:=c3E x y hx hy
 obtain ⟨z,hz⟩:∃ z,x.mix orF y 4=z:=⟨_,rfl⟩
 rw [hz] at HC ⊢
 clear hz
 have hB0:Below w.heap.size w (((w.alloc (.cells x.cells.toArray 72)).alloc (.cells y.cells.toArray 72)).alloc (.cells Bag.zero.cells.toArray 72)):=(((Below.refl _ w).alloc (Nat.le_refl _) _).alloc (by simp) _).alloc (by simp;omega) _
 have hblk:Blk (((w.alloc (.cells x.cells.toArray 72)).alloc (.cells y.cells.toArray 72)).alloc (.cells Bag.zero.cells.toArray 72)) (w.heap.size+1+1) 72 Bag.zero.cells.toArray:=by
  have:=Blk.new ((w.alloc (.cells x.cells.toArray 72)).alloc (.cells y.cells.toArray 72)) 72 Bag.zero.cells.toArray
  rw [World.size_alloc,World.size_alloc] at this
  exact this
 have HB0:=Lib.hid hB0
 have HK:=Lib.hid hblk
 clear hB0 hblk
 go_enter Tryz.func39,Tryz.ntmps39
 go_wp2_with (go_at_call 69;refine (HC _).mono ?_;rintro e w1 ⟨rfl,hb1⟩;have s1:=a5g (HK.out.below hb1 HK.out.lt);rw [show Bag.zero.cells.toArray.size=4 from rfl] at s1;have HB1:=Lib.hid hb1;clear hb1)
 refine bodyPost_ret (a1K rfl a5V 4 a4s _ _ ⟨w.heap.size+1+1,0,none⟩ z.cells rfl ?_) rfl ?_
 ·exact a5x _ _ _ _ _ rfl s1 rfl
 ·exact ⟨rfl,a2u (HB0.out.trans (HB1.out.mono (by simp;omega))) (by omega) _⟩
theorem b2B (a b:Nat) (ha:a < 18446744073709551616) (hb:b < 18446744073709551616):a7P a b < 18446744073709551616:=Nat.lt_of_le_of_lt Nat.and_le_left ha
theorem c8A (x y:Bag) (hx:x.ok) (hy:y.ok):(x.mix a7P y 4).ok:=by
 obtain ⟨h1,h2,h3,h4⟩:=hx
 obtain ⟨g1,g2,g3,g4⟩:=hy
 exact ⟨b2B _ _ h1 g1,b2B _ _ h2 g2,b2B _ _ h3 g3,b2B _ _ h4 g4⟩
theorem c7S (a b:Nat) (ha:a < 18446744073709551616) (hb:b < 18446744073709551616) (w:World):Calls Tryz.prog 123 #[.int .u64 a,.int .u64 b] w fun e w'=>e=.returned (.int .u64 (a7P a b:Nat))∧w=w':=by
 have hb:bits .and .u64 (a:Int) (b:Int)=((a7P a b:Nat):Int):=bits_and_u64_nat a b ha hb
 go_enter Tryz.func123,Tryz.ntmps123
 go_wp2
 go_ret
 exact ⟨rfl,rfl⟩
set_option maxHeartbeats 1000000 in
theorem c0h (x y:Bag) (hx:x.ok) (hy:y.ok) (w:World):Calls Tryz.prog 69 #[.agg x.cells.toArray,.agg y.cells.toArray,.func (.func 123) #[] #[]] w fun e w' =>
  e=.returned (.agg (x.mix a7P y 4).cells.toArray)∧Below w.heap.size w w':=by
 go_enter Tryz.func69,Tryz.ntmps69
 go_wp2
 go_loopw [11] (fun i wr=>∃ k:Nat,k≤4∧i=.int .i64 k∧Blk wr w.heap.size 72 (x.mix a7P y k).cells.toArray∧(∃ cs,Blk wr (w.heap.size+1+1) 72 cs∧cs.size=4)∧Below w.heap.size w wr) (fun i _=>4 - (intOf i).toNat)
 case atStart =>
  refine ⟨0,by omega,rfl,((Blk.new w _ _).alloc _).alloc _,⟨Bag.zero.cells.toArray,?_,rfl⟩,(((Below.refl _ _).alloc (Nat.le_refl _) _).alloc (by simp) _).alloc (by simp;omega) _⟩
  have:=Blk.new ((w.alloc (.cells x.cells.toArray 72)).alloc (.cells y.cells.toArray 72)) 72 Bag.zero.cells.toArray
  rw [World.size_alloc,World.size_alloc] at this
  exact this
 case round =>
  obtain ⟨k,hk,rfl,h1,⟨cs,h2,h3⟩,hb⟩:=hrel
  by_cases hlt:k < 4
  ·have hi:=a7s y k hlt
   have hc:wr.cell? ⟨w.heap.size,k,none⟩=some (.int .u64 (x.word k)):=by rw [h1.cell k];exact b6J a7P x y k hlt
   have hf:=h1.frozen k
   have HD:=c7S (x.word k) (y.word k) (x.word_lt hx k) (y.word_lt hy k)
   have HS:=Lib.hid (c2u a7P x y k hlt)
   have HH:=Lib.hid (And.intro h1 h2)
   have HB:=Lib.hid hb
   have H3:=Lib.hid h3
   obtain ⟨r,hr⟩:∃ r,a7P (x.word k) (y.word k)=r:=⟨_,rfl⟩
   rw [hr] at HD HS
   clear h1 h2 hb h3 hr
   go_wp2_with (go_at_call 123;refine (HD _).mono ?_;rintro e w' ⟨rfl,rfl⟩)
   go_roundw
   case rel =>
    refine ⟨k+1,by omega,by go_num,?_,⟨cs,HH.out.2.far (by simp;omega) _,H3.out⟩,HB.out.setCell (by simp) _⟩
    rw [←HS.out]
    exact HH.out.1.set_ k _
   case measure=>simp [intOf];omega
  ·obtain rfl:k=4:=by omega
   have r1:rd wr ⟨w.heap.size,0,none⟩ 4=some (x.mix a7P y 4).cells:=h1.rd_
   have s2:=a5g h2
   rw [h3] at s2
   have HB:=Lib.hid hb
   clear hb h1 h2
   go_wp2
   refine bodyPost_ret (a1K rfl a5V 4 a4s _ _ ⟨w.heap.size+1+1,0,none⟩ (x.mix a7P y 4).cells rfl ?_) rfl ?_
   ·exact a5x _ _ _ _ _ rfl s2 rfl
   ·exact ⟨rfl,a2u HB.out (by omega) _⟩
set_option maxHeartbeats 1000000 in
theorem c7T (x y:Bag) (hx:x.ok) (hy:y.ok) (w:World):Calls Tryz.prog 103 #[.agg x.cells.toArray,.agg y.cells.toArray] w fun e w'=>e=.returned (.agg (x.mix a7P y 4).cells.toArray)∧Below w.heap.size w w':=by
 have HC:=c0h x y hx hy
 obtain ⟨z,hz⟩:∃ z,x.mix a7P y 4=z:=⟨_,rfl⟩
 rw [hz] at HC ⊢
 clear hz
 have hB0:Below w.heap.size w (((w.alloc (.cells x.cells.toArray 72)).alloc (.cells y.cells.toArray 72)).alloc (.cells Bag.zero.cells.toArray 72)):=(((Below.refl _ w).alloc (Nat.le_refl _) _).alloc (by simp) _).alloc (by simp;omega) _
 have hblk:Blk (((w.alloc (.cells x.cells.toArray 72)).alloc (.cells y.cells.toArray 72)).alloc (.cells Bag.zero.cells.toArray 72)) (w.heap.size+1+1) 72 Bag.zero.cells.toArray:=by
  have:=Blk.new ((w.alloc (.cells x.cells.toArray 72)).alloc (.cells y.cells.toArray 72)) 72 Bag.zero.cells.toArray
  rw [World.size_alloc,World.size_alloc] at this
  exact this
 have HB0:=Lib.hid hB0
 have HK:=Lib.hid hblk
 clear hB0 hblk
 go_enter Tryz.func103,Tryz.ntmps103
 go_wp2_with (go_at_call 69;refine (HC _).mono ?_;rintro e w1 ⟨rfl,hb1⟩;have s1:=a5g (HK.out.below hb1 HK.out.lt);rw [show Bag.zero.cells.toArray.size=4 from rfl] at s1;have HB1:=Lib.hid hb1;clear hb1)
 refine bodyPost_ret (a1K rfl a5V 4 a4s _ _ ⟨w.heap.size+1+1,0,none⟩ z.cells rfl ?_) rfl ?_
 ·exact a5x _ _ _ _ _ rfl s1 rfl
 ·exact ⟨rfl,a2u (HB0.out.trans (HB1.out.mono (by simp;omega))) (by omega) _⟩
end
section
set_option maxRecDepth 10000
def bun (x y:Bag):Bag:=x.mix orF y 4
theorem a9M {x y:Bag} (hx:x.ok) (hy:y.ok):(bun x y).ok:=d1h x y hx hy
theorem b2L (x y:Bag) (k:Nat):(bun x y).has k=(x.has k||y.has k):=by
 unfold Bag.has bun
 have:∀ q,(x.mix orF y 4).word q=orF (x.word q) (y.word q):=fun q=>by
  match q with
  | 0=>rfl
  | 1=>rfl
  | 2=>rfl
  | q+3=>rfl
 rw [this]
 unfold orF
 rw [Nat.testBit_or]
theorem c6C {x y:Bag} (h:∀ q,q < 4→x.word q=y.word q):x=y:=by
 cases x;cases y
 have h0:=h 0 omo;have h1:=h 1 omo;have h2:=h 2 omo;have h3:=h 3 omo
 simp only [Bag.word] at h0 h1 h2 h3
 subst h0;subst h1;subst h2;subst h3;rfl
theorem b2N (x y:Bag) (q:Nat) (hq:q < 4):(bun x y).word q=x.word q ||| y.word q:=by
 match q,hq with
 | 0,_=>rfl
 | 1,_=>rfl
 | 2,_=>rfl
 | 3,_=>rfl
theorem b6O (x y:Bag):bun x y=bun y x:=c6C fun q hq=>by rw [b2N _ _ q hq,b2N _ _ q hq,Nat.or_comm]
theorem b4g (x y z:Bag):bun (bun x y) z=bun x (bun y z):=c6C fun q hq=>by simp only [b2N _ _ q hq,Nat.or_assoc]
theorem b0Q (x y z:Bag):bun (bun x y) z=bun (bun x z) y:=by rw [b4g,b6O y z,←b4g]
def a3B (n:Nat):Bag:=Bag.zero.with_ (n:Int)
theorem b3h (n:Nat):(a3B n).ok:=Bag.with_ok _ Bag.zero_ok _
theorem a6q (n k:Nat) (hk:k < 256):(a3B n).has k=decide (k=n):=by
 unfold a3B
 rw [Bag.with_has _ _ _ hk,Bag.zero_has,Bool.or_false]
 exact decide_eq_decide.2 omo
structure Pc where
 first:Bag
 ends:Bag
 empty:Bool
instance:Inhabited Pc:=⟨⟨Bag.zero,Bag.zero,false⟩⟩
def Pc.ok (p:Pc):Prop:=p.first.ok∧p.ends.ok
def Pc.nil:Pc:=⟨Bag.zero,Bag.zero,true⟩
theorem Pc.nil_ok:Pc.nil.ok:=⟨Bag.zero_ok,Bag.zero_ok⟩
def Pc.join (a b:Pc):Pc:=⟨if a.empty then bun a.first b.first else a.first,if b.empty then bun b.ends a.ends else b.ends,a.empty&&b.empty⟩
theorem Pc.join_ok {a b:Pc} (ha:a.ok) (hb:b.ok):(a.join b).ok:=by
 unfold Pc.join Pc.ok
 constructor
 ·dsimp only;split;exact a9M ha.1 hb.1;exact ha.1
 ·dsimp only;split;exact a9M hb.2 ha.2;exact hb.2
abbrev Lk:=Bag×Bag
def a2i (β:Nat→Bag) (q:Lk):Nat→Bag:=fun p=>if q.1.has p=true then bun (β p) q.2 else β p
theorem b8V (β:Nat→Bag) (q r:Lk):a2i (a2i β q) r=a2i (a2i β r) q:=by
 funext p
 unfold a2i
 by_cases h1:q.1.has p=true <;> by_cases h2:r.1.has p=true <;> simp [h1,h2,b0Q]
def links (β:Nat→Bag) (l:List Lk):Nat→Bag:=l.foldl a2i β
theorem a0P (β:Nat→Bag) (l k:List Lk):links β (l++k)=links (links β l) k:=List.foldl_append ..
theorem b8L {l k:List Lk} (h:l.Perm k) (β:Nat→Bag):links β l=links β k:=by
 induction h generalizing β with
 | nil=>rfl
 | cons q _ ih=>exact ih (a2i β q)
 | swap q r l=>show links (a2i (a2i β r) q) l=links (a2i (a2i β q) r) l;rw [b8V]
 | trans _ _ ih1 ih2=>exact (ih1 β).trans (ih2 β)
def Lks (N:Nat) (l:List Lk):Prop:=∀ q∈l,q.1.ok∧q.2.ok∧∀ p,N≤p→p < 256→q.1.has p=false
theorem Lks.app {N:Nat} {l k:List Lk} (h:Lks N l) (h2:Lks N k):Lks N (l++k):=fun q hq=>by
 rcases List.mem_append.1 hq with hq | hq
 ·exact h q hq
 ·exact h2 q hq
theorem Lks.mono {N M:Nat} {l:List Lk} (h:Lks N l) (hM:N≤M):Lks M l:=fun q hq=>⟨(h q hq).1,(h q hq).2.1,fun p hp=>(h q hq).2.2 p (Nat.le_trans hM hp)⟩
theorem a1i {N:Nat}:∀ {l:List Lk} {β:Nat→Bag},Lks N l→(∀ p,(β p).ok)→∀ p,(links β l p).ok
  | [],_,_,h,p=>h p
  | q :: l, β, hl, h, p => a1i (l := l) (β := a2i β q) (fun r hr => hl r (List.mem_cons_of_mem _ hr)) (fun p => by
    have:=hl q (List.mem_cons_self ..)
    unfold a2i;split
    · exact a9M (h p) this.2.1
    · exact h p) p
theorem a2S {N:Nat}:∀ {l:List Lk} {β:Nat→Bag},Lks N l→(∀ p,N≤p→p < 256→β p=Bag.zero)→∀ p,N≤p→p < 256→links β l p=Bag.zero
  | [],_,_,h,p,hp,h2=>h p hp h2
  | q :: l, β, hl, h, p, hp, h2 => a2S (l := l) (β := a2i β q) (fun r hr => hl r (List.mem_cons_of_mem _ hr)) (fun p hp h2 => by
    unfold a2i;rw [if_neg (by rw [(hl q (List.mem_cons_self ..)).2.2 p hp h2];decide)];exact h p hp h2) p hp h2
def InB (N M:Nat) (x:Bag):Prop:=∀ p,p < 256→x.has p=true→N≤p∧p < M
def Pc.inB (N M:Nat) (p:Pc):Prop:=InB N M p.first∧InB N M p.ends
theorem a3G (N M:Nat):InB N M Bag.zero:=fun p _ h=>by rw [Bag.zero_has] at h;cases h
theorem b4D {N M:Nat} {x y:Bag} (hx:InB N M x) (hy:InB N M y):InB N M (bun x y):=fun p hp h=>by
 rw [b2L,Bool.or_eq_true] at h
 rcases h with h | h
 ·exact hx p hp h
 ·exact hy p hp h
theorem InB.mono {N M N' M':Nat} {x:Bag} (h:InB N M x) (h1:N'≤N) (h2:M≤M'):InB N' M' x:=fun p hq hp=>by have:=h p hq hp;omega
theorem Pc.inB.mono {N M N' M':Nat} {x:Pc} (h:x.inB N M) (h1:N'≤N) (h2:M≤M'):x.inB N' M':=⟨InB.mono h.1 h1 h2,InB.mono h.2 h1 h2⟩
theorem Pc.inB_nil (N M:Nat):Pc.nil.inB N M:=⟨a3G N M,a3G N M⟩
theorem Pc.inB_join {N M:Nat} {a b:Pc} (ha:a.inB N M) (hb:b.inB N M):(a.join b).inB N M:=by
 unfold Pc.join Pc.inB
 constructor
 ·dsimp only;split;exact b4D ha.1 hb.1;exact ha.1
 ·dsimp only;split;exact b4D hb.2 ha.2;exact hb.2
def a0m (lo hi:Int):Nat:=(if hi < 0 then (if 1 > lo then 1 else lo) else hi).toNat
mutual
def T.w:T→Nat
 | .name _=>1
 | .times lo hi t=>t.w * a0m lo hi
 | .many _ ts=>T.wL ts
def T.wL:List T→Nat
 | []=>0
 | t::ts=>t.w+T.wL ts
end
structure Ly where
 on:List Bag
 lk:List Lk
 pc:Pc
instance:Inhabited Ly:=⟨⟨[],[],default⟩⟩
def a4n (lo hi:Int) (g:Nat→Ly) (many:Nat):Nat→List Bag×List Lk×Pc×List Pc
  | 0=>([],[],Pc.nil,[])
  | k + 1 =>
    let (on,lk,out,rest):=a4n lo hi g many k
    let x:=g k
    let lk1:=lk++x.lk++(if hi < 0∧k+1=many then [(x.pc.ends,x.pc.first)] else [])
    if (k:Int) < lo then (on++x.on,lk1++[(out.ends,x.pc.first)],out.join x.pc,rest) else (on++x.on,lk1,out,rest++[x.pc])
def a2h:List Pc→List Lk×Pc
 | []=>([],Pc.nil)
 | x::r=>((a2h r).1++[(x.ends,(a2h r).2.first)],{ x.join (a2h r).2 with empty:=true })
def a7O (lo hi:Int) (g:Nat→Ly):Ly :=
 let (on,lk,out,rest):=a4n lo hi g (a0m lo hi) (a0m lo hi)
 ⟨on,lk++(a2h rest).1++[(out.ends,(a2h rest).2.first)],out.join (a2h rest).2⟩
mutual
def lay (m:List UInt8→Bag):T→Nat→Ly
 | .name s,N=>⟨[m s],[],⟨a3B N,a3B N,false⟩⟩
 | .times lo hi t,N=>a7O lo hi (fun k=>lay m t (N+k * t.w))
 | .many k ts,N=>if k=3 then a6t m ts N ⟨[],[],default⟩ else a6u m ts N ⟨[],[],Pc.nil⟩
def a6t (m:List UInt8→Bag):List T→Nat→Ly→Ly
 | [],_,a=>a
 | t::ts,N,a=>a6t m ts (N+t.w) ⟨a.on++(lay m t N).on,a.lk++(lay m t N).lk,⟨bun a.pc.first (lay m t N).pc.first,bun a.pc.ends (lay m t N).pc.ends,a.pc.empty||(lay m t N).pc.empty⟩⟩
def a6u (m:List UInt8→Bag):List T→Nat→Ly→Ly
 | [],_,a=>a
 | t::ts,N,a=>a6u m ts (N+t.w) ⟨a.on++(lay m t N).on,a.lk++(lay m t N).lk++[(a.pc.ends,(lay m t N).pc.first)],a.pc.join (lay m t N).pc⟩
end
structure Ly.Ok (N w:Nat) (x:Ly):Prop where
 len:x.on.length=w
 on:∀ b∈x.on,b.ok
 lk:Lks (N+w) x.lk
 pc:x.pc.ok
 inB:x.pc.inB N (N+w)
theorem a5G {N M:Nat} {a b:Bag} (ha:a.ok) (hb:b.ok) (hi:InB N M a):Lks M [(a,b)]:=fun q hq=>by
 rw [List.mem_singleton] at hq;subst hq
 refine ⟨ha,hb,fun p hp h2=>?_⟩
 cases h:a.has p with
 | false=>rfl
 | true=>have:=hi p h2 h;omega
theorem b1E {lo hi:Int} {g:Nat→Ly} {many N w:Nat} (hg:∀ k,k < many→(g k).Ok (N+k * w) w):∀ k,k≤many →
    (a4n lo hi g many k).1.length=k * w∧(∀ b∈(a4n lo hi g many k).1,b.ok)∧Lks (N+k * w) (a4n lo hi g many k).2.1∧(a4n lo hi g many k).2.2.1.ok∧(a4n lo hi g many k).2.2.1.inB N (N+k * w)∧∀ p∈(a4n lo hi g many k).2.2.2,p.ok∧p.inB N (N+k * w)
  | 0,_=>⟨by simp [a4n],fun b hb=>by simp [a4n] at hb,fun q hq=>by simp [a4n] at hq,Pc.nil_ok,Pc.inB_nil _ _,fun p hp=>by simp [a4n] at hp⟩
  | k + 1, h => by
    obtain ⟨h1,h2,h3,h4,h5,h6⟩:=b1E hg k omo
    have hx:=hg k omo
    have e:N+k * w+w=N+(k+1) * w:=by rw [Nat.succ_mul];omega
    have hlk:Lks (N+(k+1) * w) ((a4n lo hi g many k).2.1++(g k).lk++(if hi < 0∧k+1=many then [((g k).pc.ends,(g k).pc.first)] else [])):=by
      refine ((h3.mono omo).app (by rw [←e];exact hx.lk)).app ?_
      split
      · rw [←e];exact a5G hx.pc.2 hx.pc.1 hx.inB.2
      · exact fun q hq=>by cases hq
    have hlen:((a4n lo hi g many k).1++(g k).on).length=(k+1) * w:=by rw [List.length_append,h1,hx.len,Nat.succ_mul]
    have hon:∀ b∈(a4n lo hi g many k).1++(g k).on,b.ok:=fun b hb=>by
      rcases List.mem_append.1 hb with hb | hb
      · exact h2 b hb
      · exact hx.on b hb
    have hin:(g k).pc.inB N (N+(k+1) * w):=hx.inB.mono omo omo
    simp only [a4n]
    split
    · refine ⟨hlen,hon,hlk.app (a5G h4.2 hx.pc.1 (h5.2.mono lrf omo)),Pc.join_ok h4 hx.pc,Pc.inB_join (h5.mono lrf omo) hin,fun p hp=>⟨(h6 p hp).1,(h6 p hp).2.mono lrf omo⟩⟩
    · refine ⟨hlen,hon,hlk,h4,h5.mono lrf omo,fun p hp=>?_⟩
      rcases List.mem_append.1 hp with hp | hp
      · exact ⟨(h6 p hp).1,(h6 p hp).2.mono lrf omo⟩
      · rw [List.mem_singleton] at hp;subst hp;exact ⟨hx.pc,hin⟩
theorem a7c {N M:Nat}:∀ {l:List Pc},(∀ p∈l,p.ok∧p.inB N M)→Lks M (a2h l).1∧(a2h l).2.ok∧(a2h l).2.inB N M
  | [],_=>⟨fun q hq=>by simp [a2h] at hq,Pc.nil_ok,Pc.inB_nil _ _⟩
  | x :: r, h => by
    obtain ⟨h1,h2,h3⟩:=a7c (l:=r) (fun p hp=>h p (List.mem_cons_of_mem _ hp))
    have hx:=h x (List.mem_cons_self ..)
    exact ⟨h1.app (a5G hx.1.2 h2.1 hx.2.2),Pc.join_ok hx.1 h2,Pc.inB_join hx.2 h3⟩
theorem c9s {lo hi:Int} {g:Nat→Ly} {N w:Nat} (hg:∀ k,k < a0m lo hi→(g k).Ok (N+k * w) w):(a7O lo hi g).Ok N (w * a0m lo hi):=by
 obtain ⟨h1,h2,h3,h4,h5,h6⟩:=b1E (lo:=lo) (hi:=hi) hg (a0m lo hi) lrf
 obtain ⟨t1,t2,t3⟩:=a7c h6
 rw [Nat.mul_comm] at h1 h3 h5 t1 t3
 exact ⟨h1,h2,(h3.app t1).app (a5G h4.2 t2.1 h5.2),Pc.join_ok h4 t2,Pc.inB_join h5 t3⟩
theorem b0W:(default:Pc).ok:=⟨Bag.zero_ok,Bag.zero_ok⟩
mutual
theorem a4l {m:List UInt8→Bag} (hm:∀ s,(m s).ok):∀ (t:T) (N:Nat),N+t.w≤256→(lay m t N).Ok N t.w
  | .name s, N, h => by
    simp only [T.w] at h
    refine ⟨rfl,fun b hb=>by simp [lay] at hb;subst hb;exact hm s,fun q hq=>by simp [lay] at hq,⟨b3h N,b3h N⟩,?_⟩
    have:InB N (N+1) (a3B N):=fun p hp h=>by rw [a6q _ _ hp] at h;have:=of_decide_eq_true h;omega
    exact ⟨this,this⟩
  | .times lo hi t, N, h => by
    simp only [T.w] at h ⊢
    refine c9s (fun k hk=>a4l hm t (N+k * t.w) ?_)
    have:(k+1) * t.w≤a0m lo hi * t.w:=Nat.mul_le_mul_right _ hk
    rw [Nat.succ_mul] at this
    rw [Nat.mul_comm] at h
    omega
  | .many k ts, N, h => by
    simp only [T.w] at h
    simp only [lay,T.w]
    split
    · have:=b5M hm ts N N ⟨[],[],default⟩ omo lrf ⟨by simp,fun b hb=>(by cases hb),fun q hq=>(by cases hq),b0W,⟨a3G _ _,a3G _ _⟩⟩
      simpa using this
    · have:=b5N hm ts N N ⟨[],[],Pc.nil⟩ omo lrf ⟨by simp,fun b hb=>(by cases hb),fun q hq=>(by cases hq),Pc.nil_ok,Pc.inB_nil _ _⟩
      simpa using this
theorem b5M {m:List UInt8→Bag} (hm:∀ s,(m s).ok):∀ (ts:List T) (N N0:Nat) (a:Ly),N+T.wL ts≤256→N0≤N→a.Ok N0 (N - N0)→(a6t m ts N a).Ok N0 (N+T.wL ts - N0)
  | [],N,N0,a,h,hn,ha=>by simpa [a6t,T.wL] using ha
  | t :: ts, N, N0, a, h, hn, ha => by
    simp only [T.wL] at h ⊢
    have ht:=a4l hm t N omo
    have e:N+t.w - N0=(N - N0)+t.w:=by omega
    have:=b5M hm ts (N+t.w) N0 ⟨a.on++(lay m t N).on,a.lk++(lay m t N).lk,⟨bun a.pc.first (lay m t N).pc.first,bun a.pc.ends (lay m t N).pc.ends,a.pc.empty||(lay m t N).pc.empty⟩⟩ omo omo
      ⟨by rw [List.length_append,ha.len,ht.len,e],fun b hb=>(List.mem_append.1 hb).elim (ha.on b) (ht.on b),(ha.lk.mono omo).app (ht.lk.mono omo),⟨a9M ha.pc.1 ht.pc.1,a9M ha.pc.2 ht.pc.2⟩,
        ⟨b4D (ha.inB.1.mono lrf omo) (ht.inB.1.mono hn omo),b4D (ha.inB.2.mono lrf omo) (ht.inB.2.mono hn omo)⟩⟩
    rw [show N+(t.w+T.wL ts) - N0=N+t.w+T.wL ts - N0 by omega]
    exact this
theorem b5N {m:List UInt8→Bag} (hm:∀ s,(m s).ok):∀ (ts:List T) (N N0:Nat) (a:Ly),N+T.wL ts≤256→N0≤N→a.Ok N0 (N - N0)→(a6u m ts N a).Ok N0 (N+T.wL ts - N0)
  | [],N,N0,a,h,hn,ha=>by simpa [a6u,T.wL] using ha
  | t :: ts, N, N0, a, h, hn, ha => by
    simp only [T.wL] at h ⊢
    have ht:=a4l hm t N omo
    have e:N+t.w - N0=(N - N0)+t.w:=by omega
    have hae:InB N0 (N0+(N+t.w - N0)) a.pc.ends:=ha.inB.2.mono lrf omo
    have:=b5N hm ts (N+t.w) N0 ⟨a.on++(lay m t N).on,a.lk++(lay m t N).lk++[(a.pc.ends,(lay m t N).pc.first)],a.pc.join (lay m t N).pc⟩ omo omo
      ⟨by rw [List.length_append,ha.len,ht.len,e],fun b hb=>(List.mem_append.1 hb).elim (ha.on b) (ht.on b),((ha.lk.mono omo).app (ht.lk.mono omo)).app (a5G ha.pc.2 ht.pc.1 hae),Pc.join_ok ha.pc ht.pc,
        Pc.inB_join (ha.inB.mono lrf omo) (ht.inB.mono hn omo)⟩
    rw [show N+(t.w+T.wL ts) - N0=N+t.w+T.wL ts - N0 by omega]
    exact this
end
end
section
open Go.RowKit
set_option maxRecDepth 100000
set_option maxHeartbeats 1000000
@[reducible] def a7L (n:Nat):HV:=.imm (.int .u64 (n:Int))
@[reducible] def a3s (x:Bag):Nat→HV:=fun j=>a7L (x.word j)
@[reducible] def bagH (x:Bag):HV:=.agg 4 (a3s x)
@[reducible] def a4C (l:List Int):Nat→Nat→HV:=fun i _=>intV (l.getD i 0)
@[reducible] def a0i (l:List Int):HV:=.sl 1 l.length (a4C l)
theorem b5v {sh:List (Nat×HObj)} {a b:Int} (h:a=b):Fz sh (intV a) (intV b):=by subst h;exact .imm _
theorem a7V {w:World} {E:Env} {v:Value} {x:Bag} (h:Rep w E v (bagH x)):v=.agg x.cells.toArray:=by
  cases h with
  | agg cs _ _ vs hn hv hr =>
    congr 1
    apply Array.ext_getElem?
    intro i
    by_cases hi:i < 4
    · rw [(hv i hi).1]
      have:=(hr i hi).imm_inv
      rw [this]
      match i,hi with
      | 0,_=>rfl
      | 1,_=>rfl
      | 2,_=>rfl
      | 3,_=>rfl
    · rw [Array.getElem?_eq_none omo,Array.getElem?_eq_none (by simp [Bag.cells];omega)]
theorem c8z {w:World} {E:Env} (x:Bag):Rep w E (.agg x.cells.toArray) (bagH x):=.agg _ 4 _ (fun j=>.int .u64 (x.word j)) (by simp [Bag.cells]) (fun i hi=>by
 match i,hi with
 | 0,_=>exact ⟨rfl,rfl⟩
 | 1,_=>exact ⟨rfl,rfl⟩
 | 2,_=>exact ⟨rfl,rfl⟩
 | 3,_=>exact ⟨rfl,rfl⟩) (fun i hi=>.imm _)
theorem a8Y {w w':World} {F:Addr→Prop} {x:Bag} (hF:∀ a,F a→a.spot=none∧(w.cell? a).isSome=true) (hb:Below w.heap.size w w'):a1c w F (bagH x) (.returned (.agg x.cells.toArray)) w' :=
 ⟨hb,_,F,rfl,fun _ h=>h,fun _ h=>.inl h,fun a ha=>⟨(hF a ha).1,by rw [World.cell?_of_block (hb.block _ (a1m (hF a ha).2))];exact (hF a ha).2⟩,c8z x⟩
instance frz_bag (x:Bag):Frz (bagH x):=⟨.agg _ _ _ fun _ _=>.imm _⟩
instance frz_bagp (x:Bag):Frz (.fp 4 (a3s x)):=⟨.fp _ _ lrf _ _ fun _ _=>.imm _⟩
instance frz_fny (f:Fn) (c:Nat→HV):Frz (.fn f 0 c):=⟨.fn _ 0 _ _ (fun i hi=>absurd hi (Nat.not_lt_zero _))⟩
instance frz_iList (l:List Int):Frz (a0i l):=⟨.sl _ _ _ _ fun _ _ _ _=>.imm _⟩
theorem c6z (x:Bag) (hx:x.ok) (n:Int):HPure Tryz.prog 53 [bagH x,intV n] (bagH (x.with_ n)):=by
 refine ⟨⟨_,_,Tryz.func53,rfl,by kernel_rfl⟩,fun w F vs hF hr hw=>?_⟩
 obtain ⟨u,v,rfl,hu,hv⟩:=c9f hr
 rw [a7V hu,hv.imm_inv]
 refine (b8f x hx n w).mono ?_
 rintro e w' ⟨rfl,hb⟩
 exact a8Y hF hb
theorem c8r (x y:Bag) (hx:x.ok) (hy:y.ok):HPure Tryz.prog 39 [bagH x,bagH y] (bagH (bun x y)):=by
 refine ⟨⟨_,_,Tryz.func39,rfl,by kernel_rfl⟩,fun w F vs hF hr hw=>?_⟩
 obtain ⟨u,v,rfl,hu,hv⟩:=c9f hr
 rw [a7V hu,a7V hv]
 refine (d0R x y hx hy w).mono ?_
 rintro e w' ⟨rfl,hb⟩
 exact a8Y hF hb
theorem d3i (x y:Bag) (hx:x.ok) (hy:y.ok):HPure Tryz.prog 103 [bagH x,bagH y] (bagH (x.mix a7P y 4)):=by
 refine ⟨⟨_,_,Tryz.func103,rfl,by kernel_rfl⟩,fun w F vs hF hr hw=>?_⟩
 obtain ⟨u,v,rfl,hu,hv⟩:=c9f hr
 rw [a7V hu,a7V hv]
 refine (c7T x y hx hy w).mono ?_
 rintro e w' ⟨rfl,hb⟩
 exact a8Y hF hb
theorem d3t (l:List Int) (hl:l.length≤1000000):HPure Tryz.prog 24 [a0i l] (bagH (a3h l)):=by
 refine ⟨⟨_,_,Tryz.func24,rfl,by kernel_rfl⟩,fun w F vs hF hr hw=>?_⟩
 obtain ⟨v,rfl,hv⟩:=d0G hr
 obtain ⟨A,c,rfl,hc,hm,hs⟩:=b8C 1 a4U (fun _=>rfl) (fun x _=>intV x) (fun x j hj=>by obtain rfl:j=0:=omo;rfl) 0 l hv
 refine (d1L A l.length c w.heap.size l w rfl hs lrf hl).mono ?_
 rintro e w' ⟨rfl,hb⟩
 exact a8Y hF hb
theorem c7P {w:World} (hw:LibW w):c1P w∧0 < w.heap.size:=by
 have h2:=hw.dbt (by unfold hasLib;kernel_rfl)
 have hn:Tryz.prog.globalNamed "math/bits.deBruijn64tab" = some 0:=by kernel_rfl
 refine ⟨fun j hj=>?_,hw.ok _ ⟨_,by simp [a3I],hn⟩⟩
 have:=h2.cell hn j (by simpa [Lib.deBruijn64tab] using hj)
 rw [this]
 simp only [List.getD_eq_getElem?_getD,List.getElem?_map]
 cases Lib.deBruijn64tab[j]? <;> rfl
theorem d3M (y:Nat) (hy:y < 18446744073709551616) (h0:y≠0):HPure Tryz.prog 68 [a7L y] (intV (Lib.ctz 64 y)):=by
 refine ⟨⟨_,_,Tryz.func68,rfl,by kernel_rfl⟩,fun w F vs hF hr hw=>?_⟩
 obtain ⟨v,rfl,hv⟩:=d0G hr
 rw [hv.imm_inv]
 refine (a8b y hy h0 w (c7P hw).1).mono ?_
 rintro e w' ⟨rfl,rfl⟩
 exact a7d hF (Below.refl _ _)
theorem c2H (x:Bag):HPure Tryz.prog 38 [bagH x] (.fn (.func 67) 1 (fun i=>[HV.fp 4 (a3s x)].getD i default)):=by
 refine a0k Tryz.func38 rfl kr _ _ _ rfl 4 rfl rfl (fun w F=>?_)
 refine ru 13 ?_
 refine a5q rfl (a0f rfl) [(1,_)] rfl (a0h rfl pre0) ?_
 exact .fn _ _ _ _ (fun i hi=>by obtain rfl:i=0:=(by simpa using hi);exact .pt 1 0 0 0 4 _ (a3s x) (List.mem_cons_self ..) rfl (Nat.lt_succ_self 0) (Nat.le_refl 4) (fun j hj=>by show Fz _ (a3s x (0+j)) (a3s x j);rw [Nat.zero_add];exact .imm _))
def d3w (P:Program) (T:TypeId):Option Nat:=match P.underlying T with
  | some (.array len e) => match tyOf P e with
    | some (false,1)=>some len
    | _=>none
  | _=>none
section
variable {P:Program} {ov:Nat→Option HV} {g:Nat} {d:Option Tmp} {ty T:TypeId} {pos:String} {af:Array Edge} {x y:Operand} {gd:Option (Nat×Bool)}
theorem b8U {n:Nat} {f:Nat→HV} {k:IntKind} {i:Int} (hT:d3w P T=some n) (h1:ovl ov x=some (.agg n f)) (h2:ovl ov y=some (.imm (.int k i))) (hi0:0≤i) (hi:i < (n:Int)) :
    HOp P ⟨d,.index T x y,ty,pos,af,gd⟩ ov g [] (f i.toNat) [] :=
  a0t fun w E ρ hr=>by
    have e1:=hr x _ smo h1
    have e2:=Rep.imm_inv (hr y _ smo h2)
    unfold d3w at hT
    split at hT
    · rename_i len' e hu
      split at hT
      · rename_i ht
        injection hT with hT
        subst hT
        generalize hv:ρ x=v at e1
        cases e1 with
        | agg cs _ _ vs hn hc hrep =>
          refine ⟨vs i.toNat,?_,hrep _ omo⟩
          have hcs:=(hc i.toNat omo).1
          simp [execOp,hv,e2,Instr.index,asIntOf,run_underlying hu,hi0,hi,part,(a3f ht).1,(a3f ht).2.1,hcs]
      · cases hT
    · cases hT
end
theorem c5v (x:Bag) (k:Nat) (hk:k < 4):(x.part (k+1)).length=(x.part k).length+(a5A (x.word k)).length:=by
 show (x.part k++b5B k (a5A (x.word k))).length=_
 rw [List.length_append];simp [b5B]
theorem b7d (x:Bag):∀ k m,m≤k→∃ r,x.part k=x.part m++r
  | 0,m,h=>⟨[],by obtain rfl:m=0:=omo;simp⟩
  | k + 1, m, h => by
    by_cases e:m=k+1
    · subst e;exact ⟨[],by simp⟩
    · obtain ⟨r,hr⟩:=b7d x k m omo
      exact ⟨r++b5B k (a5A (x.word k)),by show x.part k++_=_;rw [hr,List.append_assoc]⟩
theorem c7c (x:Bag) (k m:Nat) (hk:k < 4) (hm:m < (a5A (x.word k)).length):(x.part k).length+m < x.list.length∧x.list.getD ((x.part k).length+m) 0=((64 * k+(a5A (x.word k)).getD m 0:Nat):Int):=by
 obtain ⟨r,hr⟩:=b7d x 4 (k+1) omo
 have e:x.list=x.part k++(b5B k (a5A (x.word k))++r):=by
  unfold Bag.list
  rw [hr]
  show x.part k++b5B k (a5A (x.word k))++r=_
  rw [List.append_assoc]
 have hl:(b5B k (a5A (x.word k))).length=(a5A (x.word k)).length:=by simp [b5B]
 refine ⟨by rw [e,List.length_append,List.length_append,hl];omega,?_⟩
 rw [e,List.getD_eq_getElem?_getD,List.getElem?_append_right omo,Nat.add_sub_cancel_left,List.getElem?_append_left omo]
 simp only [b5B,List.getElem?_map,List.getD_eq_getElem?_getD]
 rw [List.getElem?_eq_getElem hm]
 simp
theorem c1x {w y m:Nat} (hy:y≠0) (hlt:y < 18446744073709551616) (hd:(a5A w).drop m=a5A y):m < (a5A w).length∧(a5A w).getD m 0=Lib.ctz 64 y∧(a5A w).drop (m+1)=a5A (y &&& (y - 1)):=by
 have h:=(b3r y hy hlt).2
 rw [h] at hd
 have hm:m < (a5A w).length:=by
  rcases Nat.lt_or_ge m (a5A w).length with h1 | h1
  ·exact h1
  ·rw [List.drop_eq_nil_of_le h1] at hd;cases hd
 rw [List.drop_eq_getElem_cons hm] at hd
 injection hd with h1 h2
 exact ⟨hm,by rw [List.getD_eq_getElem?_getD,List.getElem?_eq_getElem hm];exact h1,h2⟩
theorem c5q {w m:Nat} (hd:(a5A w).drop m=a5A 0) (hm:m≤(a5A w).length):m=(a5A w).length:=by
 rw [c0A] at hd
 have:=congrArg List.length hd
 rw [List.length_drop] at this
 simp at this
 omega
theorem c7f {y:Nat} (hy:y < 18446744073709551616) (h0:y≠0):(.imm (.int .u64 (bits .and .u64 (y:Int) ((y:Int) - 1))):HV)=a7L (y &&& (y - 1)):=by
 have e:((y:Int) - 1)=((y - 1:Nat):Int):=by omega
 rw [e,d2B (y:Int) y (y - 1) rfl hy omo]
theorem b4l (bg:Bag) (hbg:bg.ok):c1t Tryz.prog 67 [.fp 4 (a3s bg)] bg.list.length (fun i=>[intV (bg.list.getD i 0)]):=by
 refine b7J Tryz.func67 rfl kr _ _ _ _ rfl 26 rfl rfl (fun X hXN hXy O W F hg=>?_)
 refine ru 4 ?_
 refine rvl (bagH bg) ((by show HV.agg 4 _=HV.agg 4 _;congr 1;funext j;simp only [Nat.zero_add])) ?_
 refine ru 4 ?_
 refine b2Q (α:=Nat) (fun x=>[(0,.v (.fn (.yield X.l) 0 fun _=>default)),(1,.v (.fp 4 (a3s bg))),(6,.v (bagH bg)),(7,.v (intV x))]) (fun x=>x≤4) (fun x=>(bg.part x).length) (fun x=>4 - x) (0) om (by first | exact hg | simpa using hg) (a0b rfl lrf tsa a0g.nil) (fun k O W F c hx hg NhL1 hL1=>?_)
 (try dsimp only at hx hg hL1 ⊢)
 refine ru 6 ?_
 refine wdc (fun hr0 hc0=>?_) (fun hr0 hc0=>?_)
 ·skip
  have hk4:k < 4:=om;have hwl:=bg.word_lt hbg k
  refine ru 7 ?_
  refine s0 (HOp.val (v':=a7L (bg.word k)) (b8U krf rfl rfl omy omy) (rfl)) ?_
  refine ru 5 ?_
  refine b2Q (α:=Nat×Nat) (fun x=>[(0,.v (.fn (.yield X.l) 0 fun _=>default)),(1,.v (.fp 4 (a3s bg))),(3,.v (intV k)),(4,.v (a7L x.1)),(6,.v (bagH bg)),(7,.v (intV k))]) (fun x=>x.1 < 18446744073709551616∧(a5A (bg.word k)).drop x.2=a5A x.1∧x.2≤(a5A (bg.word k)).length) (fun x=>(bg.part k).length+x.2) (fun x=>x.1) ((bg.word k,0)) (by exact ⟨hwl,rfl,Nat.zero_le _⟩) (by first | exact hg | simpa using hg) (a0b rfl lrf tsa a0g.nil) (fun x O W F c hx hg NhL2 hL2=>?_)
  revert hx hg hL2;obtain ⟨y,m⟩:=x;intro hx hg hL2;dsimp only at hx hg hL2 ⊢
  obtain ⟨hy,hd,hm⟩:=hx
  refine ru 7 ?_
  refine wdc (fun hr1 hc1=>?_) (fun hr1 hc1=>?_)
  ·skip
   have hy0:y≠0:=om;have hon:=c1x hy0 hy hd;have hla:=c7c bg k m hk4 hon.1;have hcz:=(b3r y hy0 hy).1
   refine ru 10 ?_
   refine cll (d3M y hy hy0) ?_
   refine ru 1 ?_
   refine b7f hg (by rw [hXN];exact hla.1) (xs:=[_]) [(0,.v (.fn (.yield X.l) 0 fun _=>default)),(1,.v (.fp 4 (a3s bg))),(3,.v (intV k)),(4,.v (a7L y)),(6,.v (bagH bg)),(7,.v (intV k))] rfl ⟨rfl,trivial⟩ (by rw [hXy];exact ⟨b5v (by rw [hla.2,hon.2.1];omega),trivial⟩) (b4c.cons rfl (Fz.eq rfl) (b4c.cons rfl (Fz.eq rfl) (b4c.cons rfl (Fz.eq rfl) (b4c.cons rfl (Fz.eq rfl) (b4c.cons rfl (Fz.eq rfl) (b4c.cons rfl (Fz.eq rfl) b4c.nil)))))) rfl (fun O W F hg=>?_) (fun W F hfr hjx=>?_)
   ·refine ru 1 ?_
    refine a2H ?_
    refine ru 1 ?_
    refine wdc (fun hr2 hc2=>?_) (fun hr2 hc2=>?_)
    ·skip
     exfalso;simp at hr2
    refine ru 8 ?_
    refine rvl (a7L (y &&& (y - 1))) (c7f hy hy0) ?_
    refine ru 2 ?_
    exact hL2 ((y &&& (y - 1),m+1)) O W F _ _ (by (try dsimp only);exact ⟨by have:=a9V y hy0;omega,hon.2.2,hon.1⟩) (by (try dsimp only);exact a9V y hy0) (by (try dsimp only);first | exact hg | simpa using hg) (a0b rfl lrf tsa a0g.nil)
   ·refine ru 1 ?_
    refine a2H ?_
    refine ru 1 ?_
    refine wdc (fun hr2 hc2=>?_) (fun hr2 hc2=>?_)
    ·refine ru 3 ?_
     refine a0q ?_
     refine ru 3 ?_
     refine a0q ?_
     refine ru 1 ?_
     refine b1w rfl ?_
     exact .inr ⟨_,by rw [hXN];exact hla.1,hjx⟩
    exfalso;simp at hr2
  refine ru 2 ?_
  refine a0c ?_
  refine ru 7 ?_
  exact hL1 (k+1) O W F _ _ omd omd (by (try dsimp only);have h0:y=0:=om;rw [c5v bg k hk4,←c5q (by rw [hd,h0]) hm];exact hg) (a0b rfl lrf tsa a0g.nil)
 refine ru 2 ?_
 refine a0c ?_
 refine ru 1 ?_
 refine a1t ?_
 refine b1w rfl ?_
 obtain rfl:k=4:=om;exact .inl ⟨O,by have hj:=hg.j;rw [hXN];unfold Bag.list;exact hj⟩
def d1W (on be:HV) (f e:Bag) (m:Bool):Nat→Nat→HV:=fun _ j=>match j with
 | 0=>on | 1=>be
 | 2=>a3s f 0 | 3=>a3s f 1 | 4=>a3s f 2 | 5=>a3s f 3
 | 6=>a3s e 0 | 7=>a3s e 1 | 8=>a3s e 2 | 9=>a3s e 3
 | _=>boolV m
@[reducible] def b0P (g:Nat) (on be:HV):HObj:=⟨g,1,11,125,0,d1W on be Bag.zero Bag.zero false⟩
@[reducible] def c1h (β:Nat→Bag):Nat→Nat→HV:=fun i j=>a3s (β i) j
@[reducible] def a4W (g N:Nat) (β:Nat→Bag):HObj:=⟨g,N,4,72,0,c1h β⟩
def a4z (A B:Bag) (β:Nat→Bag) (i:Nat):Nat→Bag:=fun p=>if (p:Int)∈A.list.take i then bun (β p) B else β p
theorem a8f (A B:Bag) (β:Nat→Bag):a4z A B β 0=β:=by funext p;simp [a4z]
theorem a5c (A:Bag) {i:Nat} (hi:i < A.list.length):∃ q:Nat,q < 256∧A.has q=true∧A.list.getD i 0=(q:Int):=by
 have hm:A.list.getD i 0∈A.list:=by rw [List.getD_eq_getElem?_getD,List.getElem?_eq_getElem hi];exact List.getElem_mem hi
 rw [A.list_eq] at hm
 obtain ⟨q,hq,he⟩:=List.mem_map.1 hm
 rw [List.mem_filter,List.mem_range] at hq
 exact ⟨q,hq.1,hq.2,by rw [A.list_eq];exact he.symm⟩
theorem b1m (A:Bag):A.list.Nodup:=by
 rw [A.list_eq]
 exact List.Pairwise.map _ (fun a b h=>by intro e;exact h (Int.ofNat.inj e)) ((List.nodup_range (n:=256)).filter _)
theorem c3H (A:Bag) {i:Nat} (hi:i < A.list.length):A.list.getD i 0∉A.list.take i:=by
 intro h
 obtain ⟨k,hk,he⟩:=List.mem_take_iff_getElem.1 h
 have hk2:k < i∧k < A.list.length:=by omega
 rw [List.getD_eq_getElem?_getD,List.getElem?_eq_getElem hi] at he
 have:=(List.getElem_inj (b1m A)).1 he
 omega
theorem a6i (A B:Bag) (β:Nat→Bag) {i q:Nat} (hi:i < A.list.length) (hq:A.list.getD i 0=(q:Int)) (p:Nat):a4z A B β (i+1) p=if p=q then bun (a4z A B β i q) B else a4z A B β i p:=by
 have hn:=c3H A hi
 have e:A.list.take (i+1)=A.list.take i++[(q:Int)]:=by
  rw [List.take_add_one,List.getElem?_eq_getElem hi]
  rw [List.getD_eq_getElem?_getD,List.getElem?_eq_getElem hi] at hq
  simp at hq
  rw [hq];rfl
 rw [hq] at hn
 unfold a4z
 rw [e]
 by_cases hp:p=q
 ·subst hp
  rw [if_pos rfl,if_neg hn,if_pos sml]
 ·rw [if_neg hp]
  have:((p:Int)∈A.list.take i++[(q:Int)])↔(p:Int)∈A.list.take i:=by
   simp;intro h;exact absurd (by exact_mod_cast h) hp
  by_cases h:(p:Int)∈A.list.take i
  ·rw [if_pos h,if_pos (this.2 h)]
  ·rw [if_neg h,if_neg (fun h'=>h (this.1 h'))]
theorem c4P {A B:Bag} (hB:B.ok) {β:Nat→Bag} (hβ:∀ p,(β p).ok) (i p:Nat):(a4z A B β i p).ok:=by
 unfold a4z;split
 ·exact a9M (hβ p) hB
 ·exact hβ p
theorem a1U (A B:Bag) (β:Nat→Bag) {p:Nat} (hp:p < 256):a4z A B β A.list.length p=a2i β (A,B) p:=by
 unfold a4z a2i
 rw [List.take_length]
 by_cases h:A.has p=true
 ·rw [if_pos ((A.mem_list p hp).2 h),if_pos h]
 ·rw [if_neg (fun h'=>h ((A.mem_list p hp).1 h')),if_neg h]
theorem a3Z {kp sh:List (Nat×HObj)} {g1 g2 g3 M:Nat} {o2 o3:HObj} (h2:hget kp 9002=some o2) (e2:o2.g=g2) (h3:hget kp 9003=some o3) (e3:o3.g=g3):OKz kp sh (b0P g1 (.os 9002 g2 0 M) (.os 9003 g3 0 M)) (b0P g1 (.os 9002 g2 0 M) (.os 9003 g3 0 M)):=.of fun i j hi hj=>by
 match j,hj with
 | 0,_=>exact .os _ _ _ _ _ h2 e2
 | 1,_=>exact .os _ _ _ _ _ h3 e3
 | 2,_=>exact .fz _ _ (.imm _)
 | 3,_=>exact .fz _ _ (.imm _)
 | 4,_=>exact .fz _ _ (.imm _)
 | 5,_=>exact .fz _ _ (.imm _)
 | 6,_=>exact .fz _ _ (.imm _)
 | 7,_=>exact .fz _ _ (.imm _)
 | 8,_=>exact .fz _ _ (.imm _)
 | 9,_=>exact .fz _ _ (.imm _)
 | 10,_=>exact .fz _ _ (.imm _)
theorem a1s {kp sh:List (Nat×HObj)} {g M:Nat} {β β':Nat→Bag} (h:∀ p,p < M→β p=β' p):OKz kp sh (a4W g M β) (a4W g M β'):=.of fun i j hi hj=>by
 show Kz kp sh (a3s (β i) j) (a3s (β' i) j)
 rw [h i hi];exact .fz _ _ (.imm _)
theorem b2y {g M:Nat} {f:Nat→Nat→HV} {β:Nat→Bag} (h:∀ i j,i < M→j < 4→f i j=a3s (β i) j):a2m ⟨g,M,4,72,0,f⟩ (a4W g M β):=a2m.of fun i j hi hj=>by
 rw [h i j hi hj];exact .refl _
theorem c8Y {γ:Nat→Bag} {x:Bag} {q i j:Nat} (hj:j < 4):upd (c1h γ) q 0 4 (bagH x).cell i j=a3s (if i=q then x else γ i) j:=by
 unfold upd inb
 have h0:(Nat.ble 0 j&&Nat.blt j (0+4))=true:=by simp [hj]
 by_cases e:i=q
 ·subst e
  have:Nat.beq i i=true:=by simp
  rw [h0,this,if_pos rfl];rfl
 ·have:Nat.beq i q=false:=(by rw [Bool.eq_false_iff];intro h;exact e (Nat.eq_of_beq_eq_true h))
  rw [this,if_neg e];rfl
theorem c6w (A B:Bag) (hA:A.ok) (hB:B.ok) (M g1 g2 g3:Nat) (ρ β:Nat→Bag) (hβ:∀ p,(β p).ok) (hN:M≤256) (hin:∀ p,p < 256→A.has p=true→p < M) :
  a3K Tryz.prog 114 [.pt 9001 g1 0 0,bagH A,bagH B] [(9001,b0P g1 (.os 9002 g2 0 M) (.os 9003 g3 0 M)),(9002,a4W g2 M ρ),(9003,a4W g3 M β)] (.tup 0 fun _=>default) [(9001,b0P g1 (.os 9002 g2 0 M) (.os 9003 g3 0 M)),(9002,a4W g2 M ρ),(9003,a4W g3 M (a2i β (A,B)))]:=by
 intro c
 refine a9h Tryz.func114 rfl kr _ _ _ _ rfl 25 rfl rfl (fun X ok hX hM=>?_)
 refine ru 10 ?_
 refine cll (c2H A) ?_
 refine ru 3 ?_
 refine a7M (α:=Nat) ⟨rfl,rfl,rfl⟩ (b4l A hA) rfl (cs:=[_]) rfl (fun i hi=>by first | rfl | (cases i <;> first | rfl | (simp at hi))) ⟨(Fz.eq rfl),trivial⟩ rfl (fun _=>rfl) rfl (fun x=>[(9001,b0P g1 (.os 9002 g2 0 M) (.os 9003 g3 0 M)),(9002,a4W g2 M ρ),(9003,a4W g3 M (a4z A B β x)),(3,⟨c,1,1,51,0,fun _ _=>.pt 9001 g1 0 0⟩),(5,⟨c+2,1,4,72,0,fun _ j=>a3s B j⟩)]) (fun x=>x) (fun x=>x≤A.list.length) (0) om (by first | rfl | omega) hsa rfl (fun i c hx hi C1 lr hC1 NhR1 hR1=>?_) (fun i c hx hi=>?_)
 ·skip
  (try dsimp only at hx hi hR1 ⊢)
  obtain ⟨q,hq256,hqA,hq⟩:=a5c A hi;have hqN:=hin q hq256 hqA;rw [hq]
  refine ru 3 ?_
  refine hR1 _ (fun C2 hC2=>?_)
  refine ru 15 ?_
  refine d0 14 (a0e (xs:=[_,_]) (c8r (a4z A B β i q) B (c4P hB hβ i q) hB) ⟨rfl,⟨rfl,trivial⟩⟩ ⟨(Fz.eq (by show HV.agg 4 _=_;rw [Nat.zero_add];rfl)),⟨(Fz.eq rfl),trivial⟩⟩) ?_
  refine ru 4 ?_
  exact a2C ⟨i+1,by (try dsimp only);omega,by first | rfl | omega,(hsr rfl (hsr rfl (a0g.cons rfl (b2y fun p j hp hj=>(c8Y hj).trans (by rw [a6i A B β hi hq,Nat.zero_add];rfl)) hsa)))⟩
 ·skip
  (try dsimp only at hx hi ⊢)
  refine ru 1 ?_
  refine b6X ?_
  refine b2i hM ?_
  refine a0X ok hX a2j.one rfl  [] rfl pre0 (()) (trivial) (by rfl) (by rfl) (kza) ?_
  exact ⟨⟨_,rfl,a3Z rfl rfl rfl rfl⟩,⟨⟨_,rfl,a1s (fun _ _=>rfl)⟩,⟨⟨_,rfl,a1s (fun p hp=>by first | (rw [hi];exact a1U A B β om) | exact a1U A B β om)⟩,trivial⟩⟩⟩
def pcF (p:Pc):Nat→HV:=fun j=>match j with
 | 0=>a7L (p.first.word 0) | 1=>a7L (p.first.word 1) | 2=>a7L (p.first.word 2) | 3=>a7L (p.first.word 3)
 | 4=>a7L (p.ends.word 0) | 5=>a7L (p.ends.word 1) | 6=>a7L (p.ends.word 2) | 7=>a7L (p.ends.word 3)
 | _=>boolV p.empty
@[reducible] def pcH (p:Pc):HV:=.agg 9 (pcF p)
theorem b4E {sh:List (Nat×HObj)} (p:Pc) (j:Nat):Fz sh (pcF p j) (pcF p j):=by unfold pcF;split <;> exact .imm _
instance (p:Pc) (j:Nat):Frz (pcF p j):=⟨b4E p j⟩
theorem a2o {sh:List (Nat×HObj)} {f:Nat→HV} {x:Bag} (h:∀ j,j < 4→f j=a3s x j):Fz sh (.agg 4 f) (bagH x):=.agg _ _ _ fun j hj=>by rw [h j hj];exact .imm _
theorem j4 {f g:Nat→HV} (h0:f 0=g 0) (h1:f 1=g 1) (h2:f 2=g 2) (h3:f 3=g 3):∀ j,j < 4→f j=g j:=fun j hj=>by
 match j,hj with | 0,_=>exact h0 | 1,_=>exact h1 | 2,_=>exact h2 | 3,_=>exact h3
theorem j9 {P:Nat→Prop} (h0:P 0) (h1:P 1) (h2:P 2) (h3:P 3) (h4:P 4) (h5:P 5) (h6:P 6) (h7:P 7) (h8:P 8):∀ j,j < 9→P j:=fun j hj=>by
 match j,hj with | 0,_=>exact h0 | 1,_=>exact h1 | 2,_=>exact h2 | 3,_=>exact h3 | 4,_=>exact h4 | 5,_=>exact h5 | 6,_=>exact h6 | 7,_=>exact h7 | 8,_=>exact h8
theorem a3x {g ty:Nat} {f:Nat→Nat→HV} {p:Pc} (h:∀ j,j < 9→f 0 j=pcF p j):a2m ⟨g,1,9,ty,0,f⟩ ⟨g,1,9,ty,0,fun _=>pcF p⟩:=a2m.of fun i j hi hj=>by
 obtain rfl:i=0:=by omega
 rw [h j hj];exact .refl _
theorem b0R {kp sh:List (Nat×HObj)} {f:Nat→HV} {p:Pc} (h:∀ j,j < 9→f j=pcF p j):Kz kp sh (.agg 9 f) (pcH p):=.fz _ _ (.agg _ _ _ fun j hj=>by rw [h j hj];exact b4E p j)
theorem c9M {g1 g2 g3 M M' M'':Nat} {a b:HV} {ρ β ρ' β':Nat→Bag} {o1:HObj} (h1:o1.g=g1):a7x [(9001,b0P g1 a b),(9002,a4W g2 M ρ),(9003,a4W g3 M β)] [(9001,o1),(9002,a4W g2 M' ρ'),(9003,a4W g3 M'' β')] :=
 a0J (.head _) h1.symm (a0J (.tail _ (.head _)) rfl (a0J (.tail _ (.tail _ (.head _))) rfl a2f))
theorem b7z (a b:Pc) (ha:a.ok) (hb:b.ok) (M g1 g2 g3:Nat) (ρ β:Nat→Bag) (hβ:∀ p,(β p).ok) (hN:M≤256) (hin:∀ p,p < 256→a.ends.has p=true→p < M) :
  a3K Tryz.prog 92 [.pt 9001 g1 0 0,pcH a,pcH b] [(9001,b0P g1 (.os 9002 g2 0 M) (.os 9003 g3 0 M)),(9002,a4W g2 M ρ),(9003,a4W g3 M β)] (pcH (a.join b)) [(9001,b0P g1 (.os 9002 g2 0 M) (.os 9003 g3 0 M)),(9002,a4W g2 M ρ),(9003,a4W g3 M (a2i β (a.ends,b.first)))]:=by
 intro c
 refine a0p Tryz.func92 rfl kr _ _ _ _ rfl 42 rfl rfl (fun X ok hX=>?_)
 refine ru 14 ?_
 refine (a1b 10 [] rfl pre0 rfl ((show Fz [] _ (bagH a.ends) from a2o (by exact j4 rfl rfl rfl rfl)))).seq ?_
 refine (a1b 12 [] rfl pre0 rfl ((show Fz [] _ (bagH b.first) from a2o (by exact j4 rfl rfl rfl rfl)))).seq ?_
 refine hm_ 13 (a1Z (xs:=[_,_,_]) (pre:=[(9001,_),(9002,_),(9003,_)]) (c6w a.ends b.first ha.2 hb.1 M g1 g2 g3 ρ β hβ hN hin) ((c9M rfl)) ⟨rfl,⟨rfl,⟨rfl,trivial⟩⟩⟩) rfl rfl (a0h rfl (a0h rfl (a0h rfl pre0))) rfl rfl (c':=c+4) rfl ?_
 refine ru 26 ?_
 refine wdc (fun hr0 hc0=>?_) (fun hr0 hc0=>?_)
 ·refine ru 5 ?_
  refine s0 (a0e (xs:=[_,_]) (c8r a.first b.first ha.1 hb.1) ⟨rfl,⟨rfl,trivial⟩⟩ ⟨(a2o (by exact j4 rfl rfl rfl rfl)),⟨(a2o (by exact j4 rfl rfl rfl rfl)),trivial⟩⟩) ?_
  refine ru 11 ?_
  refine wdc (fun hr1 hc1=>?_) (fun hr1 hc1=>?_)
  ·refine ru 5 ?_
   refine s0 (a0e (xs:=[_,_]) (c8r b.ends a.ends hb.2 ha.2) ⟨rfl,⟨rfl,trivial⟩⟩ ⟨(a2o (by exact j4 rfl rfl rfl rfl)),⟨(a2o (by exact j4 rfl rfl rfl rfl)),trivial⟩⟩) ?_
   refine ru 11 ?_
   refine fr1 ok hX rw1 (()) (trivial) ((by rw [show a.join b=⟨bun a.first b.first,bun b.ends a.ends,true⟩ from by simp [Pc.join,hc0,hc1]];exact b0R (by exact j9 rfl rfl rfl rfl rfl rfl rfl rfl (by simp [pcF,hc0,hc1];rfl)))) ?_
   exact ⟨⟨_,rfl,a3Z rfl rfl rfl rfl⟩,⟨⟨_,rfl,a1s (fun _ _=>rfl)⟩,⟨⟨_,rfl,a1s (fun _ _=>rfl)⟩,trivial⟩⟩⟩
  refine ru 9 ?_
  refine fr1 ok hX rw1 (()) (trivial) ((by rw [show a.join b=⟨bun a.first b.first,b.ends,false⟩ from by simp [Pc.join,hc0,hc1]];exact b0R (by exact j9 rfl rfl rfl rfl rfl rfl rfl rfl (by simp [pcF,hc0,hc1];rfl)))) ?_
  exact ⟨⟨_,rfl,a3Z rfl rfl rfl rfl⟩,⟨⟨_,rfl,a1s (fun _ _=>rfl)⟩,⟨⟨_,rfl,a1s (fun _ _=>rfl)⟩,trivial⟩⟩⟩
 refine ru 9 ?_
 refine wdc (fun hr1 hc1=>?_) (fun hr1 hc1=>?_)
 ·refine ru 5 ?_
  refine s0 (a0e (xs:=[_,_]) (c8r b.ends a.ends hb.2 ha.2) ⟨rfl,⟨rfl,trivial⟩⟩ ⟨(a2o (by exact j4 rfl rfl rfl rfl)),⟨(a2o (by exact j4 rfl rfl rfl rfl)),trivial⟩⟩) ?_
  refine ru 11 ?_
  refine fr1 ok hX rw1 (()) (trivial) ((by rw [show a.join b=⟨a.first,bun b.ends a.ends,false⟩ from by simp [Pc.join,hc0,hc1]];exact b0R (by exact j9 rfl rfl rfl rfl rfl rfl rfl rfl (by simp [pcF,hc0,hc1];rfl)))) ?_
  exact ⟨⟨_,rfl,a3Z rfl rfl rfl rfl⟩,⟨⟨_,rfl,a1s (fun _ _=>rfl)⟩,⟨⟨_,rfl,a1s (fun _ _=>rfl)⟩,trivial⟩⟩⟩
 refine ru 9 ?_
 refine fr1 ok hX rw1 (()) (trivial) ((by rw [show a.join b=⟨a.first,b.ends,false⟩ from by simp [Pc.join,hc0,hc1]];exact b0R (by exact j9 rfl rfl rfl rfl rfl rfl rfl rfl (by simp [pcF,hc0,hc1];rfl)))) ?_
 exact ⟨⟨_,rfl,a3Z rfl rfl rfl rfl⟩,⟨⟨_,rfl,a1s (fun _ _=>rfl)⟩,⟨⟨_,rfl,a1s (fun _ _=>rfl)⟩,trivial⟩⟩⟩
theorem c5U (x:Sg) (j:Nat):∃ v,sgF x j=.imm v:=by
 match j with
 | 0=>exact ⟨_,rfl⟩
 | 1=>exact ⟨_,rfl⟩
 | 2=>exact ⟨_,rfl⟩
 | 3=>exact ⟨_,rfl⟩
 | j+4=>exact ⟨_,rfl⟩
theorem c7q {sh:List (Nat×HObj)} (x:Sg) (j:Nat):Fz sh (sgF x j) (sgF x j):=by
 obtain ⟨v,hv⟩:=c5U x j
 rw [hv];exact .imm _
theorem b4h {g ty fl:Nat} {f f':Nat→Nat→HV} (h0:Sb (f 0 0) (f' 0 0)) (hfn:fl≤1:=by exact Nat.zero_le _):a2m ⟨g,1,1,ty,fl,f⟩ ⟨g,1,1,ty,fl,f'⟩:=.of (hfn:=hfn) fun i j hi hj=>by
 obtain rfl:i=0:=by omega
 match j,hj with | 0,_=>exact h0
@[reducible] def d4d:HV:=.fn (.func 75) ([.pt 2 0 0 0,.pt 3 1 0 0,.pt 4 2 0 0]:List HV).length (fun i=>([.pt 2 0 0 0,.pt 3 1 0 0,.pt 4 2 0 0]:List HV).getD i default)
theorem b5o {w:World} {F:Addr→Prop} {s:List UInt8} {fn:Func} {n clk:Nat} {tm:List (Nat×TV)} {hp:List (Nat×HObj)} {y:Int×Int} {x:HV} {va ve:Int} (hv:lexV s=.error y) (hfn:fn.results=#[.cell 2 109,.cell 3 3,.cell 4 30])
  (h2:tget tm 2=some (.v (.pt 2 0 0 0))) (h3:tget tm 3=some (.v (.pt 3 1 0 0))) (h4:tget tm 4=some (.v (.pt 4 2 0 0)))
  (o2:hget hp 2=some (cell1 0 109 x)) (o3:hget hp 3=some (cell1 1 3 (intV va))) (o4:hget hp 4=some (cell1 2 30 (intV ve))) :
  b3b ((Ctx.top w F).wait d4d) (bodyPostD Tryz.prog fn (a1c w F (c5Z (b9u (lexV s))))) ⟨n,tm,hp,clk⟩ (a7v y):=by
 refine c0Y ⟨rfl,rfl⟩ (d0l clk 0 1 2 x va ve y) (a0h o2 (a0h o3 (a0h o4 pre0))) (fun x kp c' h=>by obtain ⟨_,_,h,_⟩:=h;cases h) (fun r kp c' h=>?_)
 obtain ⟨_,_,hr,hk⟩:=h
 subst hk
 refine b2Y hfn (a0H h2 rfl ty_109.h (fun h=>by first | rfl | cases h) rfl rfl) (a0H h3 rfl ty_3.h (fun h=>by first | rfl | cases h) rfl rfl) (a0H h4 rfl ty_30.h (fun h=>by first | rfl | cases h) rfl rfl) [] rfl pre0 ?_
 rw [hv]
 exact a2M (.nil 0 5 _ dcd none) (.imm _) (.imm _)
theorem d2a (g:Nat) (s:List UInt8) (i:Nat) (hs:s.length≤1000000) (hi:i≤s.length) {x:Sg} {q:Nat} (h:a4j s i=.ok (x,q)):a3K Tryz.prog 81 [.pt 9001 g 0 0] [(9001,rdO g s i)] (sgH x) [(9001,rdO g s q)]:=fun c =>
 (c5B c g s i hs hi).mono fun e kp c' hP=>by
  rcases hP with ⟨y,hy,he,hk⟩ | ⟨y,hy,_⟩
  ·rw [h] at hy;injection hy with hy;subst hy;exact ⟨(),trivial,he,hk⟩
  ·rw [h] at hy;cases hy
theorem d1I (s:List UInt8) (hs:s.length≤1000000):HPure Tryz.prog 45 [strV s] (c5Z (b9u (lexV s))):=by
 have hV:=b5F s
 refine c2e Tryz.func45 rfl kr _ _ _ rfl 55 rfl rfl (fun w F=>?_)
 refine ru 10 ?_
 refine b9j rfl ?_
 refine ru 5 ?_
 refine a0y 10 (a6O (id:=9001) (sz:=2) rfl rfl rfl dcd dcd) rfl rfl pre0 rfl rfl (c':=4) rfl ?_
 refine ru 4 ?_
 refine (a1N 2 0 54 5 118 (c6x []) (fun _ _=>.os 54 4 0 0) rfl rfl (fun j hj=>.inl ⟨by omega,rfl⟩) dcd dcd (c':=5) rfl).wp ?_
 refine a0l (α:=Nat×List Sg×Nat×Nat) (fun x c=>⟨55,[(0,.v (strV s)),(2,.v (.pt 2 0 0 0)),(3,.v (.pt 3 1 0 0)),(4,.v (.pt 4 2 0 0)),(5,.v (.pt 9001 3 0 0))],[(9001,rdO 3 s x.1),(2,cell1 0 109 (.os 54 x.2.2.1 0 x.2.2.2)),(3,cell1 1 3 (intV 0)),(4,cell1 2 30 (intV 0)),(54,⟨x.2.2.1,x.2.2.2,5,118,0,c6x x.2.1⟩)],c⟩) (fun x=>x.1≤s.length∧x.2.1.length≤200∧x.2.2.2=x.2.1.length∧a5f s x.1 x.2.1=lexV s) (fun x=>s.length - x.1) ((0,[],4,0)) (by exact ⟨Nat.zero_le _,Nat.zero_le _,rfl,hV⟩) (a0b rfl lrf tsa (a0g.cons rfl (b8H (.refl _) (.refl _)) (hsr rfl (a0g.cons rfl (b4h (.refl _)) (a0g.cons rfl (b4h (.refl _)) hsa))))) (fun x c hx NhL1 hL1=>?_)
 revert hx hL1;obtain ⟨i,out,gl,n⟩:=x;intro hx hL1;dsimp only at hx hL1 ⊢
 obtain ⟨hi,hol,hn,hL⟩:=hx
 refine ru 3 ?_
 refine a0l (α:=Nat) (fun x c=>⟨55,[(0,.v (strV s)),(2,.v (.pt 2 0 0 0)),(3,.v (.pt 3 1 0 0)),(4,.v (.pt 4 2 0 0)),(5,.v (.pt 9001 3 0 0))],[(9001,rdO 3 s x),(2,cell1 0 109 (.os 54 gl 0 n)),(3,cell1 1 3 (intV 0)),(4,cell1 2 30 (intV 0)),(54,⟨gl,n,5,118,0,c6x out⟩)],c⟩) (fun x=>i≤x∧x≤s.length∧a5f s x out=lexV s) (fun x=>s.length - x) (i) (by exact ⟨Nat.le_refl _,hi,hL⟩) (a0b rfl lrf tsa hsa) (fun j c hx NhL2 hL2=>?_)
 (try dsimp only at hx hL2 ⊢)
 obtain ⟨hij,hj,hLj⟩:=hx
 refine ru 4 ?_
 refine hq_ 12 (a0B (xs:=[_]) (pre:=[(9001,_)]) (a3W 3 s j hs hj) ⟨rfl,trivial⟩) rfl rfl (a0h rfl pre0) rfl rfl ?_
 refine ru 3 ?_
 refine wdc (fun hr0 hc0=>?_) (fun hr0 hc0=>?_)
 ·skip
  have hlt:j < s.length:=a4P om
  refine ru 14 ?_
  exact hL2 (j+1) _ _ (by (try dsimp only);exact ⟨by omega,hlt,by rw [←b2n hlt hc0];exact hLj⟩) omd (a0b rfl lrf tsa (a0g.cons rfl (b8H (.refl _) (a0K om)) hsa))
 refine ru 2 ?_
 refine a0c ?_
 refine ru 14 ?_
 refine wdc (fun hr1 hc1=>?_) (fun hr1 hc1=>?_)
 ·refine ru 11 ?_
  refine a0q ?_
  refine ru 1 ?_
  refine c9w ⟨rfl,rfl⟩ (d0A _ 0 1 2 gl n (c6x out) (fun i j=>c5U _ j) 0 0) (a0h rfl (a0h rfl (a0h rfl (a0h rfl pre0)))) (fun x kp c' h=>by obtain ⟨_,_,h,_⟩:=h;cases h) (fun r kp c' h=>?_);obtain ⟨_,_,hr,hk⟩:=h;subst hk
  refine b2Y rfl (a0H rfl rfl ty_109.h rqc rfl rfl) (a0H rfl rfl ty_3.h rqc rfl rfl) (a0H rfl rfl ty_30.h rqc rfl rfl) [(54,_)] rfl (a0h rfl pre0) ?_
  have e:lexV s=.ok out:=(by rw [←hLj];exact b0g om);rw [e];exact a2M (a2v (l:=out) (enc:=sgF) (d:=default) (List.mem_cons_self ..) rfl hn lrf (fun i j hi hj=>c7q _ j)) (.imm _) (.imm _)
 have hjl:j < s.length:=om
 refine ru 10 ?_
 refine wdc (fun hr2 hc2=>?_) (fun hr2 hc2=>?_)
 ·refine ru 4 ?_
  refine hq_ 33 (a0B (xs:=[_]) (pre:=[(9001,_)]) (a3W 3 s j hs hj) ⟨rfl,trivial⟩) rfl rfl (a0h rfl pre0) rfl rfl ?_
  refine ru 6 ?_
  refine cll (b5W _) ?_
  refine ru 3 ?_
  first
  | refine stg 37 (fun hb=>a0e (xs:=[_,_]) (b0w [40,41,124,42,43,63,123] (s.getD j 0)) ⟨rfl,⟨rfl,trivial⟩⟩ ⟨(Fz.eq rfl),⟨(Fz.eq (by rw [a3R hjl])),trivial⟩⟩) rfl rfl rfl rfl rfl ?_
  | refine sth 37 (fun hb=>a0e (xs:=[_,_]) (b0w [40,41,124,42,43,63,123] (s.getD j 0)) ⟨rfl,⟨rfl,trivial⟩⟩ ⟨(Fz.eq rfl),⟨(Fz.eq (by rw [a3R hjl])),trivial⟩⟩) rfl rfl rfl rfl rfl ?_
  refine ru 4 ?_
  refine wdc (fun hr3 hc3=>?_) (fun hr3 hc3=>?_)
  ·skip
   have hb:a5t (bz s j)=false:=(by have h:=hr3;rw [a3R hjl] at h;rw [b3C] at h;rw [a3R hjl];simpa using h)
   refine ru 2 ?_
   refine a2n (xs:=[_]) (pre:=[(9001,_)]) (b5u _ 3 s j hs hj) ⟨rfl,trivial⟩ (a0h rfl pre0) (fun y c1 hy=>?_)
   refine (a0E (a0E (a2c (a0E (a2c ?_)))))
   exact b5o (by rw [←hLj,hy];exact b3S hjl hc0 om hb) rfl rfl rfl rfl rfl rfl rfl
  have hb:a5t (bz s j)=true:=(by have h:=hr3;rw [a3R hjl] at h;rw [b3C] at h;rw [a3R hjl];simpa using h)
  refine ru 8 ?_
  refine a2n (xs:=[_,_,_]) (pre:=[(9001,_)]) (b4u _ 3 s j _ _) ⟨rfl,⟨rfl,⟨rfl,trivial⟩⟩⟩ (a0h rfl pre0) (fun y c2 hy=>?_)
  refine (a0E (a2c (a0E (a2c ?_))))
  exact b5o (by rw [←hLj,hy];exact b0V hjl hc0 om hb) rfl rfl rfl rfl rfl rfl rfl
 refine ru 2 ?_
 rcases hone:a4j s j with e | ⟨x,q⟩
 ·refine ru 3 ?_
  exact d1o (xs:=[_]) (pre:=[(9001,_)]) [(2,.v (.pt 2 0 0 0)),(3,.v (.pt 3 1 0 0)),(4,.v (.pt 4 2 0 0))] kr rfl (c5B _ 3 s j hs hj) ⟨rfl,trivial⟩ (a0h rfl pre0) kr kr kr (b4W rfl (b4W rfl (b4W rfl d1k))) kr (fun r kp c' h=>by rcases h with ⟨x,hx,_⟩ | ⟨y,_,hy,_⟩;rw [hone] at hx;cases hx;cases hy) (fun x kp c' h=>by rcases h with ⟨x,hx,he,_⟩ | ⟨y,hy,he,hk⟩;cases he;injection he with he;subst he;subst hk;rw [hone] at hy;injection hy with hy;(repeat (first | with_reducible refine a0E ?_ | with_reducible refine a2c ?_));exact b5o (by rw [←hLj,←hy];exact b3Z hjl hc0 om hone) rfl rfl rfl rfl rfl rfl rfl)
 ·refine ru 3 ?_
  refine d2o 52 (a1Z (xs:=[_]) (pre:=[(9001,_)]) (d2a 3 s j hs hj hone) (a0J (.head _) rfl a2f) ⟨rfl,trivial⟩) rfl rfl (a0h rfl pre0) rfl rfl (k':=3) rfl ?_
  refine a2x 53 (a0d (id:=53) (hs:=[_]) ei_109.h omx rfl omx ⟨rfl,rfl,rfl,rfl,trivial⟩) rfl rfl pre0 rfl rfl (k':=4) rfl ?_
  first
  | refine a2x 54 (a0a ei_109.h omy rfl omy omy (a0D rfl omy) omy rfl) rfl rfl (a0h rfl (a0L rfl)) rfl rfl (k':=5) rfl ?_
  | refine a2x 54 (a0a ei_109.h omy rfl omy omy (a1a rfl omy) omy rfl) rfl rfl (a0h rfl (a0L rfl)) rfl rfl (k':=5) rfl ?_
  | refine a2x 54 (a0a ei_109.h omy rfl omy omy (a0Y rfl) omy rfl) rfl rfl (a0h rfl pre0) rfl rfl (k':=5) rfl ?_
  | refine a2x 54 (a0a ei_109.h omy rfl omy omy (a0G 5 (fun _ _=>default) rfl) omy rfl) rfl rfl (a0h rfl pre0) rfl rfl (k':=5) rfl ?_
  refine ru 3 ?_
  have hq:=a8B hone
  exact hL1 ((q,out++[x],c+4,n+1)) _ _ (by (try dsimp only);exact ⟨hq.2,by rw [List.length_append];show out.length+1≤200;omega,by rw [List.length_append,hn];rfl,by rw [←b2h hjl hc0 om hone];exact hLj⟩) omd (a0b rfl lrf tsa (hsr rfl (hsr rfl (hsr rfl (hsr rfl (a0g.cons rfl (a2m.of fun i j hi hj=>c2J (l:=out) (k:=[x]) (enc:=sgF) (d:=default) hn (fun i j _ _=>.refl _) (c2c (x:=x) (enc:=sgF) (d:=default) (fun j hj=>by match j,hj with | 0,_=>exact .refl _ | 1,_=>exact .refl _ | 2,_=>exact .refl _ | 3,_=>exact .refl _ | 4,_=>exact .refl _)) i j (by rw [List.length_append,←hn];exact hi) hj) a0g.nil))))))
@[reducible] def a4S (l:List Int):Nat→Nat→HV:=fun i _=>intV (l.getD i 0)
@[reducible] def a2k (l:List Int):HV:=.sl 1 l.length (a4S l)
@[reducible] def ptF (x:Pt):Nat→HV:=fun j=>match j with | 0=>intV x.kind | 1=>intV x.low | 2=>intV x.high | 3=>strV x.name | _=>a2k x.kids
@[reducible] def ptH (x:Pt):HV:=.agg 5 (ptF x)
@[reducible] def c6F (l:List Pt):Nat→Nat→HV:=fun i=>ptF (l.getD i default)
@[reducible] def ptsV (l:List Pt):HV:=.sl 5 l.length (c6F l)
@[reducible] def b8w (g:Nat) (l:List Pt):HObj:=⟨g,l.length,5,175,0,c6F l⟩
@[reducible] def erF (l:List Sg) (p g2 n:Nat) (b:Bool):Nat→Nat→HV:=fun _ j=>match j with | 0=>a7Q l | 1=>intV p | 2=>.os 9002 g2 0 n | _=>boolV b
@[reducible] def erO (g:Nat) (l:List Sg) (p g2 n:Nat) (b:Bool):HObj:=⟨g,1,4,116,0,erF l p g2 n b⟩
theorem b3c {sh:List (Nat×HObj)} (x:Pt) (j:Nat):Fz sh (ptF x j) (ptF x j):=by
 match j with
 | 0=>exact .imm _
 | 1=>exact .imm _
 | 2=>exact .imm _
 | 3=>exact .imm _
 | j+4=>exact .sl _ _ _ _ fun i j _ _=>.imm _
instance frz_sgsV (l:List Sg):Frz (a7Q l):=⟨.sl _ _ _ _ fun i j _ _=>c7q _ j⟩
instance frz_kidsV (l:List Int):Frz (a2k l):=⟨.sl _ _ _ _ fun i j _ _=>.imm _⟩
instance frz_ptsV (l:List Pt):Frz (ptsV l):=⟨.sl _ _ _ _ fun i j _ _=>b3c _ j⟩
theorem a2O {kp sh:List (Nat×HObj)} {g:Nat} {l:List Pt}:OKz kp sh (b8w g l) (b8w g l):=.of fun i j _ _=>.fz _ _ (b3c _ j)
theorem d2Y {x:Pt} {f:Nat→HV} (h0:Sb (f 0) (ptF x 0)) (h1:Sb (f 1) (ptF x 1)) (h2:Sb (f 2) (ptF x 2)) (h3:Sb (f 3) (ptF x 3)) (h4:Sb (f 4) (ptF x 4)):∀ j,j < 5→Sb (f j) (ptF x j):=fun j hj=>by
 match j,hj with
 | 0,_=>exact h0
 | 1,_=>exact h1
 | 2,_=>exact h2
 | 3,_=>exact h3
 | 4,_=>exact h4
theorem a5L {kp sh:List (Nat×HObj)} {g p g2 n:Nat} {l:List Sg} {b:Bool} {o:HObj} (h:hget kp 9002=some o) (hg:o.g=g2):OKz kp sh (erO g l p g2 n b) (erO g l p g2 n b):=d2n (.fz _ _ (show Fz sh (a7Q l) (a7Q l) from Frz.fz)) (.fz _ _ (.imm _)) (.os _ _ _ _ _ h hg) (.fz _ _ (.imm _))
theorem b4N {g ty fl:Nat} {f f':Nat→Nat→HV} (h0:Sb (f 0 0) (f' 0 0)) (h1:Sb (f 0 1) (f' 0 1)) (h2:Sb (f 0 2) (f' 0 2)) (h3:Sb (f 0 3) (f' 0 3)) (hfn:fl≤1:=by exact Nat.zero_le _):a2m ⟨g,1,4,ty,fl,f⟩ ⟨g,1,4,ty,fl,f'⟩:=.of (hfn:=hfn) fun i j hi hj=>by
 obtain rfl:i=0:=by omega
 match j,hj with | 0,_=>exact h0 | 1,_=>exact h1 | 2,_=>exact h2 | 3,_=>exact h3
theorem a0N {α:Type} {enc:α→Nat→HV} {d x:α} {out:List α} {g n sz ty:Nat} {f F:Nat→Nat→HV} (hn:n=out.length) (hF:∀ i j,i < out.length→j < sz→Sb (F i j) (enc (out.getD i d) j)) (h:∀ j,j < sz→Sb (f 0 j) (enc x j)) :
  a2m ⟨g,n+1,sz,ty,0,cat n F f⟩ ⟨g,(out++[x]).length,sz,ty,0,fun i=>enc ((out++[x]).getD i d)⟩:=by
 subst hn
 refine ⟨rfl,by simp,rfl,rfl,Nat.le_refl _,fun i j hi hj=>?_,fun h=>absurd h (Nat.not_lt_zero _)⟩
 exact c2J (l:=out) (k:=[x]) (enc:=enc) (d:=d) rfl hF (c2c (x:=x) (enc:=enc) (d:=d) h) i j (by rw [List.length_append];exact hi) hj
theorem a3A {id g lo n n':Nat} (h:n=n'):Sb (.os id g lo n) (.os id g lo n'):=by subst h;exact .refl _
theorem a5u (g:Nat) (l:List Sg) (p g2:Nat) (out:List Pt) (b:Bool) (hl:l.length≤1000) (hp:p≤l.length):a3K Tryz.prog 83 [.pt 9001 g 0 0] [(9001,erO g l p g2 out.length b),(9002,b8w g2 out)] (intV (kd l p)) [(9001,erO g l p g2 out.length b),(9002,b8w g2 out)]:=by
 intro c
 refine a0p Tryz.func83 rfl kr _ _ _ _ rfl 24 rfl rfl (fun X ok hX=>?_)
 refine ru 20 ?_
 refine wdc (fun hr0 hc0=>?_) (fun hr0 hc0=>?_)
 ·refine ru 18 ?_
  refine fr1 ok hX rw1 (()) (trivial) (by rw [b0K (by simpa using hc0)];exact kza) ?_
  exact ⟨⟨_,rfl,a5L rfl rfl⟩,⟨⟨_,rfl,a2O⟩,trivial⟩⟩
 refine ru 8 ?_
 refine fr1 ok hX rw1 (()) (trivial) (by rw [b3K (by simpa using hc0)];exact kza) ?_
 exact ⟨⟨_,rfl,a5L rfl rfl⟩,⟨⟨_,rfl,a2O⟩,trivial⟩⟩
theorem c4l (c g:Nat) (l:List Sg) (p g2 n:Nat) (b:Bool) (out:List Pt) (x:Pt) (hn:n=out.length) (ho:out.length≤100000):a2y Tryz.prog 111 c [.pt 9001 g 0 0,ptH x] [(9001,erO g l p g2 n b),(9002,b8w g2 out)]
  (a4Q (fun (g':Nat) _=>True) (fun _=>intV out.length) (fun g'=>[(9001,erO g l p g' (out++[x]).length b),(9002,b8w g' (out++[x]))])):=by
 subst hn
 refine a0p Tryz.func111 rfl kr _ _ _ _ rfl 21 rfl rfl (fun X ok hX=>?_)
 refine ru 14 ?_
 refine a2x 11 (a0d (id:=11) (hs:=[_]) ei_64.h omx rfl omx ⟨rfl,rfl,rfl,rfl,trivial⟩) rfl rfl pre0 rfl rfl (k':=7) rfl ?_
 first
 | refine a2x 12 (a0a ei_64.h omy rfl omy omy (a0D rfl omy) omy rfl) rfl rfl (a0h rfl (a0L rfl)) rfl rfl (k':=8) rfl ?_
 | refine a2x 12 (a0a ei_64.h omy rfl omy omy (a1a rfl omy) omy rfl) rfl rfl (a0h rfl (a0L rfl)) rfl rfl (k':=8) rfl ?_
 | refine a2x 12 (a0a ei_64.h omy rfl omy omy (a0Y rfl) omy rfl) rfl rfl (a0h rfl pre0) rfl rfl (k':=8) rfl ?_
 | refine a2x 12 (a0a ei_64.h omy rfl omy omy (a0G 5 (fun _ _=>default) rfl) omy rfl) rfl rfl (a0h rfl pre0) rfl rfl (k':=8) rfl ?_
 refine ru 6 ?_
 refine (a0W 9001 (erO g l p (c+1+7) (out++[x]).length b) rfl (by exact b4N (.refl _) (.refl _) (a3A sml) (.refl _))).wp ?_;refine (a0W 9002 (b8w (c+1+7) (out++[x])) rfl (by exact a0N (enc:=ptF) (d:=default) rfl (fun i j _ _=>.refl _) (d2Y (.refl _) (.refl _) (.refl _) (.refl _) (.refl _)))).wp ?_
 refine ru 11 ?_
 refine fr1 ok hX rw1 ((c+1+7)) (trivial) (a7F sml) ?_
 exact ⟨⟨_,rfl,a5L rfl rfl⟩,⟨⟨_,rfl,a2O⟩,trivial⟩⟩
theorem c6y (c g:Nat) (l:List Sg) (p g2 n:Nat) (b:Bool) (out:List Pt) (k:Int) (ks:List Int) (hn:n=out.length) (ho:out.length≤100000):a2y Tryz.prog 84 c [.pt 9001 g 0 0,intV k,a2k ks] [(9001,erO g l p g2 n b),(9002,b8w g2 out)]
  (a4Q (fun (y:Nat×List Pt×Int) _=>if ks.length=1 then y.2=(out,ks.getD 0 0) else y.2=(out++[⟨k,0,0,[],ks⟩],(out.length:Int))) (fun y=>intV y.2.2) (fun y=>[(9001,erO g l p y.1 y.2.1.length b),(9002,b8w y.1 y.2.1)])):=by
 subst hn
 refine a0p Tryz.func84 rfl kr _ _ _ _ rfl 18 rfl rfl (fun X ok hX=>?_)
 refine ru 13 ?_
 refine wdc (fun hr0 hc0=>?_) (fun hr0 hc0=>?_)
 ·refine ru 10 ?_
  refine fr1 ok hX rw1 ((g2,out,ks.getD 0 0)) ((by rw [if_pos om])) (kza) ?_
  exact ⟨⟨_,rfl,a5L rfl rfl⟩,⟨⟨_,rfl,a2O⟩,trivial⟩⟩
 refine ru 8 ?_
 refine (a1b 16 [] rfl pre0 rfl ((show Fz [] (.agg 5 _) (ptH ⟨k,0,0,[],ks⟩) from a1f (.imm _) (.imm _) (.imm _) (.imm _) (show Fz [] (a2k ks) (a2k ks) from Frz.fz)))).seq ?_
 refine a0n 17 (xs:=[_,_]) (pre:=[(9001,_),(9002,_)]) (c4l _ g l p g2 _ b out ⟨k,0,0,[],ks⟩ rfl ho) ⟨rfl,⟨rfl,trivial⟩⟩ (a0h rfl (a0h rfl pre0)) rfl rfl (fun g3 c1 hx1=>?_)
 (try dsimp only)
 refine ru 4 ?_
 refine fr1 ok hX rw1 ((g3,out++[⟨k,0,0,[],ks⟩],(out.length:Int))) ((by rw [if_neg om])) (kza) ?_
 exact ⟨⟨_,rfl,a5L rfl rfl⟩,⟨⟨_,rfl,a2O⟩,trivial⟩⟩
structure Rs where
 t:Option T
 q:Nat
 g:Nat
 out:List Pt
 ret:Int
def a6C (l:List Sg) (v p:Nat) (out:List Pt) (x:Rs):Prop:=match x.t with
 | some t=>Seg l v p x.q t∧x.out=out++T.flat out.length t∧x.ret=T.root out.length t∧(2≤v→kd l x.q≠1∧kd l x.q≠2)∧(3≤v→kd l x.q≠4)
 | none=>BadS l p x.q∧x.out.length≤out.length+2 * (x.q - p)
@[reducible] def RsP (l:List Sg) (v p:Nat) (out:List Pt) (g:Nat):HEnd→List (Nat×HObj)→Nat→Prop :=
 a4Q (fun (x:Rs) _=>a6C l v p out x) (fun x=>intV x.ret) (fun x=>[(9001,erO g l x.q x.g x.out.length x.t.isNone),(9002,b8w x.g x.out)])
@[reducible] def RsC (f:FuncId) (l:List Sg) (v g p:Nat):Prop:=∀ c g2 (out:List Pt),out.length≤2 * p→a2y Tryz.prog f c [.pt 9001 g 0 0] [(9001,erO g l p g2 out.length false),(9002,b8w g2 out)] (RsP l v p out g)
theorem b2S {l:List Sg} {v p:Nat} {out:List Pt} {x:Rs} (h:a6C l v p out x):p≤x.q∧x.q≤l.length∧x.out.length≤out.length+2 * (x.q - p):=by
  obtain ⟨t,q,g,o,r⟩:=x
  cases t with
  | none=>exact ⟨h.1.le,h.1.len,h.2⟩
  | some t =>
    obtain ⟨h1,h2,_⟩:=h
    have a:=a1h h1;have b:=a3E h1
    simp only at h2 a b ⊢
    subst h2
    rw [List.length_append,T.flat_len]
    omega
theorem c3g {l:List Sg} {p g:Nat} {out:List Pt} (h:kd l p=1) (h5:kd l (p+1)≠5):a6C l 1 p out ⟨some (.name (l.getD p default).name),p+1,g,out++[⟨1,0,0,(l.getD p default).name,[]⟩],out.length⟩ :=
 ⟨.item _ _ _ (.name p h) h5,by simp [T.flat],by simp [T.root,T.size],fun h=>absurd h dcd,fun h=>absurd h dcd⟩
theorem b7k {l:List Sg} {p g:Nat} {out:List Pt} (h:kd l p=1) (h5:kd l (p+1)=5):a6C l 1 p out ⟨some (.times (l.getD (p+1) default).low (l.getD (p+1) default).high (.name (l.getD p default).name)),p+2,g,out++[⟨1,0,0,(l.getD p default).name,[]⟩]++[⟨4,(l.getD (p+1) default).low,(l.getD (p+1) default).high,[],[(out.length:Int)]⟩],(out++[(⟨1,0,0,(l.getD p default).name,[]⟩:Pt)]).length⟩ :=
 ⟨.times _ _ _ (.name p h) h5,by simp [T.flat,T.size],by simp [T.root,T.size];omega,fun h=>absurd h dcd,fun h=>absurd h dcd⟩
theorem b7R {l:List Sg} {p q g:Nat} {out o:List Pt} {r:Int} {t:T} (hx:a6C l 3 (p+1) out ⟨some t,q,g,o,r⟩) (h:kd l p=2) (h3:kd l q=3) (h5:kd l (q+1)≠5):a6C l 1 p out ⟨some t,q+1,g,o,r⟩ :=
 ⟨.item _ _ _ (.group p q t h hx.1 h3) h5,hx.2.1,hx.2.2.1,fun h=>absurd h dcd,fun h=>absurd h dcd⟩
theorem b4n {l:List Sg} {p q g g':Nat} {out o:List Pt} {r:Int} {t:T} (hx:a6C l 3 (p+1) out ⟨some t,q,g,o,r⟩) (h:kd l p=2) (h3:kd l q=3) (h5:kd l (q+1)=5):a6C l 1 p out ⟨some (.times (l.getD (q+1) default).low (l.getD (q+1) default).high t),q+2,g',o++[⟨4,(l.getD (q+1) default).low,(l.getD (q+1) default).high,[],[r]⟩],o.length⟩:=by
 obtain ⟨h1,h2,h4,_⟩:=hx
 simp only at h2 h4
 refine ⟨.times _ _ _ (.group p q t h h1 h3) h5,?_,?_,fun h=>absurd h dcd,fun h=>absurd h dcd⟩
 ·simp only [T.flat,h2,h4,T.root,List.append_assoc]
 ·simp only [T.root,T.size,h2,List.length_append,T.flat_len];omega
theorem c1M {l:List Sg} {p q g:Nat} {out o:List Pt} {r:Int} {t:Option T} (hk:b9x l) (hx:a6C l 3 (p+1) out ⟨t,q,g,o,r⟩) (h:kd l p=2) (hb:t.isNone=true∨kd l q≠3):a6C l 1 p out ⟨none,q,g,o,r⟩:=by
  have hle:=b2S hx
  simp only at hle
  refine ⟨?_,by show o.length≤out.length+2 * (q - p);omega⟩
  cases t with
  | none=>exact b9I h hx.1
  | some t =>
    obtain ⟨h1,_,_,h2,h4⟩:=hx
    have a:=h2 dcd;have b:=h4 dcd
    exact c5a hk h h1 a.1 a.2 (hb.resolve_left sml) b
theorem c5D {sh:List (Nat×HObj)} {id g ty fl:Nat} {r:Int}:Fz ((id,⟨g,1,1,ty,fl,bsf [intV r]⟩)::sh) (.os id g 0 1) (a2k [r]) :=
 a2v (l:=[r]) (enc:=fun x _=>intV x) (d:=0) (List.mem_cons_self ..) rfl rfl lrf (fun i j hi hj=>by
  obtain rfl:i=0:=by simpa using hi
  exact .imm _)
theorem d1T (l:List Sg) (g p:Nat) (hk:b9x l) (hne:l≠[]) (hl:l.length≤1000) (hp:p≤l.length) (hrec:∀ p',p < p'→p'≤l.length→RsC 46 l 3 g p'):RsC 110 l 1 g p:=by
 intro c g2 out ho
 refine a0p Tryz.func110 rfl kr _ _ _ _ rfl 113 rfl rfl (fun X ok hX=>?_)
 refine ru 16 ?_
 refine hq_ 8 (a0B (xs:=[_]) (pre:=[(9001,_),(9002,_)]) (a5u g l p g2 out false hl hp) ⟨rfl,trivial⟩) rfl rfl (a0h rfl (a0h rfl pre0)) rfl rfl ?_
 refine ru 9 ?_
 refine wdc (fun hr0 hc0=>?_) (fun hr0 hc0=>?_)
 ·skip
  have hlt:=a2Z (l:=l) (i:=p) (by rw [hc0];decide)
  refine ru 17 ?_
  refine b4H kr kr kr kr (c':=c+15) rfl ?_ sml
  refine (a1b 29 [] rfl pre0 rfl ((show Fz [] (.agg 5 _) (ptH ⟨1,0,0,(l.getD p default).name,[]⟩) from a1f (.imm _) (.imm _) (.imm _) (.imm _) (.nil 0 1 _ dcd none)))).seq ?_
  refine a0n 30 (xs:=[_,_]) (pre:=[(9001,_),(9002,_)]) (c4l _ g l p g2 _ false out ⟨1,0,0,(l.getD p default).name,[]⟩ rfl om) ⟨rfl,⟨rfl,trivial⟩⟩ (a0h rfl (a0h rfl pre0)) rfl rfl (fun g3 c1 hx1=>?_)
  (try dsimp only)
  refine ru 1 ?_
  refine a2H ?_
  refine ru 17 ?_
  refine (a0W 9001 (erO g l (p+1) g3 (out++[(⟨1,0,0,(l.getD p default).name,[]⟩:Pt)]).length false) rfl (by exact b4N (.refl _) (a0K om) (.refl _) (.refl _))).wp ?_
  refine ru 4 ?_
  refine hq_ 80 (a0B (xs:=[_]) (pre:=[(9001,_),(9002,_)]) (a5u g l (p+1) g3 (out++[(⟨1,0,0,(l.getD p default).name,[]⟩:Pt)]) false hl om) ⟨rfl,trivial⟩) rfl rfl (a0h rfl (a0h rfl pre0)) rfl rfl ?_
  refine ru 3 ?_
  refine wdc (fun hr3 hc3=>?_) (fun hr3 hc3=>?_)
  ·skip
   have hlt5:=a2Z (l:=l) (i:=p+1) (by rw [hc3];decide)
   refine ru 14 ?_
   refine a2x 4 (a0V (id:=4) (sz:=5) zc_118.h rfl rfl omx omx) rfl rfl pre0 rfl rfl (k':=13) rfl ?_
   refine ru 17 ?_
   refine (a0W 9001 (erO g l (p+2) g3 (out++[(⟨1,0,0,(l.getD p default).name,[]⟩:Pt)]).length false) rfl (by exact b4N (.refl _) (a0K om) (.refl _) (.refl _))).wp ?_
   refine ru 7 ?_
   refine a0y 109 (a0d (id:=109) (hs:=[_]) ei_23.h omx rfl omx ⟨rfl,rfl,rfl,rfl,trivial⟩) rfl rfl pre0 rfl rfl (c':=c1+17) rfl ?_
   refine ru 1 ?_
   refine (a1b 110 [(109,_)] rfl (a0h rfl pre0) rfl ((show Fz _ (.agg 5 _) (ptH ⟨4,(l.getD (p+1) default).low,(l.getD (p+1) default).high,[],[(out.length:Int)]⟩) from a1f (.imm _) (.imm _) (.imm _) (.imm _) c5D))).seq ?_
   refine a0n 111 (xs:=[_,_]) (pre:=[(9001,_),(9002,_)]) (c4l _ g l (p+2) g3 _ false (out++[(⟨1,0,0,(l.getD p default).name,[]⟩:Pt)]) ⟨4,(l.getD (p+1) default).low,(l.getD (p+1) default).high,[],[(out.length:Int)]⟩ rfl (by rw [List.length_append];show out.length+1≤_;omega)) ⟨rfl,⟨rfl,trivial⟩⟩ (a0h rfl (a0h rfl pre0)) rfl rfl (fun g4 c2 hx2=>?_)
   (try dsimp only)
   refine ru 10 ?_
   refine fr1 ok hX rw1 (⟨some _,_,g4,_,_⟩) (b7k hc0 hc3) (kza) ?_
   exact ⟨⟨_,rfl,a5L rfl rfl⟩,⟨⟨_,rfl,a2O⟩,trivial⟩⟩
  refine ru 9 ?_
  refine fr1 ok hX rw1 (⟨some _,_,g3,_,_⟩) (c3g hc0 hc3) (kza) ?_
  exact ⟨⟨_,rfl,a5L rfl rfl⟩,⟨⟨_,rfl,a2O⟩,trivial⟩⟩
 refine ru 6 ?_
 refine wdc (fun hr1 hc1=>?_) (fun hr1 hc1=>?_)
 ·skip
  have hlt:=a2Z (l:=l) (i:=p) (by rw [hc1];decide)
  refine ru 15 ?_
  refine (a0W 9001 (erO g l (p+1) g2 out.length false) rfl (by exact b4N (.refl _) (a0K om) (.refl _) (.refl _))).wp ?_
  refine ru 2 ?_
  refine a0n 52 (xs:=[_]) (pre:=[(9001,_),(9002,_)]) (hrec (p+1) om om _ g2 out om) ⟨rfl,trivial⟩ (a0h rfl (a0h rfl pre0)) rfl rfl (fun x3 c3 hx=>?_)
  obtain ⟨t,q,g3,o3,r⟩:=x3
  (try dsimp only)
  refine ru 5 ?_
  have hle:=b2S hx;simp only at hle
  refine ru 9 ?_
  first
  | refine b4a 61 4 57 false _ (fun hb=>a0B (xs:=[_]) (pre:=[(9001,_),(9002,_)]) (a5u g l q g3 o3 t.isNone hl hle.2.1) ⟨rfl,trivial⟩) rfl rfl rfl rfl (a0h rfl (a0h rfl pre0)) rfl rfl rfl ?_
  | refine b6r 61 4 57 _ _ false _ (fun hb=>a0B (xs:=[_]) (pre:=[(9001,_),(9002,_)]) (a5u g l q g3 o3 t.isNone hl hle.2.1) ⟨rfl,trivial⟩) rfl rfl rfl rfl (a0h rfl (a0h rfl pre0)) rfl rfl rfl ?_
  refine ru 4 ?_
  refine wdc (fun hr2 hc2=>?_) (fun hr2 hc2=>?_)
  ·refine ru 18 ?_
   refine fr1 ok hX rw1 (⟨none,q,g3,o3,r⟩) (c1M hk hx hc1 hc2) (kza) ?_
   exact ⟨⟨_,rfl,d2n (.fz _ _ (show Fz [] (a7Q l) (a7Q l) from Frz.fz)) kza kza kza⟩,⟨⟨_,rfl,a2O⟩,trivial⟩⟩
  obtain ⟨tr,rfl⟩:∃ tr,t=some tr:=(by cases t with | none=>exact absurd hc2.1 sml | some tr=>exact ⟨tr,rfl⟩);have hk3:=hc2.2;have hlt3:=a2Z (l:=l) (i:=q) (by rw [hk3];decide)
  refine ru 18 ?_
  refine (a0W 9001 (erO g l (q+1) g3 o3.length false) rfl (by exact b4N (.refl _) (a0K om) (.refl _) (.refl _))).wp ?_
  refine ru 4 ?_
  refine hq_ 80 (a0B (xs:=[_]) (pre:=[(9001,_),(9002,_)]) (a5u g l (q+1) g3 o3 false hl om) ⟨rfl,trivial⟩) rfl rfl (a0h rfl (a0h rfl pre0)) rfl rfl ?_
  refine ru 3 ?_
  refine wdc (fun hr3 hc3=>?_) (fun hr3 hc3=>?_)
  ·skip
   have hlt5:=a2Z (l:=l) (i:=q+1) (by rw [hc3];decide)
   refine ru 14 ?_
   refine a2x 4 (a0V (id:=4) (sz:=5) zc_118.h rfl rfl omx omx) rfl rfl pre0 rfl rfl (k':=13) rfl ?_
   refine ru 17 ?_
   refine (a0W 9001 (erO g l (q+2) g3 o3.length false) rfl (by exact b4N (.refl _) (a0K om) (.refl _) (.refl _))).wp ?_
   refine ru 7 ?_
   refine a0y 109 (a0d (id:=109) (hs:=[_]) ei_23.h omx rfl omx ⟨rfl,rfl,rfl,rfl,trivial⟩) rfl rfl pre0 rfl rfl (c':=c3+17) rfl ?_
   refine ru 1 ?_
   refine (a1b 110 [(109,_)] rfl (a0h rfl pre0) rfl ((show Fz _ (.agg 5 _) (ptH ⟨4,(l.getD (q+1) default).low,(l.getD (q+1) default).high,[],[r]⟩) from a1f (.imm _) (.imm _) (.imm _) (.imm _) c5D))).seq ?_
   refine a0n 111 (xs:=[_,_]) (pre:=[(9001,_),(9002,_)]) (c4l _ g l (q+2) g3 _ false o3 ⟨4,(l.getD (q+1) default).low,(l.getD (q+1) default).high,[],[r]⟩ rfl om) ⟨rfl,⟨rfl,trivial⟩⟩ (a0h rfl (a0h rfl pre0)) rfl rfl (fun g4 c4 hx4=>?_)
   (try dsimp only)
   refine ru 10 ?_
   refine fr1 ok hX rw1 (⟨some _,_,g4,_,_⟩) (b4n hx hc1 hk3 hc3) (kza) ?_
   exact ⟨⟨_,rfl,a5L rfl rfl⟩,⟨⟨_,rfl,a2O⟩,trivial⟩⟩
  refine ru 9 ?_
  refine fr1 ok hX rw1 (⟨some _,_,g3,_,_⟩) (b7R hx hc1 hk3 hc3) (kza) ?_
  exact ⟨⟨_,rfl,a5L rfl rfl⟩,⟨⟨_,rfl,a2O⟩,trivial⟩⟩
 refine ru 17 ?_
 refine fr1 ok hX rw1 (⟨none,p,g2,out,-1⟩) (⟨b4v hne hp hc0 hc1,by simp⟩) (kza) ?_
 exact ⟨⟨_,rfl,d2n (.fz _ _ (show Fz [] (a7Q l) (a7Q l) from Frz.fz)) kza kza kza⟩,⟨⟨_,rfl,a2O⟩,trivial⟩⟩
def c5M (l:List Sg) (p:Nat) (out:List Pt) (bad:Bool) (q:Nat) (o:List Pt) (ks:List Int):Prop :=
 (1≤ks.length∧ks.length≤2 * (q - p)+1)∧p≤q∧q≤l.length∧match bad with
 | true=>BadS l p q∧o.length+(if ks.length=1 then 0 else 1)≤out.length+2 * (q - p)
 | false=>∃ ts,b2j l p q ts∧o=out++T.flatL out.length ts∧ks=rootsL out.length ts
theorem b3W {l:List Sg} {p q g:Nat} {out o:List Pt} {t:Option T} {r:Int} (h:a6C l 1 p out ⟨t,q,g,o,r⟩):c5M l p out t.isNone q o [r]:=by
 have hle:=b2S h
 refine ⟨⟨Nat.le_refl _,by show 1≤_;omega⟩,hle.1,hle.2.1,?_⟩
 cases t with
 | none=>exact ⟨h.1,h.2⟩
 | some t=>exact ⟨[t],c1v h.1,by rw [show o=_ from h.2.1];simp [T.flatL],by rw [show r=_ from h.2.2.1];rfl⟩
theorem b7T {l:List Sg} {p q q' g:Nat} {out o o':List Pt} {ks:List Int} {t:Option T} {r:Int} (h:c5M l p out false q o ks) (hk:kd l q=1∨kd l q=2) (h2:a6C l 1 q o ⟨t,q',g,o',r⟩):c5M l p out t.isNone q' o' (ks++[r]):=by
  have hle:q≤q'∧q'≤l.length∧o'.length≤o.length+2 * (q' - q):=b2S h2
  obtain ⟨h1,hpq,hql,ts,hi,ho,hks⟩:=h
  have hlt:=b1W hi
  have hol:o.length=out.length+T.sizeL ts:=by rw [ho,List.length_append,T.flatL_len]
  have hkl:ks.length=ts.length:=by rw [hks,a0M]
  refine ⟨by rw [List.length_append];show 1≤ks.length+1∧ks.length+1≤_;omega,by omega,hle.2.1,?_⟩
  cases t with
  | none =>
    refine ⟨c2M hi hk h2.1,?_⟩
    rw [if_neg (by rw [List.length_append];show ¬ ks.length+1=1;omega)]
    have:=hi.1
    omega
  | some t =>
    refine ⟨ts++[t],b8N hi h2.1,?_,?_⟩
    · rw [show o'=_ from h2.2.1,ho,T.flatL_snoc,List.append_assoc,List.length_append,T.flatL_len]
    · rw [show r=_ from h2.2.2.1,hks,a4f,hol]
theorem d2g {l:List Sg} {p q:Nat} {out o:List Pt} {ks:List Int} {bad:Bool} (h:c5M l p out bad q o ks):o.length≤out.length+2 * (q - p):=by
  obtain ⟨h1,hpq,hql,h⟩:=h
  cases bad with
  | true=>have:=h.2;omega
  | false =>
    obtain ⟨ts,hi,ho,hks⟩:=h
    have:=b1W hi
    rw [ho,List.length_append,T.flatL_len];omega
theorem b9z {l:List Sg} {v q q' g:Nat} {o o':List Pt} {t:Option T} {r:Int} (h:a6C l v q o ⟨t,q',g,o',r⟩):2 * (l.length - q')+(if t.isNone then 0 else 1) < 2 * (l.length - q)+(if false then 0 else 1):=by
 have hle:q≤q'∧q'≤l.length∧o'.length≤o.length+2 * (q' - q):=b2S h
 cases t with
 | none=>show _+0 < _+1;omega
 | some t=>have:=a1h h.1;show _+1 < _+1;simp only at this;omega
@[reducible] def b0O (k:Int) (out:List Pt) (ks:List Int) (y:Nat×List Pt×Int):Prop:=if ks.length=1 then y.2=(out,ks.getD 0 0) else y.2=(out++[⟨k,0,0,[],ks⟩],(out.length:Int))
theorem b9Y {l:List Sg} {p q:Nat} {out o:List Pt} {ks:List Int} {k:Int} {y:Nat×List Pt×Int} (hb:o.length+(if ks.length=1 then 0 else 1)≤out.length+2 * (q - p)) (hy:b0O k o ks y):y.2.1.length≤out.length+2 * (q - p):=by
 unfold b0O at hy
 split at hy
 ·rename_i h1;rw [if_pos h1] at hb;rw [hy];exact hb
 ·rename_i h1;rw [if_neg h1] at hb;rw [hy];simpa using hb
theorem b7S {l:List Sg} {p q:Nat} {out o:List Pt} {ks:List Int} {bad:Bool} (h:c5M l p out bad q o ks) (hk:bad=true∨(kd l q≠1∧kd l q≠2)):∃ tt:Option T,tt.isNone=bad∧∀ y,b0O 2 o ks y→a6C l 2 p out ⟨tt,q,y.1,y.2.1,y.2.2⟩:=by
  obtain ⟨h1,hpq,hql,h⟩:=h
  cases bad with
  | true=>exact ⟨none,rfl,fun y hy=>⟨h.1,b9Y (l:=l) h.2 hy⟩⟩
  | false =>
    obtain ⟨ts,hi,ho,hks⟩:=h
    have hk:=hk.resolve_left sml
    have hkl:ks.length=ts.length:=by rw [hks,a0M]
    by_cases h2:ts.length=1
    · match ts, h2 with
      | [t], _ =>
        refine ⟨some t,rfl,fun y hy=>?_⟩
        have hy:y.2=(o,ks.getD 0 0):=by unfold b0O at hy;rwa [if_pos (by simpa using hkl)] at hy
        refine ⟨b1r hi,?_,?_,fun _=>hk,fun h=>absurd h dcd⟩
        · show y.2.1=_;rw [hy,ho];simp [T.flatL]
        · show y.2.2=_;rw [hy,hks];rfl
    · refine ⟨some (.many 2 ts),rfl,fun y hy=>?_⟩
      have hy:y.2=(o++[⟨2,0,0,[],ks⟩],(o.length:Int)):=by unfold b0O at hy;rwa [if_neg omo] at hy
      refine ⟨b3m hi (by have:=hi.1;omega),?_,?_,fun _=>hk,fun h=>absurd h dcd⟩
      · show y.2.1=_;rw [hy,ho,hks];simp [T.flat]
      · show y.2.2=_;rw [hy,ho];simp [T.root,T.size,T.flatL_len];omega
theorem d2C (l:List Sg) (g p:Nat) (hk:b9x l) (hne:l≠[]) (hl:l.length≤1000) (hp:p≤l.length) (hitem:∀ p',p≤p'→p'≤l.length→RsC 110 l 1 g p'):RsC 82 l 2 g p:=by
 intro c g2 out ho
 refine a0p Tryz.func82 rfl kr _ _ _ _ rfl 34 rfl rfl (fun X ok hX=>?_)
 refine ru 8 ?_
 refine a0n 5 (xs:=[_]) (pre:=[(9001,_),(9002,_)]) (hitem p lrf hp _ g2 out ho) ⟨rfl,trivial⟩ (a0h rfl (a0h rfl pre0)) rfl rfl (fun x1 c1 hx=>?_)
 obtain ⟨t1,q1,g3,o3,r⟩:=x1
 (try dsimp only)
 refine a0y 6 (a0d (id:=6) (hs:=[_]) ei_23.h omx rfl omx ⟨rfl,rfl,rfl,rfl,trivial⟩) rfl rfl pre0 rfl rfl (c':=c1+1) rfl ?_
 refine ru 5 ?_
 refine a0l (α:=Bool×Nat×List Pt×List Int×Nat×Nat) (fun x c=>⟨34,[(0,.v (.pt 9001 g 0 0)),(3,.v (.os 6 x.2.2.2.2.2 0 x.2.2.2.1.length))],[(9001,erO g l x.2.1 x.2.2.2.2.1 x.2.2.1.length x.1),(9002,b8w x.2.2.2.2.1 x.2.2.1),(6,⟨x.2.2.2.2.2,x.2.2.2.1.length,1,3,0,a4S x.2.2.2.1⟩)],c⟩) (fun x=>c5M l p out x.1 x.2.1 x.2.2.1 x.2.2.2.1) (fun x=>2 * (l.length - x.2.1)+(if x.1 then 0 else 1)) ((t1.isNone,q1,o3,[r],g3,c1)) (by exact b3W hx) (a0b rfl lrf tsa (hsr rfl (hsr rfl (a0g.cons rfl (a2m.of fun i j hi hj=>by obtain rfl:i=0:=om;exact .refl _) a0g.nil)))) (fun x c hx NhL1 hL1=>?_)
 revert hx hL1;obtain ⟨bad,q,o,ks,gg,gk⟩:=x;intro hx hL1;dsimp only at hx hL1 ⊢
 obtain ⟨hq1,hq2,hq3,hR⟩:=hx
 have hI:c5M l p out bad q o ks:=⟨hq1,hq2,hq3,hR⟩;have hol:=d2g hI
 refine ru 12 ?_
 first
 | refine b4a 16 5 12 true _ (fun hb=>a0B (xs:=[_]) (pre:=[(9001,_),(9002,_)]) (a5u g l q gg o bad hl hI.2.2.1) ⟨rfl,trivial⟩) rfl rfl rfl rfl (a0h rfl (a0h rfl pre0)) rfl rfl rfl ?_
 | refine b6r 16 5 12 _ _ true _ (fun hb=>a0B (xs:=[_]) (pre:=[(9001,_),(9002,_)]) (a5u g l q gg o bad hl hI.2.2.1) ⟨rfl,trivial⟩) rfl rfl rfl rfl (a0h rfl (a0h rfl pre0)) rfl rfl rfl ?_
 refine ru 5 ?_
 first
 | refine b4a 22 11 18 false _ (fun hb=>a0B (xs:=[_]) (pre:=[(9001,_),(9002,_)]) (a5u g l q gg o bad hl hI.2.2.1) ⟨rfl,trivial⟩) rfl rfl rfl rfl (a0h rfl (a0h rfl pre0)) rfl rfl rfl ?_
 | refine a5y 22 11 18 12 true false _ _ (fun hb hb2=>a0B (xs:=[_]) (pre:=[(9001,_),(9002,_)]) (a5u g l q gg o bad hl hI.2.2.1) ⟨rfl,trivial⟩) rfl rfl rfl rfl rfl (a0h rfl (a0h rfl pre0)) rfl rfl rfl ?_
 | refine b6r 22 11 18 _ _ false _ (fun hb=>a0B (xs:=[_]) (pre:=[(9001,_),(9002,_)]) (a5u g l q gg o bad hl hI.2.2.1) ⟨rfl,trivial⟩) rfl rfl rfl rfl (a0h rfl (a0h rfl pre0)) rfl rfl rfl ?_
 refine ru 5 ?_
 refine wdc (fun hr0 hc0=>?_) (fun hr0 hc0=>?_)
 ·skip
  obtain ⟨rfl,hkq⟩:bad=false∧(kd l q=1∨kd l q=2):=(by cases bad with | true=>exact absurd hr0 sml | false=>exact ⟨rfl,by simpa using hr0⟩)
  refine ru 6 ?_
  refine a0n 28 (xs:=[_]) (pre:=[(9001,_),(9002,_)]) (hitem q hI.2.1 hI.2.2.1 _ gg o om) ⟨rfl,trivial⟩ (a0h rfl (a0h rfl pre0)) rfl rfl (fun x2 c2 hx2=>?_)
  obtain ⟨t,q',g4,o4,r'⟩:=x2
  (try dsimp only)
  refine a0y 29 (a0d (id:=29) (hs:=[_]) ei_23.h omx rfl omx ⟨rfl,rfl,rfl,rfl,trivial⟩) rfl rfl pre0 rfl rfl (c':=c2+1) rfl ?_
  first
  | refine a0y 30 (a0a ei_23.h omy rfl omy omy (a0D rfl omy) omy rfl) rfl rfl (a0h rfl (a0L rfl)) rfl rfl (c':=c2+2) rfl ?_
  | refine a0y 30 (a0a ei_23.h omy rfl omy omy (a1a rfl omy) omy rfl) rfl rfl (a0h rfl (a0L rfl)) rfl rfl (c':=c2+2) rfl ?_
  | refine a0y 30 (a0a ei_23.h omy rfl omy omy (a0Y rfl) omy rfl) rfl rfl (a0h rfl pre0) rfl rfl (c':=c2+2) rfl ?_
  | refine a0y 30 (a0a ei_23.h omy rfl omy omy (a0G 1 (fun _ _=>default) rfl) omy rfl) rfl rfl (a0h rfl pre0) rfl rfl (c':=c2+2) rfl ?_
  refine ru 3 ?_
  exact hL1 ((t.isNone,q',o4,ks++[r'],g4,c2+1)) _ _ (by (try dsimp only);exact b7T hI hkq hx2) (by (try dsimp only);exact b9z hx2) (a0b rfl lrf (tsr rfl (a0u.cons rfl (a3A sml) a0u.nil)) (hsr rfl (hsr rfl (a0g.cons rfl (a0N (enc:=fun x _=>intV x) (d:=0) rfl (fun i j _ _=>.refl _) (fun j hj=>.refl _)) a0g.nil))))
 obtain ⟨tt,rfl,hdone⟩:=b7S hI (by cases bad with | true=>exact .inl rfl | false=>right;simpa using hr0)
 refine ru 2 ?_
 refine a0c ?_
 refine ru 6 ?_
 refine (a1b 32 [(6,_)] rfl (a0h rfl pre0) rfl ((show Fz _ _ (a2k ks) from a2v (l:=ks) (enc:=fun x _=>intV x) (d:=0) (List.mem_cons_self ..) rfl rfl lrf (fun i j hi hj=>.imm _)))).seq ?_
 refine a0n 33 (xs:=[_,_,_]) (pre:=[(9001,_),(9002,_)]) (c6y _ g l q gg _ tt.isNone o 2 ks rfl om) ⟨rfl,⟨rfl,⟨rfl,trivial⟩⟩⟩ (a0h rfl (a0h rfl pre0)) rfl rfl (fun x3 c3 hy=>?_)
 obtain ⟨g5,o5,r5⟩:=x3
 (try dsimp only)
 refine ru 4 ?_
 refine fr1 ok hX rw1 (⟨tt,q,g5,o5,r5⟩) (hdone _ hy) (kza) ?_
 exact ⟨⟨_,rfl,a5L rfl rfl⟩,⟨⟨_,rfl,a2O⟩,trivial⟩⟩
theorem a7A {sh:List (Nat×HObj)} {a b:Int} (h:a=b):Fz sh (intV a) (intV b):=by subst h;exact .imm _
theorem a6h (x:Int):HPure Tryz.prog 119 [.imm (.int .u8 x)] (boolV (smallZ x)):=by
 refine a0k Tryz.func119 rfl kr _ _ _ rfl 9 rfl rfl (fun w F=>?_)
 refine ru 17 ?_
 refine rt1 ?_
 exact Frz.fz
theorem a2a (x:Int):HPure Tryz.prog 120 [.imm (.int .u8 x)] (boolV (a0T x)):=by
 refine a0k Tryz.func120 rfl kr _ _ _ rfl 9 rfl rfl (fun w F=>?_)
 refine ru 17 ?_
 refine rt1 ?_
 exact Frz.fz
theorem a6c (s:List UInt8) (p:Nat):HPure Tryz.prog 129 [strV s,intV p] (t2 (intV (a1x s p).1) (intV (a1x s p).2)):=by
 refine a0k Tryz.func129 rfl kr _ _ _ rfl 13 rfl rfl (fun w F=>?_)
 refine ru 15 ?_
 refine wdc (fun hr0 hc0=>?_) (fun hr0 hc0=>?_)
 ·refine ru 10 ?_
  refine rt2 ?_
  have e:a1x s p=((s.length:Int),5):=if_pos om;rw [e];exact a5z (.imm _) (.imm _)
 refine ru 10 ?_
 refine rt2 ?_
 have e:a1x s p=((p:Int),2):=if_neg om;rw [e];exact a5z (.imm _) (.imm _)
@[reducible] def d1p (x:Option Int×Nat):HV:=t2 (intV (x.1.getD (-1))) (intV x.2)
theorem b4T (s:List UInt8) (i:Nat) (hs:s.length≤9223372036854775807) (hi:i≤s.length):HPure Tryz.prog 128 [strV s,intV i] (d1p (a5v s i)):=by
 refine a0k Tryz.func128 rfl kr _ _ _ rfl 62 rfl rfl (fun w F=>?_)
 refine ru 17 ?_
 first
 | refine stg 11 (fun hb=>a0e (xs:=[_]) (a2a _) ⟨rfl,trivial⟩ ⟨(Fz.eq rfl),trivial⟩) rfl rfl rfl rfl rfl ?_
 | refine sth 11 (fun hb=>a0e (xs:=[_]) (a2a _) ⟨rfl,trivial⟩ ⟨(Fz.eq rfl),trivial⟩) rfl rfl rfl rfl rfl ?_
 refine ru 4 ?_
 refine wdc (fun hr0 hc0=>?_) (fun hr0 hc0=>?_)
 ·skip
  have d0:a0T (bz s i)=false:=(by have h:=hr0;rw [Int.toNat_natCast,b9R] at h;simpa using h)
  refine ru 9 ?_
  refine rt2 ?_
  rw [b2H d0];exact a5z (.imm _) (.imm _)
 have d0:a0T (bz s i)=true:=(by have h:=hr0;rw [Int.toNat_natCast,b9R] at h;simpa using h);have hil:=a2l d0;have dz:=a1W.1 d0
 refine ru 7 ?_
 refine rvl (.imm (.int .u8 (bz s i))) (by rw [a3R hil,Int.toNat_natCast]) ?_
 refine ru 9 ?_
 refine rvl (intV ((i+1:Nat):Int)) (rfl) ?_
 refine ru 14 ?_
 first
 | refine stg 30 (fun hb=>a0e (xs:=[_]) (a2a _) ⟨rfl,trivial⟩ ⟨(Fz.eq rfl),trivial⟩) rfl rfl rfl rfl rfl ?_
 | refine sth 30 (fun hb=>a0e (xs:=[_]) (a2a _) ⟨rfl,trivial⟩ ⟨(Fz.eq rfl),trivial⟩) rfl rfl rfl rfl rfl ?_
 refine ru 3 ?_
 refine wdc (fun hr1 hc1=>?_) (fun hr1 hc1=>?_)
 ·skip
  have d1:a0T (bz s (i+1))=true:=(by have h:=hr1;rw [Int.toNat_natCast,←b4M] at h;exact h);have hil2:=a2l d1;have dz1:=a1W.1 d1
  refine ru 7 ?_
  refine wdc (fun hr2 hc2=>?_) (fun hr2 hc2=>?_)
  ·refine ru 10 ?_
   refine rt2 ?_
   have e:a5v s i=(none,i+1):=(by unfold a5v;rw [if_pos d0,if_pos d1,if_pos om]);rw [e];exact a5z (.imm _) (.imm _)
  refine ru 9 ?_
  refine rvl (.imm (.int .u8 (bz s (i+1)))) (by rw [a3R hil2,Int.toNat_natCast]) ?_
  refine ru 10 ?_
  refine rvl (intV ((i+2:Nat):Int)) (rfl) ?_
  refine ru 13 ?_
  first
  | refine stg 53 (fun hb=>a0e (xs:=[_]) (a2a _) ⟨rfl,trivial⟩ ⟨(Fz.eq rfl),trivial⟩) rfl rfl rfl rfl rfl ?_
  | refine sth 53 (fun hb=>a0e (xs:=[_]) (a2a _) ⟨rfl,trivial⟩ ⟨(Fz.eq rfl),trivial⟩) rfl rfl rfl rfl rfl ?_
  refine ru 3 ?_
  refine wdc (fun hr3 hc3=>?_) (fun hr3 hc3=>?_)
  ·skip
   have d2:a0T (bz s (i+2))=true:=(by have h:=hr3;rw [Int.toNat_natCast,←b4M] at h;exact h)
   refine ru 9 ?_
   refine rt2 ?_
   have e:a5v s i=(none,i+2):=(by unfold a5v;rw [if_pos d0,if_pos d1,if_neg om,if_pos d2]);rw [e];exact a5z (.imm _) (.imm _)
  have d2:a0T (bz s (i+2))=false:=(by have h:=hr3;rw [Int.toNat_natCast,←b4M] at h;exact h)
  refine ru 11 ?_
  refine rt2 ?_
  have e:a5v s i=(some (10 * (bz s i - 48)+(bz s (i+1) - 48)),i+2):=(by unfold a5v;rw [if_pos d0,if_pos d1,if_neg om,if_neg (by rw [d2];decide)]);rw [e];exact a5z (.imm _) (.imm _)
 have d1:a0T (bz s (i+1))=false:=(by have h:=hr1;rw [Int.toNat_natCast,←b4M] at h;exact h)
 refine ru 11 ?_
 refine rt2 ?_
 have e:a5v s i=(some (bz s i - 48),i+1):=(by unfold a5v;rw [if_pos d0,if_neg (by rw [d1];decide)]);rw [e];exact a5z (.imm _) (.imm _)
theorem b7M {s:List UInt8} {i:Nat} {x:Option Int×Nat} (hs:s.length≤9223372036854775807) (hi:i≤s.length) (h:a5v s i=x):HPure Tryz.prog 128 [strV s,intV i] (d1p x):=h▸b4T s i hs hi
@[reducible] def d3E (x:Sg×Int×Int):HV:=t3 (sgH x.1) (intV x.2.1) (intV x.2.2)
theorem b8I (s:List UInt8) (i:Nat) (hs:s.length≤9223372036854775807) (hi:i < s.length):HPure Tryz.prog 121 [strV s,intV i] (d3E (a1V s i)):=by
 refine a0k Tryz.func121 rfl kr _ _ _ rfl 143 rfl rfl (fun w F=>?_)
 refine ru 16 ?_
 rcases hn:a5v s (i+1) with ⟨_ | n,p⟩
 ·refine ru 4 ?_
  refine rvl (intV ((i+1:Nat):Int)) (rfl) ?_
  refine cll (b7M hs hi hn) ?_
  refine ru 2 ?_
  refine rvl (intV (-1)) (rfl) ?_
  refine ru 1 ?_
  refine rvl (intV p) (rfl) ?_
  refine ru 6 ?_
  have hnp:=a6K om hn
  refine ru 5 ?_
  refine wdc (fun hr0 hc0=>?_) (fun hr0 hc0=>?_)
  ·refine ru 4 ?_
   refine cll (a6c s p) ?_
   refine ru 19 ?_
   refine rt3 ?_
   have e:a1V s i=(⟨5,i,0,0,[]⟩,a1x s p):=(by unfold a1V;rw [hn]);rw [e];exact a2M (a1f fzc fzc fzc fzc fzc) (.imm _) (.imm _)
  exfalso;exact absurd hr0 sml
 ·refine ru 4 ?_
  refine rvl (intV ((i+1:Nat):Int)) (rfl) ?_
  refine cll (b7M hs hi hn) ?_
  refine ru 2 ?_
  refine rvl (intV n) (rfl) ?_
  refine ru 1 ?_
  refine rvl (intV p) (rfl) ?_
  refine ru 6 ?_
  have hnp:=a6K om hn
  refine ru 5 ?_
  refine wdc (fun hr0 hc0=>?_) (fun hr0 hc0=>?_)
  ·skip
   exfalso;have:=hnp.2.2 n rfl;omega
  refine ru 25 ?_
  refine wdc (fun hr1 hc1=>?_) (fun hr1 hc1=>?_)
  ·skip
   have h1:20 < n∨(n=0∧bz s p=125):=(by have h:=hr1;rw [Int.toNat_natCast,c0L] at h;exact of_decide_eq_true h)
   refine ru 12 ?_
   refine rt3 ?_
   have e:a1V s i=(⟨5,i,0,0,[]⟩,((i+1:Nat):Int),3):=(by unfold a1V;rw [hn];simp only;rw [if_pos h1]);rw [e];exact a2M (a1f fzc fzc fzc fzc fzc) (.imm _) (.imm _)
  have h1:¬ (20 < n∨(n=0∧bz s p=125)):=(by have h:=hr1;rw [Int.toNat_natCast,c0L] at h;exact of_decide_eq_false h)
  refine ru 31 ?_
  refine wdc (fun hr2 hc2=>?_) (fun hr2 hc2=>?_)
  ·skip
   have h2:bz s p=44:=(by have h:=hr2;rw [Int.toNat_natCast,c0T s p dcd] at h;exact of_decide_eq_true h);have hlt:=a4P (s:=s) (i:=p) om
   refine ru 4 ?_
   refine rvl (intV ((p+1:Nat):Int)) (rfl) ?_
   refine ru 29 ?_
   refine wdc (fun hr3 hc3=>?_) (fun hr3 hc3=>?_)
   ·skip
    have h3:¬ bz s (p+1)=125:=(by have h:=hr3;rw [Int.toNat_natCast,b0e s (p+1) dcd] at h;simpa using h)
    refine ru 1 ?_
    rcases hm:a5v s (p+1) with ⟨_ | m,q⟩
    ·refine ru 3 ?_
     refine cll (b7M hs hlt hm) ?_
     refine ru 2 ?_
     refine rvl (intV (-1)) (rfl) ?_
     refine ru 1 ?_
     refine rvl (intV q) (rfl) ?_
     refine ru 6 ?_
     have hmq:=a6K om hm
     refine ru 5 ?_
     refine wdc (fun hr4 hc4=>?_) (fun hr4 hc4=>?_)
     ·refine ru 4 ?_
      refine cll (a6c s q) ?_
      refine ru 20 ?_
      refine rt3 ?_
      have e:a1V s i=(⟨5,i,n,-1,[]⟩,a1x s q):=(by unfold a1V;rw [hn];simp only;rw [if_neg h1,if_pos h2,if_neg h3,hm]);rw [e];exact a2M (a1f fzc fzc fzc fzc fzc) (.imm _) (.imm _)
     exfalso;exact absurd hr4 sml
    ·refine ru 3 ?_
     refine cll (b7M hs hlt hm) ?_
     refine ru 2 ?_
     refine rvl (intV m) (rfl) ?_
     refine ru 1 ?_
     refine rvl (intV q) (rfl) ?_
     refine ru 6 ?_
     have hmq:=a6K om hm
     refine ru 5 ?_
     refine wdc (fun hr4 hc4=>?_) (fun hr4 hc4=>?_)
     ·skip
      exfalso;have:=hmq.2.2 m rfl;omega
     refine ru 18 ?_
     refine wdc (fun hr5 hc5=>?_) (fun hr5 hc5=>?_)
     ·skip
      have h5:m < 1∨20 < m∨m < n:=(by have h:=hr5;simp only [Bool.or_eq_true,decide_eq_true_eq] at h;omega)
      refine ru 12 ?_
      refine rt3 ?_
      have e:a1V s i=(⟨5,i,n,-1,[]⟩,((p+1:Nat):Int),3):=(by unfold a1V;rw [hn];simp only;rw [if_neg h1,if_pos h2,if_neg h3,hm];simp only;rw [if_pos h5]);rw [e];exact a2M (a1f fzc fzc fzc fzc fzc) (.imm _) (.imm _)
     have h5:¬ (m < 1∨20 < m∨m < n):=(by have h:=hr5;simp only [Bool.or_eq_false_iff,decide_eq_false_iff_not] at h;omega)
     refine ru 29 ?_
     refine wdc (fun hr6 hc6=>?_) (fun hr6 hc6=>?_)
     ·skip
      have h6:¬ bz s q=125:=(by have h:=hr6;rw [Int.toNat_natCast,b0e s q dcd] at h;simpa using h)
      refine ru 4 ?_
      refine cll (a6c s q) ?_
      refine ru 19 ?_
      refine rt3 ?_
      have e:a1V s i=(⟨5,i,n,m,[]⟩,a1x s q):=(by unfold a1V;rw [hn];simp only;rw [if_neg h1,if_pos h2,if_neg h3,hm];simp only;rw [if_neg h5,if_neg h6]);rw [e];exact a2M (a1f fzc fzc fzc fzc fzc) (.imm _) (.imm _)
     have h6:bz s q=125:=(by have h:=hr6;rw [Int.toNat_natCast,b0e s q dcd] at h;simpa using h)
     refine ru 13 ?_
     refine rt3 ?_
     have e:a1V s i=(⟨5,i,n,m,[]⟩,((q+1:Nat):Int),0):=(by unfold a1V;rw [hn];simp only;rw [if_neg h1,if_pos h2,if_neg h3,hm];simp only;rw [if_neg h5,if_pos h6]);rw [e];exact a2M (a1f fzc fzc fzc fzc fzc) (.imm _) (.imm _)
   have h3:bz s (p+1)=125:=(by have h:=hr3;rw [Int.toNat_natCast,b0e s (p+1) dcd] at h;simpa using h)
   refine ru 17 ?_
   refine wdc (fun hr6 hc6=>?_) (fun hr6 hc6=>?_)
   ·skip
    exfalso;have h:=hr6;rw [Int.toNat_natCast,b0e s (p+1) dcd,h3] at h;exact absurd h dcd
   refine ru 13 ?_
   refine rt3 ?_
   have e:a1V s i=(⟨5,i,n,-1,[]⟩,((p+2:Nat):Int),0):=(by unfold a1V;rw [hn];simp only;rw [if_neg h1,if_pos h2,if_pos h3]);rw [e];exact a2M (a1f fzc fzc fzc fzc fzc) (a7A (by show ((p+1:Nat):Int)+1=((p+2:Nat):Int);omega)) (.imm _)
  have h2:¬ bz s p=44:=(by have h:=hr2;rw [Int.toNat_natCast,c0T s p dcd] at h;exact of_decide_eq_false h)
  refine ru 17 ?_
  refine wdc (fun hr6 hc6=>?_) (fun hr6 hc6=>?_)
  ·skip
   have h6:¬ bz s p=125:=(by have h:=hr6;rw [Int.toNat_natCast,b0e s p dcd] at h;simpa using h)
   refine ru 4 ?_
   refine cll (a6c s p) ?_
   refine ru 19 ?_
   refine rt3 ?_
   have e:a1V s i=(⟨5,i,n,n,[]⟩,a1x s p):=(by unfold a1V;rw [hn];simp only;rw [if_neg h1,if_neg h2,if_neg h6]);rw [e];exact a2M (a1f fzc fzc fzc fzc fzc) (.imm _) (.imm _)
  have h6:bz s p=125:=(by have h:=hr6;rw [Int.toNat_natCast,b0e s p dcd] at h;simpa using h)
  refine ru 13 ?_
  refine rt3 ?_
  have e:a1V s i=(⟨5,i,n,n,[]⟩,((p+1:Nat):Int),0):=(by unfold a1V;rw [hn];simp only;rw [if_neg h1,if_neg h2,if_pos h6]);rw [e];exact a2M (a1f fzc fzc fzc fzc fzc) (.imm _) (.imm _)
theorem a9K (x:Int):HPure Tryz.prog 100 [.imm (.int .u8 x)] (boolV (a5t x)):=by
 refine a0k Tryz.func100 rfl kr _ _ _ rfl 33 rfl rfl (fun w F=>?_)
 refine ru 8 ?_
 refine cll (a6h _) ?_
 refine ru 32 ?_
 refine rt1 ?_
 exact Frz.fz
theorem b7A (s:List UInt8) (i:Nat) (hs:s.length≤9223372036854775807) (hi:i < s.length):HPure Tryz.prog 101 [strV s,intV i] (d3E (a8D s i)):=by
 refine a0k Tryz.func101 rfl kr _ _ _ rfl 93 rfl rfl (fun w F=>?_)
 refine ru 12 ?_
 refine rvl (.imm (.int .u8 (bz s i))) (by rw [a3R hi,Int.toNat_natCast]) ?_
 refine ru 7 ?_
 refine cll (a6h _) ?_
 refine ru 2 ?_
 refine wdc (fun hr0 hc0=>?_) (fun hr0 hc0=>?_)
 ·refine ru 8 ?_
  refine a0l (α:=Nat) (fun x c=>⟨93,[(0,.v (strV s)),(1,.v (intV i)),(4,.v (.pt 4 0 0 0)),(8,.v (intV ((i+x:Nat):Int)))],[(4,⟨0,1,5,146,0,sg0⟩)],c⟩) (fun x=>x≤12∧i+x≤s.length∧(∀ j,j < x→alnumZ (bz s (i+j))=true)) (fun x=>12 - x) (0) (by exact ⟨by omega,by omega,fun j h=>absurd h om⟩) (a0b rfl lrf tsa hsa) (fun k c hx NhL1 hL1=>?_)
  (try dsimp only at hx hL1 ⊢)
  obtain ⟨hk,hik,hal⟩:=hx
  refine ru 11 ?_
  first
  | refine stg 19 (fun hb=>a0e (xs:=[_]) (a6h _) ⟨rfl,trivial⟩ ⟨(Fz.eq rfl),trivial⟩) rfl rfl rfl rfl rfl ?_
  | refine sth 19 (fun hb=>a0e (xs:=[_]) (a6h _) ⟨rfl,trivial⟩ ⟨(Fz.eq rfl),trivial⟩) rfl rfl rfl rfl rfl ?_
  refine ru 4 ?_
  first
  | refine stg 24 (fun hb=>a0e (xs:=[_]) (a2a _) ⟨rfl,trivial⟩ ⟨(Fz.eq rfl),trivial⟩) rfl rfl rfl rfl rfl ?_
  | refine a5y 28 9 24 19 true false _ _ (fun hb hb2=>a0e (xs:=[_]) (a2a _) ⟨rfl,trivial⟩ ⟨(Fz.eq rfl),trivial⟩) rfl rfl rfl rfl rfl pre0 rfl rfl rfl ?_
  | refine sth 24 (fun hb=>a0e (xs:=[_]) (a2a _) ⟨rfl,trivial⟩ ⟨(Fz.eq rfl),trivial⟩) rfl rfl rfl rfl rfl ?_
  refine ru 4 ?_
  refine wdc (fun hr1 hc1=>?_) (fun hr1 hc1=>?_)
  ·skip
   have hall:alnumZ (bz s (i+k))=true:=(by have h:=hr1;rw [Int.toNat_natCast,b7p] at h;exact h);have hlt:i+k < s.length:=a4P (fun h=>by rw [h] at hall;exact absurd hall dcd)
   refine ru 12 ?_
   refine wdc (fun hr2 hc2=>?_) (fun hr2 hc2=>?_)
   ·refine ru 12 ?_
    refine a0q ?_
    refine ru 3 ?_
    refine rt3 ?_
    obtain rfl:k=12:=om;have e:a8D s i=(sgZ,((i+12:Nat):Int),2):=(by unfold a8D;rw [if_pos hc0];unfold c4z;rw [if_pos (b3E lrf (fun j hj=>by rcases Nat.lt_or_ge j 12 with h | h;exact hal j h;obtain rfl:j=12:=om;exact hall) (fun h=>absurd h om))]);rw [e];exact a2M (a1f fzc fzc fzc fzc fzc) (.imm _) (.imm _)
   refine ru 5 ?_
   refine rvl (intV ((i+(k+1):Nat):Int)) (rfl) ?_
   refine ru 3 ?_
   exact hL1 (k+1) _ _ (by (try dsimp only);exact ⟨by omega,by omega,fun j hj=>by rcases Nat.lt_or_ge j k with h | h;exact hal j h;obtain rfl:j=k:=om;exact hall⟩) omd (a0b rfl lrf tsa hsa)
  have hno:alnumZ (bz s (i+k))=false:=(by have h:=hr1;rw [Int.toNat_natCast,b7p] at h;exact h)
  refine ru 2 ?_
  refine a0c ?_
  refine ru 18 ?_
  refine rt3 ?_
  have e:a8D s i=(⟨1,i,0,0,(s.drop i).take (i+k - i)⟩,((i+k:Nat):Int),0):=(by unfold a8D;rw [if_pos hc0];unfold c4z;rw [b3E (f:=13) (show k≤13 by omega) hal (fun _=>hno),if_neg (show ¬ k=13 by omega),show i+k - i=k by omega]);rw [e];exact a2M (a1f fzc fzc fzc fzc fzc) (.imm _) (.imm _)
 have h0:¬ smallZ (bz s i)=true:=(by rw [hc0];decide)
 refine ru 15 ?_
 refine wdc (fun hr3 hc3=>?_) (fun hr3 hc3=>?_)
 ·refine ru 14 ?_
  refine rt3 ?_
  have e:a8D s i=(⟨2,i,0,0,[]⟩,((i+1:Nat):Int),0):=(by unfold a8D;rw [if_neg h0,if_pos hc3]);rw [e];exact a2M (a1f fzc fzc fzc fzc fzc) (.imm _) (.imm _)
 refine ru 6 ?_
 refine wdc (fun hr4 hc4=>?_) (fun hr4 hc4=>?_)
 ·refine ru 14 ?_
  refine rt3 ?_
  have e:a8D s i=(⟨3,i,0,0,[]⟩,((i+1:Nat):Int),0):=(by unfold a8D;rw [if_neg h0,if_neg hc3,if_pos hc4]);rw [e];exact a2M (a1f fzc fzc fzc fzc fzc) (.imm _) (.imm _)
 refine ru 6 ?_
 refine wdc (fun hr5 hc5=>?_) (fun hr5 hc5=>?_)
 ·refine ru 14 ?_
  refine rt3 ?_
  have e:a8D s i=(⟨4,i,0,0,[]⟩,((i+1:Nat):Int),0):=(by unfold a8D;rw [if_neg h0,if_neg hc3,if_neg hc4,if_pos hc5]);rw [e];exact a2M (a1f fzc fzc fzc fzc fzc) (.imm _) (.imm _)
 refine ru 6 ?_
 refine wdc (fun hr6 hc6=>?_) (fun hr6 hc6=>?_)
 ·refine ru 14 ?_
  refine rt3 ?_
  have e:a8D s i=(⟨5,i,0,-1,[]⟩,((i+1:Nat):Int),0):=(by unfold a8D;rw [if_neg h0,if_neg hc3,if_neg hc4,if_neg hc5,if_pos hc6]);rw [e];exact a2M (a1f fzc fzc fzc fzc fzc) (.imm _) (.imm _)
 refine ru 6 ?_
 refine wdc (fun hr7 hc7=>?_) (fun hr7 hc7=>?_)
 ·refine ru 14 ?_
  refine rt3 ?_
  have e:a8D s i=(⟨5,i,1,-1,[]⟩,((i+1:Nat):Int),0):=(by unfold a8D;rw [if_neg h0,if_neg hc3,if_neg hc4,if_neg hc5,if_neg hc6,if_pos hc7]);rw [e];exact a2M (a1f fzc fzc fzc fzc fzc) (.imm _) (.imm _)
 refine ru 6 ?_
 refine wdc (fun hr8 hc8=>?_) (fun hr8 hc8=>?_)
 ·refine ru 14 ?_
  refine rt3 ?_
  have e:a8D s i=(⟨5,i,0,1,[]⟩,((i+1:Nat):Int),0):=(by unfold a8D;rw [if_neg h0,if_neg hc3,if_neg hc4,if_neg hc5,if_neg hc6,if_neg hc7,if_pos hc8]);rw [e];exact a2M (a1f fzc fzc fzc fzc fzc) (.imm _) (.imm _)
 refine ru 6 ?_
 refine wdc (fun hr9 hc9=>?_) (fun hr9 hc9=>?_)
 ·refine ru 4 ?_
  refine cll (b8I s i hs hi) ?_
  refine ru 11 ?_
  refine rt3 ?_
  have e:a8D s i=a1V s i:=(by unfold a8D;rw [if_neg h0,if_neg hc3,if_neg hc4,if_neg hc5,if_neg hc6,if_neg hc7,if_neg hc8,if_pos hc9]);rw [e];exact a2M (a1f fzc fzc fzc fzc fzc) (.imm _) (.imm _)
 refine ru 13 ?_
 refine rt3 ?_
 have e:a8D s i=(sgZ,(i:Int),2):=(by unfold a8D;rw [if_neg h0,if_neg hc3,if_neg hc4,if_neg hc5,if_neg hc6,if_neg hc7,if_neg hc8,if_neg hc9]);rw [e];exact a2M (a1f fzc fzc fzc fzc fzc) (.imm _) (.imm _)
theorem d3r {f:Nat→HV} (x:Sg) (h0:Sb (f 0) (sgF x 0)) (h1:Sb (f 1) (sgF x 1)) (h2:Sb (f 2) (sgF x 2)) (h3:Sb (f 3) (sgF x 3)) (h4:Sb (f 4) (sgF x 4)):∀ j,j < 5→Sb (f j) (sgF x j):=fun j hj=>by
 match j,hj with
 | 0,_=>exact h0
 | 1,_=>exact h1
 | 2,_=>exact h2
 | 3,_=>exact h3
 | 4,_=>exact h4
theorem d1z {sh:List (Nat×HObj)} (x:Sg) (j:Nat):Fz sh (sgF x j) (sgF x j):=by
 match j with
 | 0=>exact .imm _
 | 1=>exact .imm _
 | 2=>exact .imm _
 | 3=>exact .imm _
 | j+4=>exact .imm _
theorem c4i (s:List UInt8) (hs:s.length≤9223372036854775807):HPure Tryz.prog 61 [strV s] (c5Z (b9u (lexV s))):=by
 have hV:=b5F s
 refine a0k Tryz.func61 rfl kr _ _ _ rfl 47 rfl rfl (fun w F=>?_)
 refine ru 19 ?_
 refine a9J 5 5 5 146 ((c6x [])) rfl dcd rfl (c':=1) rfl ?_
 refine a0l (α:=Nat×List Sg×Nat×Nat) (fun x c=>⟨47,[(0,.v (strV s)),(6,.v (intV x.1)),(5,.v (.os 5 x.2.2.1 0 x.2.2.2))],[(5,⟨x.2.2.1,x.2.2.2,5,146,0,c6x x.2.1⟩)],c⟩) (fun x=>x.1≤s.length∧x.2.1.length≤200∧x.2.2.2=x.2.1.length∧a5f s x.1 x.2.1=lexV s) (fun x=>s.length - x.1) ((0,[],0,0)) (by exact ⟨Nat.zero_le _,Nat.zero_le _,rfl,hV⟩) (a0b rfl lrf tsa hsa) (fun x c hx NhL1 hL1=>?_)
 revert hx hL1;obtain ⟨i,out,gl,n⟩:=x;intro hx hL1;dsimp only at hx hL1 ⊢
 obtain ⟨hi,hol,hn,hL⟩:=hx
 refine ru 9 ?_
 refine wdc (fun hr0 hc0=>?_) (fun hr0 hc0=>?_)
 ·skip
  have hil:i < s.length:=om
  refine ru 9 ?_
  refine rvl (.imm (.int .u8 (bz s i))) (by rw [a3R hil,Int.toNat_natCast]) ?_
  refine ru 3 ?_
  refine wdc (fun hr1 hc1=>?_) (fun hr1 hc1=>?_)
  ·refine ru 4 ?_
   refine rvl (intV ((i+1:Nat):Int)) (rfl) ?_
   refine ru 6 ?_
   exact hL1 ((i+1,out,gl,n)) _ _ (by (try dsimp only);exact ⟨hil,hol,hn,by rw [←b2n hil hc1];exact hL⟩) omd (a0b rfl lrf tsa hsa)
  refine ru 12 ?_
  refine ry (.imm (.int .u8 (bz s i))) rfl (fun hb=>by rw [a3R hil,Int.toNat_natCast]) ?_
  first
  | refine stg 23 (fun hb=>a0e (xs:=[_]) (a9K _) ⟨rfl,trivial⟩ ⟨(Fz.eq rfl),trivial⟩) rfl rfl rfl rfl rfl ?_
  | refine sth 23 (fun hb=>a0e (xs:=[_]) (a9K _) ⟨rfl,trivial⟩ ⟨(Fz.eq rfl),trivial⟩) rfl rfl rfl rfl rfl ?_
  refine ru 3 ?_
  refine wdc (fun hr2 hc2=>?_) (fun hr2 hc2=>?_)
  ·refine ru 11 ?_
   refine a0q ?_
   refine ru 2 ?_
   refine rt3 ?_
   have e:lexV s=.error ((i:Int),4):=(by rw [←hL];exact b0V hil hc1 om hc2.2);rw [e];exact a2M (.nil 0 5 _ dcd none) (.imm _) (.imm _)
  refine ru 3 ?_
  have hsm:=b7Z s i hil;rcases hone:a4j s i with e | ⟨x,q⟩ <;> rw [hone] at hsm
  ·refine ru 3 ?_
   refine cll (b7A s i hs hil) ?_
   refine ru 3 ?_
   refine rvl (intV e.1) (by rw [←hsm.1];rfl) ?_
   refine ru 1 ?_
   refine rvl (intV e.2) (by rw [←hsm.1];rfl) ?_
   refine ru 13 ?_
   refine wdc (fun hr3 hc3=>?_) (fun hr3 hc3=>?_)
   ·refine ru 12 ?_
    refine a0q ?_
    refine ru 2 ?_
    refine rt3 ?_
    have e':lexV s=.error e:=(by rw [←hL];rcases Classical.em (out.length=200) with h200 | h200;(have hb:a5t (bz s i)=false:=(by have h:=hr2;rw [show ((n:Int) == 200)=true by (rw [hn,h200];try rfl),Bool.true_and] at h;exact h);rw [b3S hil hc1 h200 hb];rw [a9v hb] at hone;injection hone with hone;rw [hone]);exact b3Z hil hc1 h200 hone);rw [e'];exact a2M (.nil 0 5 _ dcd none) (.imm _) (.imm _)
   exfalso;exact hsm.2 (by simpa using hr3)
  ·refine ru 3 ?_
   refine cll (b7A s i hs hil) ?_
   refine ru 2 ?_
   refine rvl (sgH x) (by rw [show a8D s i=(x,(q:Int),0) from hsm];rfl) ?_
   refine ru 1 ?_
   refine rvl (intV q) (by rw [show a8D s i=(x,(q:Int),0) from hsm];rfl) ?_
   refine ru 1 ?_
   refine rvl (intV 0) (by rw [show a8D s i=(x,(q:Int),0) from hsm];rfl) ?_
   refine ru 13 ?_
   refine wdc (fun hr3 hc3=>?_) (fun hr3 hc3=>?_)
   ·skip
    exfalso;exact absurd hr3 dcd
   refine ru 3 ?_
   have hq:=a8B hone;have h200:¬ out.length=200:=(fun h200=>by have h:=hr2;rw [show ((n:Int) == 200)=true by (rw [hn,h200];try rfl),Bool.true_and] at h;rw [a9v h] at hone;cases hone)
   refine ru 3 ?_
   refine a0y 43 (a0d (id:=43) (hs:=[_]) ei_142.h omx rfl omx ⟨rfl,rfl,rfl,rfl,trivial⟩) rfl rfl pre0 rfl rfl (c':=c+3) rfl ?_
   first
   | refine a0y 44 (a0a ei_142.h omy rfl omy omy (a0D rfl omy) omy rfl) rfl rfl (a0h rfl (a0L rfl)) rfl rfl (c':=c+4) rfl ?_
   | refine a0y 44 (a0a ei_142.h omy rfl omy omy (a1a rfl omy) omy rfl) rfl rfl (a0h rfl (a0L rfl)) rfl rfl (c':=c+4) rfl ?_
   | refine a0y 44 (a0a ei_142.h omy rfl omy omy (a0Y rfl) omy rfl) rfl rfl (a0h rfl pre0) rfl rfl (c':=c+4) rfl ?_
   | refine a0y 44 (a0a ei_142.h omy rfl omy omy (a0G 5 (fun _ _=>default) rfl) omy rfl) rfl rfl (a0h rfl pre0) rfl rfl (c':=c+4) rfl ?_
   refine ru 8 ?_
   exact hL1 ((q,out++[x],c+3,n+1)) _ _ (by (try dsimp only);exact ⟨hq.2,by rw [List.length_append];show out.length+1≤200;omega,by rw [List.length_append,hn];rfl,by rw [←b2h hil hc1 h200 hone];exact hL⟩) omd (a0b rfl lrf tsa (a0g.cons rfl (a2m.of fun i j hi hj=>c2J (l:=out) (k:=[x]) (enc:=sgF) (d:=default) hn (fun i j _ _=>.refl _) (c2c (x:=x) (enc:=sgF) (d:=default) (d3r x (.refl _) (.refl _) (.refl _) (.refl _) (.refl _))) i j (by rw [List.length_append,←hn];exact hi) hj) a0g.nil))
 refine ru 2 ?_
 refine a0c ?_
 refine ru 11 ?_
 refine b2Y rfl (a0f rfl) (a0f rfl) (a0f rfl) [(5,_)] rfl (a0h rfl pre0) ?_
 have e:lexV s=.ok out:=(by rw [←hL];exact b0g om);rw [e];exact a2M (a2v (l:=out) (enc:=sgF) (d:=default) (List.mem_cons_self ..) rfl hn lrf (fun i j hi hj=>d1z _ j)) (.imm _) (.imm _)
instance frz_sgs (l:List Sg):Frz (a7Q l):=⟨.sl _ _ _ _ fun i j _ _=>c7q _ j⟩
theorem b2V {s:List UInt8}:∀ {f i:Nat} {out l:List Sg},out.length≤200→b4O s f i out=.ok l→l.length≤200
  | 0,i,out,l,h,e=>by injection e with e;subst e;exact h
  | f + 1, i, out, l, h, e => by
    simp only [b4O] at e
    split at e
    · injection e with e;subst e;exact h
    split at e
    · exact b2V h e
    split at e
    · split at e <;> cases e
    · rename_i hne
      split at e
      · cases e
      · exact b2V (by rw [List.length_append];show out.length+1≤200;omega) e
theorem a9n (s:List UInt8):(b9u (lexV s)).1.length≤200:=by
 cases h:lexV s with
 | error e=>exact Nat.zero_le _
 | ok l=>exact b2V (Nat.zero_le _) h
theorem b2E {s:List UInt8}:∀ {f i:Nat} {out:List Sg} {e:Int×Int},b4O s f i out=.error e→e.2≠0
  | 0,i,out,e,h=>by cases h
  | f + 1, i, out, e, h => by
    simp only [b4O] at h
    split at h
    · cases h
    rename_i hi
    split at h
    · exact b2E h
    split at h
    · split at h
      · injection h with h;subst h;show (4:Int)≠0;decide
      · injection h with h;subst h;exact a7k s i
    · split at h
      · rename_i e' he
        injection h with h;subst h
        have:=b7Z s i omo
        rw [he] at this
        exact this.2
      · exact b2E h
theorem a6Z {s:List UInt8} {e:Int×Int} (h:lexV s=.error e):(b9u (.error e)).2.2≠0:=b2E h
def ChI (l:List Sg) (p:Nat) (out:List Pt) (bad:Bool) (q:Nat) (o:List Pt) (ks:List Int):Prop :=
 (1≤ks.length∧ks.length≤2 * (q - p)+1)∧p≤q∧q≤l.length∧match bad with
 | true=>BadS l p q∧o.length+(if ks.length=1 then 0 else 1)≤out.length+2 * (q - p)
 | false=>(kd l q≠1∧kd l q≠2)∧∃ ts,b2o l p q ts∧o=out++T.flatL out.length ts∧ks=rootsL out.length ts
theorem b7B {l:List Sg} {p q g:Nat} {out o:List Pt} {t:Option T} {r:Int} (h:a6C l 2 p out ⟨t,q,g,o,r⟩):ChI l p out t.isNone q o [r]:=by
 have hle:=b2S h
 refine ⟨⟨Nat.le_refl _,by show 1≤_;omega⟩,hle.1,hle.2.1,?_⟩
 cases t with
 | none=>exact ⟨h.1,h.2⟩
 | some t=>exact ⟨h.2.2.2.1 lrf,[t],c4A h.1,by rw [show o=_ from h.2.1];simp [T.flatL],by rw [show r=_ from h.2.2.1];rfl⟩
theorem c2Q {l:List Sg} {p q q' g:Nat} {out o o':List Pt} {ks:List Int} {t:Option T} {r:Int} (h:ChI l p out false q o ks) (hk:kd l q=4) (h2:a6C l 2 (q+1) o ⟨t,q',g,o',r⟩):ChI l p out t.isNone q' o' (ks++[r]):=by
  have hle:q+1≤q'∧q'≤l.length∧o'.length≤o.length+2 * (q' - (q+1)):=b2S h2
  obtain ⟨h1,hpq,hql,_,ts,hi,ho,hks⟩:=h
  have hlt:=b5J hi
  have hol:o.length=out.length+T.sizeL ts:=by rw [ho,List.length_append,T.flatL_len]
  have hkl:ks.length=ts.length:=by rw [hks,a0M]
  refine ⟨by rw [List.length_append];show 1≤ks.length+1∧ks.length+1≤_;omega,by omega,hle.2.1,?_⟩
  cases t with
  | none =>
    refine ⟨c4Q hi hk h2.1,?_⟩
    rw [if_neg (by rw [List.length_append];show ¬ ks.length+1=1;omega)]
    have:=hi.1
    omega
  | some t =>
    refine ⟨h2.2.2.2.1 lrf,ts++[t],c2d hi hk h2.1,?_,?_⟩
    · rw [show o'=_ from h2.2.1,ho,T.flatL_snoc,List.append_assoc,List.length_append,T.flatL_len]
    · rw [show r=_ from h2.2.2.1,hks,a4f,hol]
theorem d2M {l:List Sg} {p q:Nat} {out o:List Pt} {ks:List Int} {bad:Bool} (h:ChI l p out bad q o ks):o.length≤out.length+2 * (q - p):=by
  obtain ⟨h1,hpq,hql,h⟩:=h
  cases bad with
  | true=>have:=h.2;omega
  | false =>
    obtain ⟨_,ts,hi,ho,hks⟩:=h
    have:=b5J hi
    rw [ho,List.length_append,T.flatL_len];omega
theorem c0D {l:List Sg} {v q q' g:Nat} {o o':List Pt} {t:Option T} {r:Int} (hq:q < l.length) (h:a6C l v (q+1) o ⟨t,q',g,o',r⟩):2 * (l.length - q')+(if t.isNone then 0 else 1) < 2 * (l.length - q)+(if false then 0 else 1):=by
 have hle:q+1≤q'∧q'≤l.length∧o'.length≤o.length+2 * (q' - (q+1)):=b2S h
 cases t with
 | none=>show _+0 < _+1;omega
 | some t=>show _+1 < _+1;omega
theorem c0W {l:List Sg} {p q:Nat} {out o:List Pt} {ks:List Int} {bad:Bool} (h:ChI l p out bad q o ks) (hk:bad=true∨kd l q≠4):∃ tt:Option T,tt.isNone=bad∧∀ y,b0O 3 o ks y→a6C l 3 p out ⟨tt,q,y.1,y.2.1,y.2.2⟩:=by
  obtain ⟨h1,hpq,hql,h⟩:=h
  cases bad with
  | true=>exact ⟨none,rfl,fun y hy=>⟨h.1,b9Y (l:=l) h.2 hy⟩⟩
  | false =>
    obtain ⟨hk2,ts,hi,ho,hks⟩:=h
    have hk:=hk.resolve_left sml
    have hkl:ks.length=ts.length:=by rw [hks,a0M]
    by_cases h2:ts.length=1
    · match ts, h2 with
      | [t], _ =>
        refine ⟨some t,rfl,fun y hy=>?_⟩
        have hy:y.2=(o,ks.getD 0 0):=by unfold b0O at hy;rwa [if_pos (by simpa using hkl)] at hy
        refine ⟨a8E hi,?_,?_,fun _=>hk2,fun _=>hk⟩
        · show y.2.1=_;rw [hy,ho];simp [T.flatL]
        · show y.2.2=_;rw [hy,hks];rfl
    · refine ⟨some (.many 3 ts),rfl,fun y hy=>?_⟩
      have hy:y.2=(o++[⟨3,0,0,[],ks⟩],(o.length:Int)):=by unfold b0O at hy;rwa [if_neg omo] at hy
      refine ⟨a9P hi (by have:=hi.1;omega),?_,?_,fun _=>hk2,fun _=>hk⟩
      · show y.2.1=_;rw [hy,ho,hks];simp [T.flat]
      · show y.2.2=_;rw [hy,ho];simp [T.root,T.size,T.flatL_len];omega
theorem c4j (l:List Sg) (g p:Nat) (hk:b9x l) (hne:l≠[]) (hl:l.length≤1000) (hp:p≤l.length) (hrow:∀ p',p≤p'→p'≤l.length→RsC 82 l 2 g p'):RsC 46 l 3 g p:=by
 intro c g2 out ho
 refine a0p Tryz.func46 rfl kr _ _ _ _ rfl 36 rfl rfl (fun X ok hX=>?_)
 refine ru 8 ?_
 refine a0n 5 (xs:=[_]) (pre:=[(9001,_),(9002,_)]) (hrow p lrf hp _ g2 out ho) ⟨rfl,trivial⟩ (a0h rfl (a0h rfl pre0)) rfl rfl (fun x1 c1 hx=>?_)
 obtain ⟨t1,q1,g3,o3,r⟩:=x1
 (try dsimp only)
 refine a0y 6 (a0d (id:=6) (hs:=[_]) ei_23.h omx rfl omx ⟨rfl,rfl,rfl,rfl,trivial⟩) rfl rfl pre0 rfl rfl (c':=c1+1) rfl ?_
 refine ru 5 ?_
 refine a0l (α:=Bool×Nat×List Pt×List Int×Nat×Nat) (fun x c=>⟨36,[(0,.v (.pt 9001 g 0 0)),(3,.v (.os 6 x.2.2.2.2.2 0 x.2.2.2.1.length))],[(9001,erO g l x.2.1 x.2.2.2.2.1 x.2.2.1.length x.1),(9002,b8w x.2.2.2.2.1 x.2.2.1),(6,⟨x.2.2.2.2.2,x.2.2.2.1.length,1,3,0,a4S x.2.2.2.1⟩)],c⟩) (fun x=>ChI l p out x.1 x.2.1 x.2.2.1 x.2.2.2.1) (fun x=>2 * (l.length - x.2.1)+(if x.1 then 0 else 1)) ((t1.isNone,q1,o3,[r],g3,c1)) (by exact b7B hx) (a0b rfl lrf tsa (hsr rfl (hsr rfl (a0g.cons rfl (a2m.of fun i j hi hj=>by obtain rfl:i=0:=om;exact .refl _) a0g.nil)))) (fun x c hx NhL1 hL1=>?_)
 revert hx hL1;obtain ⟨bad,q,o,ks,gg,gk⟩:=x;intro hx hL1;dsimp only at hx hL1 ⊢
 obtain ⟨hq1,hq2,hq3,hR⟩:=hx
 have hI:ChI l p out bad q o ks:=⟨hq1,hq2,hq3,hR⟩;have hol:=d2M hI
 refine ru 12 ?_
 first
 | refine b4a 16 5 12 true _ (fun hb=>a0B (xs:=[_]) (pre:=[(9001,_),(9002,_)]) (a5u g l q gg o bad hl hI.2.2.1) ⟨rfl,trivial⟩) rfl rfl rfl rfl (a0h rfl (a0h rfl pre0)) rfl rfl rfl ?_
 | refine b6r 16 5 12 _ _ true _ (fun hb=>a0B (xs:=[_]) (pre:=[(9001,_),(9002,_)]) (a5u g l q gg o bad hl hI.2.2.1) ⟨rfl,trivial⟩) rfl rfl rfl rfl (a0h rfl (a0h rfl pre0)) rfl rfl rfl ?_
 refine ru 4 ?_
 refine wdc (fun hr0 hc0=>?_) (fun hr0 hc0=>?_)
 ·skip
  obtain ⟨rfl,hkq⟩:bad=false∧kd l q=4:=(by cases bad with | true=>exact absurd hr0 sml | false=>exact ⟨rfl,by simpa using hr0⟩);have hlt:=a2Z (l:=l) (i:=q) (by rw [hkq];decide)
  refine ru 17 ?_
  refine (a0W 9001 (erO g l (q+1) gg o.length false) rfl (by exact b4N (.refl _) (a0K om) (.refl _) (.refl _))).wp ?_
  refine ru 3 ?_
  refine a0n 30 (xs:=[_]) (pre:=[(9001,_),(9002,_)]) (hrow (q+1) om hlt _ gg o om) ⟨rfl,trivial⟩ (a0h rfl (a0h rfl pre0)) rfl rfl (fun x2 c2 hx2=>?_)
  obtain ⟨t,q',g4,o4,r'⟩:=x2
  (try dsimp only)
  refine a0y 31 (a0d (id:=31) (hs:=[_]) ei_23.h omx rfl omx ⟨rfl,rfl,rfl,rfl,trivial⟩) rfl rfl pre0 rfl rfl (c':=c2+1) rfl ?_
  first
  | refine a0y 32 (a0a ei_23.h omy rfl omy omy (a0D rfl omy) omy rfl) rfl rfl (a0h rfl (a0L rfl)) rfl rfl (c':=c2+2) rfl ?_
  | refine a0y 32 (a0a ei_23.h omy rfl omy omy (a1a rfl omy) omy rfl) rfl rfl (a0h rfl (a0L rfl)) rfl rfl (c':=c2+2) rfl ?_
  | refine a0y 32 (a0a ei_23.h omy rfl omy omy (a0Y rfl) omy rfl) rfl rfl (a0h rfl pre0) rfl rfl (c':=c2+2) rfl ?_
  | refine a0y 32 (a0a ei_23.h omy rfl omy omy (a0G 1 (fun _ _=>default) rfl) omy rfl) rfl rfl (a0h rfl pre0) rfl rfl (c':=c2+2) rfl ?_
  refine ru 3 ?_
  exact hL1 ((t.isNone,q',o4,ks++[r'],g4,c2+1)) _ _ (by (try dsimp only);exact c2Q hI hkq hx2) (by (try dsimp only);exact c0D hlt hx2) (a0b rfl lrf (tsr rfl (a0u.cons rfl (a3A sml) a0u.nil)) (hsr rfl (hsr rfl (a0g.cons rfl (a0N (enc:=fun x _=>intV x) (d:=0) rfl (fun i j _ _=>.refl _) (fun j hj=>.refl _)) a0g.nil))))
 obtain ⟨tt,rfl,hdone⟩:=c0W hI (by cases bad with | true=>exact .inl rfl | false=>right;simpa using hr0)
 refine ru 2 ?_
 refine a0c ?_
 refine ru 6 ?_
 refine (a1b 34 [(6,_)] rfl (a0h rfl pre0) rfl ((show Fz _ _ (a2k ks) from a2v (l:=ks) (enc:=fun x _=>intV x) (d:=0) (List.mem_cons_self ..) rfl rfl lrf (fun i j hi hj=>.imm _)))).seq ?_
 refine a0n 35 (xs:=[_,_,_]) (pre:=[(9001,_),(9002,_)]) (c6y _ g l q gg _ tt.isNone o 3 ks rfl om) ⟨rfl,⟨rfl,⟨rfl,trivial⟩⟩⟩ (a0h rfl (a0h rfl pre0)) rfl rfl (fun x3 c3 hy=>?_)
 obtain ⟨g5,o5,r5⟩:=x3
 (try dsimp only)
 refine ru 4 ?_
 refine fr1 ok hX rw1 (⟨tt,q,g5,o5,r5⟩) (hdone _ hy) (kza) ?_
 exact ⟨⟨_,rfl,a5L rfl rfl⟩,⟨⟨_,rfl,a2O⟩,trivial⟩⟩
theorem c6o (l:List Sg) (g:Nat) (hk:b9x l) (hne:l≠[]) (hl:l.length≤1000):∀ n p,l.length - p < n→p≤l.length→RsC 46 l 3 g p
 | 0,p,h,_=>absurd h (Nat.not_lt_zero _)
 | n+1,p,h,hp=>c4j l g p hk hne hl hp fun p1 h1 hp1=>d2C l g p1 hk hne hl hp1 fun p2 h2 hp2=>d1T l g p2 hk hne hl hp2 fun p3 h3 hp3=>c6o l g hk hne hl n p3 omo hp3
inductive ParseIs (s:List UInt8):List Pt×Int×Int→Prop
 | err (e:Int×Int):lexV s=.error e→ParseIs s ([],e.1,e.2)
 | none:lexV s=.ok []→ParseIs s ([],0,0)
 | odd (l:List Sg) (q:Nat):lexV s=.ok l→l≠[]→q < l.length→chk l 0 0 true true=((q:Int),false)→ParseIs s ([],(l.getD q default).at_,2)
 | end_ (l:List Sg):lexV s=.ok l→l≠[]→chk l 0 0 true true=(-1,true)→ParseIs s ([],s.length,5)
 | ok (l:List Sg) (t:T):lexV s=.ok l→Seg l 3 0 l.length t→ParseIs s (T.flat 0 t,0,0)
@[reducible] def c6B (r:List Pt×Int×Int):HV:=t3 (ptsV r.1) (intV r.2.1) (intV r.2.2)
theorem c5W {l:List Sg} (h:∀ x∈l,SgW x):b9x l:=fun x hx=>by
 have:=h x hx
 cases this with
 | name _ _ _=>exact ⟨by show (1:Int)≤1;decide,by show (1:Int)≤5;decide⟩
 | open_=>exact ⟨by show (1:Int)≤2;decide,by show (2:Int)≤5;decide⟩
 | shut=>exact ⟨by show (1:Int)≤3;decide,by show (3:Int)≤5;decide⟩
 | or_=>exact ⟨by show (1:Int)≤4;decide,by show (4:Int)≤5;decide⟩
 | times _=>exact ⟨by show (1:Int)≤5;decide,by show (5:Int)≤5;decide⟩
theorem c8N {s:List UInt8} {r:List Sg×Int×Int} (hr:b9u (lexV s)=r) (h:r.2.2≠0):ParseIs s ([],r.2.1,r.2.2):=by
 cases hv:lexV s with
 | error e=>rw [hv] at hr;subst hr;exact .err e hv
 | ok l=>rw [hv] at hr;subst hr;exact absurd rfl h
theorem c4V {s:List UInt8} {r:List Sg×Int×Int} (hr:b9u (lexV s)=r) (h:r.2.2=0):lexV s=.ok r.1:=by
 cases hv:lexV s with
 | error e=>rw [hv] at hr;subst hr;exact absurd h (a6Z hv)
 | ok l=>rw [hv] at hr;subst hr;rfl
theorem b3j {s:List UInt8} {l:List Sg} {x:Rs} (hv:lexV s=.ok l) (hk:b9x l) (hne:l≠[]) (hx:a6C l 3 0 [] x) (hq:x.q < l.length):ParseIs s ([],(l.getD x.q default).at_,2):=by
 obtain ⟨t,q,g,o,r⟩:=x
 cases t with
 | none=>exact .odd l q hv hne hq (by rw [hx.1.bad 0 true];exact b2u hq)
 | some t=>exact .odd l q hv hne hq (c4G hk hx.1 hq (hx.2.2.2.1 dcd).1 (hx.2.2.2.1 dcd).2 (hx.2.2.2.2 dcd))
theorem b3x {s:List UInt8} {l:List Sg} {x:Rs} (hv:lexV s=.ok l) (hne:l≠[]) (hx:a6C l 3 0 [] x) (hq:l.length≤x.q) (hb:x.t.isNone=true):ParseIs s ([],s.length,5):=by
 obtain ⟨t,q,g,o,r⟩:=x
 cases t with
 | none=>exact .end_ l hv hne (by rw [hx.1.bad 0 true];exact a9U hq)
 | some t=>cases hb
theorem b7Y {s:List UInt8} {l:List Sg} {x:Rs} (hv:lexV s=.ok l) (hx:a6C l 3 0 [] x) (hq:l.length≤x.q) (hb:x.t.isNone=false):ParseIs s (x.out,0,0):=by
  obtain ⟨t,q,g,o,r⟩:=x
  cases t with
  | none=>cases hb
  | some t =>
    have hql:=a1h hx.1
    simp only at hql hq
    obtain rfl:q=l.length:=by omega
    rw [show (⟨some t,l.length,g,o,r⟩:Rs).out=[]++T.flat 0 t from hx.2.1]
    exact .ok l t hv hx.1
theorem b5H (c:Nat) (s:List UInt8) (hs:s.length≤1000000):a2y Tryz.prog 21 c [strV s] [] (a4Q (fun (r:List Pt×Int×Int) _=>ParseIs s r) c6B (fun _=>[])):=by
 have hlen:=a9n s
 have hlx:=d1I s hs
 generalize hr:b9u (lexV s)=r at hlen hlx
 refine a0p Tryz.func21 rfl kr _ _ _ _ rfl 57 rfl rfl (fun X ok hX=>?_)
 refine ru 10 ?_
 refine cll (hlx) ?_
 refine ru 16 ?_
 refine wdc (fun hr0 hc0=>?_) (fun hr0 hc0=>?_)
 ·refine ru 11 ?_
  refine a1q ok hX a2j.one rfl (a0f rfl) (a0f rfl) (a0f rfl) [] rfl pre0 (([],r.2.1,r.2.2)) (c8N hr hc0) (by rfl) (by rfl) (a9H (.fz _ _ (.nil 0 5 _ dcd none)) kza kza) ?_
  exact trivial
 have hv:=c4V hr hc0;have hk:=c5W (b3B hv)
 refine ru 10 ?_
 refine wdc (fun hr1 hc1=>?_) (fun hr1 hc1=>?_)
 ·refine ru 9 ?_
  refine a1q ok hX a2j.one rfl (a0f rfl) (a0f rfl) (a0f rfl) [] rfl pre0 (([],0,0)) (.none (by rw [hv,List.length_eq_zero_iff.1 (show r.1.length=0 by omega)])) (by rfl) (by rfl) (a9H (.fz _ _ (.nil 0 5 _ dcd none)) kza kza) ?_
  exact trivial
 have hne:r.1≠[]:=(fun h=>by rw [h] at hc1;exact hc1 rfl)
 refine ru 7 ?_
 refine a0y 25 (a6O (id:=9001) (sz:=4) rfl rfl rfl dcd dcd) rfl rfl pre0 rfl rfl (c':=c+1) rfl ?_
 refine ru 4 ?_
 refine (a1N 9001 2 9002 5 175 (c6F []) (erF r.1 0 (c+1) 0 false) rfl rfl (fun j hj=>by match j,hj with | 0,_=>exact .inr rfl | 1,_=>exact .inr rfl | 2,_=>exact .inl ⟨rfl,rfl⟩ | 3,_=>exact .inr rfl) dcd dcd (c':=c+2) rfl).wp ?_
 refine ru 2 ?_
 refine a0n 27 (xs:=[_]) (pre:=[(9001,_),(9002,_)]) (c6o r.1 c hk hne om _ 0 (Nat.lt_succ_self _) (Nat.zero_le _) _ (c+1) [] sml) ⟨rfl,trivial⟩ (a0h rfl (a0h rfl pre0)) rfl rfl (fun x1 c1 hx=>?_)
 obtain ⟨t,q,g2,o2,r2⟩:=x1
 (try dsimp only)
 refine ru 5 ?_
 have hle:0≤q∧q≤r.1.length∧o2.length≤0+2 * (q - 0):=b2S hx
 refine ru 12 ?_
 refine wdc (fun hr2 hc2=>?_) (fun hr2 hc2=>?_)
 ·refine ru 19 ?_
  refine a1q ok hX a2j.one rfl (a0f rfl) (a0f rfl) (a0f rfl) [] rfl pre0 (([],(r.1.getD q default).at_,2)) (b3j hv hk hne hx (show q < r.1.length by omega)) (by rfl) (by rfl) (a9H (.fz _ _ (.nil 0 5 _ dcd none)) kza kza) ?_
  exact trivial
 refine ru 9 ?_
 refine wdc (fun hr3 hc3=>?_) (fun hr3 hc3=>?_)
 ·refine ru 12 ?_
  refine a1q ok hX a2j.one rfl (a0f rfl) (a0f rfl) (a0f rfl) [] rfl pre0 (([],(s.length:Int),5)) (b3x hv hne hx (show r.1.length≤q by omega) hc3) (by rfl) (by rfl) (a9H (.fz _ _ (.nil 0 5 _ dcd none)) kza kza) ?_
  exact trivial
 refine ru 15 ?_
 refine a1q ok hX a2j.one rfl (a0f rfl) (a0f rfl) (a0f rfl) [(9002,_)] rfl (a0h rfl pre0) ((o2,0,0)) (b7Y hv hx (show r.1.length≤q by omega) hc3) (by rfl) (by rfl) (a9H (.fz _ _ (a2v (l:=o2) (enc:=ptF) (d:=default) (List.mem_cons_self ..) rfl rfl lrf (fun i j hi hj=>b3c _ j))) kza kza) ?_
 exact trivial
theorem a8r {a b:Bool} (h:a=b):Sb (boolV a) (boolV b):=by subst h;exact .refl _
theorem c8l {sh:List (Nat×HObj)} {acc:List Int} {r:Int} {j:Nat} (i:Nat) (hi:i < (acc++[r]).length):Fz sh (cat acc.length (a4S acc) (bsf [intV r]) i j) (intV ((acc++[r]).getD i 0)):=by
 by_cases h:i < acc.length
 ·rw [a6B h,a5a h];exact .imm _
 ·have:i=acc.length:=by rw [List.length_append,List.length_singleton] at hi;omega
  subst this
  rw [a5O lrf,Nat.sub_self,a2z];exact .imm _
theorem b1A (l:List Sg) (hl:l.length≤1000):HPure Tryz.prog 62 [a7Q l] (t2 (intV (chk l 0 0 true true).1) (boolV (chk l 0 0 true true).2)):=by
 refine a0k Tryz.func62 rfl kr _ _ _ rfl 75 rfl rfl (fun w F=>?_)
 refine ru 28 ?_
 refine a0l (α:=Nat×Nat×Bool×Bool) (fun x c=>⟨75,[(0,.v (a7Q l)),(4,.v (intV x.2.1)),(5,.v (boolV x.2.2.1)),(6,.v (boolV x.2.2.2)),(7,.v (intV x.1))],[],c⟩) (fun x=>x.1≤l.length∧x.2.1≤x.1∧chk l x.1 x.2.1 x.2.2.1 x.2.2.2=chk l 0 0 true true) (fun x=>l.length - x.1) ((0,0,true,true)) (by exact ⟨Nat.zero_le _,Nat.zero_le _,rfl⟩) (a0b rfl lrf tsa a0g.nil) (fun x c hx NhL1 hL1=>?_)
 revert hx hL1;obtain ⟨i,d,it,ct⟩:=x;intro hx hL1;dsimp only at hx hL1 ⊢
 obtain ⟨hi,hd,hC⟩:=hx
 refine ru 9 ?_
 refine wdc (fun hr0 hc0=>?_) (fun hr0 hc0=>?_)
 ·skip
  have hil:i < l.length:=om
  refine ru 11 ?_
  refine rvl (intV (kd l i)) (by rw [b0K hil];rfl) ?_
  refine ru 32 ?_
  refine wdc (fun hr1 hc1=>?_) (fun hr1 hc1=>?_)
  ·skip
   have hbad:(it=true∧kd l i≠1∧kd l i≠2)∨(kd l i=3∧d=0)∨(kd l i=5∧ct=true):=(by have h:=hr1;cases it <;> cases ct <;> simp at h ⊢ <;> omega)
   refine ru 11 ?_
   refine a0q ?_
   refine ru 2 ?_
   refine rt2 ?_
   rw [←hC,a9O hil hbad];exact a5z (.imm _) (.imm _)
  have hbad:¬ ((it=true∧kd l i≠1∧kd l i≠2)∨(kd l i=3∧d=0)∨(kd l i=5∧ct=true)):=(by have h:=hr1;cases it <;> cases ct <;> simp at h ⊢ <;> omega)
  refine ru 9 ?_
  refine wdc (fun hr2 hc2=>?_) (fun hr2 hc2=>?_)
  ·refine ru 13 ?_
   refine wdc (fun hr3 hc3=>?_) (fun hr3 hc3=>?_)
   ·skip
    exfalso;omega
   refine ru 29 ?_
   exact hL1 ((i+1,d+1,(decide (kd l i=2)||decide (kd l i=4)),(!decide (kd l i=1)&&!decide (kd l i=3)))) _ _ (by (try dsimp only);exact ⟨hil,by omega,by rw [←hC,a3H hil,if_neg hbad,if_pos hc2]⟩) omd (a0b rfl lrf (tsr rfl (a0u.cons rfl (by dsimp only;exact a0K om) (a0u.cons rfl (by dsimp only;exact a8r (by first | rfl | simp | (trace_state;rfl))) (a0u.cons rfl (by dsimp only;exact a8r (by first | rfl | simp | (trace_state;rfl))) (a0u.cons rfl (by dsimp only;exact a0K om) a0u.nil))))) a0g.nil)
  refine ru 9 ?_
  refine wdc (fun hr3 hc3=>?_) (fun hr3 hc3=>?_)
  ·refine ru 33 ?_
   exact hL1 ((i+1,d - 1,(decide (kd l i=2)||decide (kd l i=4)),(!decide (kd l i=1)&&!decide (kd l i=3)))) _ _ (by (try dsimp only);exact ⟨hil,by omega,by rw [←hC,a3H hil,if_neg hbad,if_neg hc2,if_pos hc3]⟩) omd (a0b rfl lrf (tsr rfl (a0u.cons rfl (by dsimp only;exact a0K om) (a0u.cons rfl (by dsimp only;exact a8r (by first | rfl | simp | (trace_state;rfl))) (a0u.cons rfl (by dsimp only;exact a8r (by first | rfl | simp | (trace_state;rfl))) (a0u.cons rfl (by dsimp only;exact a0K om) a0u.nil))))) a0g.nil)
  refine ru 29 ?_
  exact hL1 ((i+1,d,(decide (kd l i=2)||decide (kd l i=4)),(!decide (kd l i=1)&&!decide (kd l i=3)))) _ _ (by (try dsimp only);exact ⟨hil,by omega,by rw [←hC,a3H hil,if_neg hbad,if_neg hc2,if_neg hc3]⟩) omd (a0b rfl lrf (tsr rfl (a0u.cons rfl (by dsimp only;exact a0K om) (a0u.cons rfl (by dsimp only;exact a8r (by first | rfl | simp | (trace_state;rfl))) (a0u.cons rfl (by dsimp only;exact a8r (by first | rfl | simp | (trace_state;rfl))) (a0u.cons rfl (by dsimp only;exact a0K om) a0u.nil))))) a0g.nil)
 refine ru 2 ?_
 refine a0c ?_
 refine ru 19 ?_
 refine rt2 ?_
 rw [←hC,a8u om];exact a5z (.imm _) (a1H (by cases it <;> simp))
theorem c6u (l:List Sg) (p:Nat) (hl:l.length≤1000) (hp:p≤l.length):HPure Tryz.prog 122 [a7Q l,intV p] (intV (a1M l p 0)):=by
 refine a0k Tryz.func122 rfl kr _ _ _ rfl 35 rfl rfl (fun w F=>?_)
 refine ru 18 ?_
 refine a0l (α:=Nat×Int) (fun x c=>⟨35,[(0,.v (a7Q l)),(1,.v (intV p)),(5,.v (intV x.2)),(6,.v (intV x.1))],[],c⟩) (fun x=>x.1≤l.length∧(-(x.1:Int)≤x.2∧x.2≤x.1)∧a1M l x.1 x.2=a1M l p 0) (fun x=>l.length - x.1) ((p,0)) (by exact ⟨hp,by omega,rfl⟩) (a0b rfl lrf tsa a0g.nil) (fun x c hx NhL1 hL1=>?_)
 revert hx hL1;obtain ⟨i,d⟩:=x;intro hx hL1;dsimp only at hx hL1 ⊢
 obtain ⟨hi,hd,hC⟩:=hx
 refine ru 9 ?_
 refine wdc (fun hr0 hc0=>?_) (fun hr0 hc0=>?_)
 ·skip
  have hil:i < l.length:=om
  refine ru 12 ?_
  refine rvl (intV (kd l i)) (by rw [b0K hil];rfl) ?_
  refine ru 3 ?_
  refine wdc (fun hr1 hc1=>?_) (fun hr1 hc1=>?_)
  ·skip
   have hk1:kd l i=2:=hc1
   refine ru 14 ?_
   refine rvl (intV (kd l i)) (by rw [b0K hil];rfl) ?_
   refine ru 3 ?_
   refine wdc (fun hr2 hc2=>?_) (fun hr2 hc2=>?_)
   ·skip
    exfalso;omega
   have hk2:¬ kd l i=3:=hc2
   refine ru 8 ?_
   refine wdc (fun hr3 hc3=>?_) (fun hr3 hc3=>?_)
   ·refine ru 9 ?_
    refine a0q ?_
    refine ru 2 ?_
    refine rt1 ?_
    rw [←hC,a1w (d':=d+1) hil (by rw [if_pos hk1]),if_pos hc3];exact .imm _
   refine ru 8 ?_
   exact hL1 ((i+1,d+1)) _ _ (by (try dsimp only);exact ⟨hil,by omega,by rw [←hC,a1w (d':=d+1) hil (by rw [if_pos hk1]),if_neg hc3]⟩) omd (a0b rfl lrf (tsr rfl (tsr rfl (tsr rfl (a0u.cons rfl (by dsimp only;exact a0K om) a0u.nil)))) a0g.nil)
  have hk1:¬ kd l i=2:=hc1
  refine ru 10 ?_
  refine rvl (intV (kd l i)) (by rw [b0K hil];rfl) ?_
  refine ru 3 ?_
  refine wdc (fun hr2 hc2=>?_) (fun hr2 hc2=>?_)
  ·skip
   have hk2:kd l i=3:=hc2
   refine ru 12 ?_
   refine wdc (fun hr3 hc3=>?_) (fun hr3 hc3=>?_)
   ·refine ru 9 ?_
    refine a0q ?_
    refine ru 2 ?_
    refine rt1 ?_
    rw [←hC,a1w (d':=d - 1) hil (by rw [if_neg hk1,if_pos hk2]),if_pos hc3];exact .imm _
   refine ru 8 ?_
   exact hL1 ((i+1,d - 1)) _ _ (by (try dsimp only);exact ⟨hil,by omega,by rw [←hC,a1w (d':=d - 1) hil (by rw [if_neg hk1,if_pos hk2]),if_neg hc3]⟩) omd (a0b rfl lrf (tsr rfl (tsr rfl (tsr rfl (a0u.cons rfl (by dsimp only;exact a0K om) a0u.nil)))) a0g.nil)
  have hk2:¬ kd l i=3:=hc2
  refine ru 8 ?_
  refine wdc (fun hr3 hc3=>?_) (fun hr3 hc3=>?_)
  ·refine ru 9 ?_
   refine a0q ?_
   refine ru 2 ?_
   refine rt1 ?_
   rw [←hC,a1w (d':=d) hil (by rw [if_neg hk1,if_neg hk2]),if_pos hc3];exact .imm _
  refine ru 8 ?_
  exact hL1 ((i+1,d)) _ _ (by (try dsimp only);exact ⟨hil,by omega,by rw [←hC,a1w (d':=d) hil (by rw [if_neg hk1,if_neg hk2]),if_neg hc3]⟩) omd (a0b rfl lrf (tsr rfl (tsr rfl (tsr rfl (a0u.cons rfl (by dsimp only;exact a0K om) a0u.nil)))) a0g.nil)
 refine ru 2 ?_
 refine a0c ?_
 refine ru 10 ?_
 refine rt1 ?_
 rw [←hC,b8g om,show i=l.length by omega];exact .imm _
theorem a7H (l:List Sg) (p q:Nat) (way:Int) (hl:l.length≤1000) (hq:q≤l.length) (hp:p≤q):HPure Tryz.prog 102 [a7Q l,intV p,intV q,intV way] (a2k (a3F l p q way p [(p:Int)]++[(q:Int)])):=by
 refine a0k Tryz.func102 rfl kr _ _ _ rfl 64 rfl rfl (fun w F=>?_)
 refine ru 8 ?_
 refine a0y 13 (a0d (id:=13) (hs:=[_]) ei_23.h omx rfl omx ⟨rfl,rfl,rfl,rfl,trivial⟩) rfl rfl pre0 rfl rfl (c':=1) rfl ?_
 refine ru 11 ?_
 refine a0l (α:=Nat×List Int×Nat) (fun x c=>⟨64,[(0,.v (a7Q l)),(1,.v (intV p)),(2,.v (intV q)),(3,.v (intV way)),(9,.v (.os 13 x.2.2 0 x.2.1.length)),(10,.v (intV x.1))],[(13,⟨x.2.2,x.2.1.length,1,3,0,a4S x.2.1⟩)],c⟩) (fun x=>p≤x.1∧x.1≤l.length+1∧x.2.1.length≤2 * (x.1 - p)+1∧a3F l p q way x.1 x.2.1=a3F l p q way p [(p:Int)]) (fun x=>q - x.1) ((p,[(p:Int)],0)) (by exact ⟨Nat.le_refl _,by omega,by show 1≤_;omega,rfl⟩) (a0b rfl lrf tsa (a0g.cons rfl (a2m.of fun i j hi hj=>by obtain rfl:i=0:=om;exact .refl _) a0g.nil)) (fun x c hx NhL1 hL1=>?_)
 revert hx hL1;obtain ⟨i,acc,g⟩:=x;intro hx hL1;dsimp only at hx hL1 ⊢
 obtain ⟨hpi,hi,hal,hC⟩:=hx
 refine ru 8 ?_
 refine wdc (fun hr0 hc0=>?_) (fun hr0 hc0=>?_)
 ·skip
  have hiq:i < q:=om;have hsl:=b1O (l:=l) (d:=0) (n:=l.length - i) (i:=i) rfl om
  refine ru 11 ?_
  refine rvl (intV (kd l i)) (by rw [b0K (show i < l.length by omega)];rfl) ?_
  refine ru 23 ?_
  refine wdc (fun hr1 hc1=>?_) (fun hr1 hc1=>?_)
  ·skip
   have h1:way=2∧p < i∧(kd l i=1∨kd l i=2):=(by have h:=hr1;simp at h;omega)
   refine ru 3 ?_
   refine a0y 42 (a0d (id:=42) (hs:=[_]) ei_23.h omx rfl omx ⟨rfl,rfl,rfl,rfl,trivial⟩) rfl rfl pre0 rfl rfl (c':=c+1) rfl ?_
   first
   | refine a0y 43 (a0a ei_23.h omy rfl omy omy (a0D rfl omy) omy rfl) rfl rfl (a0h rfl (a0L rfl)) rfl rfl (c':=c+2) rfl ?_
   | refine a0y 43 (a0a ei_23.h omy rfl omy omy (a1a rfl omy) omy rfl) rfl rfl (a0h rfl (a0L rfl)) rfl rfl (c':=c+2) rfl ?_
   | refine a0y 43 (a0a ei_23.h omy rfl omy omy (a0Y rfl) omy rfl) rfl rfl (a0h rfl pre0) rfl rfl (c':=c+2) rfl ?_
   | refine a0y 43 (a0a ei_23.h omy rfl omy omy (a0G 1 (fun _ _=>default) rfl) omy rfl) rfl rfl (a0h rfl pre0) rfl rfl (c':=c+2) rfl ?_
   refine ru 14 ?_
   refine wdc (fun hr2 hc2=>?_) (fun hr2 hc2=>?_)
   ·skip
    exfalso;have h:=hr2;simp at h;omega
   have h2:¬ (way=3∧kd l i=4):=(by have h:=hr2;simp at h;omega)
   refine ru 8 ?_
   refine wdc (fun hr3 hc3=>?_) (fun hr3 hc3=>?_)
   ·skip
    have h3:kd l i=2:=hc3
    refine ru 3 ?_
    refine cll (c6u l i hl om) ?_
    refine ru 9 ?_
    exact hL1 ((a1M l i 0+1,acc++[(i:Int)],c+1)) _ _ (by (try dsimp only);exact ⟨by omega,by omega,by rw [List.length_append];show acc.length+1≤_;omega,by rw [←hC];exact (a3L (a1:=acc++[(i:Int)]) (a2:=acc++[(i:Int)]) (j:=a1M l i 0) hq hiq (by rw [if_pos h1]) (by rw [if_neg h2]) (by rw [if_pos h3])).symm⟩) omd (a0b rfl lrf (tsr rfl (tsr rfl (tsr rfl (tsr rfl (a0u.cons rfl (a3A sml) tsa))))) (a0g.cons rfl (a0N (enc:=fun x _=>intV x) (d:=0) rfl (fun i j _ _=>.refl _) (fun j hj=>.refl _)) a0g.nil))
   have h3:¬ kd l i=2:=hc3
   refine ru 8 ?_
   exact hL1 ((i+1,acc++[(i:Int)],c+1)) _ _ (by (try dsimp only);exact ⟨by omega,by omega,by rw [List.length_append];show acc.length+1≤_;omega,by rw [←hC];exact (a3L (a1:=acc++[(i:Int)]) (a2:=acc++[(i:Int)]) (j:=i) hq hiq (by rw [if_pos h1]) (by rw [if_neg h2]) (by rw [if_neg h3])).symm⟩) omd (a0b rfl lrf (tsr rfl (tsr rfl (tsr rfl (tsr rfl (a0u.cons rfl (a3A sml) tsa))))) (a0g.cons rfl (a0N (enc:=fun x _=>intV x) (d:=0) rfl (fun i j _ _=>.refl _) (fun j hj=>.refl _)) a0g.nil))
  have h1:¬ (way=2∧p < i∧(kd l i=1∨kd l i=2)):=(by have h:=hr1;simp at h;omega)
  refine ru 13 ?_
  refine wdc (fun hr2 hc2=>?_) (fun hr2 hc2=>?_)
  ·skip
   have h2:way=3∧kd l i=4:=(by have h:=hr2;simp at h;omega)
   refine ru 4 ?_
   refine a0y 53 (a0d (id:=53) (hs:=[_]) ei_23.h omx rfl omx ⟨rfl,rfl,rfl,rfl,trivial⟩) rfl rfl pre0 rfl rfl (c':=c+1) rfl ?_
   first
   | refine a0y 54 (a0a ei_23.h omy rfl omy omy (a0D rfl omy) omy rfl) rfl rfl (a0h rfl (a0L rfl)) rfl rfl (c':=c+2) rfl ?_
   | refine a0y 54 (a0a ei_23.h omy rfl omy omy (a1a rfl omy) omy rfl) rfl rfl (a0h rfl (a0L rfl)) rfl rfl (c':=c+2) rfl ?_
   | refine a0y 54 (a0a ei_23.h omy rfl omy omy (a0Y rfl) omy rfl) rfl rfl (a0h rfl pre0) rfl rfl (c':=c+2) rfl ?_
   | refine a0y 54 (a0a ei_23.h omy rfl omy omy (a0G 1 (fun _ _=>default) rfl) omy rfl) rfl rfl (a0h rfl pre0) rfl rfl (c':=c+2) rfl ?_
   refine ru 9 ?_
   refine wdc (fun hr3 hc3=>?_) (fun hr3 hc3=>?_)
   ·skip
    exfalso;omega
   have h3:¬ kd l i=2:=hc3
   refine ru 8 ?_
   exact hL1 ((i+1,acc++[((i+1:Nat):Int)],c+1)) _ _ (by (try dsimp only);exact ⟨by omega,by omega,by rw [List.length_append];show acc.length+1≤_;omega,by rw [←hC];exact (a3L (a1:=acc) (a2:=acc++[((i+1:Nat):Int)]) (j:=i) hq hiq (by rw [if_neg h1]) (by rw [if_pos h2]) (by rw [if_neg h3])).symm⟩) omd (a0b rfl lrf (tsr rfl (tsr rfl (tsr rfl (tsr rfl (a0u.cons rfl (a3A sml) tsa))))) (a0g.cons rfl (a0N (enc:=fun x _=>intV x) (d:=0) rfl (fun i j _ _=>.refl _) (fun j hj=>.refl _)) a0g.nil))
  have h2:¬ (way=3∧kd l i=4):=(by have h:=hr2;simp at h;omega)
  refine ru 8 ?_
  refine wdc (fun hr3 hc3=>?_) (fun hr3 hc3=>?_)
  ·skip
   have h3:kd l i=2:=hc3
   refine ru 3 ?_
   refine cll (c6u l i hl om) ?_
   refine ru 9 ?_
   exact hL1 ((a1M l i 0+1,acc,g)) _ _ (by (try dsimp only);exact ⟨by omega,by omega,by omega,by rw [←hC];exact (a3L (a1:=acc) (a2:=acc) (j:=a1M l i 0) hq hiq (by rw [if_neg h1]) (by rw [if_neg h2]) (by rw [if_pos h3])).symm⟩) omd (a0b rfl lrf tsa hsa)
  have h3:¬ kd l i=2:=hc3
  refine ru 8 ?_
  exact hL1 ((i+1,acc,g)) _ _ (by (try dsimp only);exact ⟨by omega,by omega,by omega,by rw [←hC];exact (a3L (a1:=acc) (a2:=acc) (j:=i) hq hiq (by rw [if_neg h1]) (by rw [if_neg h2]) (by rw [if_neg h3])).symm⟩) omd (a0b rfl lrf tsa hsa)
 refine ru 2 ?_
 refine a0c ?_
 refine ru 3 ?_
 have e:=b0z (l:=l) (from_:=p) (way:=way) (acc:=acc) (show q≤i by omega);rw [e] at hC
 refine ru 3 ?_
 refine a0y 62 (a0d (id:=62) (hs:=[_]) ei_23.h omx rfl omx ⟨rfl,rfl,rfl,rfl,trivial⟩) rfl rfl pre0 rfl rfl (c':=c+1) rfl ?_
 first
 | refine a0y 63 (a0a ei_23.h omy rfl omy omy (a0D rfl omy) omy rfl) rfl rfl (a0h rfl (a0L rfl)) rfl rfl (c':=c+2) rfl ?_
 | refine a0y 63 (a0a ei_23.h omy rfl omy omy (a1a rfl omy) omy rfl) rfl rfl (a0h rfl (a0L rfl)) rfl rfl (c':=c+2) rfl ?_
 | refine a0y 63 (a0a ei_23.h omy rfl omy omy (a0Y rfl) omy rfl) rfl rfl (a0h rfl pre0) rfl rfl (c':=c+2) rfl ?_
 | refine a0y 63 (a0a ei_23.h omy rfl omy omy (a0G 1 (fun _ _=>default) rfl) omy rfl) rfl rfl (a0h rfl pre0) rfl rfl (c':=c+2) rfl ?_
 refine ru 4 ?_
 refine a5q rfl (a0f rfl) [(13,_)] rfl (a0h rfl pre0) ?_
 rw [←hC];exact a2v (l:=acc++[(q:Int)]) (enc:=fun x _=>intV x) (d:=0) (List.mem_cons_self ..) rfl sml sml (fun i j hi hj=>c8l i hi)
end
end Go.Proofs.YtkeakpcieokhhaaGreatDoor
