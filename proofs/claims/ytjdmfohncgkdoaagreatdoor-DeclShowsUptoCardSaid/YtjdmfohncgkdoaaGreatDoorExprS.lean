/-
  The parts of an expression, and which signs are one: plain lemmas, no program in sight.
-/
import Derived.Test.YtjdmfohncgkdoaaGreatDoorLexB
import Derived.Test.YtjdmfohncgkdoaaGreatDoorHq4
namespace Go.Proofs.YtjdmfohncgkdoaaGreatDoor
set_option linter.unusedSimpArgs false
set_option linter.unusedVariables false
structure Pt where
 kind:Int
 low:Int
 high:Int
 name:List UInt8
 kids:List Int
 deriving DecidableEq
instance:Inhabited Pt:=⟨⟨0,0,0,[],[]⟩⟩
inductive T where
 | name (s:List UInt8)
 | times (lo hi:Int) (t:T)
 | many (k:Int) (ts:List T)
instance:Inhabited T:=⟨.name []⟩
mutual
def T.size:T→Nat
 | .name _=>1
 | .times _ _ t=>T.size t+1
 | .many _ ts=>T.sizeL ts+1
def T.sizeL:List T→Nat
 | []=>0
 | t::ts=>T.size t+T.sizeL ts
end
def rootsL (b:Nat):List T→List Int
 | []=>[]
 | t::ts=>(((b+t.size:Nat):Int) - 1)::rootsL (b+t.size) ts
mutual
def T.flat (b:Nat):T→List Pt
 | .name s=>[⟨1,0,0,s,[]⟩]
 | .times lo hi t=>T.flat b t++[⟨4,lo,hi,[],[((b+t.size:Nat):Int) - 1]⟩]
 | .many k ts=>T.flatL b ts++[⟨k,0,0,[],rootsL b ts⟩]
def T.flatL (b:Nat):List T→List Pt
 | []=>[]
 | t::ts=>T.flat b t++T.flatL (b+t.size) ts
end
def T.root (b:Nat) (t:T):Int:=((b+t.size:Nat):Int) - 1
theorem T.size_pos (t:T):0 < t.size:=by cases t <;> simp [T.size]
mutual
theorem T.flat_len (b:Nat):∀ t:T,(T.flat b t).length=t.size
 | .name s=>by simp [T.flat,T.size]
 | .times lo hi t=>by simp [T.flat,T.size,T.flat_len b t]
 | .many k ts=>by simp [T.flat,T.size,T.flatL_len b ts]
theorem T.flatL_len (b:Nat):∀ ts:List T,(T.flatL b ts).length=T.sizeL ts
 | []=>by simp [T.flatL,T.sizeL]
 | t::ts=>by simp [T.flatL,T.sizeL,T.flat_len b t,T.flatL_len (b+t.size) ts]
end
theorem T.flatL_snoc:∀ (ts:List T) (b:Nat) (t:T),T.flatL b (ts++[t])=T.flatL b ts++T.flat (b+T.sizeL ts) t
 | [],b,t=>by simp [T.flatL,T.sizeL]
 | x::ts,b,t=>by simp [T.flatL,T.sizeL,T.flatL_snoc ts,Nat.add_assoc]
theorem a4N:∀ (ts:List T) (b:Nat) (t:T),rootsL b (ts++[t])=rootsL b ts++[T.root (b+T.sizeL ts) t]
 | [],b,t=>by simp [rootsL,T.sizeL,T.root]
 | x::ts,b,t=>by simp [rootsL,T.sizeL,a4N ts,Nat.add_assoc]
theorem a1L:∀ (ts:List T) (b:Nat),(rootsL b ts).length=ts.length
 | [],b=>rfl
 | x::ts,b=>by simp [rootsL,a1L ts]
def kd (l:List Sg) (i:Nat):Int:=if i < l.length then (l.getD i default).kind else 0
theorem a8Y {l:List Sg} {i:Nat} (h:i < l.length):kd l i=(l.getD i default).kind:=by unfold kd;rw [if_pos h]
theorem b0Y {l:List Sg} {i:Nat} (h:l.length≤i):kd l i=0:=by unfold kd;rw [if_neg (by omega)]
theorem a2D {l:List Sg} {i:Nat} (h:kd l i≠0):i < l.length:=by
 rcases Nat.lt_or_ge i l.length with h1 | h1
 ·exact h1
 ·exact absurd (b0Y h1) h
inductive Seg (l:List Sg):Nat→Nat→Nat→T→Prop
 | name (p:Nat):kd l p=1→Seg l 0 p (p+1) (.name (l.getD p default).name)
 | group (p q:Nat) (t:T):kd l p=2→Seg l 3 (p+1) q t→kd l q=3→Seg l 0 p (q+1) t
 | item (p q:Nat) (t:T):Seg l 0 p q t→kd l q≠5→Seg l 1 p q t
 | times (p q:Nat) (t:T):Seg l 0 p q t→kd l q=5→Seg l 1 p (q+1) (.times (l.getD q default).low (l.getD q default).high t)
 | row1 (p q:Nat) (t:T):Seg l 1 p q t→Seg l 2 p q t
 | row (p q:Nat) (ts:List T) (c:Nat→Nat):2≤ts.length→c 0=p→c ts.length=q→(∀ i,i < ts.length→Seg l 1 (c i) (c (i+1)) (ts.getD i default))→Seg l 2 p q (.many 2 ts)
 | choice1 (p q:Nat) (t:T):Seg l 2 p q t→Seg l 3 p q t
 | choice (p q:Nat) (ts:List T) (c e:Nat→Nat):2≤ts.length→c 0=p→e (ts.length - 1)=q→(∀ i,i < ts.length→Seg l 2 (c i) (e i) (ts.getD i default))→(∀ i,i+1 < ts.length→kd l (e i)=4∧c (i+1)=e i+1)→Seg l 3 p q (.many 3 ts)
def c6i (l:List Sg):Nat→Nat→Nat→Bool→Bool→Int×Bool
  | 0,_,d,it,_=>(-1,decide (0 < l.length)&&(it||decide (0 < d)))
  | f + 1, i, d, it, ct =>
    if (it=true∧kd l i≠1∧kd l i≠2)∨(kd l i=3∧d=0)∨(kd l i=5∧ct=true) then ((i:Int),false)
    else c6i l f (i+1) (if kd l i=2 then d+1 else if kd l i=3 then d - 1 else d) (decide (kd l i=2)||decide (kd l i=4)) (!decide (kd l i=1)&&!decide (kd l i=3))
def chk (l:List Sg) (i d:Nat) (it ct:Bool):Int×Bool:=c6i l (l.length - i) i d it ct
theorem a8F {l:List Sg} {i d:Nat} {it ct:Bool} (h:l.length≤i):chk l i d it ct=(-1,decide (0 < l.length)&&(it||decide (0 < d))):=by
 unfold chk;rw [show l.length - i=0 by omega];rfl
theorem a3z {l:List Sg} {i d:Nat} {it ct:Bool} (h:i < l.length):chk l i d it ct =
  if (it=true∧kd l i≠1∧kd l i≠2)∨(kd l i=3∧d=0)∨(kd l i=5∧ct=true) then ((i:Int),false)
  else chk l (i+1) (if kd l i=2 then d+1 else if kd l i=3 then d - 1 else d) (decide (kd l i=2)||decide (kd l i=4)) (!decide (kd l i=1)&&!decide (kd l i=3)):=by
 unfold chk
 rw [show l.length - i=(l.length - (i+1))+1 by omega]
 rfl
theorem a8r {l:List Sg} {i d:Nat} {it ct:Bool} (h:i < l.length) (hb:(it=true∧kd l i≠1∧kd l i≠2)∨(kd l i=3∧d=0)∨(kd l i=5∧ct=true)):chk l i d it ct=((i:Int),false):=by
 rw [a3z h,if_pos hb]
theorem c3g {l:List Sg} {i d:Nat} {it ct:Bool} (h:kd l i=1):chk l i d it ct=chk l (i+1) d false false:=by
 rw [a3z (a2D (by rw [h];decide)),if_neg (by rw [h];simp),h];rfl
theorem b7H {l:List Sg} {i d:Nat} {it ct:Bool} (h:kd l i=2):chk l i d it ct=chk l (i+1) (d+1) true true:=by
 rw [a3z (a2D (by rw [h];decide)),if_neg (by rw [h];simp),h];rfl
theorem c5K {l:List Sg} {i d:Nat} {ct:Bool} (h:kd l i=3):chk l i (d+1) false ct=chk l (i+1) d false false:=by
 rw [a3z (a2D (by rw [h];decide)),if_neg (by rw [h];simp),h];rfl
theorem c4o {l:List Sg} {i d:Nat} {ct:Bool} (h:kd l i=4):chk l i d false ct=chk l (i+1) d true true:=by
 rw [a3z (a2D (by rw [h];decide)),if_neg (by rw [h];simp),h];rfl
theorem c5S {l:List Sg} {i d:Nat} (h:kd l i=5):chk l i d false false=chk l (i+1) d false true:=by
 rw [a3z (a2D (by rw [h];decide)),if_neg (by rw [h];simp),h];rfl
theorem c1F {l:List Sg} {i d:Nat} {it ct it' ct':Bool} (h:kd l i=1∨kd l i=2):chk l i d it ct=chk l i d it' ct':=by
 rcases h with h | h
 ·rw [c3g h,c3g h]
 ·rw [b7H h,b7H h]
theorem a5d {l:List Sg} {v p q:Nat} {t:T} (h:Seg l v p q t):kd l p=1∨kd l p=2:=by
 induction h with
 | name p h=>exact .inl h
 | group p q t h _ _ _=>exact .inr h
 | item p q t _ _ ih=>exact ih
 | times p q t _ _ ih=>exact ih
 | row1 p q t _ ih=>exact ih
 | row p q ts c h2 h0 _ _ ih=>rw [←h0];exact ih 0 (by omega)
 | choice1 p q t _ ih=>exact ih
 | choice p q ts c e h2 h0 _ _ _ ih=>rw [←h0];exact ih 0 (by omega)
theorem a1f {l:List Sg} {v p q:Nat} {t:T} (h:Seg l v p q t):p < q∧q≤l.length:=by
  induction h with
  | name p h=>have:=a2D (l:=l) (i:=p) (by rw [h];decide);omega
  | group p q t h _ h3 ih=>have:=a2D (l:=l) (i:=q) (by rw [h3];decide);omega
  | item p q t _ _ ih=>exact ih
  | times p q t _ h5 ih=>have:=a2D (l:=l) (i:=q) (by rw [h5];decide);omega
  | row1 p q t _ ih=>exact ih
  | row p q ts c h2 h0 he _ ih =>
    have mono:∀ i,i < ts.length→c 0 < c (i+1)∧c (i+1)≤l.length:=by
      intro i
      induction i with
      | zero=>intro hi;exact ih 0 hi
      | succ i ihi=>intro hi;have a:=ihi (by omega);have b:=ih (i+1) hi;omega
    have:=mono (ts.length - 1) (by omega)
    rw [show ts.length - 1+1=ts.length by omega,h0,he] at this
    exact this
  | choice1 p q t _ ih=>exact ih
  | choice p q ts c e h2 h0 he _ hs ih =>
    have mono:∀ i,i < ts.length→c 0 < e i∧e i≤l.length:=by
      intro i
      induction i with
      | zero=>intro hi;exact ih 0 hi
      | succ i ihi=>intro hi;have a:=ihi (by omega);have b:=ih (i+1) hi;have c:=hs i hi;omega
    have:=mono (ts.length - 1) (by omega)
    rw [h0,he] at this
    exact this
theorem c3l {n:Nat} {c:Nat→Nat} (h:∀ i,i < n→c i < c (i+1)):∀ i j,i≤j→j≤n→c i+(j - i)≤c j:=by
  intro i j
  induction j with
  | zero => intro h1 h2; have : i = 0 := by omega
            subst this;simp
  | succ j ih =>
    intro h1 h2
    by_cases e:i=j+1
    · subst e;simp
    · have:=ih (by omega) (by omega);have:=h j (by omega);omega
theorem a1o:∀ (ts:List T) (i:Nat),i < ts.length→T.sizeL (ts.take (i+1))=T.sizeL (ts.take i)+(ts.getD i default).size
  | t::ts,0,_=>by simp [T.sizeL]
  | t :: ts, i + 1, h => by
    have:=a1o ts i (by simpa using h)
    simp only [List.take_succ_cons,T.sizeL,this,List.getD_cons_succ,Nat.add_assoc]
theorem a7a (ts:List T):T.sizeL (ts.take 0)=0:=by rw [List.take_zero];rfl
theorem a3b {l:List Sg} {v p q:Nat} {t:T} (h:Seg l v p q t):t.size+1+2 * p≤2 * q:=by
  induction h with
  | name p h=>simp only [T.size];omega
  | group p q t h _ h3 ih=>omega
  | item p q t _ _ ih=>exact ih
  | times p q t _ h5 ih=>simp only [T.size];omega
  | row1 p q t _ ih=>exact ih
  | row p q ts c h2 h0 he _ ih =>
    have key:∀ i,i≤ts.length→T.sizeL (ts.take i)+i+2 * c 0≤2 * c i:=by
      intro i
      induction i with
      | zero=>intro _;simp [T.sizeL]
      | succ i ihi=>intro hi;have a:=ihi (by omega);have b:=ih i hi;rw [a1o ts i hi];omega
    have:=key ts.length (Nat.le_refl _)
    rw [List.take_length,h0,he] at this
    simp only [T.size];omega
  | choice1 p q t _ ih=>exact ih
  | choice p q ts c e h2 h0 he _ hs ih =>
    have key:∀ i,i < ts.length→T.sizeL (ts.take (i+1))+1+2 * i+2 * c 0≤2 * e i:=by
      intro i
      induction i with
      | zero=>intro hi;have b:=ih 0 hi;rw [a1o ts 0 hi,a7a];omega
      | succ i ihi=>intro hi;have a:=ihi (by omega);have b:=ih (i+1) hi;have c:=hs i hi;rw [a1o ts (i+1) hi];omega
    have:=key (ts.length - 1) (by omega)
    rw [show ts.length - 1+1=ts.length by omega,List.take_length,h0,he] at this
    simp only [T.size];omega
theorem a5S {l:List Sg} {v p q:Nat} {t:T} (h:Seg l v p q t):∀ d ct,∃ ct',chk l p d true ct=chk l q d false ct'∧(v=0→ct'=false)∧(v≠0→kd l q=5→ct'=true):=by
  induction h with
  | name p h=>intro d ct;exact ⟨false,c3g h,fun _=>rfl,fun h=>absurd rfl h⟩
  | group p q t h hs h3 ih =>
    intro d ct
    obtain ⟨ct',e,_,_⟩:=ih (d+1) true
    exact ⟨false,by rw [b7H h,e,c5K h3],fun _=>rfl,fun h=>absurd rfl h⟩
  | item p q t _ h5 ih =>
    intro d ct
    obtain ⟨ct',e,_,_⟩:=ih d ct
    exact ⟨ct',e,fun h=>(by omega),fun _ h=>absurd h h5⟩
  | times p q t _ h5 ih =>
    intro d ct
    obtain ⟨ct',e,h0,_⟩:=ih d ct
    exact ⟨true,by rw [e,h0 rfl,c5S h5],fun h=>(by omega),fun _ _=>rfl⟩
  | row1 p q t _ ih =>
    intro d ct
    obtain ⟨ct',e,_,h1⟩:=ih d ct
    exact ⟨ct',e,fun h=>(by omega),fun _=>h1 (by decide)⟩
  | row p q ts c h2 h0 he hs ih =>
    intro d ct
    have key:∀ i,i < ts.length→∃ ct',chk l (c 0) d true ct=chk l (c (i+1)) d false ct'∧(kd l (c (i+1))=5→ct'=true):=by
      intro i
      induction i with
      | zero=>intro hi;obtain ⟨ct',e,_,h1⟩:=ih 0 hi d ct;exact ⟨ct',e,h1 (by decide)⟩
      | succ i ihi =>
        intro hi
        obtain ⟨c1,e1,_⟩:=ihi (by omega)
        obtain ⟨c2,e2,_,h1⟩:=ih (i+1) hi d true
        exact ⟨c2,by rw [e1,←e2];exact c1F (a5d (hs (i+1) hi)),h1 (by decide)⟩
    obtain ⟨ct',e,h1⟩:=key (ts.length - 1) (by omega)
    rw [show ts.length - 1+1=ts.length by omega,h0,he] at e
    rw [show ts.length - 1+1=ts.length by omega,he] at h1
    exact ⟨ct',e,fun h=>(by omega),fun _=>h1⟩
  | choice1 p q t _ ih =>
    intro d ct
    obtain ⟨ct',e,_,h1⟩:=ih d ct
    exact ⟨ct',e,fun h=>(by omega),fun _=>h1 (by decide)⟩
  | choice p q ts c e h2 h0 he _ hs ih =>
    intro d ct
    have key:∀ i,i < ts.length→∃ ct',chk l (c 0) d true ct=chk l (e i) d false ct'∧(kd l (e i)=5→ct'=true):=by
      intro i
      induction i with
      | zero=>intro hi;obtain ⟨ct',e,_,h1⟩:=ih 0 hi d ct;exact ⟨ct',e,h1 (by decide)⟩
      | succ i ihi =>
        intro hi
        obtain ⟨c1,e1,_⟩:=ihi (by omega)
        obtain ⟨c2,e2,_,h1⟩:=ih (i+1) hi d true
        have hh:=hs i hi
        exact ⟨c2,by rw [e1,←e2,c4o hh.1,hh.2],h1 (by decide)⟩
    obtain ⟨ct',e',h1⟩:=key (ts.length - 1) (by omega)
    rw [h0,he] at e'
    rw [he] at h1
    exact ⟨ct',e',fun h=>(by omega),fun _=>h1⟩
def badAt (l:List Sg) (q:Nat):Int×Bool:=if q < l.length then ((q:Int),false) else (-1,true)
structure BadS (l:List Sg) (p q:Nat):Prop where
 le:p≤q
 len:q≤l.length
 bad:∀ d ct,chk l p d true ct=badAt l q
def b6q (l:List Sg):Prop:=∀ x∈l,1≤x.kind∧x.kind≤5
theorem c5b {l:List Sg} (h:b6q l) (i:Nat):(i < l.length∧1≤kd l i∧kd l i≤5)∨(l.length≤i∧kd l i=0):=by
 rcases Nat.lt_or_ge i l.length with h1 | h1
 ·left
  rw [a8Y h1,List.getD_eq_getElem?_getD,List.getElem?_eq_getElem h1]
  exact ⟨h1,h _ (List.getElem_mem h1)⟩
 ·exact .inr ⟨h1,b0Y h1⟩
theorem b0x {l:List Sg} {q:Nat} (h:q < l.length):badAt l q=((q:Int),false):=if_pos h
theorem a7W {l:List Sg} {q:Nat} (h:l.length≤q):badAt l q=(-1,true):=if_neg (by omega)
theorem b1I {l:List Sg} {p:Nat} (hl:l≠[]) (hp:p≤l.length) (h1:kd l p≠1) (h2:kd l p≠2):BadS l p p :=
 ⟨Nat.le_refl _,hp,fun d ct=>by
  rcases Nat.lt_or_ge p l.length with h | h
  ·rw [b0x h];exact a8r h (.inl ⟨rfl,h1,h2⟩)
  ·rw [a7W h,a8F h,decide_eq_true (List.length_pos_iff.2 hl)];rfl⟩
theorem b6t {l:List Sg} {p q:Nat} (h:kd l p=2) (hb:BadS l (p+1) q):BadS l p q :=
 ⟨by have:=hb.le;omega,hb.len,fun d ct=>by rw [b7H h];exact hb.bad _ _⟩
theorem c0l {l:List Sg} {p q:Nat} {t:T} (hk:b6q l) (h:kd l p=2) (hs:Seg l 3 (p+1) q t) (h1:kd l q≠1) (h2:kd l q≠2) (h3:kd l q≠3) (h4:kd l q≠4):BadS l p q:=by
 have hlt:=a1f hs
 refine ⟨by omega,hlt.2,fun d ct=>?_⟩
 obtain ⟨ct',e,_,h5⟩:=a5S hs (d+1) true
 rw [b7H h,e]
 rcases c5b hk q with ⟨hq,ha,hb⟩ | ⟨hq,_⟩
 ·rw [b0x hq]
  have k5:kd l q=5:=by omega
  exact a8r hq (.inr (.inr ⟨k5,h5 (by decide) k5⟩))
 ·rw [a7W hq,a8F hq,decide_eq_true (by omega),decide_eq_true (by omega)];rfl
def b0i (l:List Sg) (p q:Nat) (ts:List T):Prop:=1≤ts.length∧∃ c:Nat→Nat,c 0=p∧c ts.length=q∧∀ i,i < ts.length→Seg l 1 (c i) (c (i+1)) (ts.getD i default)
theorem b8X {l:List Sg} {p q:Nat} {t:T} (h:Seg l 1 p q t):b0i l p q [t] :=
 ⟨Nat.le_refl _,fun i=>if i=0 then p else q,rfl,rfl,fun i hi=>by
  have:i=0:=by simpa using hi
  subst this;exact h⟩
theorem a2E {α:Type} (l:List α) (x d:α):(l++[x]).getD l.length d=x:=by
 rw [List.getD_eq_getElem?_getD,List.getElem?_append_right (Nat.le_refl _)];simp
theorem a4E {α:Type} {l k:List α} {i:Nat} {d:α} (h:i < l.length):(l++k).getD i d=l.getD i d:=by
 rw [List.getD_eq_getElem?_getD,List.getElem?_append_left h,←List.getD_eq_getElem?_getD]
theorem b5Q {l:List Sg} {p q r:Nat} {ts:List T} {t:T} (h:b0i l p q ts) (h2:Seg l 1 q r t):b0i l p r (ts++[t]):=by
 obtain ⟨h1,c,h0,he,hs⟩:=h
 refine ⟨by simp,fun i=>if i≤ts.length then c i else r,by simp [h0],by simp only [List.length_append,List.length_singleton];rw [if_neg (by omega)],fun i hi=>?_⟩
 rw [List.length_append,List.length_singleton] at hi
 by_cases e:i=ts.length
 ·subst e
  rw [a2E]
  simp only [Nat.le_refl,if_true,if_neg (show ¬ ts.length+1≤ts.length by omega),he]
  exact h2
 ·have hi':i < ts.length:=by omega
  rw [a4E hi']
  simp only [if_pos (show i≤ts.length by omega),if_pos (show i+1≤ts.length by omega)]
  exact hs i hi'
theorem b1q {l:List Sg} {p q:Nat} {ts:List T} (h:b0i l p q ts) (h2:2≤ts.length):Seg l 2 p q (.many 2 ts):=by
 obtain ⟨h1,c,h0,he,hs⟩:=h
 exact .row p q ts c h2 h0 he hs
theorem a9H {l:List Sg} {p q:Nat} {t:T} (h:b0i l p q [t]):Seg l 2 p q t:=by
 obtain ⟨h1,c,h0,he,hs⟩:=h
 have:=hs 0 (by simp)
 rw [h0,show 0+1=[t].length from rfl,he] at this
 exact .row1 p q t this
theorem b0D {l:List Sg} {p q:Nat} {ts:List T} (h:b0i l p q ts):p < q∧q≤l.length∧T.sizeL ts+ts.length+2 * p≤2 * q:=by
  obtain ⟨h1,c,h0,he,hs⟩:=h
  have key:∀ i,i < ts.length→c 0 < c (i+1)∧c (i+1)≤l.length∧T.sizeL (ts.take (i+1))+(i+1)+2 * c 0≤2 * c (i+1):=by
    intro i
    induction i with
    | zero =>
      intro hi
      have a:=a1f (hs 0 hi);have b:=a3b (hs 0 hi)
      rw [a1o ts 0 hi,a7a];omega
    | succ i ih =>
      intro hi
      have a:=a1f (hs (i+1) hi);have b:=a3b (hs (i+1) hi);have c:=ih (by omega)
      rw [a1o ts (i+1) hi];omega
  have:=key (ts.length - 1) (by omega)
  rw [show ts.length - 1+1=ts.length by omega,List.take_length,h0,he] at this
  exact this
theorem b8q {l:List Sg} {p q:Nat} {ts:List T} (h:b0i l p q ts) (d:Nat) (ct:Bool):∃ ct',chk l p d true ct=chk l q d false ct':=by
  by_cases h2:2≤ts.length
  · obtain ⟨ct',e,_⟩:=a5S (b1q h h2) d ct;exact ⟨ct',e⟩
  · match ts, h, h2 with
    | [t],h,_=>obtain ⟨ct',e,_⟩:=a5S (a9H h) d ct;exact ⟨ct',e⟩
    | [],h,_=>exact absurd h.1 (by simp)
    | _::_::_,_,h2=>exact absurd (by simp) h2
theorem b8E {l:List Sg} {p q r:Nat} {ts:List T} (h:b0i l p q ts) (hk:kd l q=1∨kd l q=2) (hb:BadS l q r):BadS l p r:=by
 have:=b0D h
 refine ⟨by have:=hb.le;omega,hb.len,fun d ct=>?_⟩
 obtain ⟨ct',e⟩:=b8q h d ct
 rw [e,c1F hk];exact hb.bad d ct
def b0g (l:List Sg) (p q:Nat) (ts:List T):Prop:=1≤ts.length∧∃ c e:Nat→Nat,c 0=p∧e (ts.length - 1)=q∧(∀ i,i < ts.length→Seg l 2 (c i) (e i) (ts.getD i default))∧∀ i,i+1 < ts.length→kd l (e i)=4∧c (i+1)=e i+1
theorem b9j {l:List Sg} {p q:Nat} {t:T} (h:Seg l 2 p q t):b0g l p q [t] :=
 ⟨Nat.le_refl _,fun _=>p,fun _=>q,rfl,rfl,fun i hi=>by
  have:i=0:=by simpa using hi
  subst this;exact h,fun i hi=>by simp at hi⟩
theorem b6B {l:List Sg} {p q r:Nat} {ts:List T} {t:T} (h:b0g l p q ts) (h4:kd l q=4) (h2:Seg l 2 (q+1) r t):b0g l p r (ts++[t]):=by
 obtain ⟨h1,c,e,h0,he,hs,hg⟩:=h
 refine ⟨by simp,fun i=>if i < ts.length then c i else q+1,fun i=>if i < ts.length then e i else r,by simp only;rw [if_pos (by omega)];exact h0,by simp,fun i hi=>?_,fun i hi=>?_⟩
 ·rw [List.length_append,List.length_singleton] at hi
  by_cases e':i=ts.length
  ·subst e'
   rw [a2E]
   simp only [Nat.lt_irrefl,if_false]
   exact h2
  ·have hi':i < ts.length:=by omega
   rw [a4E hi']
   simp only [if_pos hi']
   exact hs i hi'
 ·rw [List.length_append,List.length_singleton] at hi
  simp only
  rw [if_pos (show i < ts.length by omega)]
  by_cases e':i+1=ts.length
  ·rw [if_neg (by omega),show i=ts.length - 1 by omega,he];exact ⟨h4,rfl⟩
  ·rw [if_pos (by omega)];exact hg i (by omega)
theorem a7X {l:List Sg} {p q:Nat} {ts:List T} (h:b0g l p q ts) (h2:2≤ts.length):Seg l 3 p q (.many 3 ts):=by
 obtain ⟨h1,c,e,h0,he,hs,hg⟩:=h
 exact .choice p q ts c e h2 h0 he hs hg
theorem a7o {l:List Sg} {p q:Nat} {t:T} (h:b0g l p q [t]):Seg l 3 p q t:=by
 obtain ⟨h1,c,e,h0,he,hs,hg⟩:=h
 have:=hs 0 (by simp)
 rw [h0,show 0=[t].length - 1 from rfl,he] at this
 exact .choice1 p q t this
theorem b3y {l:List Sg} {p q:Nat} {ts:List T} (h:b0g l p q ts):p < q∧q≤l.length∧T.sizeL ts+ts.length+2 * p≤2 * q:=by
  obtain ⟨h1,c,e,h0,he,hs,hg⟩:=h
  have key:∀ i,i < ts.length→c 0 < e i∧e i≤l.length∧T.sizeL (ts.take (i+1))+(i+1)+2 * c 0≤2 * e i:=by
    intro i
    induction i with
    | zero =>
      intro hi
      have a:=a1f (hs 0 hi);have b:=a3b (hs 0 hi)
      rw [a1o ts 0 hi,a7a];omega
    | succ i ih =>
      intro hi
      have a:=a1f (hs (i+1) hi);have b:=a3b (hs (i+1) hi);have c:=ih (by omega);have d:=hg i hi
      rw [a1o ts (i+1) hi];omega
  have:=key (ts.length - 1) (by omega)
  rw [show ts.length - 1+1=ts.length by omega,List.take_length,h0,he] at this
  exact this
theorem b9X {l:List Sg} {p q:Nat} {ts:List T} (h:b0g l p q ts) (d:Nat) (ct:Bool):∃ ct',chk l p d true ct=chk l q d false ct':=by
  by_cases h2:2≤ts.length
  · obtain ⟨ct',e,_⟩:=a5S (a7X h h2) d ct;exact ⟨ct',e⟩
  · match ts, h, h2 with
    | [t],h,_=>obtain ⟨ct',e,_⟩:=a5S (a7o h) d ct;exact ⟨ct',e⟩
    | [],h,_=>exact absurd h.1 (by simp)
    | _::_::_,_,h2=>exact absurd (by simp) h2
theorem c0w {l:List Sg} {p q r:Nat} {ts:List T} (h:b0g l p q ts) (h4:kd l q=4) (hb:BadS l (q+1) r):BadS l p r:=by
 have:=b3y h
 refine ⟨by have:=hb.le;omega,hb.len,fun d ct=>?_⟩
 obtain ⟨ct',e⟩:=b9X h d ct
 rw [e,c4o h4];exact hb.bad d true
theorem b9E {l:List Sg} {q:Nat} {t:T} (hk:b6q l) (hs:Seg l 3 0 q t) (hq:q < l.length) (h1:kd l q≠1) (h2:kd l q≠2) (h4:kd l q≠4):chk l 0 0 true true=((q:Int),false):=by
 obtain ⟨ct',e,_,h5⟩:=a5S hs 0 true
 rw [e]
 have:=c5b hk q
 rcases Int.lt_or_le (kd l q) 4 with h | h
 ·exact a8r hq (.inr (.inl ⟨by omega,rfl⟩))
 ·have k5:kd l q=5:=by omega
  exact a8r hq (.inr (.inr ⟨k5,h5 (by decide) k5⟩))
theorem a6w {l:List Sg} {t:T} (hs:Seg l 3 0 l.length t):chk l 0 0 true true=(-1,false):=by
 obtain ⟨ct',e,_,h5⟩:=a5S hs 0 true
 rw [e,a8F (Nat.le_refl _)]
 simp
end Go.Proofs.YtjdmfohncgkdoaaGreatDoor
namespace Go.Proofs.YtjdmfohncgkdoaaGreatDoor
set_option linter.unusedSimpArgs false
set_option linter.unusedVariables false
set_option maxRecDepth 100000
open Go.RowKit
@[reducible] def a3q (l:List Int):Nat→Nat→HV:=fun i _=>a0h (l.getD i 0)
@[reducible] def a1z (l:List Int):HV:=.sl 1 l.length (a3q l)
@[reducible] def ptF (x:Pt):Nat→HV:=fun j=>match j with | 0=>a0h x.kind | 1=>a0h x.low | 2=>a0h x.high | 3=>a0p x.name | _=>a1z x.kids
@[reducible] def ptH (x:Pt):HV:=.agg 5 (ptF x)
@[reducible] def b4R (l:List Pt):Nat→Nat→HV:=fun i=>ptF (l.getD i default)
@[reducible] def a5N (l:List Pt):HV:=.sl 5 l.length (b4R l)
@[reducible] def b5N (g:Nat) (l:List Pt):HObj:=⟨g,l.length,5,106,0,b4R l⟩
@[reducible] def erF (l:List Sg) (p g2 n:Nat) (b:Bool):Nat→Nat→HV:=fun _ j=>match j with | 0=>a3B l | 1=>a0h p | 2=>.os 9002 g2 0 n | _=>a0s b
@[reducible] def erO (g:Nat) (l:List Sg) (p g2 n:Nat) (b:Bool):HObj:=⟨g,1,4,146,0,erF l p g2 n b⟩
theorem b1t {sh:List (Nat×HObj)} (x:Pt) (j:Nat):Fz sh (ptF x j) (ptF x j):=by
 match j with
 | 0=>exact .imm _
 | 1=>exact .imm _
 | 2=>exact .imm _
 | 3=>exact .imm _
 | j+4=>exact .sl _ _ _ _ fun i j _ _=>.imm _
instance frz_sgsV (l:List Sg):Frz (a3B l):=⟨.sl _ _ _ _ fun i j _ _=>b3K _ j⟩
instance frz_kidsV (l:List Int):Frz (a1z l):=⟨.sl _ _ _ _ fun i j _ _=>.imm _⟩
instance frz_ptsV (l:List Pt):Frz (a5N l):=⟨.sl _ _ _ _ fun i j _ _=>b1t _ j⟩
theorem a2S {kp sh:List (Nat×HObj)} {g:Nat} {l:List Pt}:OKz kp sh (b5N g l) (b5N g l):=.of fun i j _ _=>.fz _ _ (b1t _ j)
theorem c5M {x:Pt} {f:Nat→HV} (h0:Sb (f 0) (ptF x 0)) (h1:Sb (f 1) (ptF x 1)) (h2:Sb (f 2) (ptF x 2)) (h3:Sb (f 3) (ptF x 3)) (h4:Sb (f 4) (ptF x 4)):∀ j,j < 5→Sb (f j) (ptF x j):=fun j hj=>by
 match j,hj with
 | 0,_=>exact h0
 | 1,_=>exact h1
 | 2,_=>exact h2
 | 3,_=>exact h3
 | 4,_=>exact h4
theorem a5l {kp sh:List (Nat×HObj)} {g p g2 n:Nat} {l:List Sg} {b:Bool} {o:HObj} (h:hget kp 9002=some o) (hg:o.g=g2):OKz kp sh (erO g l p g2 n b) (erO g l p g2 n b):=c5r (.fz _ _ (show Fz sh (a3B l) (a3B l) from Frz.fz)) (.fz _ _ (.imm _)) (.os _ _ _ _ _ h hg) (.fz _ _ (.imm _))
theorem b2L {g ty fl:Nat} {f f':Nat→Nat→HV} (h0:Sb (f 0 0) (f' 0 0)) (h1:Sb (f 0 1) (f' 0 1)) (h2:Sb (f 0 2) (f' 0 2)) (h3:Sb (f 0 3) (f' 0 3)) (hfn:fl≤1:=by exact Nat.zero_le _):a5M ⟨g,1,4,ty,fl,f⟩ ⟨g,1,4,ty,fl,f'⟩:=.of (hfn:=hfn) fun i j hi hj=>by
 obtain rfl:i=0:=by omega
 match j,hj with | 0,_=>exact h0 | 1,_=>exact h1 | 2,_=>exact h2 | 3,_=>exact h3
theorem a0x {α:Type} {enc:α→Nat→HV} {d x:α} {out:List α} {g n sz ty:Nat} {f F:Nat→Nat→HV} (hn:n=out.length) (hF:∀ i j,i < out.length→j < sz→Sb (F i j) (enc (out.getD i d) j)) (h:∀ j,j < sz→Sb (f 0 j) (enc x j)) :
  a5M ⟨g,n+1,sz,ty,0,cat n F f⟩ ⟨g,(out++[x]).length,sz,ty,0,fun i=>enc ((out++[x]).getD i d)⟩:=by
 subst hn
 refine ⟨rfl,by simp,rfl,rfl,Nat.le_refl _,fun i j hi hj=>?_,fun h=>absurd h (Nat.not_lt_zero _)⟩
 exact a9j (l:=out) (k:=[x]) (enc:=enc) (d:=d) rfl hF (b0W (x:=x) (enc:=enc) (d:=d) h) i j (by rw [List.length_append];exact hi) hj
theorem a1N {id g lo n n':Nat} (h:n=n'):Sb (.os id g lo n) (.os id g lo n'):=by subst h;exact .refl _
theorem a4Q (g:Nat) (l:List Sg) (p g2:Nat) (out:List Pt) (b:Bool) (hl:l.length≤1000) (hp:p≤l.length):a5F Tryz.prog 112 [.pt 9001 g 0 0] [(9001,erO g l p g2 out.length b),(9002,b5N g2 out)] (a0h (kd l p)) [(9001,erO g l p g2 out.length b),(9002,b5N g2 out)]:=by
 intro c
 refine a0v Tryz.func112 rfl kr _ _ _ _ rfl 24 rfl rfl (fun X ok hX=>?_)
 refine ru 20 ?_
 refine wdc (fun hr0 hc0=>?_) (fun hr0 hc0=>?_)
 ·refine ru 18 ?_
  refine fr1 ok hX rw1 (()) (trivial) (by rw [a8Y (by simpa using hc0)];exact kza) ?_
  exact ⟨⟨_,rfl,a5l rfl rfl⟩,⟨⟨_,rfl,a2S⟩,trivial⟩⟩
 refine ru 8 ?_
 refine fr1 ok hX rw1 (()) (trivial) (by rw [b0Y (by simpa using hc0)];exact kza) ?_
 exact ⟨⟨_,rfl,a5l rfl rfl⟩,⟨⟨_,rfl,a2S⟩,trivial⟩⟩
theorem c0M (c g:Nat) (l:List Sg) (p g2 n:Nat) (b:Bool) (out:List Pt) (x:Pt) (hn:n=out.length) (ho:out.length≤100000):a3c Tryz.prog 136 c [.pt 9001 g 0 0,ptH x] [(9001,erO g l p g2 n b),(9002,b5N g2 out)]
  (a4W (fun (g':Nat) _=>True) (fun _=>a0h out.length) (fun g'=>[(9001,erO g l p g' (out++[x]).length b),(9002,b5N g' (out++[x]))])):=by
 subst hn
 refine a0v Tryz.func136 rfl kr _ _ _ _ rfl 21 rfl rfl (fun X ok hX=>?_)
 refine ru 14 ?_
 refine a2f 11 (a0b (id:=11) (hs:=[_]) ei_101.h omx rfl omx ⟨rfl,rfl,rfl,rfl,trivial⟩) rfl rfl a0e rfl rfl (k':=7) rfl ?_
 first
 | refine a2f 12 (a0a ei_101.h omy rfl omy omy (a0u rfl omy) omy rfl) rfl rfl (a0g rfl (a0C rfl)) rfl rfl (k':=8) rfl ?_
 | refine a2f 12 (a0a ei_101.h omy rfl omy omy (a0G rfl omy) omy rfl) rfl rfl (a0g rfl (a0C rfl)) rfl rfl (k':=8) rfl ?_
 | refine a2f 12 (a0a ei_101.h omy rfl omy omy (a0F rfl) omy rfl) rfl rfl (a0g rfl a0e) rfl rfl (k':=8) rfl ?_
 | refine a2f 12 (a0a ei_101.h omy rfl omy omy (a0w 5 (fun _ _=>default) rfl) omy rfl) rfl rfl (a0g rfl a0e) rfl rfl (k':=8) rfl ?_
 refine ru 6 ?_
 refine (a0R 9001 (erO g l p (c+1+7) (out++[x]).length b) rfl (by exact b2L (.refl _) (.refl _) (a1N (by simp)) (.refl _))).wp ?_;refine (a0R 9002 (b5N (c+1+7) (out++[x])) rfl (by exact a0x (enc:=ptF) (d:=default) rfl (fun i j _ _=>.refl _) (c5M (.refl _) (.refl _) (.refl _) (.refl _) (.refl _)))).wp ?_
 refine ru 11 ?_
 refine fr1 ok hX rw1 ((c+1+7)) (trivial) (a7i (by simp)) ?_
 exact ⟨⟨_,rfl,a5l rfl rfl⟩,⟨⟨_,rfl,a2S⟩,trivial⟩⟩
theorem c1i (c g:Nat) (l:List Sg) (p g2 n:Nat) (b:Bool) (out:List Pt) (k:Int) (ks:List Int) (hn:n=out.length) (ho:out.length≤100000):a3c Tryz.prog 113 c [.pt 9001 g 0 0,a0h k,a1z ks] [(9001,erO g l p g2 n b),(9002,b5N g2 out)]
  (a4W (fun (y:Nat×List Pt×Int) _=>if ks.length=1 then y.2=(out,ks.getD 0 0) else y.2=(out++[⟨k,0,0,[],ks⟩],(out.length:Int))) (fun y=>a0h y.2.2) (fun y=>[(9001,erO g l p y.1 y.2.1.length b),(9002,b5N y.1 y.2.1)])):=by
 subst hn
 refine a0v Tryz.func113 rfl kr _ _ _ _ rfl 18 rfl rfl (fun X ok hX=>?_)
 refine ru 13 ?_
 refine wdc (fun hr0 hc0=>?_) (fun hr0 hc0=>?_)
 ·refine ru 10 ?_
  refine fr1 ok hX rw1 ((g2,out,ks.getD 0 0)) ((by rw [if_pos om])) (kza) ?_
  exact ⟨⟨_,rfl,a5l rfl rfl⟩,⟨⟨_,rfl,a2S⟩,trivial⟩⟩
 refine ru 8 ?_
 refine (a2F 16 [] rfl a0e rfl ((show Fz [] (.agg 5 _) (ptH ⟨k,0,0,[],ks⟩) from a1i (.imm _) (.imm _) (.imm _) (.imm _) (show Fz [] (a1z ks) (a1z ks) from Frz.fz)))).seq ?_
 refine a0l 17 (xs:=[_,_]) (pre:=[(9001,_),(9002,_)]) (c0M _ g l p g2 _ b out ⟨k,0,0,[],ks⟩ rfl ho) ⟨rfl,⟨rfl,trivial⟩⟩ (a0g rfl (a0g rfl a0e)) rfl rfl (fun g3 c1 hx1=>?_)
 (try dsimp only)
 refine ru 4 ?_
 refine fr1 ok hX rw1 ((g3,out++[⟨k,0,0,[],ks⟩],(out.length:Int))) ((by rw [if_neg om])) (kza) ?_
 exact ⟨⟨_,rfl,a5l rfl rfl⟩,⟨⟨_,rfl,a2S⟩,trivial⟩⟩
structure Rs where
 t:Option T
 q:Nat
 g:Nat
 out:List Pt
 ret:Int
def a5J (l:List Sg) (v p:Nat) (out:List Pt) (x:Rs):Prop:=match x.t with
 | some t=>Seg l v p x.q t∧x.out=out++T.flat out.length t∧x.ret=T.root out.length t∧(2≤v→kd l x.q≠1∧kd l x.q≠2)∧(3≤v→kd l x.q≠4)
 | none=>BadS l p x.q∧x.out.length≤out.length+2 * (x.q - p)
@[reducible] def RsP (l:List Sg) (v p:Nat) (out:List Pt) (g:Nat):HEnd→List (Nat×HObj)→Nat→Prop :=
 a4W (fun (x:Rs) _=>a5J l v p out x) (fun x=>a0h x.ret) (fun x=>[(9001,erO g l x.q x.g x.out.length x.t.isNone),(9002,b5N x.g x.out)])
@[reducible] def RsC (f:FuncId) (l:List Sg) (v g p:Nat):Prop:=∀ c g2 (out:List Pt),out.length≤2 * p→a3c Tryz.prog f c [.pt 9001 g 0 0] [(9001,erO g l p g2 out.length false),(9002,b5N g2 out)] (RsP l v p out g)
theorem b0N {l:List Sg} {v p:Nat} {out:List Pt} {x:Rs} (h:a5J l v p out x):p≤x.q∧x.q≤l.length∧x.out.length≤out.length+2 * (x.q - p):=by
  obtain ⟨t,q,g,o,r⟩:=x
  cases t with
  | none=>exact ⟨h.1.le,h.1.len,h.2⟩
  | some t =>
    obtain ⟨h1,h2,_⟩:=h
    have a:=a1f h1;have b:=a3b h1
    simp only at h2 a b ⊢
    subst h2
    rw [List.length_append,T.flat_len]
    omega
theorem b9a {l:List Sg} {p g:Nat} {out:List Pt} (h:kd l p=1) (h5:kd l (p+1)≠5):a5J l 1 p out ⟨some (.name (l.getD p default).name),p+1,g,out++[⟨1,0,0,(l.getD p default).name,[]⟩],out.length⟩ :=
 ⟨.item _ _ _ (.name p h) h5,by simp [T.flat],by simp [T.root,T.size],fun h=>absurd h (by decide),fun h=>absurd h (by decide)⟩
theorem b4j {l:List Sg} {p g:Nat} {out:List Pt} (h:kd l p=1) (h5:kd l (p+1)=5):a5J l 1 p out ⟨some (.times (l.getD (p+1) default).low (l.getD (p+1) default).high (.name (l.getD p default).name)),p+2,g,out++[⟨1,0,0,(l.getD p default).name,[]⟩]++[⟨4,(l.getD (p+1) default).low,(l.getD (p+1) default).high,[],[(out.length:Int)]⟩],(out++[(⟨1,0,0,(l.getD p default).name,[]⟩:Pt)]).length⟩ :=
 ⟨.times _ _ _ (.name p h) h5,by simp [T.flat,T.size],by simp [T.root,T.size];omega,fun h=>absurd h (by decide),fun h=>absurd h (by decide)⟩
theorem b4F {l:List Sg} {p q g:Nat} {out o:List Pt} {r:Int} {t:T} (hx:a5J l 3 (p+1) out ⟨some t,q,g,o,r⟩) (h:kd l p=2) (h3:kd l q=3) (h5:kd l (q+1)≠5):a5J l 1 p out ⟨some t,q+1,g,o,r⟩ :=
 ⟨.item _ _ _ (.group p q t h hx.1 h3) h5,hx.2.1,hx.2.2.1,fun h=>absurd h (by decide),fun h=>absurd h (by decide)⟩
theorem b2c {l:List Sg} {p q g g':Nat} {out o:List Pt} {r:Int} {t:T} (hx:a5J l 3 (p+1) out ⟨some t,q,g,o,r⟩) (h:kd l p=2) (h3:kd l q=3) (h5:kd l (q+1)=5):a5J l 1 p out ⟨some (.times (l.getD (q+1) default).low (l.getD (q+1) default).high t),q+2,g',o++[⟨4,(l.getD (q+1) default).low,(l.getD (q+1) default).high,[],[r]⟩],o.length⟩:=by
 obtain ⟨h1,h2,h4,_⟩:=hx
 simp only at h2 h4
 refine ⟨.times _ _ _ (.group p q t h h1 h3) h5,?_,?_,fun h=>absurd h (by decide),fun h=>absurd h (by decide)⟩
 ·simp only [T.flat,h2,h4,T.root,List.append_assoc]
 ·simp only [T.root,T.size,h2,List.length_append,T.flat_len];omega
theorem b8m {l:List Sg} {p q g:Nat} {out o:List Pt} {r:Int} {t:Option T} (hk:b6q l) (hx:a5J l 3 (p+1) out ⟨t,q,g,o,r⟩) (h:kd l p=2) (hb:t.isNone=true∨kd l q≠3):a5J l 1 p out ⟨none,q,g,o,r⟩:=by
  have hle:=b0N hx
  simp only at hle
  refine ⟨?_,by show o.length≤out.length+2 * (q - p);omega⟩
  cases t with
  | none=>exact b6t h hx.1
  | some t =>
    obtain ⟨h1,_,_,h2,h4⟩:=hx
    have a:=h2 (by decide);have b:=h4 (by decide)
    exact c0l hk h h1 a.1 a.2 (hb.resolve_left (by simp)) b
theorem c1o {sh:List (Nat×HObj)} {id g ty fl:Nat} {r:Int}:Fz ((id,⟨g,1,1,ty,fl,bsf [a0h r]⟩)::sh) (.os id g 0 1) (a1z [r]) :=
 a1x (l:=[r]) (enc:=fun x _=>a0h x) (d:=0) (List.mem_cons_self ..) rfl rfl (Nat.le_refl _) (fun i j hi hj=>by
  obtain rfl:i=0:=by simpa using hi
  exact .imm _)
theorem c4F (l:List Sg) (g p:Nat) (hk:b6q l) (hne:l≠[]) (hl:l.length≤1000) (hp:p≤l.length) (hrec:∀ p',p < p'→p'≤l.length→RsC 80 l 3 g p'):RsC 135 l 1 g p:=by
 intro c g2 out ho
 refine a0v Tryz.func135 rfl kr _ _ _ _ rfl 113 rfl rfl (fun X ok hX=>?_)
 refine ru 16 ?_
 refine hq_ 8 (a0B (xs:=[_]) (pre:=[(9001,_),(9002,_)]) (a4Q g l p g2 out false hl hp) ⟨rfl,trivial⟩) rfl rfl (a0g rfl (a0g rfl a0e)) rfl rfl ?_
 refine ru 9 ?_
 refine wdc (fun hr0 hc0=>?_) (fun hr0 hc0=>?_)
 ·skip
  have hlt:=a2D (l:=l) (i:=p) (by rw [hc0];decide)
  refine ru 17 ?_
  refine b8c kr kr kr kr (c':=c+15) rfl ?_ (by simp)
  refine (a2F 29 [] rfl a0e rfl ((show Fz [] (.agg 5 _) (ptH ⟨1,0,0,(l.getD p default).name,[]⟩) from a1i (.imm _) (.imm _) (.imm _) (.imm _) (.nil 0 1 _ (by decide) none)))).seq ?_
  refine a0l 30 (xs:=[_,_]) (pre:=[(9001,_),(9002,_)]) (c0M _ g l p g2 _ false out ⟨1,0,0,(l.getD p default).name,[]⟩ rfl om) ⟨rfl,⟨rfl,trivial⟩⟩ (a0g rfl (a0g rfl a0e)) rfl rfl (fun g3 c1 hx1=>?_)
  (try dsimp only)
  refine ru 1 ?_
  refine a3A ?_
  refine ru 17 ?_
  refine (a0R 9001 (erO g l (p+1) g3 (out++[(⟨1,0,0,(l.getD p default).name,[]⟩:Pt)]).length false) rfl (by exact b2L (.refl _) (a0Y om) (.refl _) (.refl _))).wp ?_
  refine ru 4 ?_
  refine hq_ 80 (a0B (xs:=[_]) (pre:=[(9001,_),(9002,_)]) (a4Q g l (p+1) g3 (out++[(⟨1,0,0,(l.getD p default).name,[]⟩:Pt)]) false hl om) ⟨rfl,trivial⟩) rfl rfl (a0g rfl (a0g rfl a0e)) rfl rfl ?_
  refine ru 3 ?_
  refine wdc (fun hr3 hc3=>?_) (fun hr3 hc3=>?_)
  ·skip
   have hlt5:=a2D (l:=l) (i:=p+1) (by rw [hc3];decide)
   refine ru 14 ?_
   refine a2f 4 (a4t (id:=4) (sz:=5) zc_149.h rfl rfl omx omx) rfl rfl a0e rfl rfl (k':=13) rfl ?_
   refine ru 17 ?_
   refine (a0R 9001 (erO g l (p+2) g3 (out++[(⟨1,0,0,(l.getD p default).name,[]⟩:Pt)]).length false) rfl (by exact b2L (.refl _) (a0Y om) (.refl _) (.refl _))).wp ?_
   refine ru 7 ?_
   refine a0t 109 (a0b (id:=109) (hs:=[_]) ei_104.h omx rfl omx ⟨rfl,rfl,rfl,rfl,trivial⟩) rfl rfl a0e rfl rfl (c':=c1+17) rfl ?_
   refine ru 1 ?_
   refine (a2F 110 [(109,_)] rfl (a0g rfl a0e) rfl ((show Fz _ (.agg 5 _) (ptH ⟨4,(l.getD (p+1) default).low,(l.getD (p+1) default).high,[],[(out.length:Int)]⟩) from a1i (.imm _) (.imm _) (.imm _) (.imm _) c1o))).seq ?_
   refine a0l 111 (xs:=[_,_]) (pre:=[(9001,_),(9002,_)]) (c0M _ g l (p+2) g3 _ false (out++[(⟨1,0,0,(l.getD p default).name,[]⟩:Pt)]) ⟨4,(l.getD (p+1) default).low,(l.getD (p+1) default).high,[],[(out.length:Int)]⟩ rfl (by rw [List.length_append];show out.length+1≤_;omega)) ⟨rfl,⟨rfl,trivial⟩⟩ (a0g rfl (a0g rfl a0e)) rfl rfl (fun g4 c2 hx2=>?_)
   (try dsimp only)
   refine ru 10 ?_
   refine fr1 ok hX rw1 (⟨some _,_,g4,_,_⟩) (b4j hc0 hc3) (kza) ?_
   exact ⟨⟨_,rfl,a5l rfl rfl⟩,⟨⟨_,rfl,a2S⟩,trivial⟩⟩
  refine ru 9 ?_
  refine fr1 ok hX rw1 (⟨some _,_,g3,_,_⟩) (b9a hc0 hc3) (kza) ?_
  exact ⟨⟨_,rfl,a5l rfl rfl⟩,⟨⟨_,rfl,a2S⟩,trivial⟩⟩
 refine ru 6 ?_
 refine wdc (fun hr1 hc1=>?_) (fun hr1 hc1=>?_)
 ·skip
  have hlt:=a2D (l:=l) (i:=p) (by rw [hc1];decide)
  refine ru 15 ?_
  refine (a0R 9001 (erO g l (p+1) g2 out.length false) rfl (by exact b2L (.refl _) (a0Y om) (.refl _) (.refl _))).wp ?_
  refine ru 2 ?_
  refine a0l 52 (xs:=[_]) (pre:=[(9001,_),(9002,_)]) (hrec (p+1) om om _ g2 out om) ⟨rfl,trivial⟩ (a0g rfl (a0g rfl a0e)) rfl rfl (fun x3 c3 hx=>?_)
  obtain ⟨t,q,g3,o3,r⟩:=x3
  (try dsimp only)
  refine ru 5 ?_
  have hle:=b0N hx;simp only at hle
  refine ru 9 ?_
  first
  | refine a4x 61 4 57 false _ (fun hb=>a0B (xs:=[_]) (pre:=[(9001,_),(9002,_)]) (a4Q g l q g3 o3 t.isNone hl hle.2.1) ⟨rfl,trivial⟩) rfl rfl rfl rfl (a0g rfl (a0g rfl a0e)) rfl rfl rfl ?_
  | refine a3S 61 4 57 _ _ false _ (fun hb=>a0B (xs:=[_]) (pre:=[(9001,_),(9002,_)]) (a4Q g l q g3 o3 t.isNone hl hle.2.1) ⟨rfl,trivial⟩) rfl rfl rfl rfl (a0g rfl (a0g rfl a0e)) rfl rfl rfl ?_
  refine ru 4 ?_
  refine wdc (fun hr2 hc2=>?_) (fun hr2 hc2=>?_)
  ·refine ru 18 ?_
   refine fr1 ok hX rw1 (⟨none,q,g3,o3,r⟩) (b8m hk hx hc1 hc2) (kza) ?_
   exact ⟨⟨_,rfl,c5r (.fz _ _ (show Fz [] (a3B l) (a3B l) from Frz.fz)) kza kza kza⟩,⟨⟨_,rfl,a2S⟩,trivial⟩⟩
  obtain ⟨tr,rfl⟩:∃ tr,t=some tr:=(by cases t with | none=>exact absurd hc2.1 (by simp) | some tr=>exact ⟨tr,rfl⟩);have hk3:=hc2.2;have hlt3:=a2D (l:=l) (i:=q) (by rw [hk3];decide)
  refine ru 18 ?_
  refine (a0R 9001 (erO g l (q+1) g3 o3.length false) rfl (by exact b2L (.refl _) (a0Y om) (.refl _) (.refl _))).wp ?_
  refine ru 4 ?_
  refine hq_ 80 (a0B (xs:=[_]) (pre:=[(9001,_),(9002,_)]) (a4Q g l (q+1) g3 o3 false hl om) ⟨rfl,trivial⟩) rfl rfl (a0g rfl (a0g rfl a0e)) rfl rfl ?_
  refine ru 3 ?_
  refine wdc (fun hr3 hc3=>?_) (fun hr3 hc3=>?_)
  ·skip
   have hlt5:=a2D (l:=l) (i:=q+1) (by rw [hc3];decide)
   refine ru 14 ?_
   refine a2f 4 (a4t (id:=4) (sz:=5) zc_149.h rfl rfl omx omx) rfl rfl a0e rfl rfl (k':=13) rfl ?_
   refine ru 17 ?_
   refine (a0R 9001 (erO g l (q+2) g3 o3.length false) rfl (by exact b2L (.refl _) (a0Y om) (.refl _) (.refl _))).wp ?_
   refine ru 7 ?_
   refine a0t 109 (a0b (id:=109) (hs:=[_]) ei_104.h omx rfl omx ⟨rfl,rfl,rfl,rfl,trivial⟩) rfl rfl a0e rfl rfl (c':=c3+17) rfl ?_
   refine ru 1 ?_
   refine (a2F 110 [(109,_)] rfl (a0g rfl a0e) rfl ((show Fz _ (.agg 5 _) (ptH ⟨4,(l.getD (q+1) default).low,(l.getD (q+1) default).high,[],[r]⟩) from a1i (.imm _) (.imm _) (.imm _) (.imm _) c1o))).seq ?_
   refine a0l 111 (xs:=[_,_]) (pre:=[(9001,_),(9002,_)]) (c0M _ g l (q+2) g3 _ false o3 ⟨4,(l.getD (q+1) default).low,(l.getD (q+1) default).high,[],[r]⟩ rfl om) ⟨rfl,⟨rfl,trivial⟩⟩ (a0g rfl (a0g rfl a0e)) rfl rfl (fun g4 c4 hx4=>?_)
   (try dsimp only)
   refine ru 10 ?_
   refine fr1 ok hX rw1 (⟨some _,_,g4,_,_⟩) (b2c hx hc1 hk3 hc3) (kza) ?_
   exact ⟨⟨_,rfl,a5l rfl rfl⟩,⟨⟨_,rfl,a2S⟩,trivial⟩⟩
  refine ru 9 ?_
  refine fr1 ok hX rw1 (⟨some _,_,g3,_,_⟩) (b4F hx hc1 hk3 hc3) (kza) ?_
  exact ⟨⟨_,rfl,a5l rfl rfl⟩,⟨⟨_,rfl,a2S⟩,trivial⟩⟩
 refine ru 17 ?_
 refine fr1 ok hX rw1 (⟨none,p,g2,out,-1⟩) (⟨b1I hne hp hc0 hc1,by simp⟩) (kza) ?_
 exact ⟨⟨_,rfl,c5r (.fz _ _ (show Fz [] (a3B l) (a3B l) from Frz.fz)) kza kza kza⟩,⟨⟨_,rfl,a2S⟩,trivial⟩⟩
def c1j (l:List Sg) (p:Nat) (out:List Pt) (bad:Bool) (q:Nat) (o:List Pt) (ks:List Int):Prop :=
 (1≤ks.length∧ks.length≤2 * (q - p)+1)∧p≤q∧q≤l.length∧match bad with
 | true=>BadS l p q∧o.length+(if ks.length=1 then 0 else 1)≤out.length+2 * (q - p)
 | false=>∃ ts,b0i l p q ts∧o=out++T.flatL out.length ts∧ks=rootsL out.length ts
theorem b2s {l:List Sg} {p q g:Nat} {out o:List Pt} {t:Option T} {r:Int} (h:a5J l 1 p out ⟨t,q,g,o,r⟩):c1j l p out t.isNone q o [r]:=by
 have hle:=b0N h
 refine ⟨⟨Nat.le_refl _,by show 1≤_;omega⟩,hle.1,hle.2.1,?_⟩
 cases t with
 | none=>exact ⟨h.1,h.2⟩
 | some t=>exact ⟨[t],b8X h.1,by rw [show o=_ from h.2.1];simp [T.flatL],by rw [show r=_ from h.2.2.1];rfl⟩
theorem b4m {l:List Sg} {p q q' g:Nat} {out o o':List Pt} {ks:List Int} {t:Option T} {r:Int} (h:c1j l p out false q o ks) (hk:kd l q=1∨kd l q=2) (h2:a5J l 1 q o ⟨t,q',g,o',r⟩):c1j l p out t.isNone q' o' (ks++[r]):=by
  have hle:q≤q'∧q'≤l.length∧o'.length≤o.length+2 * (q' - q):=b0N h2
  obtain ⟨h1,hpq,hql,ts,hi,ho,hks⟩:=h
  have hlt:=b0D hi
  have hol:o.length=out.length+T.sizeL ts:=by rw [ho,List.length_append,T.flatL_len]
  have hkl:ks.length=ts.length:=by rw [hks,a1L]
  refine ⟨by rw [List.length_append];show 1≤ks.length+1∧ks.length+1≤_;omega,by omega,hle.2.1,?_⟩
  cases t with
  | none =>
    refine ⟨b8E hi hk h2.1,?_⟩
    rw [if_neg (by rw [List.length_append];show ¬ ks.length+1=1;omega)]
    have:=hi.1
    omega
  | some t =>
    refine ⟨ts++[t],b5Q hi h2.1,?_,?_⟩
    · rw [show o'=_ from h2.2.1,ho,T.flatL_snoc,List.append_assoc,List.length_append,T.flatL_len]
    · rw [show r=_ from h2.2.2.1,hks,a4N,hol]
theorem c3X {l:List Sg} {p q:Nat} {out o:List Pt} {ks:List Int} {bad:Bool} (h:c1j l p out bad q o ks):o.length≤out.length+2 * (q - p):=by
  obtain ⟨h1,hpq,hql,h⟩:=h
  cases bad with
  | true=>have:=h.2;omega
  | false =>
    obtain ⟨ts,hi,ho,hks⟩:=h
    have:=b0D hi
    rw [ho,List.length_append,T.flatL_len];omega
theorem b7c {l:List Sg} {v q q' g:Nat} {o o':List Pt} {t:Option T} {r:Int} (h:a5J l v q o ⟨t,q',g,o',r⟩):2 * (l.length - q')+(if t.isNone then 0 else 1) < 2 * (l.length - q)+(if false then 0 else 1):=by
 have hle:q≤q'∧q'≤l.length∧o'.length≤o.length+2 * (q' - q):=b0N h
 cases t with
 | none=>show _+0 < _+1;omega
 | some t=>have:=a1f h.1;show _+1 < _+1;simp only at this;omega
@[reducible] def a9h (k:Int) (out:List Pt) (ks:List Int) (y:Nat×List Pt×Int):Prop:=if ks.length=1 then y.2=(out,ks.getD 0 0) else y.2=(out++[⟨k,0,0,[],ks⟩],(out.length:Int))
theorem b8r {l:List Sg} {p q:Nat} {out o:List Pt} {ks:List Int} {k:Int} {y:Nat×List Pt×Int} (hb:o.length+(if ks.length=1 then 0 else 1)≤out.length+2 * (q - p)) (hy:a9h k o ks y):y.2.1.length≤out.length+2 * (q - p):=by
 unfold a9h at hy
 split at hy
 ·rename_i h1;rw [if_pos h1] at hb;rw [hy];exact hb
 ·rename_i h1;rw [if_neg h1] at hb;rw [hy];simpa using hb
theorem b4h {l:List Sg} {p q:Nat} {out o:List Pt} {ks:List Int} {bad:Bool} (h:c1j l p out bad q o ks) (hk:bad=true∨(kd l q≠1∧kd l q≠2)):∃ tt:Option T,tt.isNone=bad∧∀ y,a9h 2 o ks y→a5J l 2 p out ⟨tt,q,y.1,y.2.1,y.2.2⟩:=by
  obtain ⟨h1,hpq,hql,h⟩:=h
  cases bad with
  | true=>exact ⟨none,rfl,fun y hy=>⟨h.1,b8r (l:=l) h.2 hy⟩⟩
  | false =>
    obtain ⟨ts,hi,ho,hks⟩:=h
    have hk:=hk.resolve_left (by simp)
    have hkl:ks.length=ts.length:=by rw [hks,a1L]
    by_cases h2:ts.length=1
    · match ts, h2 with
      | [t], _ =>
        refine ⟨some t,rfl,fun y hy=>?_⟩
        have hy:y.2=(o,ks.getD 0 0):=by unfold a9h at hy;rwa [if_pos (by simpa using hkl)] at hy
        refine ⟨a9H hi,?_,?_,fun _=>hk,fun h=>absurd h (by decide)⟩
        · show y.2.1=_;rw [hy,ho];simp [T.flatL]
        · show y.2.2=_;rw [hy,hks];rfl
    · refine ⟨some (.many 2 ts),rfl,fun y hy=>?_⟩
      have hy:y.2=(o++[⟨2,0,0,[],ks⟩],(o.length:Int)):=by unfold a9h at hy;rwa [if_neg (by omega)] at hy
      refine ⟨b1q hi (by have:=hi.1;omega),?_,?_,fun _=>hk,fun h=>absurd h (by decide)⟩
      · show y.2.1=_;rw [hy,ho,hks];simp [T.flat]
      · show y.2.2=_;rw [hy,ho];simp [T.root,T.size,T.flatL_len];omega
theorem c5s (l:List Sg) (g p:Nat) (hk:b6q l) (hne:l≠[]) (hl:l.length≤1000) (hp:p≤l.length) (hitem:∀ p',p≤p'→p'≤l.length→RsC 135 l 1 g p'):RsC 111 l 2 g p:=by
 intro c g2 out ho
 refine a0v Tryz.func111 rfl kr _ _ _ _ rfl 34 rfl rfl (fun X ok hX=>?_)
 refine ru 8 ?_
 refine a0l 5 (xs:=[_]) (pre:=[(9001,_),(9002,_)]) (hitem p (Nat.le_refl _) hp _ g2 out ho) ⟨rfl,trivial⟩ (a0g rfl (a0g rfl a0e)) rfl rfl (fun x1 c1 hx=>?_)
 obtain ⟨t1,q1,g3,o3,r⟩:=x1
 (try dsimp only)
 refine a0t 6 (a0b (id:=6) (hs:=[_]) ei_104.h omx rfl omx ⟨rfl,rfl,rfl,rfl,trivial⟩) rfl rfl a0e rfl rfl (c':=c1+1) rfl ?_
 refine ru 5 ?_
 refine a0n (α:=Bool×Nat×List Pt×List Int×Nat×Nat) (fun x c=>⟨34,[(0,.v (.pt 9001 g 0 0)),(3,.v (.os 6 x.2.2.2.2.2 0 x.2.2.2.1.length))],[(9001,erO g l x.2.1 x.2.2.2.2.1 x.2.2.1.length x.1),(9002,b5N x.2.2.2.2.1 x.2.2.1),(6,⟨x.2.2.2.2.2,x.2.2.2.1.length,1,3,0,a3q x.2.2.2.1⟩)],c⟩) (fun x=>c1j l p out x.1 x.2.1 x.2.2.1 x.2.2.2.1) (fun x=>2 * (l.length - x.2.1)+(if x.1 then 0 else 1)) ((t1.isNone,q1,o3,[r],g3,c1)) (by exact b2s hx) (a0c rfl (Nat.le_refl _) tsa (hsr rfl (hsr rfl (a0k.cons rfl (a5M.of fun i j hi hj=>by obtain rfl:i=0:=om;exact .refl _) a0k.nil)))) (fun x c hx NhL1 hL1=>?_)
 revert hx hL1;obtain ⟨bad,q,o,ks,gg,gk⟩:=x;intro hx hL1;dsimp only at hx hL1 ⊢
 obtain ⟨hq1,hq2,hq3,hR⟩:=hx
 have hI:c1j l p out bad q o ks:=⟨hq1,hq2,hq3,hR⟩;have hol:=c3X hI
 refine ru 12 ?_
 first
 | refine a4x 16 5 12 true _ (fun hb=>a0B (xs:=[_]) (pre:=[(9001,_),(9002,_)]) (a4Q g l q gg o bad hl hI.2.2.1) ⟨rfl,trivial⟩) rfl rfl rfl rfl (a0g rfl (a0g rfl a0e)) rfl rfl rfl ?_
 | refine a3S 16 5 12 _ _ true _ (fun hb=>a0B (xs:=[_]) (pre:=[(9001,_),(9002,_)]) (a4Q g l q gg o bad hl hI.2.2.1) ⟨rfl,trivial⟩) rfl rfl rfl rfl (a0g rfl (a0g rfl a0e)) rfl rfl rfl ?_
 refine ru 5 ?_
 first
 | refine a4x 22 11 18 false _ (fun hb=>a0B (xs:=[_]) (pre:=[(9001,_),(9002,_)]) (a4Q g l q gg o bad hl hI.2.2.1) ⟨rfl,trivial⟩) rfl rfl rfl rfl (a0g rfl (a0g rfl a0e)) rfl rfl rfl ?_
 | refine b6e 22 11 18 12 true false _ _ (fun hb hb2=>a0B (xs:=[_]) (pre:=[(9001,_),(9002,_)]) (a4Q g l q gg o bad hl hI.2.2.1) ⟨rfl,trivial⟩) rfl rfl rfl rfl rfl (a0g rfl (a0g rfl a0e)) rfl rfl rfl ?_
 | refine a3S 22 11 18 _ _ false _ (fun hb=>a0B (xs:=[_]) (pre:=[(9001,_),(9002,_)]) (a4Q g l q gg o bad hl hI.2.2.1) ⟨rfl,trivial⟩) rfl rfl rfl rfl (a0g rfl (a0g rfl a0e)) rfl rfl rfl ?_
 refine ru 5 ?_
 refine wdc (fun hr0 hc0=>?_) (fun hr0 hc0=>?_)
 ·skip
  obtain ⟨rfl,hkq⟩:bad=false∧(kd l q=1∨kd l q=2):=(by cases bad with | true=>exact absurd hr0 (by simp) | false=>exact ⟨rfl,by simpa using hr0⟩)
  refine ru 6 ?_
  refine a0l 28 (xs:=[_]) (pre:=[(9001,_),(9002,_)]) (hitem q hI.2.1 hI.2.2.1 _ gg o om) ⟨rfl,trivial⟩ (a0g rfl (a0g rfl a0e)) rfl rfl (fun x2 c2 hx2=>?_)
  obtain ⟨t,q',g4,o4,r'⟩:=x2
  (try dsimp only)
  refine a0t 29 (a0b (id:=29) (hs:=[_]) ei_104.h omx rfl omx ⟨rfl,rfl,rfl,rfl,trivial⟩) rfl rfl a0e rfl rfl (c':=c2+1) rfl ?_
  first
  | refine a0t 30 (a0a ei_104.h omy rfl omy omy (a0u rfl omy) omy rfl) rfl rfl (a0g rfl (a0C rfl)) rfl rfl (c':=c2+2) rfl ?_
  | refine a0t 30 (a0a ei_104.h omy rfl omy omy (a0G rfl omy) omy rfl) rfl rfl (a0g rfl (a0C rfl)) rfl rfl (c':=c2+2) rfl ?_
  | refine a0t 30 (a0a ei_104.h omy rfl omy omy (a0F rfl) omy rfl) rfl rfl (a0g rfl a0e) rfl rfl (c':=c2+2) rfl ?_
  | refine a0t 30 (a0a ei_104.h omy rfl omy omy (a0w 1 (fun _ _=>default) rfl) omy rfl) rfl rfl (a0g rfl a0e) rfl rfl (c':=c2+2) rfl ?_
  refine ru 3 ?_
  exact hL1 ((t.isNone,q',o4,ks++[r'],g4,c2+1)) _ _ (by (try dsimp only);exact b4m hI hkq hx2) (by (try dsimp only);exact b7c hx2) (a0c rfl (Nat.le_refl _) (tsr rfl (a0K.cons rfl (a1N (by simp)) a0K.nil)) (hsr rfl (hsr rfl (a0k.cons rfl (a0x (enc:=fun x _=>a0h x) (d:=0) rfl (fun i j _ _=>.refl _) (fun j hj=>.refl _)) a0k.nil))))
 obtain ⟨tt,rfl,hdone⟩:=b4h hI (by cases bad with | true=>exact .inl rfl | false=>right;simpa using hr0)
 refine ru 2 ?_
 refine a0d ?_
 refine ru 6 ?_
 refine (a2F 32 [(6,_)] rfl (a0g rfl a0e) rfl ((show Fz _ _ (a1z ks) from a1x (l:=ks) (enc:=fun x _=>a0h x) (d:=0) (List.mem_cons_self ..) rfl rfl (Nat.le_refl _) (fun i j hi hj=>.imm _)))).seq ?_
 refine a0l 33 (xs:=[_,_,_]) (pre:=[(9001,_),(9002,_)]) (c1i _ g l q gg _ tt.isNone o 2 ks rfl om) ⟨rfl,⟨rfl,⟨rfl,trivial⟩⟩⟩ (a0g rfl (a0g rfl a0e)) rfl rfl (fun x3 c3 hy=>?_)
 obtain ⟨g5,o5,r5⟩:=x3
 (try dsimp only)
 refine ru 4 ?_
 refine fr1 ok hX rw1 (⟨tt,q,g5,o5,r5⟩) (hdone _ hy) (kza) ?_
 exact ⟨⟨_,rfl,a5l rfl rfl⟩,⟨⟨_,rfl,a2S⟩,trivial⟩⟩
theorem b2n {sh:List (Nat×HObj)} {a b:Int} (h:a=b):Fz sh (a0h a) (a0h b):=by subst h;exact .imm _
theorem a5x (x:Int):a0q Tryz.prog 142 [.imm (.int .u8 x)] (a0s (smallZ x)):=by
 refine a0m Tryz.func142 rfl kr _ _ _ rfl 9 rfl rfl (fun w F=>?_)
 refine ru 17 ?_
 refine rt1 ?_
 exact Frz.fz
theorem a2l (x:Int):a0q Tryz.prog 143 [.imm (.int .u8 x)] (a0s (a0W x)):=by
 refine a0m Tryz.func143 rfl kr _ _ _ rfl 9 rfl rfl (fun w F=>?_)
 refine ru 17 ?_
 refine rt1 ?_
 exact Frz.fz
theorem a5t (s:List UInt8) (p:Nat):a0q Tryz.prog 161 [a0p s,a0h p] (t2 (a0h (a1B s p).1) (a0h (a1B s p).2)):=by
 refine a0m Tryz.func161 rfl kr _ _ _ rfl 13 rfl rfl (fun w F=>?_)
 refine ru 15 ?_
 refine wdc (fun hr0 hc0=>?_) (fun hr0 hc0=>?_)
 ·refine ru 10 ?_
  refine rt2 ?_
  have e:a1B s p=((s.length:Int),5):=if_pos om;rw [e];exact a1y (.imm _) (.imm _)
 refine ru 10 ?_
 refine rt2 ?_
 have e:a1B s p=((p:Int),2):=if_neg om;rw [e];exact a1y (.imm _) (.imm _)
@[reducible] def c3S (x:Option Int×Nat):HV:=t2 (a0h (x.1.getD (-1))) (a0h x.2)
theorem b3F (s:List UInt8) (i:Nat) (hs:s.length≤9223372036854775807) (hi:i≤s.length):a0q Tryz.prog 160 [a0p s,a0h i] (c3S (a4S s i)):=by
 refine a0m Tryz.func160 rfl kr _ _ _ rfl 62 rfl rfl (fun w F=>?_)
 refine ru 17 ?_
 first
 | refine stg 11 (fun hb=>a0i (xs:=[_]) (a2l _) ⟨rfl,trivial⟩ ⟨(Fz.eq rfl),trivial⟩) rfl rfl rfl rfl rfl ?_
 | refine sth 11 (fun hb=>a0i (xs:=[_]) (a2l _) ⟨rfl,trivial⟩ ⟨(Fz.eq rfl),trivial⟩) rfl rfl rfl rfl rfl ?_
 refine ru 4 ?_
 refine wdc (fun hr0 hc0=>?_) (fun hr0 hc0=>?_)
 ·skip
  have d0:a0W (bz s i)=false:=(by have h:=hr0;rw [Int.toNat_natCast,b7O] at h;simpa using h)
  refine ru 9 ?_
  refine rt2 ?_
  rw [b0d d0];exact a1y (.imm _) (.imm _)
 have d0:a0W (bz s i)=true:=(by have h:=hr0;rw [Int.toNat_natCast,b7O] at h;simpa using h);have hil:=a2s d0;have dz:=a2e.1 d0
 refine ru 7 ?_
 refine rvl (.imm (.int .u8 (bz s i))) (by rw [a3R hil,Int.toNat_natCast]) ?_
 refine ru 9 ?_
 refine rvl (a0h ((i+1:Nat):Int)) (rfl) ?_
 refine ru 14 ?_
 first
 | refine stg 30 (fun hb=>a0i (xs:=[_]) (a2l _) ⟨rfl,trivial⟩ ⟨(Fz.eq rfl),trivial⟩) rfl rfl rfl rfl rfl ?_
 | refine sth 30 (fun hb=>a0i (xs:=[_]) (a2l _) ⟨rfl,trivial⟩ ⟨(Fz.eq rfl),trivial⟩) rfl rfl rfl rfl rfl ?_
 refine ru 3 ?_
 refine wdc (fun hr1 hc1=>?_) (fun hr1 hc1=>?_)
 ·skip
  have d1:a0W (bz s (i+1))=true:=(by have h:=hr1;rw [Int.toNat_natCast,←b1O] at h;exact h);have hil2:=a2s d1;have dz1:=a2e.1 d1
  refine ru 7 ?_
  refine wdc (fun hr2 hc2=>?_) (fun hr2 hc2=>?_)
  ·refine ru 10 ?_
   refine rt2 ?_
   have e:a4S s i=(none,i+1):=(by unfold a4S;rw [if_pos d0,if_pos d1,if_pos om]);rw [e];exact a1y (.imm _) (.imm _)
  refine ru 9 ?_
  refine rvl (.imm (.int .u8 (bz s (i+1)))) (by rw [a3R hil2,Int.toNat_natCast]) ?_
  refine ru 10 ?_
  refine rvl (a0h ((i+2:Nat):Int)) (rfl) ?_
  refine ru 13 ?_
  first
  | refine stg 53 (fun hb=>a0i (xs:=[_]) (a2l _) ⟨rfl,trivial⟩ ⟨(Fz.eq rfl),trivial⟩) rfl rfl rfl rfl rfl ?_
  | refine sth 53 (fun hb=>a0i (xs:=[_]) (a2l _) ⟨rfl,trivial⟩ ⟨(Fz.eq rfl),trivial⟩) rfl rfl rfl rfl rfl ?_
  refine ru 3 ?_
  refine wdc (fun hr3 hc3=>?_) (fun hr3 hc3=>?_)
  ·skip
   have d2:a0W (bz s (i+2))=true:=(by have h:=hr3;rw [Int.toNat_natCast,←b1O] at h;exact h)
   refine ru 9 ?_
   refine rt2 ?_
   have e:a4S s i=(none,i+2):=(by unfold a4S;rw [if_pos d0,if_pos d1,if_neg om,if_pos d2]);rw [e];exact a1y (.imm _) (.imm _)
  have d2:a0W (bz s (i+2))=false:=(by have h:=hr3;rw [Int.toNat_natCast,←b1O] at h;exact h)
  refine ru 11 ?_
  refine rt2 ?_
  have e:a4S s i=(some (10 * (bz s i - 48)+(bz s (i+1) - 48)),i+2):=(by unfold a4S;rw [if_pos d0,if_pos d1,if_neg om,if_neg (by rw [d2];decide)]);rw [e];exact a1y (.imm _) (.imm _)
 have d1:a0W (bz s (i+1))=false:=(by have h:=hr1;rw [Int.toNat_natCast,←b1O] at h;exact h)
 refine ru 11 ?_
 refine rt2 ?_
 have e:a4S s i=(some (bz s i - 48),i+1):=(by unfold a4S;rw [if_pos d0,if_neg (by rw [d1];decide)]);rw [e];exact a1y (.imm _) (.imm _)
theorem b4D {s:List UInt8} {i:Nat} {x:Option Int×Nat} (hs:s.length≤9223372036854775807) (hi:i≤s.length) (h:a4S s i=x):a0q Tryz.prog 160 [a0p s,a0h i] (c3S x):=h▸b3F s i hs hi
@[reducible] def c6g (x:Sg×Int×Int):HV:=t3 (sgH x.1) (a0h x.2.1) (a0h x.2.2)
theorem b5j (s:List UInt8) (i:Nat) (hs:s.length≤9223372036854775807) (hi:i < s.length):a0q Tryz.prog 144 [a0p s,a0h i] (c6g (a2d s i)):=by
 refine a0m Tryz.func144 rfl kr _ _ _ rfl 143 rfl rfl (fun w F=>?_)
 refine ru 16 ?_
 rcases hn:a4S s (i+1) with ⟨_ | n,p⟩
 ·refine ru 4 ?_
  refine rvl (a0h ((i+1:Nat):Int)) (rfl) ?_
  refine cll (b4D hs hi hn) ?_
  refine ru 2 ?_
  refine rvl (a0h (-1)) (rfl) ?_
  refine ru 1 ?_
  refine rvl (a0h p) (rfl) ?_
  refine ru 6 ?_
  have hnp:=a5Y om hn
  refine ru 5 ?_
  refine wdc (fun hr0 hc0=>?_) (fun hr0 hc0=>?_)
  ·refine ru 4 ?_
   refine cll (a5t s p) ?_
   refine ru 19 ?_
   refine rt3 ?_
   have e:a2d s i=(⟨5,i,0,0,[]⟩,a1B s p):=(by unfold a2d;rw [hn]);rw [e];exact a1r (a1i fzc fzc fzc fzc fzc) (.imm _) (.imm _)
  exfalso;exact absurd hr0 (by simp)
 ·refine ru 4 ?_
  refine rvl (a0h ((i+1:Nat):Int)) (rfl) ?_
  refine cll (b4D hs hi hn) ?_
  refine ru 2 ?_
  refine rvl (a0h n) (rfl) ?_
  refine ru 1 ?_
  refine rvl (a0h p) (rfl) ?_
  refine ru 6 ?_
  have hnp:=a5Y om hn
  refine ru 5 ?_
  refine wdc (fun hr0 hc0=>?_) (fun hr0 hc0=>?_)
  ·skip
   exfalso;have:=hnp.2.2 n rfl;omega
  refine ru 25 ?_
  refine wdc (fun hr1 hc1=>?_) (fun hr1 hc1=>?_)
  ·skip
   have h1:20 < n∨(n=0∧bz s p=125):=(by have h:=hr1;rw [Int.toNat_natCast,b7p] at h;exact of_decide_eq_true h)
   refine ru 12 ?_
   refine rt3 ?_
   have e:a2d s i=(⟨5,i,0,0,[]⟩,((i+1:Nat):Int),3):=(by unfold a2d;rw [hn];simp only;rw [if_pos h1]);rw [e];exact a1r (a1i fzc fzc fzc fzc fzc) (.imm _) (.imm _)
  have h1:¬ (20 < n∨(n=0∧bz s p=125)):=(by have h:=hr1;rw [Int.toNat_natCast,b7p] at h;exact of_decide_eq_false h)
  refine ru 31 ?_
  refine wdc (fun hr2 hc2=>?_) (fun hr2 hc2=>?_)
  ·skip
   have h2:bz s p=44:=(by have h:=hr2;rw [Int.toNat_natCast,b8u s p (by decide)] at h;exact of_decide_eq_true h);have hlt:=a4o (s:=s) (i:=p) om
   refine ru 4 ?_
   refine rvl (a0h ((p+1:Nat):Int)) (rfl) ?_
   refine ru 29 ?_
   refine wdc (fun hr3 hc3=>?_) (fun hr3 hc3=>?_)
   ·skip
    have h3:¬ bz s (p+1)=125:=(by have h:=hr3;rw [Int.toNat_natCast,a8o s (p+1) (by decide)] at h;simpa using h)
    refine ru 1 ?_
    rcases hm:a4S s (p+1) with ⟨_ | m,q⟩
    ·refine ru 3 ?_
     refine cll (b4D hs hlt hm) ?_
     refine ru 2 ?_
     refine rvl (a0h (-1)) (rfl) ?_
     refine ru 1 ?_
     refine rvl (a0h q) (rfl) ?_
     refine ru 6 ?_
     have hmq:=a5Y om hm
     refine ru 5 ?_
     refine wdc (fun hr4 hc4=>?_) (fun hr4 hc4=>?_)
     ·refine ru 4 ?_
      refine cll (a5t s q) ?_
      refine ru 20 ?_
      refine rt3 ?_
      have e:a2d s i=(⟨5,i,n,-1,[]⟩,a1B s q):=(by unfold a2d;rw [hn];simp only;rw [if_neg h1,if_pos h2,if_neg h3,hm]);rw [e];exact a1r (a1i fzc fzc fzc fzc fzc) (.imm _) (.imm _)
     exfalso;exact absurd hr4 (by simp)
    ·refine ru 3 ?_
     refine cll (b4D hs hlt hm) ?_
     refine ru 2 ?_
     refine rvl (a0h m) (rfl) ?_
     refine ru 1 ?_
     refine rvl (a0h q) (rfl) ?_
     refine ru 6 ?_
     have hmq:=a5Y om hm
     refine ru 5 ?_
     refine wdc (fun hr4 hc4=>?_) (fun hr4 hc4=>?_)
     ·skip
      exfalso;have:=hmq.2.2 m rfl;omega
     refine ru 18 ?_
     refine wdc (fun hr5 hc5=>?_) (fun hr5 hc5=>?_)
     ·skip
      have h5:m < 1∨20 < m∨m < n:=(by have h:=hr5;simp only [Bool.or_eq_true,decide_eq_true_eq] at h;omega)
      refine ru 12 ?_
      refine rt3 ?_
      have e:a2d s i=(⟨5,i,n,-1,[]⟩,((p+1:Nat):Int),3):=(by unfold a2d;rw [hn];simp only;rw [if_neg h1,if_pos h2,if_neg h3,hm];simp only;rw [if_pos h5]);rw [e];exact a1r (a1i fzc fzc fzc fzc fzc) (.imm _) (.imm _)
     have h5:¬ (m < 1∨20 < m∨m < n):=(by have h:=hr5;simp only [Bool.or_eq_false_iff,decide_eq_false_iff_not] at h;omega)
     refine ru 29 ?_
     refine wdc (fun hr6 hc6=>?_) (fun hr6 hc6=>?_)
     ·skip
      have h6:¬ bz s q=125:=(by have h:=hr6;rw [Int.toNat_natCast,a8o s q (by decide)] at h;simpa using h)
      refine ru 4 ?_
      refine cll (a5t s q) ?_
      refine ru 19 ?_
      refine rt3 ?_
      have e:a2d s i=(⟨5,i,n,m,[]⟩,a1B s q):=(by unfold a2d;rw [hn];simp only;rw [if_neg h1,if_pos h2,if_neg h3,hm];simp only;rw [if_neg h5,if_neg h6]);rw [e];exact a1r (a1i fzc fzc fzc fzc fzc) (.imm _) (.imm _)
     have h6:bz s q=125:=(by have h:=hr6;rw [Int.toNat_natCast,a8o s q (by decide)] at h;simpa using h)
     refine ru 13 ?_
     refine rt3 ?_
     have e:a2d s i=(⟨5,i,n,m,[]⟩,((q+1:Nat):Int),0):=(by unfold a2d;rw [hn];simp only;rw [if_neg h1,if_pos h2,if_neg h3,hm];simp only;rw [if_neg h5,if_pos h6]);rw [e];exact a1r (a1i fzc fzc fzc fzc fzc) (.imm _) (.imm _)
   have h3:bz s (p+1)=125:=(by have h:=hr3;rw [Int.toNat_natCast,a8o s (p+1) (by decide)] at h;simpa using h)
   refine ru 17 ?_
   refine wdc (fun hr6 hc6=>?_) (fun hr6 hc6=>?_)
   ·skip
    exfalso;have h:=hr6;rw [Int.toNat_natCast,a8o s (p+1) (by decide),h3] at h;exact absurd h (by decide)
   refine ru 13 ?_
   refine rt3 ?_
   have e:a2d s i=(⟨5,i,n,-1,[]⟩,((p+2:Nat):Int),0):=(by unfold a2d;rw [hn];simp only;rw [if_neg h1,if_pos h2,if_pos h3]);rw [e];exact a1r (a1i fzc fzc fzc fzc fzc) (b2n (by show ((p+1:Nat):Int)+1=((p+2:Nat):Int);omega)) (.imm _)
  have h2:¬ bz s p=44:=(by have h:=hr2;rw [Int.toNat_natCast,b8u s p (by decide)] at h;exact of_decide_eq_false h)
  refine ru 17 ?_
  refine wdc (fun hr6 hc6=>?_) (fun hr6 hc6=>?_)
  ·skip
   have h6:¬ bz s p=125:=(by have h:=hr6;rw [Int.toNat_natCast,a8o s p (by decide)] at h;simpa using h)
   refine ru 4 ?_
   refine cll (a5t s p) ?_
   refine ru 19 ?_
   refine rt3 ?_
   have e:a2d s i=(⟨5,i,n,n,[]⟩,a1B s p):=(by unfold a2d;rw [hn];simp only;rw [if_neg h1,if_neg h2,if_neg h6]);rw [e];exact a1r (a1i fzc fzc fzc fzc fzc) (.imm _) (.imm _)
  have h6:bz s p=125:=(by have h:=hr6;rw [Int.toNat_natCast,a8o s p (by decide)] at h;simpa using h)
  refine ru 13 ?_
  refine rt3 ?_
  have e:a2d s i=(⟨5,i,n,n,[]⟩,((p+1:Nat):Int),0):=(by unfold a2d;rw [hn];simp only;rw [if_neg h1,if_neg h2,if_pos h6]);rw [e];exact a1r (a1i fzc fzc fzc fzc fzc) (.imm _) (.imm _)
theorem a8G (x:Int):a0q Tryz.prog 121 [.imm (.int .u8 x)] (a0s (a4P x)):=by
 refine a0m Tryz.func121 rfl kr _ _ _ rfl 33 rfl rfl (fun w F=>?_)
 refine ru 8 ?_
 refine cll (a5x _) ?_
 refine ru 32 ?_
 refine rt1 ?_
 exact Frz.fz
theorem b4B (s:List UInt8) (i:Nat) (hs:s.length≤9223372036854775807) (hi:i < s.length):a0q Tryz.prog 122 [a0p s,a0h i] (c6g (a7s s i)):=by
 refine a0m Tryz.func122 rfl kr _ _ _ rfl 93 rfl rfl (fun w F=>?_)
 refine ru 12 ?_
 refine rvl (.imm (.int .u8 (bz s i))) (by rw [a3R hi,Int.toNat_natCast]) ?_
 refine ru 7 ?_
 refine cll (a5x _) ?_
 refine ru 2 ?_
 refine wdc (fun hr0 hc0=>?_) (fun hr0 hc0=>?_)
 ·refine ru 8 ?_
  refine a0n (α:=Nat) (fun x c=>⟨93,[(0,.v (a0p s)),(1,.v (a0h i)),(4,.v (.pt 4 0 0 0)),(8,.v (a0h ((i+x:Nat):Int)))],[(4,⟨0,1,5,162,0,sg0⟩)],c⟩) (fun x=>x≤12∧i+x≤s.length∧(∀ j,j < x→alnumZ (bz s (i+j))=true)) (fun x=>12 - x) (0) (by exact ⟨by omega,by omega,fun j h=>absurd h om⟩) (a0c rfl (Nat.le_refl _) tsa hsa) (fun k c hx NhL1 hL1=>?_)
  (try dsimp only at hx hL1 ⊢)
  obtain ⟨hk,hik,hal⟩:=hx
  refine ru 11 ?_
  first
  | refine stg 19 (fun hb=>a0i (xs:=[_]) (a5x _) ⟨rfl,trivial⟩ ⟨(Fz.eq rfl),trivial⟩) rfl rfl rfl rfl rfl ?_
  | refine sth 19 (fun hb=>a0i (xs:=[_]) (a5x _) ⟨rfl,trivial⟩ ⟨(Fz.eq rfl),trivial⟩) rfl rfl rfl rfl rfl ?_
  refine ru 4 ?_
  first
  | refine stg 24 (fun hb=>a0i (xs:=[_]) (a2l _) ⟨rfl,trivial⟩ ⟨(Fz.eq rfl),trivial⟩) rfl rfl rfl rfl rfl ?_
  | refine b6e 28 9 24 19 true false _ _ (fun hb hb2=>a0i (xs:=[_]) (a2l _) ⟨rfl,trivial⟩ ⟨(Fz.eq rfl),trivial⟩) rfl rfl rfl rfl rfl a0e rfl rfl rfl ?_
  | refine sth 24 (fun hb=>a0i (xs:=[_]) (a2l _) ⟨rfl,trivial⟩ ⟨(Fz.eq rfl),trivial⟩) rfl rfl rfl rfl rfl ?_
  refine ru 4 ?_
  refine wdc (fun hr1 hc1=>?_) (fun hr1 hc1=>?_)
  ·skip
   have hall:alnumZ (bz s (i+k))=true:=(by have h:=hr1;rw [Int.toNat_natCast,b4K] at h;exact h);have hlt:i+k < s.length:=a4o (fun h=>by rw [h] at hall;exact absurd hall (by decide))
   refine ru 12 ?_
   refine wdc (fun hr2 hc2=>?_) (fun hr2 hc2=>?_)
   ·refine ru 12 ?_
    refine a0f ?_
    refine ru 3 ?_
    refine rt3 ?_
    obtain rfl:k=12:=om;have e:a7s s i=(sgZ,((i+12:Nat):Int),2):=(by unfold a7s;rw [if_pos hc0];unfold b9u;rw [if_pos (b2a (Nat.le_refl _) (fun j hj=>by rcases Nat.lt_or_ge j 12 with h | h;exact hal j h;obtain rfl:j=12:=om;exact hall) (fun h=>absurd h om))]);rw [e];exact a1r (a1i fzc fzc fzc fzc fzc) (.imm _) (.imm _)
   refine ru 5 ?_
   refine rvl (a0h ((i+(k+1):Nat):Int)) (rfl) ?_
   refine ru 3 ?_
   exact hL1 (k+1) _ _ (by (try dsimp only);exact ⟨by omega,by omega,fun j hj=>by rcases Nat.lt_or_ge j k with h | h;exact hal j h;obtain rfl:j=k:=om;exact hall⟩) (by (try dsimp only);omega) (a0c rfl (Nat.le_refl _) tsa hsa)
  have hno:alnumZ (bz s (i+k))=false:=(by have h:=hr1;rw [Int.toNat_natCast,b4K] at h;exact h)
  refine ru 2 ?_
  refine a0d ?_
  refine ru 18 ?_
  refine rt3 ?_
  have e:a7s s i=(⟨1,i,0,0,(s.drop i).take (i+k - i)⟩,((i+k:Nat):Int),0):=(by unfold a7s;rw [if_pos hc0];unfold b9u;rw [b2a (f:=13) (show k≤13 by omega) hal (fun _=>hno),if_neg (show ¬ k=13 by omega),show i+k - i=k by omega]);rw [e];exact a1r (a1i fzc fzc fzc fzc fzc) (.imm _) (.imm _)
 have h0:¬ smallZ (bz s i)=true:=(by rw [hc0];decide)
 refine ru 15 ?_
 refine wdc (fun hr3 hc3=>?_) (fun hr3 hc3=>?_)
 ·refine ru 14 ?_
  refine rt3 ?_
  have e:a7s s i=(⟨2,i,0,0,[]⟩,((i+1:Nat):Int),0):=(by unfold a7s;rw [if_neg h0,if_pos hc3]);rw [e];exact a1r (a1i fzc fzc fzc fzc fzc) (.imm _) (.imm _)
 refine ru 6 ?_
 refine wdc (fun hr4 hc4=>?_) (fun hr4 hc4=>?_)
 ·refine ru 14 ?_
  refine rt3 ?_
  have e:a7s s i=(⟨3,i,0,0,[]⟩,((i+1:Nat):Int),0):=(by unfold a7s;rw [if_neg h0,if_neg hc3,if_pos hc4]);rw [e];exact a1r (a1i fzc fzc fzc fzc fzc) (.imm _) (.imm _)
 refine ru 6 ?_
 refine wdc (fun hr5 hc5=>?_) (fun hr5 hc5=>?_)
 ·refine ru 14 ?_
  refine rt3 ?_
  have e:a7s s i=(⟨4,i,0,0,[]⟩,((i+1:Nat):Int),0):=(by unfold a7s;rw [if_neg h0,if_neg hc3,if_neg hc4,if_pos hc5]);rw [e];exact a1r (a1i fzc fzc fzc fzc fzc) (.imm _) (.imm _)
 refine ru 6 ?_
 refine wdc (fun hr6 hc6=>?_) (fun hr6 hc6=>?_)
 ·refine ru 14 ?_
  refine rt3 ?_
  have e:a7s s i=(⟨5,i,0,-1,[]⟩,((i+1:Nat):Int),0):=(by unfold a7s;rw [if_neg h0,if_neg hc3,if_neg hc4,if_neg hc5,if_pos hc6]);rw [e];exact a1r (a1i fzc fzc fzc fzc fzc) (.imm _) (.imm _)
 refine ru 6 ?_
 refine wdc (fun hr7 hc7=>?_) (fun hr7 hc7=>?_)
 ·refine ru 14 ?_
  refine rt3 ?_
  have e:a7s s i=(⟨5,i,1,-1,[]⟩,((i+1:Nat):Int),0):=(by unfold a7s;rw [if_neg h0,if_neg hc3,if_neg hc4,if_neg hc5,if_neg hc6,if_pos hc7]);rw [e];exact a1r (a1i fzc fzc fzc fzc fzc) (.imm _) (.imm _)
 refine ru 6 ?_
 refine wdc (fun hr8 hc8=>?_) (fun hr8 hc8=>?_)
 ·refine ru 14 ?_
  refine rt3 ?_
  have e:a7s s i=(⟨5,i,0,1,[]⟩,((i+1:Nat):Int),0):=(by unfold a7s;rw [if_neg h0,if_neg hc3,if_neg hc4,if_neg hc5,if_neg hc6,if_neg hc7,if_pos hc8]);rw [e];exact a1r (a1i fzc fzc fzc fzc fzc) (.imm _) (.imm _)
 refine ru 6 ?_
 refine wdc (fun hr9 hc9=>?_) (fun hr9 hc9=>?_)
 ·refine ru 4 ?_
  refine cll (b5j s i hs hi) ?_
  refine ru 11 ?_
  refine rt3 ?_
  have e:a7s s i=a2d s i:=(by unfold a7s;rw [if_neg h0,if_neg hc3,if_neg hc4,if_neg hc5,if_neg hc6,if_neg hc7,if_neg hc8,if_pos hc9]);rw [e];exact a1r (a1i fzc fzc fzc fzc fzc) (.imm _) (.imm _)
 refine ru 13 ?_
 refine rt3 ?_
 have e:a7s s i=(sgZ,(i:Int),2):=(by unfold a7s;rw [if_neg h0,if_neg hc3,if_neg hc4,if_neg hc5,if_neg hc6,if_neg hc7,if_neg hc8,if_neg hc9]);rw [e];exact a1r (a1i fzc fzc fzc fzc fzc) (.imm _) (.imm _)
theorem c5T {f:Nat→HV} (x:Sg) (h0:Sb (f 0) (sgF x 0)) (h1:Sb (f 1) (sgF x 1)) (h2:Sb (f 2) (sgF x 2)) (h3:Sb (f 3) (sgF x 3)) (h4:Sb (f 4) (sgF x 4)):∀ j,j < 5→Sb (f j) (sgF x j):=fun j hj=>by
 match j,hj with
 | 0,_=>exact h0
 | 1,_=>exact h1
 | 2,_=>exact h2
 | 3,_=>exact h3
 | 4,_=>exact h4
theorem c4O {sh:List (Nat×HObj)} (x:Sg) (j:Nat):Fz sh (sgF x j) (sgF x j):=by
 match j with
 | 0=>exact .imm _
 | 1=>exact .imm _
 | 2=>exact .imm _
 | 3=>exact .imm _
 | j+4=>exact .imm _
theorem b9g (s:List UInt8) (hs:s.length≤9223372036854775807):a0q Tryz.prog 93 [a0p s] (c0W (b6p (lexV s))):=by
 have hV:=b3j s
 refine a0m Tryz.func93 rfl kr _ _ _ rfl 47 rfl rfl (fun w F=>?_)
 refine ru 19 ?_
 refine a4v 5 5 5 162 ((a9y [])) rfl (by decide) rfl (c':=1) rfl ?_
 refine a0n (α:=Nat×List Sg×Nat×Nat) (fun x c=>⟨47,[(0,.v (a0p s)),(6,.v (a0h x.1)),(5,.v (.os 5 x.2.2.1 0 x.2.2.2))],[(5,⟨x.2.2.1,x.2.2.2,5,162,0,a9y x.2.1⟩)],c⟩) (fun x=>x.1≤s.length∧x.2.1.length≤200∧x.2.2.2=x.2.1.length∧a4D s x.1 x.2.1=lexV s) (fun x=>s.length - x.1) ((0,[],0,0)) (by exact ⟨Nat.zero_le _,Nat.zero_le _,rfl,hV⟩) (a0c rfl (Nat.le_refl _) tsa hsa) (fun x c hx NhL1 hL1=>?_)
 revert hx hL1;obtain ⟨i,out,gl,n⟩:=x;intro hx hL1;dsimp only at hx hL1 ⊢
 obtain ⟨hi,hol,hn,hL⟩:=hx
 refine ru 9 ?_
 refine wdc (fun hr0 hc0=>?_) (fun hr0 hc0=>?_)
 ·skip
  have hil:i < s.length:=om
  refine ru 9 ?_
  refine rvl (.imm (.int .u8 (bz s i))) (by rw [a3R hil,Int.toNat_natCast]) ?_
  refine ru 3 ?_
  refine wdc (fun hr1 hc1=>?_) (fun hr1 hc1=>?_)
  ·refine ru 4 ?_
   refine rvl (a0h ((i+1:Nat):Int)) (rfl) ?_
   refine ru 6 ?_
   exact hL1 ((i+1,out,gl,n)) _ _ (by (try dsimp only);exact ⟨hil,hol,hn,by rw [←b0H hil hc1];exact hL⟩) (by (try dsimp only);omega) (a0c rfl (Nat.le_refl _) tsa hsa)
  refine ru 12 ?_
  refine ry (.imm (.int .u8 (bz s i))) rfl (fun hb=>by rw [a3R hil,Int.toNat_natCast]) ?_
  first
  | refine stg 23 (fun hb=>a0i (xs:=[_]) (a8G _) ⟨rfl,trivial⟩ ⟨(Fz.eq rfl),trivial⟩) rfl rfl rfl rfl rfl ?_
  | refine sth 23 (fun hb=>a0i (xs:=[_]) (a8G _) ⟨rfl,trivial⟩ ⟨(Fz.eq rfl),trivial⟩) rfl rfl rfl rfl rfl ?_
  refine ru 3 ?_
  refine wdc (fun hr2 hc2=>?_) (fun hr2 hc2=>?_)
  ·refine ru 11 ?_
   refine a0f ?_
   refine ru 2 ?_
   refine rt3 ?_
   have e:lexV s=.error ((i:Int),4):=(by rw [←hL];exact a9J hil hc1 om hc2.2);rw [e];exact a1r (.nil 0 5 _ (by decide) none) (.imm _) (.imm _)
  refine ru 3 ?_
  have hsm:=b5d s i hil;rcases hone:a3Q s i with e | ⟨x,q⟩ <;> rw [hone] at hsm
  ·refine ru 3 ?_
   refine cll (b4B s i hs hil) ?_
   refine ru 3 ?_
   refine rvl (a0h e.1) (by rw [←hsm.1];rfl) ?_
   refine ru 1 ?_
   refine rvl (a0h e.2) (by rw [←hsm.1];rfl) ?_
   refine ru 13 ?_
   refine wdc (fun hr3 hc3=>?_) (fun hr3 hc3=>?_)
   ·refine ru 12 ?_
    refine a0f ?_
    refine ru 2 ?_
    refine rt3 ?_
    have e':lexV s=.error e:=(by rw [←hL];rcases Classical.em (out.length=200) with h200 | h200;(have hb:a4P (bz s i)=false:=(by have h:=hr2;rw [show ((n:Int) == 200)=true by (rw [hn,h200];try rfl),Bool.true_and] at h;exact h);rw [b1y hil hc1 h200 hb];rw [a8n hb] at hone;injection hone with hone;rw [hone]);exact b2d hil hc1 h200 hone);rw [e'];exact a1r (.nil 0 5 _ (by decide) none) (.imm _) (.imm _)
   exfalso;exact hsm.2 (by simpa using hr3)
  ·refine ru 3 ?_
   refine cll (b4B s i hs hil) ?_
   refine ru 2 ?_
   refine rvl (sgH x) (by rw [show a7s s i=(x,(q:Int),0) from hsm];rfl) ?_
   refine ru 1 ?_
   refine rvl (a0h q) (by rw [show a7s s i=(x,(q:Int),0) from hsm];rfl) ?_
   refine ru 1 ?_
   refine rvl (a0h 0) (by rw [show a7s s i=(x,(q:Int),0) from hsm];rfl) ?_
   refine ru 13 ?_
   refine wdc (fun hr3 hc3=>?_) (fun hr3 hc3=>?_)
   ·skip
    exfalso;exact absurd hr3 (by decide)
   refine ru 3 ?_
   have hq:=a6O hone;have h200:¬ out.length=200:=(fun h200=>by have h:=hr2;rw [show ((n:Int) == 200)=true by (rw [hn,h200];try rfl),Bool.true_and] at h;rw [a8n h] at hone;cases hone)
   refine ru 3 ?_
   refine a0t 43 (a0b (id:=43) (hs:=[_]) ei_158.h omx rfl omx ⟨rfl,rfl,rfl,rfl,trivial⟩) rfl rfl a0e rfl rfl (c':=c+3) rfl ?_
   first
   | refine a0t 44 (a0a ei_158.h omy rfl omy omy (a0u rfl omy) omy rfl) rfl rfl (a0g rfl (a0C rfl)) rfl rfl (c':=c+4) rfl ?_
   | refine a0t 44 (a0a ei_158.h omy rfl omy omy (a0G rfl omy) omy rfl) rfl rfl (a0g rfl (a0C rfl)) rfl rfl (c':=c+4) rfl ?_
   | refine a0t 44 (a0a ei_158.h omy rfl omy omy (a0F rfl) omy rfl) rfl rfl (a0g rfl a0e) rfl rfl (c':=c+4) rfl ?_
   | refine a0t 44 (a0a ei_158.h omy rfl omy omy (a0w 5 (fun _ _=>default) rfl) omy rfl) rfl rfl (a0g rfl a0e) rfl rfl (c':=c+4) rfl ?_
   refine ru 8 ?_
   exact hL1 ((q,out++[x],c+3,n+1)) _ _ (by (try dsimp only);exact ⟨hq.2,by rw [List.length_append];show out.length+1≤200;omega,by rw [List.length_append,hn];rfl,by rw [←a9P hil hc1 h200 hone];exact hL⟩) (by (try dsimp only);omega) (a0c rfl (Nat.le_refl _) tsa (a0k.cons rfl (a5M.of fun i j hi hj=>a9j (l:=out) (k:=[x]) (enc:=sgF) (d:=default) hn (fun i j _ _=>.refl _) (b0W (x:=x) (enc:=sgF) (d:=default) (c5T x (.refl _) (.refl _) (.refl _) (.refl _) (.refl _))) i j (by rw [List.length_append,←hn];exact hi) hj) a0k.nil))
 refine ru 2 ?_
 refine a0d ?_
 refine ru 11 ?_
 refine a5f rfl (a0r rfl) (a0r rfl) (a0r rfl) [(5,_)] rfl (a0g rfl a0e) ?_
 have e:lexV s=.ok out:=(by rw [←hL];exact a7Z om);rw [e];exact a1r (a1x (l:=out) (enc:=sgF) (d:=default) (List.mem_cons_self ..) rfl hn (Nat.le_refl _) (fun i j hi hj=>c4O _ j)) (.imm _) (.imm _)
instance frz_sgs (l:List Sg):Frz (a3B l):=⟨.sl _ _ _ _ fun i j _ _=>b3K _ j⟩
theorem b0I {s:List UInt8}:∀ {f i:Nat} {out l:List Sg},out.length≤200→b2y s f i out=.ok l→l.length≤200
  | 0,i,out,l,h,e=>by injection e with e;subst e;exact h
  | f + 1, i, out, l, h, e => by
    simp only [b2y] at e
    split at e
    · injection e with e;subst e;exact h
    split at e
    · exact b0I h e
    split at e
    · split at e <;> cases e
    · rename_i hne
      split at e
      · cases e
      · exact b0I (by rw [List.length_append];show out.length+1≤200;omega) e
theorem a6A (s:List UInt8):(b6p (lexV s)).1.length≤200:=by
 cases h:lexV s with
 | error e=>exact Nat.zero_le _
 | ok l=>exact b0I (Nat.zero_le _) h
theorem b0y {s:List UInt8}:∀ {f i:Nat} {out:List Sg} {e:Int×Int},b2y s f i out=.error e→e.2≠0
  | 0,i,out,e,h=>by cases h
  | f + 1, i, out, e, h => by
    simp only [b2y] at h
    split at h
    · cases h
    rename_i hi
    split at h
    · exact b0y h
    split at h
    · split at h
      · injection h with h;subst h;show (4:Int)≠0;decide
      · injection h with h;subst h;exact a6u s i
    · split at h
      · rename_i e' he
        injection h with h;subst h
        have:=b5d s i (by omega)
        rw [he] at this
        exact this.2
      · exact b0y h
theorem a7M {s:List UInt8} {e:Int×Int} (h:lexV s=.error e):(b6p (.error e)).2.2≠0:=b0y h
def ChI (l:List Sg) (p:Nat) (out:List Pt) (bad:Bool) (q:Nat) (o:List Pt) (ks:List Int):Prop :=
 (1≤ks.length∧ks.length≤2 * (q - p)+1)∧p≤q∧q≤l.length∧match bad with
 | true=>BadS l p q∧o.length+(if ks.length=1 then 0 else 1)≤out.length+2 * (q - p)
 | false=>(kd l q≠1∧kd l q≠2)∧∃ ts,b0g l p q ts∧o=out++T.flatL out.length ts∧ks=rootsL out.length ts
theorem b4d {l:List Sg} {p q g:Nat} {out o:List Pt} {t:Option T} {r:Int} (h:a5J l 2 p out ⟨t,q,g,o,r⟩):ChI l p out t.isNone q o [r]:=by
 have hle:=b0N h
 refine ⟨⟨Nat.le_refl _,by show 1≤_;omega⟩,hle.1,hle.2.1,?_⟩
 cases t with
 | none=>exact ⟨h.1,h.2⟩
 | some t=>exact ⟨h.2.2.2.1 (Nat.le_refl _),[t],b9j h.1,by rw [show o=_ from h.2.1];simp [T.flatL],by rw [show r=_ from h.2.2.1];rfl⟩
theorem b6w {l:List Sg} {p q q' g:Nat} {out o o':List Pt} {ks:List Int} {t:Option T} {r:Int} (h:ChI l p out false q o ks) (hk:kd l q=4) (h2:a5J l 2 (q+1) o ⟨t,q',g,o',r⟩):ChI l p out t.isNone q' o' (ks++[r]):=by
  have hle:q+1≤q'∧q'≤l.length∧o'.length≤o.length+2 * (q' - (q+1)):=b0N h2
  obtain ⟨h1,hpq,hql,_,ts,hi,ho,hks⟩:=h
  have hlt:=b3y hi
  have hol:o.length=out.length+T.sizeL ts:=by rw [ho,List.length_append,T.flatL_len]
  have hkl:ks.length=ts.length:=by rw [hks,a1L]
  refine ⟨by rw [List.length_append];show 1≤ks.length+1∧ks.length+1≤_;omega,by omega,hle.2.1,?_⟩
  cases t with
  | none =>
    refine ⟨c0w hi hk h2.1,?_⟩
    rw [if_neg (by rw [List.length_append];show ¬ ks.length+1=1;omega)]
    have:=hi.1
    omega
  | some t =>
    refine ⟨h2.2.2.2.1 (Nat.le_refl _),ts++[t],b6B hi hk h2.1,?_,?_⟩
    · rw [show o'=_ from h2.2.1,ho,T.flatL_snoc,List.append_assoc,List.length_append,T.flatL_len]
    · rw [show r=_ from h2.2.2.1,hks,a4N,hol]
theorem c5A {l:List Sg} {p q:Nat} {out o:List Pt} {ks:List Int} {bad:Bool} (h:ChI l p out bad q o ks):o.length≤out.length+2 * (q - p):=by
  obtain ⟨h1,hpq,hql,h⟩:=h
  cases bad with
  | true=>have:=h.2;omega
  | false =>
    obtain ⟨_,ts,hi,ho,hks⟩:=h
    have:=b3y hi
    rw [ho,List.length_append,T.flatL_len];omega
theorem b7v {l:List Sg} {v q q' g:Nat} {o o':List Pt} {t:Option T} {r:Int} (hq:q < l.length) (h:a5J l v (q+1) o ⟨t,q',g,o',r⟩):2 * (l.length - q')+(if t.isNone then 0 else 1) < 2 * (l.length - q)+(if false then 0 else 1):=by
 have hle:q+1≤q'∧q'≤l.length∧o'.length≤o.length+2 * (q' - (q+1)):=b0N h
 cases t with
 | none=>show _+0 < _+1;omega
 | some t=>show _+1 < _+1;omega
theorem b7U {l:List Sg} {p q:Nat} {out o:List Pt} {ks:List Int} {bad:Bool} (h:ChI l p out bad q o ks) (hk:bad=true∨kd l q≠4):∃ tt:Option T,tt.isNone=bad∧∀ y,a9h 3 o ks y→a5J l 3 p out ⟨tt,q,y.1,y.2.1,y.2.2⟩:=by
  obtain ⟨h1,hpq,hql,h⟩:=h
  cases bad with
  | true=>exact ⟨none,rfl,fun y hy=>⟨h.1,b8r (l:=l) h.2 hy⟩⟩
  | false =>
    obtain ⟨hk2,ts,hi,ho,hks⟩:=h
    have hk:=hk.resolve_left (by simp)
    have hkl:ks.length=ts.length:=by rw [hks,a1L]
    by_cases h2:ts.length=1
    · match ts, h2 with
      | [t], _ =>
        refine ⟨some t,rfl,fun y hy=>?_⟩
        have hy:y.2=(o,ks.getD 0 0):=by unfold a9h at hy;rwa [if_pos (by simpa using hkl)] at hy
        refine ⟨a7o hi,?_,?_,fun _=>hk2,fun _=>hk⟩
        · show y.2.1=_;rw [hy,ho];simp [T.flatL]
        · show y.2.2=_;rw [hy,hks];rfl
    · refine ⟨some (.many 3 ts),rfl,fun y hy=>?_⟩
      have hy:y.2=(o++[⟨3,0,0,[],ks⟩],(o.length:Int)):=by unfold a9h at hy;rwa [if_neg (by omega)] at hy
      refine ⟨a7X hi (by have:=hi.1;omega),?_,?_,fun _=>hk2,fun _=>hk⟩
      · show y.2.1=_;rw [hy,ho,hks];simp [T.flat]
      · show y.2.2=_;rw [hy,ho];simp [T.root,T.size,T.flatL_len];omega
theorem b9U (l:List Sg) (g p:Nat) (hk:b6q l) (hne:l≠[]) (hl:l.length≤1000) (hp:p≤l.length) (hrow:∀ p',p≤p'→p'≤l.length→RsC 111 l 2 g p'):RsC 80 l 3 g p:=by
 intro c g2 out ho
 refine a0v Tryz.func80 rfl kr _ _ _ _ rfl 36 rfl rfl (fun X ok hX=>?_)
 refine ru 8 ?_
 refine a0l 5 (xs:=[_]) (pre:=[(9001,_),(9002,_)]) (hrow p (Nat.le_refl _) hp _ g2 out ho) ⟨rfl,trivial⟩ (a0g rfl (a0g rfl a0e)) rfl rfl (fun x1 c1 hx=>?_)
 obtain ⟨t1,q1,g3,o3,r⟩:=x1
 (try dsimp only)
 refine a0t 6 (a0b (id:=6) (hs:=[_]) ei_104.h omx rfl omx ⟨rfl,rfl,rfl,rfl,trivial⟩) rfl rfl a0e rfl rfl (c':=c1+1) rfl ?_
 refine ru 5 ?_
 refine a0n (α:=Bool×Nat×List Pt×List Int×Nat×Nat) (fun x c=>⟨36,[(0,.v (.pt 9001 g 0 0)),(3,.v (.os 6 x.2.2.2.2.2 0 x.2.2.2.1.length))],[(9001,erO g l x.2.1 x.2.2.2.2.1 x.2.2.1.length x.1),(9002,b5N x.2.2.2.2.1 x.2.2.1),(6,⟨x.2.2.2.2.2,x.2.2.2.1.length,1,3,0,a3q x.2.2.2.1⟩)],c⟩) (fun x=>ChI l p out x.1 x.2.1 x.2.2.1 x.2.2.2.1) (fun x=>2 * (l.length - x.2.1)+(if x.1 then 0 else 1)) ((t1.isNone,q1,o3,[r],g3,c1)) (by exact b4d hx) (a0c rfl (Nat.le_refl _) tsa (hsr rfl (hsr rfl (a0k.cons rfl (a5M.of fun i j hi hj=>by obtain rfl:i=0:=om;exact .refl _) a0k.nil)))) (fun x c hx NhL1 hL1=>?_)
 revert hx hL1;obtain ⟨bad,q,o,ks,gg,gk⟩:=x;intro hx hL1;dsimp only at hx hL1 ⊢
 obtain ⟨hq1,hq2,hq3,hR⟩:=hx
 have hI:ChI l p out bad q o ks:=⟨hq1,hq2,hq3,hR⟩;have hol:=c5A hI
 refine ru 12 ?_
 first
 | refine a4x 16 5 12 true _ (fun hb=>a0B (xs:=[_]) (pre:=[(9001,_),(9002,_)]) (a4Q g l q gg o bad hl hI.2.2.1) ⟨rfl,trivial⟩) rfl rfl rfl rfl (a0g rfl (a0g rfl a0e)) rfl rfl rfl ?_
 | refine a3S 16 5 12 _ _ true _ (fun hb=>a0B (xs:=[_]) (pre:=[(9001,_),(9002,_)]) (a4Q g l q gg o bad hl hI.2.2.1) ⟨rfl,trivial⟩) rfl rfl rfl rfl (a0g rfl (a0g rfl a0e)) rfl rfl rfl ?_
 refine ru 4 ?_
 refine wdc (fun hr0 hc0=>?_) (fun hr0 hc0=>?_)
 ·skip
  obtain ⟨rfl,hkq⟩:bad=false∧kd l q=4:=(by cases bad with | true=>exact absurd hr0 (by simp) | false=>exact ⟨rfl,by simpa using hr0⟩);have hlt:=a2D (l:=l) (i:=q) (by rw [hkq];decide)
  refine ru 17 ?_
  refine (a0R 9001 (erO g l (q+1) gg o.length false) rfl (by exact b2L (.refl _) (a0Y om) (.refl _) (.refl _))).wp ?_
  refine ru 3 ?_
  refine a0l 30 (xs:=[_]) (pre:=[(9001,_),(9002,_)]) (hrow (q+1) om hlt _ gg o om) ⟨rfl,trivial⟩ (a0g rfl (a0g rfl a0e)) rfl rfl (fun x2 c2 hx2=>?_)
  obtain ⟨t,q',g4,o4,r'⟩:=x2
  (try dsimp only)
  refine a0t 31 (a0b (id:=31) (hs:=[_]) ei_104.h omx rfl omx ⟨rfl,rfl,rfl,rfl,trivial⟩) rfl rfl a0e rfl rfl (c':=c2+1) rfl ?_
  first
  | refine a0t 32 (a0a ei_104.h omy rfl omy omy (a0u rfl omy) omy rfl) rfl rfl (a0g rfl (a0C rfl)) rfl rfl (c':=c2+2) rfl ?_
  | refine a0t 32 (a0a ei_104.h omy rfl omy omy (a0G rfl omy) omy rfl) rfl rfl (a0g rfl (a0C rfl)) rfl rfl (c':=c2+2) rfl ?_
  | refine a0t 32 (a0a ei_104.h omy rfl omy omy (a0F rfl) omy rfl) rfl rfl (a0g rfl a0e) rfl rfl (c':=c2+2) rfl ?_
  | refine a0t 32 (a0a ei_104.h omy rfl omy omy (a0w 1 (fun _ _=>default) rfl) omy rfl) rfl rfl (a0g rfl a0e) rfl rfl (c':=c2+2) rfl ?_
  refine ru 3 ?_
  exact hL1 ((t.isNone,q',o4,ks++[r'],g4,c2+1)) _ _ (by (try dsimp only);exact b6w hI hkq hx2) (by (try dsimp only);exact b7v hlt hx2) (a0c rfl (Nat.le_refl _) (tsr rfl (a0K.cons rfl (a1N (by simp)) a0K.nil)) (hsr rfl (hsr rfl (a0k.cons rfl (a0x (enc:=fun x _=>a0h x) (d:=0) rfl (fun i j _ _=>.refl _) (fun j hj=>.refl _)) a0k.nil))))
 obtain ⟨tt,rfl,hdone⟩:=b7U hI (by cases bad with | true=>exact .inl rfl | false=>right;simpa using hr0)
 refine ru 2 ?_
 refine a0d ?_
 refine ru 6 ?_
 refine (a2F 34 [(6,_)] rfl (a0g rfl a0e) rfl ((show Fz _ _ (a1z ks) from a1x (l:=ks) (enc:=fun x _=>a0h x) (d:=0) (List.mem_cons_self ..) rfl rfl (Nat.le_refl _) (fun i j hi hj=>.imm _)))).seq ?_
 refine a0l 35 (xs:=[_,_,_]) (pre:=[(9001,_),(9002,_)]) (c1i _ g l q gg _ tt.isNone o 3 ks rfl om) ⟨rfl,⟨rfl,⟨rfl,trivial⟩⟩⟩ (a0g rfl (a0g rfl a0e)) rfl rfl (fun x3 c3 hy=>?_)
 obtain ⟨g5,o5,r5⟩:=x3
 (try dsimp only)
 refine ru 4 ?_
 refine fr1 ok hX rw1 (⟨tt,q,g5,o5,r5⟩) (hdone _ hy) (kza) ?_
 exact ⟨⟨_,rfl,a5l rfl rfl⟩,⟨⟨_,rfl,a2S⟩,trivial⟩⟩
theorem c1u (l:List Sg) (g:Nat) (hk:b6q l) (hne:l≠[]) (hl:l.length≤1000):∀ n p,l.length - p < n→p≤l.length→RsC 80 l 3 g p
 | 0,p,h,_=>absurd h (Nat.not_lt_zero _)
 | n+1,p,h,hp=>b9U l g p hk hne hl hp fun p1 h1 hp1=>c5s l g p1 hk hne hl hp1 fun p2 h2 hp2=>c4F l g p2 hk hne hl hp2 fun p3 h3 hp3=>c1u l g hk hne hl n p3 (by omega) hp3
inductive ParseIs (s:List UInt8):List Pt×Int×Int→Prop
 | err (e:Int×Int):lexV s=.error e→ParseIs s ([],e.1,e.2)
 | none:lexV s=.ok []→ParseIs s ([],0,0)
 | odd (l:List Sg) (q:Nat):lexV s=.ok l→l≠[]→q < l.length→chk l 0 0 true true=((q:Int),false)→ParseIs s ([],(l.getD q default).at_,2)
 | end_ (l:List Sg):lexV s=.ok l→l≠[]→chk l 0 0 true true=(-1,true)→ParseIs s ([],s.length,5)
 | ok (l:List Sg) (t:T):lexV s=.ok l→Seg l 3 0 l.length t→ParseIs s (T.flat 0 t,0,0)
@[reducible] def c1b (r:List Pt×Int×Int):HV:=t3 (a5N r.1) (a0h r.2.1) (a0h r.2.2)
theorem c1q {l:List Sg} (h:∀ x∈l,SgW x):b6q l:=fun x hx=>by
 have:=h x hx
 cases this with
 | name _ _ _=>exact ⟨by show (1:Int)≤1;decide,by show (1:Int)≤5;decide⟩
 | open_=>exact ⟨by show (1:Int)≤2;decide,by show (2:Int)≤5;decide⟩
 | shut=>exact ⟨by show (1:Int)≤3;decide,by show (3:Int)≤5;decide⟩
 | or_=>exact ⟨by show (1:Int)≤4;decide,by show (4:Int)≤5;decide⟩
 | times _=>exact ⟨by show (1:Int)≤5;decide,by show (5:Int)≤5;decide⟩
theorem c2T {s:List UInt8} {r:List Sg×Int×Int} (hr:b6p (lexV s)=r) (h:r.2.2≠0):ParseIs s ([],r.2.1,r.2.2):=by
 cases hv:lexV s with
 | error e=>rw [hv] at hr;subst hr;exact .err e hv
 | ok l=>rw [hv] at hr;subst hr;exact absurd rfl h
theorem c0y {s:List UInt8} {r:List Sg×Int×Int} (hr:b6p (lexV s)=r) (h:r.2.2=0):lexV s=.ok r.1:=by
 cases hv:lexV s with
 | error e=>rw [hv] at hr;subst hr;exact absurd h (a7M hv)
 | ok l=>rw [hv] at hr;subst hr;rfl
theorem b1Y {s:List UInt8} {l:List Sg} {x:Rs} (hv:lexV s=.ok l) (hk:b6q l) (hne:l≠[]) (hx:a5J l 3 0 [] x) (hq:x.q < l.length):ParseIs s ([],(l.getD x.q default).at_,2):=by
 obtain ⟨t,q,g,o,r⟩:=x
 cases t with
 | none=>exact .odd l q hv hne hq (by rw [hx.1.bad 0 true];exact b0x hq)
 | some t=>exact .odd l q hv hne hq (b9E hk hx.1 hq (hx.2.2.2.1 (by decide)).1 (hx.2.2.2.1 (by decide)).2 (hx.2.2.2.2 (by decide)))
theorem b1s {s:List UInt8} {l:List Sg} {x:Rs} (hv:lexV s=.ok l) (hne:l≠[]) (hx:a5J l 3 0 [] x) (hq:l.length≤x.q) (hb:x.t.isNone=true):ParseIs s ([],s.length,5):=by
 obtain ⟨t,q,g,o,r⟩:=x
 cases t with
 | none=>exact .end_ l hv hne (by rw [hx.1.bad 0 true];exact a7W hq)
 | some t=>cases hb
theorem b4g {s:List UInt8} {l:List Sg} {x:Rs} (hv:lexV s=.ok l) (hx:a5J l 3 0 [] x) (hq:l.length≤x.q) (hb:x.t.isNone=false):ParseIs s (x.out,0,0):=by
  obtain ⟨t,q,g,o,r⟩:=x
  cases t with
  | none=>cases hb
  | some t =>
    have hql:=a1f hx.1
    simp only at hql hq
    obtain rfl:q=l.length:=by omega
    rw [show (⟨some t,l.length,g,o,r⟩:Rs).out=[]++T.flat 0 t from hx.2.1]
    exact .ok l t hv hx.1
theorem b6G (c:Nat) (s:List UInt8) (hs:s.length≤1000000):a3c Tryz.prog 55 c [a0p s] [] (a4W (fun (r:List Pt×Int×Int) _=>ParseIs s r) c1b (fun _=>[])):=by
 have hlen:=a6A s
 have hlx:=c4R s hs
 generalize hr:b6p (lexV s)=r at hlen hlx
 refine a0v Tryz.func55 rfl kr _ _ _ _ rfl 57 rfl rfl (fun X ok hX=>?_)
 refine ru 10 ?_
 refine cll (hlx) ?_
 refine ru 16 ?_
 refine wdc (fun hr0 hc0=>?_) (fun hr0 hc0=>?_)
 ·refine ru 11 ?_
  refine a2Y ok hX a3m.one rfl (a0r rfl) (a0r rfl) (a0r rfl) [] rfl a0e (([],r.2.1,r.2.2)) (c2T hr hc0) (by rfl) (by rfl) (a9b (.fz _ _ (.nil 0 5 _ (by decide) none)) kza kza) ?_
  exact trivial
 have hv:=c0y hr hc0;have hk:=c1q (a8C hv)
 refine ru 10 ?_
 refine wdc (fun hr1 hc1=>?_) (fun hr1 hc1=>?_)
 ·refine ru 9 ?_
  refine a2Y ok hX a3m.one rfl (a0r rfl) (a0r rfl) (a0r rfl) [] rfl a0e (([],0,0)) (.none (by rw [hv,List.length_eq_zero_iff.1 (show r.1.length=0 by omega)])) (by rfl) (by rfl) (a9b (.fz _ _ (.nil 0 5 _ (by decide) none)) kza kza) ?_
  exact trivial
 have hne:r.1≠[]:=(fun h=>by rw [h] at hc1;exact hc1 rfl)
 refine ru 7 ?_
 refine a0t 25 (a5U (id:=9001) (sz:=4) rfl rfl rfl (by decide) (by decide)) rfl rfl a0e rfl rfl (c':=c+1) rfl ?_
 refine ru 4 ?_
 refine (a1q 9001 2 9002 5 106 (b4R []) (erF r.1 0 (c+1) 0 false) rfl rfl (fun j hj=>by match j,hj with | 0,_=>exact .inr rfl | 1,_=>exact .inr rfl | 2,_=>exact .inl ⟨rfl,rfl⟩ | 3,_=>exact .inr rfl) (by decide) (by decide) (c':=c+2) rfl).wp ?_
 refine ru 2 ?_
 refine a0l 27 (xs:=[_]) (pre:=[(9001,_),(9002,_)]) (c1u r.1 c hk hne om _ 0 (Nat.lt_succ_self _) (Nat.zero_le _) _ (c+1) [] (by simp)) ⟨rfl,trivial⟩ (a0g rfl (a0g rfl a0e)) rfl rfl (fun x1 c1 hx=>?_)
 obtain ⟨t,q,g2,o2,r2⟩:=x1
 (try dsimp only)
 refine ru 5 ?_
 have hle:0≤q∧q≤r.1.length∧o2.length≤0+2 * (q - 0):=b0N hx
 refine ru 12 ?_
 refine wdc (fun hr2 hc2=>?_) (fun hr2 hc2=>?_)
 ·refine ru 19 ?_
  refine a2Y ok hX a3m.one rfl (a0r rfl) (a0r rfl) (a0r rfl) [] rfl a0e (([],(r.1.getD q default).at_,2)) (b1Y hv hk hne hx (show q < r.1.length by omega)) (by rfl) (by rfl) (a9b (.fz _ _ (.nil 0 5 _ (by decide) none)) kza kza) ?_
  exact trivial
 refine ru 9 ?_
 refine wdc (fun hr3 hc3=>?_) (fun hr3 hc3=>?_)
 ·refine ru 12 ?_
  refine a2Y ok hX a3m.one rfl (a0r rfl) (a0r rfl) (a0r rfl) [] rfl a0e (([],(s.length:Int),5)) (b1s hv hne hx (show r.1.length≤q by omega) hc3) (by rfl) (by rfl) (a9b (.fz _ _ (.nil 0 5 _ (by decide) none)) kza kza) ?_
  exact trivial
 refine ru 15 ?_
 refine a2Y ok hX a3m.one rfl (a0r rfl) (a0r rfl) (a0r rfl) [(9002,_)] rfl (a0g rfl a0e) ((o2,0,0)) (b4g hv hx (show r.1.length≤q by omega) hc3) (by rfl) (by rfl) (a9b (.fz _ _ (a1x (l:=o2) (enc:=ptF) (d:=default) (List.mem_cons_self ..) rfl rfl (Nat.le_refl _) (fun i j hi hj=>b1t _ j))) kza kza) ?_
 exact trivial
end Go.Proofs.YtjdmfohncgkdoaaGreatDoor
namespace Go.Proofs.YtjdmfohncgkdoaaGreatDoor
set_option linter.unusedSimpArgs false
set_option linter.unusedVariables false
@[reducible] def a9g (l:List Sg) (v q:Nat):Prop:=(2≤v→kd l q≠1∧kd l q≠2)∧(3≤v→kd l q≠4)
theorem c3x {l:List Sg} {v p q:Nat} {t:T} (h:Seg l v p q t):∀ {q':Nat} {t':T},Seg l v p q' t'→a9g l v q→a9g l v q'→q=q'∧t=t':=by
  induction h with
  | name p h =>
    intro q' t' h' _ _
    cases h' with
    | name _ _=>exact ⟨rfl,rfl⟩
    | group _ _ _ h2 _ _=>rw [h] at h2;exact absurd h2 (by decide)
  | group p q t h hs h3 ih =>
    intro q' t' h' _ _
    cases h' with
    | name _ h2=>rw [h] at h2;exact absurd h2 (by decide)
    | group _ q2 _ h2 hs2 h32 =>
      have:=ih hs2 ⟨fun _=>by rw [h3];decide,fun _=>by rw [h3];decide⟩ ⟨fun _=>by rw [h32];decide,fun _=>by rw [h32];decide⟩
      exact ⟨by rw [this.1],this.2⟩
  | item p q t hs h5 ih =>
    intro q' t' h' _ _
    have e:a9g l 0=fun _=>a9g l 0 0:=by funext q;simp [a9g]
    cases h' with
    | item _ _ _ hs2 h52=>exact ih hs2 ⟨fun h=>absurd h (by decide),fun h=>absurd h (by decide)⟩ ⟨fun h=>absurd h (by decide),fun h=>absurd h (by decide)⟩
    | times _ q2 t2 hs2 h52 =>
      have:=ih hs2 ⟨fun h=>absurd h (by decide),fun h=>absurd h (by decide)⟩ ⟨fun h=>absurd h (by decide),fun h=>absurd h (by decide)⟩
      rw [this.1] at h5;exact absurd h52 h5
  | times p q t hs h5 ih =>
    intro q' t' h' _ _
    cases h' with
    | item _ _ _ hs2 h52 =>
      have:=ih hs2 ⟨fun h=>absurd h (by decide),fun h=>absurd h (by decide)⟩ ⟨fun h=>absurd h (by decide),fun h=>absurd h (by decide)⟩
      rw [this.1] at h5;exact absurd h5 h52
    | times _ q2 t2 hs2 h52 =>
      have:=ih hs2 ⟨fun h=>absurd h (by decide),fun h=>absurd h (by decide)⟩ ⟨fun h=>absurd h (by decide),fun h=>absurd h (by decide)⟩
      rw [this.1,this.2];exact ⟨rfl,rfl⟩
  | row1 p q t hs ih =>
    intro q' t' h' he he'
    cases h' with
    | row1 _ _ _ hs2=>exact ih hs2 ⟨fun h=>absurd h (by decide),fun h=>absurd h (by decide)⟩ ⟨fun h=>absurd h (by decide),fun h=>absurd h (by decide)⟩
    | row _ _ ts c h2 h0 hq hs2 =>
      have a:=hs2 0 (by omega)
      rw [h0] at a
      have b:=ih a ⟨fun h=>absurd h (by decide),fun h=>absurd h (by decide)⟩ ⟨fun h=>absurd h (by decide),fun h=>absurd h (by decide)⟩
      have d:=a5d (hs2 1 (by omega))
      rw [←b.1] at d
      have:=he.1 (by decide)
      exact absurd d (by omega)
  | row p q ts c h2 h0 hq hs ih =>
    intro q' t' h' he he'
    cases h' with
    | row1 _ _ _ hs2 =>
      have b:=ih 0 (by omega) (h0.symm▸hs2) ⟨fun h=>absurd h (by decide),fun h=>absurd h (by decide)⟩ ⟨fun h=>absurd h (by decide),fun h=>absurd h (by decide)⟩
      have d:=a5d (hs 1 (by omega))
      rw [b.1] at d
      have:=he'.1 (by decide)
      exact absurd d (by omega)
    | row _ _ ts2 c2 h22 h02 hq2 hs2 =>
      have key:∀ i,i≤ts.length→i≤ts2.length→c i=c2 i∧∀ j,j < i→ts.getD j default=ts2.getD j default:=by
        intro i
        induction i with
        | zero=>intro _ _;exact ⟨by rw [h0,h02],fun j hj=>absurd hj (Nat.not_lt_zero _)⟩
        | succ i ihi =>
          intro h1 h3
          have a:=ihi (by omega) (by omega)
          have b:=ih i h1 (a.1▸hs2 i h3) ⟨fun h=>absurd h (by decide),fun h=>absurd h (by decide)⟩ ⟨fun h=>absurd h (by decide),fun h=>absurd h (by decide)⟩
          refine ⟨b.1,fun j hj=>?_⟩
          by_cases e:j=i
          · subst e;exact b.2
          · exact a.2 j (by omega)
      have hlen:ts.length=ts2.length:=by
        rcases Nat.lt_trichotomy ts.length ts2.length with h | h | h
        · have a:=(key ts.length (Nat.le_refl _) (by omega)).1
          have d:=a5d (hs2 ts.length h)
          rw [←a,hq] at d
          have:=he.1 (by decide);exact absurd d (by omega)
        · exact h
        · have a:=(key ts2.length (by omega) (Nat.le_refl _)).1
          have d:=a5d (hs ts2.length h)
          rw [a,hq2] at d
          have:=he'.1 (by decide);exact absurd d (by omega)
      have k:=key ts.length (Nat.le_refl _) (by omega)
      refine ⟨by rw [←hq,k.1,hlen,hq2],?_⟩
      congr 1
      apply List.ext_getElem hlen
      intro i h1 h3
      have:=k.2 i h1
      rwa [List.getD_eq_getElem?_getD,List.getD_eq_getElem?_getD,List.getElem?_eq_getElem h1,List.getElem?_eq_getElem h3] at this
  | choice1 p q t hs ih =>
    intro q' t' h' he he'
    cases h' with
    | choice1 _ _ _ hs2=>exact ih hs2 ⟨fun _=>he.1 (by decide),fun h=>absurd h (by decide)⟩ ⟨fun _=>he'.1 (by decide),fun h=>absurd h (by decide)⟩
    | choice _ _ ts c e h2 h0 hq hs2 hg =>
      have a:=hs2 0 (by omega)
      rw [h0] at a
      have g:=(hg 0 (by omega)).1
      have b:=ih a ⟨fun _=>he.1 (by decide),fun h=>absurd h (by decide)⟩ ⟨fun _=>by rw [g];decide,fun h=>absurd h (by decide)⟩
      rw [←b.1] at g
      exact absurd g (he.2 (by decide))
  | choice p q ts c e h2 h0 hq hs hg ih =>
    intro q' t' h' he he'
    have e4:∀ i,i+1 < ts.length→a9g l 2 (e i):=fun i hi=>⟨fun _=>by rw [(hg i hi).1];decide,fun h=>absurd h (by decide)⟩
    cases h' with
    | choice1 _ _ _ hs2 =>
      have b:=ih 0 (by omega) (h0.symm▸hs2) (e4 0 (by omega)) ⟨fun _=>he'.1 (by decide),fun h=>absurd h (by decide)⟩
      have g:=(hg 0 (by omega)).1
      rw [b.1] at g
      exact absurd g (he'.2 (by decide))
    | choice _ _ ts2 c2 e2 h22 h02 hq2 hs2 hg2 =>
      have e42:∀ i,i+1 < ts2.length→a9g l 2 (e2 i):=fun i hi=>⟨fun _=>by rw [(hg2 i hi).1];decide,fun h=>absurd h (by decide)⟩
      have en:∀ i,i < ts.length→a9g l 2 (e i):=fun i hi=>by
        by_cases h:i+1 < ts.length
        · exact e4 i h
        · rw [show i=ts.length - 1 by omega,hq];exact ⟨fun _=>he.1 (by decide),fun h=>absurd h (by decide)⟩
      have en2:∀ i,i < ts2.length→a9g l 2 (e2 i):=fun i hi=>by
        by_cases h:i+1 < ts2.length
        · exact e42 i h
        · rw [show i=ts2.length - 1 by omega,hq2];exact ⟨fun _=>he'.1 (by decide),fun h=>absurd h (by decide)⟩
      have key:∀ i,i < ts.length→i < ts2.length→c i=c2 i∧e i=e2 i∧∀ j,j < i+1→ts.getD j default=ts2.getD j default:=by
        intro i
        induction i with
        | zero =>
          intro h1 h3
          have b:=ih 0 h1 ((h0.trans h02.symm)▸hs2 0 h3) (en 0 h1) (en2 0 h3)
          exact ⟨by rw [h0, h02], b.1, fun j hj => by obtain rfl : j = 0 := by omega
                                                      exact b.2⟩
        | succ i ihi =>
          intro h1 h3
          have a:=ihi (by omega) (by omega)
          have hc:c (i+1)=c2 (i+1):=by rw [(hg i h1).2,(hg2 i h3).2,a.2.1]
          have b:=ih (i+1) h1 (hc▸hs2 (i+1) h3) (en _ h1) (en2 _ h3)
          refine ⟨hc,b.1,fun j hj=>?_⟩
          by_cases e:j=i+1
          · subst e;exact b.2
          · exact a.2.2 j (by omega)
      have hlen:ts.length=ts2.length:=by
        rcases Nat.lt_trichotomy ts.length ts2.length with h | h | h
        · have a:=(key (ts.length - 1) (by omega) (by omega)).2.1
          have d:=(hg2 (ts.length - 1) (by omega)).1
          rw [←a,hq] at d
          exact absurd d (he.2 (by decide))
        · exact h
        · have a:=(key (ts2.length - 1) (by omega) (by omega)).2.1
          have d:=(hg (ts2.length - 1) (by omega)).1
          rw [a,hq2] at d
          exact absurd d (he'.2 (by decide))
      have k:=key (ts.length - 1) (by omega) (by omega)
      refine ⟨by rw [←hq,k.2.1,hlen,hq2],?_⟩
      congr 1
      apply List.ext_getElem hlen
      intro i h1 h3
      have:=k.2.2 i (by omega)
      rwa [List.getD_eq_getElem?_getD,List.getD_eq_getElem?_getD,List.getElem?_eq_getElem h1,List.getElem?_eq_getElem h3] at this
def c4m (l:List Sg):Nat→Nat→Int→Nat
  | 0,i,_=>i
  | f + 1, i, d =>
    let d':=if kd l i=2 then d+1 else if kd l i=3 then d - 1 else d
    if d'=0 then i else c4m l f (i+1) d'
def a1R (l:List Sg) (i:Nat) (d:Int):Nat:=c4m l (l.length - i) i d
theorem b4a {l:List Sg} {i:Nat} {d:Int} (h:l.length≤i):a1R l i d=i:=by unfold a1R;rw [show l.length - i=0 by omega];rfl
theorem a1D {l:List Sg} {i:Nat} {d d':Int} (h:i < l.length) (hd:d'=if kd l i=2 then d+1 else if kd l i=3 then d - 1 else d):a1R l i d=if d'=0 then i else a1R l (i+1) d':=by
 subst hd
 unfold a1R
 rw [show l.length - i=(l.length - (i+1))+1 by omega]
 rfl
theorem b0L {l:List Sg}:∀ {n i:Nat} {d:Int},l.length - i=n→i≤l.length→i≤a1R l i d∧a1R l i d≤l.length
  | 0,i,d,hn,hi=>by rw [b4a (by omega)];omega
  | n + 1, i, d, hn, hi => by
    have e:=a1D (l:=l) (i:=i) (d:=d) (by omega) rfl
    generalize (if kd l i=2 then d+1 else if kd l i=3 then d - 1 else d)=d' at e
    rw [e]
    by_cases h:d'=0
    · rw [if_pos h];omega
    · rw [if_neg h]
      have:=b0L (l:=l) (n:=n) (i:=i+1) (d:=d') (by omega) (by omega);omega
theorem c0g {l:List Sg} {v p q:Nat} {t:T} (h:Seg l v p q t):∀ d:Int,1≤d→a1R l p d=a1R l q d:=by
  induction h with
  | name p h=>intro d hd;rw [a1D (a2D (by rw [h];decide)) rfl,h];simp;intro h;omega
  | group p q t h hs h3 ih =>
    intro d hd
    rw [a1D (a2D (by rw [h];decide)) rfl,h]
    simp only [if_true]
    rw [if_neg (by omega),ih (d+1) (by omega),a1D (a2D (by rw [h3];decide)) rfl,h3]
    simp;intro h;omega
  | item p q t _ _ ih=>exact ih
  | times p q t _ h5 ih =>
    intro d hd
    rw [ih d hd,a1D (a2D (by rw [h5];decide)) rfl,h5]
    simp;intro h;omega
  | row1 p q t _ ih=>exact ih
  | row p q ts c h2 h0 hq hs ih =>
    intro d hd
    have key:∀ i,i≤ts.length→a1R l (c 0) d=a1R l (c i) d:=by
      intro i
      induction i with
      | zero=>intro _;rfl
      | succ i ihi=>intro hi;rw [ihi (by omega)];exact ih i hi d hd
    rw [←h0,key ts.length (Nat.le_refl _),hq]
  | choice1 p q t _ ih=>exact ih
  | choice p q ts c e h2 h0 hq hs hg ih =>
    intro d hd
    have key:∀ i,i < ts.length→a1R l (c 0) d=a1R l (e i) d:=by
      intro i
      induction i with
      | zero=>intro hi;exact ih 0 hi d hd
      | succ i ihi =>
        intro hi
        have g:=hg i hi
        rw [ihi (by omega),a1D (a2D (by rw [g.1];decide)) rfl,g.1]
        simp only [show ¬ (4:Int)=2 by decide,show ¬ (4:Int)=3 by decide,if_false]
        rw [if_neg (by omega),←g.2]
        exact ih (i+1) hi d hd
    rw [←h0,key (ts.length - 1) (by omega),hq]
theorem b5w {l:List Sg} {p q:Nat} {t:T} (h:kd l p=2) (hs:Seg l 3 (p+1) q t) (h3:kd l q=3):a1R l p 0=q:=by
 rw [a1D (a2D (by rw [h];decide)) rfl,h]
 simp only [if_true]
 rw [if_neg (by omega),c0g hs (0+1) (by omega),a1D (a2D (by rw [h3];decide)) rfl,h3]
 simp
def c0U (l:List Sg) (from_ to_:Nat) (way:Int):Nat→Nat→List Int→List Int
  | 0,_,acc=>acc
  | f + 1, i, acc =>
    if to_≤i then acc
    else
      let a1:=if way=2∧from_ < i∧(kd l i=1∨kd l i=2) then acc++[(i:Int)] else acc
      let a2:=if way=3∧kd l i=4 then a1++[((i+1:Nat):Int)] else a1
      c0U l from_ to_ way f ((if kd l i=2 then a1R l i 0 else i)+1) a2
def a3n (l:List Sg) (from_ to_:Nat) (way:Int) (i:Nat) (acc:List Int):List Int:=c0U l from_ to_ way (to_ - i) i acc
theorem b3V {l:List Sg} {from_ to_:Nat} {way:Int} (hl:to_≤l.length):∀ {f f' i:Nat} {acc:List Int},to_ - i≤f→to_ - i≤f'→c0U l from_ to_ way f i acc=c0U l from_ to_ way f' i acc
  | 0,0,_,_,_,_=>rfl
  | 0,f'+1,i,acc,h,h'=>by simp only [c0U];rw [if_pos (by omega)]
  | f+1,0,i,acc,h,h'=>by simp only [c0U];rw [if_pos (by omega)]
  | f + 1, f' + 1, i, acc, h, h' => by
    simp only [c0U]
    by_cases h1:to_≤i
    · rw [if_pos h1,if_pos h1]
    · rw [if_neg h1,if_neg h1]
      have:i≤(if kd l i=2 then a1R l i 0 else i):=by
        split
        · exact (b0L rfl (by omega)).1
        · omega
      exact b3V hl (by omega) (by omega)
theorem a8K {l:List Sg} {from_ to_ i:Nat} {way:Int} {acc:List Int} (h:to_≤i):a3n l from_ to_ way i acc=acc:=by
 unfold a3n;rw [show to_ - i=0 by omega];rfl
theorem a3y {l:List Sg} {from_ to_ i:Nat} {way:Int} {acc a1 a2:List Int} {j:Nat} (hl:to_≤l.length) (h:i < to_) (h1:a1=if way=2∧from_ < i∧(kd l i=1∨kd l i=2) then acc++[(i:Int)] else acc)
  (h2:a2=if way=3∧kd l i=4 then a1++[((i+1:Nat):Int)] else a1) (hj:j=if kd l i=2 then a1R l i 0 else i):a3n l from_ to_ way i acc=a3n l from_ to_ way (j+1) a2:=by
 subst h1;subst h2;subst hj
 have:i≤(if kd l i=2 then a1R l i 0 else i):=by
  split
  ·exact (b0L rfl (by omega)).1
  ·omega
 unfold a3n
 rw [show to_ - i=(to_ - i - 1)+1 by omega]
 simp only [c0U]
 rw [if_neg (by omega)]
 exact b3V hl (by omega) (by omega)
@[reducible] def b3U (from_:Nat) (way:Int) (p:Nat):List Int:=if way=2∧from_ < p then [(p:Int)] else []
theorem a6a {l:List Sg} {from_ to_:Nat} {way:Int} (hl:to_≤l.length) {v p q:Nat} {t:T} (h:Seg l v p q t):v≤1→q≤to_→∀ acc,a3n l from_ to_ way p acc=a3n l from_ to_ way q (acc++b3U from_ way p):=by
  induction h with
  | name p h =>
    intro _ hq acc
    rw [a3y (a1:=acc++b3U from_ way p) (a2:=acc++b3U from_ way p) (j:=p) hl (by omega) (by rw [h];unfold b3U;by_cases hw:way=2∧from_ < p <;> simp [hw]) (by rw [h];simp) (by rw [h];simp)]
  | group p q t h hs h3 _ =>
    intro _ hq acc
    have:=a1f hs
    rw [a3y (a1:=acc++b3U from_ way p) (a2:=acc++b3U from_ way p) (j:=q) hl (by omega) (by rw [h];unfold b3U;by_cases hw:way=2∧from_ < p <;> simp [hw]) (by rw [h];simp) (by rw [h,b5w h hs h3];simp)]
  | item p q t _ _ ih=>exact fun _=>ih (by decide)
  | times p q t hs h5 ih =>
    intro _ hq acc
    rw [ih (by decide) (by omega) acc]
    rw [a3y (i:=q) (a1:=acc++b3U from_ way p) (a2:=acc++b3U from_ way p) (j:=q) hl (by omega) (by rw [h5];simp) (by rw [h5];simp) (by rw [h5];simp)]
  | row1 _ _ _ _ _=>intro h;exact absurd h (by decide)
  | row _ _ _ _ _ _ _ _ _=>intro h;exact absurd h (by decide)
  | choice1 _ _ _ _ _=>intro h;exact absurd h (by decide)
  | choice _ _ _ _ _ _ _ _ _ _ _=>intro h;exact absurd h (by decide)
def a1t (c:Nat→Nat) (n:Nat):List Int:=(List.range n).map fun i=>((c (i+1):Nat):Int)
theorem a5W (c:Nat→Nat) (n:Nat):a1t c (n+1)=a1t c n++[((c (n+1):Nat):Int)]:=by simp [a1t,List.range_succ]
theorem b3J {l:List Sg} {from_ to_:Nat} {way:Int} (hl:to_≤l.length) {p q:Nat} {t:T} (h:Seg l 2 p q t) (hq:q≤to_) (hw:way≠2):∀ acc,a3n l from_ to_ way p acc=a3n l from_ to_ way q acc:=by
  have ad:∀ p,b3U from_ way p=[]:=fun p=>by unfold b3U;rw [if_neg (by omega)]
  cases h with
  | row1 _ _ _ h=>intro acc;have:=a6a (from_:=from_) (way:=way) hl h (by decide) hq acc;rwa [ad,List.append_nil] at this
  | row _ _ ts c h2 h0 he hs =>
    intro acc
    have up:=c3l (n:=ts.length) (c:=c) (fun i hi=>(a1f (hs i hi)).1)
    have key:∀ i,i≤ts.length→a3n l from_ to_ way (c 0) acc=a3n l from_ to_ way (c i) acc:=by
      intro i
      induction i with
      | zero=>intro _;rfl
      | succ i ihi =>
        intro hi
        have u:=up (i+1) ts.length hi (Nat.le_refl _)
        have:=a6a (from_:=from_) (way:=way) hl (hs i hi) (by decide) (by omega) acc
        rw [ad,List.append_nil] at this
        rw [ihi (by omega),this]
    rw [←h0,key ts.length (Nat.le_refl _),he]
theorem b1S {l:List Sg} {p q:Nat} {t:T} (h:Seg l 2 p q t):a3n l p q 3 p [(p:Int)]++[(q:Int)]=[(p:Int),(q:Int)]:=by
 rw [b3J (a1f h).2 h (Nat.le_refl _) (by decide),a8K (Nat.le_refl _)];rfl
theorem a1S {l:List Sg} {v p q:Nat} {way:Int} {t:T} (h:Seg l v p q t) (hv:v≤1):a3n l p q way p [(p:Int)]++[(q:Int)]=[(p:Int),(q:Int)]:=by
 rw [a6a (a1f h).2 h hv (Nat.le_refl _),a8K (Nat.le_refl _)]
 unfold b3U;rw [if_neg (by omega)];rfl
theorem a9w {l:List Sg} {p q:Nat} {ts:List T} {c:Nat→Nat} (h0:c 0=p) (he:c ts.length=q) (h1:1≤ts.length) (hs:∀ i,i < ts.length→Seg l 1 (c i) (c (i+1)) (ts.getD i default)) :
    a3n l p q 2 p [(p:Int)]++[(q:Int)]=[(p:Int)]++a1t c ts.length:=by
  have up:=c3l (n:=ts.length) (c:=c) (fun i hi=>(a1f (hs i hi)).1)
  have hql:q≤l.length:=by rw [←he];have:=(a1f (hs (ts.length - 1) (by omega))).2;rwa [show ts.length - 1+1=ts.length by omega] at this
  have key:∀ i,i < ts.length→a3n l p q 2 (c 0) [(p:Int)]=a3n l p q 2 (c (i+1)) ([(p:Int)]++a1t c i):=by
    intro i
    induction i with
    | zero =>
      intro hi
      have u:=up (0+1) ts.length (by omega) (Nat.le_refl _)
      rw [he] at u
      rw [a6a hql (hs 0 hi) (by decide) (by omega)]
      unfold b3U;rw [if_neg (by omega)];rfl
    | succ i ihi =>
      intro hi
      have u:=up (i+1+1) ts.length (by omega) (Nat.le_refl _)
      have u2:=up 0 (i+1) (by omega) (by omega)
      rw [he] at u
      rw [ihi (by omega),a6a hql (hs (i+1) hi) (by decide) (by omega),a5W]
      unfold b3U;rw [if_pos ⟨rfl,by omega⟩,List.append_assoc]
  have k:=key (ts.length - 1) (by omega)
  rw [show ts.length - 1+1=ts.length by omega,h0,he] at k
  rw [k,a8K (Nat.le_refl _),List.append_assoc]
  congr 1
  have:=a5W c (ts.length - 1)
  rw [show ts.length - 1+1=ts.length by omega,he] at this
  exact this.symm
theorem b1b {l:List Sg} {p q:Nat} {ts:List T} {c e:Nat→Nat} (h1:1≤ts.length) (h0:c 0=p) (he:e (ts.length - 1)=q) (hs:∀ i,i < ts.length→Seg l 2 (c i) (e i) (ts.getD i default)) (hg:∀ i,i+1 < ts.length→kd l (e i)=4∧c (i+1)=e i+1) :
    a3n l p q 3 p [(p:Int)]++[(q:Int)]=[(p:Int)]++a1t c (ts.length - 1)++[(q:Int)]:=by
  have mono:∀ j,j < ts.length→∀ i,i≤j→e i≤e j:=by
    intro j
    induction j with
    | zero=>intro _ i hi;rw [show i=0 by omega];exact Nat.le_refl _
    | succ j ihj =>
      intro hj i hi
      by_cases h:i=j+1
      · subst h;exact Nat.le_refl _
      · have a:=ihj (by omega) i (by omega)
        have b:=(a1f (hs (j+1) hj)).1
        have d:=hg j hj
        omega
  have hql:q≤l.length:=by rw [←he];exact (a1f (hs (ts.length - 1) (by omega))).2
  have key:∀ i,i < ts.length→a3n l p q 3 (c 0) [(p:Int)]=a3n l p q 3 (e i) ([(p:Int)]++a1t c i):=by
    intro i
    induction i with
    | zero =>
      intro hi
      rw [b3J hql (hs 0 hi) (by rw [←he];exact mono _ (by omega) 0 (by omega)) (by decide)]
      simp [a1t]
    | succ i ihi =>
      intro hi
      have g:=hg i hi
      have m1:=mono (ts.length - 1) (by omega) (i+1) (by omega)
      have m2:=(a1f (hs (i+1) hi)).1
      rw [ihi (by omega),a3y (i:=e i) (a1:=[(p:Int)]++a1t c i) (a2:=[(p:Int)]++a1t c (i+1)) (j:=e i) hql (by omega) (by rw [g.1];simp) (by rw [g.1,a5W,g.2];simp) (by rw [g.1];simp),←g.2]
      exact b3J hql (hs (i+1) hi) (by omega) (by decide) _
  have k:=key (ts.length - 1) (by omega)
  rw [h0,he] at k
  rw [k,a8K (Nat.le_refl _)]
end Go.Proofs.YtjdmfohncgkdoaaGreatDoor
namespace Go.Proofs.YtjdmfohncgkdoaaGreatDoor
set_option linter.unusedSimpArgs false
set_option linter.unusedVariables false
set_option maxRecDepth 100000
open Go.RowKit
theorem a6X {a b:Bool} (h:a=b):Sb (a0s a) (a0s b):=by subst h;exact .refl _
theorem c2Z {sh:List (Nat×HObj)} {acc:List Int} {r:Int} {j:Nat} (i:Nat) (hi:i < (acc++[r]).length):Fz sh (cat acc.length (a3q acc) (bsf [a0h r]) i j) (a0h ((acc++[r]).getD i 0)):=by
 by_cases h:i < acc.length
 ·rw [a7u h,a4E h];exact .imm _
 ·have:i=acc.length:=by rw [List.length_append,List.length_singleton] at hi;omega
  subst this
  rw [a7l (Nat.le_refl _),Nat.sub_self,a2E];exact .imm _
theorem b0n (l:List Sg) (hl:l.length≤1000):a0q Tryz.prog 94 [a3B l] (t2 (a0h (chk l 0 0 true true).1) (a0s (chk l 0 0 true true).2)):=by
 refine a0m Tryz.func94 rfl kr _ _ _ rfl 75 rfl rfl (fun w F=>?_)
 refine ru 28 ?_
 refine a0n (α:=Nat×Nat×Bool×Bool) (fun x c=>⟨75,[(0,.v (a3B l)),(4,.v (a0h x.2.1)),(5,.v (a0s x.2.2.1)),(6,.v (a0s x.2.2.2)),(7,.v (a0h x.1))],[],c⟩) (fun x=>x.1≤l.length∧x.2.1≤x.1∧chk l x.1 x.2.1 x.2.2.1 x.2.2.2=chk l 0 0 true true) (fun x=>l.length - x.1) ((0,0,true,true)) (by exact ⟨Nat.zero_le _,Nat.zero_le _,rfl⟩) (a0c rfl (Nat.le_refl _) tsa a0k.nil) (fun x c hx NhL1 hL1=>?_)
 revert hx hL1;obtain ⟨i,d,it,ct⟩:=x;intro hx hL1;dsimp only at hx hL1 ⊢
 obtain ⟨hi,hd,hC⟩:=hx
 refine ru 9 ?_
 refine wdc (fun hr0 hc0=>?_) (fun hr0 hc0=>?_)
 ·skip
  have hil:i < l.length:=om
  refine ru 11 ?_
  refine rvl (a0h (kd l i)) (by rw [a8Y hil];rfl) ?_
  refine ru 32 ?_
  refine wdc (fun hr1 hc1=>?_) (fun hr1 hc1=>?_)
  ·skip
   have hbad:(it=true∧kd l i≠1∧kd l i≠2)∨(kd l i=3∧d=0)∨(kd l i=5∧ct=true):=(by have h:=hr1;cases it <;> cases ct <;> simp at h ⊢ <;> omega)
   refine ru 11 ?_
   refine a0f ?_
   refine ru 2 ?_
   refine rt2 ?_
   rw [←hC,a8r hil hbad];exact a1y (.imm _) (.imm _)
  have hbad:¬ ((it=true∧kd l i≠1∧kd l i≠2)∨(kd l i=3∧d=0)∨(kd l i=5∧ct=true)):=(by have h:=hr1;cases it <;> cases ct <;> simp at h ⊢ <;> omega)
  refine ru 9 ?_
  refine wdc (fun hr2 hc2=>?_) (fun hr2 hc2=>?_)
  ·refine ru 13 ?_
   refine wdc (fun hr3 hc3=>?_) (fun hr3 hc3=>?_)
   ·skip
    exfalso;omega
   refine ru 29 ?_
   exact hL1 ((i+1,d+1,(decide (kd l i=2)||decide (kd l i=4)),(!decide (kd l i=1)&&!decide (kd l i=3)))) _ _ (by (try dsimp only);exact ⟨hil,by omega,by rw [←hC,a3z hil,if_neg hbad,if_pos hc2]⟩) (by (try dsimp only);omega) (a0c rfl (Nat.le_refl _) (tsr rfl (a0K.cons rfl (by dsimp only;exact a0Y om) (a0K.cons rfl (by dsimp only;exact a6X (by first | rfl | simp | (trace_state;rfl))) (a0K.cons rfl (by dsimp only;exact a6X (by first | rfl | simp | (trace_state;rfl))) (a0K.cons rfl (by dsimp only;exact a0Y om) a0K.nil))))) a0k.nil)
  refine ru 9 ?_
  refine wdc (fun hr3 hc3=>?_) (fun hr3 hc3=>?_)
  ·refine ru 33 ?_
   exact hL1 ((i+1,d - 1,(decide (kd l i=2)||decide (kd l i=4)),(!decide (kd l i=1)&&!decide (kd l i=3)))) _ _ (by (try dsimp only);exact ⟨hil,by omega,by rw [←hC,a3z hil,if_neg hbad,if_neg hc2,if_pos hc3]⟩) (by (try dsimp only);omega) (a0c rfl (Nat.le_refl _) (tsr rfl (a0K.cons rfl (by dsimp only;exact a0Y om) (a0K.cons rfl (by dsimp only;exact a6X (by first | rfl | simp | (trace_state;rfl))) (a0K.cons rfl (by dsimp only;exact a6X (by first | rfl | simp | (trace_state;rfl))) (a0K.cons rfl (by dsimp only;exact a0Y om) a0K.nil))))) a0k.nil)
  refine ru 29 ?_
  exact hL1 ((i+1,d,(decide (kd l i=2)||decide (kd l i=4)),(!decide (kd l i=1)&&!decide (kd l i=3)))) _ _ (by (try dsimp only);exact ⟨hil,by omega,by rw [←hC,a3z hil,if_neg hbad,if_neg hc2,if_neg hc3]⟩) (by (try dsimp only);omega) (a0c rfl (Nat.le_refl _) (tsr rfl (a0K.cons rfl (by dsimp only;exact a0Y om) (a0K.cons rfl (by dsimp only;exact a6X (by first | rfl | simp | (trace_state;rfl))) (a0K.cons rfl (by dsimp only;exact a6X (by first | rfl | simp | (trace_state;rfl))) (a0K.cons rfl (by dsimp only;exact a0Y om) a0K.nil))))) a0k.nil)
 refine ru 2 ?_
 refine a0d ?_
 refine ru 19 ?_
 refine rt2 ?_
 rw [←hC,a8F om];exact a1y (.imm _) (a1d (by cases it <;> simp))
theorem c1w (l:List Sg) (p:Nat) (hl:l.length≤1000) (hp:p≤l.length):a0q Tryz.prog 145 [a3B l,a0h p] (a0h (a1R l p 0)):=by
 refine a0m Tryz.func145 rfl kr _ _ _ rfl 35 rfl rfl (fun w F=>?_)
 refine ru 18 ?_
 refine a0n (α:=Nat×Int) (fun x c=>⟨35,[(0,.v (a3B l)),(1,.v (a0h p)),(5,.v (a0h x.2)),(6,.v (a0h x.1))],[],c⟩) (fun x=>x.1≤l.length∧(-(x.1:Int)≤x.2∧x.2≤x.1)∧a1R l x.1 x.2=a1R l p 0) (fun x=>l.length - x.1) ((p,0)) (by exact ⟨hp,by omega,rfl⟩) (a0c rfl (Nat.le_refl _) tsa a0k.nil) (fun x c hx NhL1 hL1=>?_)
 revert hx hL1;obtain ⟨i,d⟩:=x;intro hx hL1;dsimp only at hx hL1 ⊢
 obtain ⟨hi,hd,hC⟩:=hx
 refine ru 9 ?_
 refine wdc (fun hr0 hc0=>?_) (fun hr0 hc0=>?_)
 ·skip
  have hil:i < l.length:=om
  refine ru 12 ?_
  refine rvl (a0h (kd l i)) (by rw [a8Y hil];rfl) ?_
  refine ru 3 ?_
  refine wdc (fun hr1 hc1=>?_) (fun hr1 hc1=>?_)
  ·skip
   have hk1:kd l i=2:=hc1
   refine ru 14 ?_
   refine rvl (a0h (kd l i)) (by rw [a8Y hil];rfl) ?_
   refine ru 3 ?_
   refine wdc (fun hr2 hc2=>?_) (fun hr2 hc2=>?_)
   ·skip
    exfalso;omega
   have hk2:¬ kd l i=3:=hc2
   refine ru 8 ?_
   refine wdc (fun hr3 hc3=>?_) (fun hr3 hc3=>?_)
   ·refine ru 9 ?_
    refine a0f ?_
    refine ru 2 ?_
    refine rt1 ?_
    rw [←hC,a1D (d':=d+1) hil (by rw [if_pos hk1]),if_pos hc3];exact .imm _
   refine ru 8 ?_
   exact hL1 ((i+1,d+1)) _ _ (by (try dsimp only);exact ⟨hil,by omega,by rw [←hC,a1D (d':=d+1) hil (by rw [if_pos hk1]),if_neg hc3]⟩) (by (try dsimp only);omega) (a0c rfl (Nat.le_refl _) (tsr rfl (tsr rfl (tsr rfl (a0K.cons rfl (by dsimp only;exact a0Y om) a0K.nil)))) a0k.nil)
  have hk1:¬ kd l i=2:=hc1
  refine ru 10 ?_
  refine rvl (a0h (kd l i)) (by rw [a8Y hil];rfl) ?_
  refine ru 3 ?_
  refine wdc (fun hr2 hc2=>?_) (fun hr2 hc2=>?_)
  ·skip
   have hk2:kd l i=3:=hc2
   refine ru 12 ?_
   refine wdc (fun hr3 hc3=>?_) (fun hr3 hc3=>?_)
   ·refine ru 9 ?_
    refine a0f ?_
    refine ru 2 ?_
    refine rt1 ?_
    rw [←hC,a1D (d':=d - 1) hil (by rw [if_neg hk1,if_pos hk2]),if_pos hc3];exact .imm _
   refine ru 8 ?_
   exact hL1 ((i+1,d - 1)) _ _ (by (try dsimp only);exact ⟨hil,by omega,by rw [←hC,a1D (d':=d - 1) hil (by rw [if_neg hk1,if_pos hk2]),if_neg hc3]⟩) (by (try dsimp only);omega) (a0c rfl (Nat.le_refl _) (tsr rfl (tsr rfl (tsr rfl (a0K.cons rfl (by dsimp only;exact a0Y om) a0K.nil)))) a0k.nil)
  have hk2:¬ kd l i=3:=hc2
  refine ru 8 ?_
  refine wdc (fun hr3 hc3=>?_) (fun hr3 hc3=>?_)
  ·refine ru 9 ?_
   refine a0f ?_
   refine ru 2 ?_
   refine rt1 ?_
   rw [←hC,a1D (d':=d) hil (by rw [if_neg hk1,if_neg hk2]),if_pos hc3];exact .imm _
  refine ru 8 ?_
  exact hL1 ((i+1,d)) _ _ (by (try dsimp only);exact ⟨hil,by omega,by rw [←hC,a1D (d':=d) hil (by rw [if_neg hk1,if_neg hk2]),if_neg hc3]⟩) (by (try dsimp only);omega) (a0c rfl (Nat.le_refl _) (tsr rfl (tsr rfl (tsr rfl (a0K.cons rfl (by dsimp only;exact a0Y om) a0K.nil)))) a0k.nil)
 refine ru 2 ?_
 refine a0d ?_
 refine ru 10 ?_
 refine rt1 ?_
 rw [←hC,b4a om,show i=l.length by omega];exact .imm _
theorem a2N (l:List Sg) (p q:Nat) (way:Int) (hl:l.length≤1000) (hq:q≤l.length) (hp:p≤q):a0q Tryz.prog 123 [a3B l,a0h p,a0h q,a0h way] (a1z (a3n l p q way p [(p:Int)]++[(q:Int)])):=by
 refine a0m Tryz.func123 rfl kr _ _ _ rfl 64 rfl rfl (fun w F=>?_)
 refine ru 8 ?_
 refine a0t 13 (a0b (id:=13) (hs:=[_]) ei_104.h omx rfl omx ⟨rfl,rfl,rfl,rfl,trivial⟩) rfl rfl a0e rfl rfl (c':=1) rfl ?_
 refine ru 11 ?_
 refine a0n (α:=Nat×List Int×Nat) (fun x c=>⟨64,[(0,.v (a3B l)),(1,.v (a0h p)),(2,.v (a0h q)),(3,.v (a0h way)),(9,.v (.os 13 x.2.2 0 x.2.1.length)),(10,.v (a0h x.1))],[(13,⟨x.2.2,x.2.1.length,1,3,0,a3q x.2.1⟩)],c⟩) (fun x=>p≤x.1∧x.1≤l.length+1∧x.2.1.length≤2 * (x.1 - p)+1∧a3n l p q way x.1 x.2.1=a3n l p q way p [(p:Int)]) (fun x=>q - x.1) ((p,[(p:Int)],0)) (by exact ⟨Nat.le_refl _,by omega,by show 1≤_;omega,rfl⟩) (a0c rfl (Nat.le_refl _) tsa (a0k.cons rfl (a5M.of fun i j hi hj=>by obtain rfl:i=0:=om;exact .refl _) a0k.nil)) (fun x c hx NhL1 hL1=>?_)
 revert hx hL1;obtain ⟨i,acc,g⟩:=x;intro hx hL1;dsimp only at hx hL1 ⊢
 obtain ⟨hpi,hi,hal,hC⟩:=hx
 refine ru 8 ?_
 refine wdc (fun hr0 hc0=>?_) (fun hr0 hc0=>?_)
 ·skip
  have hiq:i < q:=om;have hsl:=b0L (l:=l) (d:=0) (n:=l.length - i) (i:=i) rfl om
  refine ru 11 ?_
  refine rvl (a0h (kd l i)) (by rw [a8Y (show i < l.length by omega)];rfl) ?_
  refine ru 23 ?_
  refine wdc (fun hr1 hc1=>?_) (fun hr1 hc1=>?_)
  ·skip
   have h1:way=2∧p < i∧(kd l i=1∨kd l i=2):=(by have h:=hr1;simp at h;omega)
   refine ru 3 ?_
   refine a0t 42 (a0b (id:=42) (hs:=[_]) ei_104.h omx rfl omx ⟨rfl,rfl,rfl,rfl,trivial⟩) rfl rfl a0e rfl rfl (c':=c+1) rfl ?_
   first
   | refine a0t 43 (a0a ei_104.h omy rfl omy omy (a0u rfl omy) omy rfl) rfl rfl (a0g rfl (a0C rfl)) rfl rfl (c':=c+2) rfl ?_
   | refine a0t 43 (a0a ei_104.h omy rfl omy omy (a0G rfl omy) omy rfl) rfl rfl (a0g rfl (a0C rfl)) rfl rfl (c':=c+2) rfl ?_
   | refine a0t 43 (a0a ei_104.h omy rfl omy omy (a0F rfl) omy rfl) rfl rfl (a0g rfl a0e) rfl rfl (c':=c+2) rfl ?_
   | refine a0t 43 (a0a ei_104.h omy rfl omy omy (a0w 1 (fun _ _=>default) rfl) omy rfl) rfl rfl (a0g rfl a0e) rfl rfl (c':=c+2) rfl ?_
   refine ru 14 ?_
   refine wdc (fun hr2 hc2=>?_) (fun hr2 hc2=>?_)
   ·skip
    exfalso;have h:=hr2;simp at h;omega
   have h2:¬ (way=3∧kd l i=4):=(by have h:=hr2;simp at h;omega)
   refine ru 8 ?_
   refine wdc (fun hr3 hc3=>?_) (fun hr3 hc3=>?_)
   ·skip
    have h3:kd l i=2:=hc3
    refine ru 3 ?_
    refine cll (c1w l i hl om) ?_
    refine ru 9 ?_
    exact hL1 ((a1R l i 0+1,acc++[(i:Int)],c+1)) _ _ (by (try dsimp only);exact ⟨by omega,by omega,by rw [List.length_append];show acc.length+1≤_;omega,by rw [←hC];exact (a3y (a1:=acc++[(i:Int)]) (a2:=acc++[(i:Int)]) (j:=a1R l i 0) hq hiq (by rw [if_pos h1]) (by rw [if_neg h2]) (by rw [if_pos h3])).symm⟩) (by (try dsimp only);omega) (a0c rfl (Nat.le_refl _) (tsr rfl (tsr rfl (tsr rfl (tsr rfl (a0K.cons rfl (a1N (by simp)) tsa))))) (a0k.cons rfl (a0x (enc:=fun x _=>a0h x) (d:=0) rfl (fun i j _ _=>.refl _) (fun j hj=>.refl _)) a0k.nil))
   have h3:¬ kd l i=2:=hc3
   refine ru 8 ?_
   exact hL1 ((i+1,acc++[(i:Int)],c+1)) _ _ (by (try dsimp only);exact ⟨by omega,by omega,by rw [List.length_append];show acc.length+1≤_;omega,by rw [←hC];exact (a3y (a1:=acc++[(i:Int)]) (a2:=acc++[(i:Int)]) (j:=i) hq hiq (by rw [if_pos h1]) (by rw [if_neg h2]) (by rw [if_neg h3])).symm⟩) (by (try dsimp only);omega) (a0c rfl (Nat.le_refl _) (tsr rfl (tsr rfl (tsr rfl (tsr rfl (a0K.cons rfl (a1N (by simp)) tsa))))) (a0k.cons rfl (a0x (enc:=fun x _=>a0h x) (d:=0) rfl (fun i j _ _=>.refl _) (fun j hj=>.refl _)) a0k.nil))
  have h1:¬ (way=2∧p < i∧(kd l i=1∨kd l i=2)):=(by have h:=hr1;simp at h;omega)
  refine ru 13 ?_
  refine wdc (fun hr2 hc2=>?_) (fun hr2 hc2=>?_)
  ·skip
   have h2:way=3∧kd l i=4:=(by have h:=hr2;simp at h;omega)
   refine ru 4 ?_
   refine a0t 53 (a0b (id:=53) (hs:=[_]) ei_104.h omx rfl omx ⟨rfl,rfl,rfl,rfl,trivial⟩) rfl rfl a0e rfl rfl (c':=c+1) rfl ?_
   first
   | refine a0t 54 (a0a ei_104.h omy rfl omy omy (a0u rfl omy) omy rfl) rfl rfl (a0g rfl (a0C rfl)) rfl rfl (c':=c+2) rfl ?_
   | refine a0t 54 (a0a ei_104.h omy rfl omy omy (a0G rfl omy) omy rfl) rfl rfl (a0g rfl (a0C rfl)) rfl rfl (c':=c+2) rfl ?_
   | refine a0t 54 (a0a ei_104.h omy rfl omy omy (a0F rfl) omy rfl) rfl rfl (a0g rfl a0e) rfl rfl (c':=c+2) rfl ?_
   | refine a0t 54 (a0a ei_104.h omy rfl omy omy (a0w 1 (fun _ _=>default) rfl) omy rfl) rfl rfl (a0g rfl a0e) rfl rfl (c':=c+2) rfl ?_
   refine ru 9 ?_
   refine wdc (fun hr3 hc3=>?_) (fun hr3 hc3=>?_)
   ·skip
    exfalso;omega
   have h3:¬ kd l i=2:=hc3
   refine ru 8 ?_
   exact hL1 ((i+1,acc++[((i+1:Nat):Int)],c+1)) _ _ (by (try dsimp only);exact ⟨by omega,by omega,by rw [List.length_append];show acc.length+1≤_;omega,by rw [←hC];exact (a3y (a1:=acc) (a2:=acc++[((i+1:Nat):Int)]) (j:=i) hq hiq (by rw [if_neg h1]) (by rw [if_pos h2]) (by rw [if_neg h3])).symm⟩) (by (try dsimp only);omega) (a0c rfl (Nat.le_refl _) (tsr rfl (tsr rfl (tsr rfl (tsr rfl (a0K.cons rfl (a1N (by simp)) tsa))))) (a0k.cons rfl (a0x (enc:=fun x _=>a0h x) (d:=0) rfl (fun i j _ _=>.refl _) (fun j hj=>.refl _)) a0k.nil))
  have h2:¬ (way=3∧kd l i=4):=(by have h:=hr2;simp at h;omega)
  refine ru 8 ?_
  refine wdc (fun hr3 hc3=>?_) (fun hr3 hc3=>?_)
  ·skip
   have h3:kd l i=2:=hc3
   refine ru 3 ?_
   refine cll (c1w l i hl om) ?_
   refine ru 9 ?_
   exact hL1 ((a1R l i 0+1,acc,g)) _ _ (by (try dsimp only);exact ⟨by omega,by omega,by omega,by rw [←hC];exact (a3y (a1:=acc) (a2:=acc) (j:=a1R l i 0) hq hiq (by rw [if_neg h1]) (by rw [if_neg h2]) (by rw [if_pos h3])).symm⟩) (by (try dsimp only);omega) (a0c rfl (Nat.le_refl _) tsa hsa)
  have h3:¬ kd l i=2:=hc3
  refine ru 8 ?_
  exact hL1 ((i+1,acc,g)) _ _ (by (try dsimp only);exact ⟨by omega,by omega,by omega,by rw [←hC];exact (a3y (a1:=acc) (a2:=acc) (j:=i) hq hiq (by rw [if_neg h1]) (by rw [if_neg h2]) (by rw [if_neg h3])).symm⟩) (by (try dsimp only);omega) (a0c rfl (Nat.le_refl _) tsa hsa)
 refine ru 2 ?_
 refine a0d ?_
 refine ru 3 ?_
 have e:=a8K (l:=l) (from_:=p) (way:=way) (acc:=acc) (show q≤i by omega);rw [e] at hC
 refine ru 3 ?_
 refine a0t 62 (a0b (id:=62) (hs:=[_]) ei_104.h omx rfl omx ⟨rfl,rfl,rfl,rfl,trivial⟩) rfl rfl a0e rfl rfl (c':=c+1) rfl ?_
 first
 | refine a0t 63 (a0a ei_104.h omy rfl omy omy (a0u rfl omy) omy rfl) rfl rfl (a0g rfl (a0C rfl)) rfl rfl (c':=c+2) rfl ?_
 | refine a0t 63 (a0a ei_104.h omy rfl omy omy (a0G rfl omy) omy rfl) rfl rfl (a0g rfl (a0C rfl)) rfl rfl (c':=c+2) rfl ?_
 | refine a0t 63 (a0a ei_104.h omy rfl omy omy (a0F rfl) omy rfl) rfl rfl (a0g rfl a0e) rfl rfl (c':=c+2) rfl ?_
 | refine a0t 63 (a0a ei_104.h omy rfl omy omy (a0w 1 (fun _ _=>default) rfl) omy rfl) rfl rfl (a0g rfl a0e) rfl rfl (c':=c+2) rfl ?_
 refine ru 4 ?_
 refine a8h rfl (a0r rfl) [(13,_)] rfl (a0g rfl a0e) ?_
 rw [←hC];exact a1x (l:=acc++[(q:Int)]) (enc:=fun x _=>a0h x) (d:=0) (List.mem_cons_self ..) rfl (by simp) (by simp) (fun i j hi hj=>c2Z i hi)
set_option maxHeartbeats 4000000
@[reducible] def c3J (g:Nat) (l:List Pt):HObj:=⟨g,l.length,5,188,0,b4R l⟩
@[reducible] def BdP (o:List Pt):HEnd→List (Nat×HObj)→Nat→Prop:=a4W (fun (_:Nat) _=>True) (fun g'=>.os 9003 g' 0 o.length) (fun g'=>[(9003,c3J g' o)])
@[reducible] def BdC (l:List Sg) (p q:Nat) (t:T):Prop:=∀ c g (out:List Pt),out.length≤2 * p→a3c Tryz.prog 95 c [.os 9003 g 0 out.length,a3B l,a0h p,a0h q] [(9003,c3J g out)] (BdP (out++T.flat out.length t))
@[reducible] def BdN (l:List Sg) (p q:Nat) (t:T):Prop:=∀ c,a3c Tryz.prog 95 c [.imm (.slice none 0 0),a3B l,a0h p,a0h q] [] (BdP (([]:List Pt)++T.flat 0 t))
theorem a7B {kp sh:List (Nat×HObj)} {id g lo n n':Nat} {o:HObj} (h:hget kp id=some o) (hg:o.g=g) (hn:n=n'):Kz kp sh (.os id g lo n) (.os id g lo n'):=by subst hn;exact .os _ _ _ _ _ h hg
theorem a3V {kp sh:List (Nat×HObj)} {o o':List Pt} {x:Pt} {g n ty:Nat} {f:Nat→Nat→HV} (hn:n=o.length) (ho:o++[x]=o') (h:∀ j,j < 5→Fz sh (f 0 j) (ptF x j)):OKz kp sh ⟨g,n+1,5,ty,0,cat n (b4R o) f⟩ ⟨g,o'.length,5,ty,0,b4R o'⟩:=by
 subst hn;subst ho
 refine ⟨rfl,by simp,rfl,rfl,Nat.le_refl _,fun i j hi hj=>.fz _ _ ?_,fun h=>absurd h (Nat.not_lt_zero _)⟩
 show Fz sh (cat o.length (b4R o) f i j) (ptF ((o++[x]).getD i default) j)
 by_cases h':i < o.length
 ·rw [a7u h',a4E h'];exact b1t _ j
 ·have hi':i=o.length:=by simp only at hi;omega
  subst hi'
  rw [a7l (Nat.le_refl _),Nat.sub_self,a2E];exact h j hj
theorem b1X {sh:List (Nat×HObj)} {x:Pt} {f:Nat→HV} (h0:Fz sh (f 0) (ptF x 0)) (h1:Fz sh (f 1) (ptF x 1)) (h2:Fz sh (f 2) (ptF x 2)) (h3:Fz sh (f 3) (ptF x 3)) (h4:Fz sh (f 4) (ptF x 4)):∀ j,j < 5→Fz sh (f j) (ptF x j):=fun j hj=>by
 match j,hj with
 | 0,_=>exact h0
 | 1,_=>exact h1
 | 2,_=>exact h2
 | 3,_=>exact h3
 | 4,_=>exact h4
theorem b0l {sh:List (Nat×HObj)} {id g ty fl n:Nat} {ks:List Int} (hn:n=ks.length):Fz ((id,⟨g,n,1,ty,fl,a3q ks⟩)::sh) (.os id g 0 n) (a1z ks) :=
 a1x (l:=ks) (enc:=fun x _=>a0h x) (d:=0) (List.mem_cons_self ..) rfl hn (Nat.le_refl _) (fun i j hi hj=>.imm _)
theorem a9a {l:List Sg} {q':Nat} {x:Int} (h:x=(q':Int)) (hq:q' < l.length):a9y l x.toNat 0=a0h (kd l q'):=by rw [h,Int.toNat_natCast,a8Y hq];rfl
@[reducible] def a7w (k:Int) (gk n:Nat):Nat→Nat→HV:=fun _ j=>match j with | 0=>a0h k | 1=>a0h 0 | 2=>a0h 0 | 3=>a0p [] | _=>.os 7001 gk 0 n
theorem a7z {g ty fl:Nat} {f f':Nat→Nat→HV} (h0:Sb (f 0 0) (f' 0 0)) (h1:Sb (f 0 1) (f' 0 1)) (h2:Sb (f 0 2) (f' 0 2)) (h3:Sb (f 0 3) (f' 0 3)) (h4:Sb (f 0 4) (f' 0 4)) (hfn:fl≤1:=by exact Nat.zero_le _):a5M ⟨g,1,5,ty,fl,f⟩ ⟨g,1,5,ty,fl,f'⟩:=.of (hfn:=hfn) fun i j hi hj=>by
 obtain rfl:i=0:=by omega
 match j,hj with | 0,_=>exact h0 | 1,_=>exact h1 | 2,_=>exact h2 | 3,_=>exact h3 | 4,_=>exact h4
theorem a2c {B:List Int} {i j:Nat} {x:Int} (hj:j=i) (h:B.getD i 0=x):ldv false 1 (a3q B j) 0=a0h x:=by subst hj;show a0h (B.getD j 0)=_;rw [h]
theorem b1z {ts:List T} {i:Nat} (h:i < ts.length):ts.take (i+1)=ts.take i++[ts.getD i default]:=by
 rw [List.take_add_one,List.getD_eq_getElem?_getD,List.getElem?_eq_getElem h];rfl
structure KidI (ts:List T) (out:List Pt) (i:Nat) (o:List Pt) (ks:List Int):Prop where
 le:i≤ts.length
 eo:o=out++T.flatL out.length (ts.take i)
 ek:ks=rootsL out.length (ts.take i)
theorem a5v {ts:List T} {out o:List Pt} {i:Nat} {ks:List Int} (h:KidI ts out i o ks) (hi:i < ts.length):KidI ts out (i+1) (o++T.flat o.length (ts.getD i default)) (ks++[T.root o.length (ts.getD i default)]):=by
 have hl:o.length=out.length+T.sizeL (ts.take i):=by rw [h.eo,List.length_append,T.flatL_len]
 refine ⟨hi,?_,?_⟩
 ·rw [b1z hi,T.flatL_snoc,hl,h.eo,List.append_assoc]
 ·rw [b1z hi,a4N,hl,h.ek]
theorem a9N {ts:List T} {out o:List Pt} {i:Nat} {ks:List Int} (h:KidI ts out i o ks):o.length=out.length+T.sizeL (ts.take i)∧ks.length=i:=by
 refine ⟨by rw [h.eo,List.length_append,T.flatL_len],?_⟩
 rw [h.ek,a1L,List.length_take];have:=h.le;omega
theorem a3X {ts:List T} {out o:List Pt} {i:Nat} {ks:List Int} {k:Int} (h:KidI ts out i o ks) (hi:i=ts.length):o++[⟨k,0,0,[],ks⟩]=out++T.flat out.length (.many k ts):=by
 have h1:=h.eo;have h2:=h.ek
 rw [hi,List.take_length] at h1 h2
 rw [h1,h2];simp [T.flat]
structure Cuts (l:List Sg) (B:List Int) (m p q:Nat) (ts:List T) (s e:Nat→Nat):Prop where
 hlen:B.length=m+1
 hm:m=ts.length
 htwo:2≤m
 hmb:m≤2000
 hat:∀ i,i < m→B.getD i 0=(s i:Int)
 hle:∀ i,i < m→s i≤e i∧e i≤l.length
 hout:∀ i,i < m→T.sizeL (ts.take i)+2 * p≤2 * s i
 hsz:∀ i,i < m→(ts.getD i default).size+2 * s i≤2 * e i
 hall:T.sizeL ts+2 * p≤2 * q
theorem c3f (l:List Sg) (p q:Nat) (hl:l.length≤1000) (h1:kd l p=1) (hq:q=p+1) (hql:q≤l.length) (hpq:p≤q) {v:Nat} (hv:v≤1) (hsg:Seg l v p q (.name (l.getD p default).name)):BdC l p q (.name (l.getD p default).name):=by
 intro c g out ho
 obtain ⟨cb,hcb⟩:∃ cb,cb=c:=⟨_,rfl⟩
 subst hcb
 refine a0v Tryz.func95 rfl kr _ _ _ _ rfl 126 rfl rfl (fun X ok hX=>?_)
 refine ru 12 ?_
 refine a2o 3 ?_
 refine a1s (fun NhU1 hU1=>?_)
 refine ru 7 ?_
 refine wdc (fun hr0 hc0=>?_) (fun hr0 hc0=>?_)
 ·refine ru 10 ?_
  refine cll ((show a0q Tryz.prog 123 [a3B l,a0h p,a0h q,a0h 3] (a1z [(p:Int),(q:Int)]) from (by rw [←a1S hsg hv];exact a2N l p q 3 hl hql hpq))) ?_
  refine ru 11 ?_
  refine wdc (fun hr1 hc1=>?_) (fun hr1 hc1=>?_)
  ·refine ru 9 ?_
   refine hU1 _ ?_
   refine a1s (fun NhU2 hU2=>?_)
   refine ru 7 ?_
   refine wdc (fun hr0 hc0=>?_) (fun hr0 hc0=>?_)
   ·refine ru 10 ?_
    refine cll ((show a0q Tryz.prog 123 [a3B l,a0h p,a0h q,a0h 2] (a1z [(p:Int),(q:Int)]) from (by rw [←a1S hsg hv];exact a2N l p q 2 hl hql hpq))) ?_
    refine ru 11 ?_
    refine wdc (fun hr1 hc1=>?_) (fun hr1 hc1=>?_)
    ·refine ru 9 ?_
     refine hU2 _ ?_
     refine a1s (fun NhU3 hU3=>?_)
     refine ru 7 ?_
     refine wdc (fun hr0 hc0=>?_) (fun hr0 hc0=>?_)
     ·skip
      exfalso;simp at hr0
     refine ru 2 ?_
     refine a0d ?_
     refine ru 11 ?_
     refine rvl (a0h (kd l p)) (a9a om om) ?_
     refine ru 3 ?_
     refine wdc (fun hr4 hc4=>?_) (fun hr4 hc4=>?_)
     ·skip
      exfalso;omega
     refine ru 10 ?_
     refine rvl (a0h (kd l p)) (a9a om om) ?_
     refine ru 3 ?_
     refine wdc (fun hr5 hc5=>?_) (fun hr5 hc5=>?_)
     ·skip
      exfalso;omega
     refine ru 11 ?_
     refine a0t 124 (a0b (id:=124) (hs:=[_]) ei_128.h omx rfl omx ⟨rfl,rfl,rfl,rfl,trivial⟩) rfl rfl a0e rfl rfl (c':=cb+1) rfl ?_
     first
     | refine a0t 125 (a0a ei_128.h omy rfl omy omy (a0u rfl omy) omy rfl) rfl rfl (a0g rfl (a0C rfl)) rfl rfl (c':=cb+2) rfl ?_
     | refine a0t 125 (a0a ei_128.h omy rfl omy omy (a0G rfl omy) omy rfl) rfl rfl (a0g rfl (a0C rfl)) rfl rfl (c':=cb+2) rfl ?_
     | refine a0t 125 (a0a ei_128.h omy rfl omy omy (a0F rfl) omy rfl) rfl rfl (a0g rfl a0e) rfl rfl (c':=cb+2) rfl ?_
     | refine a0t 125 (a0a ei_128.h omy rfl omy omy (a0w 5 (fun _ _=>default) rfl) omy rfl) rfl rfl (a0g rfl a0e) rfl rfl (c':=cb+2) rfl ?_
     refine ru 4 ?_
     refine fr1 ok hX rw1 (_) (trivial) (a7B rfl rfl (by simp [T.flat])) ?_
     exact ⟨⟨_,rfl,a3V (o:=out) (x:=⟨1,0,0,(l.getD p default).name,[]⟩) rfl (by simp [T.flat]) (b1X (.imm _) (.imm _) (.imm _) (.imm _) (.nil 0 1 _ (by decide) none))⟩,trivial⟩
    exfalso;simp at hr1
   exfalso;simp at hr0
  exfalso;simp at hr1
 exfalso;simp at hr0
theorem c0I (l:List Sg) (p q:Nat) (hl:l.length≤1000) (h1:kd l p=1) (hq:q=p+1) (hql:q≤l.length) (hpq:p≤q) {v:Nat} (hv:v≤1) (hsg:Seg l v p q (.name (l.getD p default).name)):BdN l p q (.name (l.getD p default).name):=by
 intro c
 obtain ⟨cb,hcb⟩:∃ cb,cb=c+1:=⟨_,rfl⟩
 have ho:([]:List Pt).length≤2 * p:=Nat.zero_le _
 refine a0v Tryz.func95 rfl kr _ _ _ _ rfl 126 rfl rfl (fun X ok hX=>?_)
 refine ru 1 ?_
 refine a4v 0 9003 5 188 (b4R []) rfl (by decide) rfl (c':=cb) hcb.symm ?_
 refine ru 11 ?_
 refine a2o 3 ?_
 refine a1s (fun NhU1 hU1=>?_)
 refine ru 7 ?_
 refine wdc (fun hr0 hc0=>?_) (fun hr0 hc0=>?_)
 ·refine ru 10 ?_
  refine cll ((show a0q Tryz.prog 123 [a3B l,a0h p,a0h q,a0h 3] (a1z [(p:Int),(q:Int)]) from (by rw [←a1S hsg hv];exact a2N l p q 3 hl hql hpq))) ?_
  refine ru 11 ?_
  refine wdc (fun hr1 hc1=>?_) (fun hr1 hc1=>?_)
  ·refine ru 9 ?_
   refine hU1 _ ?_
   refine a1s (fun NhU2 hU2=>?_)
   refine ru 7 ?_
   refine wdc (fun hr0 hc0=>?_) (fun hr0 hc0=>?_)
   ·refine ru 10 ?_
    refine cll ((show a0q Tryz.prog 123 [a3B l,a0h p,a0h q,a0h 2] (a1z [(p:Int),(q:Int)]) from (by rw [←a1S hsg hv];exact a2N l p q 2 hl hql hpq))) ?_
    refine ru 11 ?_
    refine wdc (fun hr1 hc1=>?_) (fun hr1 hc1=>?_)
    ·refine ru 9 ?_
     refine hU2 _ ?_
     refine a1s (fun NhU3 hU3=>?_)
     refine ru 7 ?_
     refine wdc (fun hr0 hc0=>?_) (fun hr0 hc0=>?_)
     ·skip
      exfalso;simp at hr0
     refine ru 2 ?_
     refine a0d ?_
     refine ru 11 ?_
     refine rvl (a0h (kd l p)) (a9a om om) ?_
     refine ru 3 ?_
     refine wdc (fun hr4 hc4=>?_) (fun hr4 hc4=>?_)
     ·skip
      exfalso;omega
     refine ru 10 ?_
     refine rvl (a0h (kd l p)) (a9a om om) ?_
     refine ru 3 ?_
     refine wdc (fun hr5 hc5=>?_) (fun hr5 hc5=>?_)
     ·skip
      exfalso;omega
     refine ru 11 ?_
     refine a0t 124 (a0b (id:=124) (hs:=[_]) ei_128.h omx rfl omx ⟨rfl,rfl,rfl,rfl,trivial⟩) rfl rfl a0e rfl rfl (c':=cb+1) rfl ?_
     first
     | refine a0t 125 (a0a ei_128.h omy rfl omy omy (a0u rfl omy) omy rfl) rfl rfl (a0g rfl (a0C rfl)) rfl rfl (c':=cb+2) rfl ?_
     | refine a0t 125 (a0a ei_128.h omy rfl omy omy (a0G rfl omy) omy rfl) rfl rfl (a0g rfl (a0C rfl)) rfl rfl (c':=cb+2) rfl ?_
     | refine a0t 125 (a0a ei_128.h omy rfl omy omy (a0F rfl) omy rfl) rfl rfl (a0g rfl a0e) rfl rfl (c':=cb+2) rfl ?_
     | refine a0t 125 (a0a ei_128.h omy rfl omy omy (a0w 5 (fun _ _=>default) rfl) omy rfl) rfl rfl (a0g rfl a0e) rfl rfl (c':=cb+2) rfl ?_
     refine ru 4 ?_
     refine fr1 ok hX rw1 (_) (trivial) (a7B rfl rfl (by simp [T.flat])) ?_
     exact ⟨⟨_,rfl,a3V (o:=([]:List Pt)) (x:=⟨1,0,0,(l.getD p default).name,[]⟩) rfl (by simp [T.flat]) (b1X (.imm _) (.imm _) (.imm _) (.imm _) (.nil 0 1 _ (by decide) none))⟩,trivial⟩
    exfalso;simp at hr1
   exfalso;simp at hr0
  exfalso;simp at hr1
 exfalso;simp at hr0
theorem c0G (l:List Sg) (p q:Nat) (hl:l.length≤1000) (q':Nat) (t:T) (h2:kd l p=2) (h3:kd l q'=3) (hpq1:p+1 < q') (hq:q=q'+1) (hql:q≤l.length) (hpq:p≤q) {v:Nat} (hv:v≤1) (hsg:Seg l v p q t) (ih:BdC l (p+1) q' t):BdC l p q t:=by
 intro c g out ho
 obtain ⟨cb,hcb⟩:∃ cb,cb=c:=⟨_,rfl⟩
 subst hcb
 refine a0v Tryz.func95 rfl kr _ _ _ _ rfl 126 rfl rfl (fun X ok hX=>?_)
 refine ru 12 ?_
 refine a2o 3 ?_
 refine a1s (fun NhU1 hU1=>?_)
 refine ru 7 ?_
 refine wdc (fun hr0 hc0=>?_) (fun hr0 hc0=>?_)
 ·refine ru 10 ?_
  refine cll ((show a0q Tryz.prog 123 [a3B l,a0h p,a0h q,a0h 3] (a1z [(p:Int),(q:Int)]) from (by rw [←a1S hsg hv];exact a2N l p q 3 hl hql hpq))) ?_
  refine ru 11 ?_
  refine wdc (fun hr1 hc1=>?_) (fun hr1 hc1=>?_)
  ·refine ru 9 ?_
   refine hU1 _ ?_
   refine a1s (fun NhU2 hU2=>?_)
   refine ru 7 ?_
   refine wdc (fun hr0 hc0=>?_) (fun hr0 hc0=>?_)
   ·refine ru 10 ?_
    refine cll ((show a0q Tryz.prog 123 [a3B l,a0h p,a0h q,a0h 2] (a1z [(p:Int),(q:Int)]) from (by rw [←a1S hsg hv];exact a2N l p q 2 hl hql hpq))) ?_
    refine ru 11 ?_
    refine wdc (fun hr1 hc1=>?_) (fun hr1 hc1=>?_)
    ·refine ru 9 ?_
     refine hU2 _ ?_
     refine a1s (fun NhU3 hU3=>?_)
     refine ru 7 ?_
     refine wdc (fun hr0 hc0=>?_) (fun hr0 hc0=>?_)
     ·skip
      exfalso;simp at hr0
     refine ru 2 ?_
     refine a0d ?_
     refine ru 11 ?_
     refine rvl (a0h (kd l q')) (a9a om om) ?_
     refine ru 3 ?_
     refine wdc (fun hr4 hc4=>?_) (fun hr4 hc4=>?_)
     ·skip
      exfalso;omega
     refine ru 10 ?_
     refine rvl (a0h (kd l p)) (a9a om om) ?_
     refine ru 3 ?_
     refine wdc (fun hr5 hc5=>?_) (fun hr5 hc5=>?_)
     ·refine ru 6 ?_
      refine rvl (a0h ((p+1:Nat):Int)) (rfl) ?_
      refine ru 2 ?_
      refine rvl (a0h (q':Int)) (by rw [show (q:Int) - 1=(q':Int) by omega]) ?_
      refine a0l 116 (xs:=[_,_,_,_]) (pre:=[(9003,_)]) (ih _ g out om) ⟨rfl,⟨rfl,⟨rfl,⟨rfl,trivial⟩⟩⟩⟩ (a0g rfl a0e) rfl rfl (fun g3 c1 hx1=>?_)
      (try dsimp only)
      refine ru 5 ?_
      refine fr1 ok hX rw1 (g3) (trivial) (kza) ?_
      exact ⟨⟨_,rfl,.of (fun i j _ _=>.fz _ _ (b1t _ j))⟩,trivial⟩
     exfalso;omega
    exfalso;simp at hr1
   exfalso;simp at hr0
  exfalso;simp at hr1
 exfalso;simp at hr0
theorem b6v (l:List Sg) (p q:Nat) (hl:l.length≤1000) (q':Nat) (t:T) (h2:kd l p=2) (h3:kd l q'=3) (hpq1:p+1 < q') (hq:q=q'+1) (hql:q≤l.length) (hpq:p≤q) {v:Nat} (hv:v≤1) (hsg:Seg l v p q t) (ih:BdC l (p+1) q' t):BdN l p q t:=by
 intro c
 obtain ⟨cb,hcb⟩:∃ cb,cb=c+1:=⟨_,rfl⟩
 have ho:([]:List Pt).length≤2 * p:=Nat.zero_le _
 refine a0v Tryz.func95 rfl kr _ _ _ _ rfl 126 rfl rfl (fun X ok hX=>?_)
 refine ru 1 ?_
 refine a4v 0 9003 5 188 (b4R []) rfl (by decide) rfl (c':=cb) hcb.symm ?_
 refine ru 11 ?_
 refine a2o 3 ?_
 refine a1s (fun NhU1 hU1=>?_)
 refine ru 7 ?_
 refine wdc (fun hr0 hc0=>?_) (fun hr0 hc0=>?_)
 ·refine ru 10 ?_
  refine cll ((show a0q Tryz.prog 123 [a3B l,a0h p,a0h q,a0h 3] (a1z [(p:Int),(q:Int)]) from (by rw [←a1S hsg hv];exact a2N l p q 3 hl hql hpq))) ?_
  refine ru 11 ?_
  refine wdc (fun hr1 hc1=>?_) (fun hr1 hc1=>?_)
  ·refine ru 9 ?_
   refine hU1 _ ?_
   refine a1s (fun NhU2 hU2=>?_)
   refine ru 7 ?_
   refine wdc (fun hr0 hc0=>?_) (fun hr0 hc0=>?_)
   ·refine ru 10 ?_
    refine cll ((show a0q Tryz.prog 123 [a3B l,a0h p,a0h q,a0h 2] (a1z [(p:Int),(q:Int)]) from (by rw [←a1S hsg hv];exact a2N l p q 2 hl hql hpq))) ?_
    refine ru 11 ?_
    refine wdc (fun hr1 hc1=>?_) (fun hr1 hc1=>?_)
    ·refine ru 9 ?_
     refine hU2 _ ?_
     refine a1s (fun NhU3 hU3=>?_)
     refine ru 7 ?_
     refine wdc (fun hr0 hc0=>?_) (fun hr0 hc0=>?_)
     ·skip
      exfalso;simp at hr0
     refine ru 2 ?_
     refine a0d ?_
     refine ru 11 ?_
     refine rvl (a0h (kd l q')) (a9a om om) ?_
     refine ru 3 ?_
     refine wdc (fun hr4 hc4=>?_) (fun hr4 hc4=>?_)
     ·skip
      exfalso;omega
     refine ru 10 ?_
     refine rvl (a0h (kd l p)) (a9a om om) ?_
     refine ru 3 ?_
     refine wdc (fun hr5 hc5=>?_) (fun hr5 hc5=>?_)
     ·refine ru 6 ?_
      refine rvl (a0h ((p+1:Nat):Int)) (rfl) ?_
      refine ru 2 ?_
      refine rvl (a0h (q':Int)) (by rw [show (q:Int) - 1=(q':Int) by omega]) ?_
      refine a0l 116 (xs:=[_,_,_,_]) (pre:=[(9003,_)]) (ih _ c ([]:List Pt) om) ⟨rfl,⟨rfl,⟨rfl,⟨rfl,trivial⟩⟩⟩⟩ (a0g rfl a0e) rfl rfl (fun g3 c1 hx1=>?_)
      (try dsimp only)
      refine ru 5 ?_
      refine fr1 ok hX rw1 (g3) (trivial) (kza) ?_
      exact ⟨⟨_,rfl,.of (fun i j _ _=>.fz _ _ (b1t _ j))⟩,trivial⟩
     exfalso;omega
    exfalso;simp at hr1
   exfalso;simp at hr0
  exfalso;simp at hr1
 exfalso;simp at hr0
theorem b9N (l:List Sg) (p q:Nat) (hl:l.length≤1000) (q':Nat) (t:T) (h5:kd l q'=5) (hs0:Seg l 0 p q' t) (hpq1:p < q') (hq:q=q'+1) (hql:q≤l.length) (hpq:p≤q) {v:Nat} (hv:v≤1) (hsg:Seg l v p q (.times (l.getD q' default).low (l.getD q' default).high t)) (ih:BdC l p q' t):BdC l p q (.times (l.getD q' default).low (l.getD q' default).high t):=by
 intro c g out ho
 obtain ⟨cb,hcb⟩:∃ cb,cb=c:=⟨_,rfl⟩
 subst hcb
 refine a0v Tryz.func95 rfl kr _ _ _ _ rfl 126 rfl rfl (fun X ok hX=>?_)
 refine ru 12 ?_
 refine a2o 3 ?_
 refine a1s (fun NhU1 hU1=>?_)
 refine ru 7 ?_
 refine wdc (fun hr0 hc0=>?_) (fun hr0 hc0=>?_)
 ·refine ru 10 ?_
  refine cll ((show a0q Tryz.prog 123 [a3B l,a0h p,a0h q,a0h 3] (a1z [(p:Int),(q:Int)]) from (by rw [←a1S hsg hv];exact a2N l p q 3 hl hql hpq))) ?_
  refine ru 11 ?_
  refine wdc (fun hr1 hc1=>?_) (fun hr1 hc1=>?_)
  ·refine ru 9 ?_
   refine hU1 _ ?_
   refine a1s (fun NhU2 hU2=>?_)
   refine ru 7 ?_
   refine wdc (fun hr0 hc0=>?_) (fun hr0 hc0=>?_)
   ·refine ru 10 ?_
    refine cll ((show a0q Tryz.prog 123 [a3B l,a0h p,a0h q,a0h 2] (a1z [(p:Int),(q:Int)]) from (by rw [←a1S hsg hv];exact a2N l p q 2 hl hql hpq))) ?_
    refine ru 11 ?_
    refine wdc (fun hr1 hc1=>?_) (fun hr1 hc1=>?_)
    ·refine ru 9 ?_
     refine hU2 _ ?_
     refine a1s (fun NhU3 hU3=>?_)
     refine ru 7 ?_
     refine wdc (fun hr0 hc0=>?_) (fun hr0 hc0=>?_)
     ·skip
      exfalso;simp at hr0
     refine ru 2 ?_
     refine a0d ?_
     refine ru 11 ?_
     refine rvl (a0h (kd l q')) (a9a om om) ?_
     refine ru 3 ?_
     refine wdc (fun hr4 hc4=>?_) (fun hr4 hc4=>?_)
     ·refine ru 7 ?_
      refine rvl (a0h (q':Int)) (by rw [show (q:Int) - 1=(q':Int) by omega]) ?_
      refine a0l 83 (xs:=[_,_,_,_]) (pre:=[(9003,_)]) (ih _ g out ho) ⟨rfl,⟨rfl,⟨rfl,⟨rfl,trivial⟩⟩⟩⟩ (a0g rfl a0e) rfl rfl (fun g3 c1 hx1=>?_)
      (try dsimp only)
      refine ru 4 ?_
      have hfl:=T.flat_len out.length t;have hsz:=a3b hs0;have hol:(out++T.flat out.length t).length=out.length+t.size:=(by rw [List.length_append,hfl])
      refine ru 7 ?_
      first
      | refine a3K 90 (HOp.val (v':=a0h (l.getD q' default).low) (a0A ty_3.h rfl omy omy (fun h=>(by first | rfl | cases h))) (by rw [show ((q:Int) - 1).toNat=q' by omega];rfl)) rfl rfl (a0C rfl) rfl rfl (k':=7) rfl ?_
      | refine a3K 90 (HOp.val (v':=a0h (l.getD q' default).low) (a0o ty_3.h rfl omy (fun h=>(by first | rfl | cases h))) (by rw [show ((q:Int) - 1).toNat=q' by omega];rfl)) rfl rfl a0e rfl rfl (k':=7) rfl ?_
      refine ru 5 ?_
      first
      | refine a3K 96 (HOp.val (v':=a0h (l.getD q' default).high) (a0A ty_3.h rfl omy omy (fun h=>(by first | rfl | cases h))) (by rw [show ((q:Int) - 1).toNat=q' by omega];rfl)) rfl rfl (a0C rfl) rfl rfl (k':=13) rfl ?_
      | refine a3K 96 (HOp.val (v':=a0h (l.getD q' default).high) (a0o ty_3.h rfl omy (fun h=>(by first | rfl | cases h))) (by rw [show ((q:Int) - 1).toNat=q' by omega];rfl)) rfl rfl a0e rfl rfl (k':=13) rfl ?_
      refine ru 3 ?_
      refine a2f 100 (a0b (id:=100) (hs:=[_]) ei_104.h omx rfl omx ⟨rfl,rfl,rfl,rfl,trivial⟩) rfl rfl a0e rfl rfl (k':=17) rfl ?_
      refine ru 1 ?_
      refine a2f 102 (a0b (id:=102) (hs:=[_]) ei_128.h omx rfl omx ⟨rfl,rfl,rfl,rfl,trivial⟩) rfl rfl a0e rfl rfl (k':=19) rfl ?_
      first
      | refine a2f 103 (a0a ei_128.h omy rfl omy omy (a0u rfl omy) omy rfl) rfl rfl (a0g rfl (a0C rfl)) rfl rfl (k':=20) rfl ?_
      | refine a2f 103 (a0a ei_128.h omy rfl omy omy (a0G rfl omy) omy rfl) rfl rfl (a0g rfl (a0C rfl)) rfl rfl (k':=20) rfl ?_
      | refine a2f 103 (a0a ei_128.h omy rfl omy omy (a0F rfl) omy rfl) rfl rfl (a0g rfl a0e) rfl rfl (k':=20) rfl ?_
      | refine a2f 103 (a0a ei_128.h omy rfl omy omy (a0w 5 (fun _ _=>default) rfl) omy rfl) rfl rfl (a0g rfl a0e) rfl rfl (k':=20) rfl ?_
      refine ru 5 ?_
      refine a1F ok hX a3m.one rfl (a0r rfl) [(100,_)] rfl (a0g rfl a0e) (_) (trivial) (by rfl) (by rfl) (a7B rfl rfl (by first | (simp [T.flat];done) | (simp [T.flat];omega))) ?_
      exact ⟨⟨_,rfl,a3V (o:=out++T.flat out.length t) (x:=⟨4,(l.getD q' default).low,(l.getD q' default).high,[],[((out.length+t.size:Nat):Int) - 1]⟩) rfl (by first | (simp only [T.flat,List.append_assoc];done) | (simp [T.flat];done) | rfl) (b1X (.imm _) (.imm _) (.imm _) (.imm _) (a1x (l:=[((out.length+t.size:Nat):Int) - 1]) (enc:=fun x _=>a0h x) (d:=0) (List.mem_cons_self ..) rfl rfl (Nat.le_refl _) (fun i j hi hj=>by obtain rfl:i=0:=(by simpa using hi);exact b2n (by rw [List.length_append,hfl];rfl))))⟩,trivial⟩
     exfalso;omega
    exfalso;simp at hr1
   exfalso;simp at hr0
  exfalso;simp at hr1
 exfalso;simp at hr0
theorem b8j (l:List Sg) (p q:Nat) (hl:l.length≤1000) (q':Nat) (t:T) (h5:kd l q'=5) (hs0:Seg l 0 p q' t) (hpq1:p < q') (hq:q=q'+1) (hql:q≤l.length) (hpq:p≤q) {v:Nat} (hv:v≤1) (hsg:Seg l v p q (.times (l.getD q' default).low (l.getD q' default).high t)) (ih:BdC l p q' t):BdN l p q (.times (l.getD q' default).low (l.getD q' default).high t):=by
 intro c
 obtain ⟨cb,hcb⟩:∃ cb,cb=c+1:=⟨_,rfl⟩
 have ho:([]:List Pt).length≤2 * p:=Nat.zero_le _
 refine a0v Tryz.func95 rfl kr _ _ _ _ rfl 126 rfl rfl (fun X ok hX=>?_)
 refine ru 1 ?_
 refine a4v 0 9003 5 188 (b4R []) rfl (by decide) rfl (c':=cb) hcb.symm ?_
 refine ru 11 ?_
 refine a2o 3 ?_
 refine a1s (fun NhU1 hU1=>?_)
 refine ru 7 ?_
 refine wdc (fun hr0 hc0=>?_) (fun hr0 hc0=>?_)
 ·refine ru 10 ?_
  refine cll ((show a0q Tryz.prog 123 [a3B l,a0h p,a0h q,a0h 3] (a1z [(p:Int),(q:Int)]) from (by rw [←a1S hsg hv];exact a2N l p q 3 hl hql hpq))) ?_
  refine ru 11 ?_
  refine wdc (fun hr1 hc1=>?_) (fun hr1 hc1=>?_)
  ·refine ru 9 ?_
   refine hU1 _ ?_
   refine a1s (fun NhU2 hU2=>?_)
   refine ru 7 ?_
   refine wdc (fun hr0 hc0=>?_) (fun hr0 hc0=>?_)
   ·refine ru 10 ?_
    refine cll ((show a0q Tryz.prog 123 [a3B l,a0h p,a0h q,a0h 2] (a1z [(p:Int),(q:Int)]) from (by rw [←a1S hsg hv];exact a2N l p q 2 hl hql hpq))) ?_
    refine ru 11 ?_
    refine wdc (fun hr1 hc1=>?_) (fun hr1 hc1=>?_)
    ·refine ru 9 ?_
     refine hU2 _ ?_
     refine a1s (fun NhU3 hU3=>?_)
     refine ru 7 ?_
     refine wdc (fun hr0 hc0=>?_) (fun hr0 hc0=>?_)
     ·skip
      exfalso;simp at hr0
     refine ru 2 ?_
     refine a0d ?_
     refine ru 11 ?_
     refine rvl (a0h (kd l q')) (a9a om om) ?_
     refine ru 3 ?_
     refine wdc (fun hr4 hc4=>?_) (fun hr4 hc4=>?_)
     ·refine ru 7 ?_
      refine rvl (a0h (q':Int)) (by rw [show (q:Int) - 1=(q':Int) by omega]) ?_
      refine a0l 83 (xs:=[_,_,_,_]) (pre:=[(9003,_)]) (ih _ c ([]:List Pt) ho) ⟨rfl,⟨rfl,⟨rfl,⟨rfl,trivial⟩⟩⟩⟩ (a0g rfl a0e) rfl rfl (fun g3 c1 hx1=>?_)
      (try dsimp only)
      refine ru 4 ?_
      have hfl:=T.flat_len ([]:List Pt).length t;have hsz:=a3b hs0;have hol:(([]:List Pt)++T.flat ([]:List Pt).length t).length=([]:List Pt).length+t.size:=(by rw [List.length_append,hfl])
      refine ru 7 ?_
      first
      | refine a3K 90 (HOp.val (v':=a0h (l.getD q' default).low) (a0A ty_3.h rfl omy omy (fun h=>(by first | rfl | cases h))) (by rw [show ((q:Int) - 1).toNat=q' by omega];rfl)) rfl rfl (a0C rfl) rfl rfl (k':=7) rfl ?_
      | refine a3K 90 (HOp.val (v':=a0h (l.getD q' default).low) (a0o ty_3.h rfl omy (fun h=>(by first | rfl | cases h))) (by rw [show ((q:Int) - 1).toNat=q' by omega];rfl)) rfl rfl a0e rfl rfl (k':=7) rfl ?_
      refine ru 5 ?_
      first
      | refine a3K 96 (HOp.val (v':=a0h (l.getD q' default).high) (a0A ty_3.h rfl omy omy (fun h=>(by first | rfl | cases h))) (by rw [show ((q:Int) - 1).toNat=q' by omega];rfl)) rfl rfl (a0C rfl) rfl rfl (k':=13) rfl ?_
      | refine a3K 96 (HOp.val (v':=a0h (l.getD q' default).high) (a0o ty_3.h rfl omy (fun h=>(by first | rfl | cases h))) (by rw [show ((q:Int) - 1).toNat=q' by omega];rfl)) rfl rfl a0e rfl rfl (k':=13) rfl ?_
      refine ru 3 ?_
      refine a2f 100 (a0b (id:=100) (hs:=[_]) ei_104.h omx rfl omx ⟨rfl,rfl,rfl,rfl,trivial⟩) rfl rfl a0e rfl rfl (k':=17) rfl ?_
      refine ru 1 ?_
      refine a2f 102 (a0b (id:=102) (hs:=[_]) ei_128.h omx rfl omx ⟨rfl,rfl,rfl,rfl,trivial⟩) rfl rfl a0e rfl rfl (k':=19) rfl ?_
      first
      | refine a2f 103 (a0a ei_128.h omy rfl omy omy (a0u rfl omy) omy rfl) rfl rfl (a0g rfl (a0C rfl)) rfl rfl (k':=20) rfl ?_
      | refine a2f 103 (a0a ei_128.h omy rfl omy omy (a0G rfl omy) omy rfl) rfl rfl (a0g rfl (a0C rfl)) rfl rfl (k':=20) rfl ?_
      | refine a2f 103 (a0a ei_128.h omy rfl omy omy (a0F rfl) omy rfl) rfl rfl (a0g rfl a0e) rfl rfl (k':=20) rfl ?_
      | refine a2f 103 (a0a ei_128.h omy rfl omy omy (a0w 5 (fun _ _=>default) rfl) omy rfl) rfl rfl (a0g rfl a0e) rfl rfl (k':=20) rfl ?_
      refine ru 5 ?_
      refine a1F ok hX a3m.one rfl (a0r rfl) [(100,_)] rfl (a0g rfl a0e) (_) (trivial) (by rfl) (by rfl) (a7B rfl rfl (by first | (simp [T.flat];done) | (simp [T.flat];omega))) ?_
      exact ⟨⟨_,rfl,a3V (o:=([]:List Pt)++T.flat ([]:List Pt).length t) (x:=⟨4,(l.getD q' default).low,(l.getD q' default).high,[],[((([]:List Pt).length+t.size:Nat):Int) - 1]⟩) rfl (by first | (simp only [T.flat,List.append_assoc];done) | (simp [T.flat];done) | rfl) (b1X (.imm _) (.imm _) (.imm _) (.imm _) (a1x (l:=[((([]:List Pt).length+t.size:Nat):Int) - 1]) (enc:=fun x _=>a0h x) (d:=0) (List.mem_cons_self ..) rfl rfl (Nat.le_refl _) (fun i j hi hj=>by obtain rfl:i=0:=(by simpa using hi);exact b2n (by rw [List.length_append,hfl];rfl))))⟩,trivial⟩
     exfalso;omega
    exfalso;simp at hr1
   exfalso;simp at hr0
  exfalso;simp at hr1
 exfalso;simp at hr0
theorem c4T (l:List Sg) (p q:Nat) (hl:l.length≤1000) (ts:List T) (B:List Int) (m:Nat) (s e:Nat→Nat) (hC:Cuts l B m p q ts s e) (hql:q≤l.length) (hpq:p≤q) (ih:∀ i,i < ts.length→BdC l (s i) (e i) (ts.getD i default)) (hsg:Seg l 2 p q (.many 2 ts)) (hB:B=a3n l p q 2 p [(p:Int)]++[(q:Int)]) (hend:∀ i,i < m→B.getD (i+1) 0=(e i:Int)):BdC l p q (.many 2 ts):=by
 intro c g out ho
 obtain ⟨cb,hcb⟩:∃ cb,cb=c:=⟨_,rfl⟩
 subst hcb
 have hCl:=hC.hlen
 have hCm:=hC.hm
 have hC2:=hC.htwo
 have hCb:=hC.hmb
 refine a0v Tryz.func95 rfl kr _ _ _ _ rfl 126 rfl rfl (fun X ok hX=>?_)
 refine ru 12 ?_
 refine a2o 3 ?_
 refine a1s (fun NhU1 hU1=>?_)
 refine ru 7 ?_
 refine wdc (fun hr0 hc0=>?_) (fun hr0 hc0=>?_)
 ·refine ru 10 ?_
  refine cll ((show a0q Tryz.prog 123 [a3B l,a0h p,a0h q,a0h 3] (a1z [(p:Int),(q:Int)]) from (by rw [←b1S hsg];exact a2N l p q 3 hl hql hpq))) ?_
  refine ru 11 ?_
  refine wdc (fun hr1 hc1=>?_) (fun hr1 hc1=>?_)
  ·refine ru 9 ?_
   refine hU1 _ ?_
   refine a1s (fun NhU2 hU2=>?_)
   refine ru 7 ?_
   refine wdc (fun hr0 hc0=>?_) (fun hr0 hc0=>?_)
   ·refine ru 10 ?_
    refine cll ((show a0q Tryz.prog 123 [a3B l,a0h p,a0h q,a0h 2] (a1z B) from (by rw [hB];exact a2N l p q 2 hl hql hpq))) ?_
    refine ru 11 ?_
    refine wdc (fun hr1 hc1=>?_) (fun hr1 hc1=>?_)
    ·skip
     exfalso;omega
    refine ru 17 ?_
    refine (a1q 11 4 7001 1 3 (a3q []) (a7w 2 (cb+2) 0) rfl rfl (fun j hj=>by match j,hj with | 0,_=>exact .inr rfl | 1,_=>exact .inr rfl | 2,_=>exact .inr rfl | 3,_=>exact .inr rfl | 4,_=>exact .inl ⟨rfl,rfl⟩) (by decide) (by decide) (c':=cb+3) rfl).wp ?_
    refine a0n (α:=Nat×List Pt×List Int×Nat×Nat) (fun x c=>⟨126,[(0,.v (.os 9003 x.2.2.2.1 0 x.2.1.length)),(1,.v (a3B l)),(2,.v (a0h p)),(3,.v (a0h q)),(9,.v (a0h 2)),(10,.v (a1z B)),(11,.v (.pt 11 cb 0 0)),(12,.v (a0h x.1))],[(9003,c3J x.2.2.2.1 x.2.1),(11,⟨cb,1,5,188,0,a7w 2 x.2.2.2.2 x.2.2.1.length⟩),(7001,⟨x.2.2.2.2,x.2.2.1.length,1,3,0,a3q x.2.2.1⟩)],c⟩) (fun x=>KidI ts out x.1 x.2.1 x.2.2.1) (fun x=>m - x.1) ((0,out,[],g,cb+2)) (by exact ⟨Nat.zero_le _,by simp [T.flatL],rfl⟩) (a0c rfl (Nat.le_refl _) tsa (hsr rfl (a0k.cons rfl (by exact a7z (.refl _) (.refl _) (.refl _) (.refl _) (.refl _)) hsa))) (fun x c hx NhL3 hL3=>?_)
    revert hx hL3;obtain ⟨i,o,ks,gg,gk⟩:=x;intro hx hL3;dsimp only at hx hL3 ⊢
    obtain ⟨hI1,hI2,hI3⟩:=hx
    have hI:KidI ts out i o ks:=⟨hI1,hI2,hI3⟩;have hkl:=a9N hI
    refine ru 10 ?_
    refine wdc (fun hr2 hc2=>?_) (fun hr2 hc2=>?_)
    ·skip
     have him:i < ts.length:=om;have hin:=hC.hle i om;have hou:=hC.hout i om;have hsz:=hC.hsz i om
     refine ru 11 ?_
     refine rvl (a0h (e i:Int)) (by exact a2c om (hend i om)) ?_
     refine ru 17 ?_
     refine wdc (fun hr3 hc3=>?_) (fun hr3 hc3=>?_)
     ·skip
      exfalso;simp at hr3
     refine ru 10 ?_
     refine rvl (a0h (s i:Int)) (by exact a2c om (hC.hat i om)) ?_
     refine ru 1 ?_
     refine a0l 58 (xs:=[_,_,_,_]) (pre:=[(9003,_)]) (ih i him _ gg o om) ⟨rfl,⟨rfl,⟨rfl,⟨rfl,trivial⟩⟩⟩⟩ (a0g rfl a0e) rfl rfl (fun g3 c1 hx1=>?_)
     (try dsimp only)
     refine ru 3 ?_
     have hol:(o++T.flat o.length (ts.getD i default)).length=o.length+(ts.getD i default).size:=(by rw [List.length_append,T.flat_len])
     refine ru 6 ?_
     refine a0t 64 (a0b (id:=64) (hs:=[_]) ei_104.h omx rfl omx ⟨rfl,rfl,rfl,rfl,trivial⟩) rfl rfl a0e rfl rfl (c':=c1+1) rfl ?_
     first
     | refine a0t 65 (a0a ei_104.h omy rfl omy omy (a0u rfl omy) omy rfl) rfl rfl (a0g rfl (a0C rfl)) rfl rfl (c':=c1+2) rfl ?_
     | refine a0t 65 (a0a ei_104.h omy rfl omy omy (a0G rfl omy) omy rfl) rfl rfl (a0g rfl (a0C rfl)) rfl rfl (c':=c1+2) rfl ?_
     | refine a0t 65 (a0a ei_104.h omy rfl omy omy (a0F rfl) omy rfl) rfl rfl (a0g rfl a0e) rfl rfl (c':=c1+2) rfl ?_
     | refine a0t 65 (a0a ei_104.h omy rfl omy omy (a0w 1 (fun _ _=>default) rfl) omy rfl) rfl rfl (a0g rfl a0e) rfl rfl (c':=c1+2) rfl ?_
     refine ru 10 ?_
     exact hL3 ((i+1,o++T.flat o.length (ts.getD i default),ks++[T.root o.length (ts.getD i default)],g3,c1+1)) _ _ (by (try dsimp only);exact a5v hI him) (by (try dsimp only);omega) (a0c rfl (Nat.le_refl _) tsa (hsr rfl (a0k.cons rfl (by exact a7z (.refl _) (.refl _) (.refl _) (.refl _) (a1N (by simp))) (a0k.cons rfl (a0x (enc:=fun x _=>a0h x) (d:=0) rfl (fun i j _ _=>.refl _) (fun j hj=>by exact a0Y (by rw [List.length_append,T.flat_len];rfl))) a0k.nil))))
    have hit:i=ts.length:=om;have hal:=hC.hall;have hol2:o.length=out.length+T.sizeL ts:=(by rw [hkl.1,hit,List.take_length])
    refine ru 2 ?_
    refine a0d ?_
    refine ru 6 ?_
    refine (a2F 68 [(7001,_)] rfl (a0g rfl a0e) rfl ((show Fz [(7001,⟨gk,ks.length,1,3,0,a3q ks⟩)] (.agg 5 (a7w 2 gk ks.length 0)) (ptH ⟨2,0,0,[],ks⟩) from a1i (.imm _) (.imm _) (.imm _) (.imm _) (b0l rfl)))).seq ?_
    refine a0t 69 (a0b (id:=69) (hs:=[_]) ei_128.h omx rfl omx ⟨rfl,rfl,rfl,rfl,trivial⟩) rfl rfl a0e rfl rfl (c':=c+1) rfl ?_
    first
    | refine a0t 70 (a0a ei_128.h omy rfl omy omy (a0u rfl omy) omy rfl) rfl rfl (a0g rfl (a0C rfl)) rfl rfl (c':=c+2) rfl ?_
    | refine a0t 70 (a0a ei_128.h omy rfl omy omy (a0G rfl omy) omy rfl) rfl rfl (a0g rfl (a0C rfl)) rfl rfl (c':=c+2) rfl ?_
    | refine a0t 70 (a0a ei_128.h omy rfl omy omy (a0F rfl) omy rfl) rfl rfl (a0g rfl a0e) rfl rfl (c':=c+2) rfl ?_
    | refine a0t 70 (a0a ei_128.h omy rfl omy omy (a0w 5 (fun _ _=>default) rfl) omy rfl) rfl rfl (a0g rfl a0e) rfl rfl (c':=c+2) rfl ?_
    refine ru 6 ?_
    refine a0f ?_
    refine ru 2 ?_
    refine fr1 ok hX rw1 (_) (trivial) (a7B rfl rfl (by have e:=congrArg List.length (a3X (k:=2) hI hit);rw [List.length_append] at e;exact e)) ?_
    exact ⟨⟨_,rfl,a3V (o:=o) (x:=⟨2,0,0,[],ks⟩) rfl (a3X hI hit) (b1X (.imm _) (.imm _) (.imm _) (.imm _) (.sl _ _ _ _ fun i j _ _=>.imm _))⟩,trivial⟩
   exfalso;simp at hr0
  exfalso;simp at hr1
 exfalso;simp at hr0
theorem c1T (l:List Sg) (p q:Nat) (hl:l.length≤1000) (ts:List T) (B:List Int) (m:Nat) (s e:Nat→Nat) (hC:Cuts l B m p q ts s e) (hql:q≤l.length) (hpq:p≤q) (ih:∀ i,i < ts.length→BdC l (s i) (e i) (ts.getD i default)) (hsg:Seg l 2 p q (.many 2 ts)) (hB:B=a3n l p q 2 p [(p:Int)]++[(q:Int)]) (hend:∀ i,i < m→B.getD (i+1) 0=(e i:Int)):BdN l p q (.many 2 ts):=by
 intro c
 obtain ⟨cb,hcb⟩:∃ cb,cb=c+1:=⟨_,rfl⟩
 have ho:([]:List Pt).length≤2 * p:=Nat.zero_le _
 have hCl:=hC.hlen
 have hCm:=hC.hm
 have hC2:=hC.htwo
 have hCb:=hC.hmb
 refine a0v Tryz.func95 rfl kr _ _ _ _ rfl 126 rfl rfl (fun X ok hX=>?_)
 refine ru 1 ?_
 refine a4v 0 9003 5 188 (b4R []) rfl (by decide) rfl (c':=cb) hcb.symm ?_
 refine ru 11 ?_
 refine a2o 3 ?_
 refine a1s (fun NhU1 hU1=>?_)
 refine ru 7 ?_
 refine wdc (fun hr0 hc0=>?_) (fun hr0 hc0=>?_)
 ·refine ru 10 ?_
  refine cll ((show a0q Tryz.prog 123 [a3B l,a0h p,a0h q,a0h 3] (a1z [(p:Int),(q:Int)]) from (by rw [←b1S hsg];exact a2N l p q 3 hl hql hpq))) ?_
  refine ru 11 ?_
  refine wdc (fun hr1 hc1=>?_) (fun hr1 hc1=>?_)
  ·refine ru 9 ?_
   refine hU1 _ ?_
   refine a1s (fun NhU2 hU2=>?_)
   refine ru 7 ?_
   refine wdc (fun hr0 hc0=>?_) (fun hr0 hc0=>?_)
   ·refine ru 10 ?_
    refine cll ((show a0q Tryz.prog 123 [a3B l,a0h p,a0h q,a0h 2] (a1z B) from (by rw [hB];exact a2N l p q 2 hl hql hpq))) ?_
    refine ru 11 ?_
    refine wdc (fun hr1 hc1=>?_) (fun hr1 hc1=>?_)
    ·skip
     exfalso;omega
    refine ru 17 ?_
    refine (a1q 11 4 7001 1 3 (a3q []) (a7w 2 (cb+2) 0) rfl rfl (fun j hj=>by match j,hj with | 0,_=>exact .inr rfl | 1,_=>exact .inr rfl | 2,_=>exact .inr rfl | 3,_=>exact .inr rfl | 4,_=>exact .inl ⟨rfl,rfl⟩) (by decide) (by decide) (c':=cb+3) rfl).wp ?_
    refine a0n (α:=Nat×List Pt×List Int×Nat×Nat) (fun x c=>⟨126,[(0,.v (.os 9003 x.2.2.2.1 0 x.2.1.length)),(1,.v (a3B l)),(2,.v (a0h p)),(3,.v (a0h q)),(9,.v (a0h 2)),(10,.v (a1z B)),(11,.v (.pt 11 cb 0 0)),(12,.v (a0h x.1))],[(9003,c3J x.2.2.2.1 x.2.1),(11,⟨cb,1,5,188,0,a7w 2 x.2.2.2.2 x.2.2.1.length⟩),(7001,⟨x.2.2.2.2,x.2.2.1.length,1,3,0,a3q x.2.2.1⟩)],c⟩) (fun x=>KidI ts ([]:List Pt) x.1 x.2.1 x.2.2.1) (fun x=>m - x.1) ((0,([]:List Pt),[],c,cb+2)) (by exact ⟨Nat.zero_le _,by simp [T.flatL],rfl⟩) (a0c rfl (Nat.le_refl _) tsa (hsr rfl (a0k.cons rfl (by exact a7z (.refl _) (.refl _) (.refl _) (.refl _) (.refl _)) hsa))) (fun x c hx NhL3 hL3=>?_)
    revert hx hL3;obtain ⟨i,o,ks,gg,gk⟩:=x;intro hx hL3;dsimp only at hx hL3 ⊢
    obtain ⟨hI1,hI2,hI3⟩:=hx
    have hI:KidI ts ([]:List Pt) i o ks:=⟨hI1,hI2,hI3⟩;have hkl:=a9N hI
    refine ru 10 ?_
    refine wdc (fun hr2 hc2=>?_) (fun hr2 hc2=>?_)
    ·skip
     have him:i < ts.length:=om;have hin:=hC.hle i om;have hou:=hC.hout i om;have hsz:=hC.hsz i om
     refine ru 11 ?_
     refine rvl (a0h (e i:Int)) (by exact a2c om (hend i om)) ?_
     refine ru 17 ?_
     refine wdc (fun hr3 hc3=>?_) (fun hr3 hc3=>?_)
     ·skip
      exfalso;simp at hr3
     refine ru 10 ?_
     refine rvl (a0h (s i:Int)) (by exact a2c om (hC.hat i om)) ?_
     refine ru 1 ?_
     refine a0l 58 (xs:=[_,_,_,_]) (pre:=[(9003,_)]) (ih i him _ gg o om) ⟨rfl,⟨rfl,⟨rfl,⟨rfl,trivial⟩⟩⟩⟩ (a0g rfl a0e) rfl rfl (fun g3 c1 hx1=>?_)
     (try dsimp only)
     refine ru 3 ?_
     have hol:(o++T.flat o.length (ts.getD i default)).length=o.length+(ts.getD i default).size:=(by rw [List.length_append,T.flat_len])
     refine ru 6 ?_
     refine a0t 64 (a0b (id:=64) (hs:=[_]) ei_104.h omx rfl omx ⟨rfl,rfl,rfl,rfl,trivial⟩) rfl rfl a0e rfl rfl (c':=c1+1) rfl ?_
     first
     | refine a0t 65 (a0a ei_104.h omy rfl omy omy (a0u rfl omy) omy rfl) rfl rfl (a0g rfl (a0C rfl)) rfl rfl (c':=c1+2) rfl ?_
     | refine a0t 65 (a0a ei_104.h omy rfl omy omy (a0G rfl omy) omy rfl) rfl rfl (a0g rfl (a0C rfl)) rfl rfl (c':=c1+2) rfl ?_
     | refine a0t 65 (a0a ei_104.h omy rfl omy omy (a0F rfl) omy rfl) rfl rfl (a0g rfl a0e) rfl rfl (c':=c1+2) rfl ?_
     | refine a0t 65 (a0a ei_104.h omy rfl omy omy (a0w 1 (fun _ _=>default) rfl) omy rfl) rfl rfl (a0g rfl a0e) rfl rfl (c':=c1+2) rfl ?_
     refine ru 10 ?_
     exact hL3 ((i+1,o++T.flat o.length (ts.getD i default),ks++[T.root o.length (ts.getD i default)],g3,c1+1)) _ _ (by (try dsimp only);exact a5v hI him) (by (try dsimp only);omega) (a0c rfl (Nat.le_refl _) tsa (hsr rfl (a0k.cons rfl (by exact a7z (.refl _) (.refl _) (.refl _) (.refl _) (a1N (by simp))) (a0k.cons rfl (a0x (enc:=fun x _=>a0h x) (d:=0) rfl (fun i j _ _=>.refl _) (fun j hj=>by exact a0Y (by rw [List.length_append,T.flat_len];rfl))) a0k.nil))))
    have hit:i=ts.length:=om;have hal:=hC.hall;have hol2:o.length=([]:List Pt).length+T.sizeL ts:=(by rw [hkl.1,hit,List.take_length])
    refine ru 2 ?_
    refine a0d ?_
    refine ru 6 ?_
    refine (a2F 68 [(7001,_)] rfl (a0g rfl a0e) rfl ((show Fz [(7001,⟨gk,ks.length,1,3,0,a3q ks⟩)] (.agg 5 (a7w 2 gk ks.length 0)) (ptH ⟨2,0,0,[],ks⟩) from a1i (.imm _) (.imm _) (.imm _) (.imm _) (b0l rfl)))).seq ?_
    refine a0t 69 (a0b (id:=69) (hs:=[_]) ei_128.h omx rfl omx ⟨rfl,rfl,rfl,rfl,trivial⟩) rfl rfl a0e rfl rfl (c':=c+1) rfl ?_
    first
    | refine a0t 70 (a0a ei_128.h omy rfl omy omy (a0u rfl omy) omy rfl) rfl rfl (a0g rfl (a0C rfl)) rfl rfl (c':=c+2) rfl ?_
    | refine a0t 70 (a0a ei_128.h omy rfl omy omy (a0G rfl omy) omy rfl) rfl rfl (a0g rfl (a0C rfl)) rfl rfl (c':=c+2) rfl ?_
    | refine a0t 70 (a0a ei_128.h omy rfl omy omy (a0F rfl) omy rfl) rfl rfl (a0g rfl a0e) rfl rfl (c':=c+2) rfl ?_
    | refine a0t 70 (a0a ei_128.h omy rfl omy omy (a0w 5 (fun _ _=>default) rfl) omy rfl) rfl rfl (a0g rfl a0e) rfl rfl (c':=c+2) rfl ?_
    refine ru 6 ?_
    refine a0f ?_
    refine ru 2 ?_
    refine fr1 ok hX rw1 (_) (trivial) (a7B rfl rfl (by have e:=congrArg List.length (a3X (k:=2) hI hit);rw [List.length_append] at e;exact e)) ?_
    exact ⟨⟨_,rfl,a3V (o:=o) (x:=⟨2,0,0,[],ks⟩) rfl (a3X hI hit) (b1X (.imm _) (.imm _) (.imm _) (.imm _) (.sl _ _ _ _ fun i j _ _=>.imm _))⟩,trivial⟩
   exfalso;simp at hr0
  exfalso;simp at hr1
 exfalso;simp at hr0
theorem b7T (l:List Sg) (p q:Nat) (hl:l.length≤1000) (ts:List T) (B:List Int) (m:Nat) (s e:Nat→Nat) (hC:Cuts l B m p q ts s e) (hql:q≤l.length) (hpq:p≤q) (ih:∀ i,i < ts.length→BdC l (s i) (e i) (ts.getD i default)) (hB:B=a3n l p q 3 p [(p:Int)]++[(q:Int)]) (hend:∀ i,i+1 < m→B.getD (i+1) 0=(e i:Int)+1) (hlast:∀ i,i+1=m→B.getD (i+1) 0=(e i:Int)):BdC l p q (.many 3 ts):=by
 intro c g out ho
 obtain ⟨cb,hcb⟩:∃ cb,cb=c:=⟨_,rfl⟩
 subst hcb
 have hCl:=hC.hlen
 have hCm:=hC.hm
 have hC2:=hC.htwo
 have hCb:=hC.hmb
 refine a0v Tryz.func95 rfl kr _ _ _ _ rfl 126 rfl rfl (fun X ok hX=>?_)
 refine ru 12 ?_
 refine a2o 3 ?_
 refine a1s (fun NhU1 hU1=>?_)
 refine ru 7 ?_
 refine wdc (fun hr0 hc0=>?_) (fun hr0 hc0=>?_)
 ·refine ru 10 ?_
  refine cll ((show a0q Tryz.prog 123 [a3B l,a0h p,a0h q,a0h 3] (a1z B) from (by rw [hB];exact a2N l p q 3 hl hql hpq))) ?_
  refine ru 11 ?_
  refine wdc (fun hr1 hc1=>?_) (fun hr1 hc1=>?_)
  ·skip
   exfalso;omega
  refine ru 17 ?_
  refine (a1q 11 4 7001 1 3 (a3q []) (a7w 3 (cb+2) 0) rfl rfl (fun j hj=>by match j,hj with | 0,_=>exact .inr rfl | 1,_=>exact .inr rfl | 2,_=>exact .inr rfl | 3,_=>exact .inr rfl | 4,_=>exact .inl ⟨rfl,rfl⟩) (by decide) (by decide) (c':=cb+3) rfl).wp ?_
  refine a0n (α:=Nat×List Pt×List Int×Nat×Nat) (fun x c=>⟨126,[(0,.v (.os 9003 x.2.2.2.1 0 x.2.1.length)),(1,.v (a3B l)),(2,.v (a0h p)),(3,.v (a0h q)),(9,.v (a0h 3)),(10,.v (a1z B)),(11,.v (.pt 11 cb 0 0)),(12,.v (a0h x.1))],[(9003,c3J x.2.2.2.1 x.2.1),(11,⟨cb,1,5,188,0,a7w 3 x.2.2.2.2 x.2.2.1.length⟩),(7001,⟨x.2.2.2.2,x.2.2.1.length,1,3,0,a3q x.2.2.1⟩)],c⟩) (fun x=>KidI ts out x.1 x.2.1 x.2.2.1) (fun x=>m - x.1) ((0,out,[],g,cb+2)) (by exact ⟨Nat.zero_le _,by simp [T.flatL],rfl⟩) (a0c rfl (Nat.le_refl _) tsa (hsr rfl (a0k.cons rfl (by exact a7z (.refl _) (.refl _) (.refl _) (.refl _) (.refl _)) hsa))) (fun x c hx NhL2 hL2=>?_)
  revert hx hL2;obtain ⟨i,o,ks,gg,gk⟩:=x;intro hx hL2;dsimp only at hx hL2 ⊢
  obtain ⟨hI1,hI2,hI3⟩:=hx
  have hI:KidI ts out i o ks:=⟨hI1,hI2,hI3⟩;have hkl:=a9N hI
  refine ru 10 ?_
  refine wdc (fun hr2 hc2=>?_) (fun hr2 hc2=>?_)
  ·skip
   have him:i < ts.length:=om;have hin:=hC.hle i om;have hou:=hC.hout i om;have hsz:=hC.hsz i om
   refine ru 11 ?_
   refine rvl (a0h (B.getD (i+1) 0)) (by exact a2c om rfl) ?_
   refine ru 17 ?_
   refine wdc (fun hr3 hc3=>?_) (fun hr3 hc3=>?_)
   ·skip
    have hi2:i+1 < m:=(by have h:=hr3;simp at h;omega);have hbe:=hend i hi2
    refine ru 3 ?_
    refine rvl (a0h (e i:Int)) (congrArg a0h (show B.getD (i+1) 0 - 1=(e i:Int) by omega)) ?_
    refine ru 11 ?_
    refine rvl (a0h (s i:Int)) (by exact a2c om (hC.hat i om)) ?_
    refine ru 1 ?_
    refine a0l 58 (xs:=[_,_,_,_]) (pre:=[(9003,_)]) (ih i him _ gg o om) ⟨rfl,⟨rfl,⟨rfl,⟨rfl,trivial⟩⟩⟩⟩ (a0g rfl a0e) rfl rfl (fun g3 c1 hx1=>?_)
    (try dsimp only)
    refine ru 3 ?_
    have hol:(o++T.flat o.length (ts.getD i default)).length=o.length+(ts.getD i default).size:=(by rw [List.length_append,T.flat_len])
    refine ru 6 ?_
    refine a0t 64 (a0b (id:=64) (hs:=[_]) ei_104.h omx rfl omx ⟨rfl,rfl,rfl,rfl,trivial⟩) rfl rfl a0e rfl rfl (c':=c1+1) rfl ?_
    first
    | refine a0t 65 (a0a ei_104.h omy rfl omy omy (a0u rfl omy) omy rfl) rfl rfl (a0g rfl (a0C rfl)) rfl rfl (c':=c1+2) rfl ?_
    | refine a0t 65 (a0a ei_104.h omy rfl omy omy (a0G rfl omy) omy rfl) rfl rfl (a0g rfl (a0C rfl)) rfl rfl (c':=c1+2) rfl ?_
    | refine a0t 65 (a0a ei_104.h omy rfl omy omy (a0F rfl) omy rfl) rfl rfl (a0g rfl a0e) rfl rfl (c':=c1+2) rfl ?_
    | refine a0t 65 (a0a ei_104.h omy rfl omy omy (a0w 1 (fun _ _=>default) rfl) omy rfl) rfl rfl (a0g rfl a0e) rfl rfl (c':=c1+2) rfl ?_
    refine ru 10 ?_
    exact hL2 ((i+1,o++T.flat o.length (ts.getD i default),ks++[T.root o.length (ts.getD i default)],g3,c1+1)) _ _ (by (try dsimp only);exact a5v hI him) (by (try dsimp only);omega) (a0c rfl (Nat.le_refl _) tsa (hsr rfl (a0k.cons rfl (by exact a7z (.refl _) (.refl _) (.refl _) (.refl _) (a1N (by simp))) (a0k.cons rfl (a0x (enc:=fun x _=>a0h x) (d:=0) rfl (fun i j _ _=>.refl _) (fun j hj=>by exact a0Y (by rw [List.length_append,T.flat_len];rfl))) a0k.nil))))
   have hi2:i+1=m:=(by have h:=hr3;simp at h;omega)
   refine ru 10 ?_
   refine rvl (a0h (s i:Int)) (by exact a2c om (hC.hat i om)) ?_
   refine ru 1 ?_
   refine rvl (a0h (e i:Int)) (congrArg a0h (hlast i hi2)) ?_
   refine a0l 58 (xs:=[_,_,_,_]) (pre:=[(9003,_)]) (ih i him _ gg o om) ⟨rfl,⟨rfl,⟨rfl,⟨rfl,trivial⟩⟩⟩⟩ (a0g rfl a0e) rfl rfl (fun g3 c2 hx2=>?_)
   (try dsimp only)
   refine ru 3 ?_
   have hol:(o++T.flat o.length (ts.getD i default)).length=o.length+(ts.getD i default).size:=(by rw [List.length_append,T.flat_len])
   refine ru 6 ?_
   refine a0t 64 (a0b (id:=64) (hs:=[_]) ei_104.h omx rfl omx ⟨rfl,rfl,rfl,rfl,trivial⟩) rfl rfl a0e rfl rfl (c':=c2+1) rfl ?_
   first
   | refine a0t 65 (a0a ei_104.h omy rfl omy omy (a0u rfl omy) omy rfl) rfl rfl (a0g rfl (a0C rfl)) rfl rfl (c':=c2+2) rfl ?_
   | refine a0t 65 (a0a ei_104.h omy rfl omy omy (a0G rfl omy) omy rfl) rfl rfl (a0g rfl (a0C rfl)) rfl rfl (c':=c2+2) rfl ?_
   | refine a0t 65 (a0a ei_104.h omy rfl omy omy (a0F rfl) omy rfl) rfl rfl (a0g rfl a0e) rfl rfl (c':=c2+2) rfl ?_
   | refine a0t 65 (a0a ei_104.h omy rfl omy omy (a0w 1 (fun _ _=>default) rfl) omy rfl) rfl rfl (a0g rfl a0e) rfl rfl (c':=c2+2) rfl ?_
   refine ru 10 ?_
   exact hL2 ((i+1,o++T.flat o.length (ts.getD i default),ks++[T.root o.length (ts.getD i default)],g3,c2+1)) _ _ (by (try dsimp only);exact a5v hI him) (by (try dsimp only);omega) (a0c rfl (Nat.le_refl _) tsa (hsr rfl (a0k.cons rfl (by exact a7z (.refl _) (.refl _) (.refl _) (.refl _) (a1N (by simp))) (a0k.cons rfl (a0x (enc:=fun x _=>a0h x) (d:=0) rfl (fun i j _ _=>.refl _) (fun j hj=>by exact a0Y (by rw [List.length_append,T.flat_len];rfl))) a0k.nil))))
  have hit:i=ts.length:=om;have hal:=hC.hall;have hol2:o.length=out.length+T.sizeL ts:=(by rw [hkl.1,hit,List.take_length])
  refine ru 2 ?_
  refine a0d ?_
  refine ru 6 ?_
  refine (a2F 68 [(7001,_)] rfl (a0g rfl a0e) rfl ((show Fz [(7001,⟨gk,ks.length,1,3,0,a3q ks⟩)] (.agg 5 (a7w 3 gk ks.length 0)) (ptH ⟨3,0,0,[],ks⟩) from a1i (.imm _) (.imm _) (.imm _) (.imm _) (b0l rfl)))).seq ?_
  refine a0t 69 (a0b (id:=69) (hs:=[_]) ei_128.h omx rfl omx ⟨rfl,rfl,rfl,rfl,trivial⟩) rfl rfl a0e rfl rfl (c':=c+1) rfl ?_
  first
  | refine a0t 70 (a0a ei_128.h omy rfl omy omy (a0u rfl omy) omy rfl) rfl rfl (a0g rfl (a0C rfl)) rfl rfl (c':=c+2) rfl ?_
  | refine a0t 70 (a0a ei_128.h omy rfl omy omy (a0G rfl omy) omy rfl) rfl rfl (a0g rfl (a0C rfl)) rfl rfl (c':=c+2) rfl ?_
  | refine a0t 70 (a0a ei_128.h omy rfl omy omy (a0F rfl) omy rfl) rfl rfl (a0g rfl a0e) rfl rfl (c':=c+2) rfl ?_
  | refine a0t 70 (a0a ei_128.h omy rfl omy omy (a0w 5 (fun _ _=>default) rfl) omy rfl) rfl rfl (a0g rfl a0e) rfl rfl (c':=c+2) rfl ?_
  refine ru 6 ?_
  refine a0f ?_
  refine ru 2 ?_
  refine fr1 ok hX rw1 (_) (trivial) (a7B rfl rfl (by have e:=congrArg List.length (a3X (k:=3) hI hit);rw [List.length_append] at e;exact e)) ?_
  exact ⟨⟨_,rfl,a3V (o:=o) (x:=⟨3,0,0,[],ks⟩) rfl (a3X hI hit) (b1X (.imm _) (.imm _) (.imm _) (.imm _) (.sl _ _ _ _ fun i j _ _=>.imm _))⟩,trivial⟩
 exfalso;simp at hr0
theorem b5R (l:List Sg) (p q:Nat) (hl:l.length≤1000) (ts:List T) (B:List Int) (m:Nat) (s e:Nat→Nat) (hC:Cuts l B m p q ts s e) (hql:q≤l.length) (hpq:p≤q) (ih:∀ i,i < ts.length→BdC l (s i) (e i) (ts.getD i default)) (hB:B=a3n l p q 3 p [(p:Int)]++[(q:Int)]) (hend:∀ i,i+1 < m→B.getD (i+1) 0=(e i:Int)+1) (hlast:∀ i,i+1=m→B.getD (i+1) 0=(e i:Int)):BdN l p q (.many 3 ts):=by
 intro c
 obtain ⟨cb,hcb⟩:∃ cb,cb=c+1:=⟨_,rfl⟩
 have ho:([]:List Pt).length≤2 * p:=Nat.zero_le _
 have hCl:=hC.hlen
 have hCm:=hC.hm
 have hC2:=hC.htwo
 have hCb:=hC.hmb
 refine a0v Tryz.func95 rfl kr _ _ _ _ rfl 126 rfl rfl (fun X ok hX=>?_)
 refine ru 1 ?_
 refine a4v 0 9003 5 188 (b4R []) rfl (by decide) rfl (c':=cb) hcb.symm ?_
 refine ru 11 ?_
 refine a2o 3 ?_
 refine a1s (fun NhU1 hU1=>?_)
 refine ru 7 ?_
 refine wdc (fun hr0 hc0=>?_) (fun hr0 hc0=>?_)
 ·refine ru 10 ?_
  refine cll ((show a0q Tryz.prog 123 [a3B l,a0h p,a0h q,a0h 3] (a1z B) from (by rw [hB];exact a2N l p q 3 hl hql hpq))) ?_
  refine ru 11 ?_
  refine wdc (fun hr1 hc1=>?_) (fun hr1 hc1=>?_)
  ·skip
   exfalso;omega
  refine ru 17 ?_
  refine (a1q 11 4 7001 1 3 (a3q []) (a7w 3 (cb+2) 0) rfl rfl (fun j hj=>by match j,hj with | 0,_=>exact .inr rfl | 1,_=>exact .inr rfl | 2,_=>exact .inr rfl | 3,_=>exact .inr rfl | 4,_=>exact .inl ⟨rfl,rfl⟩) (by decide) (by decide) (c':=cb+3) rfl).wp ?_
  refine a0n (α:=Nat×List Pt×List Int×Nat×Nat) (fun x c=>⟨126,[(0,.v (.os 9003 x.2.2.2.1 0 x.2.1.length)),(1,.v (a3B l)),(2,.v (a0h p)),(3,.v (a0h q)),(9,.v (a0h 3)),(10,.v (a1z B)),(11,.v (.pt 11 cb 0 0)),(12,.v (a0h x.1))],[(9003,c3J x.2.2.2.1 x.2.1),(11,⟨cb,1,5,188,0,a7w 3 x.2.2.2.2 x.2.2.1.length⟩),(7001,⟨x.2.2.2.2,x.2.2.1.length,1,3,0,a3q x.2.2.1⟩)],c⟩) (fun x=>KidI ts ([]:List Pt) x.1 x.2.1 x.2.2.1) (fun x=>m - x.1) ((0,([]:List Pt),[],c,cb+2)) (by exact ⟨Nat.zero_le _,by simp [T.flatL],rfl⟩) (a0c rfl (Nat.le_refl _) tsa (hsr rfl (a0k.cons rfl (by exact a7z (.refl _) (.refl _) (.refl _) (.refl _) (.refl _)) hsa))) (fun x c hx NhL2 hL2=>?_)
  revert hx hL2;obtain ⟨i,o,ks,gg,gk⟩:=x;intro hx hL2;dsimp only at hx hL2 ⊢
  obtain ⟨hI1,hI2,hI3⟩:=hx
  have hI:KidI ts ([]:List Pt) i o ks:=⟨hI1,hI2,hI3⟩;have hkl:=a9N hI
  refine ru 10 ?_
  refine wdc (fun hr2 hc2=>?_) (fun hr2 hc2=>?_)
  ·skip
   have him:i < ts.length:=om;have hin:=hC.hle i om;have hou:=hC.hout i om;have hsz:=hC.hsz i om
   refine ru 11 ?_
   refine rvl (a0h (B.getD (i+1) 0)) (by exact a2c om rfl) ?_
   refine ru 17 ?_
   refine wdc (fun hr3 hc3=>?_) (fun hr3 hc3=>?_)
   ·skip
    have hi2:i+1 < m:=(by have h:=hr3;simp at h;omega);have hbe:=hend i hi2
    refine ru 3 ?_
    refine rvl (a0h (e i:Int)) (congrArg a0h (show B.getD (i+1) 0 - 1=(e i:Int) by omega)) ?_
    refine ru 11 ?_
    refine rvl (a0h (s i:Int)) (by exact a2c om (hC.hat i om)) ?_
    refine ru 1 ?_
    refine a0l 58 (xs:=[_,_,_,_]) (pre:=[(9003,_)]) (ih i him _ gg o om) ⟨rfl,⟨rfl,⟨rfl,⟨rfl,trivial⟩⟩⟩⟩ (a0g rfl a0e) rfl rfl (fun g3 c1 hx1=>?_)
    (try dsimp only)
    refine ru 3 ?_
    have hol:(o++T.flat o.length (ts.getD i default)).length=o.length+(ts.getD i default).size:=(by rw [List.length_append,T.flat_len])
    refine ru 6 ?_
    refine a0t 64 (a0b (id:=64) (hs:=[_]) ei_104.h omx rfl omx ⟨rfl,rfl,rfl,rfl,trivial⟩) rfl rfl a0e rfl rfl (c':=c1+1) rfl ?_
    first
    | refine a0t 65 (a0a ei_104.h omy rfl omy omy (a0u rfl omy) omy rfl) rfl rfl (a0g rfl (a0C rfl)) rfl rfl (c':=c1+2) rfl ?_
    | refine a0t 65 (a0a ei_104.h omy rfl omy omy (a0G rfl omy) omy rfl) rfl rfl (a0g rfl (a0C rfl)) rfl rfl (c':=c1+2) rfl ?_
    | refine a0t 65 (a0a ei_104.h omy rfl omy omy (a0F rfl) omy rfl) rfl rfl (a0g rfl a0e) rfl rfl (c':=c1+2) rfl ?_
    | refine a0t 65 (a0a ei_104.h omy rfl omy omy (a0w 1 (fun _ _=>default) rfl) omy rfl) rfl rfl (a0g rfl a0e) rfl rfl (c':=c1+2) rfl ?_
    refine ru 10 ?_
    exact hL2 ((i+1,o++T.flat o.length (ts.getD i default),ks++[T.root o.length (ts.getD i default)],g3,c1+1)) _ _ (by (try dsimp only);exact a5v hI him) (by (try dsimp only);omega) (a0c rfl (Nat.le_refl _) tsa (hsr rfl (a0k.cons rfl (by exact a7z (.refl _) (.refl _) (.refl _) (.refl _) (a1N (by simp))) (a0k.cons rfl (a0x (enc:=fun x _=>a0h x) (d:=0) rfl (fun i j _ _=>.refl _) (fun j hj=>by exact a0Y (by rw [List.length_append,T.flat_len];rfl))) a0k.nil))))
   have hi2:i+1=m:=(by have h:=hr3;simp at h;omega)
   refine ru 10 ?_
   refine rvl (a0h (s i:Int)) (by exact a2c om (hC.hat i om)) ?_
   refine ru 1 ?_
   refine rvl (a0h (e i:Int)) (congrArg a0h (hlast i hi2)) ?_
   refine a0l 58 (xs:=[_,_,_,_]) (pre:=[(9003,_)]) (ih i him _ gg o om) ⟨rfl,⟨rfl,⟨rfl,⟨rfl,trivial⟩⟩⟩⟩ (a0g rfl a0e) rfl rfl (fun g3 c2 hx2=>?_)
   (try dsimp only)
   refine ru 3 ?_
   have hol:(o++T.flat o.length (ts.getD i default)).length=o.length+(ts.getD i default).size:=(by rw [List.length_append,T.flat_len])
   refine ru 6 ?_
   refine a0t 64 (a0b (id:=64) (hs:=[_]) ei_104.h omx rfl omx ⟨rfl,rfl,rfl,rfl,trivial⟩) rfl rfl a0e rfl rfl (c':=c2+1) rfl ?_
   first
   | refine a0t 65 (a0a ei_104.h omy rfl omy omy (a0u rfl omy) omy rfl) rfl rfl (a0g rfl (a0C rfl)) rfl rfl (c':=c2+2) rfl ?_
   | refine a0t 65 (a0a ei_104.h omy rfl omy omy (a0G rfl omy) omy rfl) rfl rfl (a0g rfl (a0C rfl)) rfl rfl (c':=c2+2) rfl ?_
   | refine a0t 65 (a0a ei_104.h omy rfl omy omy (a0F rfl) omy rfl) rfl rfl (a0g rfl a0e) rfl rfl (c':=c2+2) rfl ?_
   | refine a0t 65 (a0a ei_104.h omy rfl omy omy (a0w 1 (fun _ _=>default) rfl) omy rfl) rfl rfl (a0g rfl a0e) rfl rfl (c':=c2+2) rfl ?_
   refine ru 10 ?_
   exact hL2 ((i+1,o++T.flat o.length (ts.getD i default),ks++[T.root o.length (ts.getD i default)],g3,c2+1)) _ _ (by (try dsimp only);exact a5v hI him) (by (try dsimp only);omega) (a0c rfl (Nat.le_refl _) tsa (hsr rfl (a0k.cons rfl (by exact a7z (.refl _) (.refl _) (.refl _) (.refl _) (a1N (by simp))) (a0k.cons rfl (a0x (enc:=fun x _=>a0h x) (d:=0) rfl (fun i j _ _=>.refl _) (fun j hj=>by exact a0Y (by rw [List.length_append,T.flat_len];rfl))) a0k.nil))))
  have hit:i=ts.length:=om;have hal:=hC.hall;have hol2:o.length=([]:List Pt).length+T.sizeL ts:=(by rw [hkl.1,hit,List.take_length])
  refine ru 2 ?_
  refine a0d ?_
  refine ru 6 ?_
  refine (a2F 68 [(7001,_)] rfl (a0g rfl a0e) rfl ((show Fz [(7001,⟨gk,ks.length,1,3,0,a3q ks⟩)] (.agg 5 (a7w 3 gk ks.length 0)) (ptH ⟨3,0,0,[],ks⟩) from a1i (.imm _) (.imm _) (.imm _) (.imm _) (b0l rfl)))).seq ?_
  refine a0t 69 (a0b (id:=69) (hs:=[_]) ei_128.h omx rfl omx ⟨rfl,rfl,rfl,rfl,trivial⟩) rfl rfl a0e rfl rfl (c':=c+1) rfl ?_
  first
  | refine a0t 70 (a0a ei_128.h omy rfl omy omy (a0u rfl omy) omy rfl) rfl rfl (a0g rfl (a0C rfl)) rfl rfl (c':=c+2) rfl ?_
  | refine a0t 70 (a0a ei_128.h omy rfl omy omy (a0G rfl omy) omy rfl) rfl rfl (a0g rfl (a0C rfl)) rfl rfl (c':=c+2) rfl ?_
  | refine a0t 70 (a0a ei_128.h omy rfl omy omy (a0F rfl) omy rfl) rfl rfl (a0g rfl a0e) rfl rfl (c':=c+2) rfl ?_
  | refine a0t 70 (a0a ei_128.h omy rfl omy omy (a0w 5 (fun _ _=>default) rfl) omy rfl) rfl rfl (a0g rfl a0e) rfl rfl (c':=c+2) rfl ?_
  refine ru 6 ?_
  refine a0f ?_
  refine ru 2 ?_
  refine fr1 ok hX rw1 (_) (trivial) (a7B rfl rfl (by have e:=congrArg List.length (a3X (k:=3) hI hit);rw [List.length_append] at e;exact e)) ?_
  exact ⟨⟨_,rfl,a3V (o:=o) (x:=⟨3,0,0,[],ks⟩) rfl (a3X hI hit) (b1X (.imm _) (.imm _) (.imm _) (.imm _) (.sl _ _ _ _ fun i j _ _=>.imm _))⟩,trivial⟩
 exfalso;simp at hr0
theorem c1t {l:List Sg} {p q:Nat} {ts:List T} {c:Nat→Nat} (hl:l.length≤1000) (h2:2≤ts.length) (h0:c 0=p) (he:c ts.length=q) (hs:∀ i,i < ts.length→Seg l 1 (c i) (c (i+1)) (ts.getD i default)) :
    Cuts l ([(p:Int)]++a1t c ts.length) ts.length p q ts c (fun i=>c (i+1))∧(∀ i,i < ts.length→([(p:Int)]++a1t c ts.length).getD (i+1) 0=((c (i+1):Nat):Int)):=by
  have up:=c3l (n:=ts.length) (c:=c) (fun i hi=>(a1f (hs i hi)).1)
  have hsz:∀ i,i < ts.length→(ts.getD i default).size+2 * c i≤2 * c (i+1):=fun i hi=>by have:=a3b (hs i hi);omega
  have hout:∀ i,i≤ts.length→T.sizeL (ts.take i)+2 * p≤2 * c i:=by
    intro i
    induction i with
    | zero=>intro _;rw [a7a];omega
    | succ i ih=>intro hi;have:=ih (by omega);have:=hsz i hi;rw [a1o ts i hi];omega
  have hg:∀ i,i < ts.length→([(p:Int)]++a1t c ts.length).getD (i+1) 0=((c (i+1):Nat):Int):=fun i hi=>by
    simp [a1t,List.getD_eq_getElem?_getD,hi]
  have hlt:ts.length≤l.length:=by
    have a:=up 0 ts.length (by omega) (Nat.le_refl _)
    have b:=(a1f (hs (ts.length - 1) (by omega))).2
    rw [show ts.length - 1+1=ts.length by omega] at b
    omega
  refine ⟨⟨by simp [a1t],rfl,h2,by omega,fun i hi=>?_,fun i hi=>⟨Nat.le_of_lt (a1f (hs i hi)).1,(a1f (hs i hi)).2⟩,fun i hi=>hout i (by omega),hsz,?_⟩,hg⟩
  · cases i with
    | zero=>rw [h0];rfl
    | succ i=>exact hg i (by omega)
  · have:=hout ts.length (Nat.le_refl _);rw [List.take_length,he] at this;exact this
theorem c1f {l:List Sg} {p q:Nat} {ts:List T} {c e:Nat→Nat} (hl:l.length≤1000) (h2:2≤ts.length) (h0:c 0=p) (he:e (ts.length - 1)=q) (hs:∀ i,i < ts.length→Seg l 2 (c i) (e i) (ts.getD i default)) (hgp:∀ i,i+1 < ts.length→kd l (e i)=4∧c (i+1)=e i+1) :
    Cuts l ([(p:Int)]++a1t c (ts.length - 1)++[(q:Int)]) ts.length p q ts c e∧(∀ i,i+1 < ts.length→([(p:Int)]++a1t c (ts.length - 1)++[(q:Int)]).getD (i+1) 0=(e i:Int)+1)∧(∀ i,i+1=ts.length→([(p:Int)]++a1t c (ts.length - 1)++[(q:Int)]).getD (i+1) 0=(e i:Int)):=by
  have hsz:∀ i,i < ts.length→(ts.getD i default).size+2 * c i≤2 * e i:=fun i hi=>by have:=a3b (hs i hi);omega
  have hout:∀ i,i < ts.length→T.sizeL (ts.take i)+2 * p≤2 * c i∧i+p≤c i:=by
    intro i
    induction i with
    | zero=>intro _;rw [a7a];omega
    | succ i ih=>intro hi;have:=ih (by omega);have:=hsz i (by omega);have:=hgp i hi;have:=(a1f (hs i (by omega))).1;rw [a1o ts i (by omega)];omega
  have hg:∀ i,i+1 < ts.length→([(p:Int)]++a1t c (ts.length - 1)++[(q:Int)]).getD (i+1) 0=((c (i+1):Nat):Int):=fun i hi=>by
    rw [a4E (by simp [a1t];omega)]
    simp [a1t,List.getD_eq_getElem?_getD,show i < ts.length - 1 by omega]
  have hlt:ts.length≤l.length:=by
    have a:=(hout (ts.length - 1) (by omega)).2
    have b:=(a1f (hs (ts.length - 1) (by omega)))
    omega
  refine ⟨⟨by simp [a1t];omega,rfl,h2,by omega,fun i hi=>?_,fun i hi=>⟨Nat.le_of_lt (a1f (hs i hi)).1,(a1f (hs i hi)).2⟩,fun i hi=>(hout i hi).1,hsz,?_⟩,fun i hi=>by rw [hg i hi,(hgp i hi).2];rfl,fun i hi=>?_⟩
  · cases i with
    | zero=>rw [h0];rfl
    | succ i=>exact hg i (by omega)
  · have a:=hout (ts.length - 1) (by omega)
    have b:=hsz (ts.length - 1) (by omega)
    have d:=a1o ts (ts.length - 1) (by omega)
    rw [show ts.length - 1+1=ts.length by omega,List.take_length] at d
    rw [he] at b;omega
  · have hl1:([(p:Int)]++a1t c (ts.length - 1)).length=i+1:=by simp [a1t];omega
    rw [←hl1,a2E,←he,show ts.length - 1=i by omega]
theorem a6y (l:List Sg) (hl:l.length≤1000) {v p q:Nat} {t:T} (h:Seg l v p q t):BdC l p q t:=by
  induction h with
  | name p h=>exact c3f l p (p+1) hl h rfl (a1f (.name p h)).2 (by omega) (v:=0) (by decide) (.name p h)
  | group p q t h hs h3 ih=>have a:=a1f hs;have b:=a2D (l:=l) (i:=q) (by rw [h3];decide);exact c0G l p (q+1) hl q t h h3 a.1 rfl b (by omega) (v:=0) (by decide) (.group p q t h hs h3) ih
  | item p q t _ _ ih=>exact ih
  | times p q t hs h5 ih=>have a:=a1f hs;have b:=a2D (l:=l) (i:=q) (by rw [h5];decide);exact b9N l p (q+1) hl q t h5 hs a.1 rfl b (by omega) (v:=1) (by decide) (.times p q t hs h5) ih
  | row1 p q t _ ih=>exact ih
  | row p q ts c h2 h0 he hs ih =>
    have hseg:Seg l 2 p q (.many 2 ts):=.row p q ts c h2 h0 he hs
    have a:=a1f hseg
    have C:=c1t hl h2 h0 he hs
    exact c4T l p q hl ts _ _ _ _ C.1 a.2 (by omega) ih hseg (a9w h0 he (by omega) hs).symm C.2
  | choice1 p q t _ ih=>exact ih
  | choice p q ts c e h2 h0 he hs hg ih =>
    have a:=a1f (.choice p q ts c e h2 h0 he hs hg)
    have C:=c1f hl h2 h0 he hs hg
    exact b7T l p q hl ts _ _ _ _ C.1 a.2 (by omega) ih (b1b (by omega) h0 he hs hg).symm C.2.1 C.2.2
theorem b5D (l:List Sg) (hl:l.length≤1000) {v p q:Nat} {t:T} (h:Seg l v p q t):BdN l p q t:=by
  induction h with
  | name p h=>exact c0I l p (p+1) hl h rfl (a1f (.name p h)).2 (by omega) (v:=0) (by decide) (.name p h)
  | group p q t h hs h3 ih=>have a:=a1f hs;have b:=a2D (l:=l) (i:=q) (by rw [h3];decide);exact b6v l p (q+1) hl q t h h3 a.1 rfl b (by omega) (v:=0) (by decide) (.group p q t h hs h3) (a6y l hl hs)
  | item p q t _ _ ih=>exact ih
  | times p q t hs h5 ih=>have a:=a1f hs;have b:=a2D (l:=l) (i:=q) (by rw [h5];decide);exact b8j l p (q+1) hl q t h5 hs a.1 rfl b (by omega) (v:=1) (by decide) (.times p q t hs h5) (a6y l hl hs)
  | row1 p q t _ ih=>exact ih
  | row p q ts c h2 h0 he hs ih =>
    have hseg:Seg l 2 p q (.many 2 ts):=.row p q ts c h2 h0 he hs
    have a:=a1f hseg
    have C:=c1t hl h2 h0 he hs
    exact c1T l p q hl ts _ _ _ _ C.1 a.2 (by omega) (fun i hi=>a6y l hl (hs i hi)) hseg (a9w h0 he (by omega) hs).symm C.2
  | choice1 p q t _ ih=>exact ih
  | choice p q ts c e h2 h0 he hs hg ih =>
    have a:=a1f (.choice p q ts c e h2 h0 he hs hg)
    have C:=c1f hl h2 h0 he hs hg
    exact b5R l p q hl ts _ _ _ _ C.1 a.2 (by omega) (fun i hi=>a6y l hl (hs i hi)) (b1b (by omega) h0 he hs hg).symm C.2.1 C.2.2
theorem b6i (s:List UInt8) (r:List Pt×Int×Int) (hs:s.length≤9223372036854775807) (hp:ParseIs s r) (c:Nat):a3c Tryz.prog 69 c [a0p s] [] (a4W (fun (_:Unit) _=>True) (fun _=>c1b r) (fun _=>[])):=by
 have hlen:=a6A s
 have hlx:=b9g s hs
 have hW:∀ l,lexV s=.ok l→b6p (lexV s)=(l,0,0):=fun l h=>by rw [h];rfl
 rcases hp with ⟨e,hv⟩ | hv | ⟨l,q,hv,hne,hq,hC⟩ | ⟨l,hv,hne,hC⟩ | ⟨l,t,hv,hsg⟩
 ·skip
  have he:=a7M hv
  rw [hv] at hlx hlen
  replace hlx:a0q Tryz.prog 93 [a0p s] (c0W ([],e.1,e.2)):=hlx
  refine a0v Tryz.func69 rfl kr _ _ _ _ rfl 42 rfl rfl (fun X ok hX=>?_)
  refine ru 10 ?_
  refine cll (hlx) ?_
  refine ru 16 ?_
  refine wdc (fun hr0 hc0=>?_) (fun hr0 hc0=>?_)
  ·refine ru 11 ?_
   refine a2Y ok hX a3m.one rfl (a0r rfl) (a0r rfl) (a0r rfl) [] rfl a0e (()) (trivial) (by rfl) (by rfl) (a9b (.fz _ _ (.nil 0 5 _ (by decide) none)) kza kza) ?_
   exact trivial
  exfalso;exact he hc0
 ·skip
  rw [hv] at hlx hlen
  replace hlx:a0q Tryz.prog 93 [a0p s] (c0W ([],0,0)):=hlx
  have hC:chk ([]:List Sg) 0 0 true true=(-1,false):=by rw [a8F (l:=[]) (i:=0) (Nat.le_refl _)];rfl
  have hch:=b0n [] (by decide)
  rw [hC] at hch
  refine a0v Tryz.func69 rfl kr _ _ _ _ rfl 42 rfl rfl (fun X ok hX=>?_)
  refine ru 10 ?_
  refine cll (hlx) ?_
  refine ru 16 ?_
  refine wdc (fun hr0 hc0=>?_) (fun hr0 hc0=>?_)
  ·skip
   exfalso;first | exact hc0 rfl | exact hc0 trivial
  refine ru 5 ?_
  refine cll (hch) ?_
  refine ru 14 ?_
  refine wdc (fun hr1 hc1=>?_) (fun hr1 hc1=>?_)
  ·skip
   exfalso;simp at hr1
  refine ru 8 ?_
  refine wdc (fun hr2 hc2=>?_) (fun hr2 hc2=>?_)
  ·skip
   exfalso;simp at hr2
  refine ru 10 ?_
  refine wdc (fun hr3 hc3=>?_) (fun hr3 hc3=>?_)
  ·refine ru 9 ?_
   refine a2Y ok hX a3m.one rfl (a0r rfl) (a0r rfl) (a0r rfl) [] rfl a0e (()) (trivial) (by rfl) (by rfl) (a9b (.fz _ _ (.nil 0 5 _ (by decide) none)) kza kza) ?_
   exact trivial
  exfalso;exact absurd hr3 (by decide)
 ·skip
  rw [hv] at hlx hlen
  have hll:l.length≤200:=hlen
  replace hlx:a0q Tryz.prog 93 [a0p s] (c0W (l,0,0)):=hlx
  clear hlen
  have hch:=b0n l (by omega)
  rw [hC] at hch
  refine a0v Tryz.func69 rfl kr _ _ _ _ rfl 42 rfl rfl (fun X ok hX=>?_)
  refine ru 10 ?_
  refine cll (hlx) ?_
  refine ru 16 ?_
  refine wdc (fun hr0 hc0=>?_) (fun hr0 hc0=>?_)
  ·skip
   exfalso;first | exact hc0 rfl | exact hc0 trivial
  refine ru 5 ?_
  refine cll (hch) ?_
  refine ru 14 ?_
  refine wdc (fun hr1 hc1=>?_) (fun hr1 hc1=>?_)
  ·refine ru 14 ?_
   refine a2Y ok hX a3m.one rfl (a0r rfl) (a0r rfl) (a0r rfl) [] rfl a0e (()) (trivial) (by rfl) (by rfl) (a9b (.fz _ _ (.nil 0 5 _ (by decide) none)) kza kza) ?_
   exact trivial
  exfalso;omega
 ·skip
  rw [hv] at hlx hlen
  have hll:l.length≤200:=hlen
  replace hlx:a0q Tryz.prog 93 [a0p s] (c0W (l,0,0)):=hlx
  clear hlen
  have hch:=b0n l (by omega)
  rw [hC] at hch
  refine a0v Tryz.func69 rfl kr _ _ _ _ rfl 42 rfl rfl (fun X ok hX=>?_)
  refine ru 10 ?_
  refine cll (hlx) ?_
  refine ru 16 ?_
  refine wdc (fun hr0 hc0=>?_) (fun hr0 hc0=>?_)
  ·skip
   exfalso;first | exact hc0 rfl | exact hc0 trivial
  refine ru 5 ?_
  refine cll (hch) ?_
  refine ru 14 ?_
  refine wdc (fun hr1 hc1=>?_) (fun hr1 hc1=>?_)
  ·skip
   exfalso;simp at hr1
  refine ru 8 ?_
  refine wdc (fun hr2 hc2=>?_) (fun hr2 hc2=>?_)
  ·refine ru 11 ?_
   refine a2Y ok hX a3m.one rfl (a0r rfl) (a0r rfl) (a0r rfl) [] rfl a0e (()) (trivial) (by rfl) (by rfl) (a9b (.fz _ _ (.nil 0 5 _ (by decide) none)) kza kza) ?_
   exact trivial
  exfalso;simp at hr2
 ·skip
  rw [hv] at hlx hlen
  have hll:l.length≤200:=hlen
  replace hlx:a0q Tryz.prog 93 [a0p s] (c0W (l,0,0)):=hlx
  clear hlen
  have hch:=b0n l (by omega)
  rw [a6w hsg] at hch
  have hlt:=a1f hsg
  refine a0v Tryz.func69 rfl kr _ _ _ _ rfl 42 rfl rfl (fun X ok hX=>?_)
  refine ru 10 ?_
  refine cll (hlx) ?_
  refine ru 16 ?_
  refine wdc (fun hr0 hc0=>?_) (fun hr0 hc0=>?_)
  ·skip
   exfalso;first | exact hc0 rfl | exact hc0 trivial
  refine ru 5 ?_
  refine cll (hch) ?_
  refine ru 14 ?_
  refine wdc (fun hr1 hc1=>?_) (fun hr1 hc1=>?_)
  ·skip
   exfalso;simp at hr1
  refine ru 8 ?_
  refine wdc (fun hr2 hc2=>?_) (fun hr2 hc2=>?_)
  ·skip
   exfalso;simp at hr2
  refine ru 10 ?_
  refine wdc (fun hr3 hc3=>?_) (fun hr3 hc3=>?_)
  ·skip
   exfalso;have h:=hr3;simp at h;omega
  refine ru 7 ?_
  refine a0l 41 (xs:=[_,_,_,_]) (pre:=[]) (b5D l om hsg _) ⟨rfl,⟨rfl,⟨rfl,⟨rfl,trivial⟩⟩⟩⟩ a0e rfl rfl (fun g3 c1 hx1=>?_)
  (try dsimp only)
  refine ru 6 ?_
  refine a2Y ok hX a3m.one rfl (a0r rfl) (a0r rfl) (a0r rfl) [(9003,_)] rfl (a0g rfl a0e) (()) (trivial) (by rfl) (by rfl) (a9b (.fz _ _ (a1x (l:=T.flat 0 t) (enc:=ptF) (d:=default) (List.mem_cons_self ..) rfl rfl (Nat.le_refl _) (fun i j hi hj=>b1t _ j))) kza kza) ?_
  exact trivial
end Go.Proofs.YtjdmfohncgkdoaaGreatDoor
namespace Go.Proofs.YtjdmfohncgkdoaaGreatDoor
set_option linter.unusedSimpArgs false
set_option linter.unusedVariables false
def nameV (s:List UInt8):Bool:=match lexV s with | .ok [x]=>decide (x.kind=1)&&decide (x.name=s) | _=>false
def a4c (x:Pt):Bool :=
 if x.kind=1 then decide (x.kids.length=0)&&decide (x.low=0)&&decide (x.high=0)&&nameV x.name
 else if x.kind=2∨x.kind=3 then decide (1 < x.kids.length)&&decide (x.low=0)&&decide (x.high=0)&&decide (x.name=[])
 else if x.kind=4 then decide (x.kids.length=1)&&decide (0≤x.low)&&decide (x.low≤20)&&(decide (x.high=-1)||decide ((if 1 > x.low then 1 else x.low)≤x.high)&&decide (x.high≤20))&&decide (x.name=[])
 else false
def a4a (n:Nat):Nat→List Pt→List Int→Bool
 | _,[],op=>decide (op.length=1)||decide (n=0)
 | i,x::r,op=>(a4c x&&(decide (x.kids.length≤op.length)&&decide (op.drop (op.length - x.kids.length)=x.kids)))&&a4a n (i+1) r (op.take (op.length - x.kids.length)++[(i:Int)])
def b1K (e:List Pt):Bool:=a4a e.length 0 e []
mutual
def T.ok:T→Bool
 | .name s=>nameV s
 | .times lo hi t=>decide (0≤lo)&&decide (lo≤20)&&(decide (hi=-1)||decide ((if 1 > lo then 1 else lo)≤hi)&&decide (hi≤20))&&T.ok t
 | .many k ts=>(decide (k=2)||decide (k=3))&&decide (2≤ts.length)&&T.okL ts
def T.okL:List T→Bool
 | []=>true
 | t::ts=>T.ok t&&T.okL ts
end
theorem a7r {α:Type} (a b:List α):(a++b).drop ((a++b).length - b.length)=b:=by
 rw [List.length_append,Nat.add_sub_cancel];simp
theorem a7q {α:Type} (a b:List α):(a++b).take ((a++b).length - b.length)=a:=by
 rw [List.length_append,Nat.add_sub_cancel];simp
mutual
theorem a6E (n:Nat):∀ (t:T) (b:Nat) (r:List Pt) (op:List Int),t.ok=true→a4a n b (T.flat b t++r) op=a4a n (b+t.size) r (op++[T.root b t])
  | .name s, b, r, op, h => by
    simp only [T.ok] at h
    simp only [T.flat,List.singleton_append,a4a,a4c,if_true,h,T.size,T.root]
    simp
  | .times lo hi t, b, r, op, h => by
    simp only [T.ok,Bool.and_eq_true] at h
    have e:=a6E n t b ([⟨4,lo,hi,[],[((b+t.size:Nat):Int) - 1]⟩]++r) op h.2
    simp only [T.flat,List.append_assoc]
    rw [e]
    simp only [List.singleton_append,a4a]
    have ha:a4c ⟨4,lo,hi,[],[((b+t.size:Nat):Int) - 1]⟩=true:=by
      unfold a4c
      rw [if_neg (show ¬ (4:Int)=1 by decide),if_neg (show ¬ ((4:Int)=2∨(4:Int)=3) by decide),if_pos rfl]
      simp only [Bool.and_eq_true]
      exact ⟨⟨⟨⟨rfl,h.1.1.1⟩,h.1.1.2⟩,h.1.2⟩,rfl⟩
    have e1:=a7r op [T.root b t]
    have e2:=a7q op [T.root b t]
    rw [show ([((b+t.size:Nat):Int) - 1]:List Int)=[T.root b t] from rfl] at ha ⊢
    rw [ha,e1,e2]
    rw [decide_eq_true (by simp),decide_eq_true rfl]
    simp only [Bool.true_and,T.size,T.root]
    have e3:((b+(t.size+1):Nat):Int) - 1=((b+t.size:Nat):Int):=by omega
    have e4:b+t.size+1=b+(t.size+1):=by omega
    rw [e3,e4]
  | .many k ts, b, r, op, h => by
    simp only [T.ok,Bool.and_eq_true,Bool.or_eq_true,decide_eq_true_eq] at h
    have e:=a8j n ts b ([⟨k,0,0,[],rootsL b ts⟩]++r) op h.2
    simp only [T.flat,List.append_assoc]
    rw [e]
    simp only [List.singleton_append,a4a]
    have hl:=a1L ts b
    have ha:a4c ⟨k,0,0,[],rootsL b ts⟩=true:=by
      unfold a4c
      rw [if_neg (by show ¬ k=1;omega),if_pos (by show k=2∨k=3;exact h.1.1)]
      simp only [hl]
      rw [decide_eq_true (show 1 < ts.length by omega)];rfl
    have e1:=a7r op (rootsL b ts)
    have e2:=a7q op (rootsL b ts)
    rw [ha,e1,e2]
    rw [decide_eq_true (by simp),decide_eq_true rfl]
    simp only [Bool.true_and,T.size,T.root]
    have e3:((b+(T.sizeL ts+1):Nat):Int) - 1=((b+T.sizeL ts:Nat):Int):=by omega
    have e4:b+T.sizeL ts+1=b+(T.sizeL ts+1):=by omega
    rw [e3,e4]
theorem a8j (n:Nat):∀ (ts:List T) (b:Nat) (r:List Pt) (op:List Int),T.okL ts=true→a4a n b (T.flatL b ts++r) op=a4a n (b+T.sizeL ts) r (op++rootsL b ts)
  | [],b,r,op,h=>by simp [T.flatL,T.sizeL,rootsL]
  | t :: ts, b, r, op, h => by
    simp only [T.okL,Bool.and_eq_true] at h
    simp only [T.flatL,List.append_assoc]
    rw [a6E n t b _ op h.1,a8j n ts _ r _ h.2]
    simp [T.sizeL,rootsL,T.root,Nat.add_assoc]
end
theorem a8I {t:T} (h:t.ok=true):b1K (T.flat 0 t)=true:=by
 have:=a6E (T.flat 0 t).length t 0 [] [] h
 rw [List.append_nil] at this
 unfold b1K
 rw [this]
 simp [a4a]
theorem b4b {p:Int} {n:List UInt8} (h:SgW ⟨1,p,0,0,n⟩):nameV n=true:=by
  have:=b4L (l:=[⟨1,0,0,0,n⟩]) (f:=true) (p:=[]) (out:=[]) (by
    intro x hx
    simp only [List.mem_singleton] at hx
    subst hx
    cases h with
    | name h1 h2 h3=>exact .name h1 h2 h3) (by simp)
  obtain ⟨l',e,hs⟩:=this
  have e:lexV n=.ok l':=by
    simpa [a4V,b6g,a0V,←b3j] using e
  unfold nameV
  rw [e]
  match l',hs with
  | [y], hs =>
    have:=hs.1
    simp only at this ⊢
    rw [this];simp
theorem c1k {l:List Sg} (h:∀ x∈l,SgW x) {i:Nat} (hi:i < l.length):SgW (l.getD i default):=by
 rw [List.getD_eq_getElem?_getD,List.getElem?_eq_getElem hi];exact h _ (List.getElem_mem hi)
theorem c1D {ts:List T} (h:∀ i,i < ts.length→(ts.getD i default).ok=true):T.okL ts=true:=by
  induction ts with
  | nil=>rfl
  | cons t ts ih =>
    simp only [T.okL,Bool.and_eq_true]
    exact ⟨h 0 (by simp),ih fun i hi=>by have:=h (i+1) (by simpa using hi);simpa using this⟩
theorem kd1 {x:Sg} (hw:SgW x) (h:x.kind=1):SgW ⟨1,0,0,0,x.name⟩:=by
 cases hw with
 | @name a n h1 h2 h3=>exact .name h1 h2 h3
 | open_=>exact absurd (show (2:Int)=1 from h) (by decide)
 | shut=>exact absurd (show (3:Int)=1 from h) (by decide)
 | or_=>exact absurd (show (4:Int)=1 from h) (by decide)
 | times _=>exact absurd (show (5:Int)=1 from h) (by decide)
theorem kd5 {x:Sg} (hw:SgW x) (h:x.kind=5):TimesOk x.low x.high:=by
 cases hw with
 | name _ _ _=>exact absurd (show (1:Int)=5 from h) (by decide)
 | open_=>exact absurd (show (2:Int)=5 from h) (by decide)
 | shut=>exact absurd (show (3:Int)=5 from h) (by decide)
 | or_=>exact absurd (show (4:Int)=5 from h) (by decide)
 | times h'=>exact h'
theorem b8Z {l:List Sg} (hW:∀ x∈l,SgW x) {v p q:Nat} {t:T} (h:Seg l v p q t):t.ok=true:=by
  induction h with
  | name p h =>
    have hp:=a2D (l:=l) (i:=p) (by rw [h];decide)
    have hw:=c1k hW hp
    rw [a8Y hp] at h
    exact b4b (kd1 hw h)
  | group _ _ _ _ _ _ ih=>exact ih
  | item _ _ _ _ _ ih=>exact ih
  | times p q t hs h5 ih =>
    have hp:=a2D (l:=l) (i:=q) (by rw [h5];decide)
    have hw:=c1k hW hp
    rw [a8Y hp] at h5
    obtain ⟨⟨h1,h2⟩,h3⟩:=kd5 hw h5
    simp only [T.ok,Bool.and_eq_true,Bool.or_eq_true,decide_eq_true_eq]
    refine ⟨⟨⟨h1,h2⟩,?_⟩,ih⟩
    rcases h3 with h3 | h3
    · exact .inl h3
    · right;split <;> omega
  | row1 _ _ _ _ ih=>exact ih
  | row p q ts c h2 _ _ _ ih =>
    simp only [T.ok,Bool.and_eq_true,Bool.or_eq_true,decide_eq_true_eq]
    exact ⟨⟨.inl trivial,h2⟩,c1D ih⟩
  | choice1 _ _ _ _ ih=>exact ih
  | choice p q ts c e h2 _ _ _ _ ih =>
    simp only [T.ok,Bool.and_eq_true,Bool.or_eq_true,decide_eq_true_eq]
    exact ⟨⟨.inr trivial,h2⟩,c1D ih⟩
end Go.Proofs.YtjdmfohncgkdoaaGreatDoor
namespace Go.Proofs.YtjdmfohncgkdoaaGreatDoor
set_option linter.unusedSimpArgs false
set_option linter.unusedVariables false
set_option maxRecDepth 100000
set_option maxHeartbeats 1000000
open Go.RowKit
theorem a4L {α:Type} (d:α) {a b:List α} (hl:a.length=b.length) (h:∀ j,j < a.length→a.getD j d=b.getD j d):a=b:=by
 apply List.ext_getElem hl
 intro i h1 h2
 have:=h i h1
 rwa [List.getD_eq_getElem?_getD,List.getD_eq_getElem?_getD,List.getElem?_eq_getElem h1,List.getElem?_eq_getElem h2] at this
@[reducible] def PtB (l:List Pt):Prop:=l.length≤100000∧∀ i,i < l.length→(l.getD i default).kids.length≤100000∧(l.getD i default).name.length≤1000000
theorem b4e (a:List Int) {lo n k:Nat} (hk:k < n) (h:lo+n≤a.length):((a.drop lo).take n).getD k 0=a.getD (lo+k) 0:=by
 rw [List.getD_eq_getElem?_getD,List.getD_eq_getElem?_getD,List.getElem?_take,if_pos hk,List.getElem?_drop]
theorem c3w (g lo n:Nat) (a b:List Int) (ha:a.length≤1000000) (hb:b.length≤1000000) (hn:lo+n≤a.length):a5F Tryz.prog 115 [.os 8001 g lo n,a1z b] [(8001,⟨g,a.length,1,3,0,a3q a⟩)] (a0s (decide ((a.drop lo).take n=b))) [(8001,⟨g,a.length,1,3,0,a3q a⟩)]:=by
 have hcl:((a.drop lo).take n).length=n:=by rw [List.length_take,List.length_drop];omega
 intro c
 refine a0v Tryz.func115 rfl kr _ _ _ _ rfl 26 rfl rfl (fun X ok hX=>?_)
 refine ru 15 ?_
 refine wdc (fun hr0 hc0=>?_) (fun hr0 hc0=>?_)
 ·refine ru 7 ?_
  refine fr1 ok hX rw1 (()) (trivial) (by rw [decide_eq_false (fun h=>hc0 (by rw [←h,hcl]))];exact kza) ?_
  exact ⟨⟨_,rfl,.of (fun i j _ _=>.fz _ _ (.imm _))⟩,trivial⟩
 refine ru 11 ?_
 refine a0n (α:=Nat) (fun x c=>⟨26,[(0,.v (.os 8001 g lo n)),(1,.v (a1z b)),(12,.v (a0h n)),(13,.v (a0h x))],[(8001,⟨g,a.length,1,3,0,a3q a⟩)],c⟩) (fun x=>x≤n∧∀ j,j < x→a.getD (lo+j) 0=b.getD j 0) (fun x=>n - x) (0) (by exact ⟨Nat.zero_le _,fun j hj=>absurd hj (Nat.not_lt_zero _)⟩) (a0c rfl (Nat.le_refl _) tsa hsa) (fun k c hx NhL1 hL1=>?_)
 (try dsimp only at hx hL1 ⊢)
 obtain ⟨hk,hE⟩:=hx
 refine ru 6 ?_
 refine wdc (fun hr1 hc1=>?_) (fun hr1 hc1=>?_)
 ·refine ru 15 ?_
  first
  | refine a3K 19 (HOp.val (v':=a0h (a.getD (lo+k) 0)) (a0A ty_3.h rfl omy omy (fun h=>(by first | rfl | cases h))) (rfl)) rfl rfl (a0C rfl) rfl rfl (k':=4) rfl ?_
  | refine a3K 19 (HOp.val (v':=a0h (a.getD (lo+k) 0)) (a0o ty_3.h rfl omy (fun h=>(by first | rfl | cases h))) (rfl)) rfl rfl a0e rfl rfl (k':=4) rfl ?_
  refine ru 3 ?_
  first
  | refine a3K 23 (HOp.val (v':=a0h (b.getD k 0)) (a0A ty_3.h rfl omy omy (fun h=>(by first | rfl | cases h))) (rfl)) rfl rfl (a0C rfl) rfl rfl (k':=8) rfl ?_
  | refine a3K 23 (HOp.val (v':=a0h (b.getD k 0)) (a0o ty_3.h rfl omy (fun h=>(by first | rfl | cases h))) (rfl)) rfl rfl a0e rfl rfl (k':=8) rfl ?_
  refine ru 3 ?_
  refine wdc (fun hr2 hc2=>?_) (fun hr2 hc2=>?_)
  ·refine ru 8 ?_
   refine a0f ?_
   refine ru 2 ?_
   refine fr1 ok hX rw1 (()) (trivial) (by rw [decide_eq_false (fun h=>hc2 (by rw [←h,b4e a om hn]))];exact kza) ?_
   exact ⟨⟨_,rfl,.of (fun i j _ _=>.fz _ _ (.imm _))⟩,trivial⟩
  refine ru 7 ?_
  exact hL1 (k+1) _ _ (by (try dsimp only);exact ⟨by omega,fun j hj=>by by_cases e:j=k;(· subst e;exact hc2);exact hE j om⟩) (by (try dsimp only);omega) (a0c rfl (Nat.le_refl _) tsa hsa)
 refine ru 2 ?_
 refine a0d ?_
 refine ru 8 ?_
 refine fr1 ok hX rw1 (()) (trivial) (by rw [decide_eq_true (a4L 0 om (fun j hj=>by rw [b4e a om hn];exact hE j om))];exact kza) ?_
 exact ⟨⟨_,rfl,.of (fun i j _ _=>.fz _ _ (.imm _))⟩,trivial⟩
theorem a8D (a b:Int):(a == b)=decide (a=b):=rfl
theorem c5d (n:Nat):decide ((n:Int)=0)=decide (n=0):=decide_eq_decide.2 (by omega)
theorem b9e (n:Nat):decide ((n:Int)=1)=decide (n=1):=decide_eq_decide.2 (by omega)
theorem b6Y (n:Nat):decide (1 < (n:Int))=decide (1 < n):=decide_eq_decide.2 (by omega)
theorem b8a (s:List UInt8) (hs:s.length≤1000000):a0q Tryz.prog 137 [a0p s] (a0s (nameV s)):=by
  have hlen:=a6A s
  have hlx:=c4R s hs
  have hN:nameV s=(match b6p (lexV s) with | (l,_,e)=>decide (e=0)&&decide (l.length=1)&&decide ((l.getD 0 default).kind=1)&&decide ((l.getD 0 default).name=s)):=by
    unfold nameV
    cases hv:lexV s with
    | error e =>
      have h:=a7M hv
      have h2:¬ (e.2=0):=h
      show false=(decide (e.2=0)&&_&&_&&_)
      rw [decide_eq_false h2];rfl
    | ok l =>
      match l with
      | []=>rfl
      | [x]=>rfl
      | x::y::l=>simp [b6p]
  generalize hr:b6p (lexV s)=r at hlen hlx hN
  rw [hN]
  obtain ⟨l,a,e⟩:=r
  refine a0m Tryz.func137 rfl kr _ _ _ rfl 34 rfl rfl (fun w F=>?_)
  refine ru 8 ?_
  refine cll (hlx) ?_
  refine ru 23 ?_
  refine ry (a0h (l.getD 0 default).kind) rfl (fun hb=>rfl) ?_
  refine ru 7 ?_
  refine ry (a0p (l.getD 0 default).name) rfl (fun hb=>rfl) ?_
  refine ru 7 ?_
  refine rt1 ?_
  exact a1d (by simp only [a8D,b9e])
theorem c2J (x:Pt) (hk:x.kids.length≤1000000) (hn:x.name.length≤1000000):a0q Tryz.prog 114 [ptH x] (a0s (a4c x)):=by
 unfold a4c
 refine a0m Tryz.func114 rfl kr _ _ _ rfl 89 rfl rfl (fun w F=>?_)
 refine ru 20 ?_
 refine wdc (fun hr0 hc0=>?_) (fun hr0 hc0=>?_)
 ·refine ru 19 ?_
  first
  | refine stg 22 (fun hb=>a0i (xs:=[_]) (b8a x.name hn) ⟨rfl,trivial⟩ ⟨(Fz.eq rfl),trivial⟩) rfl rfl rfl rfl rfl ?_
  | refine sth 22 (fun hb=>a0i (xs:=[_]) (b8a x.name hn) ⟨rfl,trivial⟩ ⟨(Fz.eq rfl),trivial⟩) rfl rfl rfl rfl rfl ?_
  refine ru 7 ?_
  refine rt1 ?_
  rw [if_pos hc0];exact a1d (by simp only [a8D,c5d])
 refine ru 7 ?_
 refine wdc (fun hr1 hc1=>?_) (fun hr1 hc1=>?_)
 ·refine ru 2 ?_
  refine wdc (fun hr2 hc2=>?_) (fun hr2 hc2=>?_)
  ·refine ru 27 ?_
   refine rt1 ?_
   rw [if_neg hc0,if_pos (.inl hc1)];exact a1d (by simp only [a8D,b6Y])
  exfalso;exact absurd hr2 (by rw [hc1];decide)
 refine ru 5 ?_
 refine wdc (fun hr2 hc2=>?_) (fun hr2 hc2=>?_)
 ·refine ru 27 ?_
  refine rt1 ?_
  rw [if_neg hc0,if_pos (.inr hc2)];exact a1d (by simp only [a8D,b6Y])
 refine ru 6 ?_
 refine wdc (fun hr3 hc3=>?_) (fun hr3 hc3=>?_)
 ·refine ru 51 ?_
  refine rt1 ?_
  rw [if_neg hc0,if_neg (show ¬ (x.kind=2∨x.kind=3) by omega),if_pos hc3];exact a1d (by simp only [a8D,b9e])
 refine ru 9 ?_
 refine rt1 ?_
 rw [if_neg hc0,if_neg (show ¬ (x.kind=2∨x.kind=3) by omega),if_neg hc3];exact .imm _
theorem b5A {n i:Nat} {e:List Pt} {op:List Int} (hi:i < e.length):a4a n i (e.drop i) op=((a4c (e.getD i default)&&(decide ((e.getD i default).kids.length≤op.length)&&decide (op.drop (op.length - (e.getD i default).kids.length)=(e.getD i default).kids)))&&a4a n (i+1) (e.drop (i+1)) (op.take (op.length - (e.getD i default).kids.length)++[(i:Int)])):=by
 have h:e.drop i=e.getD i default::e.drop (i+1):=by
  rw [List.getD_eq_getElem?_getD,List.getElem?_eq_getElem hi,List.drop_eq_getElem_cons hi];rfl
 rw [h];rfl
theorem c3Z {id g lo lo' n n':Nat} (h1:lo=lo') (h2:n=n'):HV.os id g lo n=HV.os id g lo' n':=by subst h1;subst h2;rfl
instance frz_ptH (x:Pt):Frz (ptH x):=⟨.agg _ _ _ fun j hj=>b1t x j⟩
theorem b4I {op:List Int} {k:Nat} (h:k≤op.length):(op.drop (op.length - k)).take k=op.drop (op.length - k):=List.take_of_length_le (by rw [List.length_drop];omega)
theorem b9i {x:Pt} {op:List Int} (h:(!a4c x||decide ((op.length:Int) - x.kids.length < 0)||!decide ((op.drop (op.length - x.kids.length)).take x.kids.length=x.kids))=true):(a4c x&&(decide (x.kids.length≤op.length)&&decide (op.drop (op.length - x.kids.length)=x.kids)))=false:=by
 by_cases hk:x.kids.length≤op.length
 ·rw [b4I hk,decide_eq_false (show ¬ ((op.length:Int) - x.kids.length < 0) by omega)] at h
  rw [decide_eq_true hk]
  cases ha:a4c x <;> rw [ha] at h <;> simp at h ⊢
  exact h
 ·rw [decide_eq_false hk];simp
theorem b7y {x:Pt} {op:List Int} (h:(!a4c x||decide ((op.length:Int) - x.kids.length < 0)||!decide ((op.drop (op.length - x.kids.length)).take x.kids.length=x.kids))=false):(a4c x&&(decide (x.kids.length≤op.length)&&decide (op.drop (op.length - x.kids.length)=x.kids)))=true∧x.kids.length≤op.length:=by
 simp only [Bool.or_eq_false_iff,Bool.not_eq_false',decide_eq_false_iff_not] at h
 have hk:x.kids.length≤op.length:=by omega
 have h2:=h.2
 rw [b4I hk] at h2
 exact ⟨by rw [h.1.1,decide_eq_true hk,h2];rfl,hk⟩
theorem b9v {op:List Int} {N k g ty:Nat} {r:Int} {F:Nat→Nat→HV} (hN:N=k) (hk:k≤op.length) (hF:∀ j,F 0 j=a0h r):a5M ⟨g,N+1,1,ty,0,cat N (a3q op) F⟩ ⟨g,(op.take k++[r]).length,1,ty,0,a3q (op.take k++[r])⟩:=by
 subst hN
 have hl:(op.take N).length=N:=by rw [List.length_take];omega
 exact a0x (enc:=fun x _=>a0h x) (d:=0) (out:=op.take N) hl.symm (fun i j hi hj=>by
  have:(op.take N).getD i 0=op.getD i 0:=by rw [List.getD_eq_getElem?_getD,List.getD_eq_getElem?_getD,List.getElem?_take,if_pos (by omega)]
  show Sb (a0h (op.getD i 0)) (a0h ((op.take N).getD i 0))
  rw [this];exact .refl _) (fun j hj=>by rw [hF];exact .refl _)
theorem c2q {a:Bool} {ol kl:Nat} (h:(!a||decide ((ol:Int) - kl < 0))=false):ol - kl+kl≤ol:=by simp at h;omega
theorem b8t (e:List Pt) (he:PtB e):a0q Tryz.prog 81 [a5N e] (a0s (b1K e)):=by
 have hel:=he.1
 refine a0m Tryz.func81 rfl kr _ _ _ rfl 51 rfl rfl (fun w F=>?_)
 refine ru 19 ?_
 refine a4v 3 8001 1 3 ((a3q [])) rfl (by decide) rfl (c':=1) rfl ?_
 refine a0n (α:=Nat×List Int×Nat) (fun x c=>⟨51,[(0,.v (a5N e)),(3,.v (.os 8001 x.2.2 0 x.2.1.length)),(7,.v (a5N e)),(8,.v (a0h e.length)),(9,.v (a0h x.1))],[(8001,⟨x.2.2,x.2.1.length,1,3,0,a3q x.2.1⟩)],c⟩) (fun x=>x.1≤e.length∧x.2.1.length≤x.1∧a4a e.length x.1 (e.drop x.1) x.2.1=b1K e) (fun x=>e.length - x.1) ((0,[],0)) (by exact ⟨Nat.zero_le _,Nat.zero_le _,rfl⟩) (a0c rfl (Nat.le_refl _) tsa hsa) (fun x c hx NhL1 hL1=>?_)
 revert hx hL1;obtain ⟨i,op,g⟩:=x;intro hx hL1;dsimp only at hx hL1 ⊢
 obtain ⟨hi,hop,hR⟩:=hx
 refine ru 6 ?_
 refine wdc (fun hr0 hc0=>?_) (fun hr0 hc0=>?_)
 ·skip
  have hil:i < e.length:=om;have hkb:=he.2 i hil;have hst:=b5A (n:=e.length) (op:=op) hil
  refine ru 9 ?_
  refine rvl (ptH (e.getD i default)) (rfl) ?_
  refine ru 11 ?_
  refine rvl (a1z (e.getD i default).kids) (rfl) ?_
  refine ru 8 ?_
  first
  | refine a3K 20 (HOp.val (v':=ptH (e.getD i default)) (a0A ty_106.h rfl omy omy (fun h=>(by first | rfl | cases h))) (rfl)) rfl rfl (a0C rfl) rfl rfl (k':=1) rfl ?_
  | refine a3K 20 (HOp.val (v':=ptH (e.getD i default)) (a0o ty_106.h rfl omy (fun h=>(by first | rfl | cases h))) (rfl)) rfl rfl a0e rfl rfl (k':=1) rfl ?_
  refine clx (c2J (e.getD i default) om om) ?_
  refine ru 8 ?_
  first
  | refine a5Q 30 7 27 false _ (fun hb=>HOp.val (v':=.os 8001 g (op.length - (e.getD i default).kids.length) (e.getD i default).kids.length) (a9v el_104.h rfl (.inr ⟨_,_,rfl,rfl⟩) (.inl ⟨rfl,rfl⟩) (by first | exact Nat.le_of_ble_eq_true rfl | (simp at hb;first | omega | (dsimp only;omega) | (simp <;> omega)) | omega | (dsimp only;omega)) (by first | exact Nat.le_of_ble_eq_true rfl | (simp at hb;first | omega | (dsimp only;omega) | (simp <;> omega)) | omega | (dsimp only;omega)) (by first | exact Nat.le_of_ble_eq_true rfl | (simp at hb;first | omega | (dsimp only;omega) | (simp <;> omega)) | omega | (dsimp only;omega))) (c3Z (by simp at hb;omega) (by simp at hb;omega))) rfl rfl rfl rfl a0e rfl rfl rfl (k':=11) rfl ?_
  | refine a5Q 30 7 27 false _ (fun hb=>HOp.val (v':=.os 8001 g (op.length - (e.getD i default).kids.length) (e.getD i default).kids.length) (a9s el_104.h rfl (.inr ⟨_,_,rfl,rfl⟩) (.inl ⟨rfl,rfl⟩) (by first | exact Nat.le_of_ble_eq_true rfl | (simp at hb;first | omega | (dsimp only;omega) | (simp <;> omega)) | omega | (dsimp only;omega)) (by first | exact Nat.le_of_ble_eq_true rfl | (simp at hb;first | omega | (dsimp only;omega) | (simp <;> omega)) | omega | (dsimp only;omega)) (by first | exact Nat.le_of_ble_eq_true rfl | (simp at hb;first | omega | (dsimp only;omega) | (simp <;> omega)) | omega | (dsimp only;omega))) (c3Z (by simp at hb;omega) (by simp at hb;omega))) rfl rfl rfl rfl (a0C rfl) rfl rfl rfl (k':=11) rfl ?_
  refine ru 1 ?_
  first
  | refine a5Q 32 7 27 false _ (fun hb=>HOp.val (v':=a1z (e.getD i default).kids) (a0A ty_104.h rfl (by first | exact Nat.le_of_ble_eq_true rfl | (simp at hb;first | omega | (dsimp only;omega) | (simp <;> omega)) | omega | (dsimp only;omega)) (by first | exact Nat.le_of_ble_eq_true rfl | (simp at hb;first | omega | (dsimp only;omega) | (simp <;> omega)) | omega | (dsimp only;omega)) (fun h=>(by first | rfl | cases h))) (rfl)) rfl rfl rfl rfl (a0C rfl) rfl rfl rfl (k':=13) rfl ?_
  | refine a5Q 32 7 27 false _ (fun hb=>HOp.val (v':=a1z (e.getD i default).kids) (a0o ty_104.h rfl (by first | exact Nat.le_of_ble_eq_true rfl | (simp at hb;first | omega | (dsimp only;omega) | (simp <;> omega)) | omega | (dsimp only;omega)) (fun h=>(by first | rfl | cases h))) (rfl)) rfl rfl rfl rfl a0e rfl rfl rfl (k':=13) rfl ?_
  refine a5Q 33 7 27 false _ (fun hb=>a0B (xs:=[_,_]) (pre:=[(8001,_)]) (c3w g (op.length - (e.getD i default).kids.length) (e.getD i default).kids.length op (e.getD i default).kids om om (c2q hb)) ⟨rfl,⟨rfl,trivial⟩⟩) rfl rfl rfl rfl (a0g rfl a0e) rfl rfl rfl (k':=14) rfl ?_
  refine ru 2 ?_
  refine b4f kr kr (c':=c+18) rfl ?_
  refine ru 1 ?_
  refine wdc (fun hr1 hc1=>?_) (fun hr1 hc1=>?_)
  ·skip
   have hf:=b9i hr1;rw [hf,Bool.false_and] at hst
   refine ru 9 ?_
   refine a0f ?_
   refine ru 2 ?_
   refine rt1 ?_
   rw [←hR,hst];exact .imm _
  obtain ⟨hf,hkl⟩:=b7y hr1;rw [hf,Bool.true_and] at hst
  refine ru 7 ?_
  refine a0t 40 (a0b (id:=40) (hs:=[_]) ei_104.h omx rfl omx ⟨rfl,rfl,rfl,rfl,trivial⟩) rfl rfl a0e rfl rfl (c':=c+19) rfl ?_
  first
  | refine a0t 41 (a0a ei_104.h omy rfl omy omy (a0u rfl omy) omy rfl) rfl rfl (a0g rfl (a0C rfl)) rfl rfl (c':=c+20) rfl ?_
  | refine a0t 41 (a0a ei_104.h omy rfl omy omy (a0G rfl omy) omy rfl) rfl rfl (a0g rfl (a0C rfl)) rfl rfl (c':=c+20) rfl ?_
  | refine a0t 41 (a0a ei_104.h omy rfl omy omy (a0F rfl) omy rfl) rfl rfl (a0g rfl a0e) rfl rfl (c':=c+20) rfl ?_
  | refine a0t 41 (a0a ei_104.h omy rfl omy omy (a0w 1 (fun _ _=>default) rfl) omy rfl) rfl rfl (a0g rfl a0e) rfl rfl (c':=c+20) rfl ?_
  refine ru 8 ?_
  exact hL1 ((i+1,op.take (op.length - (e.getD i default).kids.length)++[(i:Int)],c+19)) _ _ (by (try dsimp only);exact ⟨by omega,by rw [List.length_append,List.length_take];show _+1≤_;omega,by rw [←hst];exact hR⟩) (by (try dsimp only);omega) (a0c rfl (Nat.le_refl _) (tsr rfl (a0K.cons rfl (by dsimp only;exact a1N (by rw [List.length_append,List.length_take];show _+1=_+1;omega)) tsa)) (a0k.cons rfl (by dsimp only;exact b9v (k:=op.length - (e.getD i default).kids.length) (r:=(i:Int)) om om (fun _=>rfl)) a0k.nil))
 refine ru 2 ?_
 refine a0d ?_
 refine ru 16 ?_
 refine rt1 ?_
 rw [←hR,List.drop_eq_nil_of_le om];exact a1d (by simp only [a4a,a8D,b9e,c5d])
end Go.Proofs.YtjdmfohncgkdoaaGreatDoor
namespace Go.Proofs.YtjdmfohncgkdoaaGreatDoor
set_option linter.unusedSimpArgs false
set_option linter.unusedVariables false
def T.kind:T→Int
 | .name _=>1
 | .times _ _ _=>4
 | .many k _=>k
def inB (p k:Int):Bool:=if p=3 then decide (k=3) else if p=2 then decide (k=2)||decide (k=3) else !decide (k=1)
def a1n (b:Bool) (l:List Sg):List Sg:=if b=true then [⟨2,0,0,0,[]⟩]++l++[⟨3,0,0,0,[]⟩] else l
def orS (k:Int) (f:Bool):List Sg:=if k=3∧f=false then [⟨4,0,0,0,[]⟩] else []
mutual
def T.sig:T→List Sg
 | .name s=>[⟨1,0,0,0,s⟩]
 | .times lo hi t=>a1n (inB 4 t.kind) (T.sig t)++[⟨5,0,lo,hi,[]⟩]
 | .many k ts=>T.sigL k true ts
def T.sigL (k:Int):Bool→List T→List Sg
 | _,[]=>[]
 | f,t::ts=>orS k f++a1n (inB k t.kind) (T.sig t)++T.sigL k false ts
end
theorem a3w (b:Bool) (l:List Sg):(a1n b l).length≤l.length+2∧l.length≤(a1n b l).length:=by
 unfold a1n;split
 ·simp;omega
 ·omega
theorem c1E (k:Int) (f:Bool):(orS k f).length≤1:=by unfold orS;split <;> simp
theorem T.sigL_snoc (k:Int):∀ (ts:List T) (f:Bool) (t:T),T.sigL k f (ts++[t])=T.sigL k f ts++orS k (f&&decide (ts=[]))++a1n (inB k t.kind) t.sig
 | [],f,t=>by simp [T.sigL]
 | x::ts,f,t=>by simp [T.sigL,T.sigL_snoc k ts false t]
mutual
theorem a8b:∀ t:T,t.ok=true→t.sig.length+3≤4 * t.size∧0 < t.sig.length
  | .name s,_=>by simp [T.sig,T.size]
  | .times lo hi t, h => by
    simp only [T.ok,Bool.and_eq_true] at h
    have a:=a8b t h.2
    have b:=a3w (inB 4 t.kind) t.sig
    simp only [T.sig,T.size,List.length_append,List.length_singleton];omega
  | .many k ts, h => by
    simp only [T.ok,Bool.and_eq_true,decide_eq_true_eq] at h
    have a:=b4C k ts h.2 true
    have b:=c0E k ts h.2 (by omega)
    simp only [T.sig,T.size]
    simp only [if_true] at a
    exact ⟨by omega,b⟩
theorem b4C (k:Int):∀ ts:List T,T.okL ts=true→∀ f,(T.sigL k f ts).length+(if f=true then min 1 ts.length else 0)≤4 * T.sizeL ts
  | [],_,f=>by simp [T.sigL,T.sizeL]
  | t :: ts, h, f => by
    simp only [T.okL,Bool.and_eq_true] at h
    have a:=a8b t h.1
    have b:=a3w (inB k t.kind) t.sig
    have d:=b4C k ts h.2 false
    have e:=c1E k f
    simp only [Bool.false_eq_true,if_false] at d
    simp only [T.sigL,T.sizeL,List.length_append,List.length_cons]
    cases f with
    | true => have : (orS k true).length = 0 := by unfold orS; rw [if_neg (by simp)]; rfl
              simp only [if_true];omega
    | false=>simp only [Bool.false_eq_true,if_false];omega
theorem c0E (k:Int):∀ ts:List T,T.okL ts=true→0 < ts.length→0 < (T.sigL k true ts).length
  | [],_,h=>absurd h (by simp)
  | t :: ts, h, _ => by
    simp only [T.okL,Bool.and_eq_true] at h
    have a:=a8b t h.1
    have b:=a3w (inB k t.kind) t.sig
    simp only [T.sigL,List.length_append];omega
end
def AtP (e:List Pt) (b:Nat) (l:List Pt):Prop:=∃ u v,e=u++l++v∧u.length=b
theorem c2Q {e:List Pt} {b:Nat} {l:List Pt} (h:AtP e b l) {i:Nat} (hi:i < l.length):e.getD (b+i) default=l.getD i default∧b+i < e.length:=by
 obtain ⟨u,v,rfl,rfl⟩:=h
 refine ⟨?_,by simp only [List.length_append];omega⟩
 rw [List.append_assoc,List.getD_eq_getElem?_getD,List.getElem?_append_right (by omega),Nat.add_sub_cancel_left,List.getElem?_append_left hi,←List.getD_eq_getElem?_getD]
theorem a6f {e:List Pt} {b:Nat} {l k:List Pt} (h:AtP e b (l++k)):AtP e b l:=by
 obtain ⟨u,v,rfl,hu⟩:=h
 exact ⟨u,k++v,by simp,hu⟩
theorem b6W {e:List Pt} {b b':Nat} {l k:List Pt} (h:AtP e b (l++k)) (hb:b'=b+l.length):AtP e b' k:=by
 obtain ⟨u,v,rfl,hu⟩:=h
 exact ⟨u++l,v,by simp,by rw [List.length_append,hu,hb]⟩
theorem b2j:∀ (ts:List T) (b i:Nat),i < ts.length→∃ v,T.flatL b ts=T.flatL b (ts.take i)++T.flat (b+T.sizeL (ts.take i)) (ts.getD i default)++v
  | t::ts,b,0,_=>⟨T.flatL (b+t.size) ts,by simp [T.flatL,T.sizeL]⟩
  | t :: ts, b, i + 1, h => by
    obtain ⟨v,hv⟩:=b2j ts (b+t.size) i (by simpa using h)
    refine ⟨v,?_⟩
    simp only [T.flatL,List.take_succ_cons,T.sizeL,hv,List.getD_cons_succ,List.append_assoc,Nat.add_assoc]
theorem a8d {e:List Pt} {b i:Nat} {ts:List T} {k:Int} (h:AtP e b (T.flat b (.many k ts))) (hi:i < ts.length):AtP e (b+T.sizeL (ts.take i)) (T.flat (b+T.sizeL (ts.take i)) (ts.getD i default)):=by
 obtain ⟨v,hv⟩:=b2j ts b i hi
 simp only [T.flat,hv] at h
 have h:=a6f (a6f h)
 exact b6W h (by rw [T.flatL_len])
theorem a4n:∀ (ts:List T) (b i:Nat),i < ts.length→(rootsL b ts).getD i 0=T.root (b+T.sizeL (ts.take i)) (ts.getD i default)
  | t::ts,b,0,_=>by simp [rootsL,T.root,T.sizeL]
  | t :: ts, b, i + 1, h => by
    have:=a4n ts (b+t.size) i (by simpa using h)
    simp only [rootsL,List.getD_cons_succ,List.take_succ_cons,T.sizeL,this,Nat.add_assoc]
def T.top (b:Nat):T→Pt
 | .name s=>⟨1,0,0,s,[]⟩
 | .times lo hi t=>⟨4,lo,hi,[],[((b+t.size:Nat):Int) - 1]⟩
 | .many k ts=>⟨k,0,0,[],rootsL b ts⟩
theorem a2G (b:Nat) (t:T):(t.top b).kind=t.kind:=by cases t <;> rfl
theorem b9h (b:Nat) (t:T):(T.flat b t).getD (t.size - 1) default=t.top b:=by
 cases t with
 | name s=>rfl
 | times lo hi t=>simp only [T.flat,T.size,T.top,Nat.add_sub_cancel];rw [←T.flat_len b t];exact a2E _ _ _
 | many k ts=>simp only [T.flat,T.size,T.top,Nat.add_sub_cancel];rw [←T.flatL_len b ts];exact a2E _ _ _
theorem a3Y {e:List Pt} {b:Nat} {t:T} (h:AtP e b (T.flat b t)):e.getD (b+t.size - 1) default=t.top b∧b+t.size≤e.length:=by
 have hs:=t.size_pos
 have:=c2Q h (i:=t.size - 1) (by rw [T.flat_len];omega)
 rw [b9h,show b+(t.size - 1)=b+t.size - 1 by omega] at this
 exact ⟨this.1,by omega⟩
theorem a9O (k:Int):∀ (ts:List T) (f:Bool) (i:Nat),i < ts.length→T.sigL k f ts=T.sigL k f (ts.take i)++(orS k (f&&decide (i=0))++a1n (inB k (ts.getD i default).kind) (ts.getD i default).sig)++T.sigL k false (ts.drop (i+1))
  | t::ts,f,0,_=>by simp [T.sigL]
  | t :: ts, f, i + 1, h => by
    have:=a9O k ts false i (by simpa using h)
    simp only [T.sigL,List.take_succ_cons,List.getD_cons_succ,List.drop_succ_cons]
    rw [this]
    simp
theorem a3G (k:Int) (ts:List T) (i:Nat) (h:i < ts.length):T.sigL k true (ts.take (i+1))=T.sigL k true (ts.take i)++(orS k (decide (i=0))++a1n (inB k (ts.getD i default).kind) (ts.getD i default).sig):=by
 have e:ts.take (i+1)=ts.take i++[ts.getD i default]:=by
  rw [List.take_add_one,List.getD_eq_getElem?_getD,List.getElem?_eq_getElem h];rfl
 rw [e,T.sigL_snoc]
 have:decide (ts.take i=[])=decide (i=0):=decide_eq_decide.2 (by
  rw [List.take_eq_nil_iff]
  constructor
  ·rintro (h1 | h1)
   ·exact h1
   ·subst h1;exact absurd h (Nat.not_lt_zero _)
  ·exact .inl)
 rw [this]
 simp
end Go.Proofs.YtjdmfohncgkdoaaGreatDoor
