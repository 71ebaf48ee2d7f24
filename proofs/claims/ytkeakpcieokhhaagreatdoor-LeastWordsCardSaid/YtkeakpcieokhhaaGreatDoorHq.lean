/-
  A region that draws its order: every order leaves the same. Plain lemmas, no program in sight.
-/
import Derived.Test.YtkeakpcieokhhaaGreatDoorHc
import Derived.Laws.IdiomStrings
import Derived.Recover
import Derived.Laws.RangeString
import Derived.Test.YtkeakpcieokhhaaGreatDoorChecked
import Derived.RangeFuncLeaves
set_option linter.unusedSimpArgs false
set_option linter.unusedVariables false
namespace Go.Proofs.YtkeakpcieokhhaaGreatDoor
section
open Go.RowKit
def dstAt (l:List Oper) (k:Nat):Option Nat:=(l[k]?).bind (·.dst)
def spAt (ss:List HSpec) (k:Nat):HSpec:=ss.getD k ⟨.v default,[],[],[]⟩
def trun (l:List Oper) (ss:List HSpec) (t0:Nat→Option TV) (S:Nat→Bool):Nat→Nat→Option TV
 | 0,t=>t0 t
 | k+1,t=>if S k=true∧dstAt l k=some t then some (spAt ss k).tv else trun l ss t0 S k t
def hrun (ss:List HSpec) (h0:Nat→Option HObj) (S:Nat→Bool):Nat→Nat→Option HObj
 | 0=>h0
 | k+1=>if S k=true then hupd (hrun ss h0 S k) (spAt ss k).post else hrun ss h0 S k
def dtm (o:Oper) (sp:HSpec) (tm:List (Nat×TV)):List (Nat×TV):=match o.dst with | some d=>(d,sp.tv)::tm | none=>tm
inductive VRun (P:Program) (ops:Array Oper) (n clk:Nat) (tm0:List (Nat×TV)) (hp0:List (Nat×HObj)):List Oper→List HSpec→List (Nat×TV)→List (Nat×HObj)→Prop
 | nil:VRun P ops n clk tm0 hp0 [] [] tm0 hp0
 | snoc (l:List Oper) (ss:List HSpec) (tm:List (Nat×TV)) (hp:List (Nat×HObj)) (o:Oper) (sp:HSpec) (h:VRun P ops n clk tm0 hp0 l ss tm hp) (hst:HStep P ops o (tget tm) (clk+l.length) sp) (hpre:∀ p∈sp.pre,hget hp p.1=some p.2) (hd:∀ d,o.dst=some d→d < n) :
   VRun P ops n clk tm0 hp0 (l++[o]) (ss++[sp]) (dtm o sp tm) (sp.post++hp)
section
variable {l:List Oper} {ss:List HSpec} {t0:Nat→Option TV} {h0:Nat→Option HObj}
theorem a1E {l':List Oper} {ss':List HSpec} {S S':Nat→Bool} {t:Nat}:∀ m,(∀ k,k < m→dstAt l k=dstAt l' k)→(∀ k,k < m→dstAt l k=some t→S k=S' k∧spAt ss k=spAt ss' k)→trun l ss t0 S m t=trun l' ss' t0 S' m t
  | 0,_,_=>rfl
  | m + 1, h1, h2 => by
    have ih:=a1E (S:=S) (S':=S') (t:=t) (ss':=ss') m (fun k hk=>h1 k omo) (fun k hk=>h2 k omo)
    simp only [trun]
    rw [←h1 m omo,ih]
    by_cases hd:dstAt l m=some t
    · obtain ⟨e1,e2⟩:=h2 m omo hd
      rw [e1,e2]
    · simp [hd]
theorem a1Q {ss':List HSpec} {S S':Nat→Bool} {id:Nat}:∀ m,(∀ k,k < m→(spAt ss k).post=(spAt ss' k).post)→(∀ k,k < m→id∈(spAt ss k).post.map (·.1)→S k=S' k)→hrun ss h0 S m id=hrun ss' h0 S' m id
  | 0,_,_=>rfl
  | m + 1, h1, h2 => by
    have ih:=a1Q (S:=S) (S':=S') (id:=id) (ss':=ss') m (fun k hk=>h1 k omo) (fun k hk=>h2 k omo)
    simp only [hrun]
    rw [←h1 m omo]
    have miss:∀ (h:Nat→Option HObj) (p:List (Nat×HObj)),id∉p.map (·.1)→hupd h p id=h id:=by
      intro h p
      induction p with
      | nil=>intro _;rfl
      | cons q p ih =>
        intro hn
        simp only [List.map_cons,List.mem_cons,not_or] at hn
        show a2I (hupd h p) q.1 q.2 id=_
        rw [a0s _ _ hn.1];exact ih hn.2
    have hit:∀ (h h':Nat→Option HObj) (p:List (Nat×HObj)),h id=h' id→hupd h p id=hupd h' p id:=by
      intro h h' p he
      induction p with
      | nil=>exact he
      | cons q p ih=>show a2I (hupd h p) q.1 q.2 id=a2I (hupd h' p) q.1 q.2 id;unfold a2I;split <;> first | rfl | exact ih
    by_cases hw:id∈(spAt ss m).post.map (·.1)
    · rw [←h2 m omo hw]
      split
      · exact hit _ _ _ ih
      · exact ih
    · split <;> split <;> first | exact ih | (simp only [miss _ _ hw];exact ih)
theorem b3V {h:Nat→Option HObj} {id:Nat}:∀ {p:List (Nat×HObj)},id∉p.map (·.1)→hupd h p id=h id
  | [],_=>rfl
  | q :: p, hn => by
    simp only [List.map_cons,List.mem_cons,not_or] at hn
    show a2I (hupd h p) q.1 q.2 id=_
    rw [a0s _ _ hn.1];exact b3V hn.2
theorem b7E {h h':Nat→Option HObj} {id:Nat}:∀ {p:List (Nat×HObj)},id∈p.map (·.1)→hupd h p id=hupd h' p id
  | [],hn=>by simp at hn
  | q :: p, hn => by
    show a2I (hupd h p) q.1 q.2 id=a2I (hupd h' p) q.1 q.2 id
    unfold a2I
    split
    · rfl
    · rename_i hne
      simp only [List.map_cons,List.mem_cons] at hn
      exact b7E (hn.resolve_left hne)
theorem b2a {i:Nat} {t:Nat}:∀ m,i≤m→trun l ss t0 (fun k=>decide (k < i)) m t=trun l ss t0 (fun _=>true) i t:=by
  intro m hm
  induction m with
  | zero=>obtain rfl:i=0:=omo;rfl
  | succ m ih =>
    by_cases hi:i=m+1
    · subst hi;exact a1E _ (fun _ _=>rfl) (fun k hk _=>⟨by simp [hk],rfl⟩)
    · rw [←ih omo]
      simp only [trun]
      rw [if_neg]
      simp;omega
theorem a8T {i:Nat} {id:Nat}:∀ m,i≤m→hrun ss h0 (fun k=>decide (k < i)) m id=hrun ss h0 (fun _=>true) i id:=by
  intro m hm
  induction m with
  | zero=>obtain rfl:i=0:=omo;rfl
  | succ m ih =>
    by_cases hi:i=m+1
    · subst hi;exact a1Q _ (fun _ _=>rfl) (fun k hk _=>by simp [hk])
    · rw [←ih omo]
      simp only [hrun]
      rw [if_neg (by simp;omega)]
theorem b7w {S:Nat→Bool} {t:Nat} {y:TV}:∀ {m},trun l ss t0 S m t=some y→t0 t=some y∨∃ k,k < m∧S k=true∧y=(spAt ss k).tv
  | 0,h=>.inl h
  | m + 1, h => by
    simp only [trun] at h
    split at h
    · rename_i hc;injection h with h;exact .inr ⟨m,by omega,hc.1,h.symm⟩
    · rcases b7w h with h1 | ⟨k,h1,h2,h3⟩
      · exact .inl h1
      · exact .inr ⟨k,by omega,h2,h3⟩
end
structure Good (P:Program) (ops:Array Oper) (n clk:Nat) (tm0:List (Nat×TV)) (hp0:List (Nat×HObj)) (l:List Oper) (ss:List HSpec) (i:Nat) (o:Oper):Prop where
 st:HStep P ops o (trun l ss (tget tm0) (fun _=>true) i) (clk+i) (spAt ss i)
 pre:∀ p∈(spAt ss i).pre,hrun ss (hget hp0) (fun _=>true) i p.1=some p.2
 dst:∀ d,o.dst=some d→d < n
theorem VRun.good {P:Program} {ops:Array Oper} {n clk:Nat} {tm0:List (Nat×TV)} {hp0:List (Nat×HObj)} {l:List Oper} {ss:List HSpec} {tm:List (Nat×TV)} {hp:List (Nat×HObj)} (h:VRun P ops n clk tm0 hp0 l ss tm hp) :
    l.length=ss.length∧tget tm=trun l ss (tget tm0) (fun _=>true) l.length∧hget hp=hrun ss (hget hp0) (fun _=>true) l.length∧∀ i o,l[i]?=some o→Good P ops n clk tm0 hp0 l ss i o:=by
  induction h with
  | nil=>exact ⟨rfl,rfl,rfl,fun i o h=>by simp at h⟩
  | snoc l ss tm hp o sp h hst hpre hd ih =>
    obtain ⟨i1,i2,i3,i4⟩:=ih
    have d1:∀ k,k < l.length→dstAt l k=dstAt (l++[o]) k:=fun k hk=>by unfold dstAt;rw [List.getElem?_append_left hk]
    have s1:∀ k,k < l.length→spAt ss k=spAt (ss++[sp]) k:=fun k hk=>by unfold spAt;rw [List.getD_eq_getElem?_getD,List.getD_eq_getElem?_getD,List.getElem?_append_left omo]
    have d2:dstAt (l++[o]) l.length=o.dst:=by unfold dstAt;rw [List.getElem?_append_right lrf];simp
    have s2:spAt (ss++[sp]) l.length=sp:=by unfold spAt;rw [List.getD_eq_getElem?_getD,i1,List.getElem?_append_right lrf];simp
    have t1:∀ k,k≤l.length→∀ t,trun l ss (tget tm0) (fun _=>true) k t=trun (l++[o]) (ss++[sp]) (tget tm0) (fun _=>true) k t:=fun k hk t=>a1E k (fun j hj=>d1 j omo) (fun j hj _=>⟨rfl,s1 j omo⟩)
    have h1:∀ k,k≤l.length→∀ t,hrun ss (hget hp0) (fun _=>true) k t=hrun (ss++[sp]) (hget hp0) (fun _=>true) k t:=fun k hk t=>a1Q k (fun j hj=>by rw [s1 j omo]) (fun j hj _=>rfl)
    refine ⟨by simp [i1],?_,?_,fun i o' ho'=>?_⟩
    · funext t
      rw [List.length_append,List.length_singleton]
      simp only [trun,d2,s2,←t1 l.length lrf,←i2,dtm]
      cases hdst:o.dst with
      | none=>simp
      | some d=>simp only [a0x,Option.some.injEq];by_cases htd:t=d <;> simp [htd,eq_comm]
    · funext t
      rw [List.length_append,List.length_singleton,a0I]
      simp only [hrun,if_true,s2]
      have:hrun (ss++[sp]) (hget hp0) (fun _=>true) l.length=hget hp:=by funext t;rw [←h1 l.length lrf,←i3]
      rw [this]
    · by_cases hi:i < l.length
      · rw [List.getElem?_append_left hi] at ho'
        have gd:=i4 i o' ho'
        refine ⟨?_,?_,gd.dst⟩
        · have e:trun (l++[o]) (ss++[sp]) (tget tm0) (fun _=>true) i=trun l ss (tget tm0) (fun _=>true) i:=funext fun t=>(t1 i omo t).symm
          rw [←s1 i hi,e];exact gd.st
        · rw [←s1 i hi]
          intro p hp
          rw [←h1 i omo];exact gd.pre p hp
      · have hil:i=l.length:=by
          have:i < (l++[o]).length:=by
            rcases Nat.lt_or_ge i (l++[o]).length with h | h
            · exact h
            · rw [List.getElem?_eq_none h] at ho';cases ho'
          rw [List.length_append,List.length_singleton] at this
          omega
        subst hil
        rw [List.getElem?_append_right lrf,Nat.sub_self] at ho'
        simp at ho'
        subst ho'
        refine ⟨?_,?_,hd⟩
        · have e:trun (l++[o]) (ss++[sp]) (tget tm0) (fun _=>true) l.length=tget tm:=by rw [i2];exact funext fun t=>(t1 l.length lrf t).symm
          rw [s2,e];exact hst
        · rw [s2]
          intro p hp
          rw [←h1 l.length lrf,←i3];exact hpre p hp
def edg (o:Oper):List Nat:=(o.after.toList.filter fun e=>Region.binds .any e).map (·.on)
def b5Q:List Oper→List (List Nat)→List (List Nat)
 | [],acc=>acc
 | o::r,acc=>b5Q r (acc++[(edg o++(edg o).flatMap fun e=>acc.getD e []).eraseDups])
def b8x:List (Nat×TV)→Bool
 | []=>true
 | (_,.v _)::r=>b8x r
 | (_,.un ..)::_=>false
def ids (p:List (Nat×HObj)):List Nat:=p.map (·.1)
def meets (a b:List Nat):Bool:=a.any fun x=>b.any (Nat.beq x)
def d3o (i:Nat) (o:Oper):Bool:=(edg o).all fun e=>Nat.blt e i
def d2S (bef:List (List Nat)) (i:Nat) (o:Oper):Bool:=(bef.getD i []).all fun j=>Nat.blt j i&&(edg o).any fun e=>Nat.beq e j||(bef.getD e []).any (Nat.beq j)
def d2N (l:List Oper) (i k:Nat):Bool:=match dstAt l i,dstAt l k with | some d,some d'=>!Nat.beq d d' | _,_=>true
def d2I (l:List Oper) (ss:List HSpec) (bef:List (List Nat)) (i k:Nat):Bool:=match dstAt l k with
 | some t=>!((spAt ss i).need.any (Nat.beq t))||(Nat.blt k i&&(bef.getD i []).any (Nat.beq k))||(Nat.blt i k&&(bef.getD k []).any (Nat.beq i))
 | none=>true
def d3k (ss:List HSpec) (bef:List (List Nat)) (i k:Nat):Bool :=
 !(meets (ids (spAt ss i).post) (ids (spAt ss k).pre++ids (spAt ss k).post)||meets (ids (spAt ss i).pre) (ids (spAt ss k).post))||(bef.getD i []).any (Nat.beq k)||(bef.getD k []).any (Nat.beq i)
def d2T (l:List Oper) (ss:List HSpec) (bef:List (List Nat)) (i:Nat):Bool:=(List.range l.length).all fun k=>Nat.beq k i||(d2N l i k&&d2I l ss bef i k&&d3k ss bef i k)
def d3f (l:List Oper) (ss:List HSpec) (i:Nat):Bool:=match dstAt l i with | some t=>!((spAt ss i).need.any (Nat.beq t)) | none=>true
def d2V (l:List Oper) (ss:List HSpec) (bef:List (List Nat)) (i:Nat):Bool:=match (spAt ss i).tv with
 | .v _=>true
 | .un j _ _=>(List.range l.length).all fun k=>match dstAt l k with | some t=>!Nat.beq t j||(bef.getD i []).any (Nat.beq k) | none=>true
def d2J (l:List Oper) (ss:List HSpec) (bef:List (List Nat)) (i:Nat) (o:Oper):Bool:=d3o i o&&d2S bef i o&&d2T l ss bef i&&d3f l ss i&&d2V l ss bef i
def c8M (l:List Oper) (ss:List HSpec) (tm0:List (Nat×TV)):Bool :=
 b8x tm0&&(List.range l.length).all fun i=>match l[i]? with | some o=>d2J l ss (b5Q l []) i o | none=>false
structure Chk (l:List Oper) (ss:List HSpec) (bef:List (List Nat)):Prop where
 edge:∀ i o,l[i]?=some o→∀ e∈edg o,e < i
 befo:∀ i o,l[i]?=some o→∀ j∈bef.getD i [],j < i∧∃ e∈edg o,e=j∨j∈bef.getD e []
 dst:∀ i k d,i < l.length→k < l.length→k≠i→dstAt l i=some d→dstAt l k≠some d
 need:∀ i k t,i < l.length→k < l.length→t∈(spAt ss i).need→dstAt l k=some t→(k < i∧k∈bef.getD i [])∨(i < k∧i∈bef.getD k [])
 conf:∀ i k id,i < l.length→k < l.length→k≠i→id∈ids (spAt ss k).post→(id∈ids (spAt ss i).pre∨id∈ids (spAt ss i).post)→k∈bef.getD i []∨i∈bef.getD k []
 un:∀ i j b x k,i < l.length→k < l.length→(spAt ss i).tv=.un j b x→dstAt l k=some j→k∈bef.getD i []
theorem a4e {a:Nat} {l:List Nat}:l.any (Nat.beq a)=true↔a∈l:=by
 rw [List.any_eq_true]
 constructor
 ·rintro ⟨x,hx,he⟩;rw [Nat.beq_eq] at he;subst he;exact hx
 ·intro h;exact ⟨a,h,Nat.beq_refl a⟩
theorem b3y {a b:List Nat}:meets a b=true↔∃ x,x∈a∧x∈b:=by
 unfold meets
 rw [List.any_eq_true]
 constructor
 ·rintro ⟨x,hx,he⟩;exact ⟨x,hx,a4e.1 he⟩
 ·rintro ⟨x,hx,he⟩;exact ⟨x,hx,a4e.2 he⟩
theorem c1d {l:List Oper} {ss:List HSpec} {tm0:List (Nat×TV)} (h:c8M l ss tm0=true):b8x tm0=true∧Chk l ss (b5Q l []):=by
 unfold c8M at h
 rw [Bool.and_eq_true] at h
 refine ⟨h.1,?_⟩
 generalize b5Q l []=bef at h
 have each:∀ i o,l[i]?=some o→d2J l ss bef i o=true:=by
  intro i o ho
  have hi:i < l.length:=by
   rcases Nat.lt_or_ge i l.length with h | h
   ·exact h
   ·rw [List.getElem?_eq_none h] at ho;cases ho
  have:=List.all_eq_true.1 h.2 i (List.mem_range.2 hi)
  rw [ho] at this;exact this
 have op_:∀ i,i < l.length→∃ o,l[i]?=some o:=fun i hi=>⟨l[i],List.getElem?_eq_getElem hi⟩
 have parts:∀ i o,l[i]?=some o→d3o i o=true∧d2S bef i o=true∧d2T l ss bef i=true∧d3f l ss i=true∧d2V l ss bef i=true:=by
  intro i o ho
  have:=each i o ho
  unfold d2J at this
  simp only [Bool.and_eq_true] at this
  exact ⟨this.1.1.1.1,this.1.1.1.2,this.1.1.2,this.1.2,this.2⟩
 have pair:∀ i o k,l[i]?=some o→k < l.length→k≠i→(d2N l i k=true∧d2I l ss bef i k=true)∧d3k ss bef i k=true:=by
  intro i o k ho hk hne
  have h3:=(parts i o ho).2.2.1
  unfold d2T at h3
  have:=List.all_eq_true.1 h3 k (List.mem_range.2 hk)
  rw [Bool.or_eq_true] at this
  have h1:=this.resolve_left (fun h=>hne (by rwa [Nat.beq_eq] at h))
  simp only [Bool.and_eq_true] at h1
  exact h1
 refine ⟨fun i o ho e he=>?_,fun i o ho j hj=>?_,fun i k d hi hk hne hd hd'=>?_,fun i k t hi hk ht hd=>?_,fun i k id hi hk hne h1 h2=>?_,fun i j b x k hi hk htv hd=>?_⟩
 ·have h1:=(parts i o ho).1
  unfold d3o at h1
  have:=List.all_eq_true.1 h1 e he
  simpa [Nat.blt_eq] using this
 ·have h1:=(parts i o ho).2.1
  unfold d2S at h1
  have:=List.all_eq_true.1 h1 j hj
  rw [Bool.and_eq_true,Nat.blt_eq,List.any_eq_true] at this
  obtain ⟨h1,e,he,h2⟩:=this
  rw [Bool.or_eq_true,Nat.beq_eq,a4e] at h2
  exact ⟨h1,e,he,h2⟩
 ·obtain ⟨o,ho⟩:=op_ i hi
  have:=(pair i o k ho hk hne).1.1
  unfold d2N at this
  rw [hd,hd'] at this
  simp at this
 ·obtain ⟨o,ho⟩:=op_ i hi
  by_cases hne:k=i
  ·subst hne
   have:=(parts k o ho).2.2.2.1
   unfold d3f at this
   rw [hd] at this
   simp only [Bool.not_eq_true'] at this
   rw [←Bool.not_eq_true,a4e] at this
   exact absurd ht this
  ·have:=(pair i o k ho hk hne).1.2
   unfold d2I at this
   rw [hd] at this
   simp only [Bool.or_eq_true,Bool.and_eq_true,Bool.not_eq_true',Nat.blt_eq,a4e] at this
   rcases this with (h | h) | h
   ·rw [←Bool.not_eq_true,a4e] at h;exact absurd ht h
   ·exact .inl h
   ·exact .inr h
 ·obtain ⟨o,ho⟩:=op_ i hi
  have:=(pair i o k ho hk hne).2
  unfold d3k at this
  simp only [Bool.or_eq_true,Bool.not_eq_true',a4e,Bool.or_eq_false_iff] at this
  rcases this with (h | h) | h
  ·rcases h2 with h2 | h2
   ·have:=h.2
    rw [←Bool.not_eq_true,b3y] at this
    exact absurd ⟨id,h2,h1⟩ this
   ·have:=h.1
    rw [←Bool.not_eq_true,b3y] at this
    exact absurd ⟨id,h2,List.mem_append.2 (.inr h1)⟩ this
  ·exact .inl h
  ·exact .inr h
 ·obtain ⟨o,ho⟩:=op_ i hi
  have:=(parts i o ho).2.2.2.2
  unfold d2V at this
  rw [htv] at this
  have:=List.all_eq_true.1 this k (List.mem_range.2 hk)
  rw [hd] at this
  simp only [Bool.or_eq_true,Bool.not_eq_true',a4e] at this
  exact this.resolve_left (fun h=>by rw [←Bool.not_eq_true,Nat.beq_eq] at h;exact h rfl)
theorem a4I {tm:List (Nat×TV)} (h:b8x tm=true):∀ t y,tget tm t=some y→∃ x,y=.v x:=by
  induction tm with
  | nil=>intro t y h;cases h
  | cons q r ih =>
    obtain ⟨k,z⟩:=q
    cases z with
    | un j b x=>cases h
    | v x =>
      intro t y ht
      rw [a0x] at ht
      split at ht
      · injection ht with ht;exact ⟨x,ht.symm⟩
      · exact ih h t y ht
section
variable {C:Ctx} {P:Program} {Q:Exit→Act→World→Prop} {n clk:Nat} {tm0:List (Nat×TV)} {hp0:List (Nat×HObj)} {l:List Oper} {ss:List HSpec}
structure Inv (C:Ctx) (n clk:Nat) (tm0:List (Nat×TV)) (hp0:List (Nat×HObj)) (l:List Oper) (ss:List HSpec) (listed:Array Bool) (a:Act) (w:World):Prop where
 sz:listed.size=l.length
 closed:∀ i o,l[i]?=some o→listed.getD i false=true→∀ e∈edg o,listed.getD e false=true
 st:∃ E,Ext C.w0 C.E0 w E∧R C.K C.w0 C.E0.F E (hrun ss (hget hp0) (fun k=>listed.getD k false) l.length) w∧(∀ g,E.G g→g < clk∨∃ k,k < l.length∧listed.getD k false=true∧g=clk+k)∧a.tmps.size=n∧DefOk C.mks w E C.ds a.defers ∧
  ∀ t x,trun l ss (tget tm0) (fun k=>listed.getD k false) l.length t=some x→TVRep w E a (a.tmps.getD t undef) x
theorem a2N {bef:List (List Nat)} (hc:Chk l ss bef) {S:Nat→Bool} (hcl:∀ i o,l[i]?=some o→S i=true→∀ e∈edg o,S e=true):∀ i o,l[i]?=some o→(∀ e∈edg o,S e=true)→∀ j∈bef.getD i [],S j=true:=by
  intro i
  induction i using Nat.strongRecOn with
  | _ i ih =>
    intro o ho he j hj
    obtain ⟨_,e,hee,h2⟩:=hc.befo i o ho j hj
    rcases h2 with rfl | h2
    · exact he _ hee
    · have hlt:=hc.edge i o ho e hee
      have hi:i < l.length:=by
        rcases Nat.lt_or_ge i l.length with h | h
        · exact h
        · rw [List.getElem?_eq_none h] at ho;cases ho
      have hle:l[e]?=some l[e]:=List.getElem?_eq_getElem omo
      exact ih e hlt _ hle (hcl e _ hle (he e hee)) j h2
theorem a3l {listed:Array Bool} {i:Nat} {o:Oper} (hr:i∈Region.ready .any l.toArray listed) (ho:l[i]?=some o) (hsz:listed.size=l.length):listed.getD i false=false∧i < l.length∧∀ e∈edg o,listed.getD e false=true:=by
 obtain ⟨h1,o',ho',h2⟩:=mem_ready.1 hr
 have hi:i < l.length:=by
  rcases Nat.lt_or_ge i l.length with h | h
  ·exact h
  ·rw [List.getElem?_eq_none h] at ho;cases ho
 have:o'=o:=by
  have e:l.toArray[i]?=l[i]?:=by simp
  rw [e,ho] at ho';injection ho' with ho';exact ho'.symm
 subst this
 refine ⟨?_,hi,fun e he=>?_⟩
 ·have hl:i < listed.size:=by omega
  simpa [hl] using h1
 ·obtain ⟨x,hx,rfl⟩:=List.mem_map.1 he
  obtain ⟨hx1,hx2⟩:=List.mem_filter.1 hx
  exact h2 x (by simpa using hx1) (by simpa using hx2)
theorem a3c (listed:Array Bool) (i k:Nat) (hi:i < listed.size):(listed.setIfInBounds i true).getD k false=if k=i then true else listed.getD k false:=by
 by_cases hk:k=i
 ·subst hk;simp [hi]
 ·simp [hk,Array.getElem?_setIfInBounds,Ne.symm hk]
theorem Inv.look {bef:List (List Nat)} (hc:Chk l ss bef) {listed:Array Bool} {a:Act} {w:World} (hI:Inv C n clk tm0 hp0 l ss listed a w) {i:Nat} (hr:i∈Region.ready .any l.toArray listed) {o:Oper} (ho:l[i]?=some o) (hpre0:∀ p∈(spAt ss i).pre,hrun ss (hget hp0) (fun _=>true) i p.1=some p.2) :
  ∃ E,Ext C.w0 C.E0 w E∧R C.K C.w0 C.E0.F E (hrun ss (hget hp0) (fun k=>listed.getD k false) l.length) w∧(∀ g,E.G g→g < clk∨∃ k,k < l.length∧listed.getD k false=true∧g=clk+k)∧a.tmps.size=n∧DefOk C.mks w E C.ds a.defers ∧
  (∀ t x,trun l ss (tget tm0) (fun k=>listed.getD k false) l.length t=some x→TVRep w E a (a.tmps.getD t undef) x) ∧
  (∀ t x,t∈(spAt ss i).need→trun l ss (tget tm0) (fun _=>true) i t=some x→TVRep w E a (a.tmps.getD t undef) x)∧∀ p∈(spAt ss i).pre,hrun ss (hget hp0) (fun k=>listed.getD k false) l.length p.1=some p.2:=by
 obtain ⟨hun,hi,hedg⟩:=a3l hr ho hI.sz
 obtain ⟨E,e0,r,hG,hsz,hdf,ht⟩:=hI.st
 have hilt:i < listed.size:=by rw [hI.sz];exact hi
 have hbef:∀ j∈bef.getD i [],listed.getD j false=true:=a2N hc (S:=fun k=>listed.getD k false) hI.closed i o ho hedg
 have hnot:∀ k,k < l.length→i∈bef.getD k []→listed.getD k false=false:=by
  intro k hk hik
  rw [←Bool.not_eq_true]
  intro hkl
  have hko:l[k]?=some l[k]:=List.getElem?_eq_getElem hk
  have:=a2N hc (S:=fun k=>listed.getD k false) hI.closed k _ hko (hI.closed k _ hko hkl) i hik
  rw [hun] at this;cases this
 have hbl:∀ j∈bef.getD i [],j < i:=fun j hj=>(hc.befo i o ho j hj).1
 have htm:∀ t x,t∈(spAt ss i).need→trun l ss (tget tm0) (fun _=>true) i t=some x→trun l ss (tget tm0) (fun k=>listed.getD k false) l.length t=some x:=by
  intro t x htn hx
  rw [←b2a l.length omo] at hx
  rw [←hx]
  refine a1E _ (fun _ _=>rfl) (fun k hk hd=>⟨?_,rfl⟩)
  rcases hc.need i k t hi hk htn hd with ⟨h1,h2⟩ | ⟨h1,h2⟩
  ·rw [hbef k h2];simp [h1]
  ·rw [hnot k hk h2];simp;omega
 have wr:∀ id,(id∈ids (spAt ss i).pre∨id∈ids (spAt ss i).post)→∀ k,k < l.length→k≠i→id∈(spAt ss k).post.map (·.1)→listed.getD k false=decide (k < i):=by
  intro id hid k hk hne hw
  rcases hc.conf i k id hi hk hne hw hid with h | h
  ·rw [hbef k h];simp [hbl k h]
  ·rw [hnot k hk h]
   have hko:l[k]?=some l[k]:=List.getElem?_eq_getElem hk
   have:=(hc.befo k _ hko i h).1
   simp;omega
 have hpre:∀ p∈(spAt ss i).pre,hrun ss (hget hp0) (fun k=>listed.getD k false) l.length p.1=some p.2:=by
  intro p hp
  rw [←hpre0 p hp,←a8T l.length omo]
  refine a1Q _ (fun _ _=>rfl) (fun k hk hw=>?_)
  by_cases hne:k=i
  ·subst hne;rw [hun];simp
  ·exact wr p.1 (.inl (List.mem_map.2 ⟨p,hp,rfl⟩)) k hk hne hw
 exact ⟨E,e0,r,hG,hsz,hdf,ht,fun t x htn hx=>ht t x (htm t x htn hx),hpre⟩
theorem Inv.step {bef:List (List Nat)} (hc:Chk l ss bef) (hV:b8x tm0=true) {i:Nat} (hg:∀ o,l[i]?=some o→Good P l.toArray n clk tm0 hp0 l ss i o) {listed:Array Bool} {a:Act} {w:World} (hI:Inv C n clk tm0 hp0 l ss listed a w) (hr:i∈Region.ready .any l.toArray listed) {N:Act→World→Prop}
    (hN:∀ a' w',Inv C n clk tm0 hp0 l ss (listed.setIfInBounds i true) a' w'→N a' w'):b3k P l.toArray Q i N a w:=by
  have hm:=mem_ready.1 hr
  obtain ⟨_,o,ho',_⟩:=hm
  have ho:l[i]?=some o:=by rw [←ho'];simp
  obtain ⟨hun,hi,hedg⟩:=a3l hr ho hI.sz
  have gd:=hg o ho
  obtain ⟨E,e0,r,hG,hsz,hdf,ht⟩:=hI.st
  have hilt:i < listed.size:=by rw [hI.sz];exact hi
  have hbef:∀ j∈bef.getD i [],listed.getD j false=true:=a2N hc (S:=fun k=>listed.getD k false) hI.closed i o ho hedg
  have hnot:∀ k,k < l.length→i∈bef.getD k []→listed.getD k false=false:=by
    intro k hk hik
    rw [←Bool.not_eq_true]
    intro hkl
    have hko:l[k]?=some l[k]:=List.getElem?_eq_getElem hk
    have:=a2N hc (S:=fun k=>listed.getD k false) hI.closed k _ hko (hI.closed k _ hko hkl) i hik
    rw [hun] at this;cases this
  have hbl:∀ j∈bef.getD i [],j < i:=fun j hj=>(hc.befo i o ho j hj).1
  have htm:∀ t x,t∈(spAt ss i).need→trun l ss (tget tm0) (fun _=>true) i t=some x→trun l ss (tget tm0) (fun k=>listed.getD k false) l.length t=some x:=by
    intro t x htn hx
    rw [←b2a l.length omo] at hx
    rw [←hx]
    refine a1E _ (fun _ _=>rfl) (fun k hk hd=>⟨?_,rfl⟩)
    rcases hc.need i k t hi hk htn hd with ⟨h1,h2⟩ | ⟨h1,h2⟩
    · rw [hbef k h2];simp [h1]
    · rw [hnot k hk h2];simp;omega
  have wr:∀ id,(id∈ids (spAt ss i).pre∨id∈ids (spAt ss i).post)→∀ k,k < l.length→k≠i→id∈(spAt ss k).post.map (·.1)→listed.getD k false=decide (k < i):=by
    intro id hid k hk hne hw
    rcases hc.conf i k id hi hk hne hw hid with h | h
    · rw [hbef k h];simp [hbl k h]
    · rw [hnot k hk h]
      have hko:l[k]?=some l[k]:=List.getElem?_eq_getElem hk
      have:=(hc.befo k _ hko i h).1
      simp;omega
  have hpre:∀ p∈(spAt ss i).pre,hrun ss (hget hp0) (fun k=>listed.getD k false) l.length p.1=some p.2:=by
    intro p hp
    rw [←gd.pre p hp,←a8T l.length omo]
    refine a1Q _ (fun _ _=>rfl) (fun k hk hw=>?_)
    by_cases hne:k=i
    · subst hne;rw [hun];simp
    · exact wr p.1 (.inl (List.mem_map.2 ⟨p,hp,rfl⟩)) k hk hne hw
  have hgf:¬ E.G (clk+i):=by
    intro hgg
    rcases hG _ hgg with h | ⟨k,_,h2,h3⟩
    · omega
    · have:k=i:=by omega
      subst this;rw [hun] at h2;cases h2
  unfold b3k
  have hoa:l.toArray[i]?=some o:=by rw [←ho];simp
  simp only [hoa]
  have key:=gd.st C.K C.w0 C.E0.F E _ a w Q N r (fun t x htn hx=>ht t x (htm t x htn hx)) hgf ⟨clk+l.length,fun g hg=>by rcases hG g hg with h | ⟨k,h1,_,h3⟩ <;> omega⟩ hpre (fun val w' E' e' r' hG' hv=>hN _ _ ?_)
  · split
    · rename_i hw;rw [if_pos hw] at key;exact Or.inl key
    · rename_i hw;rw [if_neg hw] at key;exact key
  · refine ⟨by simp [hI.sz],fun k o' hk' hkl e he=>?_,E',e0.trans e',?_,fun g hg'=>?_,?_,?_,?_⟩
    · rw [a3c _ _ _ hilt] at hkl ⊢
      split
      · rfl
      · split at hkl
        · rename_i hki;subst hki
          rw [ho] at hk';injection hk' with hk';subst hk'
          exact hedg e he
        · exact hI.closed k o' hk' hkl e he
    · have:hrun ss (hget hp0) (fun k=>(listed.setIfInBounds i true).getD k false) l.length=hupd (hrun ss (hget hp0) (fun k=>listed.getD k false) l.length) (spAt ss i).post:=by
        funext id
        by_cases hid:id∈(spAt ss i).post.map (·.1)
        · rw [b7E (h':=hrun ss (hget hp0) (fun _=>true) i) hid]
          have e1:hupd (hrun ss (hget hp0) (fun _=>true) i) (spAt ss i).post=hrun ss (hget hp0) (fun _=>true) (i+1):=by simp only [hrun,if_true]
          rw [e1,←a8T (i:=i+1) l.length omo]
          refine a1Q _ (fun _ _=>rfl) (fun k hk hw=>?_)
          rw [a3c _ _ _ hilt]
          by_cases hne:k=i
          · subst hne;simp
          · rw [if_neg hne,wr id (.inr hid) k hk hne hw]
            have:(k < i)↔(k < i+1):=by omega
            simp [this]
        · rw [b3V hid]
          refine a1Q _ (fun _ _=>rfl) (fun k hk hw=>?_)
          rw [a3c _ _ _ hilt,if_neg (fun hki=>hid (by subst hki;exact hw))]
      rw [this];exact r'
    · rcases hG' g hg' with h | ⟨_,h⟩
      · rcases hG g h with h | ⟨k,h1,h2,h3⟩
        · exact .inl h
        · exact .inr ⟨k,h1,by rw [a3c _ _ _ hilt];split <;> first | rfl | exact h2,h3⟩
      · exact .inr ⟨i,hi,by rw [a3c _ _ _ hilt,if_pos rfl],h⟩
    · cases hd : o.dst with
      | none=>simpa [Act.put] using hsz
      | some d=>simpa [Act.put] using hsz
    · cases hd:o.dst <;> exact hdf.ext e'
    · intro t x hx
      have hdi:dstAt l i=o.dst:=by unfold dstAt;rw [ho];rfl
      have keep:∀ (u:Value) (y:TV),(∀ d j b z,o.dst=some d→y=.un j b z→j≠d)→TVRep w' E' a u y→TVRep w' E' (a.put o.dst val) u y:=by
        intro u y hy h
        cases hd:o.dst with
        | none=>exact h
        | some d =>
          cases y with
          | v z=>exact h
          | un j b z=>simp only [TVRep,a0w (hy d j b z hd rfl)];exact h
      by_cases hti:o.dst=some t
      · have hx1:trun l ss (tget tm0) (fun k=>(listed.setIfInBounds i true).getD k false) l.length t=some (spAt ss i).tv:=by
          have:∀ m,i < m→m≤l.length→trun l ss (tget tm0) (fun k=>(listed.setIfInBounds i true).getD k false) m t=some (spAt ss i).tv:=by
            intro m
            induction m with
            | zero=>intro h;omega
            | succ m ih =>
              intro him hml
              simp only [trun]
              by_cases hmi:m=i
              · subst hmi
                rw [if_pos ⟨by rw [a3c _ _ _ hilt,if_pos rfl],by rw [hdi,hti]⟩]
              · rw [if_neg (fun hh=>hc.dst i m t hi omo hmi (by rw [hdi,hti]) hh.2)]
                exact ih omo omo
          exact this l.length hi lrf
        rw [hx1] at hx
        injection hx with hx
        subst hx
        have hlt:=gd.dst t hti
        rw [hti,a0R (by rw [hsz];exact hlt),←hti]
        refine keep val _ (fun d j b z hd hy hjd=>?_) hv
        subst hjd
        have:=hc.un i j b z i hi hi hy (by rw [hdi,hd])
        exact absurd (hbl i this) (Nat.lt_irrefl _)
      · have hx1:trun l ss (tget tm0) (fun k=>listed.getD k false) l.length t=some x:=by
          rw [←hx]
          refine a1E _ (fun _ _=>rfl) (fun k hk hd=>⟨?_,rfl⟩)
          rw [a3c _ _ _ hilt,if_neg (fun hki=>hti (by subst hki;rw [←hdi];exact hd))]
        have hgd:(a.put o.dst val).tmps.getD t undef=a.tmps.getD t undef:=by
          cases hd:o.dst with
          | none=>rfl
          | some d=>exact a0w (fun htd=>hti (by rw [hd,htd]))
        rw [hgd]
        refine keep _ _ (fun d j b z hd hy hjd=>?_) ((ht t x hx1).ext e')
        subst hjd
        rcases b7w hx1 with h | ⟨k,hk,hkS,hk2⟩
        · obtain ⟨z',hz'⟩:=a4I hV t x h
          rw [hz'] at hy;cases hy
        · have:=hc.un k j b z i hk hi (by rw [←hk2];exact hy) (by rw [hdi,hd])
          rw [hnot k hk this] at hkS;cases hkS
theorem Inv.any {bef:List (List Nat)} (hc:Chk l ss bef) (hV:b8x tm0=true) (hg:∀ i o,l[i]?=some o→Good P l.toArray n clk tm0 hp0 l ss i o) (hQ:∀ a w listed,Inv C n clk tm0 hp0 l ss listed a w→(∀ k,k < l.length→listed.getD k false=true)→Q .normal a w) :
    ∀ (fuel:Nat) (listed:Array Bool) (a:Act) (w:World),listed.toList.count false≤fuel→Inv C n clk tm0 hp0 l ss listed a w→a8M P .any l.toArray Q fuel listed a w:=by
  have full:∀ (listed:Array Bool) (a:Act) (w:World),Inv C n clk tm0 hp0 l ss listed a w→Region.ready .any l.toArray listed=[]→∀ k,k < l.length→listed.getD k false=true:=by
    intro listed a w hI hr k
    induction k using Nat.strongRecOn with
    | _ k ih =>
      intro hk
      have hko:l[k]?=some l[k]:=List.getElem?_eq_getElem hk
      rw [←Bool.not_eq_false]
      intro hkf
      have:k∈Region.ready .any l.toArray listed:=by
        refine mem_ready.2 ⟨?_,l[k],by simp,fun e he hb=>?_⟩
        · have hkl:k < listed.size:=by rw [hI.sz];exact hk
          simpa [hkl] using hkf
        · have hee:e.on∈edg l[k]:=List.mem_map.2 ⟨e,List.mem_filter.2 ⟨by simpa using he,hb⟩,rfl⟩
          exact ih e.on (hc.edge k _ hko _ hee) (by have:=hc.edge k _ hko _ hee;omega)
      rw [hr] at this;cases this
  intro fuel
  induction fuel with
  | zero =>
    intro listed a w hcnt hI
    have hall:∀ k,k < l.length→listed.getD k false=true:=by
      intro k hk
      have hkl:k < listed.size:=by rw [hI.sz];exact hk
      rw [←Bool.not_eq_false]
      intro hkf
      have hmem:false∈listed.toList:=by
        have:listed[k]=false:=by simpa [hkl] using hkf
        rw [←this];simp
      have:=List.count_pos_iff.2 hmem
      omega
    refine ⟨?_,hQ a w listed hI hall⟩
    cases hr:Region.ready .any l.toArray listed with
    | nil=>rfl
    | cons i r =>
      have hi:i∈Region.ready .any l.toArray listed:=by rw [hr];exact List.mem_cons_self ..
      obtain ⟨_,o,ho,_⟩:=mem_ready.1 hi
      have ho:l[i]?=some o:=by rw [←ho];simp
      obtain ⟨h1,h2,_⟩:=a3l hi ho hI.sz
      rw [hall i h2] at h1;cases h1
  | succ fuel ih =>
    intro listed a w hcnt hI
    refine ⟨fun hr=>hQ a w listed hI (full listed a w hI hr),fun i hr=>?_⟩
    refine hI.step hc hV (hg i) hr (fun a' w' hI'=>ih _ a' w' ?_ hI')
    obtain ⟨_,o,ho,_⟩:=mem_ready.1 hr
    have ho:l[i]?=some o:=by rw [←ho];simp
    obtain ⟨h1,h2,_⟩:=a3l hr ho hI.sz
    have hil:i < listed.toList.length:=by rw [Array.length_toList,hI.sz];exact h2
    have hli:listed.toList[i]=false:=by
      have hkl:i < listed.size:=by rw [hI.sz];exact h2
      simpa [hkl] using h1
    have hpos:0 < listed.toList.count false:=List.count_pos_iff.2 (by rw [←hli];exact List.getElem_mem hil)
    rw [Array.toList_setIfInBounds,List.count_set hil,hli]
    have e1:(false == false)=true:=rfl
    have e2:(true == false)=false:=rfl
    rw [e1,e2]
    simp only [if_true,Bool.false_eq_true,if_false]
    omega
def HDr (P:Program) (n clk:Nat) (tm0:List (Nat×TV)) (hp0:List (Nat×HObj)) (L:List Oper) (dn:List Oper) (ss:List HSpec) (rest:List Oper) (k:Nat) (tm:List (Nat×TV)) (hp:List (Nat×HObj)) (Fin:Prop):Prop :=
 dn++rest=L→dn.length=k→VRun P L.toArray n clk tm0 hp0 dn ss tm hp→Fin
theorem c4H {id:Nat} (h:HDr P n clk tm0 hp0 l [] [] l 0 tm0 hp0 (HWp C P (.region id l.toArray true) ⟨n,tm0,hp0,clk⟩ Q)):HWp C P (.region id l.toArray true) ⟨n,tm0,hp0,clk⟩ Q:=h rfl rfl .nil
theorem b0U {id:Nat} {dn:List Oper} {k:Nat} {tm:List (Nat×TV)} {hp:List (Nat×HObj)} (hm:P.follows .mixedOrders=true) (hc:c8M l ss tm0=true) {c':Nat} (hc':clk+k=c') (h:HQ C Q .normal ⟨n,tm,hp,c'⟩) (nd:C.rd=none∨l.all Oper.calm=true:=by first | exact .inr rfl | exact .inl rfl | exact .inl (by assumption)):HDr P n clk tm0 hp0 l dn ss [] k tm hp (HWp C P (.region id l.toArray true) ⟨n,tm0,hp0,clk⟩ Q):=by
 subst hc'
 intro hdl hk hv a w hs
 rw [List.append_nil] at hdl
 subst hdl;subst hk
 obtain ⟨hV,hchk⟩:=c1d hc
 obtain ⟨g1,g2,g3,g4⟩:=hv.good
 obtain ⟨E,e0,r,hG,hsz,hdf,ht⟩:=hs
 have start:Inv C n clk tm0 hp0 dn ss (Array.replicate dn.length false) a w.drew:=by
  have hf:∀ k,(Array.replicate dn.length false).getD k false=false:=by
   intro k;by_cases hk:k < dn.length <;> simp [hk]
  have hfun:(fun k=>(Array.replicate dn.length false).getD k false)=fun _=>false:=funext hf
  have hz:∀ m,hrun ss (hget hp0) (fun _=>false) m=hget hp0:=by
   intro m
   induction m with
   | zero=>rfl
   | succ m ih=>simp only [hrun,Bool.false_eq_true,if_false];exact ih
  have hzt:∀ m t,trun dn ss (tget tm0) (fun _=>false) m t=tget tm0 t:=by
   intro m t
   induction m with
   | zero=>rfl
   | succ m ih=>simp only [trun,Bool.false_eq_true,false_and,if_false];exact ih
  refine ⟨by simp,(fun i o _ h=>by rw [hf] at h;cases h),E,e0.trans (r.extBelow (Below.refl _ _).drew),(by rw [hfun,hz];exact r.drew),fun g hg=>.inl (hG g hg),hsz,hdf.ext (r.extBelow (Below.refl _ _).drew),fun t x hx=>?_⟩
  rw [hfun] at hx
  rw [hzt] at hx
  exact (ht t x hx).ext (r.extBelow (Below.refl _ _).drew)
 refine a4w nd hm ?_
 have:=Inv.any (C:=C) (P:=P) (Q:=Q) hchk hV g4 (fun a' w' listed hI hall=>h a' w' ?_) dn.toArray.size (Array.replicate dn.length false) a w.drew sml start
 ·simpa using this
 ·obtain ⟨E',e',r',hG',hsz',hdf',ht'⟩:=hI.st
  have e1:hrun ss (hget hp0) (fun k=>listed.getD k false) dn.length=hget hp:=by
   rw [g3];funext id;exact a1Q _ (fun _ _=>rfl) (fun k hk _=>hall k hk)
  have e2:∀ t,trun dn ss (tget tm0) (fun k=>listed.getD k false) dn.length t=tget tm t:=by
   intro t;rw [g2];exact a1E _ (fun _ _=>rfl) (fun k hk _=>⟨hall k hk,rfl⟩)
  rw [e1] at r'
  refine ⟨E',e',r',fun g hg=>?_,hsz',hdf',fun t x hx=>ht' t x (by rw [e2];exact hx)⟩
  rcases hG' g hg with h | ⟨k,h1,_,h3⟩
  ·show g < clk+dn.length;omega
  ·show g < clk+dn.length;omega
section
variable {Fin:Prop} {o:Oper} {rest dn:List Oper} {k:Nat} {tm:List (Nat×TV)} {hp:List (Nat×HObj)} {L:List Oper} {pre post:List (Nat×HObj)} {v:HV}
theorem a7X (sp:HSpec) (d:Nat) (hd:o.dst=some d) (hst:HStep P L.toArray o (tget tm) (clk+k) sp) (hpre:∀ p∈sp.pre,hget hp p.1=some p.2) (hlt:Nat.blt d n=true) (h:HDr P n clk tm0 hp0 L (dn++[o]) (ss++[sp]) rest (k+1) ((d,sp.tv)::tm) (sp.post++hp) Fin):HDr P n clk tm0 hp0 L dn ss (o::rest) k tm hp Fin:=by
 intro hL hk hv
 subst hk
 have:=VRun.snoc dn ss tm hp o sp hv hst hpre (fun d' hd'=>by rw [hd] at hd';injection hd' with hd';subst hd';simpa [Nat.blt_eq] using hlt)
 have e:dtm o sp tm=(d,sp.tv)::tm:=by unfold dtm;rw [hd]
 rw [e] at this
 exact h (by simpa using hL) sml this
theorem c4X (sp:HSpec) (hd:o.dst=none) (hst:HStep P L.toArray o (tget tm) (clk+k) sp) (hpre:∀ p∈sp.pre,hget hp p.1=some p.2) (h:HDr P n clk tm0 hp0 L (dn++[o]) (ss++[sp]) rest (k+1) tm (sp.post++hp) Fin):HDr P n clk tm0 hp0 L dn ss (o::rest) k tm hp Fin:=by
 intro hL hk hv
 subst hk
 have:=VRun.snoc dn ss tm hp o sp hv hst hpre (fun d' hd'=>by rw [hd] at hd';cases hd')
 have e:dtm o sp tm=tm:=by unfold dtm;rw [hd]
 rw [e] at this
 exact h (by simpa using hL) sml this
theorem a3d (d:Nat) (hop:HOp P o (a0F (tget tm)) (clk+k) pre v []) (hd:o.dst=some d) (hg:o.guard=none) (hpre:∀ p∈pre,hget hp p.1=some p.2) (hlt:Nat.blt d n=true) (hk:True=True)
  {k':Nat} (hk':k+1=k') (h:HDr P n clk tm0 hp0 L (dn++[o]) (ss++[⟨.v v,a0A o,pre,[]⟩]) rest k' ((d,.v v)::tm) hp Fin):HDr P n clk tm0 hp0 L dn ss (o::rest) k tm hp Fin:=by subst hk';exact a7X ⟨.v v,a0A o,pre,[]⟩ d hd (a2L hg hop) hpre hlt h
theorem a3C (d gi j:Nat) (b c:Bool) (hop:c=b→HOp P o (a1T (tget tm) j b) (clk+k) pre v []) (hd:o.dst=some d) (hg:o.guard=some (gi,b)) (hgi:(L.toArray[gi]?).bind (·.dst)=some j) (hc:tget tm j=some (.v (.imm (.bool c)))) (hpre:∀ p∈pre,hget hp p.1=some p.2) (hlt:Nat.blt d n=true) (hk:True=True) (hjd:True=True)
  {k':Nat} (hk':k+1=k') (h:HDr P n clk tm0 hp0 L (dn++[o]) (ss++[⟨.un j b v,j::a0A o,pre,[]⟩]) rest k' ((d,.un j b v)::tm) hp Fin):HDr P n clk tm0 hp0 L dn ss (o::rest) k tm hp Fin:=by subst hk';exact a7X ⟨.un j b v,j::a0A o,pre,[]⟩ d hd (a6J gi j b c hg hgi (.inl hc) hop) hpre hlt h
theorem d2o (d:Nat) (hop:HOp P o (a0F (tget tm)) (clk+k) pre v post) (hd:o.dst=some d) (hg:o.guard=none) (hpre:∀ p∈pre,hget hp p.1=some p.2) (hlt:Nat.blt d n=true) (hk:True=True)
  {k':Nat} (hk':k+1=k') (h:HDr P n clk tm0 hp0 L (dn++[o]) (ss++[⟨.v v,a0A o,pre,post⟩]) rest k' ((d,.v v)::tm) (post++hp) Fin):HDr P n clk tm0 hp0 L dn ss (o::rest) k tm hp Fin:=by subst hk';exact a7X ⟨.v v,a0A o,pre,post⟩ d hd (a2L hg hop) hpre hlt h
theorem a2x (d:Nat) {id:Nat} {ob:HObj} (hop:HOp P o (a0F (tget tm)) (clk+k) pre v [(id,ob)]) (hd:o.dst=some d) (hg:o.guard=none) (hpre:∀ p∈pre,hget hp p.1=some p.2) (hlt:Nat.blt d n=true) (hk:True=True)
  {k':Nat} (hk':k+1=k') (h:HDr P n clk tm0 hp0 L (dn++[o]) (ss++[⟨.v v,a0A o,pre,[(id,ob)]⟩]) rest k' ((d,.v v)::tm) ((id,ob)::hp) Fin):HDr P n clk tm0 hp0 L dn ss (o::rest) k tm hp Fin:=by subst hk';exact d2o d hop hd hg hpre hlt hk rfl h
theorem c8h {id:Nat} {ob:HObj} (hop:HOp P o (a0F (tget tm)) (clk+k) pre v [(id,ob)]) (hd:o.dst=none) (hg:o.guard=none) (hpre:∀ p∈pre,hget hp p.1=some p.2)
  {k':Nat} (hk':k+1=k') (h:HDr P n clk tm0 hp0 L (dn++[o]) (ss++[⟨.v v,a0A o,pre,[(id,ob)]⟩]) rest k' tm ((id,ob)::hp) Fin):HDr P n clk tm0 hp0 L dn ss (o::rest) k tm hp Fin:=by subst hk';exact c4X ⟨.v v,a0A o,pre,[(id,ob)]⟩ hd (a2L hg hop) hpre h
theorem d3X (d:Nat) {need:List Nat} (hst:HStep P L.toArray o (tget tm) (clk+k) ⟨.v v,need,[],[]⟩) (hd:o.dst=some d) (hlt:Nat.blt d n=true) (hk:True=True)
  {k':Nat} (hk':k+1=k') (h:HDr P n clk tm0 hp0 L (dn++[o]) (ss++[⟨.v v,need,[],[]⟩]) rest k' ((d,.v v)::tm) hp Fin):HDr P n clk tm0 hp0 L dn ss (o::rest) k tm hp Fin:=by subst hk';exact a7X ⟨.v v,need,[],[]⟩ d hd hst pre0 hlt h
end
end
section
variable {P:Program} {ov:Nat→Option HV} {g:Nat} {d:Option Tmp} {ty:TypeId} {pos:String} {af:Array Edge} {gd:Option (Nat×Bool)} {T:TypeId} {x y:Operand}
end
def arOf (P:Program) (T:TypeId):Option (List Value×Nat) :=
  match P.info? T,P.underlying T with
  | some it, some (.array _ e) =>
    match it.zero,P.info? e with
    | some z,some ie=>some (z.cells.toList,ie.size)
    | _,_=>none
  | _,_=>none
section
variable {P:Program} {ov:Nat→Option HV} {g:Nat} {d:Option Tmp} {ty:TypeId} {pos:String} {af:Array Edge} {gd:Option (Nat×Bool)} {T:TypeId}
theorem b1l {zs:List Value} {es n m:Nat} {parts:List (Nat×Operand)} {hs:List (Nat×Nat×HV)} (hT:arOf P T=some (zs,es)) (hn:zs.length=n) (hz1:zs.all (·.oneCell')=true) (hp:a3S ov ((List.range m).map fun i=>(i * es,es)) n parts hs) :
  HOp P ⟨d,.build T parts.toArray,ty,pos,af,gd⟩ ov g [] (.agg n (bld hs (fun j=>.imm (zs.getD j undef)))) [] :=
 a0t fun w E ρ hr=>by
  obtain ⟨e1,e2⟩:=hp.spec (w:=w) (E:=E) (ρ:=ρ) (fun x hv hx h=>hr x hv (by simpa [Op.operands] using hx) h)
  unfold arOf at hT
  split at hT
  ·rename_i it _ e hit hu
   split at hT
   ·rename_i z ie hz hie
    injection hT with hT
    injection hT with ha hb
    subst hb
    have hzl:z.cells.size=n:=by rw [←hn,←ha,Array.length_toList]
    obtain ⟨r,hr1,hr2,hr3⟩:=b2X (w:=w) (E:=E) (fun i=>some (i * ie.size,ie.size)) (parts.map fun p=>(p.1,ρ p.2)) hs z.cells (fun j=>.imm (zs.getD j undef)) (fun k hk=>by
     have hk':k < zs.length:=by rw [hn,←hzl];exact hk
     have e:zs.getD k undef=zs[k]:=by simp [List.getD,List.getElem?_eq_getElem hk']
     refine ⟨zs[k],?_,List.all_eq_true.1 hz1 _ (List.getElem_mem hk'),by rw [e];exact .imm _⟩
     rw [←Array.getElem?_toList,ha,List.getElem?_eq_getElem hk']) e1 (fun i p q hp hq=>by
      obtain ⟨h1,h2⟩:=e2 i p q hp hq
      refine ⟨?_,by rw [hzl];exact h2⟩
      rw [List.getElem?_toArray,List.getElem?_map] at h1
      by_cases hm:p.1 < m
      ·rw [List.getElem?_range hm] at h1;exact h1
      ·rw [List.getElem?_eq_none (by simpa using hm)] at h1;cases h1)
    have hb:P.built T (parts.toArray.map fun (i,x)=>(i,ρ x)).toList=some r:=by
     unfold Program.built
     simp only [hit,hu,hz,hie]
     rw [←hr1]
     simp
    refine ⟨.agg r,by simp only [execOp,Sem.run_bind,run_build w T _ r hb,Result.andThen_ok,Sem.run_pure],?_⟩
    have hch:∀ k,∃ u,k < n→r[k]?=some u∧u.oneCell'=true∧Rep w E u (bld hs (fun j=>.imm (zs.getD j undef)) k):=by
     intro k
     by_cases hk:k < n
     ·obtain ⟨u,hu⟩:=hr3 k (by rw [hzl];exact hk)
      exact ⟨u,fun _=>hu⟩
     ·exact ⟨undef,fun h=>absurd h hk⟩
    refine .agg r n _ (fun k=>(hch k).choose) (by rw [hr2,hzl]) (fun i hi=>⟨((hch i).choose_spec hi).1,((hch i).choose_spec hi).2.1⟩) (fun i hi=>((hch i).choose_spec hi).2.2)
   ·cases hT
  ·cases hT
end
def arL (P:Program) (T:TypeId):Option (Nat×Nat) :=
 match P.underlying T with
 | some (.array n e)=>(P.info? e).map fun i=>(n,i.size)
 | _=>none
theorem a6x {P:Program} {T:TypeId} {n s:Nat} (hT:arL P T=some (n,s)) (k:IntKind) (i:Int) (a:Addr) (h0:0≤i) (h1:i < n) (w:World) :
  (Instr.indexAt T (.pointer (some a)) (.int k i)).run P w=.ok (.pointer (some (a.add (i.toNat * s)))) w:=by
 unfold arL at hT
 split at hT
 ·rename_i n' e hu
  obtain ⟨it,hi,h⟩:=Option.map_eq_some_iff.1 hT
  injection h with h2 h3
  subst h2;subst h3
  have hs:∀ w,(sizeOf e).run P w=.ok it.size w:=fun w=>by simp [sizeOf,typeInfo,hi]
  unfold Instr.indexAt
  simp [asIntOf,run_underlying hu,Instr.sureAddr,h0,h1,hs]
 ·cases hT
section
variable {P:Program} {ov:Nat→Option HV} {g:Nat} {d:Option Tmp} {ty:TypeId} {pos:String} {af:Array Edge} {gd:Option (Nat×Bool)} {T:TypeId} {x y:Operand}
theorem b9h {id gg i0 off n s:Nat} {k:IntKind} {i:Int} (hT:arL P T=some (n,s)) (h1:ovl ov x=some (.pt id gg i0 off)) (h2:ovl ov y=some (.imm (.int k i))) (hi0:0≤i) (hi:i < n) :
    HOp P ⟨d,.indexAddr T x y,ty,pos,af,gd⟩ ov g [] (.pt id gg i0 (off+i.toNat * s)) [] :=
  a0t fun w E ρ hr=>by
    have h:=hr x _ smo h1
    have e2:=Rep.imm_inv (hr y _ smo h2)
    generalize hρ:ρ x=u at h
    cases h with
    | pt b' k' _ _ _ _ hgg hh =>
      refine ⟨.pointer (some ⟨b',k'+i.toNat * s,none⟩),?_,?_⟩
      · simp only [execOp,hρ,e2,Sem.run_bind,a6x hT k i _ hi0 hi,Result.andThen_ok,Sem.run_pure,a3v]
      · refine .pt b' _ id gg i0 _ hgg (fun l hl hlg=>?_)
        obtain ⟨h1,rfl⟩:=hh l hl hlg
        exact ⟨h1,by rw [Nat.add_assoc]⟩
theorem b8q {n m s:Nat} {f:Nat→HV} {k:IntKind} {i:Int} (hT:arL P T=some (n,s)) (h1:ovl ov x=some (.fp m f)) (h2:ovl ov y=some (.imm (.int k i))) (hi0:0≤i) (hi:i < n) (hm:i.toNat * s≤m) :
    HOp P ⟨d,.indexAddr T x y,ty,pos,af,gd⟩ ov g [] (.fp (m - i.toNat * s) (fun j=>f (i.toNat * s+j))) [] :=
  a0t fun w E ρ hr=>by
    have h:=hr x _ smo h1
    have e2:=Rep.imm_inv (hr y _ smo h2)
    generalize hρ:ρ x=u at h
    cases h with
    | fp bl o _ _ vs hA h =>
      refine ⟨.pointer (some ⟨bl,o+i.toNat * s,none⟩),?_,?_⟩
      · simp only [execOp,hρ,e2,Sem.run_bind,a6x hT k i _ hi0 hi,Result.andThen_ok,Sem.run_pure,a3v]
      · refine .fp bl _ _ _ (fun j=>vs (i.toNat * s+j)) (fun j hj=>?_) (fun j hj=>h _ omo)
        rw [Nat.add_assoc]
        exact hA (i.toNat * s+j) omo
end
inductive Kz (kp sh:List (Nat×HObj)):HV→HV→Prop
 | fz (x y:HV) (h:Fz sh x y):Kz kp sh x y
 | agg (n:Nat) (f f':Nat→HV) (h:∀ i,i < n→Kz kp sh (f i) (f' i)):Kz kp sh (.agg n f) (.agg n f')
 | tup (n:Nat) (f f':Nat→HV) (h:∀ i,i < n→Kz kp sh (f i) (f' i)):Kz kp sh (.tup n f) (.tup n f')
 | sl (sz n:Nat) (f f':Nat→Nat→HV) (h:∀ i j,i < n→j < sz→Kz kp sh (f i j) (f' i j)):Kz kp sh (.sl sz n f) (.sl sz n f')
 | ifc (t:TypeId) (x y:HV) (h:Kz kp sh x y):Kz kp sh (.ifc t x) (.ifc t y)
 | fn (fn:Fn) (n:Nat) (f f':Nat→HV) (h:∀ i,i < n→Kz kp sh (f i) (f' i)):Kz kp sh (.fn fn n f) (.fn fn n f')
 | pt (id g i off:Nat) (o:HObj) (ho:hget kp id=some o) (hg:o.g=g):Kz kp sh (.pt id g i off) (.pt id g i off)
 | os (id g lo n:Nat) (o:HObj) (ho:hget kp id=some o) (hg:o.g=g):Kz kp sh (.os id g lo n) (.os id g lo n)
 | nps (id g:Nat) (o:HObj) (ho:hget kp id=some o) (hg:o.g=g):Kz kp sh (.nps id g) (.nps id g)
 | mp (id g:Nat) (o:HObj) (ho:hget kp id=some o) (hg:o.g=g):Kz kp sh (.mp id g) (.mp id g)
 | bnd (f:Fn) (x y:HV) (h:Kz kp sh x y):Kz kp sh (.bnd f x) (.bnd f y)
theorem Kz.sound {w:World} {E E':Env} {kp sh:List (Nat×HObj)} (hF:∀ a,E.F a→E'.F a) (hL:∀ id o,hget kp id=some o→E'.L id=E.L id) (hG:∀ id o,hget kp id=some o→E'.G o.g) (hsh:b1h w E sh) {x y:HV} (hz:Kz kp sh x y) :
    ∀ {v:Value},Rep w E v x→Rep w E' v y:=by
  induction hz with
  | fz x y h=>exact fun hr=>(h.sound hsh hr).ext (Ext.just hF)
  | agg n f f' _ ih=>intro u h;cases h with | agg cs _ _ vs hn hv h=>exact .agg cs n f' vs hn hv (fun i hi=>ih i hi (h i hi))
  | tup n f f' _ ih=>intro u h;cases h with | tup cs _ _ vs hn hv h=>exact .tup cs n f' vs hn hv (fun i hi=>ih i hi (h i hi))
  | sl sz n f f' _ ih=>intro u h;cases h with | sl A _ c _ _ vs hc hm hA h=>exact .sl A n c sz f' vs hc hm (fun hn=>by
      obtain ⟨b,o,h1,h2,h3⟩:=hA hn
      exact ⟨b,o,h1,h2,fun i j hi hj=>⟨hF _ (h3 i j hi hj).1,(h3 i j hi hj).2⟩⟩) (fun i j hi hj=>ih i j hi hj (h i j hi hj))
  | ifc t x y _ ih=>intro u h;cases h with | ifc _ v _ h=>exact .ifc t v y (ih h)
  | fn fn n f f' _ ih=>intro u h;cases h with | fn _ cs _ _ vs hn hv h=>exact .fn fn cs n f' vs hn hv (fun i hi=>ih i hi (h i hi))
  | bnd f x y _ ih=>intro u h;cases h with | bnd _ v _ h=>exact .bnd f v y (ih h)
  | pt id g i off o ho hg =>
    intro u h
    cases h with
    | pt b k _ _ _ _ hgG hh=>exact .pt b k id g i off (hg▸hG id o ho) (fun l hl hlg=>hh l (by rw [←hL id o ho];exact hl) hlg)
  | os id g lo n o ho hg =>
    intro u h
    cases h with
    | os A _ c _ _ _ hgG hc hm hA h0 =>
      refine .os A n c id g lo (hg▸hG id o ho) hc hm (fun hp=>?_) (fun l hl hlg=>h0 l (by rw [←hL id o ho];exact hl) hlg)
      obtain ⟨b,k,h1,h2⟩:=hA hp
      exact ⟨b,k,h1,fun l hl hlg=>h2 l (by rw [←hL id o ho];exact hl) hlg⟩
  | mp id g o ho hg =>
    intro u h
    cases h with
    | mp b _ _ hgG hh=>exact .mp b id g (hg▸hG id o ho) (fun l hl hlg=>hh l (by rw [←hL id o ho];exact hl) hlg)
  | nps id g o ho hg =>
    intro u h
    cases h with
    | npn _ _ hgG hh=>exact .npn id g (hg▸hG id o ho) (fun l hl hlg=>hh l (by rw [←hL id o ho];exact hl) hlg)
    | npp _ _ _ hgG hc h =>
      cases h with
      | pt b k _ _ _ _ _ hh=>exact .npp _ _ _ (hg▸hG id o ho) (fun l hl hlg=>hc l (by rw [←hL id o ho];exact hl) hlg) (.pt b k id g 0 0 (hg▸hG id o ho) (fun l hl hlg=>hh l (by rw [←hL id o ho];exact hl) hlg))
structure Clr where
 K:Nat→Prop
 w0:World
 F0:Addr→Prop
 E:Env
 h:Nat→Option HObj
 w:World
 pre:List (Nat×HObj)
def Clr.K' (X:Clr) (b:Nat):Prop:=∀ id o l,hget X.pre id=some o→X.E.L id=some l→l.A≠some b
def Clr.ctx (X:Clr):Ctx:=⟨X.K',X.w,X.E,[],none,none⟩
structure Clr.Ok (X:Clr):Prop where
 r:R X.K X.w0 X.F0 X.E X.h X.w
 pre:∀ id o,hget X.pre id=some o→X.h id=some o
theorem Clr.Ok.start {X:Clr} (ok:X.Ok):R X.K' X.w X.E.F X.E (hget X.pre) X.w:=by
 have r:=ok.r
 refine ⟨rfl,rfl,rfl,Nat.le_refl _,fun _ _ _=>rfl,r.frz,fun a ha=>.inl ha,fun b hb id o l ho hl hA=>?_,r.libw,r.bks,fun id o ho=>?_,fun id id' o o' l l' b ho ho' hl hl' hb hb'=>r.inj id id' o o' l l' b (ok.pre _ _ ho) (ok.pre _ _ ho') hl hl' hb hb'⟩
 ·obtain ⟨l2,hl2,a⟩:=r.obj id o (ok.pre _ _ ho)
  rw [hl] at hl2;injection hl2 with hl2;subst hl2
  exact a.notK hA (r.lib.ok _ hb) (r.klib _ hb)
 ·obtain ⟨l,hl,a⟩:=r.obj id o (ok.pre _ _ ho)
  refine ⟨l,hl,a.g,a.G,a.sz,a.pos,?_⟩
  rcases a.at_ with h0 | ⟨b,cs,g1,g2,g3,g4,g5,g6,g8,g9⟩ | ⟨b,ob,g1,g2,g3,g4⟩
  ·exact .inl h0
  ·exact .inr (.inl ⟨b,cs,g1,g2,g3,g4,g5,fun _ hk=>hk id o l ho hl g1,g8,g9⟩)
  ·exact .inr (.inr ⟨b,ob,g1,g2,g3,fun _ hk=>hk id o l ho hl g1⟩)
theorem a9t (h:Nat→Option HObj):∀ (p:List (Nat×HObj)) (id:Nat),hupd h p id=match hget p id with | some o=>some o | none=>h id
  | [],id=>rfl
  | (k, o) :: p, id => by
    show a2I (hupd h p) k o id=_
    rw [a0o]
    by_cases hk:id=k
    · subst hk;rw [a0v,a0v]
    · rw [a0s _ _ hk,a0s _ _ hk,a9t h p id]
theorem Clr.Ok.back {X:Clr} (ok:X.Ok) {E2:Env} {h2:Nat→Option HObj} {w':World} {c':Nat} (e2:Ext X.w X.E w' E2) (r2:R X.K' X.w X.E.F E2 h2 w') (hG2:∀ g,E2.G g→g < c') {kp sh:List (Nat×HObj)} (hsh:b1h w' E2 sh)
    (hpk:∀ id o,hget X.pre id=some o→∃ o',hget kp id=some o')
    (hkp:∀ id o',hget kp id=some o'→∃ o,h2 id=some o∧o.g=o'.g∧o.n=o'.n∧o.sz=o'.sz∧o.ty=o'.ty∧o.fl≤o'.fl∧(∀ i j,i < o.n→j < o.sz→Kz kp sh (o.f i j) (o'.f i j))∧(o'.n < o'.fl→o=o')) :
    ∃ E3,Ext X.w X.E w' E3∧R X.K X.w0 X.F0 E3 (hupd X.h kp) w'∧(∀ g,E3.G g→g < c')∧(∀ g,E3.G g→X.E.G g∨∃ id o,hget kp id=some o∧o.g=g)∧∀ v x y,Kz kp sh x y→Rep w' E2 v x→Rep w' E3 v y:=by
  have r:=ok.r
  let E3:Env:=⟨E2.F,fun id=>match hget kp id with | some _=>E2.L id | none=>X.E.L id,fun g=>X.E.G g∨∃ id o,hget kp id=some o∧o.g=g,X.E.M⟩
  have hL:∀ id o,hget kp id=some o→E3.L id=E2.L id:=fun id o ho=>by show (match hget kp id with | some _=>E2.L id | none=>X.E.L id)=_;rw [ho]
  have hLn:∀ id,hget kp id=none→E3.L id=X.E.L id:=fun id ho=>by show (match hget kp id with | some _=>E2.L id | none=>X.E.L id)=_;rw [ho]
  have kz:∀ v x y,Kz kp sh x y→Rep w' E2 v x→Rep w' E3 v y:=fun v x y hz hr=>hz.sound (E:=E2) (E':=E3) (fun _ h=>h) hL (fun id o ho=>.inr ⟨id,o,ho,rfl⟩) hsh hr
  have e3:Ext X.w X.E w' E3:=⟨e2.sz,e2.F,fun g hg=>.inl hg,fun id l hl hg=>by
    cases hk:hget kp id with
    | none=>rw [hLn id hk] at hl;exact hl
    | some o=>rw [hL id o hk] at hl;exact e2.L id l hl hg,fun _ h=>h⟩
  have own:∀ id o l b,X.h id=some o→X.E.L id=some l→l.A=some b→b < X.w.heap.size∧(b < X.w0.heap.size→¬ X.K b)∧(hget X.pre id=none→X.K' b):=by
    intro id o l b ho hl hA
    obtain ⟨l2,hl2,a⟩:=r.obj id o ho
    rw [hl] at hl2;injection hl2 with hl2;subst hl2
    refine ⟨a.lt hA,?_,fun hn id' o' l' ho' hl' hA'=>?_⟩
    · exact a.notK hA
    · have:=r.inj id id' o o' l l' b ho (ok.pre _ _ ho') hl hl' hA hA'
      subst this
      rw [hn] at ho';cases ho'
  have notpre:∀ b,b < X.w0.heap.size→X.K b→X.K' b:=fun b hb hK id o l ho hl hA=>(own id o l b (ok.pre _ _ ho) hl hA).2.1 hb hK
  have ispre:∀ b,¬ X.K' b→∃ id o l,hget X.pre id=some o∧X.E.L id=some l∧l.A=some b:=by
    intro b hb
    unfold Clr.K' at hb
    simp only [Classical.not_forall,ne_eq,Classical.not_not] at hb
    obtain ⟨id,o,l,h1,h2,h3⟩:=hb
    exact ⟨id,o,l,h1,h2,h3⟩
  have kpo:∀ id o',hget kp id=some o'→∃ l,E3.L id=some l∧ObjAt w' E3 X.K X.w0.heap.size o' l∧E2.L id=some l∧(∀ b,l.A=some b→X.w.heap.size≤b∨¬ X.K' b):=by
    intro id o' hk
    obtain ⟨o,ho,h1,h2',h3,h4,h5,h6,h7⟩:=hkp id o' hk
    obtain ⟨l,hl,a⟩:=r2.obj id o ho
    refine ⟨l,by rw [hL id o' hk];exact hl,⟨a.g.trans h1,.inr ⟨id,o',hk,rfl⟩,a.sz.trans h3,by rw [←h3];exact a.pos,?_⟩,hl,fun b hb=>?_⟩
    · rcases a.at_ with ⟨g1,g2,g3⟩ | ⟨b,cs,g1,g2,g3,g4,g5,g6,⟨vs,g8⟩,g9⟩ | ⟨b,ob,g1,g2,g3,g6⟩
      rotate_right
      · refine .inr (.inr ⟨b,ob,g1,g2,by rw [←h7 (by rw [←h2',g3.n];rw [g3.fl] at h5;omega)];exact g3,fun hlt=>?_⟩)
        have hlt':=Nat.lt_of_lt_of_le hlt r.size
        obtain ⟨id',o1,l1,p1,p2,p3⟩:=ispre b (g6 hlt')
        exact (own id' o1 l1 b (ok.pre _ _ p1) p2 p3).2.1 hlt
      · refine .inl ⟨g1,g2,by rw [←h2'];exact g3.1,?_⟩
        rcases Nat.lt_or_ge o'.n o'.fl with h | h
        · rw [←h7 h];exact g3.2
        · exact h
      · refine .inr (.inl ⟨b,cs,g1,by rw [←h4];exact g2,by rw [←h3];exact g3,by rw [←h2'];exact g4,g5,fun hlt=>?_,⟨vs,fun i j hi hj=>?_⟩,fun k hk'=>?_,?_⟩)
        · have hlt':=Nat.lt_of_lt_of_le hlt r.size
          obtain ⟨id',o1,l1,p1,p2,p3⟩:=ispre b (g6 hlt')
          exact (own id' o1 l1 b (ok.pre _ _ p1) p2 p3).2.1 hlt
        · rw [←h2'] at hi;rw [←h3] at hj
          have:=g8 i j hi hj
          rw [←h3]
          exact ⟨this.1,this.2.1,kz _ _ _ (h6 i j hi hj) this.2.2⟩
        · have:=g9.1 k hk'
          rw [←h3]
          exact Nat.lt_of_lt_of_le this (Nat.mul_le_mul_right _ h5)
        · rcases Nat.lt_or_ge o'.n o'.fl with h | h
          · rw [←h7 h];exact g9.2
          · exact h
    · have g6:=a.notK hb
      · by_cases hlt:b < X.w.heap.size
        · exact .inr (g6 hlt)
        · exact .inl omo
  have oth:∀ id o,hget kp id=none→X.h id=some o→∃ l,E3.L id=some l∧ObjAt w' E3 X.K X.w0.heap.size o l∧X.E.L id=some l∧(∀ b,l.A=some b→b < X.w.heap.size∧X.K' b):=by
    intro id o hk ho
    have hpn:hget X.pre id=none:=by
      cases hp:hget X.pre id with
      | none=>rfl
      | some o1=>obtain ⟨o',ho'⟩:=hpk id o1 hp;rw [hk] at ho';cases ho'
    obtain ⟨l,hl,a⟩:=r.obj id o ho
    have hb:∀ b,l.A=some b→b < X.w.heap.size∧X.K' b:=fun b hb=>⟨(own id o l b ho hl hb).1,(own id o l b ho hl hb).2.2 hpn⟩
    refine ⟨l,by rw [hLn id hk];exact hl,a.ext e3 (fun b hA=>r2.keep b (hb b hA).1 (hb b hA).2) (fun b k hA hF=>?_),hl,hb⟩
    rcases r2.fnew _ hF with h1 | h1 | h1
    · exact h1
    · exact absurd h1 (by have:=(hb b hA).1;simp;omega)
    · exact absurd (hb b hA).2 h1
  have all:∀ id o,hupd X.h kp id=some o→∃ l,E3.L id=some l∧ObjAt w' E3 X.K X.w0.heap.size o l:=by
    intro id o ho
    rw [a9t] at ho
    cases hk:hget kp id with
    | some o'=>rw [hk] at ho;injection ho with ho;subst ho;obtain ⟨l,h1,h2,_⟩:=kpo id o' hk;exact ⟨l,h1,h2⟩
    | none=>rw [hk] at ho;obtain ⟨l,h1,h2,_⟩:=oth id o hk ho;exact ⟨l,h1,h2⟩
  refine ⟨E3,e3,⟨r2.os.trans r.os,r2.tape.trans r.tape,r2.output.trans r.output,Nat.le_trans r.size r2.size,fun k hk hK=>(r2.keep k (Nat.lt_of_lt_of_le hk r.size) (notpre k hk hK)).trans (r.keep k hk hK),r2.frz,fun a ha=>?_,r.klib,r.lib,fun b hb=>r2.bks b (e2.M b hb),all,fun id id' o o' l l' b ho ho' hl hl' hb hb'=>?_⟩,fun g hg=>?_,fun g hg=>hg,kz⟩
  · rcases r2.fnew a ha with h1 | h1 | h1
    · exact r.fnew a h1
    · exact .inr (.inl (Nat.le_trans r.size h1))
    · obtain ⟨id,o,l,p1,p2,p3⟩:=ispre _ h1
      by_cases hlt:a.block < X.w0.heap.size
      · exact .inr (.inr ((own id o l _ (ok.pre _ _ p1) p2 p3).2.1 hlt))
      · exact .inr (.inl omo)
  · rw [a9t] at ho ho'
    cases hk:hget kp id with
    | some o1 =>
      obtain ⟨l1,h1,_,h3,h4⟩:=kpo id o1 hk
      rw [hl] at h1;injection h1 with h1;subst h1
      cases hk':hget kp id' with
      | some o2 =>
        obtain ⟨l2,g1,_,g3,g4⟩:=kpo id' o2 hk'
        rw [hl'] at g1;injection g1 with g1;subst g1
        obtain ⟨p,hp,_⟩:=hkp id o1 hk
        obtain ⟨q,hq,_⟩:=hkp id' o2 hk'
        exact r2.inj id id' p q l l' b hp hq h3 g3 hb hb'
      | none =>
        rw [hk'] at ho'
        obtain ⟨l2,g1,_,g3,g4⟩:=oth id' o' hk' ho'
        rw [hl'] at g1;injection g1 with g1;subst g1
        rcases h4 b hb with h5 | h5
        · have:=(g4 b hb').1;omega
        · exact absurd (g4 b hb').2 h5
    | none =>
      rw [hk] at ho
      obtain ⟨l1,h1,_,h3,h4⟩:=oth id o hk ho
      rw [hl] at h1;injection h1 with h1;subst h1
      cases hk':hget kp id' with
      | some o2 =>
        obtain ⟨l2,g1,_,g3,g4⟩:=kpo id' o2 hk'
        rw [hl'] at g1;injection g1 with g1;subst g1
        rcases g4 b hb' with h5 | h5
        · have:=(h4 b hb).1;omega
        · exact absurd (h4 b hb).2 h5
      | none =>
        rw [hk'] at ho'
        obtain ⟨l2,g1,_,g3,g4⟩:=oth id' o' hk' ho'
        rw [hl'] at g1;injection g1 with g1;subst g1
        exact r.inj id id' o o' l l' b ho ho' h3 g3 hb hb'
  · rcases hg with hg | ⟨id,o',hk,rfl⟩
    · exact hG2 g (e2.G g hg)
    · obtain ⟨o,ho,h1,_⟩:=hkp id o' hk
      obtain ⟨l,hl,a⟩:=r2.obj id o ho
      rw [←h1]
      exact hG2 _ a.G
inductive HEnd where
 | ret (x:HV)
 | pan (x:HV)
def d0N (w:World) (E:Env):Ending→HEnd→Prop
 | .returned v,.ret x=>Rep w E v x
 | .panicked ch,.pan x=>∃ v,ch=[{ v:=v,recovered:=false }]∧Rep w E v x
 | _,_=>False
def a1A (X:Clr) (Post:HEnd→List (Nat×HObj)→Nat→Prop) (e:Ending) (w':World):Prop :=
 ∃ x kp c' E',Post x kp c'∧Ext X.w X.E w' E'∧R X.K X.w0 X.F0 E' (hupd X.h kp) w'∧(∀ g,E'.G g→g < c')∧(∀ g,E'.G g→X.E.G g∨∃ id o,hget kp id=some o∧o.g=g)∧d0N w' E' e x
def a2y (P:Program) (f:FuncId) (c:Nat) (args:List HV) (pre:List (Nat×HObj)) (Post:HEnd→List (Nat×HObj)→Nat→Prop):Prop:=c6n P f ∧
 ∀ (X:Clr) (vs:List Value),X.Ok→X.pre=pre→RepAll X.w X.E vs args→(∀ g,X.E.G g→g < c)→Calls P f vs.toArray X.w (a1A X Post)
theorem a1z {p:List (Nat×HObj)} {id:Nat} {o:HObj} (h:hget p id=some o):(id,o)∈p:=by
  induction p with
  | nil=>cases h
  | cons q p ih =>
    obtain ⟨k,x⟩:=q
    rw [a0o] at h
    unfold a2I at h
    split at h
    · rename_i e;injection h with h;subst h;subst e;exact List.mem_cons_self ..
    · exact List.mem_cons_of_mem _ (ih h)
section
variable {P:Program} {Post:HEnd→List (Nat×HObj)→Nat→Prop}
theorem a0p {f:FuncId} {fn:Func} {c:Code} (hf:P.funcs[f]?=some fn) (hb:fn.body=some c) (hn:(fn.name == "runtime.NumGoroutine")=false) (clk:Nat) (args:List HV) (pre:List (Nat×HObj)) (tm:List (Nat×TV)) (htm:a8o 0 args=tm) (n:Nat) (hnt:fn.ntmps=n) (hlen:Nat.ble args.length n=true)
  (h:∀ X:Clr,X.Ok→X.pre=pre→HWp X.ctx P c ⟨n,tm,pre,clk⟩ (bodyPost P fn (a1A X Post))):a2y P f clk args pre Post:=by
 refine ⟨⟨fn,c,hf,hb,hn⟩,fun X vs ok hX hr hG=>calls_of_wp hf hb (a7q.1 (h X ok hX _ X.w ?_))⟩
 obtain ⟨hl,hg⟩:=hr.get
 have hlen:args.length≤n:=by simpa using hlen
 have rs:=ok.start
 rw [hX] at rs
 refine ⟨X.E,Ext.refl _ _,rs,hG,?_,rfl,fun t x hx=>?_⟩
 ·simp [hl,hnt];omega
 ·rw [←htm] at hx
  obtain ⟨i,y,rfl,h2,rfl⟩:=a2w args 0 t x hx
  obtain ⟨v,hv,hrep⟩:=hg i y h2
  have hi:i < vs.length:=by
   rcases Nat.lt_or_ge i vs.length with h | h
   ·exact h
   ·rw [List.getElem?_eq_none h] at hv;cases hv
  have:({ tmps:=vs.toArray++Array.replicate (fn.ntmps - vs.toArray.size) undef,defers:=[] }:Act).tmps.getD (0+i) undef=v:=by
   rw [Nat.zero_add]
   simp only [Array.getD_eq_getD_getElem?]
   rw [Array.getElem?_append_left (by simpa using hi)]
   simp [hv]
  rw [this]
  exact hrep
def OKz (kp sh:List (Nat×HObj)) (o o':HObj):Prop:=o.g=o'.g∧o.n=o'.n∧o.sz=o'.sz∧o.ty=o'.ty∧o.fl≤o'.fl∧(∀ i j,i < o.n→j < o.sz→Kz kp sh (o.f i j) (o'.f i j))∧(o'.n < o'.fl→o=o')
theorem OKz.of {kp sh:List (Nat×HObj)} {g n sz ty fl:Nat} {f f':Nat→Nat→HV} (h:∀ i j,i < n→j < sz→Kz kp sh (f i j) (f' i j)) (hfn:fl≤n:=by first | exact Nat.zero_le _ | exact Nat.le_refl _ | omega):OKz kp sh ⟨g,n,sz,ty,fl,f⟩ ⟨g,n,sz,ty,fl,f'⟩:=⟨rfl,rfl,rfl,rfl,Nat.le_refl _,h,fun h=>absurd hfn (Nat.not_le_of_lt h)⟩
def b6q (kp0 sh hp:List (Nat×HObj)):List (Nat×HObj)→Prop
 | []=>True
 | (id,o')::r=>(∃ o,hget hp id=some o∧OKz kp0 sh o o')∧b6q kp0 sh hp r
theorem b6q.get {kp0 sh hp:List (Nat×HObj)}:∀ {kp:List (Nat×HObj)},b6q kp0 sh hp kp→∀ id o',hget kp id=some o'→∃ o,hget hp id=some o∧OKz kp0 sh o o'
  | [],_,id,o',h=>by cases h
  | (k, x) :: r, hk, id, o', h => by
    rw [a0o] at h
    unfold a2I at h
    split at h
    · rename_i e;injection h with h;subst h;subst e;exact hk.1
    · exact b6q.get hk.2 id o' h
theorem a1A.of {X:Clr} (ok:X.Ok) {E:Env} {s:HSt} {w':World} (e0:Ext X.w X.E w' E) (r:R X.K' X.w X.E.F E (hget s.hp) w') (hG:∀ g,E.G g→g < s.clk) (sh:List (Nat×HObj)) (hd:a1u (sh.map (·.1))=true) (hsh:∀ p∈sh,hget s.hp p.1=some p.2)
  (kp:List (Nat×HObj)) (hpk:(X.pre.all fun p=>(hget kp p.1).isSome)=true) (hks:(kp.all fun p=>!(sh.map (·.1)).any (Nat.beq p.1))=true) (hkp:b6q kp sh s.hp kp) {x y:HV} {v:Value} (hz:Kz kp sh x y) (hv:Rep w' E v x) (hP:Post (.ret y) kp s.clk):a1A X Post (.returned v) w':=by
 obtain ⟨E1,e1,hL,hG1,hs1,r1⟩:=r.shareAll sh hd hsh
 obtain ⟨E3,e3,r3,hG3,hGk,kz⟩:=ok.back (e0.trans e1) r1 (fun g hg=>hG g (by rw [←hG1];exact hg)) (kp:=kp) (sh:=sh) hs1 (fun id o ho=>by
   have:=List.all_eq_true.1 hpk _ (a1z ho)
   exact Option.isSome_iff_exists.1 this) (fun id o' ho'=>by
   obtain ⟨o,h1,h2⟩:=hkp.get id o' ho'
   have:=List.all_eq_true.1 hks _ (a1z ho')
   refine ⟨o,?_,h2⟩
   rw [b5E _ _ _ (by simpa [List.map_map,Function.comp_def] using this)]
   exact h1)
 exact ⟨.ret y,kp,s.clk,E3,hP,e3,r3,hG3,hGk,kz v x y hz (hv.ext e1)⟩
theorem c7m {X:Clr} (ok:X.Ok) {fn:Func} {s:HSt} {y:HV} (hres:fn.results=#[]) (sh:List (Nat×HObj)) (hd:a1u (sh.map (·.1))=true) (hsh:∀ p∈sh,hget s.hp p.1=some p.2)
  (kp:List (Nat×HObj)) (hpk:(X.pre.all fun p=>(hget kp p.1).isSome)=true) (hks:(kp.all fun p=>!(sh.map (·.1)).any (Nat.beq p.1))=true) (hz:Kz kp sh (.tup 0 fun _=>default) y) (hP:Post (.ret y) kp s.clk) (hkp:b6q kp sh s.hp kp):HQ X.ctx (bodyPost P fn (a1A X Post)) .ret s:=by
 intro a w' ⟨E,e0,r,hG,hsz,hdf,ht⟩
 refine ⟨hdf,_,?_,a1A.of ok e0 r hG sh hd hsh kp hpk hks hkp hz (.tup #[] 0 (fun _=>default) (fun _=>undef) rfl (fun i hi=>absurd hi (Nat.not_lt_zero _)) (fun i hi=>absurd hi (Nat.not_lt_zero _))) hP⟩
 show (results fn a.tmps).run P w'=.ok (.tuple #[]) w'
 unfold results
 rw [hres]
 simp
theorem c8n {X:Clr} (ok:X.Ok) {fn:Func} {rv:ResultVar} {s:HSt} {x y:HV} (hres:fn.results=#[rv]) (hrv:a6M P s rv x) (sh:List (Nat×HObj)) (hd:a1u (sh.map (·.1))=true) (hsh:∀ p∈sh,hget s.hp p.1=some p.2)
  (kp:List (Nat×HObj)) (hpk:(X.pre.all fun p=>(hget kp p.1).isSome)=true) (hks:(kp.all fun p=>!(sh.map (·.1)).any (Nat.beq p.1))=true) (hz:Kz kp sh x y) (hP:Post (.ret y) kp s.clk) (hkp:b6q kp sh s.hp kp):HQ X.ctx (bodyPost P fn (a1A X Post)) .ret s:=by
 intro a w' ⟨E,e0,r,hG,hsz,hdf,ht⟩
 obtain ⟨v,h1,h2⟩:=hrv X.ctx a w' E r ht
 refine ⟨hdf,v,?_,a1A.of ok e0 r hG sh hd hsh kp hpk hks hkp hz h2 hP⟩
 have:(results fn a.tmps).run P w'=.ok v w':=by
  unfold results
  rw [hres]
  cases rv with
  | tmp t=>simp at h1 ⊢;exact h1
  | cell p t=>simp [Sem.run_bind] at h1 ⊢;simp [h1]
 exact this
theorem c8d {X:Clr} (ok:X.Ok) {fn:Func} {rv1 rv2 rv3:ResultVar} {s:HSt} {x1 x2 x3 y:HV} (hres:fn.results=#[rv1,rv2,rv3]) (hrv1:a6M P s rv1 x1) (hrv2:a6M P s rv2 x2) (hrv3:a6M P s rv3 x3) (sh:List (Nat×HObj)) (hd:a1u (sh.map (·.1))=true) (hsh:∀ p∈sh,hget s.hp p.1=some p.2)
  (kp:List (Nat×HObj)) (hpk:(X.pre.all fun p=>(hget kp p.1).isSome)=true) (hks:(kp.all fun p=>!(sh.map (·.1)).any (Nat.beq p.1))=true) (hz:Kz kp sh (t3 x1 x2 x3) y) (hP:Post (.ret y) kp s.clk) (hkp:b6q kp sh s.hp kp):HQ X.ctx (bodyPost P fn (a1A X Post)) .ret s:=by
 intro a w' ⟨E,e0,r,hG,hsz,hdf,ht⟩
 obtain ⟨v1,h1,g1⟩:=hrv1 X.ctx a w' E r ht
 obtain ⟨v2,h2,g2⟩:=hrv2 X.ctx a w' E r ht
 obtain ⟨v3,h3,g3⟩:=hrv3 X.ctx a w' E r ht
 have hrep:Rep w' E (.tuple #[v1,v2,v3]) (.tup 3 (fun i=>match i with | 0=>x1 | 1=>x2 | _=>x3)) :=
  .tup _ 3 _ (fun i=>match i with | 0=>v1 | 1=>v2 | _=>v3) rfl (fun i hi=>by match i,hi with | 0,_=>rfl | 1,_=>rfl | 2,_=>rfl) (fun i hi=>by match i,hi with | 0,_=>exact g1 | 1,_=>exact g2 | 2,_=>exact g3)
 refine ⟨hdf,_,?_,a1A.of ok e0 r hG sh hd hsh kp hpk hks hkp hz hrep hP⟩
 have:(results fn a.tmps).run P w'=.ok (.tuple #[v1,v2,v3]) w':=by
  unfold results
  rw [hres]
  cases rv1 <;> cases rv2 <;> cases rv3 <;> (simp [Sem.run_bind] at h1 h2 h3 ⊢)
  all_goals first | done | (try (first | rw [a0S h1] | skip);try (first | rw [a0S h2] | skip);try (first | rw [a0S h3] | skip);try simp [h1,h2,h3])
 exact this
theorem a1t {C:Ctx} {fn:Func} {R0:Ending→World→Prop} {s:HSt} (h:HQ C (bodyPost P fn R0) .ret s):HQ C (bodyPost P fn R0) .normal s:=h
def b3b (C:Ctx) (Q:Exit→Act→World→Prop) (s:HSt) (x:HV):Prop:=∀ a w,∀ E v,Ext C.w0 C.E0 w E→R C.K C.w0 C.E0.F E (hget s.hp) w→(∀ g,E.G g→g < s.clk)→a.tmps.size=s.n→DefOk C.mks w E C.ds a.defers→(∀ t x,tget s.tm t=some x→TVRep w E a (a.tmps.getD t undef) x)→Rep w E v x→Q (.panic [{ v:=v,recovered:=false }]) a w
theorem c2E {C:Ctx} {ops:Array Oper} {Q:Exit→Act→World→Prop} {n clk:Nat} {tm:List (Nat×TV)} {hp:List (Nat×HObj)} {rest:List Oper} {ty:TypeId} {pos:String} {af:Array Edge} {f:FuncId} {args:List Operand} {at_:Array TypeId} {xs:List HV} {pre:List (Nat×HObj)} (d:Nat)
    (hc:a2y P f clk xs pre Post) (hx:a1L (a0F (tget tm)) args xs) (hpre:∀ p∈pre,hget hp p.1=some p.2) (hlt:Nat.blt d n=true) (hk:a0O tm d=true)
    (h:∀ r kp c',Post (.ret r) kp c'→HSeq C P ops rest ⟨n,(d,.v r)::tm,kp++hp,c'⟩ Q) (hpan:∀ x kp c',Post (.pan x) kp c'→b3b C Q ⟨n,tm,kp++hp,c'⟩ x) :
    HSeq C P ops (⟨some d,.call ⟨.value (.func f),args.toArray,at_⟩,ty,pos,af,none⟩::rest) ⟨n,tm,hp,clk⟩ Q:=by
  intro a w ⟨E,e0,r,hG,hsz,hdf,ht⟩
  have hlt:d < n:=by simpa [Nat.blt_eq] using hlt
  unfold a8R
  rw [if_pos (by simp [Region.wanted])]
  left
  have hrep:=hx.rep (w:=w) (E:=E) (ρ:=a.eval) (fun x hv hx' h=>by
    cases x with
    | tmp t =>
      simp only [ovl,a0F] at h
      cases hq:tget tm t with
      | none=>rw [hq] at h;cases h
      | some u => rw [hq] at h; cases u with
        | v y=>injection h with h;subst h;exact ht t _ hq
        | un j b y=>cases h
    | const v=>exact a5m w E _ v _ h
    | global k=>injection h with h;subst h;exact .imm _
    | func f=>injection h with h;subst h;exact .fn (.func f) #[] 0 _ (fun _=>undef) rfl (fun i hi=>absurd hi (Nat.not_lt_zero _)) (fun i hi=>absurd hi (Nat.not_lt_zero _)))
  unfold Oper.wp execOp
  have hargs:args.toArray.map a.eval=(args.map a.eval).toArray:=by simp
  simp only [resolve,Act.eval,Deferred.ofValue,invoke,Sem.run_bind,Sem.run_pure,Result.andThen_ok,Array.empty_append,Array.append_empty]
  rw [a0C hc.1]
  simp only [Oper.upon]
  have hcalls:=hc.2 ⟨C.K,C.w0,C.E0.F,E,hget hp,w,pre⟩ (args.map a.eval) ⟨r,fun id o ho=>hpre (id,o) (a1z ho)⟩ rfl hrep hG
  rw [←hargs] at hcalls
  refine Calls.mono hcalls ?_
  rintro e w' ⟨x,kp,c',E',hP,e',r',hG',_,hv⟩
  cases e with
  | returned v =>
    cases x with
    | pan x=>exact hv.elim
    | ret x =>
      refine h x kp c' hP _ w' ⟨E',e0.trans e',by simp only [a0I];exact r',hG',by simp [Act.put,hsz],hdf.ext e',fun t y hy=>?_⟩
      simp only [a0x] at hy
      split at hy
      · rename_i htd
        subst htd
        injection hy with hy
        subst hy
        rw [a0R (by rw [hsz];exact hlt)]
        exact hv
      · rename_i htd
        rw [a0w htd]
        have:=(ht t y hy).ext e'
        cases y with
        | v z=>exact this
        | un j b z =>
          have hne:=a2b hk t j b z hy
          simp only [TVRep,a0w hne] at this ⊢;exact this
  | panicked ch =>
    cases x with
    | ret x=>exact hv.elim
    | pan x =>
      obtain ⟨v,rfl,hv⟩:=hv
      exact hpan x kp c' hP a w' E' v (e0.trans e') (by simp only [a0I];exact r') hG' hsz (hdf.ext e') (fun t y hy=>(ht t y hy).ext e') hv
  | outgrown=>cases x <;> exact hv.elim
theorem c6g {X:Clr} (ok:X.Ok) {fn:Func} {s:HSt} {x y:HV} (kp:List (Nat×HObj)) (hpk:(X.pre.all fun p=>(hget kp p.1).isSome)=true) (hkp:b6q kp [] s.hp kp) (hz:Kz kp [] x y) (hP:Post (.pan y) kp s.clk):b3b X.ctx (bodyPost P fn (a1A X Post)) s x:=by
 intro a w' E v e0 r hG hsz hdf ht hv
 refine ⟨hdf,?_⟩
 obtain ⟨E3,e3,r3,hG3,hGk,kz⟩:=ok.back e0 r hG (kp:=kp) (sh:=[]) (fun id o h=>by cases h) (fun id o ho=>by
   have:=List.all_eq_true.1 hpk _ (a1z ho)
   exact Option.isSome_iff_exists.1 this) (fun id o' ho'=>hkp.get id o' ho')
 exact ⟨.pan y,kp,s.clk,E3,hP,e3,r3,hG3,hGk,v,rfl,kz v x y hz hv⟩
theorem a1b {C:Ctx} {n clk:Nat} {tm:List (Nat×TV)} {hp:List (Nat×HObj)} (t:Nat) (sh:List (Nat×HObj)) (hd:a1u (sh.map (·.1))=true) (hsh:∀ p∈sh,hget hp p.1=some p.2) {x y:HV} (ht:tget tm t=some (.v x)) (hz:Fz sh x y) :
  a4D C ⟨n,tm,hp,clk⟩ ⟨n,(t,.v y)::tm,sh.map (fun p=>(p.1,p.2.full))++hp,clk⟩:=by
 intro a w ⟨E,e0,r,hG,hsz,hdf,htm⟩
 obtain ⟨E1,e1,hL,hG1,hs1,r1⟩:=r.shareAll sh hd hsh
 refine ⟨E1,e0.trans e1,by simp only [a0I];exact r1,fun g hg=>hG g (by rw [←hG1];exact hg),hsz,hdf.ext e1,fun t' z hz'=>?_⟩
 simp only [a0x] at hz'
 split at hz'
 ·rename_i e;subst e;injection hz' with hz';subst hz'
  exact (hz.sound hs1 ((htm t' _ ht).ext e1)).ext (Ext.just fun _ h=>h)
 ·exact (htm t' z hz').ext e1
theorem a4D.seq {C:Ctx} {ops:Array Oper} {Q:Exit→Act→World→Prop} {s s':HSt} {l:List Oper} (hs:a4D C s s') (h:HSeq C P ops l s' Q):HSeq C P ops l s Q:=fun a w ha=>h a w (hs a w ha)
@[reducible] def a4Q {α:Type} (I:α→Nat→Prop) (r:α→HV) (kp:α→List (Nat×HObj)):HEnd→List (Nat×HObj)→Nat→Prop:=fun e o c'=>∃ x,I x c'∧e=.ret (r x)∧o=kp x
@[reducible] def RoP {α β:Type} (I:α→Nat→Prop) (r:α→HV) (kp:α→List (Nat×HObj)) (J:β→Nat→Prop) (q:β→HV) (kq:β→List (Nat×HObj)):HEnd→List (Nat×HObj)→Nat→Prop:=fun e o c'=>(∃ x,I x c'∧e=.ret (r x)∧o=kp x)∨(∃ y,J y c'∧e=.pan (q y)∧o=kq y)
section
variable {α β:Type} {I:α→Nat→Prop} {r:α→HV} {kpf:α→List (Nat×HObj)} {J:β→Nat→Prop} {q:β→HV} {kqf:β→List (Nat×HObj)}
theorem a0n {C:Ctx} {ops:Array Oper} {Q:Exit→Act→World→Prop} {n clk:Nat} {tm:List (Nat×TV)} {hp:List (Nat×HObj)} {rest:List Oper} {ty:TypeId} {pos:String} {af:Array Edge} {f:FuncId} {args:List Operand} {at_:Array TypeId} {xs:List HV} {pre:List (Nat×HObj)} (d:Nat)
  (hc:a2y P f clk xs pre (a4Q I r kpf)) (hx:a1L (a0F (tget tm)) args xs) (hpre:∀ p∈pre,hget hp p.1=some p.2) (hlt:Nat.blt d n=true) (hk:a0O tm d=true)
  (h:∀ x c',I x c'→HSeq C P ops rest ⟨n,(d,.v (r x))::tm,kpf x++hp,c'⟩ Q) :
  HSeq C P ops (⟨some d,.call ⟨.value (.func f),args.toArray,at_⟩,ty,pos,af,none⟩::rest) ⟨n,tm,hp,clk⟩ Q :=
 c2E d hc hx hpre hlt hk (fun _ _ c' ⟨x,hI,he,hk⟩=>by injection he with he;subst he;subst hk;exact h x c' hI) (fun _ _ _ ⟨_,_,he,_⟩=>by cases he)
theorem b3D {C:Ctx} {ops:Array Oper} {Q:Exit→Act→World→Prop} {n clk:Nat} {tm:List (Nat×TV)} {hp:List (Nat×HObj)} {rest:List Oper} {ty:TypeId} {pos:String} {af:Array Edge} {f:FuncId} {args:List Operand} {at_:Array TypeId} {xs:List HV} {pre:List (Nat×HObj)} (d:Nat)
  (hc:a2y P f clk xs pre (RoP I r kpf J q kqf)) (hx:a1L (a0F (tget tm)) args xs) (hpre:∀ p∈pre,hget hp p.1=some p.2) (hlt:Nat.blt d n=true) (hk:a0O tm d=true)
  (hpan:∀ y c',J y c'→b3b C Q ⟨n,tm,kqf y++hp,c'⟩ (q y))
  (h:∀ x c',I x c'→HSeq C P ops rest ⟨n,(d,.v (r x))::tm,kpf x++hp,c'⟩ Q) :
  HSeq C P ops (⟨some d,.call ⟨.value (.func f),args.toArray,at_⟩,ty,pos,af,none⟩::rest) ⟨n,tm,hp,clk⟩ Q :=
 c2E d hc hx hpre hlt hk (fun _ _ c' hP=>by
  rcases hP with ⟨x,hI,he,hk⟩ | ⟨_,_,he,_⟩
  ·injection he with he;subst he;subst hk;exact h x c' hI
  ·cases he) (fun _ _ c' hP=>by
  rcases hP with ⟨_,_,he,_⟩ | ⟨y,hJ,he,hk⟩
  ·cases he
  ·injection he with he;subst he;subst hk;exact hpan y c' hJ)
def a2j (P:Program) (I:α→Nat→Prop) (r:α→HV) (kpf:α→List (Nat×HObj)) (Post:HEnd→List (Nat×HObj)→Nat→Prop):Prop:=∀ x c',I x c'→Post (.ret (r x)) (kpf x) c'
theorem a2j.one:a2j P I r kpf (a4Q I r kpf):=fun x _ h=>⟨x,h,rfl,rfl⟩
theorem a2j.two:a2j P I r kpf (RoP I r kpf J q kqf):=fun x _ h=>.inl ⟨x,h,rfl,rfl⟩
theorem a0X {X:Clr} (ok:X.Ok) {pre:List (Nat×HObj)} (hX:X.pre=pre) (hS:a2j P I r kpf Post) {fn:Func} {s:HSt} (hres:fn.results=#[]) (sh:List (Nat×HObj)) (hd:a1u (sh.map (·.1))=true) (hsh:∀ p∈sh,hget s.hp p.1=some p.2)
  (x:α) (hI:I x s.clk) (hpk:(pre.all fun p=>(hget (kpf x) p.1).isSome)=true) (hks:((kpf x).all fun p=>!(sh.map (·.1)).any (Nat.beq p.1))=true) (hz:Kz (kpf x) sh (.tup 0 fun _=>default) (r x)) (hkp:b6q (kpf x) sh s.hp (kpf x)):HQ X.ctx (bodyPost P fn (a1A X Post)) .ret s :=
 c7m ok hres sh hd hsh (kpf x) (by rw [hX];exact hpk) hks hz (hS x _ hI) hkp
theorem a1j {X:Clr} (ok:X.Ok) {pre:List (Nat×HObj)} (hX:X.pre=pre) (hS:a2j P I r kpf Post) {fn:Func} {s:HSt} {rv:ResultVar} {v:HV} (hres:fn.results=#[rv]) (hrv:a6M P s rv v) (sh:List (Nat×HObj)) (hd:a1u (sh.map (·.1))=true) (hsh:∀ p∈sh,hget s.hp p.1=some p.2)
  (x:α) (hI:I x s.clk) (hpk:(pre.all fun p=>(hget (kpf x) p.1).isSome)=true) (hks:((kpf x).all fun p=>!(sh.map (·.1)).any (Nat.beq p.1))=true) (hz:Kz (kpf x) sh v (r x)) (hkp:b6q (kpf x) sh s.hp (kpf x)):HQ X.ctx (bodyPost P fn (a1A X Post)) .ret s :=
 c8n ok hres hrv sh hd hsh (kpf x) (by rw [hX];exact hpk) hks hz (hS x _ hI) hkp
theorem a1q {X:Clr} (ok:X.Ok) {pre:List (Nat×HObj)} (hX:X.pre=pre) (hS:a2j P I r kpf Post) {fn:Func} {s:HSt} {rv1 rv2 rv3:ResultVar} {v1 v2 v3:HV} (hres:fn.results=#[rv1,rv2,rv3]) (hrv1:a6M P s rv1 v1) (hrv2:a6M P s rv2 v2) (hrv3:a6M P s rv3 v3) (sh:List (Nat×HObj)) (hd:a1u (sh.map (·.1))=true) (hsh:∀ p∈sh,hget s.hp p.1=some p.2)
  (x:α) (hI:I x s.clk) (hpk:(pre.all fun p=>(hget (kpf x) p.1).isSome)=true) (hks:((kpf x).all fun p=>!(sh.map (·.1)).any (Nat.beq p.1))=true) (hz:Kz (kpf x) sh (t3 v1 v2 v3) (r x)) (hkp:b6q (kpf x) sh s.hp (kpf x)):HQ X.ctx (bodyPost P fn (a1A X Post)) .ret s :=
 c8d ok hres hrv1 hrv2 hrv3 sh hd hsh (kpf x) (by rw [hX];exact hpk) hks hz (hS x _ hI) hkp
theorem a2Q {X:Clr} (ok:X.Ok) {pre:List (Nat×HObj)} (hX:X.pre=pre) {fn:Func} {s:HSt} {v:HV} (y:β) (hJ:J y s.clk) (hpk:(pre.all fun p=>(hget (kqf y) p.1).isSome)=true) (hz:Kz (kqf y) [] v (q y)) (hkp:b6q (kqf y) [] s.hp (kqf y)) :
  b3b X.ctx (bodyPost P fn (a1A X (RoP I r kpf J q kqf))) s v :=
 c6g ok (kqf y) (by rw [hX];exact hpk) hkp hz (.inr ⟨y,hJ,rfl,rfl⟩)
theorem a9H {kp sh:List (Nat×HObj)} {x1 x2 x3 y1 y2 y3:HV} (h1:Kz kp sh x1 y1) (h2:Kz kp sh x2 y2) (h3:Kz kp sh x3 y3):Kz kp sh (t3 x1 x2 x3) (t3 y1 y2 y3):=.tup _ _ _ fun i hi=>by
 match i,hi with
 | 0,_=>exact h1
 | 1,_=>exact h2
 | 2,_=>exact h3
section
variable {kp sh:List (Nat×HObj)} {g ty fl:Nat} {f f':Nat→Nat→HV}
theorem c9Q (h0:Kz kp sh (f 0 0) (f' 0 0)) (hfn:fl≤1:=by first | exact Nat.zero_le _ | exact Nat.le_refl _ | omega):OKz kp sh ⟨g,1,1,ty,fl,f⟩ ⟨g,1,1,ty,fl,f'⟩:=.of (hfn:=hfn) fun i j hi hj=>by
 obtain rfl:i=0:=by omega
 match j,hj with | 0,_=>exact h0
theorem c1f (h0:Kz kp sh (f 0 0) (f' 0 0)) (h1:Kz kp sh (f 0 1) (f' 0 1)) (hfn:fl≤1:=by first | exact Nat.zero_le _ | exact Nat.le_refl _ | omega):OKz kp sh ⟨g,1,2,ty,fl,f⟩ ⟨g,1,2,ty,fl,f'⟩:=.of (hfn:=hfn) fun i j hi hj=>by
 obtain rfl:i=0:=by omega
 match j,hj with | 0,_=>exact h0 | 1,_=>exact h1
theorem d3R (h0:Kz kp sh (f 0 0) (f' 0 0)) (h1:Kz kp sh (f 0 1) (f' 0 1)) (h2:Kz kp sh (f 0 2) (f' 0 2)) (hfn:fl≤1:=by first | exact Nat.zero_le _ | exact Nat.le_refl _ | omega):OKz kp sh ⟨g,1,3,ty,fl,f⟩ ⟨g,1,3,ty,fl,f'⟩:=.of (hfn:=hfn) fun i j hi hj=>by
 obtain rfl:i=0:=by omega
 match j,hj with | 0,_=>exact h0 | 1,_=>exact h1 | 2,_=>exact h2
theorem d2n (h0:Kz kp sh (f 0 0) (f' 0 0)) (h1:Kz kp sh (f 0 1) (f' 0 1)) (h2:Kz kp sh (f 0 2) (f' 0 2)) (h3:Kz kp sh (f 0 3) (f' 0 3)) (hfn:fl≤1:=by first | exact Nat.zero_le _ | exact Nat.le_refl _ | omega):OKz kp sh ⟨g,1,4,ty,fl,f⟩ ⟨g,1,4,ty,fl,f'⟩:=.of (hfn:=hfn) fun i j hi hj=>by
 obtain rfl:i=0:=by omega
 match j,hj with | 0,_=>exact h0 | 1,_=>exact h1 | 2,_=>exact h2 | 3,_=>exact h3
end
end
end
def a3K (P:Program) (f:FuncId) (args:List HV) (pre:List (Nat×HObj)) (r:HV) (post:List (Nat×HObj)):Prop:=∀ c,a2y P f c args pre (a4Q (fun (_:Unit) _=>True) (fun _=>r) (fun _=>post))
def a7x (pre post:List (Nat×HObj)):Prop:=∀ id o,hget post id=some o→∃ q∈pre,q.2.g=o.g
theorem a2f {pre:List (Nat×HObj)}:a7x pre []:=fun id o h=>by cases h
theorem a0J {pre post:List (Nat×HObj)} {id:Nat} {o o':HObj} {id':Nat} (hm:(id',o')∈pre) (hg:o'.g=o.g) (h:a7x pre post):a7x pre ((id,o)::post):=fun k x hx=>by
 rw [a0o] at hx
 unfold a2I at hx
 split at hx
 ·injection hx with hx;subst hx;exact ⟨_,hm,hg⟩
 ·exact h k x hx
theorem a3K.sem {P:Program} {f:FuncId} {args:List HV} {pre post:List (Nat×HObj)} {r:HV} (hc:a3K P f args pre r post) (hk:a7x pre post) {K:Nat→Prop} {w0 w:World} {F0:Addr→Prop} {E:Env} {h:Nat→Option HObj} (rr:R K w0 F0 E h w) (hpre:∀ p∈pre,h p.1=some p.2) (vs:List Value) (hr:RepAll w E vs args) (hb:∃ c,∀ g,E.G g→g < c) :
    Calls P f vs.toArray w fun e w'=>∃ v E',e=.returned v∧Ext w E w' E'∧R K w0 F0 E' (hupd h post) w'∧(∀ g,E'.G g→E.G g)∧Rep w' E' v r:=by
  obtain ⟨c,hG⟩:=hb
  refine ((hc c).2 ⟨K,w0,F0,E,h,w,pre⟩ vs ⟨rr,fun id o ho=>hpre (id,o) (a1z ho)⟩ rfl hr hG).mono ?_
  rintro e w' ⟨x,kp,c',E',⟨_,_,rfl,rfl⟩,e',r',_,hGk,hv⟩
  cases e with
  | returned v =>
    refine ⟨v,E',rfl,e',r',fun g hg=>?_,hv⟩
    rcases hGk g hg with h1 | ⟨id,o,ho,rfl⟩
    · exact h1
    · obtain ⟨q,hq,hqg⟩:=hk id o ho
      rw [←hqg]
      obtain ⟨l,hl,a⟩:=rr.obj q.1 q.2 (hpre q hq)
      exact a.G
  | panicked ch=>exact hv.elim
  | outgrown=>exact hv.elim
@[reducible] def strV (l:List UInt8):HV:=.imm (.string ⟨l.toArray⟩)
@[reducible] def u8V (c:UInt8):HV:=.imm (.int .u8 (c.toNat:Int))
theorem b1I (l:List UInt8):(⟨l.toArray⟩:ByteArray).toList=l:=by rw [ByteArray.toList_eq]
theorem a6T (l:List UInt8):(⟨l.toArray⟩:ByteArray).size=l.length:=by simp [ByteArray.size]
theorem d1H (l m:List UInt8):(⟨l.toArray⟩++⟨m.toArray⟩:ByteArray)=⟨(l++m).toArray⟩:=by
 have h:(⟨l.toArray⟩++⟨m.toArray⟩:ByteArray).data=(l++m).toArray:=by
  apply Array.ext'
  rw [ByteArray.data_append,Array.toList_append]
 have h2:(⟨l.toArray⟩++⟨m.toArray⟩:ByteArray)=⟨(⟨l.toArray⟩++⟨m.toArray⟩:ByteArray).data⟩:=rfl
 rw [h2,h]
theorem d0F (l:List UInt8) (a b:Nat):(⟨l.toArray⟩:ByteArray).extract a b=⟨((l.drop a).take (b - a)).toArray⟩:=by
 have h:((⟨l.toArray⟩:ByteArray).extract a b).data=((l.drop a).take (b - a)).toArray:=by
  apply Array.ext'
  rw [ByteArray.data_extract]
  simp [Array.toList_extract,List.extract,List.drop_take]
 have h2:(⟨l.toArray⟩:ByteArray).extract a b=⟨((⟨l.toArray⟩:ByteArray).extract a b).data⟩:=rfl
 rw [h2,h]
section
variable {K:Nat→Prop} {w0 w:World} {F0:Addr→Prop} {E:Env} {h:Nat→Option HObj}
end
section
variable {P:Program} {ov:Nat→Option HV} {g:Nat} {d:Option Tmp} {ty T yT:TypeId} {pos:String} {af:Array Edge} {gd:Option (Nat×Bool)} {x y:Operand} {l m:List UInt8}
theorem b4f {at_:Array TypeId} (hT:at_[0]?=some T) (hE:P.underlying T=some .string) (h1:ovl ov x=some (strV l)) :
  HOp P ⟨d,.call ⟨.builtin .len,#[x],at_⟩,ty,pos,af,gd⟩ ov g [] (.imm (.int .i64 (l.length:Int))) []:=by
 have:=b4U (P:=P) (ov:=ov) (g:=g) (d:=d) (ty:=ty) (pos:=pos) (af:=af) (gd:=gd) hT hE h1
 rwa [a6T] at this
theorem b5e {k:IntKind} {i:Int} (hT:P.underlying T=some .string) (h1:ovl ov x=some (strV l)) (h2:ovl ov y=some (.imm (.int k i))) (hi0:0≤i) (hi:i < (l.length:Int)) :
  HOp P ⟨d,.index T x y,ty,pos,af,gd⟩ ov g [] (u8V (l.getD i.toNat 0)) [] :=
 b9e hT h1 h2 hi0 (by rw [a6T];exact hi)
theorem b3v {lo hi:Option Operand} {a b:Int} (hT:P.underlying T=some .string) (h1:ovl ov x=some (strV l))
  (hl:lo=none∧a=0∨∃ k z,lo=some z∧ovl ov z=some (.imm (.int k a))) (hh:hi=none∧b=l.length∨∃ k z,hi=some z∧ovl ov z=some (.imm (.int k b))) (h0:0≤a) (hlh:a≤b) (hn:b≤l.length) :
  HOp P ⟨d,.slice T x lo hi none,ty,pos,af,gd⟩ ov g [] (strV ((l.drop a.toNat).take (b.toNat - a.toNat))) []:=by
 have:=b5C (P:=P) (ov:=ov) (g:=g) (d:=d) (ty:=ty) (pos:=pos) (af:=af) (gd:=gd) hT h1 hl (by rw [a6T];exact hh) h0 hlh (by rw [a6T];exact hn)
 rwa [d0F] at this
theorem c2W (h1:ovl ov x=some (strV l)) (h2:ovl ov y=some (strV m)):HOp P ⟨d,.binOp .eql T x y yT,ty,pos,af,gd⟩ ov g [] (.imm (.bool (decide (l=m)))) []:=by
 have:=c4w (P:=P) (T:=T) (yT:=yT) (g:=g) (d:=d) (ty:=ty) (pos:=pos) (af:=af) (gd:=gd) h1 h2
 rw [b1I,b1I] at this
 have e:(l == m)=decide (l=m):=by rw [Bool.eq_iff_iff];simp
 rwa [e] at this
theorem c1C (h1:ovl ov x=some (strV l)) (h2:ovl ov y=some (strV m)):HOp P ⟨d,.binOp .neq T x y yT,ty,pos,af,gd⟩ ov g [] (.imm (.bool (!(decide (l=m))))) []:=by
 have:=c7R (P:=P) (T:=T) (yT:=yT) (g:=g) (d:=d) (ty:=ty) (pos:=pos) (af:=af) (gd:=gd) h1 h2
 rw [b1I,b1I] at this
 have e:(l == m)=decide (l=m):=by rw [Bool.eq_iff_iff];simp
 rwa [e] at this
theorem c4u (h1:ovl ov x=some (strV l)) (h2:ovl ov y=some (strV m)) (hl:l.length+m.length≤9223372036854775807):HOp P ⟨d,.binOp .add T x y yT,ty,pos,af,gd⟩ ov g [] (strV (l++m)) []:=by
 rw [show strV (l++m)=.imm (.string (⟨l.toArray⟩++⟨m.toArray⟩)) from by rw [d1H]]
 refine a1J .add _ _ _ h1 h2 (fun w=>?_)
 have h:¬ ((((⟨l.toArray⟩:ByteArray).size+(⟨m.toArray⟩:ByteArray).size:Nat)):Int) > IntKind.i64.max:=by
  rw [a6T,a6T]
  show ¬ _ > (9223372036854775807:Int)
  omega
 simp only [eqGuard,binOp,Op.stringOp,Sem.run_bind,Sem.run_pure,Result.andThen_ok]
 rw [if_neg h]
 rfl
end
def bor (k:IntKind) (a b:Int):Int:=k.wrap ((BitVec.ofInt k.bits a ||| BitVec.ofInt k.bits b).toNat:Int)
def d3y (k:IntKind) (a b:Int):Int:=k.wrap ((BitVec.ofInt k.bits a &&& BitVec.ofInt k.bits b).toNat:Int)
section
variable {P:Program} {ov:Nat→Option HV} {g:Nat} {d:Option Tmp} {ty T yT:TypeId} {pos:String} {af:Array Edge} {gd:Option (Nat×Bool)} {x y:Operand} {k k':IntKind} {a b:Int}
theorem c7C (h1:ovl ov x=some (.imm (.int k a))) (h2:ovl ov y=some (.imm (.int k b))):HOp P ⟨d,.binOp .or T x y yT,ty,pos,af,gd⟩ ov g [] (.imm (.int k (bor k a b))) []:=a1J .or _ _ _ h1 h2 (fun w=>by simp [eqGuard,binOp,Op.intBits,bor])
theorem c5j (h1:ovl ov x=some (.imm (.int k a))) (h2:ovl ov y=some (.imm (.int k b))):HOp P ⟨d,.binOp .and T x y yT,ty,pos,af,gd⟩ ov g [] (.imm (.int k (d3y k a b))) []:=a1J .and _ _ _ h1 h2 (fun w=>by simp [eqGuard,binOp,Op.intBits,d3y])
theorem c9m (h1:ovl ov x=some (.imm (.int k a))) (h2:ovl ov y=some (.imm (.int k' b))) (hb:0≤b):HOp P ⟨d,.binOp .shl T x y yT,ty,pos,af,gd⟩ ov g [] (.imm (.int k (k.wrap (a * 2 ^ (min b.toNat k.bits))))) [] :=
 a1J .shl _ _ _ h1 h2 (fun w=>by simp [eqGuard,binOp,Op.shift,show ¬ b < 0 from by omega])
theorem c8K (h1:ovl ov x=some (.imm (.int k a))) (h2:ovl ov y=some (.imm (.int k' b))) (hb:0≤b):HOp P ⟨d,.binOp .shr T x y yT,ty,pos,af,gd⟩ ov g [] (.imm (.int k (a.fdiv (2 ^ (min b.toNat k.bits))))) [] :=
 a1J .shr _ _ _ h1 h2 (fun w=>by simp [eqGuard,binOp,Op.shift,show ¬ b < 0 from by omega])
end
theorem HOp.val {P:Program} {o:Oper} {ov:Nat→Option HV} {g:Nat} {pre post:List (Nat×HObj)} {v v':HV} (h:HOp P o ov g pre v post) (e:v=v'):HOp P o ov g pre v' post:=e▸h
def WOk (k:IntKind) (lo hi:Int):Prop:=∀ c,lo≤c→c≤hi→k.wrap c=c
theorem c3e:WOk .u8 0 255:=fun c h1 h2=>by rw [IntKind.wrap_u8];omega
theorem c9A:WOk .u16 0 65535:=fun c h1 h2=>by rw [IntKind.wrap_u16];omega
theorem b6f:WOk .u32 0 4294967295:=fun c h1 h2=>by rw [IntKind.wrap_u32];omega
theorem b4S:WOk .u64 0 18446744073709551615:=fun c h1 h2=>by rw [IntKind.wrap_u64];omega
theorem c7z:WOk .i32 (-2147483648) 2147483647:=fun c h1 h2=>by rw [IntKind.wrap_i32];omega
theorem b5s:WOk .i64 (-9223372036854775808) 9223372036854775807:=fun c h1 h2=>by rw [IntKind.wrap_i64];omega
section
variable {P:Program} {ov:Nat→Option HV} {g:Nat} {d:Option Tmp} {ty T yT:TypeId} {pos:String} {af:Array Edge} {gd:Option (Nat×Bool)} {x y:Operand} {k k':IntKind} {a b lo hi c:Int}
theorem b2d (w:WOk k lo hi) (h1:ovl ov x=some (.imm (.int k a))) (h2:ovl ov y=some (.imm (.int k b))) (hc:c=a+b) (hl:lo≤c) (hh:c≤hi):HOp P ⟨d,.binOp .add T x y yT,ty,pos,af,gd⟩ ov g [] (.imm (.int k c)) []:=by
 have:=c0M (P:=P) (T:=T) (yT:=yT) (g:=g) (d:=d) (ty:=ty) (pos:=pos) (af:=af) (gd:=gd) h1 h2
 rwa [←hc,w c hl hh] at this
theorem b1M (w:WOk k lo hi) (h1:ovl ov x=some (.imm (.int k a))) (h2:ovl ov y=some (.imm (.int k b))) (hc:c=a - b) (hl:lo≤c) (hh:c≤hi):HOp P ⟨d,.binOp .sub T x y yT,ty,pos,af,gd⟩ ov g [] (.imm (.int k c)) []:=by
 have:=a5J (P:=P) (T:=T) (yT:=yT) (g:=g) (d:=d) (ty:=ty) (pos:=pos) (af:=af) (gd:=gd) h1 h2
 rwa [←hc,w c hl hh] at this
theorem b7i (w:WOk k lo hi) (h1:ovl ov x=some (.imm (.int k a))) (h2:ovl ov y=some (.imm (.int k b))) (hc:c=a / b) (ha:0≤a) (hb:0 < b) (hl:lo≤c) (hh:c≤hi):HOp P ⟨d,.binOp .quo T x y yT,ty,pos,af,gd⟩ ov g [] (.imm (.int k c)) []:=by
 have:=b5U (P:=P) (T:=T) (yT:=yT) (g:=g) (d:=d) (ty:=ty) (pos:=pos) (af:=af) (gd:=gd) h1 h2 omo
 rwa [Int.tdiv_eq_ediv_of_nonneg ha,←hc,w c hl hh] at this
theorem c0G (w:WOk k' lo hi) (hT:P.underlying yT=some (.int k')) (hS:(P.underlying T).isSome=true) (h1:ovl ov x=some (.imm (.int k a))) (hl:lo≤a) (hh:a≤hi):HOp P ⟨d,.convert T yT x,ty,pos,af,gd⟩ ov g [] (.imm (.int k' a)) []:=by
 have:=b7j (P:=P) (g:=g) (d:=d) (ty:=ty) (pos:=pos) (af:=af) (gd:=gd) hT hS h1
 rwa [w a hl hh] at this
end
theorem a2y.mono {P:Program} {f:FuncId} {c:Nat} {args:List HV} {pre:List (Nat×HObj)} {Post Post':HEnd→List (Nat×HObj)→Nat→Prop} (h:a2y P f c args pre Post) (hi:∀ e kp c',Post e kp c'→Post' e kp c'):a2y P f c args pre Post' :=
 ⟨h.1,fun X vs ok hX hr hG=>(h.2 X vs ok hX hr hG).mono (by rintro e w' ⟨x,kp,c',E',hP,rest⟩;exact ⟨x,kp,c',E',hi _ _ _ hP,rest⟩)⟩
theorem a9w {h:Nat→Option HObj}:∀ {p:List (Nat×HObj)},(∀ q∈p,h q.1=some q.2)→hupd h p=h
  | [],_=>rfl
  | q :: p, hq => by
    show a2I (hupd h p) q.1 q.2=h
    rw [a9w (fun x hx=>hq x (List.mem_cons_of_mem _ hx))]
    funext k
    unfold a2I
    split
    · rename_i e;subst e;exact (hq q (List.mem_cons_self ..)).symm
    · rfl
theorem b0l (pre:List (Nat×HObj)):a7x pre pre:=fun id o h=>⟨_,a1z h,rfl⟩
section
variable {P:Program} {ops:Array Oper} {ov:Nat→Option HV} {g:Nat} {d:Option Tmp} {ty:TypeId} {pos:String} {af:Array Edge} {gd:Option (Nat×Bool)}
theorem a1Z {f:FuncId} {args:List Operand} {at_:Array TypeId} {xs:List HV} {pre post:List (Nat×HObj)} {r:HV} (hc:a3K P f xs pre r post) (hk:a7x pre post) (hx:a1L ov args xs) :
  HOp P ⟨d,.call ⟨.value (.func f),args.toArray,at_⟩,ty,pos,af,gd⟩ ov g pre r post:=by
 refine ⟨?_⟩;intro K w0 F0 E hh a w Q N rr ht hG hBd hpre hN
 have hrep:=hx.rep (w:=w) (E:=E) (ρ:=a.eval) (fun x hv hx h=>ht x hv (by simp [Op.operands,Call.operands];exact .inr hx) h)
 unfold Oper.wp execOp
 have hargs:args.toArray.map a.eval=(args.map a.eval).toArray:=by simp
 simp only [resolve,Act.eval,Deferred.ofValue,invoke,Sem.run_bind,Sem.run_pure,Result.andThen_ok,Array.empty_append,Array.append_empty]
 rw [a0C (hc 0).1]
 simp only [Oper.upon]
 have h:=hc.sem hk rr hpre (args.map a.eval) hrep hBd
 rw [←hargs] at h
 refine Calls.mono h ?_
 rintro e w' ⟨v,E',rfl,e',r',hg',hv⟩
 exact hN v w' E' e' r' (fun g' h=>.inl (hg' g' h)) hv
theorem a0B {f:FuncId} {args:List Operand} {at_:Array TypeId} {xs:List HV} {pre:List (Nat×HObj)} {r:HV} (hc:a3K P f xs pre r pre) (hx:a1L ov args xs) :
  HOp P ⟨d,.call ⟨.value (.func f),args.toArray,at_⟩,ty,pos,af,gd⟩ ov g pre r []:=by
 refine ⟨?_⟩;intro K w0 F0 E hh a w Q N rr ht hG hBd hpre hN
 have hrep:=hx.rep (w:=w) (E:=E) (ρ:=a.eval) (fun x hv hx h=>ht x hv (by simp [Op.operands,Call.operands];exact .inr hx) h)
 unfold Oper.wp execOp
 have hargs:args.toArray.map a.eval=(args.map a.eval).toArray:=by simp
 simp only [resolve,Act.eval,Deferred.ofValue,invoke,Sem.run_bind,Sem.run_pure,Result.andThen_ok,Array.empty_append,Array.append_empty]
 rw [a0C (hc 0).1]
 simp only [Oper.upon]
 have h:=hc.sem (b0l pre) rr hpre (args.map a.eval) hrep hBd
 rw [←hargs] at h
 refine Calls.mono h ?_
 rintro e w' ⟨v,E',rfl,e',r',hg',hv⟩
 rw [a9w hpre] at r'
 exact hN v w' E' e' r' (fun g' h=>.inl (hg' g' h)) hv
end
theorem a0W {C:Ctx} {n clk:Nat} {tm:List (Nat×TV)} {hp:List (Nat×HObj)} (id:Nat) (o':HObj) {o:HObj} (h:hget hp id=some o) (hs:a2m o o'):a4D C ⟨n,tm,hp,clk⟩ ⟨n,tm,(id,o')::hp,clk⟩:=by
 intro a w ⟨E,e0,r,hG,hsz,hdf,ht⟩
 refine ⟨E,e0,r.weak (fun k x hx=>?_),hG,hsz,hdf,ht⟩
 obtain ⟨o1,h1,h2⟩:=a0g.cons h hs (a0g.refl hp) k x hx
 exact ⟨o1,h1,h2⟩
section
variable {P:Program} {ops:Array Oper} {Q:Exit→Act→World→Prop} {C:Ctx} {n clk:Nat} {tm:List (Nat×TV)} {hp:List (Nat×HObj)} {rest:List Oper} {ty:TypeId} {pos:String} {af:Array Edge}
theorem b1Z {ov:Nat→Option HV} {g:Nat} {d:Option Tmp} {gd:Option (Nat×Bool)} {f:FuncId} {x:Operand} {hv:HV} (hx:ovl ov x=some hv):HOp P ⟨d,.makeFunc (.func f) #[x] #[],ty,pos,af,gd⟩ ov g [] (.bnd (.func f) hv) [] :=
 a0t fun w E ρ hr=>⟨.func (.func f) #[ρ x] #[],by simp [execOp,Instr.makeFunc],.bnd _ _ _ (hr x hv smo hx)⟩
theorem a3Y {w:World} {E:Env} {a:Act} {args:List Operand} {xs:List HV} (ht:∀ t x,tget tm t=some x→TVRep w E a (a.tmps.getD t undef) x) (hx:a1L (a0F (tget tm)) args xs):RepAll w E (args.map a.eval) xs :=
  hx.rep (w:=w) (E:=E) (ρ:=a.eval) (fun x hv hx' h=>by
    cases x with
    | tmp t =>
      simp only [ovl,a0F] at h
      cases hq:tget tm t with
      | none=>rw [hq] at h;cases h
      | some u => rw [hq] at h; cases u with
        | v y=>injection h with h;subst h;exact ht t _ hq
        | un j b y=>cases h
    | const v=>exact a5m w E _ v _ h
    | global k=>injection h with h;subst h;exact .imm _
    | func f=>injection h with h;subst h;exact .fn (.func f) #[] 0 _ (fun _=>undef) rfl (fun i hi=>absurd hi (Nat.not_lt_zero _)) (fun i hi=>absurd hi (Nat.not_lt_zero _)))
theorem c4U {f:FuncId} {t:Nat} {args:List Operand} {at_:Array TypeId} {y:HV} {xs:List HV} {pre:List (Nat×HObj)} {Post:HEnd→List (Nat×HObj)→Nat→Prop} (d:Nat)
    (hc:a2y P f clk (y::xs) pre Post) (h0:tget tm t=some (.v (.bnd (.func f) y))) (hx:a1L (a0F (tget tm)) args xs) (hpre:∀ p∈pre,hget hp p.1=some p.2) (hlt:Nat.blt d n=true) (hk:a0O tm d=true)
    (h:∀ r kp c',Post (.ret r) kp c'→HSeq C P ops rest ⟨n,(d,.v r)::tm,kp++hp,c'⟩ Q) (hpan:∀ x kp c',Post (.pan x) kp c'→b3b C Q ⟨n,tm,kp++hp,c'⟩ x) :
    HSeq C P ops (⟨some d,.call ⟨.value (.tmp t),args.toArray,at_⟩,ty,pos,af,none⟩::rest) ⟨n,tm,hp,clk⟩ Q:=by
  intro a w ⟨E,e0,r,hG,hsz,hdf,ht⟩
  have hlt:d < n:=by simpa [Nat.blt_eq] using hlt
  unfold a8R
  rw [if_pos (by simp [Region.wanted])]
  left
  have hrep:=a3Y ht hx
  have hfn:Rep w E (a.eval (.tmp t)) (.bnd (.func f) y):=ht t _ h0
  unfold Oper.wp execOp
  generalize hρ:a.eval (.tmp t)=u at hfn
  cases hfn with
  | bnd _ v0 _ hv0 =>
    have hargs:#[v0]++args.toArray.map a.eval=(v0::args.map a.eval).toArray:=by simp
    simp only [resolve,hρ,Deferred.ofValue,invoke,Sem.run_bind,Sem.run_pure,Result.andThen_ok,Array.empty_append,Array.append_empty]
    rw [a0C hc.1]
    simp only [Oper.upon]
    have hcalls:=hc.2 ⟨C.K,C.w0,C.E0.F,E,hget hp,w,pre⟩ (v0::args.map a.eval) ⟨r,fun id o ho=>hpre (id,o) (a1z ho)⟩ rfl ⟨hv0,hrep⟩ hG
    rw [←hargs] at hcalls
    refine Calls.mono hcalls ?_
    rintro e w' ⟨x,kp,c',E',hP,e',r',hG',_,hv⟩
    cases e with
    | returned v =>
      cases x with
      | pan x=>exact hv.elim
      | ret x =>
        refine h x kp c' hP _ w' ⟨E',e0.trans e',by simp only [a0I];exact r',hG',by simp [Act.put,hsz],hdf.ext e',fun t y hy=>?_⟩
        simp only [a0x] at hy
        split at hy
        · rename_i htd
          subst htd
          injection hy with hy
          subst hy
          rw [a0R (by rw [hsz];exact hlt)]
          exact hv
        · rename_i htd
          rw [a0w htd]
          have:=(ht t y hy).ext e'
          cases y with
          | v z=>exact this
          | un j b z =>
            have hne:=a2b hk t j b z hy
            simp only [TVRep,a0w hne] at this ⊢;exact this
    | panicked ch =>
      cases x with
      | ret x=>exact hv.elim
      | pan x =>
        obtain ⟨v,rfl,hv⟩:=hv
        exact hpan x kp c' hP a w' E' v (e0.trans e') (by simp only [a0I];exact r') hG' hsz (hdf.ext e') (fun t y hy=>(ht t y hy).ext e') hv
    | outgrown=>cases x <;> exact hv.elim
theorem a7T {α β:Type} {I:α→Nat→Prop} {r:α→HV} {kpf:α→List (Nat×HObj)} {J:β→Nat→Prop} {q:β→HV} {kqf:β→List (Nat×HObj)} {f:FuncId} {t:Nat} {args:List Operand} {at_:Array TypeId} {y:HV} {xs:List HV} {pre:List (Nat×HObj)} (d:Nat)
  (hc:a2y P f clk (y::xs) pre (RoP I r kpf J q kqf)) (h0:tget tm t=some (.v (.bnd (.func f) y))) (hx:a1L (a0F (tget tm)) args xs) (hpre:∀ p∈pre,hget hp p.1=some p.2) (hlt:Nat.blt d n=true) (hk:a0O tm d=true)
  (hpan:∀ y c',J y c'→b3b C Q ⟨n,tm,kqf y++hp,c'⟩ (q y))
  (h:∀ x c',I x c'→HSeq C P ops rest ⟨n,(d,.v (r x))::tm,kpf x++hp,c'⟩ Q) :
  HSeq C P ops (⟨some d,.call ⟨.value (.tmp t),args.toArray,at_⟩,ty,pos,af,none⟩::rest) ⟨n,tm,hp,clk⟩ Q :=
 c4U d hc h0 hx hpre hlt hk (fun _ _ c' hP=>by
  rcases hP with ⟨x,hI,he,hk⟩ | ⟨_,_,he,_⟩
  ·injection he with he;subst he;subst hk;exact h x c' hI
  ·cases he) (fun _ _ c' hP=>by
  rcases hP with ⟨_,_,he,_⟩ | ⟨y,hJ,he,hk⟩
  ·cases he
  ·injection he with he;subst he;subst hk;exact hpan y c' hJ)
theorem d1k {tm0:List (Nat×TV)}:∀ t x,tget [] t=some x→tget tm0 t=some x:=fun t x h=>by cases h
theorem b4W {tm0 r:List (Nat×TV)} {k:Nat} {y:TV} (h:tget tm0 k=some y) (hr:∀ t x,tget r t=some x→tget tm0 t=some x):∀ t x,tget ((k,y)::r) t=some x→tget tm0 t=some x:=fun t x hx=>by
 rw [a0x] at hx
 split at hx
 ·rename_i e;subst e;injection hx with hx;subst hx;exact h
 ·exact hr t x hx
theorem a0E {N:Act→World→Prop} {s:HSt} {x:HV} (h:b3b C Q s x):b3b C (Exit.then N Q) s x:=h
theorem a2c {id:Nat} {s:HSt} {x:HV} (h:b3b C Q s x):b3b C (Exit.inBlock id Q) s x:=h
@[reducible] def d2e {β:Type} (J:β→Nat→Prop) (q:β→HV) (kq:β→List (Nat×HObj)):HEnd→List (Nat×HObj)→Nat→Prop:=fun e o c'=>∃ y,J y c'∧e=.pan (q y)∧o=kq y
theorem a2n {β:Type} {J:β→Nat→Prop} {q:β→HV} {kqf:β→List (Nat×HObj)} {d:Option Nat} {f:FuncId} {args:List Operand} {at_:Array TypeId} {xs:List HV} {pre:List (Nat×HObj)}
    (hc:a2y P f clk xs pre (d2e J q kqf)) (hx:a1L (a0F (tget tm)) args xs) (hpre:∀ p∈pre,hget hp p.1=some p.2) (hpan:∀ y c',J y c'→b3b C Q ⟨n,tm,kqf y++hp,c'⟩ (q y)) :
    HSeq C P ops (⟨d,.call ⟨.value (.func f),args.toArray,at_⟩,ty,pos,af,none⟩::rest) ⟨n,tm,hp,clk⟩ Q:=by
  intro a w ⟨E,e0,r,hG,hsz,hdf,ht⟩
  unfold a8R
  rw [if_pos (by simp [Region.wanted])]
  left
  have hrep:=a3Y ht hx
  unfold Oper.wp execOp
  have hargs:args.toArray.map a.eval=(args.map a.eval).toArray:=by simp
  simp only [resolve,Act.eval,Deferred.ofValue,invoke,Sem.run_bind,Sem.run_pure,Result.andThen_ok,Array.empty_append,Array.append_empty]
  rw [a0C hc.1]
  simp only [Oper.upon]
  have hcalls:=hc.2 ⟨C.K,C.w0,C.E0.F,E,hget hp,w,pre⟩ (args.map a.eval) ⟨r,fun id o ho=>hpre (id,o) (a1z ho)⟩ rfl hrep hG
  rw [←hargs] at hcalls
  refine Calls.mono hcalls ?_
  rintro e w' ⟨x,kp,c',E',⟨y,hJ,rfl,rfl⟩,e',r',hG',_,hv⟩
  cases e with
  | returned v=>exact hv.elim
  | panicked ch =>
    obtain ⟨v,rfl,hv⟩:=hv
    exact hpan y c' hJ a w' E' v (e0.trans e') (by simp only [a0I];exact r') hG' hsz (hdf.ext e') (fun t y hy=>(ht t y hy).ext e') hv
  | outgrown=>exact hv.elim
theorem b6j {β:Type} {J:β→Nat→Prop} {q:β→HV} {kqf:β→List (Nat×HObj)} {X:Clr} (ok:X.Ok) {pre:List (Nat×HObj)} (hX:X.pre=pre) {fn:Func} {s:HSt} {v:HV} (y:β) (hJ:J y s.clk) (hpk:(pre.all fun p=>(hget (kqf y) p.1).isSome)=true) (hz:Kz (kqf y) [] v (q y)) (hkp:b6q (kqf y) [] s.hp (kqf y)) :
  b3b X.ctx (bodyPost P fn (a1A X (d2e J q kqf))) s v :=
 c6g ok (kqf y) (by rw [hX];exact hpk) hkp hz ⟨y,hJ,rfl,rfl⟩
theorem a2y.pan {β:Type} {J:β→Nat→Prop} {q:β→HV} {kqf:β→List (Nat×HObj)} {f:FuncId} {c:Nat} {args:List HV} {pre:List (Nat×HObj)} {α:Type} {I:α→Nat→Prop} {r:α→HV} {kpf:α→List (Nat×HObj)} (h:a2y P f c args pre (d2e J q kqf)):a2y P f c args pre (RoP I r kpf J q kqf) :=
 h.mono fun _ _ _ ⟨y,h1,h2,h3⟩=>.inr ⟨y,h1,h2,h3⟩
theorem b8D {x:Operand} {t:TypeId} {y:HV} (hx:ovl (a0F (tget tm)) x=some (.ifc t y)) (h:b3b C Q ⟨n,tm,hp,clk⟩ (.ifc t y)):HSeq C P ops (⟨none,.panic x,ty,pos,af,none⟩::rest) ⟨n,tm,hp,clk⟩ Q:=by
  intro a w ⟨E,e0,r,hG,hsz,hdf,ht⟩
  unfold a8R
  rw [if_pos (by simp [Region.wanted])]
  left
  have hv:Rep w E (a.eval x) (.ifc t y):=(a3Y (args:=[x]) (xs:=[.ifc t y]) ht ⟨hx,trivial⟩).1
  unfold Oper.wp execOp
  generalize hρ:a.eval x=u at hv
  cases hv with
  | ifc _ v _ hv =>
    simp only [Sem.run_bind,run_panic_iface,hρ]
    exact h a w E _ e0 r hG hsz hdf ht (.ifc _ _ _ hv)
end
theorem a9l {ss:List HSpec} {h0:Nat→Option HObj} {S:Nat→Bool}:∀ m,(∀ k,k < m→(spAt ss k).post=[])→hrun ss h0 S m=h0
  | 0,_=>rfl
  | m + 1, h => by
    have ih:=a9l (ss:=ss) (h0:=h0) (S:=S) m (fun k hk=>h k omo)
    simp only [hrun,h m omo,ih,hupd,List.foldr]
    split <;> rfl
theorem b3I {l:List Oper} {ss:List HSpec} {t0:Nat→Option TV} {S:Nat→Bool} {t:Nat}:∀ m,(∀ k,k < m→dstAt l k≠some t)→trun l ss t0 S m t=t0 t
  | 0,_=>rfl
  | m + 1, h => by
    simp only [trun]
    rw [if_neg (fun hh=>h m omo hh.2)]
    exact b3I m (fun k hk=>h k omo)
def d0r (l:List Oper) (k:Nat):Bool:=(List.range l.length).all fun i=>Nat.ble i k||((b5Q l []).getD i []).any (Nat.beq k)
def c1L (l:List Oper) (tk:List (Nat×TV)):Bool:=tk.all fun p=>l.all fun o=>match o.dst with | some d=>!Nat.beq d p.1 | none=>true
theorem b3z {l:List Oper} {tk:List (Nat×TV)} (h:c1L l tk=true) {t:Nat} {x:TV} (ht:tget tk t=some x):∀ k,dstAt l k≠some t:=by
  intro k hk
  have hm:∃ p∈tk,p.1=t:=by
    clear h
    induction tk with
    | nil=>cases ht
    | cons q r ih =>
      obtain ⟨k',y⟩:=q
      rw [a0x] at ht
      split at ht
      · rename_i e;exact ⟨_,List.mem_cons_self ..,e.symm⟩
      · obtain ⟨p,h1,h2⟩:=ih ht;exact ⟨p,List.mem_cons_of_mem _ h1,h2⟩
  obtain ⟨p,hp,rfl⟩:=hm
  have h1:=List.all_eq_true.1 (List.all_eq_true.1 h p hp)
  unfold dstAt at hk
  cases hl:l[k]? with
  | none=>rw [hl] at hk;cases hk
  | some o =>
    rw [hl] at hk
    have:=h1 o (List.mem_of_getElem? hl)
    simp only [Option.bind_some] at hk
    rw [hk] at this
    simp at this
section
variable {C:Ctx} {P:Program} {Q:Exit→Act→World→Prop} {n clk:Nat} {tm0:List (Nat×TV)} {hp0:List (Nat×HObj)} {l:List Oper} {ss:List HSpec}
theorem Inv.anyP {bef:List (List Nat)} (hc:Chk l ss bef) (hV:b8x tm0=true) (kb:Nat) (hkb:kb < l.length) (hg:∀ i,i < kb→∀ o,l[i]?=some o→Good P l.toArray n clk tm0 hp0 l ss i o) (hdep:∀ i,i < l.length→kb < i→kb∈bef.getD i [])
    (hbad:∀ listed a w N,Inv C n clk tm0 hp0 l ss listed a w→kb∈Region.ready .any l.toArray listed→b3k P l.toArray Q kb N a w) :
    ∀ (fuel:Nat) (listed:Array Bool) (a:Act) (w:World),listed.toList.count false≤fuel→Inv C n clk tm0 hp0 l ss listed a w→(∀ i,kb≤i→listed.getD i false=false)→a8M P .any l.toArray Q fuel listed a w:=by
  have some_:∀ (listed:Array Bool) (a:Act) (w:World),Inv C n clk tm0 hp0 l ss listed a w→(∀ i,kb≤i→listed.getD i false=false)→Region.ready .any l.toArray listed≠[]:=by
    intro listed a w hI hfree hr
    have full:∀ k,k < l.length→listed.getD k false=true:=by
      intro k
      induction k using Nat.strongRecOn with
      | _ k ih =>
        intro hk
        have hko:l[k]?=some l[k]:=List.getElem?_eq_getElem hk
        rw [←Bool.not_eq_false]
        intro hkf
        have:k∈Region.ready .any l.toArray listed:=by
          refine mem_ready.2 ⟨?_,l[k],by simp,fun e he hb=>?_⟩
          · have hkl:k < listed.size:=by rw [hI.sz];exact hk
            simpa [hkl] using hkf
          · have hee:e.on∈edg l[k]:=List.mem_map.2 ⟨e,List.mem_filter.2 ⟨by simpa using he,hb⟩,rfl⟩
            exact ih e.on (hc.edge k _ hko _ hee) (by have:=hc.edge k _ hko _ hee;omega)
        rw [hr] at this;cases this
    have h1:=full kb hkb
    rw [hfree kb lrf] at h1;cases h1
  intro fuel
  induction fuel with
  | zero =>
    intro listed a w hcnt hI hfree
    have hkl:kb < listed.size:=by rw [hI.sz];exact hkb
    have h1:=hfree kb lrf
    have h2:listed[kb]=false:=by simpa [hkl] using h1
    have hmem:false∈listed.toList:=by rw [←h2];simp
    have:=List.count_pos_iff.2 hmem
    omega
  | succ fuel ih =>
    intro listed a w hcnt hI hfree
    refine ⟨fun hr=>absurd hr (some_ listed a w hI hfree),fun i hr=>?_⟩
    have hr':=hr
    obtain ⟨_,o,ho,_⟩:=mem_ready.1 hr
    have ho:l[i]?=some o:=by rw [←ho];simp
    obtain ⟨h1,h2,hedg⟩:=a3l hr ho hI.sz
    rcases Nat.lt_trichotomy i kb with hik | hik | hik
    · refine hI.step hc hV (hg i hik) hr (fun a' w' hI'=>ih _ a' w' ?_ hI' (fun j hj=>?_))
      · have hil:i < listed.toList.length:=by rw [Array.length_toList,hI.sz];exact h2
        have hli:listed.toList[i]=false:=by
          have hkl:i < listed.size:=by rw [hI.sz];exact h2
          simpa [hkl] using h1
        have hpos:0 < listed.toList.count false:=List.count_pos_iff.2 (by rw [←hli];exact List.getElem_mem hil)
        rw [Array.toList_setIfInBounds,List.count_set hil,hli]
        have e1:(false == false)=true:=rfl
        have e2:(true == false)=false:=rfl
        rw [e1,e2]
        simp only [if_true,Bool.false_eq_true,if_false]
        omega
      · rw [a3c _ _ _ (by rw [hI.sz];exact h2),if_neg omo]
        exact hfree j hj
    · subst hik
      exact hbad listed a w _ hI hr
    · have h3:listed.getD kb false=true:=a2N hc (S:=fun k=>listed.getD k false) hI.closed i o ho hedg kb (hdep i h2 hik)
      rw [hfree kb lrf] at h3;cases h3
theorem Good.wide {ops:Array Oper} {dn L:List Oper} {ss ss':List HSpec} {i:Nat} {o:Oper} (hd:∀ k,k < i→dstAt dn k=dstAt L k) (hs:∀ k,k≤i→spAt ss k=spAt ss' k) (h:Good P ops n clk tm0 hp0 dn ss i o):Good P ops n clk tm0 hp0 L ss' i o:=by
 refine ⟨?_,?_,h.dst⟩
 ·have e:trun L ss' (tget tm0) (fun _=>true) i=trun dn ss (tget tm0) (fun _=>true) i:=funext fun t=>(a1E i (fun k hk=>(hd k hk)) (fun k hk _=>⟨rfl,hs k omo⟩)).symm
  rw [←hs i lrf,e];exact h.st
 ·rw [←hs i lrf]
  intro p hp
  rw [←a1Q (ss:=ss) i (fun k hk=>by rw [hs k omo]) (fun k hk _=>rfl)];exact h.pre p hp
theorem d1o {id:Nat} {dn rest:List Oper} {k:Nat} {tm:List (Nat×TV)} {d:Option Tmp} {ty:TypeId} {pos:String} {af:Array Edge} {f:FuncId} {args:List Operand} {at_:Array TypeId} {xs:List HV} {pre:List (Nat×HObj)} {Post:HEnd→List (Nat×HObj)→Nat→Prop} {L:List Oper} {cc:Nat} (tk:List (Nat×TV))
    (hm:P.follows .mixedOrders=true) (hcc:clk+L.length=cc) (hc:a2y P f cc xs pre Post) (hx:a1L (a0F (tget tm)) args xs) (hpre:∀ p∈pre,hget hp0 p.1=some p.2)
    (hck:c8M L (ss++[⟨.v default,args.filterMap (fun | .tmp t=>some t | _=>none),pre,[]⟩]) tm0=true) (hdep:d0r L k=true) (hpost:(ss.all fun s=>s.post.isEmpty)=true)
    (htk:∀ t x,tget tk t=some x→tget tm0 t=some x) (hkeep:c1L L tk=true)
    (hret:∀ r kp c',¬ Post (.ret r) kp c') (hpan:∀ x kp c',Post (.pan x) kp c'→b3b C Q ⟨n,tk,kp++hp0,c'⟩ x) (nd:C.rd=none∨L.all Oper.calm=true:=by first | exact .inr rfl | exact .inl rfl | exact .inl (by assumption)) :
    HDr P n clk tm0 hp0 L dn ss (⟨d,.call ⟨.value (.func f),args.toArray,at_⟩,ty,pos,af,none⟩::rest) k tm hp0 (HWp C P (.region id L.toArray true) ⟨n,tm0,hp0,clk⟩ Q):=by
  subst hcc
  intro hL hk hv a w hs
  subst hk
  obtain ⟨hV,hchk⟩:=c1d hck
  obtain ⟨g1,g2,g3,g4⟩:=hv.good
  have hlen:dn.length < L.length:=by rw [←hL];simp
  have hdst:∀ i,i < dn.length→dstAt dn i=dstAt L i:=fun i hi=>by unfold dstAt;rw [←hL,List.getElem?_append_left hi]
  have hsp:∀ i,i < dn.length→spAt ss i=spAt (ss++[⟨.v default,args.filterMap (fun | .tmp t=>some t | _=>none),pre,[]⟩]) i:=fun i hi=>by
    unfold spAt;rw [List.getD_eq_getElem?_getD,List.getD_eq_getElem?_getD,List.getElem?_append_left omo]
  have hspk:spAt (ss++[⟨.v default,args.filterMap (fun | .tmp t=>some t | _=>none),pre,[]⟩]) dn.length=⟨.v default,args.filterMap (fun | .tmp t=>some t | _=>none),pre,[]⟩:=by
    unfold spAt;rw [List.getD_eq_getElem?_getD,g1,List.getElem?_append_right lrf];simp
  have hposts:∀ i,(spAt (ss++[⟨.v default,args.filterMap (fun | .tmp t=>some t | _=>none),pre,[]⟩]) i).post=[]:=by
    intro i
    rcases Nat.lt_trichotomy i dn.length with h | h | h
    · rw [←hsp i h]
      unfold spAt
      have hi:i < ss.length:=by omega
      rw [List.getD_eq_getElem?_getD,List.getElem?_eq_getElem hi]
      have:=List.all_eq_true.1 hpost _ (List.getElem_mem hi)
      simpa using this
    · subst h;rw [hspk]
    · unfold spAt
      rw [List.getD_eq_getElem?_getD,List.getElem?_eq_none (by simp;omega)];rfl
  have hok:L[dn.length]?=some ⟨d,.call ⟨.value (.func f),args.toArray,at_⟩,ty,pos,af,none⟩:=by rw [←hL];simp
  obtain ⟨E,e0,r,hG,hsz,hdf,ht⟩:=hs
  have hf:∀ k,(Array.replicate L.length false).getD k false=false:=by
    intro k;by_cases hk:k < L.length <;> simp [hk]
  have start:Inv C n clk tm0 hp0 L (ss++[⟨.v default,args.filterMap (fun | .tmp t=>some t | _=>none),pre,[]⟩]) (Array.replicate L.length false) a w.drew:=by
    have hfun:(fun k=>(Array.replicate L.length false).getD k false)=fun _=>false:=funext hf
    have hzt:∀ m t,trun L (ss++[⟨.v default,args.filterMap (fun | .tmp t=>some t | _=>none),pre,[]⟩]) (tget tm0) (fun _=>false) m t=tget tm0 t:=by
      intro m t
      induction m with
      | zero=>rfl
      | succ m ih=>simp only [trun,Bool.false_eq_true,false_and,if_false];exact ih
    refine ⟨by simp,(fun i o _ h=>by rw [hf] at h;cases h),E,e0.trans (r.extBelow (Below.refl _ _).drew),(by rw [a9l _ (fun k _=>hposts k)];exact r.drew),fun g hg=>.inl (hG g hg),hsz,hdf.ext (r.extBelow (Below.refl _ _).drew),fun t x hx=>?_⟩
    rw [hfun] at hx
    rw [hzt] at hx
    exact (ht t x hx).ext (r.extBelow (Below.refl _ _).drew)
  refine a4w nd hm ?_
  have:=Inv.anyP (C:=C) (P:=P) (Q:=Q) hchk hV dn.length hlen (fun i hi o ho=>by
      have ho':dn[i]?=some o:=by rw [←hL,List.getElem?_append_left hi] at ho;exact ho
      exact (g4 i o ho').wide (fun k hk=>hdst k omo) (fun k hk=>hsp k omo)) (fun i hi hki=>by
      have h1:=List.all_eq_true.1 hdep i (List.mem_range.2 hi)
      rw [Bool.or_eq_true,a4e,Nat.ble_eq] at h1
      exact h1.resolve_left omo) (fun listed a' w' N hI hr=>?_) L.toArray.size (Array.replicate L.length false) a w.drew sml start (fun i _=>hf i)
  · simpa using this
  · obtain ⟨E',e0',r',hG',hsz',hdf',htm',hneed,hpr⟩:=hI.look hchk hr hok (by
      rw [hspk]
      intro p hp
      rw [a9l _ (fun k _=>hposts k)];exact hpre p hp)
    rw [a9l _ (fun k _=>hposts k)] at r'
    have hfull:trun L (ss++[⟨.v default,args.filterMap (fun | .tmp t=>some t | _=>none),pre,[]⟩]) (tget tm0) (fun _=>true) dn.length=tget tm:=by
      rw [g2];funext t;exact (a1E dn.length (fun k hk=>hdst k hk) (fun k hk _=>⟨rfl,hsp k hk⟩)).symm
    rw [hspk,hfull] at hneed
    have hrep:RepAll w' E' (args.map a'.eval) xs:=hx.rep (w:=w') (E:=E') (ρ:=a'.eval) (fun x hv hx' h=>by
      cases x with
      | tmp t =>
        simp only [ovl,a0F] at h
        cases hq:tget tm t with
        | none=>rw [hq] at h;cases h
        | some u => rw [hq] at h; cases u with
          | v y=>injection h with h;subst h;exact hneed t _ (List.mem_filterMap.2 ⟨_,hx',rfl⟩) hq
          | un j b y=>cases h
      | const v=>exact a5m w' E' _ v _ h
      | global k=>injection h with h;subst h;exact .imm _
      | func f=>injection h with h;subst h;exact .fn (.func f) #[] 0 _ (fun _=>undef) rfl (fun i hi=>absurd hi (Nat.not_lt_zero _)) (fun i hi=>absurd hi (Nat.not_lt_zero _)))
    unfold b3k
    have hoa:L.toArray[dn.length]?=some ⟨d,.call ⟨.value (.func f),args.toArray,at_⟩,ty,pos,af,none⟩:=by rw [←hok];simp
    simp only [hoa]
    rw [if_pos (by simp [Region.wanted])]
    left
    unfold Oper.wp execOp
    have hargs:args.toArray.map a'.eval=(args.map a'.eval).toArray:=by simp
    simp only [resolve,Act.eval,Deferred.ofValue,invoke,Sem.run_bind,Sem.run_pure,Result.andThen_ok,Array.empty_append,Array.append_empty]
    rw [a0C hc.1]
    simp only [Oper.upon]
    have hcalls:=hc.2 ⟨C.K,C.w0,C.E0.F,E',hget hp0,w',pre⟩ (args.map a'.eval) ⟨r',fun id o ho=>hpre (id,o) (a1z ho)⟩ rfl hrep (fun g hg=>by
      rcases hG' g hg with h | ⟨k,h1,_,h3⟩ <;> omega)
    rw [←hargs] at hcalls
    refine Calls.mono hcalls ?_
    rintro e w2 ⟨x,kp,c',E2,hP,e2,r2,hG2,_,hv2⟩
    cases e with
    | returned v =>
      cases x with
      | pan x=>exact hv2.elim
      | ret x=>exact absurd hP (hret x kp c')
    | panicked ch =>
      cases x with
      | ret x=>exact hv2.elim
      | pan x =>
        obtain ⟨v,rfl,hv2⟩:=hv2
        refine hpan x kp c' hP a' w2 E2 v (e0'.trans e2) (by simp only [a0I];exact r2) hG2 hsz' (hdf'.ext e2) (fun t y hy=>?_) hv2
        refine (htm' t y ?_).ext e2
        rw [b3I _ (fun k _=>b3z hkeep hy k)]
        exact htk t y hy
    | outgrown=>cases x <;> exact hv2.elim
end
section
variable {P:Program} {ops:Array Oper} {Q:Exit→Act→World→Prop} {C:Ctx} {n clk:Nat} {tm:List (Nat×TV)} {hp:List (Nat×HObj)} {ty:TypeId} {pos:String} {af:Array Edge}
def Ctx.wait (C:Ctx) (x:HV):Ctx:=⟨C.K,C.w0,C.E0,x::C.ds,C.rd,C.mks⟩
theorem b9j {t:Nat} {f:FuncId} {m:Nat} {caps:Nat→HV} {at_:Array TypeId} (h0:tget tm t=some (.v (.fn (.func f) m caps))) (h:HQ (C.wait (.fn (.func f) m caps)) Q .normal ⟨n,tm,hp,clk⟩) :
    HSeq C P ops [⟨none,.defer ⟨.value (.tmp t),#[],at_⟩,ty,pos,af,none⟩] ⟨n,tm,hp,clk⟩ Q:=by
  intro a w ⟨E,e0,r,hG,hsz,hdf,ht⟩
  unfold a8R
  rw [if_pos (by simp [Region.wanted])]
  left
  have hfn:Rep w E (a.eval (.tmp t)) (.fn (.func f) m caps):=ht t _ h0
  unfold Oper.wp execOp
  generalize hρ:a.eval (.tmp t)=u at hfn
  cases hfn with
  | fn _ vcs _ _ vs hn hv hr =>
    simp only [resolve,hρ,Deferred.ofValue,Sem.run_bind,Sem.run_pure,Result.andThen_ok,Array.map_empty,Array.append_empty,Oper.upon,a8R]
    exact h _ w ⟨E,e0,r,hG,hsz,⟨_,_,_,rfl,.fn _ _ _ _ vs hn hv hr,hdf⟩,ht⟩
def c9J (P:Program) (f:FuncId) (u u':Value→FrameMode) (c:Nat) (args:List HV) (y:HV) (pre:List (Nat×HObj)) (Post:HEnd→List (Nat×HObj)→Nat→Prop):Prop:=c6n P f ∧
 ∀ (X:Clr) (vs:List Value) (v:Value),X.Ok→X.pre=pre→RepAll X.w X.E vs args→Rep X.w X.E v y→(∀ g,X.E.G g→g < c)→CallsD P f vs.toArray (u v) X.w fun e u2 w'=>u2=u' v∧a1A X Post e w'
@[reducible] def b0J:Value→FrameMode:=fun _=>.returning
@[reducible] def c3b:Value→FrameMode:=fun v=>.panicking [{ v:=v,recovered:=false }]
@[reducible] def b3l:Value→FrameMode:=fun v=>.panicking [{ v:=v,recovered:=true }]
theorem b9E {f:FuncId} {fn:Func} {id d1 d2:Nat} {at_:Array TypeId} {ty1 ty2:TypeId} {pos1 pos2:String} {af1 af2:Array Edge} {rest:Code} (u u':Value→FrameMode) (y:HV)
    (hu:∀ (v:Value) (c₀:Frame) (cs:List Frame),c₀.mode=u v→(recoverD (c₀::cs)=some (v,{ c₀ with mode:=u' v }::cs))∨(recoverD (c₀::cs)=none∧u' v=u v∧y=.imm .nilIface))
    (hf:P.funcs[f]?=some fn) (hb:fn.body=some (.seq (.region id #[⟨some d1,.call ⟨.builtin .recover,#[],at_⟩,ty1,pos1,af1,none⟩,⟨some d2,.assign (.tmp d1),ty2,pos2,af2,none⟩] false) rest)) (hn:(fn.name == "runtime.NumGoroutine")=false)
    (args:List HV) (pre:List (Nat×HObj)) (tm:List (Nat×TV)) (htm:a8o 0 args=tm) (n:Nat) (hnt:fn.ntmps=n) (hlen:Nat.ble args.length n=true) (h1n:Nat.blt d1 n=true) (h2n:Nat.blt d2 n=true) (hk1:a0O tm d1=true) (hk2:a0O tm d2=true) (hd12:d1≠d2) {Post:HEnd→List (Nat×HObj)→Nat→Prop}
    (h:∀ X:Clr,X.Ok→X.pre=pre→HWp X.ctx P rest ⟨n,(d2,.v y)::(d1,.v y)::tm,pre,clk⟩ (bodyPost P fn (a1A X Post))):c9J P f u u' clk args y pre Post:=by
  refine ⟨⟨fn,_,hf,hb,hn⟩,fun X vs v ok hX hr hvy hG=>?_⟩
  refine callsD_of_wpS hf hb fun c₀ cs hm=>wpS_seq (wpS_region ?_)
  have h1n:d1 < n:=by simpa [Nat.blt_eq] using h1n
  have h2n:d2 < n:=by simpa [Nat.blt_eq] using h2n
  obtain ⟨hl,hg⟩:=hr.get
  have hlen:args.length≤n:=by simpa using hlen
  generalize hA:({ tmps:=vs.toArray++Array.replicate (fn.ntmps - vs.toArray.size) undef,defers:=[] }:Act)=a
  have hasz:a.tmps.size=n:=by subst hA;simp [hl,hnt];omega
  have hadf:a.defers=[]:=by subst hA;rfl
  have hslots:∀ t x,tget tm t=some x→TVRep X.w X.E a (a.tmps.getD t undef) x:=by
    intro t x hx
    rw [←htm] at hx
    obtain ⟨i,y,rfl,h2,rfl⟩:=a2w args 0 t x hx
    obtain ⟨v,hv,hrep⟩:=hg i y h2
    have hi:i < vs.length:=by
      rcases Nat.lt_or_ge i vs.length with h | h
      · exact h
      · rw [List.getElem?_eq_none h] at hv;cases hv
    have:a.tmps.getD (0+i) undef=v:=by
      subst hA
      rw [Nat.zero_add]
      simp only [Array.getD_eq_getD_getElem?]
      rw [Array.getElem?_append_left (by simpa using hi)]
      simp [hv]
    rw [this]
    exact hrep
  have key:∀ (v':Value) (c₁:Frame),Rep X.w X.E v' y→c₁={ c₀ with mode:=u' v }→rest.wpS P (bodyPostS P fn c₀ cs fun e u2 w'=>u2=u' v∧a1A X Post e w') ((a.put (some d1) v').put (some d2) v') (c₁::cs) X.w:=by
    intro v' c₁ hv' hc₁
    refine wpS_of_wp (Code.wp_mono (fun e a' w' hq=>?_) (a7q.1 (h X ok hX _ X.w ⟨X.E,Ext.refl _ _,by have:=ok.start;rw [hX] at this;exact this,hG,by simp [Act.put,hasz],hadf,fun t x hx=>?_⟩)))
    · cases e with
      | normal=>obtain ⟨q1,q2,q3,q4⟩:=hq;exact ⟨q1,_,by rw [hc₁],q2,q3,rfl,q4⟩
      | ret=>obtain ⟨q1,q2,q3,q4⟩:=hq;exact ⟨q1,_,by rw [hc₁],q2,q3,rfl,q4⟩
      | panic ch=>obtain ⟨q1,q4⟩:=hq;exact ⟨q1,_,by rw [hc₁],rfl,q4⟩
      | outgrown=>exact ⟨_,rfl,hq⟩
      | exit id=>exact hq.elim
      | goto l=>exact hq.elim
    · have h1s:d1 < a.tmps.size:=by rw [hasz];exact h1n
      have h2s:d2 < (a.put (some d1) v').tmps.size:=by simp [Act.put,hasz];exact h2n
      simp only [a0x] at hx
      split at hx
      · rename_i e;subst e;injection hx with hx;subst hx
        rw [a0R h2s];exact hv'
      · rename_i e2
        rw [a0w e2]
        split at hx
        · rename_i e;subst e;injection hx with hx;subst hx
          rw [a0R h1s];exact hv'
        · rename_i e1
          rw [a0w e1]
          have:=hslots t x hx
          cases x with
          | v z=>exact this
          | un j b z =>
            have n1:=a2b hk1 t j b z hx
            have n2:=a2b hk2 t j b z hx
            simp only [TVRep,a0w n1,a0w n2] at this ⊢;exact this
  have hput:∀ v',(a.put (some d1) v').eval (.tmp d1)=v':=fun v'=>a0R (by rw [hasz];exact h1n)
  rw [show (List.range (#[(⟨some d1,.call ⟨.builtin .recover,#[],at_⟩,ty1,pos1,af1,none⟩:Oper),⟨some d2,.assign (.tmp d1),ty2,pos2,af2,none⟩]:Array Oper).size)=[0,1] from rfl]
  have hrun:∀ w:World,(execOp a.eval ⟨some d1,.call ⟨.builtin .recover,#[],at_⟩,ty1,pos1,af1,none⟩).run P w=.ok .recover w:=fun w=>by simp [execOp,resolve,invoke,builtin]
  unfold wpOpsS
  simp only [List.getElem?_toArray,List.getElem?_cons_zero]
  rw [if_pos (by simp [Region.wanted]),hrun]
  simp only
  rcases hu v c₀ cs hm with hrec | ⟨hrec,hu1,hy⟩
  · rw [hrec]
    simp only
    unfold wpOpsS
    simp only [List.getElem?_toArray,List.getElem?_cons_succ,List.getElem?_cons_zero]
    rw [if_pos (by simp [Region.wanted])]
    simp only [execOp,Sem.run_pure,Oper.upon,hput,wpOpsS]
    exact key v _ hvy rfl
  · rw [hrec]
    simp only
    unfold wpOpsS
    simp only [List.getElem?_toArray,List.getElem?_cons_succ,List.getElem?_cons_zero]
    rw [if_pos (by simp [Region.wanted])]
    simp only [execOp,Sem.run_pure,Oper.upon,hput,wpOpsS]
    refine key .nilIface _ (by rw [hy];exact .imm _) ?_
    rw [hu1,←hm]
theorem d3Z (v:Value) (c₀:Frame) (cs:List Frame) (h:c₀.mode=b0J v):(recoverD (c₀::cs)=some (v,{ c₀ with mode:=b0J v }::cs))∨(recoverD (c₀::cs)=none∧b0J v=b0J v∧HV.imm .nilIface=.imm .nilIface):=by
 refine .inr ⟨?_,rfl,rfl⟩
 simp [recoverD,h]
theorem d3W (y:HV) (v:Value) (c₀:Frame) (cs:List Frame) (h:c₀.mode=c3b v):(recoverD (c₀::cs)=some (v,{ c₀ with mode:=b3l v }::cs))∨(recoverD (c₀::cs)=none∧b3l v=c3b v∧y=.imm .nilIface):=by
 left
 simp [recoverD,h]
end
section
variable {P:Program}
theorem c2e {f:FuncId} {fn:Func} {c:Code} (hf:P.funcs[f]?=some fn) (hb:fn.body=some c) (hn:(fn.name == "runtime.NumGoroutine")=false) (args:List HV) (r:HV) (tm:List (Nat×TV)) (htm:a8o 0 args=tm) (n:Nat) (hnt:fn.ntmps=n) (hlen:Nat.ble args.length n=true)
  (h:∀ w F,HWp (Ctx.top w F) P c ⟨n,tm,[],0⟩ (bodyPostD P fn (a1c w F r))):HPure P f args r:=by
 refine ⟨⟨fn,c,hf,hb,hn⟩,fun w F vs hF hr hw=>calls_of_wp_defers hf hb (a7q.1 (h w F _ w ?_))⟩
 obtain ⟨hl,hg⟩:=hr.get
 have hlen:args.length≤n:=by simpa using hlen
 refine ⟨Env.just F,Ext.refl _ _,⟨rfl,rfl,rfl,Nat.le_refl _,fun _ _ _=>rfl,hF,fun a ha=>.inl ha,fun _ _=>trivial,hw,(fun b hb=>hb.elim),(fun id o ho=>by cases ho),(fun id id' o o' l l' b ho=>by cases ho)⟩,fun g hg=>hg.elim,?_,rfl,fun t x hx=>?_⟩
 ·simp [hl,hnt];omega
 ·rw [←htm] at hx
  obtain ⟨i,y,rfl,h2,rfl⟩:=a2w args 0 t x hx
  obtain ⟨v,hv,hrep⟩:=hg i y h2
  have hi:i < vs.length:=by
   rcases Nat.lt_or_ge i vs.length with h | h
   ·exact h
   ·rw [List.getElem?_eq_none h] at hv;cases hv
  have:({ tmps:=vs.toArray++Array.replicate (fn.ntmps - vs.toArray.size) undef,defers:=[] }:Act).tmps.getD (0+i) undef=v:=by
   rw [Nat.zero_add]
   simp only [Array.getD_eq_getD_getElem?]
   rw [Array.getElem?_append_left (by simpa using hi)]
   simp [hv]
  rw [this]
  exact hrep
variable {Post:HEnd→List (Nat×HObj)→Nat→Prop}
end
theorem b4C {w:World} {E:Env}:∀ (l:List Value) (m:List HV),l.length=m.length→(∀ i,i < m.length→∃ v,l[i]?=some v∧Rep w E v (m.getD i default))→RepAll w E l m
  | [],[],_,_=>trivial
  | v :: l, x :: m, hl, h => by
    obtain ⟨v',h1,h2⟩:=h 0 sml
    simp at h1 h2
    subst h1
    exact ⟨h2,b4C l m (by simpa using hl) (fun i hi=>by have:=h (i+1) (by simpa using hi);simpa using this)⟩
  | [],_::_,hl,_=>by simp at hl
  | _::_,[],hl,_=>by simp at hl
section
variable {P:Program} {C:Ctx} {n clk:Nat} {tm:List (Nat×TV)} {hp:List (Nat×HObj)} {fn:Func} {Rp:Ending→World→Prop} {f:FuncId} {hs:List HV} {pre:List (Nat×HObj)} {Post:HEnd→List (Nat×HObj)→Nat→Prop}
theorem b1f (u u':Value→FrameMode) (hC:C.ds=[]∧C.mks=none) (hu0:∀ v,u v≠.run) (hs':∀ v,settle (u' v)=.returning) {y:HV} (hc:c9J P f u u' clk hs y pre Post) (hpre:∀ p∈pre,hget hp p.1=some p.2) (hpn:∀ x kp c',¬ Post (.pan x) kp c')
    (h:∀ r kp c',Post (.ret r) kp c'→HQ C (bodyPost P fn Rp) .ret ⟨n,tm,kp++hp,c'⟩) {a:Act} {w:World} {E:Env} {v:Value} (hvy:Rep w E v y) (e0:Ext C.w0 C.E0 w E) (r:R C.K C.w0 C.E0.F E (hget hp) w) (hG:∀ g,E.G g→g < clk) (hsz:a.tmps.size=n)
    (hdf:DefOk C.mks w E (C.wait (.fn (.func f) hs.length (fun i=>hs.getD i default))).ds a.defers) (ht:∀ t x,tget tm t=some x→TVRep w E a (a.tmps.getD t undef) x):Leaves P fn a.tmps Rp a.defers (u v) w:=by
  obtain ⟨fv,cap,rr,hd,hfn,hrest⟩:=hdf
  rw [hC.1,hC.2] at hrest
  have hrr:rr=[]:=hrest
  subst hrr
  rw [hd]
  cases hfn with
  | fn _ vcs _ _ vs hn hv hr =>
    have hall:RepAll w E cap.toList hs:=b4C _ _ (by simpa using hn) (fun i hi=>⟨vs i,by rw [Array.getElem?_toList];exact hv i hi,hr i hi⟩)
    refine leaves_cons (hu0 v) (f:=f) (args:=cap) ?_ ?_
    · simp only [invoke,Array.empty_append]
      exact a0C hc.1 _ _
    · have hcalls:=hc.2 ⟨C.K,C.w0,C.E0.F,E,hget hp,w,pre⟩ cap.toList v ⟨r,fun id o ho=>hpre (id,o) (a1z ho)⟩ rfl hall hvy hG
      refine CallsD.mono hcalls ?_
      rintro e u2 w' ⟨rfl,x,kp,c',E',hP,e',r',hG',_,hv2⟩
      cases e with
      | returned v2 =>
        cases x with
        | pan x=>exact hv2.elim
        | ret x =>
          simp only [hs']
          have:=h x kp c' hP { a with defers:=[] } w' ⟨E',e0.trans e',by simp only [a0I];exact r',hG',hsz,by rw [hC.1,hC.2];rfl,fun t y hy=>by
            have:=(ht t y hy).ext e'
            cases y with
            | v z=>exact this
            | un j b z=>exact this⟩
          exact this.2
      | panicked ch =>
        cases x with
        | ret x=>exact hv2.elim
        | pan x=>exact absurd hP (hpn x kp c')
      | outgrown=>cases x <;> exact hv2.elim
theorem c9w (hC:C.ds=[]∧C.mks=none) (hc:c9J P f b0J b0J clk hs (.imm .nilIface) pre Post) (hpre:∀ p∈pre,hget hp p.1=some p.2) (hpn:∀ x kp c',¬ Post (.pan x) kp c')
  (h:∀ r kp c',Post (.ret r) kp c'→HQ C (bodyPost P fn Rp) .ret ⟨n,tm,kp++hp,c'⟩):HQ (C.wait (.fn (.func f) hs.length (fun i=>hs.getD i default))) (bodyPostD P fn Rp) .ret ⟨n,tm,hp,clk⟩:=by
 intro a w ⟨E,e0,r,hG,hsz,hdf,ht⟩
 exact b1f b0J b0J hC (fun _ h=>by cases h) (fun _=>rfl) hc hpre hpn h (v:=.nilIface) (.imm _) e0 r hG hsz hdf ht
theorem c0Y {x:HV} (hC:C.ds=[]∧C.mks=none) (hc:c9J P f c3b b3l clk hs x pre Post) (hpre:∀ p∈pre,hget hp p.1=some p.2) (hpn:∀ x kp c',¬ Post (.pan x) kp c')
  (h:∀ r kp c',Post (.ret r) kp c'→HQ C (bodyPost P fn Rp) .ret ⟨n,tm,kp++hp,c'⟩):b3b (C.wait (.fn (.func f) hs.length (fun i=>hs.getD i default))) (bodyPostD P fn Rp) ⟨n,tm,hp,clk⟩ x:=by
 intro a w E v e0 r hG hsz hdf ht hv
 exact b1f c3b b3l hC (fun _ h=>by cases h) (fun _=>rfl) hc hpre hpn h (v:=v) hv e0 r hG hsz hdf ht
end
def d1M (l:List Oper) (k:Nat):Bool:=(List.range k).all fun j=>((b5Q l []).getD k []).any (Nat.beq j)
def c5u (l:List Oper) (k:Nat):Bool:=(List.range l.length).all fun i=>Nat.ble i k||((b5Q l []).getD i []).any (Nat.beq (i - 1))
theorem b3Y {P:Program} {Q:Exit→Act→World→Prop} {l:List Oper} {ss:List HSpec} {bef:List (List Nat)} (hc:Chk l ss bef) {kb:Nat} (hch:∀ i,i < l.length→kb < i→i - 1∈bef.getD i []) :
    ∀ (fuel m:Nat) (listed:Array Bool) (a:Act) (w:World),kb≤m→m≤l.length→listed.size=l.length→(∀ i,i < l.length→listed.getD i false=decide (i < m))→l.length - m≤fuel→a8R P l.toArray Q (l.drop m) a w→a8M P .any l.toArray Q fuel listed a w:=by
  have fin:∀ (m:Nat) (listed:Array Bool),m=l.length→listed.size=l.length→(∀ i,i < l.length→listed.getD i false=decide (i < m))→Region.ready .any l.toArray listed=[]:=by
    intro m listed hm hsz hl
    rw [List.eq_nil_iff_forall_not_mem]
    intro i hr
    obtain ⟨_,o,ho,_⟩:=mem_ready.1 hr
    have ho:l[i]?=some o:=by rw [←ho];simp
    obtain ⟨h1,h2,_⟩:=a3l hr ho hsz
    rw [hl i h2,decide_eq_true omo] at h1
    cases h1
  intro fuel
  induction fuel with
  | zero =>
    intro m listed a w hkm hml hsz hl hf h
    have hm:m=l.length:=by omega
    subst hm
    rw [List.drop_length] at h
    exact ⟨fin _ listed rfl hsz hl,h⟩
  | succ fuel ih =>
    intro m listed a w hkm hml hsz hl hf h
    by_cases hm:m=l.length
    · subst hm
      rw [List.drop_length] at h
      have:=fin _ listed rfl hsz hl
      exact ⟨fun _=>h,fun i hi=>by rw [this] at hi;cases hi⟩
    · have hlt:m < l.length:=by omega
      refine ⟨fun hr=>?_,fun i hr=>?_⟩
      · exfalso
        have:m∈Region.ready .any l.toArray listed:=by
          refine mem_ready.2 ⟨?_,l[m],by simp,fun e he hb=>?_⟩
          · have:=hl m hlt
            rw [decide_eq_false omo] at this
            have hkl:m < listed.size:=by omega
            simpa [hkl] using this
          · have hee:e.on∈edg l[m]:=List.mem_map.2 ⟨e,List.mem_filter.2 ⟨by simpa using he,hb⟩,rfl⟩
            have:=hc.edge m _ (List.getElem?_eq_getElem hlt) _ hee
            rw [hl e.on omo,decide_eq_true omo]
        rw [hr] at this;cases this
      · obtain ⟨_,o,ho,_⟩:=mem_ready.1 hr
        have ho:l[i]?=some o:=by rw [←ho];simp
        obtain ⟨h1,h2,hedg⟩:=a3l hr ho hsz
        have him:i=m:=by
          rw [hl i h2] at h1
          have h3:=of_decide_eq_false h1
          rcases Nat.lt_or_ge m i with h4 | h4
          · have h5:=a2N hc (S:=fun k=>listed.getD k false) (fun j oj hoj hj e he=>by
              have hjl:j < l.length:=by
                rcases Nat.lt_or_ge j l.length with h | h
                · exact h
                · rw [List.getElem?_eq_none h] at hoj;cases hoj
              have:=hc.edge j _ hoj _ he
              rw [hl j hjl] at hj
              have:=of_decide_eq_true hj
              show listed.getD e false=true
              rw [hl e omo,decide_eq_true omo]) i o ho hedg (i - 1) (hch i h2 omo)
            rw [hl (i - 1) omo,decide_eq_false omo] at h5
            cases h5
          · omega
        subst him
        rw [List.drop_eq_getElem_cons hlt] at h
        have hlo:l[i]=o:=by rw [List.getElem?_eq_getElem hlt] at ho;injection ho
        rw [hlo] at h
        unfold a8R at h
        unfold b3k
        have hoa:l.toArray[i]?=some o:=by rw [←ho];simp
        simp only [hoa]
        have nxt:∀ a w,a8R P l.toArray Q (l.drop (i+1)) a w→a8M P .any l.toArray Q fuel (listed.setIfInBounds i true) a w:=fun a w hs =>
          ih (i+1) _ a w omo hlt (by simp [hsz]) (fun j hj=>by
            rw [a3c _ _ _ omo]
            split
            · rename_i e;subst e;exact (decide_eq_true omo).symm
            · rw [hl j hj];exact decide_eq_decide.2 omo) omo hs
        split at h
        · rename_i hw;rw [if_pos hw];exact b1v nxt h
        · rename_i hw;rw [if_neg hw];exact nxt _ _ h
section
variable {C:Ctx} {P:Program} {Q:Exit→Act→World→Prop} {n clk:Nat} {tm0:List (Nat×TV)} {hp0:List (Nat×HObj)} {l:List Oper} {ss:List HSpec}
theorem Inv.anyC {bef:List (List Nat)} (hc:Chk l ss bef) (hV:b8x tm0=true) (kb:Nat) (hkb:kb < l.length) (hg:∀ i,i < kb→∀ o,l[i]?=some o→Good P l.toArray n clk tm0 hp0 l ss i o) (hdep:∀ i,i < l.length→kb < i→i - 1∈bef.getD i []) (hall:∀ j,j < kb→j∈bef.getD kb [])
    (hend:∀ listed a w,Inv C n clk tm0 hp0 l ss listed a w→(∀ i,i < l.length→listed.getD i false=decide (i < kb))→a8R P l.toArray Q (l.drop kb) a w) :
    ∀ (fuel:Nat) (listed:Array Bool) (a:Act) (w:World),listed.toList.count false≤fuel→l.length - kb≤listed.toList.count false→Inv C n clk tm0 hp0 l ss listed a w→(∀ i,kb≤i→listed.getD i false=false)→a8M P .any l.toArray Q fuel listed a w:=by
  intro fuel
  induction fuel with
  | zero =>
    intro listed a w hcnt hcn hI hfree
    omega
  | succ fuel ih =>
    intro listed a w hcnt hcn hI hfree
    by_cases hal:∀ i,i < kb→listed.getD i false=true
    · have hl:∀ i,i < l.length→listed.getD i false=decide (i < kb):=fun i hi=>by
        rcases Nat.lt_or_ge i kb with h | h
        · rw [hal i h,decide_eq_true h]
        · rw [hfree i h,decide_eq_false omo]
      exact b3Y hc (kb:=kb) hdep (fuel+1) kb listed a w lrf omo hI.sz hl omo (hend listed a w hI hl)
    · have hbef:∀ i o,l[i]?=some o→(∀ e∈edg o,listed.getD e false=true)→∀ j∈bef.getD i [],listed.getD j false=true:=fun i o ho he=>a2N hc (S:=fun k=>listed.getD k false) hI.closed i o ho he
      refine ⟨fun hr=>?_,fun i hr=>?_⟩
      · exfalso
        apply hal
        intro k
        induction k using Nat.strongRecOn with
        | _ k ihk =>
          intro hk
          have hkl0:k < l.length:=by omega
          have hko:l[k]?=some l[k]:=List.getElem?_eq_getElem hkl0
          rw [←Bool.not_eq_false]
          intro hkf
          have:k∈Region.ready .any l.toArray listed:=by
            refine mem_ready.2 ⟨?_,l[k],by simp,fun e he hb=>?_⟩
            · have hkl:k < listed.size:=by rw [hI.sz];exact hkl0
              simpa [hkl] using hkf
            · have hee:e.on∈edg l[k]:=List.mem_map.2 ⟨e,List.mem_filter.2 ⟨by simpa using he,hb⟩,rfl⟩
              have:=hc.edge k _ hko _ hee
              exact ihk e.on this omo
          rw [hr] at this;cases this
      · have hr':=hr
        obtain ⟨_,o,ho,_⟩:=mem_ready.1 hr
        have ho:l[i]?=some o:=by rw [←ho];simp
        obtain ⟨h1,h2,hedg⟩:=a3l hr ho hI.sz
        rcases Nat.lt_or_ge i kb with hik | hik
        · have hil:i < listed.toList.length:=by rw [Array.length_toList,hI.sz];exact h2
          have hli:listed.toList[i]=false:=by
            have hkl:i < listed.size:=by rw [hI.sz];exact h2
            simpa [hkl] using h1
          have hpos:0 < listed.toList.count false:=List.count_pos_iff.2 (by rw [←hli];exact List.getElem_mem hil)
          have hcount:(listed.setIfInBounds i true).toList.count false=listed.toList.count false - 1:=by
            rw [Array.toList_setIfInBounds,List.count_set hil,hli]
            have e1:(false == false)=true:=rfl
            have e2:(true == false)=false:=rfl
            rw [e1,e2]
            simp
          have hlow:l.length - kb < listed.toList.count false:=by
            have hs:listed.toList.count false=(listed.toList.take kb).count false+(listed.toList.drop kb).count false:=by
              rw [←List.count_append,List.take_append_drop]
            have h3:(listed.toList.drop kb).count false=l.length - kb:=by
              rw [List.count_eq_length.2 (fun b hb=>?_),List.length_drop,Array.length_toList,hI.sz]
              obtain ⟨j,hj,rfl⟩:=List.mem_iff_getElem.1 hb
              rw [List.getElem_drop]
              have:=hfree (kb+j) omo
              rw [List.length_drop,Array.length_toList] at hj
              have hkl:kb+j < listed.size:=by omega
              have h5:listed[kb+j]=false:=by simpa [hkl] using this
              rw [Array.getElem_toList,h5]
            have h4:0 < (listed.toList.take kb).count false:=by
              refine List.count_pos_iff.2 ?_
              rw [←hli]
              exact List.mem_take_iff_getElem.2 ⟨i,by omega,rfl⟩
            omega
          refine hI.step hc hV (hg i hik) hr (fun a' w' hI'=>ih _ a' w' omo omo hI' (fun j hj=>?_))
          rw [a3c _ _ _ (by rw [hI.sz];exact h2),if_neg omo]
          exact hfree j hj
        · exfalso
          have hkbl:listed.getD i false=true∨∀ j,j < kb→listed.getD j false=true:=by
            induction i using Nat.strongRecOn with
            | _ i ihi =>
              right
              have hb:=hbef i o ho hedg
              rcases Nat.lt_or_ge kb i with h | h
              · have:=hb (i - 1) (hdep i h2 h)
                rw [hfree (i - 1) omo] at this;cases this
              · obtain rfl:i=kb:=by omega
                exact fun j hj=>hb j (hall j hj)
          rcases hkbl with h | h
          · rw [hfree i hik] at h;cases h
          · exact hal h
theorem b4H {id:Nat} {dn rest:List Oper} {k:Nat} {tm:List (Nat×TV)} {hp:List (Nat×HObj)} {L:List Oper} (hm:P.follows .mixedOrders=true) (hck:c8M L ss tm0=true) (hall:d1M L k=true) (hch:c5u L k=true) {c':Nat} (hc':clk+k=c') (h:HSeq C P L.toArray rest ⟨n,tm,hp,c'⟩ Q) (hrest:rest≠[]) (nd:C.rd=none∨L.all Oper.calm=true:=by first | exact .inr rfl | exact .inl rfl | exact .inl (by assumption)) :
  HDr P n clk tm0 hp0 L dn ss rest k tm hp (HWp C P (.region id L.toArray true) ⟨n,tm0,hp0,clk⟩ Q):=by
 subst hc'
 intro hL hk hv a w hs
 subst hk
 obtain ⟨hV,hchk⟩:=c1d hck
 obtain ⟨g1,g2,g3,g4⟩:=hv.good
 have hlen:dn.length < L.length:=by
  rw [←hL,List.length_append]
  have:=List.length_pos_iff.2 hrest;omega
 have hdst:∀ i,i < dn.length→dstAt dn i=dstAt L i:=fun i hi=>by unfold dstAt;rw [←hL,List.getElem?_append_left hi]
 have hdrop:L.drop dn.length=rest:=by rw [←hL];simp
 obtain ⟨E,e0,r,hG,hsz,hdf,ht⟩:=hs
 have hf:∀ k,(Array.replicate L.length false).getD k false=false:=by
  intro k;by_cases hk:k < L.length <;> simp [hk]
 have start:Inv C n clk tm0 hp0 L ss (Array.replicate L.length false) a w.drew:=by
  have hfun:(fun k=>(Array.replicate L.length false).getD k false)=fun _=>false:=funext hf
  have hz:∀ m,hrun ss (hget hp0) (fun _=>false) m=hget hp0:=by
   intro m
   induction m with
   | zero=>rfl
   | succ m ih=>simp only [hrun,Bool.false_eq_true,if_false];exact ih
  have hzt:∀ m t,trun L ss (tget tm0) (fun _=>false) m t=tget tm0 t:=by
   intro m t
   induction m with
   | zero=>rfl
   | succ m ih=>simp only [trun,Bool.false_eq_true,false_and,if_false];exact ih
  refine ⟨by simp,(fun i o _ h=>by rw [hf] at h;cases h),E,e0.trans (r.extBelow (Below.refl _ _).drew),(by rw [hfun,hz];exact r.drew),fun g hg=>.inl (hG g hg),hsz,hdf.ext (r.extBelow (Below.refl _ _).drew),fun t x hx=>?_⟩
  rw [hfun] at hx
  rw [hzt] at hx
  exact (ht t x hx).ext (r.extBelow (Below.refl _ _).drew)
 refine a4w nd hm ?_
 have:=Inv.anyC (C:=C) (P:=P) (Q:=Q) hchk hV dn.length hlen (fun i hi o ho=>by
   have ho':dn[i]?=some o:=by rw [←hL,List.getElem?_append_left hi] at ho;exact ho
   exact (g4 i o ho').wide (fun k hk=>hdst k omo) (fun k hk=>rfl)) (fun i hi hki=>by
   have h1:=List.all_eq_true.1 hch i (List.mem_range.2 hi)
   rw [Bool.or_eq_true,a4e,Nat.ble_eq] at h1
   exact h1.resolve_left omo) (fun j hj=>by
   have h1:=List.all_eq_true.1 hall j (List.mem_range.2 hj)
   rwa [a4e] at h1) (fun listed a' w' hI hl=>?_) L.toArray.size (Array.replicate L.length false) a w.drew sml sml start (fun i _=>hf i)
 ·simpa using this
 ·rw [hdrop]
  obtain ⟨E',e',r',hG',hsz',hdf',ht'⟩:=hI.st
  have e1:hrun ss (hget hp0) (fun k=>listed.getD k false) L.length=hget hp:=by
   rw [g3];funext id
   rw [a1Q (ss':=ss) (S':=fun k=>decide (k < dn.length)) L.length (fun _ _=>rfl) (fun k hk _=>hl k hk),a8T L.length omo]
  have e2:∀ t,trun L ss (tget tm0) (fun k=>listed.getD k false) L.length t=tget tm t:=by
   intro t;rw [g2]
   rw [a1E (l':=L) (ss':=ss) (S':=fun k=>decide (k < dn.length)) L.length (fun _ _=>rfl) (fun k hk _=>⟨hl k hk,rfl⟩),b2a L.length omo]
   exact (a1E _ (fun k hk=>hdst k hk) (fun k hk _=>⟨rfl,rfl⟩)).symm
  rw [e1] at r'
  refine h a' w' ⟨E',e',r',fun g hg=>?_,hsz',hdf',fun t x hx=>ht' t x (by rw [e2];exact hx)⟩
  rcases hG' g hg with h | ⟨k,h1,h2,h3⟩
  ·show g < clk+dn.length;omega
  ·rw [hl k h1] at h2
   have:=of_decide_eq_true h2
   show g < clk+dn.length;omega
end
section
variable {C:Ctx} {P:Program} {ops:Array Oper} {Q:Exit→Act→World→Prop} {n clk:Nat} {tm:List (Nat×TV)} {hp:List (Nat×HObj)} {rest:List Oper} {ty:TypeId} {pos:String} {af:Array Edge}
theorem b1J {w:World} {E:Env} {m:Nat} {vcs:Array Value} {cs:List HV} {caps:Nat→HV} {vs:Nat→Value} (hn:vcs.size=m) (hv:∀ i,i < m→vcs[i]?=some (vs i)) (hr:∀ i,i < m→Rep w E (vs i) (caps i)) (hcs:cs.length=m) (hci:∀ i,i < m→cs[i]?=some (caps i)):RepAll w E vcs.toList cs:=by
  have:∀ (l:List Value) (k:List HV),l.length=k.length→(∀ i,i < l.length→∃ v x,l[i]?=some v∧k[i]?=some x∧Rep w E v x)→RepAll w E l k:=by
    intro l
    induction l with
    | nil=>intro k hl _;cases k with | nil=>trivial | cons _ _=>simp at hl
    | cons v l ih =>
      intro k hl h
      cases k with
      | nil=>simp at hl
      | cons x k =>
        obtain ⟨v',x',h1,h2,h3⟩:=h 0 sml
        simp at h1 h2
        subst h1;subst h2
        exact ⟨h3,ih k (by simpa using hl) (fun i hi=>by have:=h (i+1) (by simpa using hi);simpa using this)⟩
  refine this _ _ (by rw [Array.length_toList,hn,hcs]) (fun i hi=>?_)
  rw [Array.length_toList,hn] at hi
  exact ⟨vs i,caps i,by rw [Array.getElem?_toList];exact hv i hi,hci i hi,hr i hi⟩
theorem b1u {w:World} {E:Env} {k:List Value} {cs:List HV} (hk:RepAll w E k cs):∀ {l:List Value} {m:List HV},RepAll w E l m→RepAll w E (l++k) (m++cs)
 | [],[],_=>hk
 | _::_,_::_,h=>⟨h.1,b1u hk h.2⟩
 | [],_::_,h=>h.elim
 | _::_,[],h=>h.elim
theorem c3J {f:FuncId} {t m:Nat} {caps:Nat→HV} {args:List Operand} {at_:Array TypeId} {xs cs:List HV} {pre:List (Nat×HObj)} {Post:HEnd→List (Nat×HObj)→Nat→Prop} (d:Nat)
    (hc:a2y P f clk (xs++cs) pre Post) (h0:tget tm t=some (.v (.fn (.func f) m caps))) (hcs:cs.length=m) (hci:∀ i,i < m→cs[i]?=some (caps i)) (hx:a1L (a0F (tget tm)) args xs) (hpre:∀ p∈pre,hget hp p.1=some p.2) (hlt:Nat.blt d n=true) (hk:a0O tm d=true)
    (h:∀ r kp c',Post (.ret r) kp c'→HSeq C P ops rest ⟨n,(d,.v r)::tm,kp++hp,c'⟩ Q) (hpan:∀ x kp c',Post (.pan x) kp c'→b3b C Q ⟨n,tm,kp++hp,c'⟩ x) :
    HSeq C P ops (⟨some d,.call ⟨.value (.tmp t),args.toArray,at_⟩,ty,pos,af,none⟩::rest) ⟨n,tm,hp,clk⟩ Q:=by
  intro a w ⟨E,e0,r,hG,hsz,hdf,ht⟩
  have hlt:d < n:=by simpa [Nat.blt_eq] using hlt
  unfold a8R
  rw [if_pos (by simp [Region.wanted])]
  left
  have hrep:=a3Y ht hx
  have hfn:Rep w E (a.eval (.tmp t)) (.fn (.func f) m caps):=ht t _ h0
  unfold Oper.wp execOp
  generalize hρ:a.eval (.tmp t)=u at hfn
  cases hfn with
  | fn _ vcs _ _ vs hn hv hr =>
    have hcap:=b1J hn hv hr hcs hci
    have hargs:args.toArray.map a.eval++vcs=(args.map a.eval++vcs.toList).toArray:=by
      apply Array.ext'
      simp
    simp only [resolve,hρ,Deferred.ofValue,invoke,Sem.run_bind,Sem.run_pure,Result.andThen_ok,Array.empty_append]
    rw [a0C hc.1]
    simp only [Oper.upon]
    have hcalls:=hc.2 ⟨C.K,C.w0,C.E0.F,E,hget hp,w,pre⟩ (args.map a.eval++vcs.toList) ⟨r,fun id o ho=>hpre (id,o) (a1z ho)⟩ rfl (b1u hcap hrep) hG
    rw [←hargs] at hcalls
    refine Calls.mono hcalls ?_
    rintro e w' ⟨x,kp,c',E',hP,e',r',hG',_,hv⟩
    cases e with
    | returned v =>
      cases x with
      | pan x=>exact hv.elim
      | ret x =>
        refine h x kp c' hP _ w' ⟨E',e0.trans e',by simp only [a0I];exact r',hG',by simp [Act.put,hsz],hdf.ext e',fun t y hy=>?_⟩
        simp only [a0x] at hy
        split at hy
        · rename_i htd
          subst htd
          injection hy with hy
          subst hy
          rw [a0R (by rw [hsz];exact hlt)]
          exact hv
        · rename_i htd
          rw [a0w htd]
          have:=(ht t y hy).ext e'
          cases y with
          | v z=>exact this
          | un j b z =>
            have hne:=a2b hk t j b z hy
            simp only [TVRep,a0w hne] at this ⊢;exact this
    | panicked ch =>
      cases x with
      | ret x=>exact hv.elim
      | pan x =>
        obtain ⟨v,rfl,hv⟩:=hv
        exact hpan x kp c' hP a w' E' v (e0.trans e') (by simp only [a0I];exact r') hG' hsz (hdf.ext e') (fun t y hy=>(ht t y hy).ext e') hv
    | outgrown=>cases x <;> exact hv.elim
theorem b4b {α:Type} {I:α→Nat→Prop} {r:α→HV} {kpf:α→List (Nat×HObj)} {f:FuncId} {t m:Nat} {caps:Nat→HV} {args:List Operand} {at_:Array TypeId} {xs cs:List HV} {pre:List (Nat×HObj)} (d:Nat)
  (hc:a2y P f clk (xs++cs) pre (a4Q I r kpf)) (h0:tget tm t=some (.v (.fn (.func f) m caps))) (hcs:cs.length=m) (hci:∀ i,i < m→cs[i]?=some (caps i)) (hx:a1L (a0F (tget tm)) args xs) (hpre:∀ p∈pre,hget hp p.1=some p.2) (hlt:Nat.blt d n=true) (hk:a0O tm d=true)
  (h:∀ x c',I x c'→HSeq C P ops rest ⟨n,(d,.v (r x))::tm,kpf x++hp,c'⟩ Q) :
  HSeq C P ops (⟨some d,.call ⟨.value (.tmp t),args.toArray,at_⟩,ty,pos,af,none⟩::rest) ⟨n,tm,hp,clk⟩ Q :=
 c3J d hc h0 hcs hci hx hpre hlt hk (fun _ _ c' ⟨x,hI,he,hk⟩=>by injection he with he;subst he;subst hk;exact h x c' hI) (fun _ _ _ ⟨_,_,he,_⟩=>by cases he)
end
section
variable {P:Program} {ops:Array Oper} {ov:Nat→Option HV} {g:Nat} {d:Option Tmp} {ty:TypeId} {pos:String} {af:Array Edge} {gd:Option (Nat×Bool)} {T yT:TypeId} {x y:Operand}
theorem a5h {t:TypeId} {hv:HV} {xT:TypeId} (hT:(match P.underlying t with | some (.interface _)=>false | some _=>true | none=>false)=true) (h1:ovl ov x=some (.ifc t hv)):HOp P ⟨d,.typeAssert x xT t true,ty,pos,af,gd⟩ ov g [] (t2 hv (.imm (.bool true))) [] :=
  a0t fun w E ρ hr=>by
    have h:=hr x _ smo h1
    generalize hρ:ρ x=u at h
    cases h with
    | ifc _ v _ h =>
      refine ⟨.tuple #[v,.bool true],?_,.tup _ 2 _ (fun i=>match i with | 0=>v | _=>.bool true) rfl (fun i hi=>by match i,hi with | 0,_=>rfl | 1,_=>rfl) (fun i hi=>by match i,hi with | 0,_=>exact h | 1,_=>exact .imm _)⟩
      cases hu:P.underlying t with
      | none=>rw [hu] at hT;cases hT
      | some dd =>
        rw [hu] at hT
        simp only [execOp,hρ,Instr.typeAssert,Sem.run_bind,run_underlying hu,Result.andThen_ok]
        cases dd <;> first | (simp;done) | cases hT
theorem b2g {t:TypeId} {v:Value} {w:World} {ms:_} (hu:P.underlying T=some (.interface ms)):(Op.equal T (.iface t v) .nilIface).run P w=.ok false w:=by
 have:Op.equal T (.iface t v) .nilIface=Op.equalIn (Op.maxDepth - 1+1) T (.iface t v) .nilIface:=rfl
 rw [this]
 simp only [Op.equalIn,Sem.run_bind,run_underlying hu,Result.andThen_ok,Sem.run_pure]
theorem b2C {w:World} {ms:_} (hu:P.underlying T=some (.interface ms)):(Op.equal T .nilIface .nilIface).run P w=.ok true w:=by
 have:Op.equal T .nilIface .nilIface=Op.equalIn (Op.maxDepth - 1+1) T .nilIface .nilIface:=rfl
 rw [this]
 simp only [Op.equalIn,Sem.run_bind,run_underlying hu,Result.andThen_ok,Sem.run_pure]
theorem b0T {t:TypeId} {hv:HV} (hT:(match P.underlying T with | some (.interface _)=>true | _=>false)=true) (h1:ovl ov x=some (.ifc t hv)):HOp P ⟨d,.binOp .neq T x (.const .nilIface) yT,ty,pos,af,gd⟩ ov g [] (.imm (.bool true)) [] :=
  a0t fun w E ρ hr=>by
    have h:=hr x _ smo h1
    have e2:ρ (.const .nilIface)=.nilIface:=Rep.imm_inv (hr (.const .nilIface) _ smo rfl)
    generalize hρ:ρ x=u at h
    cases h with
    | ifc _ v _ h =>
      refine ⟨_,?_,.imm _⟩
      cases hu:P.underlying T with
      | none=>rw [hu] at hT;cases hT
      | some dd =>
        rw [hu] at hT
        cases dd <;> first | cases hT | skip
        simp [execOp,hρ,e2,eqGuard,binOp,b2g hu]
theorem b0L (hT:(match P.underlying T with | some (.interface _)=>true | _=>false)=true) (h1:ovl ov x=some (.imm .nilIface)):HOp P ⟨d,.binOp .neq T x (.const .nilIface) yT,ty,pos,af,gd⟩ ov g [] (.imm (.bool false)) [] :=
  a0t fun w E ρ hr=>by
    have e1:=Rep.imm_inv (hr x _ smo h1)
    have e2:ρ (.const .nilIface)=.nilIface:=Rep.imm_inv (hr (.const .nilIface) _ smo rfl)
    refine ⟨_,?_,.imm _⟩
    cases hu:P.underlying T with
    | none=>rw [hu] at hT;cases hT
    | some dd =>
      rw [hu] at hT
      cases dd <;> first | cases hT | skip
      simp [execOp,e1,e2,eqGuard,binOp,b2C hu]
end
def a8P (g:Nat) (s:ByteArray) (p:Nat):HObj:=⟨g,0,1,0,1,fun _ _=>.imm (.tuple #[.string s,.int .i64 (p:Int)])⟩
theorem b9L {o:HObj} {ob:Obj} {g:Nat} {s:ByteArray} {p:Nat} (h:RawIs o ob) (ho:o=a8P g s p):ob=.stringIter s p:=by
  cases h with
  | iter g' ty' s' p' =>
    unfold a8P at ho
    injection ho with _ _ _ _ _ hf
    have h0:=congrFun (congrFun hf 0) 0
    injection h0 with h0
    injection h0 with h0
    have h1:(.string s':Value)=.string s:=by have:=congrArg (fun a=>a[0]?) h0;simpa using this
    have h2:(.int .i64 (p':Int):Value)=.int .i64 (p:Int):=by have:=congrArg (fun a=>a[1]?) h0;simpa using this
    injection h1 with h1
    injection h2 with _ h2
    have:p'=p:=by omega
    subst h1;subst this;rfl
  | map g' ty' es' c' _ _ =>
    unfold a8P at ho
    injection ho with _ _ hs
    cases hs
section
variable {K:Nat→Prop} {w0 w w':World} {F0:Addr→Prop} {E E':Env} {h h':Nat→Option HObj}
theorem R.newRaw (r:R K w0 F0 E h w) (id:Nat) (o:HObj) (ob:Obj) (hraw:RawIs o ob) (hg:¬ E.G o.g) (hsz:0 < o.sz) :
  Ext w E (w.alloc ob) (E.new id o.g w.heap.size 0 o.sz)∧R K w0 F0 (E.new id o.g w.heap.size 0 o.sz) (a2I h id o) (w.alloc ob):=by
 have hb:Below w.heap.size w (w.alloc ob):=(Below.refl _ _).alloc lrf _
 have e:Ext w E (w.alloc ob) (E.new id o.g w.heap.size 0 o.sz):=Ext.new w E id o.g _ 0 o.sz hg _ hb.size (fun a ha=>((r.extBelow hb).F a ha).2)
 refine ⟨e,hb.os.trans r.os,hb.tape.trans r.tape,hb.output.trans r.output,Nat.le_trans r.size hb.size,fun k hk hK=>(hb.block k (Nat.lt_of_lt_of_le hk r.size)).trans (r.keep k hk hK),
  fun a ha=>⟨(r.frz a ha).1,by rw [(e.F a ha).2];exact (r.frz a ha).2⟩,r.fnew,r.klib,r.lib,fun b hm=>(hb.block b (a0Z (r.bks b hm))).trans (r.bks b hm),fun k o1 ho=>?_,fun k k' o1 o2 l l' b ho ho' hl hl' hb1 hb2=>?_⟩
 ·by_cases hk:k=id
  ·subst hk
   rw [a0v] at ho
   injection ho with ho
   subst ho
   refine ⟨_,Env.new_L _ _ _ _ _ _,rfl,.inr rfl,rfl,hsz,.inr (.inr ⟨w.heap.size,ob,rfl,by show (w.heap.push ob)[w.heap.size]?=_;simp,hraw,fun hlt=>absurd hlt (by have:=r.size;omega)⟩)⟩
  ·rw [a0s _ _ hk] at ho
   obtain ⟨l,hl,a⟩:=r.obj k o1 ho
   exact ⟨l,by rw [Env.new_Lne E hk];exact hl,a.ext e (fun b hb'=>hb.block b (a.lt hb')) (fun _ _ _ hF=>hF)⟩
 ·have old:∀ k o1 l,k≠id→a2I h id o k=some o1→(E.new id o.g w.heap.size 0 o.sz).L k=some l→h k=some o1∧E.L k=some l∧∀ b,l.A=some b→b < w.heap.size:=by
   intro k o1 l hk ho hl
   rw [a0s _ _ hk] at ho
   rw [Env.new_Lne E hk] at hl
   obtain ⟨l',hl',a⟩:=r.obj k o1 ho
   rw [hl] at hl'
   injection hl' with hl'
   subst hl'
   exact ⟨ho,hl,fun b hb'=>a.lt hb'⟩
  by_cases hk:k=id <;> by_cases hk':k'=id
  ·rw [hk,hk']
  ·subst hk
   rw [Env.new_L] at hl
   injection hl with hl
   subst hl
   have:=(old k' o2 l' hk' ho' hl').2.2 b hb2
   injection hb1 with hb1
   omega
  ·subst hk'
   rw [Env.new_L] at hl'
   injection hl' with hl'
   subst hl'
   have:=(old k o1 l hk ho hl).2.2 b hb1
   injection hb2 with hb2
   omega
  ·have a1:=old k o1 l hk ho hl
   have a2:=old k' o2 l' hk' ho' hl'
   exact r.inj k k' o1 o2 l l' b a1.1 a2.1 a1.2.1 a2.2.1 hb1 hb2
theorem R.rawAt (r:R K w0 F0 E h w) {id g:Nat} {s:ByteArray} {p:Nat} (ho:h id=some (a8P g s p)):∃ l b,E.L id=some l∧l.g=g∧l.sz=1∧l.A=some b∧w.heap[b]?=some (.stringIter s p):=by
 obtain ⟨l,hl,a⟩:=r.obj id _ ho
 rcases a.at_ with ⟨h0,h1,h2,h3⟩ | ⟨b,cs,h1,h2,h3,h4,h5,h6,h8,h9⟩ | ⟨b,ob,h1,h2,h3,h4⟩
 ·exact absurd h3 (by show ¬ (1≤0);omega)
 ·exact absurd h9.2 (by show ¬ (1≤0);omega)
 ·exact ⟨l,b,hl,a.g,a.sz,h1,by rw [b9L h3 rfl] at h2;exact h2⟩
end
theorem R.setRaw {K:Nat→Prop} {w0 w:World} {F0:Addr→Prop} {E:Env} {h:Nat→Option HObj} (r:R K w0 F0 E h w) {id g:Nat} {s:ByteArray} {p p':Nat} {l:Loc} {b:Nat} (ho:h id=some (a8P g s p)) (hl:E.L id=some l) (hb:l.A=some b) (hw:w.heap[b]?=some (.stringIter s p)) :
  Ext w E { w with heap:=w.heap.setIfInBounds b (.stringIter s p') } E∧R K w0 F0 E (a2I h id (a8P g s p')) { w with heap:=w.heap.setIfInBounds b (.stringIter s p') }:=by
 obtain ⟨l',hl',a⟩:=r.obj id _ ho
 rw [hl] at hl';injection hl' with hl';subst hl'
 have hlt:=a.lt hb
 refine r.write id _ _ l b ho hl hb rfl rfl rfl sml (fun k hk=>?_) (fun k hk=>?_) (fun e=>⟨a.g,a.G,a.sz,a.pos,.inr (.inr ⟨b,_,hb,?_,.iter ..,a.notK hb⟩)⟩)
 ·show (w.heap.setIfInBounds b _)[k]?=_
  rw [Array.getElem?_setIfInBounds_ne (Ne.symm hk)]
 ·have:=(r.frz _ hk).2
  simp [World.cell?,hw] at this
 ·show (w.heap.setIfInBounds b _)[b]?=_
  rw [Array.getElem?_setIfInBounds_self_of_lt hlt]
section
variable {P:Program} {ops:Array Oper} {ov:Nat→Option HV} {g:Nat} {d:Option Tmp} {ty:TypeId} {pos:String} {af:Array Edge} {gd:Option (Nat×Bool)} {T yT:TypeId} {x y:Operand}
theorem b6c {id:Nat} {s:ByteArray} (hT:P.underlying T=some .string) (h1:ovl ov x=some (.imm (.string s))):HOp P ⟨d,.range T x,ty,pos,af,gd⟩ ov g [] (.pt id g 0 0) [(id,a8P g s 0)]:=by
 refine ⟨?_⟩;intro K w0 F0 E hh a w Q N r ht hG hBd hpre hN
 have e1:=Rep.imm_inv (ht x _ smo h1)
 have hnew:=r.newRaw id (a8P g s 0) (.stringIter s 0) (.iter ..) hG (by show 0 < 1;omega)
 refine a4q (v:=.pointer (some ⟨w.heap.size,0,none⟩)) (w':=w.alloc (.stringIter s 0)) ?_ (hN _ _ _ hnew.1 hnew.2 (fun g' hg'=>hg'.imp (fun h=>h) fun h=>⟨by simp,h⟩) ?_)
 ·simp only [execOp,e1,Sem.run_bind,run_range_string w T s hT,Result.andThen_ok,Sem.run_pure];rfl
 ·refine .pt w.heap.size 0 id g 0 0 (.inr rfl) (fun l hl _=>?_)
  rw [Env.new_L] at hl;injection hl with hl;subst hl
  exact ⟨rfl,rfl⟩
theorem b4R (w:World) (b:Nat) (s:ByteArray) (p:Nat) (ty:TypeId) (hw:w.heap[b]?=some (.stringIter s p)) (h:p < s.size) (ha:(s[p]'h).toNat < 128) :
  (Instr.next (.pointer (some ⟨b,0,none⟩)) true ty).run P w=.ok (.tuple #[.bool true,.int .i64 (p:Int),.int .i32 ((s[p]'h).toNat:Int)]) { w with heap:=w.heap.setIfInBounds b (.stringIter s (p+1)) }:=by
 simp only [Instr.next,getObj,setObj,Sem.run_bind,Sem.run,hw,Result.andThen,h,if_true,decode_ascii s p h ha]
 simp [goInt,Sem.run,hw]
theorem b1S (w:World) (b:Nat) (s:ByteArray) (p:Nat) (ty:TypeId) (hw:w.heap[b]?=some (.stringIter s p)) (h:¬ p < s.size) :
  (Instr.next (.pointer (some ⟨b,0,none⟩)) true ty).run P w=.ok (.tuple #[.bool false]) w:=by
 simp [Instr.next,getObj,Sem.run,hw,h]
theorem b8O {id gg p:Nat} {s:ByteArray} {c:Int} (h1:ovl ov x=some (.pt id gg 0 0)) (h:p < s.size) (ha:(s[p]'h).toNat < 128) (hc:((s[p]'h).toNat:Int)=c):HOp P ⟨d,.next x true,ty,pos,af,gd⟩ ov g [(id,a8P gg s p)] (t3 (.imm (.bool true)) (.imm (.int .i64 (p:Int))) (.imm (.int .i32 c))) [(id,a8P gg s (p+1))]:=by
  subst hc
  refine ⟨?_⟩;intro K w0 F0 E hh a w Q N r ht hG hBd hpre hN
  have ho:=hpre _ (List.mem_cons_self ..)
  obtain ⟨l,b,hl,hlg,hlsz,hlA,hwb⟩:=r.rawAt ho
  have hX:=ht x _ smo h1
  generalize hρ:a.eval x=u at hX
  cases hX with
  | pt b' k _ _ _ _ hgg hh' =>
    obtain ⟨h2,rfl⟩:=hh' l hl hlg
    rw [hlA] at h2;injection h2 with h2;subst h2
    rw [show 0 * l.sz+0=0 from by simp] at hρ
    have a2I:=r.setRaw (p':=p+1) ho hl hlA hwb
    refine a4q (v:=.tuple #[.bool true,.int .i64 (p:Int),.int .i32 ((s[p]'h).toNat:Int)]) ?_ (hN _ _ _ a2I.1 a2I.2 (fun g' hg'=>.inl hg') ?_)
    · simp only [execOp,hρ,Sem.run_bind,b4R w b s p ty hwb h ha,Result.andThen_ok,Sem.run_pure]
    · exact .tup _ 3 _ (fun i=>match i with | 0=>.bool true | 1=>.int .i64 (p:Int) | _=>.int .i32 ((s[p]'h).toNat:Int)) rfl (fun i hi=>by match i,hi with | 0,_=>rfl | 1,_=>rfl | 2,_=>rfl) (fun i hi=>by match i,hi with | 0,_=>exact .imm _ | 1,_=>exact .imm _ | 2,_=>exact .imm _)
theorem b4A {id gg p:Nat} {s:ByteArray} (h1:ovl ov x=some (.pt id gg 0 0)) (h:¬ p < s.size):HOp P ⟨d,.next x true,ty,pos,af,gd⟩ ov g [(id,a8P gg s p)] (.tup 1 (fun _=>.imm (.bool false))) []:=by
  refine ⟨?_⟩;intro K w0 F0 E hh a w Q N r ht hG hBd hpre hN
  have ho:=hpre _ (List.mem_cons_self ..)
  obtain ⟨l,b,hl,hlg,hlsz,hlA,hwb⟩:=r.rawAt ho
  have hX:=ht x _ smo h1
  generalize hρ:a.eval x=u at hX
  cases hX with
  | pt b' k _ _ _ _ hgg hh' =>
    obtain ⟨h2,rfl⟩:=hh' l hl hlg
    rw [hlA] at h2;injection h2 with h2;subst h2
    rw [show 0 * l.sz+0=0 from by simp] at hρ
    refine a4q (v:=.tuple #[.bool false]) ?_ (hN _ _ _ (Ext.refl _ _) r (fun g' hg'=>.inl hg') ?_)
    · simp only [execOp,hρ,Sem.run_bind,b1S w b s p ty hwb h,Result.andThen_ok,Sem.run_pure]
    · exact .tup _ 1 _ (fun _=>.bool false) rfl (fun i hi=>by match i,hi with | 0,_=>rfl) (fun i hi=>.imm _)
theorem a8J {o:Oper} {tm:Nat→Option TV} {pre:List (Nat×HObj)} {v:HV} (gi j j2:Nat) (b2 b c c2:Bool) (hg:o.guard=some (gi,b)) (hgi:(ops[gi]?).bind (·.dst)=some j)
  (hc:tm j=some (.un j2 b2 (.imm (.bool c)))) (hc2:tm j2=some (.v (.imm (.bool c2)))) (h:c=b→c2=b2→HOp P o (a1T tm j b) g pre v []):HStep P ops o tm g ⟨.un j b v,j::j2::a0A o,pre,[]⟩:=by
 intro K w0 F0 E hh a w Q N r ht hG hBd hp hN
 have hwant:Region.wanted o (yielded ops a.tmps)=true↔a.tmps.getD j undef=.bool b:=by
  unfold Region.wanted yielded
  rw [hg]
  simp only [hgi,Option.bind_some]
  by_cases hj:j < a.tmps.size
  ·have e1:a.tmps[j]?=some a.tmps[j]:=Array.getElem?_eq_getElem hj
   have e2:a.tmps.getD j undef=a.tmps[j]:=by simp [hj]
   rw [e1,e2]
   cases h:a.tmps[j] <;> simp
  ·have e1:a.tmps[j]?=none:=Array.getElem?_eq_none omo
   have e2:a.tmps.getD j undef=undef:=by simp [hj]
   rw [e1,e2]
   try simp [undef]
 by_cases hj:a.tmps.getD j undef=.bool b
 ·rw [if_pos (hwant.2 hj)]
  have h2:=ht j _ (List.mem_cons_self ..) hc
  have h4:=Rep.imm_inv (ht j2 _ (List.mem_cons_of_mem _ (List.mem_cons_self ..)) hc2)
  have h3:a.tmps.getD j2 undef=.bool b2:=by
   refine Classical.byContradiction fun hne=>?_
   have:=h2.2 hne
   rw [hj] at this
   exact absurd this (by simp [undef])
  have hcb:c=b:=by
   have:=Rep.imm_inv (h2.1 h3)
   rw [hj] at this;injection this with this;exact this.symm
  have hcb2:c2=b2:=by rw [h3] at h4;injection h4 with h4;exact h4.symm
  refine (h hcb hcb2).h K w0 F0 E hh a w Q N r (fun x hv hx ho=>?_) hG hBd hp (fun val w' E' e r' hG' hv=>hN val w' E' e r' hG' ⟨fun _=>hv,fun hne=>absurd hj hne⟩)
  cases x with
  | tmp t=>exact a5i hj (fun y hy=>ht j y (List.mem_cons_self ..) hy) (fun y hy=>ht t y (List.mem_cons_of_mem _ (List.mem_cons_of_mem _ (a6r hx))) hy) ho
  | const v=>exact a5m w E _ v _ ho
  | global k=>injection ho with ho;subst ho;exact .imm _
  | func f=>injection ho with ho;subst ho;exact .fn (.func f) #[] 0 _ (fun _=>undef) rfl (fun i hi=>absurd hi (Nat.not_lt_zero _)) (fun i hi=>absurd hi (Nat.not_lt_zero _))
 ·rw [if_neg (fun h=>hj (hwant.1 h))]
  exact hN undef w E (Ext.refl _ _) r (fun _ h=>.inl h) ⟨fun h=>absurd h hj,fun _=>rfl⟩
theorem a5o {tm:Nat→Option TV} {gi j j1:Nat} {b:Bool} (c:Bool) (hx hy v:HV) (hgi:(ops[gi]?).bind (·.dst)=some j) (h0:tm j1=some (.un j b (.imm (.bool c)))) (h1:ovl (a1T tm j1 true) x=some hx) (h2:ovl (a1T tm j1 false) y=some hy) (hv1:c=true→Sb hx v) (hv2:c=false→Sb hy v) :
    HStep P ops ⟨d,.pick (.tmp j1) x y,ty,pos,af,some (gi,b)⟩ tm g ⟨.un j b v,j::j1::a0A ⟨d,.pick (.tmp j1) x y,ty,pos,af,some (gi,b)⟩,[],[]⟩:=by
  intro K w0 F0 E hh a w Q N r ht hG hBd hp hN
  have hwant:Region.wanted ⟨d,.pick (.tmp j1) x y,ty,pos,af,some (gi,b)⟩ (yielded ops a.tmps)=true↔a.tmps.getD j undef=.bool b:=by
    unfold Region.wanted yielded
    simp only [hgi,Option.bind_some]
    by_cases hj:j < a.tmps.size
    · have e1:a.tmps[j]?=some a.tmps[j]:=Array.getElem?_eq_getElem hj
      have e2:a.tmps.getD j undef=a.tmps[j]:=by simp [hj]
      rw [e1,e2]
      cases h:a.tmps[j] <;> simp
    · have e1:a.tmps[j]?=none:=Array.getElem?_eq_none omo
      have e2:a.tmps.getD j undef=undef:=by simp [hj]
      rw [e1,e2]
      try simp [undef]
  by_cases hj:a.tmps.getD j undef=.bool b
  · rw [if_pos (hwant.2 hj)]
    have hj1:a.eval (.tmp j1)=.bool c:=Rep.imm_inv ((ht j1 _ (List.mem_cons_of_mem _ (List.mem_cons_self ..)) h0).1 hj)
    have look:∀ (b':Bool) (z:Operand) (h:HV),c=b'→z∈(Op.pick (.tmp j1) x y).operands.toList→ovl (a1T tm j1 b') z=some h→Rep w E (a.eval z) h:=by
      intro b' z h hb hz ho
      subst hb
      cases z with
      | tmp t=>exact a5i hj1 (fun y hy=>ht j1 y (List.mem_cons_of_mem _ (List.mem_cons_self ..)) hy) (fun y hy=>ht t y (List.mem_cons_of_mem _ (List.mem_cons_of_mem _ (a6r hz))) hy) ho
      | const v=>exact a5m w E _ v _ ho
      | global k=>injection ho with ho;subst ho;exact .imm _
      | func f=>injection ho with ho;subst ho;exact .fn (.func f) #[] 0 _ (fun _=>undef) rfl (fun i hi=>absurd hi (Nat.not_lt_zero _)) (fun i hi=>absurd hi (Nat.not_lt_zero _))
    refine a4q (v:=if c=true then a.eval x else a.eval y) (w':=w) ?_ (hN _ w E (Ext.refl _ _) r (fun _ h=>.inl h) ⟨fun _=>?_,fun hne=>absurd hj hne⟩)
    · cases c <;> simp [execOp,hj1,asBool]
    · cases c with
      | true=>exact (hv1 rfl).sound (look true x hx rfl smo h1)
      | false=>exact (hv2 rfl).sound (look false y hy rfl smo h2)
  · rw [if_neg (fun h=>hj (hwant.1 h))]
    exact hN undef w E (Ext.refl _ _) r (fun _ h=>.inl h) ⟨fun h=>absurd h hj,fun _=>rfl⟩
theorem b4p {tm:Nat→Option TV} {gi j j1:Nat} {b:Bool} (c e:Bool) (hgi:(ops[gi]?).bind (·.dst)=some j) (h0:tm j1=some (.un j b (.imm (.bool c)))) (h1:ovl (a1T tm j1 true) x=some (.imm (.bool true))) (h2:ovl (a1T tm j1 false) y=some (.imm (.bool e))) :
  HStep P ops ⟨d,.pick (.tmp j1) x y,ty,pos,af,some (gi,b)⟩ tm g ⟨.un j b (.imm (.bool (c||e))),j::j1::a0A ⟨d,.pick (.tmp j1) x y,ty,pos,af,some (gi,b)⟩,[],[]⟩ :=
 a5o c _ _ _ hgi h0 h1 h2 (fun h=>by subst h;exact .refl _) (fun h=>by subst h;exact .refl _)
theorem b1k {tm:Nat→Option TV} {gi j j1:Nat} {b:Bool} (c e:Bool) (hgi:(ops[gi]?).bind (·.dst)=some j) (h0:tm j1=some (.un j b (.imm (.bool c)))) (h1:ovl (a1T tm j1 true) x=some (.imm (.bool e))) (h2:ovl (a1T tm j1 false) y=some (.imm (.bool false))) :
  HStep P ops ⟨d,.pick (.tmp j1) x y,ty,pos,af,some (gi,b)⟩ tm g ⟨.un j b (.imm (.bool (c&&e))),j::j1::a0A ⟨d,.pick (.tmp j1) x y,ty,pos,af,some (gi,b)⟩,[],[]⟩ :=
 a5o c _ _ _ hgi h0 h1 h2 (fun h=>by subst h;exact .refl _) (fun h=>by subst h;exact .refl _)
end
section
variable {C:Ctx} {P:Program} {ops:Array Oper} {Q:Exit→Act→World→Prop} {n clk:Nat} {tm:List (Nat×TV)} {hp:List (Nat×HObj)} {o:Oper} {rest:List Oper} {v:HV}
theorem a5y {pre:List (Nat×HObj)} (d gi j j2:Nat) (b2 b c c2:Bool) (hop:c=b→c2=b2→HOp P o (a1T (tget tm) j b) clk pre v []) (hd:o.dst=some d) (hg:o.guard=some (gi,b)) (hgi:(ops[gi]?).bind (·.dst)=some j) (hc:tget tm j=some (.un j2 b2 (.imm (.bool c)))) (hc2:tget tm j2=some (.v (.imm (.bool c2)))) (hpre:∀ p∈pre,hget hp p.1=some p.2) (hlt:Nat.blt d n=true) (hk:a0O tm d=true) (hjd:Nat.beq j d=false)
  (h:HSeq C P ops rest ⟨n,(d,.un j b v)::tm,hp,clk⟩ Q):HSeq C P ops (o::rest) ⟨n,tm,hp,clk⟩ Q :=
 a2W (s:=⟨n,tm,hp,clk⟩) d _ hd rfl (a8J gi j j2 b2 b c c2 hg hgi hc hc2 hop) hpre hlt hk h (fun j' b' x h=>by injection h with h1 h2 h3;subst h1;rw [←Bool.not_eq_true,Nat.beq_eq] at hjd;exact hjd)
theorem d2H (d:Nat) {need:List Nat} {j:Nat} {b:Bool} (hst:HStep P ops o (tget tm) clk ⟨.un j b v,need,[],[]⟩) (hd:o.dst=some d) (hlt:Nat.blt d n=true) (hk:a0O tm d=true) (hjd:Nat.beq j d=false) (h:HSeq C P ops rest ⟨n,(d,.un j b v)::tm,hp,clk⟩ Q):HSeq C P ops (o::rest) ⟨n,tm,hp,clk⟩ Q :=
 a2W (s:=⟨n,tm,hp,clk⟩) d _ hd rfl hst pre0 hlt hk h (fun j' b' x h=>by injection h with h1 h2 h3;subst h1;rw [←Bool.not_eq_true,Nat.beq_eq] at hjd;exact hjd)
end
section
variable {K:Nat→Prop} {w0 w:World} {F0:Addr→Prop} {E:Env} {h:Nat→Option HObj}
theorem R.tell (r:R K w0 F0 E h w) (id:Nat) {g n sz:Nat} {ty:TypeId} {fl:Nat} {f f':Nat→Nat→HV} (ho:h id=some ⟨g,n,sz,ty,fl,f⟩)
    (hc:∀ l b cs,E.L id=some l→l.A=some b→Blk w b ty cs→∀ i j u,i < n→j < sz→cs[i * sz+j]?=some u→Rep w E u (f i j)→Rep w E u (f' i j)) (hfn:fl≤n:=by first | exact Nat.zero_le _ | exact Nat.le_refl _ | omega):R K w0 F0 E (a2I h id ⟨g,n,sz,ty,fl,f'⟩) w :=
  { r with
    obj:=fun k o hk=>by
      by_cases e:k=id
      · subst e
        rw [a0v] at hk;injection hk with hk;subst hk
        obtain ⟨l,hl,a⟩:=r.obj k _ ho
        refine ⟨l,hl,a.g,a.G,a.sz,a.pos,?_⟩
        rcases a.at_ with h0 | ⟨b,cs,g1,g2,g3,g4,g5,g6,⟨vs,g8⟩,g9⟩ | ⟨_,_,_,_,h3,_⟩
        rotate_right
        · have h7:=h3.n;have h8:=h3.fl;simp only at h7 h8;omega
        · exact .inl h0
        · exact .inr (.inl ⟨b,cs,g1,g2,g3,g4,g5,g6,⟨vs,fun i j hi hj=>⟨(g8 i j hi hj).1,(g8 i j hi hj).2.1,hc l b cs hl g1 g2 i j _ hi hj (g8 i j hi hj).1 (g8 i j hi hj).2.2⟩⟩,g9⟩)
      · rw [a0s _ _ e] at hk
        exact r.obj k o hk
    inj:=fun k k' o o' l l' b hk hk' hl hl' hb hb'=>by
      have old:∀ k o,a2I h id ⟨g,n,sz,ty,fl,f'⟩ k=some o→∃ o,h k=some o:=by
        intro k o hk
        by_cases e:k=id
        · subst e;exact ⟨_,ho⟩
        · rw [a0s _ _ e] at hk;exact ⟨o,hk⟩
      obtain ⟨p,hp⟩:=old k o hk
      obtain ⟨q,hq⟩:=old k' o' hk'
      exact r.inj k k' p q l l' b hp hq hl hl' hb hb' }
end
theorem a1N {C:Ctx} {n clk:Nat} {tm:List (Nat×TV)} {hp:List (Nat×HObj)} (id0 j0 id sz:Nat) (ty:TypeId) (f:Nat→Nat→HV) {g0 m0:Nat} {ty0:TypeId} {f0:Nat→Nat→HV} (f':Nat→Nat→HV) (ho:hget hp id0=some ⟨g0,1,m0,ty0,0,f0⟩) (hf0:f0 0 j0=.imm (.slice none 0 0)) (hf':∀ j,j < m0→(j=j0∧f' 0 j=.os id clk 0 0)∨f' 0 j=f0 0 j) (hid:id0≠id) (hsz:0 < sz) {c':Nat} (hc:clk+1=c') :
  a4D C ⟨n,tm,hp,clk⟩ ⟨n,tm,(id0,⟨g0,1,m0,ty0,0,f'⟩)::(id,⟨clk,0,sz,ty,0,f⟩)::hp,c'⟩:=by
 subst hc
 intro a w ⟨E,e0,r,hG,hsz',hdf,htm⟩
 have hg:¬ E.G clk:=fun h=>absurd (hG _ h) (Nat.lt_irrefl _)
 obtain ⟨e,r'⟩:=r.newNil id clk sz ty f hg hsz
 have r2:=r'.tell id0 (g:=g0) (n:=1) (sz:=m0) (ty:=ty0) (fl:=0) (f':=f') (by rw [a0s _ _ hid];exact ho) (fun l b cs hl hA hB i j u hi hj hu hr=>by
  obtain rfl:i=0:=by omega
  rcases hf' j hj with ⟨rfl,h2⟩ | h2
  ·rw [h2]
   rw [hf0] at hr
   rw [hr.imm_inv]
   refine .os none 0 0 id clk 0 (.inr rfl) lrf (Nat.zero_le _) (fun h=>absurd h (Nat.lt_irrefl _)) (fun l hl _=>?_)
   rw [Env.place_L] at hl;injection hl with hl;subst hl
   exact ⟨rfl,fun _=>rfl⟩
  ·rw [h2];exact hr)
 refine ⟨_,e0.trans e,by simp only [a0o];exact r2,fun g hg=>?_,hsz',hdf.ext e,fun t x hx=>(htm t x hx).ext e⟩
 rcases hg with hg | hg
 ·exact Nat.lt_succ_of_lt (hG g hg)
 ·rw [hg];exact Nat.lt_succ_self _
theorem a7K {C:Ctx} {P:Program} {Q:Exit→Act→World→Prop} {s:HSt} {α:Type} {x y:Code} (st:α→Nat→HSt) (I:α→Prop)
  (first:∀ N:Act→World→Prop,(∀ z c' s',I z→a4D C s' (st z c')→HQ C (Exit.then N Q) .normal s')→HWp C P x s (Exit.then N Q)) (rest:∀ z c,I z→HWp C P y (st z c) Q):HWp C P (.seq x y) s Q :=
 c9X fun N hN=>first N fun z c' s' hI hs a w ha=>hN (st z c') (rest z c' hI) a w (hs a w ha)
section
variable {P:Program} {n clk:Nat} {tm0:List (Nat×TV)} {hp0:List (Nat×HObj)} {ss:List HSpec} {Fin:Prop} {o:Oper} {rest dn:List Oper} {k:Nat} {tm:List (Nat×TV)} {hp:List (Nat×HObj)} {L:List Oper} {pre post:List (Nat×HObj)} {v:HV}
theorem c9g (d:Nat) {need:List Nat} {j:Nat} {b:Bool} (hst:HStep P L.toArray o (tget tm) (clk+k) ⟨.un j b v,need,[],[]⟩) (hd:o.dst=some d) (hlt:Nat.blt d n=true)
  {k':Nat} (hk':k+1=k') (h:HDr P n clk tm0 hp0 L (dn++[o]) (ss++[⟨.un j b v,need,[],[]⟩]) rest k' ((d,.un j b v)::tm) hp Fin):HDr P n clk tm0 hp0 L dn ss (o::rest) k tm hp Fin:=by subst hk';exact a7X ⟨.un j b v,need,[],[]⟩ d hd hst pre0 hlt h
end
section
variable {C:Ctx} {P:Program} {ops:Array Oper} {Q:Exit→Act→World→Prop} {n clk:Nat} {tm:List (Nat×TV)} {hp:List (Nat×HObj)} {rest:List Oper} {v:HV} {d:Nat} {op:Op} {ty T:TypeId} {pos:String} {af:Array Edge} {x y:Operand}
theorem s0 (hop:HOp P ⟨some d,op,ty,pos,af,none⟩ (a0F (tget tm)) clk [] v []) (h:HSeq C P ops rest ⟨n,(d,.v v)::tm,hp,clk⟩ Q) (hlt:Nat.blt d n=true:=by rfl) (hk:a0O tm d=true:=by rfl):HSeq C P ops (⟨some d,op,ty,pos,af,none⟩::rest) ⟨n,tm,hp,clk⟩ Q:=st0 hop hlt hk h
theorem s1 {id:Nat} {ob:HObj} (hop:HOp P ⟨some d,op,ty,pos,af,none⟩ (a0F (tget tm)) clk [(id,ob)] v []) (h:HSeq C P ops rest ⟨n,(d,.v v)::tm,hp,clk⟩ Q) (hid:hget hp id=some ob:=by rfl) (hlt:Nat.blt d n=true:=by rfl) (hk:a0O tm d=true:=by rfl):HSeq C P ops (⟨some d,op,ty,pos,af,none⟩::rest) ⟨n,tm,hp,clk⟩ Q:=st1 hop hid hlt hk h
theorem sf {id gg i off k fo:Nat} (hT:fdOf P T k=some fo) (h:HSeq C P ops rest ⟨n,(d,.v (.pt id gg i (off+fo)))::tm,hp,clk⟩ Q) (h1:ovl (a0F (tget tm)) x=some (.pt id gg i off):=by rfl) (hlt:Nat.blt d n=true:=by rfl) (hk:a0O tm d=true:=by rfl):HSeq C P ops (⟨some d,.fieldAddr T x k,ty,pos,af,none⟩::rest) ⟨n,tm,hp,clk⟩ Q:=st0 (b7N hT h1) hlt hk h
theorem sl {id gg i off s m sz fl:Nat} {b:Bool} {oty:TypeId} {f:Nat→Nat→HV} (hT:tyOf P T=some (b,s)) (h:HSeq C P ops rest ⟨n,(d,.v (ldv b s (f i) off))::tm,hp,clk⟩ Q) (h1:ovl (a0F (tget tm)) x=some (.pt id gg i off):=by rfl) (hid:hget hp id=some ⟨gg,m,sz,oty,fl,f⟩:=by rfl) (hi:Nat.ble (i+1) m=true:=by rfl) (hoff:Nat.ble (off+s) sz=true:=by rfl) (hs:(b||Nat.beq s 1)=true:=by rfl) (hlt:Nat.blt d n=true:=by rfl) (hk:a0O tm d=true:=by rfl):HSeq C P ops (⟨some d,.load T x,ty,pos,af,none⟩::rest) ⟨n,tm,hp,clk⟩ Q :=
 st1 (a0r hT h1 (nb hi) (nb hoff) (fun e=>by subst e;simpa using hs)) hid hlt hk h
theorem g0 {gi:Nat} {b:Bool} (j:Nat) {c:Bool} (hop:c=b→HOp P ⟨some d,op,ty,pos,af,some (gi,b)⟩ (a1T (tget tm) j b) clk [] v []) (h:HSeq C P ops rest ⟨n,(d,.un j b v)::tm,hp,clk⟩ Q) (hgi:(ops[gi]?).bind (·.dst)=some j:=by rfl) (hc:tget tm j=some (.v (.imm (.bool c))):=by rfl) (hlt:Nat.blt d n=true:=by rfl) (hk:a0O tm d=true:=by rfl) (hjd:Nat.beq j d=false:=by rfl):HSeq C P ops (⟨some d,op,ty,pos,af,some (gi,b)⟩::rest) ⟨n,tm,hp,clk⟩ Q:=stg j hop hgi hc hlt hk hjd h
theorem gm {gi:Nat} {b:Bool} (j:Nat) {c:Bool} (h:HSeq C P ops rest ⟨n,(d,.un j b v)::tm,hp,clk⟩ Q) (hx:ovl (a1T (tget tm) j b) x=some v:=by rfl) (hgi:(ops[gi]?).bind (·.dst)=some j:=by rfl) (hc:tget tm j=some (.v (.imm (.bool c))):=by rfl) (hlt:Nat.blt d n=true:=by rfl) (hk:a0O tm d=true:=by rfl) (hjd:Nat.beq j d=false:=by rfl):HSeq C P ops (⟨some d,.move x,ty,pos,af,some (gi,b)⟩::rest) ⟨n,tm,hp,clk⟩ Q:=stg j (fun _=>a1p hx) hgi hc hlt hk hjd h
end
section
variable {P:Program} {n clk:Nat} {tm0:List (Nat×TV)} {hp0:List (Nat×HObj)} {ss:List HSpec} {Fin:Prop} {o:Oper} {rest dn:List Oper} {k:Nat} {tm:List (Nat×TV)} {hp:List (Nat×HObj)} {L:List Oper} {pre post:List (Nat×HObj)} {v:HV} {d:Nat} {op:Op} {ty T:TypeId} {pos:String} {af:Array Edge} {x y:Operand}
theorem d0 (k':Nat) (hop:HOp P ⟨some d,op,ty,pos,af,none⟩ (a0F (tget tm)) (clk+k) [] v []) (h:HDr P n clk tm0 hp0 L (dn++[⟨some d,op,ty,pos,af,none⟩]) (ss++[⟨.v v,a0A ⟨some d,op,ty,pos,af,none⟩,[],[]⟩]) rest k' ((d,.v v)::tm) hp Fin) (hlt:Nat.blt d n=true:=by rfl) (hk':k+1=k':=by rfl):HDr P n clk tm0 hp0 L dn ss (⟨some d,op,ty,pos,af,none⟩::rest) k tm hp Fin:=a3d d hop rfl rfl pre0 hlt rfl hk' h
theorem d1 (k':Nat) {id:Nat} {ob:HObj} (hop:HOp P ⟨some d,op,ty,pos,af,none⟩ (a0F (tget tm)) (clk+k) [(id,ob)] v []) (h:HDr P n clk tm0 hp0 L (dn++[⟨some d,op,ty,pos,af,none⟩]) (ss++[⟨.v v,a0A ⟨some d,op,ty,pos,af,none⟩,[(id,ob)],[]⟩]) rest k' ((d,.v v)::tm) hp Fin) (hid:hget hp id=some ob:=by rfl) (hlt:Nat.blt d n=true:=by rfl) (hk':k+1=k':=by rfl):HDr P n clk tm0 hp0 L dn ss (⟨some d,op,ty,pos,af,none⟩::rest) k tm hp Fin:=a3d d hop rfl rfl (a0L hid) hlt rfl hk' h
theorem dm (k':Nat) (h:HDr P n clk tm0 hp0 L (dn++[⟨some d,.move x,ty,pos,af,none⟩]) (ss++[⟨.v v,a0A ⟨some d,.move x,ty,pos,af,none⟩,[],[]⟩]) rest k' ((d,.v v)::tm) hp Fin) (hx:ovl (a0F (tget tm)) x=some v:=by rfl) (hlt:Nat.blt d n=true:=by rfl) (hk':k+1=k':=by rfl):HDr P n clk tm0 hp0 L dn ss (⟨some d,.move x,ty,pos,af,none⟩::rest) k tm hp Fin:=a3d d (a1p hx) rfl rfl pre0 hlt rfl hk' h
end
theorem kza {kp sh:List (Nat×HObj)} {x y:HV} (h:Kz kp sh x y:=by first | exact .fz _ _ (.imm _) | exact .os _ _ _ _ _ rfl rfl | exact .pt _ _ _ _ _ rfl rfl | exact .nps _ _ _ rfl rfl | exact .mp _ _ _ rfl rfl | (dsimp only;exact .fz _ _ Frz.fz) | exact .fz _ _ (.tup 0 _ _ (fun i hi=>absurd hi (Nat.not_lt_zero _)))):Kz kp sh x y:=h
theorem tsr {tm r:List (Nat×TV)} {t:Nat} {x:HV} (h:tget tm t=some (.v x)) (hr:a0u tm r):a0u tm ((t,.v x)::r):=.cons h (.refl _) hr
theorem hsr {hp r:List (Nat×HObj)} {id:Nat} {o:HObj} (h:hget hp id=some o) (hr:a0g hp r):a0g hp ((id,o)::r):=.cons h (.refl _) hr
def a5B (b:Nat) (ob:Nat→HObj) (P:Nat→Bool):Nat→List (Nat×HObj)
 | 0=>[]
 | n+1=>if P n=true then (b+n,ob n)::a5B b ob P n else a5B b ob P n
theorem a1o (b:Nat) (ob:Nat→HObj) (P:Nat→Bool):∀ n id,hget (a5B b ob P n) id=if b≤id∧id < b+n∧P (id - b)=true then some (ob (id - b)) else none
  | 0,id=>by rw [if_neg omo];rfl
  | n + 1, id => by
    have ih:=a1o b ob P n id
    simp only [a5B]
    by_cases hP:P n=true
    · rw [if_pos hP,a0o]
      by_cases e:id=b+n
      · subst e
        rw [a0v,if_pos ⟨by omega,by omega,by rw [Nat.add_sub_cancel_left];exact hP⟩,Nat.add_sub_cancel_left]
      · rw [a0s _ _ e,ih]
        by_cases h:b≤id∧id < b+n∧P (id - b)=true
        · rw [if_pos h,if_pos ⟨h.1,by omega,h.2.2⟩]
        · rw [if_neg h,if_neg (fun h'=>h ⟨h'.1,by omega,h'.2.2⟩)]
    · rw [if_neg hP,ih]
      by_cases h:b≤id∧id < b+n∧P (id - b)=true
      · rw [if_pos h,if_pos ⟨h.1,by omega,h.2.2⟩]
      · rw [if_neg h,if_neg (fun h'=>by
          by_cases e:id=b+n
          · subst e;exact hP (by simpa using h'.2.2)
          · exact h ⟨h'.1,by omega,h'.2.2⟩)]
theorem a1S (A B:List (Nat×HObj)) (id:Nat):hget (A++B) id=match hget A id with | some o=>some o | none=>hget B id:=by
  induction A with
  | nil=>rfl
  | cons q A ih =>
    obtain ⟨k,o⟩:=q
    rw [List.cons_append,a0o,a0o]
    by_cases e:id=k
    · subst e;rw [a0v,a0v]
    · rw [a0s _ _ e,a0s _ _ e];exact ih
def b5l (b k:Nat) (L:List (Nat×HObj)):Bool:=L.all fun p=>Nat.blt p.1 b&&!Nat.beq p.1 k
theorem a2T {b k:Nat} {L:List (Nat×HObj)} (h:b5l b k L=true):∀ id,(b≤id∨id=k)→hget L id=none:=by
  intro id hid
  induction L with
  | nil=>rfl
  | cons q L ih =>
    obtain ⟨j,o⟩:=q
    simp only [b5l,List.all_cons,Bool.and_eq_true] at h
    have h1:j < b:=by simpa [Nat.blt_eq] using h.1.1
    have h2:j≠k:=by intro e;subst e;simp at h
    rw [a0o,a0s _ _ omo]
    exact ih (by simpa [b5l] using h.2)
section
variable {C:Ctx} {n clk:Nat} {tm:List (Nat×TV)} {hp:List (Nat×HObj)}
theorem b3N (id0 id id':Nat) (hp':List (Nat×HObj)) {g lo m on sz fl g0 n0 m0 fl0:Nat} {oty ty0:TypeId} {f f0:Nat→Nat→HV} (f':Nat→Nat→HV) (ho:hget hp id=some ⟨g,on,sz,oty,fl,f⟩) (h0:hget hp' id0=some ⟨g0,n0,m0,ty0,fl0,f0⟩) (hne:id'≠id0) (hid:id'≠id)
    (hf:∀ i j,i < n0→j < m0→f' i j=f0 i j∨(f0 i j=.os id g lo m∧f' i j=.os id' clk lo m)) (hfl:fl0≤n0) (hh:∀ k o,hget hp' k=some o→k≠id∧k≠id'∧hget hp k=some o) :
    a4D C ⟨n,tm,hp,clk⟩ ⟨n,tm,(id0,⟨g0,n0,m0,ty0,fl0,f'⟩)::(id',⟨clk,on,sz,oty,fl,f⟩)::hp',clk+1⟩:=by
  intro a w ⟨E,e0,r,hG,hsz,hdf,htm⟩
  have hg:¬ E.G clk:=fun h=>absurd (hG _ h) (Nat.lt_irrefl _)
  obtain ⟨l,hl,at_⟩:=r.obj id _ ho
  have e:Ext w E w (E.place id' ⟨clk,l.A,l.cap,l.sz⟩):=⟨Nat.le_refl _,fun a ha=>⟨ha,rfl⟩,fun _ hg=>.inl hg,fun k l' hl' hG'=>by
    by_cases hk:k=id'
    · subst hk;rw [Env.place_L] at hl';injection hl' with hl';subst hl';exact absurd hG' hg
    · rwa [Env.place_Lne _ _ hk] at hl',fun _ h=>h⟩
  have r1:R C.K C.w0 C.E0.F (E.place id' ⟨clk,l.A,l.cap,l.sz⟩) (a2I (hget hp') id' ⟨clk,on,sz,oty,fl,f⟩) w:=by
    refine ⟨r.os,r.tape,r.output,r.size,r.keep,r.frz,r.fnew,r.klib,r.lib,r.bks,fun k o hko=>?_,fun k k' o o' l1 l2 b ho1 ho2 hl1 hl2 hb1 hb2=>?_⟩
    · by_cases hk:k=id'
      · subst hk
        rw [a0v] at hko;injection hko with hko;subst hko
        refine ⟨_,Env.place_L _ _ _,rfl,.inr rfl,at_.sz,at_.pos,?_⟩
        rcases at_.at_ with h0 | ⟨b,cs,g1,g2,g3,g4,g5,g6,⟨vs,g8⟩,g9⟩ | ⟨b,ob,g1,g2,h3,g4⟩
        rotate_right
        · exact .inr (.inr ⟨b,ob,g1,g2,by cases h3 with | iter=>exact .iter .. | map _ _ _ _ hc hb=>exact .map _ _ _ _ hc hb,g4⟩)
        · exact .inl h0
        · exact .inr (.inl ⟨b,cs,g1,g2,g3,g4,g5,g6,⟨vs,fun i j hi hj=>⟨(g8 i j hi hj).1,(g8 i j hi hj).2.1,(g8 i j hi hj).2.2.ext e⟩⟩,g9⟩)
      · rw [a0s _ _ hk] at hko
        obtain ⟨h1,h2,h3⟩:=hh k o hko
        obtain ⟨l',hl',a'⟩:=r.obj k o h3
        exact ⟨l',by rw [Env.place_Lne _ _ h2];exact hl',a'.ext e (fun _ _=>rfl) (fun _ _ _ hF=>hF)⟩
    · have key:∀ k o l1,a2I (hget hp') id' ⟨clk,on,sz,oty,fl,f⟩ k=some o→(E.place id' ⟨clk,l.A,l.cap,l.sz⟩).L k=some l1→∃ k2 o2 l2,hget hp k2=some o2∧E.L k2=some l2∧l2.A=l1.A∧((k=id'∧k2=id)∨(k≠id'∧k2=k∧k≠id)):=by
        intro k o l1 hko hkl
        by_cases hk:k=id'
        · subst hk
          rw [Env.place_L] at hkl;injection hkl with hkl;subst hkl
          exact ⟨id,_,l,ho,hl,rfl,.inl ⟨rfl,rfl⟩⟩
        · rw [a0s _ _ hk] at hko
          rw [Env.place_Lne _ _ hk] at hkl
          obtain ⟨h1,h2,h3⟩:=hh k o hko
          exact ⟨k,o,l1,h3,hkl,rfl,.inr ⟨hk,rfl,h1⟩⟩
      obtain ⟨p1,q1,m1,a1,a2,a3,a4⟩:=key k o l1 ho1 hl1
      obtain ⟨p2,q2,m2,c1,c2,c3,c4⟩:=key k' o' l2 ho2 hl2
      have:=r.inj p1 p2 q1 q2 m1 m2 b a1 c1 a2 c2 (a3.trans hb1) (c3.trans hb2)
      rcases a4 with ⟨e1,e2⟩ | ⟨e1,e2,e3⟩ <;> rcases c4 with ⟨f1,f2⟩ | ⟨f1,f2,f3⟩
      · rw [e1,f1]
      · exact absurd (by rw [←f2,←this,e2]) f3
      · exact absurd (by rw [←e2,this,f2]) e3
      · rw [←e2,←f2,this]
  have r2:=r1.tell id0 (g:=g0) (n:=n0) (sz:=m0) (ty:=ty0) (fl:=fl0) (f':=f') (by rw [a0s _ _ (Ne.symm hne)];exact h0) (fun l2 b cs hl2 hA hB i j u hi hj hu hr=>by
    rcases hf i j hi hj with h1 | ⟨h1,h2⟩
    · rw [h1];exact hr
    · rw [h2]
      rw [h1] at hr
      have hL:(E.place id' ⟨clk,l.A,l.cap,l.sz⟩).L id=some l:=by rw [Env.place_Lne _ _ (Ne.symm hid)];exact hl
      cases hr with
      | os A _ c _ _ _ hgg hcc hm hA h0 =>
        refine .os A m c id' clk lo (.inr rfl) hcc hm (fun hp=>?_) (fun l2 hl2 _=>?_)
        · obtain ⟨b,k,h1,h2⟩:=hA hp
          refine ⟨b,k,h1,fun l2 hl2 _=>?_⟩
          rw [Env.place_L] at hl2;injection hl2 with hl2;subst hl2
          exact h2 l hL at_.g
        · rw [Env.place_L] at hl2;injection hl2 with hl2;subst hl2
          exact h0 l hL at_.g) hfl
  refine ⟨_,e0.trans e,by simp only [a0o];exact r2,fun g' hg'=>?_,hsz,hdf.ext e,fun t x hx=>(htm t x hx).ext e⟩
  rcases hg' with hg' | hg'
  · exact Nat.lt_succ_of_lt (hG g' hg')
  · rw [hg'];exact Nat.lt_succ_self _
end
def fup (ob:Nat→HObj) (i:Nat) (o:HObj):Nat→HObj:=fun k=>if k=i then o else ob k
section
variable {C:Ctx} {n clk:Nat} {tm:List (Nat×TV)}
theorem a6P {hp hp':List (Nat×HObj)} (hh:a0g hp hp'):a4D C ⟨n,tm,hp,clk⟩ ⟨n,tm,hp',clk⟩:=by
 intro a w ⟨E,e0,r,hG,hsz,hdf,htm⟩
 refine ⟨E,e0,{ r with obj:=fun id o ho=>?_,inj:=fun id id' o o' l l' b ho ho' hl hl' hb hb'=>?_ },hG,hsz,hdf,htm⟩
 ·obtain ⟨o1,ho1,hs⟩:=hh id o ho
  obtain ⟨l,hl,a1⟩:=r.obj id o1 ho1
  exact ⟨l,hl,hs.at_ a1⟩
 ·obtain ⟨o1,ho1,_⟩:=hh id o ho
  obtain ⟨o2,ho2,_⟩:=hh id' o' ho'
  exact r.inj id id' o1 o2 l l' b ho1 ho2 hl hl' hb hb'
end
theorem a0g.skip {x:Nat×HObj} {hp:List (Nat×HObj)} {b:Nat} {ob:Nat→HObj} {P:Nat→Bool} {N:Nat} (h:a0g hp (a5B b ob P N)) (hx:Nat.blt x.1 b=true):a0g (x::hp) (a5B b ob P N):=fun k o' hk=>by
 obtain ⟨k0,o0⟩:=x
 obtain ⟨o1,h1,h2⟩:=h k o' hk
 have hb:b≤k:=by
  rw [a1o] at hk
  by_cases h3:b≤k∧k < b+N∧P (k - b)=true
  ·exact h3.1
  ·rw [if_neg h3] at hk;cases hk
 have:k0 < b:=by simpa [Nat.blt_eq] using hx
 exact ⟨o1,by rw [a0o,a0s _ _ omo];exact h1,h2⟩
theorem a9s {b:Nat} {ob ob':Nat→HObj} {P:Nat→Bool} {N:Nat} (h:∀ k,k < N→P k=true→ob k=ob' k):a0g (a5B b ob P N) (a5B b ob' P N):=fun k o' hk=>by
 rw [a1o] at hk
 by_cases h3:b≤k∧k < b+N∧P (k - b)=true
 ·rw [if_pos h3] at hk;injection hk with hk;subst hk
  exact ⟨_,by rw [a1o,if_pos h3],by rw [h (k - b) omo h3.2.2];exact a2m.refl _⟩
 ·rw [if_neg h3] at hk;cases hk
theorem a9Y {b:Nat} {ob:Nat→HObj} {P:Nat→Bool} {N:Nat}:a0g (a5B b ob P N++[]) (a5B b ob P N):=by rw [List.append_nil];exact a0g.refl _
theorem c0b {b:Nat} {ob:Nat→HObj}:∀ {N i:Nat},i < N→(b+i,ob i)∈a5B b ob (fun _=>true) N
  | N + 1, i, h => by
    simp only [a5B,if_true]
    by_cases e:i=N
    · subst e;exact List.mem_cons_self ..
    · exact List.mem_cons_of_mem _ (c0b omo)
theorem c0j {b N:Nat} {ob:Nat→HObj} {hp:List (Nat×HObj)} (h:∀ k,k < N→hget hp (b+k)=some (ob k)):∀ n,n≤N→∀ p∈a5B b ob (fun _=>true) n,hget hp p.1=some p.2
  | 0,_,p,hp'=>by simp [a5B] at hp'
  | n + 1, hn, p, hp' => by
    simp only [a5B,if_true] at hp'
    rcases List.mem_cons.1 hp' with rfl | hp'
    · exact h n omo
    · exact c0j h n omo p hp'
theorem b7G {b:Nat} {ob:Nat→HObj}:∀ {n:Nat} {k:Nat},k∈(a5B b ob (fun _=>true) n).map (·.1)→b≤k∧k < b+n
  | 0,k,h=>by simp [a5B] at h
  | n + 1, k, h => by
    simp only [a5B,if_true,List.map_cons] at h
    rcases List.mem_cons.1 h with rfl | h
    · exact ⟨by omega,by omega⟩
    · have:=b7G h;omega
theorem c2D {b:Nat} {ob:Nat→HObj}:∀ n,a1u ((a5B b ob (fun _=>true) n).map (·.1))=true
  | 0=>rfl
  | n + 1 => by
    simp only [a5B,if_true,List.map_cons,a1u,Bool.and_eq_true,Bool.not_eq_true']
    refine ⟨?_,c2D n⟩
    rw [List.any_eq_false]
    intro k hk
    have:=b7G hk
    simp;omega
class TyI (P:Program) (T:TypeId) (b:outParam Bool) (s:outParam Nat):Prop where h:tyOf P T=some (b,s)
class FdI (P:Program) (T:TypeId) (k:Nat) (fo:outParam Nat):Prop where h:fdOf P T k=some fo
class ElI (P:Program) (T:TypeId) (e:outParam TypeId) (s:outParam Nat):Prop where h:elOf P T=some (e,s)
class EiI (P:Program) (T:TypeId) (e:outParam TypeId) (s b:outParam Nat):Prop where h:elInfo P T=some (e,s,b,true)
class ZcI (P:Program) (T:TypeId) (z:outParam (List Value)):Prop where h:zcs P T=some z
class AlI (P:Program) (T:TypeId) (n s:outParam Nat):Prop where h:arL P T=some (n,s)
class ArI (P:Program) (T:TypeId) (z:outParam (List Value)) (s:outParam Nat):Prop where h:arOf P T=some (z,s)
class StI (P:Program) (T:TypeId) (z:outParam (List Value)) (l:outParam (List (Nat×Nat))):Prop where h:stOf P T=some (z,l)
class IkI (P:Program) (T:TypeId) (k:outParam IntKind):Prop where h:P.underlying T=some (.int k)
instance ty_3:TyI Tryz.prog 3 false 1:=⟨krf⟩
instance ik_3:IkI Tryz.prog 3 .i64:=⟨krf⟩
instance zc_3:ZcI Tryz.prog 3 [.int .i64 0]:=⟨krf⟩
instance ty_4:TyI Tryz.prog 4 false 1:=⟨krf⟩
instance ik_5:IkI Tryz.prog 5 .u8:=⟨krf⟩
instance ty_9:TyI Tryz.prog 9 false 1:=⟨krf⟩
instance ik_21:IkI Tryz.prog 21 .i32:=⟨krf⟩
instance ty_22:TyI Tryz.prog 22 false 1:=⟨krf⟩
instance el_22:ElI Tryz.prog 22 149 2:=⟨krf⟩
instance ty_23:TyI Tryz.prog 23 false 1:=⟨krf⟩
instance ei_23:EiI Tryz.prog 23 3 1 8:=⟨krf⟩
instance el_23:ElI Tryz.prog 23 3 1:=⟨krf⟩
instance ty_24:TyI Tryz.prog 24 false 1:=⟨krf⟩
instance ty_25:TyI Tryz.prog 25 false 1:=⟨krf⟩
instance ei_25:EiI Tryz.prog 25 23 1 24:=⟨krf⟩
instance el_25:ElI Tryz.prog 25 23 1:=⟨krf⟩
instance ty_26:TyI Tryz.prog 26 false 1:=⟨krf⟩
instance ei_26:EiI Tryz.prog 26 80 32 256:=⟨krf⟩
instance el_26:ElI Tryz.prog 26 80 32:=⟨krf⟩
instance ty_27:TyI Tryz.prog 27 false 1:=⟨krf⟩
instance ei_27:EiI Tryz.prog 27 4 1 1:=⟨krf⟩
instance el_27:ElI Tryz.prog 27 4 1:=⟨krf⟩
instance ty_29:TyI Tryz.prog 29 true 3:=⟨krf⟩
instance zc_29:ZcI Tryz.prog 29 [.slice none 0 0,.slice none 0 0,.slice none 0 0]:=⟨krf⟩
instance st_29:StI Tryz.prog 29 [.slice none 0 0,.slice none 0 0,.slice none 0 0] [(0,1),(1,1),(2,1)]:=⟨krf⟩
instance fd_29_0:FdI Tryz.prog 29 0 0:=⟨krf⟩
instance fd_29_1:FdI Tryz.prog 29 1 1:=⟨krf⟩
instance fd_29_2:FdI Tryz.prog 29 2 2:=⟨krf⟩
instance ty_30:TyI Tryz.prog 30 false 1:=⟨krf⟩
instance zc_30:ZcI Tryz.prog 30 [.int .i64 0]:=⟨krf⟩
instance ty_40:TyI Tryz.prog 40 true 3:=⟨krf⟩
instance zc_40:ZcI Tryz.prog 40 [.slice none 0 0,.int .i64 0,.bool false]:=⟨krf⟩
instance st_40:StI Tryz.prog 40 [.slice none 0 0,.int .i64 0,.bool false] [(0,1),(1,1),(2,1)]:=⟨krf⟩
instance fd_40_0:FdI Tryz.prog 40 0 0:=⟨krf⟩
instance fd_40_1:FdI Tryz.prog 40 1 1:=⟨krf⟩
instance fd_40_2:FdI Tryz.prog 40 2 2:=⟨krf⟩
instance ty_43:TyI Tryz.prog 43 true 2:=⟨krf⟩
instance al_43:AlI Tryz.prog 43 2 1:=⟨krf⟩
instance ei_48:EiI Tryz.prog 48 40 3 40:=⟨krf⟩
instance el_48:ElI Tryz.prog 48 40 3:=⟨krf⟩
instance ty_51:TyI Tryz.prog 51 false 1:=⟨krf⟩
instance ei_52:EiI Tryz.prog 52 91 5 64:=⟨krf⟩
instance el_52:ElI Tryz.prog 52 91 5:=⟨krf⟩
instance ty_61:TyI Tryz.prog 61 true 5:=⟨krf⟩
instance zc_61:ZcI Tryz.prog 61 [.slice none 0 0,.slice none 0 0,.slice none 0 0,.slice none 0 0,.bool false]:=⟨krf⟩
instance st_61:StI Tryz.prog 61 [.slice none 0 0,.slice none 0 0,.slice none 0 0,.slice none 0 0,.bool false] [(0,1),(1,1),(2,1),(3,1),(4,1)]:=⟨krf⟩
instance fd_61_0:FdI Tryz.prog 61 0 0:=⟨krf⟩
instance fd_61_1:FdI Tryz.prog 61 1 1:=⟨krf⟩
instance fd_61_2:FdI Tryz.prog 61 2 2:=⟨krf⟩
instance fd_61_3:FdI Tryz.prog 61 3 3:=⟨krf⟩
instance fd_61_4:FdI Tryz.prog 61 4 4:=⟨krf⟩
instance ty_64:TyI Tryz.prog 64 false 1:=⟨krf⟩
instance ei_64:EiI Tryz.prog 64 175 5 64:=⟨krf⟩
instance el_64:ElI Tryz.prog 64 175 5:=⟨krf⟩
instance ty_70:TyI Tryz.prog 70 true 4:=⟨krf⟩
instance ty_72:TyI Tryz.prog 72 true 4:=⟨krf⟩
instance zc_72:ZcI Tryz.prog 72 [.int .u64 0,.int .u64 0,.int .u64 0,.int .u64 0]:=⟨krf⟩
instance st_72:StI Tryz.prog 72 [.int .u64 0,.int .u64 0,.int .u64 0,.int .u64 0] [(0,4)]:=⟨krf⟩
instance fd_72_0:FdI Tryz.prog 72 0 0:=⟨krf⟩
instance ty_74:TyI Tryz.prog 74 false 1:=⟨krf⟩
instance ty_77:TyI Tryz.prog 77 false 1:=⟨krf⟩
instance ei_77:EiI Tryz.prog 77 131 3 40:=⟨krf⟩
instance el_77:ElI Tryz.prog 77 131 3:=⟨krf⟩
instance zc_77:ZcI Tryz.prog 77 [.slice none 0 0]:=⟨krf⟩
instance ty_80:TyI Tryz.prog 80 true 32:=⟨krf⟩
instance zc_80:ZcI Tryz.prog 80 [.int .i64 0,.int .i64 0,.int .i64 0,.int .i64 0,.int .i64 0,.int .i64 0,.int .i64 0,.int .i64 0,.int .i64 0,.int .i64 0,.int .i64 0,.int .i64 0,.int .i64 0,.int .i64 0,.int .i64 0,.int .i64 0,.int .i64 0,.int .i64 0,.int .i64 0,.int .i64 0,.int .i64 0,.int .i64 0,.int .i64 0,.int .i64 0,.int .i64 0,.int .i64 0,.int .i64 0,.int .i64 0,.int .i64 0,.int .i64 0,.int .i64 0,.int .i64 0]:=⟨krf⟩
instance al_80:AlI Tryz.prog 80 32 1:=⟨krf⟩
instance ar_80:ArI Tryz.prog 80 [.int .i64 0,.int .i64 0,.int .i64 0,.int .i64 0,.int .i64 0,.int .i64 0,.int .i64 0,.int .i64 0,.int .i64 0,.int .i64 0,.int .i64 0,.int .i64 0,.int .i64 0,.int .i64 0,.int .i64 0,.int .i64 0,.int .i64 0,.int .i64 0,.int .i64 0,.int .i64 0,.int .i64 0,.int .i64 0,.int .i64 0,.int .i64 0,.int .i64 0,.int .i64 0,.int .i64 0,.int .i64 0,.int .i64 0,.int .i64 0,.int .i64 0,.int .i64 0] 1:=⟨krf⟩
instance st_82:StI Tryz.prog 82 [.int .i64 0,.int .i64 0,.int .i64 0,.int .i64 0,.int .i64 0,.int .i64 0,.int .i64 0,.int .i64 0,.int .i64 0,.int .i64 0,.int .i64 0,.int .i64 0,.int .i64 0,.int .i64 0,.int .i64 0,.int .i64 0,.int .i64 0,.int .i64 0,.int .i64 0,.int .i64 0,.int .i64 0,.int .i64 0,.int .i64 0,.int .i64 0,.int .i64 0,.int .i64 0,.int .i64 0,.int .i64 0,.int .i64 0,.int .i64 0,.int .i64 0,.int .i64 0,.bool false] [(0,32),(32,1)]:=⟨krf⟩
instance fd_82_0:FdI Tryz.prog 82 0 0:=⟨krf⟩
instance fd_82_1:FdI Tryz.prog 82 1 32:=⟨krf⟩
instance ty_83:TyI Tryz.prog 83 false 1:=⟨krf⟩
instance ei_83:EiI Tryz.prog 83 82 33 264:=⟨krf⟩
instance el_83:ElI Tryz.prog 83 82 33:=⟨krf⟩
instance st_85:StI Tryz.prog 85 [.slice none 0 0] [(0,1)]:=⟨krf⟩
instance fd_85_0:FdI Tryz.prog 85 0 0:=⟨krf⟩
instance ty_91:TyI Tryz.prog 91 true 5:=⟨krf⟩
instance zc_91:ZcI Tryz.prog 91 [.int .i64 0,.int .i64 0,.int .i64 0,.string ByteArray.empty,.slice none 0 0]:=⟨krf⟩
instance st_91:StI Tryz.prog 91 [.int .i64 0,.int .i64 0,.int .i64 0,.string ByteArray.empty,.slice none 0 0] [(0,1),(1,1),(2,1),(3,1),(4,1)]:=⟨krf⟩
instance fd_91_0:FdI Tryz.prog 91 0 0:=⟨krf⟩
instance fd_91_1:FdI Tryz.prog 91 1 1:=⟨krf⟩
instance fd_91_2:FdI Tryz.prog 91 2 2:=⟨krf⟩
instance fd_91_3:FdI Tryz.prog 91 3 3:=⟨krf⟩
instance fd_91_4:FdI Tryz.prog 91 4 4:=⟨krf⟩
instance ty_92:TyI Tryz.prog 92 false 1:=⟨krf⟩
instance ty_93:TyI Tryz.prog 93 false 1:=⟨krf⟩
instance ei_93:EiI Tryz.prog 93 72 4 32:=⟨krf⟩
instance el_93:ElI Tryz.prog 93 72 4:=⟨krf⟩
instance ty_94:TyI Tryz.prog 94 false 1:=⟨krf⟩
instance st_96:StI Tryz.prog 96 [.pointer none,.pointer none,.slice none 0 0,.map none] [(0,1),(1,1),(2,1),(3,1)]:=⟨krf⟩
instance fd_96_0:FdI Tryz.prog 96 0 0:=⟨krf⟩
instance fd_96_1:FdI Tryz.prog 96 1 1:=⟨krf⟩
instance fd_96_2:FdI Tryz.prog 96 2 2:=⟨krf⟩
instance fd_96_3:FdI Tryz.prog 96 3 3:=⟨krf⟩
instance ty_104:TyI Tryz.prog 104 true 32:=⟨krf⟩
instance zc_104:ZcI Tryz.prog 104 [.slice none 0 0,.slice none 0 0,.slice none 0 0,.slice none 0 0,.slice none 0 0,.slice none 0 0,.slice none 0 0,.slice none 0 0,.slice none 0 0,.slice none 0 0,.slice none 0 0,.slice none 0 0,.slice none 0 0,.slice none 0 0,.slice none 0 0,.slice none 0 0,.slice none 0 0,.slice none 0 0,.slice none 0 0,.slice none 0 0,.slice none 0 0,.slice none 0 0,.slice none 0 0,.slice none 0 0,.slice none 0 0,.slice none 0 0,.slice none 0 0,.slice none 0 0,.slice none 0 0,.slice none 0 0,.slice none 0 0,.slice none 0 0]:=⟨krf⟩
instance al_104:AlI Tryz.prog 104 32 1:=⟨krf⟩
instance ar_104:ArI Tryz.prog 104 [.slice none 0 0,.slice none 0 0,.slice none 0 0,.slice none 0 0,.slice none 0 0,.slice none 0 0,.slice none 0 0,.slice none 0 0,.slice none 0 0,.slice none 0 0,.slice none 0 0,.slice none 0 0,.slice none 0 0,.slice none 0 0,.slice none 0 0,.slice none 0 0,.slice none 0 0,.slice none 0 0,.slice none 0 0,.slice none 0 0,.slice none 0 0,.slice none 0 0,.slice none 0 0,.slice none 0 0,.slice none 0 0,.slice none 0 0,.slice none 0 0,.slice none 0 0,.slice none 0 0,.slice none 0 0,.slice none 0 0,.slice none 0 0] 1:=⟨krf⟩
instance ty_109:TyI Tryz.prog 109 false 1:=⟨krf⟩
instance ei_109:EiI Tryz.prog 109 118 5 48:=⟨krf⟩
instance el_109:ElI Tryz.prog 109 118 5:=⟨krf⟩
instance zc_109:ZcI Tryz.prog 109 [.slice none 0 0]:=⟨krf⟩
instance st_114:StI Tryz.prog 114 [.slice none 0 0,.int .i64 0] [(0,1),(1,1)]:=⟨krf⟩
instance fd_114_0:FdI Tryz.prog 114 0 0:=⟨krf⟩
instance fd_114_1:FdI Tryz.prog 114 1 1:=⟨krf⟩
instance st_116:StI Tryz.prog 116 [.slice none 0 0,.int .i64 0,.slice none 0 0,.bool false] [(0,2),(2,1),(3,1)]:=⟨krf⟩
instance fd_116_0:FdI Tryz.prog 116 0 0:=⟨krf⟩
instance fd_116_1:FdI Tryz.prog 116 1 2:=⟨krf⟩
instance fd_116_2:FdI Tryz.prog 116 2 3:=⟨krf⟩
instance ty_118:TyI Tryz.prog 118 true 5:=⟨krf⟩
instance zc_118:ZcI Tryz.prog 118 [.int .i64 0,.int .i64 0,.int .i64 0,.int .i64 0,.string ByteArray.empty]:=⟨krf⟩
instance st_118:StI Tryz.prog 118 [.int .i64 0,.int .i64 0,.int .i64 0,.int .i64 0,.string ByteArray.empty] [(0,1),(1,1),(2,1),(3,1),(4,1)]:=⟨krf⟩
instance fd_118_0:FdI Tryz.prog 118 0 0:=⟨krf⟩
instance fd_118_1:FdI Tryz.prog 118 1 1:=⟨krf⟩
instance fd_118_2:FdI Tryz.prog 118 2 2:=⟨krf⟩
instance fd_118_3:FdI Tryz.prog 118 3 3:=⟨krf⟩
instance fd_118_4:FdI Tryz.prog 118 4 4:=⟨krf⟩
instance ty_121:TyI Tryz.prog 121 false 1:=⟨krf⟩
instance ei_121:EiI Tryz.prog 121 9 1 16:=⟨krf⟩
instance el_121:ElI Tryz.prog 121 9 1:=⟨krf⟩
instance zc_121:ZcI Tryz.prog 121 [.slice none 0 0]:=⟨krf⟩
instance ty_125:TyI Tryz.prog 125 true 11:=⟨krf⟩
instance st_125:StI Tryz.prog 125 [.slice none 0 0,.slice none 0 0,.int .u64 0,.int .u64 0,.int .u64 0,.int .u64 0,.int .u64 0,.int .u64 0,.int .u64 0,.int .u64 0,.bool false] [(0,1),(1,1),(2,4),(6,4),(10,1)]:=⟨krf⟩
instance fd_125_0:FdI Tryz.prog 125 0 0:=⟨krf⟩
instance fd_125_1:FdI Tryz.prog 125 1 1:=⟨krf⟩
instance fd_125_2:FdI Tryz.prog 125 2 2:=⟨krf⟩
instance fd_125_3:FdI Tryz.prog 125 3 6:=⟨krf⟩
instance fd_125_4:FdI Tryz.prog 125 4 10:=⟨krf⟩
instance ty_128:TyI Tryz.prog 128 true 9:=⟨krf⟩
instance zc_128:ZcI Tryz.prog 128 [.int .u64 0,.int .u64 0,.int .u64 0,.int .u64 0,.int .u64 0,.int .u64 0,.int .u64 0,.int .u64 0,.bool false]:=⟨krf⟩
instance st_128:StI Tryz.prog 128 [.int .u64 0,.int .u64 0,.int .u64 0,.int .u64 0,.int .u64 0,.int .u64 0,.int .u64 0,.int .u64 0,.bool false] [(0,4),(4,4),(8,1)]:=⟨krf⟩
instance fd_128_0:FdI Tryz.prog 128 0 0:=⟨krf⟩
instance fd_128_1:FdI Tryz.prog 128 1 4:=⟨krf⟩
instance fd_128_2:FdI Tryz.prog 128 2 8:=⟨krf⟩
instance ty_131:TyI Tryz.prog 131 true 3:=⟨krf⟩
instance zc_131:ZcI Tryz.prog 131 [.int .i64 0,.slice none 0 0,.bool false]:=⟨krf⟩
instance st_131:StI Tryz.prog 131 [.int .i64 0,.slice none 0 0,.bool false] [(0,1),(1,1),(2,1)]:=⟨krf⟩
instance fd_131_0:FdI Tryz.prog 131 0 0:=⟨krf⟩
instance fd_131_1:FdI Tryz.prog 131 1 1:=⟨krf⟩
instance fd_131_2:FdI Tryz.prog 131 2 2:=⟨krf⟩
instance ty_134:TyI Tryz.prog 134 false 1:=⟨krf⟩
instance ei_134:EiI Tryz.prog 134 190 3 24:=⟨krf⟩
instance el_134:ElI Tryz.prog 134 190 3:=⟨krf⟩
instance ty_136:TyI Tryz.prog 136 true 2:=⟨krf⟩
instance zc_136:ZcI Tryz.prog 136 [.slice none 0 0,.int .i64 0]:=⟨krf⟩
instance fd_136_0:FdI Tryz.prog 136 0 0:=⟨krf⟩
instance fd_136_1:FdI Tryz.prog 136 1 1:=⟨krf⟩
instance ei_142:EiI Tryz.prog 142 146 5 48:=⟨krf⟩
instance el_142:ElI Tryz.prog 142 146 5:=⟨krf⟩
instance ty_146:TyI Tryz.prog 146 true 5:=⟨krf⟩
instance zc_146:ZcI Tryz.prog 146 [.int .i64 0,.int .i64 0,.int .i64 0,.int .i64 0,.string ByteArray.empty]:=⟨krf⟩
instance st_146:StI Tryz.prog 146 [.int .i64 0,.int .i64 0,.int .i64 0,.int .i64 0,.string ByteArray.empty] [(0,1),(1,1),(2,1),(3,1),(4,1)]:=⟨krf⟩
instance fd_146_0:FdI Tryz.prog 146 0 0:=⟨krf⟩
instance fd_146_1:FdI Tryz.prog 146 1 1:=⟨krf⟩
instance fd_146_2:FdI Tryz.prog 146 2 2:=⟨krf⟩
instance fd_146_3:FdI Tryz.prog 146 3 3:=⟨krf⟩
instance fd_146_4:FdI Tryz.prog 146 4 4:=⟨krf⟩
instance fd_149_0:FdI Tryz.prog 149 0 0:=⟨krf⟩
instance fd_149_1:FdI Tryz.prog 149 1 1:=⟨krf⟩
instance ty_151:TyI Tryz.prog 151 true 128:=⟨krf⟩
instance zc_151:ZcI Tryz.prog 151 [.int .u64 0,.int .u64 0,.int .u64 0,.int .u64 0,.int .u64 0,.int .u64 0,.int .u64 0,.int .u64 0,.int .u64 0,.int .u64 0,.int .u64 0,.int .u64 0,.int .u64 0,.int .u64 0,.int .u64 0,.int .u64 0,.int .u64 0,.int .u64 0,.int .u64 0,.int .u64 0,.int .u64 0,.int .u64 0,.int .u64 0,.int .u64 0,.int .u64 0,.int .u64 0,.int .u64 0,.int .u64 0,.int .u64 0,.int .u64 0,.int .u64 0,.int .u64 0,.int .u64 0,.int .u64 0,.int .u64 0,.int .u64 0,.int .u64 0,.int .u64 0,.int .u64 0,.int .u64 0,.int .u64 0,.int .u64 0,.int .u64 0,.int .u64 0,.int .u64 0,.int .u64 0,.int .u64 0,.int .u64 0,.int .u64 0,.int .u64 0,.int .u64 0,.int .u64 0,.int .u64 0,.int .u64 0,.int .u64 0,.int .u64 0,.int .u64 0,.int .u64 0,.int .u64 0,.int .u64 0,.int .u64 0,.int .u64 0,.int .u64 0,.int .u64 0,.int .u64 0,.int .u64 0,.int .u64 0,.int .u64 0,.int .u64 0,.int .u64 0,.int .u64 0,.int .u64 0,.int .u64 0,.int .u64 0,.int .u64 0,.int .u64 0,.int .u64 0,.int .u64 0,.int .u64 0,.int .u64 0,.int .u64 0,.int .u64 0,.int .u64 0,.int .u64 0,.int .u64 0,.int .u64 0,.int .u64 0,.int .u64 0,.int .u64 0,.int .u64 0,.int .u64 0,.int .u64 0,.int .u64 0,.int .u64 0,.int .u64 0,.int .u64 0,.int .u64 0,.int .u64 0,.int .u64 0,.int .u64 0,.int .u64 0,.int .u64 0,.int .u64 0,.int .u64 0,.int .u64 0,.int .u64 0,.int .u64 0,.int .u64 0,.int .u64 0,.int .u64 0,.int .u64 0,.int .u64 0,.int .u64 0,.int .u64 0,.int .u64 0,.int .u64 0,.int .u64 0,.int .u64 0,.int .u64 0,.int .u64 0,.int .u64 0,.int .u64 0,.int .u64 0,.int .u64 0,.int .u64 0,.int .u64 0,.int .u64 0,.int .u64 0]:=⟨krf⟩
instance al_151:AlI Tryz.prog 151 32 4:=⟨krf⟩
instance ei_162:EiI Tryz.prog 162 61 5 104:=⟨krf⟩
instance el_162:ElI Tryz.prog 162 61 5:=⟨krf⟩
instance ty_164:TyI Tryz.prog 164 true 2:=⟨krf⟩
instance zc_164:ZcI Tryz.prog 164 [.int .i64 0,.int .i64 0]:=⟨krf⟩
instance st_164:StI Tryz.prog 164 [.int .i64 0,.int .i64 0] [(0,1),(1,1)]:=⟨krf⟩
instance fd_164_0:FdI Tryz.prog 164 0 0:=⟨krf⟩
instance fd_164_1:FdI Tryz.prog 164 1 1:=⟨krf⟩
instance st_168:StI Tryz.prog 168 [.string ByteArray.empty,.int .i64 0] [(0,1),(1,1)]:=⟨krf⟩
instance fd_168_0:FdI Tryz.prog 168 0 0:=⟨krf⟩
instance fd_168_1:FdI Tryz.prog 168 1 1:=⟨krf⟩
instance ty_175:TyI Tryz.prog 175 true 5:=⟨krf⟩
instance zc_175:ZcI Tryz.prog 175 [.int .i64 0,.int .i64 0,.int .i64 0,.string ByteArray.empty,.slice none 0 0]:=⟨krf⟩
instance st_175:StI Tryz.prog 175 [.int .i64 0,.int .i64 0,.int .i64 0,.string ByteArray.empty,.slice none 0 0] [(0,1),(1,1),(2,1),(3,1),(4,1)]:=⟨krf⟩
instance fd_175_0:FdI Tryz.prog 175 0 0:=⟨krf⟩
instance fd_175_1:FdI Tryz.prog 175 1 1:=⟨krf⟩
instance fd_175_2:FdI Tryz.prog 175 2 2:=⟨krf⟩
instance fd_175_3:FdI Tryz.prog 175 3 3:=⟨krf⟩
instance fd_175_4:FdI Tryz.prog 175 4 4:=⟨krf⟩
instance ty_190:TyI Tryz.prog 190 true 3:=⟨krf⟩
instance zc_190:ZcI Tryz.prog 190 [.int .i64 0,.int .i64 0,.int .i64 0]:=⟨krf⟩
instance st_190:StI Tryz.prog 190 [.int .i64 0,.int .i64 0,.int .i64 0] [(0,1),(1,1),(2,1)]:=⟨krf⟩
instance fd_190_0:FdI Tryz.prog 190 0 0:=⟨krf⟩
instance fd_190_1:FdI Tryz.prog 190 1 1:=⟨krf⟩
instance fd_190_2:FdI Tryz.prog 190 2 2:=⟨krf⟩
instance ty_201:TyI Tryz.prog 201 false 1:=⟨krf⟩
instance ei_201:EiI Tryz.prog 201 128 9 72:=⟨krf⟩
instance el_201:ElI Tryz.prog 201 128 9:=⟨krf⟩
set_option maxRecDepth 100000
@[reducible] def intV (x:Int):HV:=.imm (.int .i64 x)
@[reducible] def boolV (b:Bool):HV:=.imm (.bool b)
class Frz (x:HV):Prop where
 fz:∀ {sh:List (Nat×HObj)},Fz sh x x
instance (v:Value):Frz (.imm v):=⟨.imm v⟩
instance (sz n:Nat) (f:Nat→Nat→HV) [h:∀ i j,Frz (f i j)]:Frz (.sl sz n f):=⟨.sl _ _ _ _ fun i j _ _=>(h i j).fz⟩
instance (n:Nat) (f:Nat→HV) [h:∀ i,Frz (f i)]:Frz (.agg n f):=⟨.agg _ _ _ fun i _=>(h i).fz⟩
instance (n:Nat) (f:Nat→HV) [h:∀ i,Frz (f i)]:Frz (.tup n f):=⟨.tup _ _ _ fun i _=>(h i).fz⟩
instance (n:Nat) (f:Nat→HV) [h:∀ i,Frz (f i)]:Frz (.fp n f):=⟨.fp _ _ lrf _ _ fun i _=>(h i).fz⟩
theorem Fz.eq {sh:List (Nat×HObj)} {x y:HV} [h:Frz y] (e:x=y):Fz sh x y:=by subst e;exact h.fz
theorem a1H {sh:List (Nat×HObj)} {a b:Bool} (h:a=b):Fz sh (boolV a) (boolV b):=by subst h;exact .imm _
theorem a2v {α:Type} {sh:List (Nat×HObj)} {enc:α→Nat→HV} {d:α} {l:List α} {id g n:Nat} {o:HObj} (ho:(id,o)∈sh) (hg:o.g=g) (hn:n=l.length) (hon:n≤o.n) (h:∀ i j,i < l.length→j < o.sz→Fz sh (o.f i j) (enc (l.getD i d) j)) :
  Fz sh (.os id g 0 n) (.sl o.sz l.length (fun i=>enc (l.getD i d))):=by
 subst hn
 exact Fz.os id g 0 l.length o _ ho hg omo (fun i j hi hj=>by rw [Nat.zero_add];exact h i j hi hj)
theorem c2J {α:Type} {enc:α→Nat→HV} {d:α} {l k:List α} {m sz:Nat} {f g:Nat→Nat→HV} (hm:m=l.length) (hf:∀ i j,i < l.length→j < sz→Sb (f i j) (enc (l.getD i d) j)) (hg:∀ i j,i < k.length→j < sz→Sb (g i j) (enc (k.getD i d) j)) :
  ∀ i j,i < (l++k).length→j < sz→Sb (cat m f g i j) (enc ((l++k).getD i d) j):=by
 intro i j hi hj
 subst hm
 rw [List.length_append] at hi
 by_cases h:i < l.length
 ·rw [a6B h]
  have e:(l++k).getD i d=l.getD i d:=by rw [List.getD_eq_getElem?_getD,List.getD_eq_getElem?_getD,List.getElem?_append_left h]
  rw [e];exact hf i j h hj
 ·rw [a5O omo]
  have e:(l++k).getD i d=k.getD (i - l.length) d:=by rw [List.getD_eq_getElem?_getD,List.getD_eq_getElem?_getD,List.getElem?_append_right omo]
  rw [e];exact hg _ j omo hj
theorem c2c {α:Type} {enc:α→Nat→HV} {d x:α} {sz:Nat} {f:Nat→Nat→HV} (h:∀ j,j < sz→Sb (f 0 j) (enc x j)):∀ i j,i < [x].length→j < sz→Sb (f i j) (enc ([x].getD i d) j):=fun i j hi hj=>by
 have:i=0:=by simpa using hi
 subst this
 exact h j hj
theorem kr {p:Prop} (h:p:=by kernel_rfl):p:=h
theorem om {p:Prop} (h:p:=by omega):p:=h
theorem omx {p:Prop} (h:p:=by first | exact Nat.le_of_ble_eq_true rfl | omega | (dsimp only;omega) | (simp <;> omega)):p:=h
theorem rqc {p q:Prop} (h:p→q:=by (intro h;first | rfl | cases h)):p→q:=h
theorem fe {sh:List (Nat×HObj)} {x y:HV} [hz:Frz y] (h:x=y:=by rfl):Fz sh x y:=Fz.eq h
theorem fzc {sh:List (Nat×HObj)} {x y:HV} (h:Fz sh x y:=by first | exact .imm _ | exact .nil _ _ _ dcd _ | exact Frz.fz):Fz sh x y:=h
theorem tsa {a b:List (Nat×TV)} (h:a0u a b:=by repeat (first | exact a0u.nil | refine tsr rfl ?_)):a0u a b:=h
theorem hsa {a b:List (Nat×HObj)} (h:a0g a b:=by repeat (first | exact a0g.nil | refine hsr rfl ?_)):a0g a b:=h
section
variable {P:Program} {ov:Nat→Option HV} {g:Nat} {d:Option Tmp} {ty:TypeId} {pos:String} {af:Array Edge} {gd:Option (Nat×Bool)} {T yT:TypeId} {x y:Operand} {k:IntKind} {a b:Int}
theorem hqi (h1:ovl ov x=some (.imm (.int k a)):=by rfl) (h2:ovl ov y=some (.imm (.int k b)):=by rfl):HOp P ⟨d,.binOp .eql T x y yT,ty,pos,af,gd⟩ ov g [] (.imm (.bool (a == b))) []:=c0K h1 h2
theorem hli (h1:ovl ov x=some (.imm (.int k a)):=by rfl) (h2:ovl ov y=some (.imm (.int k b)):=by rfl):HOp P ⟨d,.binOp .lss T x y yT,ty,pos,af,gd⟩ ov g [] (.imm (.bool (decide (a < b)))) []:=b6x h1 h2
theorem hnl {e:TypeId} {s n:Nat} {f:Nat→Nat→HV} {at_:Array TypeId} (hE:elOf P T=some (e,s)) (hT:at_[0]?=some T:=by rfl) (h1:ovl ov x=some (.sl s n f):=by rfl):HOp P ⟨d,.call ⟨.builtin .len,#[x],at_⟩,ty,pos,af,gd⟩ ov g [] (.imm (.int .i64 (n:Int))) []:=a3b hT (a0Q hE).1 h1
theorem hex {n:Nat} {f:Nat→HV} {i:Nat} (h1:ovl ov x=some (.tup n f):=by rfl) (hi:Nat.blt i n=true:=by rfl):HOp P ⟨d,.extract x i,ty,pos,af,gd⟩ ov g [] (f i) []:=b0D h1 hi
theorem hix {e:TypeId} {s n:Nat} {f:Nat→Nat→HV} {i:Int} (hT:elOf P T=some (e,s)) (h1:ovl ov x=some (.sl s n f):=by rfl) (h2:ovl ov y=some (.imm (.int k i)):=by rfl) (hi0:0≤i:=by omega) (hi:i < n:=by omega) (hs:0 < s:=by exact nb rfl):HOp P ⟨d,.indexAddr T x y,ty,pos,af,gd⟩ ov g [] (.fp s (f i.toNat)) []:=a5T hT h1 h2 hi0 hi hs
theorem hlf {n s:Nat} {b:Bool} {f:Nat→HV} (hT:tyOf P T=some (b,s)) (h1:ovl ov x=some (.fp n f):=by rfl) (hoff:s≤n:=by exact nb rfl) (hs:b=false→s=1:=by (intro h;first | rfl | cases h)):HOp P ⟨d,.load T x,ty,pos,af,gd⟩ ov g [] (ldv b s f 0) []:=a0j hT h1 hoff hs
end
theorem c1m {C:Ctx} {P:Program} {Q:Exit→Act→World→Prop} {n clk:Nat} {tm0:List (Nat×TV)} {hp0:List (Nat×HObj)} {l:List Oper} {ss:List HSpec} {id:Nat} {dn:List Oper} {k:Nat} {tm tm':List (Nat×TV)} {hp:List (Nat×HObj)} (hm:P.follows .mixedOrders=true) (hc:c8M l ss tm0=true) (hu:a8L tm=true) (ht:a5H tm []=tm') {c':Nat} (hc':clk+k=c') (h:HQ C Q .normal ⟨n,tm',hp,c'⟩) (nd:C.rd=none∨l.all Oper.calm=true:=by first | exact .inr rfl | exact .inl rfl | exact .inl (by assumption)):HDr P n clk tm0 hp0 l dn ss [] k tm hp (HWp C P (.region id l.toArray true) ⟨n,tm0,hp0,clk⟩ Q) :=
 b0U hm hc hc' (fun a w ⟨E,e0,r,hG,hsz,hdf,htm⟩=>h a w ⟨E,e0,r,hG,hsz,hdf,fun t x hx=>htm t x (a6j hu t x (by rw [ht];exact hx))⟩) nd
section
variable {P:Program} {n clk:Nat} {tm0:List (Nat×TV)} {hp0:List (Nat×HObj)} {ss:List HSpec} {Fin:Prop} {o:Oper} {rest dn:List Oper} {k:Nat} {tm:List (Nat×TV)} {hp:List (Nat×HObj)} {L:List Oper} {pre post:List (Nat×HObj)} {v:HV}
theorem a8A (d gi j j2:Nat) (b2 b c c2:Bool) (hop:c=b→c2=b2→HOp P o (a1T (tget tm) j b) (clk+k) pre v []) (hd:o.dst=some d) (hg:o.guard=some (gi,b)) (hgi:(L.toArray[gi]?).bind (·.dst)=some j) (hc:tget tm j=some (.un j2 b2 (.imm (.bool c)))) (hc2:tget tm j2=some (.v (.imm (.bool c2)))) (hpre:∀ p∈pre,hget hp p.1=some p.2) (hlt:Nat.blt d n=true)
  {k':Nat} (hk':k+1=k') (h:HDr P n clk tm0 hp0 L (dn++[o]) (ss++[⟨.un j b v,j::j2::a0A o,pre,[]⟩]) rest k' ((d,.un j b v)::tm) hp Fin):HDr P n clk tm0 hp0 L dn ss (o::rest) k tm hp Fin:=by
 subst hk';exact a7X ⟨.un j b v,j::j2::a0A o,pre,[]⟩ d hd (a8J gi j j2 b2 b c c2 hg hgi hc hc2 hop) hpre hlt h
end
section
variable {P:Program} {ov:Nat→Option HV} {g:Nat} {d:Option Tmp} {ty:TypeId} {pos:String} {af:Array Edge} {gd:Option (Nat×Bool)} {T yT:TypeId} {x y:Operand}
def a7g (P:Program) (T:TypeId):Bool:=match P.underlying T with | some (.pointer _)=>true | _=>false
theorem b1i (hT:a7g P T=true) (a b:Option Addr) (w:World) (hb:b=none):(Op.equal T (.pointer a) (.pointer b)).run P w=.ok (a.isNone) w:=by
  subst hb
  unfold a7g at hT
  cases hu:P.underlying T with
  | none=>rw [hu] at hT;cases hT
  | some dd =>
    rw [hu] at hT
    cases dd <;> first | cases hT | skip
    have e:Op.equal T (.pointer a) (.pointer none)=Op.equalIn (Op.maxDepth - 1+1) T (.pointer a) (.pointer none):=rfl
    cases a <;> simp [e,Op.equalIn,run_underlying hu]
theorem b6z {id gg i off:Nat} (hT:a7g P T=true) (h1:ovl ov x=some (.pt id gg i off)) (h2:ovl ov y=some (.imm (.pointer none))):HOp P ⟨d,.binOp .eql T x y yT,ty,pos,af,gd⟩ ov g [] (.imm (.bool false)) [] :=
  a0t fun w E ρ hr=>by
    have h:=hr x _ smo h1
    have e2:=Rep.imm_inv (hr y _ smo h2)
    generalize hρ:ρ x=u at h
    cases h with
    | pt b k _ _ _ _ _ _ =>
      refine ⟨.bool false,?_,.imm _⟩
      have hT2:=hT
      unfold a7g at hT2
      cases hu:P.underlying T with
      | none=>rw [hu] at hT2;cases hT2
      | some dd =>
        simp [execOp,hρ,e2,eqGuard,binOp,b1i hT _ _ _ rfl]
theorem b5G {n:Nat} {f:Nat→HV} (hT:a7g P T=true) (h1:ovl ov x=some (.fp n f)) (h2:ovl ov y=some (.imm (.pointer none))):HOp P ⟨d,.binOp .eql T x y yT,ty,pos,af,gd⟩ ov g [] (.imm (.bool false)) [] :=
  a0t fun w E ρ hr=>by
    have h:=hr x _ smo h1
    have e2:=Rep.imm_inv (hr y _ smo h2)
    generalize hρ:ρ x=u at h
    cases h with
    | fp b k _ _ vs _ _ =>
      refine ⟨.bool false,?_,.imm _⟩
      have hT2:=hT
      unfold a7g at hT2
      cases hu:P.underlying T with
      | none=>rw [hu] at hT2;cases hT2
      | some dd =>
        simp [execOp,hρ,e2,eqGuard,binOp,b1i hT _ _ _ rfl]
theorem b5t (hT:a7g P T=true) (h1:ovl ov x=some (.imm (.pointer none))) (h2:ovl ov y=some (.imm (.pointer none))):HOp P ⟨d,.binOp .eql T x y yT,ty,pos,af,gd⟩ ov g [] (.imm (.bool true)) [] :=
  a0t fun w E ρ hr=>by
    have h:=hr x _ smo h1
    have e2:=Rep.imm_inv (hr y _ smo h2)
    generalize hρ:ρ x=u at h
    cases h with
    | imm _ =>
      refine ⟨.bool true,?_,.imm _⟩
      have hT2:=hT
      unfold a7g at hT2
      cases hu:P.underlying T with
      | none=>rw [hu] at hT2;cases hT2
      | some dd =>
        simp [execOp,hρ,e2,eqGuard,binOp,b1i hT _ _ _ rfl]
theorem b5I {id gg i off:Nat} (hT:a7g P T=true) (h1:ovl ov x=some (.pt id gg i off)) (h2:ovl ov y=some (.imm (.pointer none))):HOp P ⟨d,.binOp .neq T x y yT,ty,pos,af,gd⟩ ov g [] (.imm (.bool true)) [] :=
  a0t fun w E ρ hr=>by
    have h:=hr x _ smo h1
    have e2:=Rep.imm_inv (hr y _ smo h2)
    generalize hρ:ρ x=u at h
    cases h with
    | pt b k _ _ _ _ _ _ =>
      refine ⟨.bool true,?_,.imm _⟩
      have hT2:=hT
      unfold a7g at hT2
      cases hu:P.underlying T with
      | none=>rw [hu] at hT2;cases hT2
      | some dd =>
        simp [execOp,hρ,e2,eqGuard,binOp,b1i hT _ _ _ rfl]
theorem b6k {n:Nat} {f:Nat→HV} (hT:a7g P T=true) (h1:ovl ov x=some (.fp n f)) (h2:ovl ov y=some (.imm (.pointer none))):HOp P ⟨d,.binOp .neq T x y yT,ty,pos,af,gd⟩ ov g [] (.imm (.bool true)) [] :=
  a0t fun w E ρ hr=>by
    have h:=hr x _ smo h1
    have e2:=Rep.imm_inv (hr y _ smo h2)
    generalize hρ:ρ x=u at h
    cases h with
    | fp b k _ _ vs _ _ =>
      refine ⟨.bool true,?_,.imm _⟩
      have hT2:=hT
      unfold a7g at hT2
      cases hu:P.underlying T with
      | none=>rw [hu] at hT2;cases hT2
      | some dd =>
        simp [execOp,hρ,e2,eqGuard,binOp,b1i hT _ _ _ rfl]
theorem b6v (hT:a7g P T=true) (h1:ovl ov x=some (.imm (.pointer none))) (h2:ovl ov y=some (.imm (.pointer none))):HOp P ⟨d,.binOp .neq T x y yT,ty,pos,af,gd⟩ ov g [] (.imm (.bool false)) [] :=
  a0t fun w E ρ hr=>by
    have h:=hr x _ smo h1
    have e2:=Rep.imm_inv (hr y _ smo h2)
    generalize hρ:ρ x=u at h
    cases h with
    | imm _ =>
      refine ⟨.bool false,?_,.imm _⟩
      have hT2:=hT
      unfold a7g at hT2
      cases hu:P.underlying T with
      | none=>rw [hu] at hT2;cases hT2
      | some dd =>
        simp [execOp,hρ,e2,eqGuard,binOp,b1i hT _ _ _ rfl]
end
section
variable {P:Program} {ov:Nat→Option HV} {g:Nat} {d:Option Tmp} {ty:TypeId} {pos:String} {af:Array Edge} {gd:Option (Nat×Bool)}
end
section
variable {P:Program} {ops:Array Oper} {g:Nat}
theorem b0v {o:Oper} {tm:Nat→Option TV} {pre post:List (Nat×HObj)} {v:HV} (gi j:Nat) (b:Bool) (hg:o.guard=some (gi,b)) (hgi:(ops[gi]?).bind (·.dst)=some j) (hc:tm j=some (.v (.imm (.bool b)))) (h:HOp P o (a0F tm) g pre v post):HStep P ops o tm g ⟨.v v,j::a0A o,pre,post⟩:=by
  intro K w0 F0 E hh a w Q N r ht hG hBd hp hN
  have hj:a.tmps.getD j undef=.bool b:=Rep.imm_inv (ht j _ (List.mem_cons_self ..) hc)
  have hwant:Region.wanted o (yielded ops a.tmps)=true:=by
    unfold Region.wanted yielded
    rw [hg]
    simp only [hgi,Option.bind_some]
    by_cases hjs:j < a.tmps.size
    · have e1:a.tmps[j]?=some a.tmps[j]:=Array.getElem?_eq_getElem hjs
      have e2:a.tmps.getD j undef=a.tmps[j]:=by simp [hjs]
      rw [e1,←e2,hj];simp
    · have e2:a.tmps.getD j undef=undef:=by simp [hjs]
      rw [e2] at hj;simp [undef] at hj
  rw [if_pos hwant]
  refine h.h K w0 F0 E hh a w Q N r (fun x hv hx ho=>?_) hG hBd hp hN
  cases x with
  | tmp t =>
    simp only [ovl,a0F] at ho
    split at ho
    · rename_i y hy
      injection ho with ho
      subst ho
      exact ht t _ (List.mem_cons_of_mem _ (a6r hx)) hy
    · cases ho
  | const v=>exact a5m w E _ v hv (by exact ho)
  | global g=>injection ho with ho;subst ho;exact .imm _
  | func f=>injection ho with ho;subst ho;exact .fn _ _ 0 _ (fun _=>undef) rfl (fun i hi=>absurd hi (Nat.not_lt_zero _)) (fun i hi=>absurd hi (Nat.not_lt_zero _))
end
section
variable {C:Ctx} {P:Program} {ops:Array Oper} {Q:Exit→Act→World→Prop} {n clk:Nat} {tm:List (Nat×TV)} {hp:List (Nat×HObj)} {rest:List Oper} {o:Oper} {pre post:List (Nat×HObj)} {v:HV}
theorem c3r (d j:Nat) (b:Bool) (hop:HOp P o (a0F (tget tm)) clk pre v []) (hd:o.dst=some d) {gi:Nat} (hg:o.guard=some (gi,b)) (hgi:(ops[gi]?).bind (·.dst)=some j) (hc:tget tm j=some (.v (.imm (.bool b)))) (hpre:∀ p∈pre,hget hp p.1=some p.2) (hlt:Nat.blt d n=true) (hk:a0O tm d=true)
  (h:HSeq C P ops rest ⟨n,(d,.v v)::tm,hp,clk⟩ Q):HSeq C P ops (o::rest) ⟨n,tm,hp,clk⟩ Q :=
 a2W (s:=⟨n,tm,hp,clk⟩) d _ hd rfl (b0v gi j b hg hgi hc hop) hpre hlt hk h (fun j' b' x h=>by cases h)
theorem d2m (d j:Nat) (b:Bool) (hop:HOp P o (a0F (tget tm)) clk pre v post) (hd:o.dst=some d) {gi:Nat} (hg:o.guard=some (gi,b)) (hgi:(ops[gi]?).bind (·.dst)=some j) (hc:tget tm j=some (.v (.imm (.bool b)))) (hpre:∀ p∈pre,hget hp p.1=some p.2) (hlt:Nat.blt d n=true) (hk:a0O tm d=true) {c':Nat} (hcc:clk+1=c')
  (h:HSeq C P ops rest ⟨n,(d,.v v)::tm,post++hp,c'⟩ Q):HSeq C P ops (o::rest) ⟨n,tm,hp,clk⟩ Q:=by
 subst hcc;exact b3p (s:=⟨n,tm,hp,clk⟩) d _ hd (b0v gi j b hg hgi hc hop) hpre hlt hk h (fun j b x h=>by cases h)
end
section
variable {P:Program} {ov:Nat→Option HV} {g:Nat} {d:Option Tmp} {ty:TypeId} {pos:String} {af:Array Edge} {gd:Option (Nat×Bool)} {x y z:Operand} {hx:HV}
theorem a4O (h1:ovl ov x=some (.imm (.bool true))) (h2:ovl ov y=some hx):HOp P ⟨d,.pick x y z,ty,pos,af,gd⟩ ov g [] hx [] :=
 a0t fun w E ρ hr=>by
  have e1:=Rep.imm_inv (hr x _ smo h1)
  exact ⟨ρ y,by simp [execOp,e1,asBool],hr y _ smo h2⟩
theorem b1d (h1:ovl ov x=some (.imm (.bool false))) (h2:ovl ov z=some hx):HOp P ⟨d,.pick x y z,ty,pos,af,gd⟩ ov g [] hx [] :=
 a0t fun w E ρ hr=>by
  have e1:=Rep.imm_inv (hr x _ smo h1)
  exact ⟨ρ z,by simp [execOp,e1,asBool],hr z _ smo h2⟩
end
def d2X (o:Obj):Bool:=match o with | .loop _=>true | .deferred _=>true | _=>false
structure Bk (b:Nat) (w w':World):Prop where
 os:w'.os=w.os
 tape:w'.tape=w.tape
 output:w'.output=w.output
 size:w.heap.size≤w'.heap.size
 block:∀ k,k < w.heap.size→k≠b→w'.heap[k]?=w.heap[k]?
theorem Bk.put (w:World) (b:Nat) (o:Obj):Bk b w (w.putObj b o):=⟨rfl,rfl,rfl,Nat.le_of_eq World.putObj_size.symm,fun _ _ h=>World.putObj_heap_other h⟩
section
variable {K:Nat→Prop} {w0 w w':World} {F0:Addr→Prop} {E E':Env} {h h':Nat→Option HObj}
theorem R.notBk (r:R K w0 F0 E h w) {b:Nat} {ob:Obj} (hb:w.heap[b]?=some ob) (hbk:d2X ob=true):(∀ a,E.F a→a.block≠b)∧(∀ id o l,h id=some o→E.L id=some l→l.A≠some b):=by
 refine ⟨fun a ha e=>?_,fun id o l ho hl hA=>?_⟩
 ·have:=r.frz a ha
  obtain ⟨u,hu⟩:=Option.isSome_iff_exists.1 this.2
  subst e
  unfold World.cell? at hu
  rw [hb] at hu
  cases ob <;> first | (simp [d2X] at hbk;done) | (simp at hu;done) | (cases hu;done)
 ·obtain ⟨l2,hl2,a⟩:=r.obj id o ho
  rw [hl] at hl2;injection hl2 with hl2;subst hl2
  rcases a.at_ with ⟨h0,_⟩ | ⟨b',cs,h1,h2,_⟩ | ⟨b',ob',h1,h2,h3,_⟩
  ·rw [h0] at hA;cases hA
  ·rw [h1] at hA;injection hA with hA;subst hA
   rw [show w.heap[b']?=_ from h2] at hb;injection hb with hb;subst hb;cases hbk
  ·rw [h1] at hA;injection hA with hA;subst hA
   rw [h2] at hb;injection hb with hb;subst hb;cases h3 <;> cases hbk
theorem R.book (r:R K w0 F0 E h w) {b:Nat} {ob:Obj} (hb:w.heap[b]?=some ob) (hbk:d2X ob=true) (hB:w0.heap.size≤b) (hM:¬ E.M b) (k:Bk b w w'):Ext w E w' E∧R K w0 F0 E h w':=by
 have nb:=r.notBk hb hbk
 have e:Ext w E w' E:=⟨k.size,fun a ha=>⟨ha,World.cell?_of_block (k.block _ (a1m (r.frz a ha).2) (nb.1 a ha))⟩,fun _ h=>h,fun _ _ h _=>h,fun _ h=>h⟩
 refine ⟨e,k.os.trans r.os,k.tape.trans r.tape,k.output.trans r.output,Nat.le_trans r.size k.size,fun j hj hK=>(k.block j (Nat.lt_of_lt_of_le hj r.size) omo).trans (r.keep j hj hK),
  fun a ha=>⟨(r.frz a ha).1,by rw [(e.F a ha).2];exact (r.frz a ha).2⟩,r.fnew,r.klib,r.lib,fun j hj=>(k.block j (a0Z (r.bks j hj)) (fun e=>hM (e▸hj))).trans (r.bks j hj),fun id o ho=>?_,r.inj⟩
 obtain ⟨l,hl,a⟩:=r.obj id o ho
 exact ⟨l,hl,a.ext e (fun b' hb'=>k.block b' (a.lt hb') (fun e=>nb.2 id o l ho hl (e▸hb'))) (fun _ _ _ h=>h)⟩
def KH (E:Env) (h:Nat→Option HObj) (b:Nat):Prop:=∀ id o l,h id=some o→E.L id=some l→l.A≠some b
theorem R.reb (r:R K w0 F0 E h w):R (KH E h) w E.F E h w:=by
 refine ⟨rfl,rfl,rfl,Nat.le_refl _,fun _ _ _=>rfl,r.frz,fun a ha=>.inl ha,fun b hb id o l ho hl hA=>?_,r.libw,r.bks,fun id o ho=>?_,r.inj⟩
 ·obtain ⟨l2,hl2,a⟩:=r.obj id o ho
  rw [hl] at hl2;injection hl2 with hl2;subst hl2
  exact a.notK hA (r.lib.ok _ hb) (r.klib _ hb)
 ·obtain ⟨l,hl,a⟩:=r.obj id o ho
  refine ⟨l,hl,a.g,a.G,a.sz,a.pos,?_⟩
  rcases a.at_ with h0 | ⟨b,cs,g1,g2,g3,g4,g5,g6,g8,g9⟩ | ⟨b,ob,g1,g2,g3,g4⟩
  ·exact .inl h0
  ·exact .inr (.inl ⟨b,cs,g1,g2,g3,g4,g5,fun _ hk=>hk id o l ho hl g1,g8,g9⟩)
  ·exact .inr (.inr ⟨b,ob,g1,g2,g3,fun _ hk=>hk id o l ho hl g1⟩)
theorem R.unreb (r:R K w0 F0 E h w) {E2:Env} {h2:Nat→Option HObj} {w2:World} (r2:R (KH E h) w E.F E2 h2 w2):R K w0 F0 E2 h2 w2:=by
 have own:∀ b,¬ KH E h b→b < w0.heap.size→¬ K b:=by
  intro b hb hlt
  unfold KH at hb
  simp only [Classical.not_forall,ne_eq,Classical.not_not] at hb
  obtain ⟨id,o,l,h1,h2,h3⟩:=hb
  obtain ⟨l2,hl2,a⟩:=r.obj id o h1
  rw [h2] at hl2;injection hl2 with hl2;subst hl2
  exact a.notK h3 hlt
 have kk:∀ b,b < w0.heap.size→K b→KH E h b:=fun b hb hK=>Classical.byContradiction fun hn=>own b hn hb hK
 refine ⟨r2.os.trans r.os,r2.tape.trans r.tape,r2.output.trans r.output,Nat.le_trans r.size r2.size,fun k hk hK=>(r2.keep k (Nat.lt_of_lt_of_le hk r.size) (kk k hk hK)).trans (r.keep k hk hK),r2.frz,fun a ha=>?_,r.klib,r.lib,r2.bks,fun id o ho=>?_,r2.inj⟩
 ·rcases r2.fnew a ha with h1 | h1 | h1
  ·exact r.fnew a h1
  ·exact .inr (.inl (Nat.le_trans r.size h1))
  ·by_cases hlt:a.block < w0.heap.size
   ·exact .inr (.inr (own _ h1 hlt))
   ·exact .inr (.inl omo)
 ·obtain ⟨l,hl,a⟩:=r2.obj id o ho
  refine ⟨l,hl,a.g,a.G,a.sz,a.pos,?_⟩
  rcases a.at_ with h0 | ⟨b,cs,g1,g2,g3,g4,g5,g6,g8,g9⟩ | ⟨b,ob,g1,g2,g3,g4⟩
  ·exact .inl h0
  ·exact .inr (.inl ⟨b,cs,g1,g2,g3,g4,g5,fun hlt hk=>g6 (Nat.lt_of_lt_of_le hlt r.size) (kk b hlt hk),g8,g9⟩)
  ·exact .inr (.inr ⟨b,ob,g1,g2,g3,fun hlt hk=>g4 (Nat.lt_of_lt_of_le hlt r.size) (kk b hlt hk)⟩)
end
def Ctx.topM (w:World) (F:Addr→Prop):Ctx:=⟨fun _=>True,w,Env.just F,[],none,some w.heap.size⟩
def Clr.ctxM (X:Clr):Ctx:=⟨X.K',X.w,X.E,[],none,some X.w.heap.size⟩
def Ctx.noM (C:Ctx):Ctx:=⟨C.K,C.w0,C.E0,C.ds,C.rd,none⟩
section
variable {P:Program} {fn:Func} {Rp:Ending→World→Prop} {C:Ctx} {s:HSt}
theorem a8O {tmps:Array Value} (B:Nat) (hC:C.ds=[]∧C.mks=some C.w0.heap.size∧∀ b,C.E0.M b→b < C.w0.heap.size):∀ (Ds:List Nat) (a:Act) (w:World) (E:Env),a.tmps=tmps→Ds.Nodup→Ext C.w0 C.E0 w E→R C.K C.w0 C.E0.F E (hget s.hp) w→(∀ g,E.G g→g < s.clk)→a.tmps.size=s.n →
    (∀ D∈Ds,E.M D∧C.w0.heap.size≤D)→(∀ t x,tget s.tm t=some x→TVRep w E a (a.tmps.getD t undef) x)→HQ C.noM (bodyPost P fn Rp) .ret s→LeavesInM Fence.wide 0 P fn tmps Rp (Ds.map fun D=>⟨.collected D,#[]⟩) .returning w
  | [], a, w, E, ha, _, e0, r, hG, hsz, _, ht, h => by
    obtain ⟨_,v,h1,h2⟩:=h ⟨a.tmps,[]⟩ w ⟨E,e0,r,hG,hsz,by rw [show C.noM.ds=[] from hC.1];rfl,fun t x hx=>by
      have:=ht t x hx
      cases x with
      | v z=>exact this
      | un j b z=>exact this⟩
    exact ⟨v,by rw [←ha];exact h1,h2⟩
  | D :: Ds, a, w, E, ha, hnd, e0, r, hG, hsz, hD, ht, h => by
    refine ⟨(fun h=>by cases h),.inl ⟨D,w.putObj D (.deferred none),rfl,run_takeDeferred (r.bks D (hD D (List.mem_cons_self ..)).1),?_⟩⟩
    have hDb:=r.bks D (hD D (List.mem_cons_self ..)).1
    have hnm:=(List.nodup_cons.1 hnd).1
    let E':Env:=⟨E.F,E.L,E.G,fun b=>E.M b∧b≠D⟩
    have eE:Ext w E' w E:=⟨Nat.le_refl _,fun a h=>⟨h,rfl⟩,fun _ h=>h,fun _ _ h _=>h,fun _ h=>h.1⟩
    have up:∀ v x,Rep w E v x→Rep w E' v x:=by
      intro v x hr
      induction hr with
      | imm v=>exact .imm v
      | agg cs n f vs hn hv _ ih=>exact .agg cs n f vs hn hv ih
      | tup cs n f vs hn hv _ ih=>exact .tup cs n f vs hn hv ih
      | sl A n c sz f vs hc hm hA _ ih=>exact .sl A n c sz f vs hc hm hA ih
      | fp b o n f vs hA _ ih=>exact .fp b o n f vs hA ih
      | pt b k id g i off hg h=>exact .pt b k id g i off hg h
      | os A n c id g lo hg hc hm hA h0=>exact .os A n c id g lo hg hc hm hA h0
      | ifc t v x _ ih=>exact .ifc t v x ih
      | fn f cs n x vs hn hv _ ih=>exact .fn f cs n x vs hn hv ih
      | bnd f v x _ ih=>exact .bnd f v x ih
      | npn id g hg h=>exact .npn id g hg h
      | npp v id g hg hc _ ih=>exact .npp v id g hg hc ih
      | mp b id g hg h=>exact .mp b id g hg h
    have e1:Ext C.w0 C.E0 w E':=⟨e0.sz,e0.F,e0.G,e0.L,fun b hb=>⟨e0.M b hb,fun e=>by have:=hC.2.2 b hb;have:=(hD D (List.mem_cons_self ..)).2;omega⟩⟩
    have r1:R C.K C.w0 C.E0.F E' (hget s.hp) w:=⟨r.os,r.tape,r.output,r.size,r.keep,r.frz,r.fnew,r.klib,r.lib,fun b hb=>r.bks b hb.1,fun id o ho=>by
      obtain ⟨l,hl,a⟩:=r.obj id o ho
      refine ⟨l,hl,a.g,a.G,a.sz,a.pos,?_⟩
      rcases a.at_ with h0 | ⟨b,cs,g1,g2,g3,g4,g5,g6,⟨vs,g8⟩,g9⟩ | g
      · exact .inl h0
      · exact .inr (.inl ⟨b,cs,g1,g2,g3,g4,g5,g6,⟨vs,fun i j hi hj=>⟨(g8 i j hi hj).1,(g8 i j hi hj).2.1,up _ _ (g8 i j hi hj).2.2⟩⟩,g9⟩)
      · exact .inr (.inr g),r.inj⟩
    obtain ⟨e2,r2⟩:=r1.book hDb rfl (hD D (List.mem_cons_self ..)).2 (fun h=>h.2 rfl) (Bk.put w D (.deferred none))
    refine a8O B hC Ds a _ E' ha (List.nodup_cons.1 hnd).2 (e1.trans e2) r2 hG hsz (fun D' hD'=>⟨⟨(hD D' (List.mem_cons_of_mem _ hD')).1,fun e=>hnm (e▸hD')⟩,(hD D' (List.mem_cons_of_mem _ hD')).2⟩) (fun t x hx=>?_) h
    have:=ht t x hx
    cases x with
    | v z=>exact (up _ _ this).ext e2
    | un j b z=>exact ⟨fun hj=>(up _ _ (this.1 hj)).ext e2,this.2⟩
theorem c2R (hC:C.ds=[]∧C.mks=some C.w0.heap.size∧∀ b,C.E0.M b→b < C.w0.heap.size) (h:HQ C.noM (bodyPost P fn Rp) .ret s):HQ C (bodyPostM Fence.wide 0 P fn Rp) .ret s:=by
 intro a w ⟨E,e0,r,hG,hsz,hdf,ht⟩
 rw [hC.1,hC.2.1] at hdf
 obtain ⟨Ds,hd,hnd,hD⟩:=hdf
 show LeavesInM Fence.wide 0 P fn a.tmps Rp a.defers .returning w
 rw [hd]
 exact a8O 0 hC Ds a w E rfl hnd e0 r hG hsz hD ht h
theorem b6X (h:HQ C (bodyPostM Fence.wide 0 P fn Rp) .ret s):HQ C (bodyPostM Fence.wide 0 P fn Rp) .normal s:=h
end
end
end Go.Proofs.YtkeakpcieokhhaaGreatDoor
