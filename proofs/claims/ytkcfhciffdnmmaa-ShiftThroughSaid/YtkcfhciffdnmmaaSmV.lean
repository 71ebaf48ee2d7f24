/-
  A region that draws its order: every order leaves the same. Plain lemmas, no program in sight.
-/
import Derived.Test.YtkcfhciffdnmmaaHc
import Derived.Test.YtkcfhciffdnmmaaChecked
import Derived.Laws.IdiomStrings
import Derived.Recover
import Derived.Laws.RangeString
import Derived.RangeFuncLeaves
namespace Go.Proofs.Ytkcfhciffdnmmaa
set_option linter.unusedSimpArgs false
set_option linter.unusedVariables false
open Go.RowKit
def dstAt (l:List Oper) (k:Nat):Option Nat:=(l[k]?).bind (·.dst)
def spAt (ss:List HSpec) (k:Nat):HSpec:=ss.getD k ⟨.v default,[],[],[]⟩
def trun (l:List Oper) (ss:List HSpec) (t0:Nat→Option TV) (S:Nat→Bool):Nat→Nat→Option TV
 | 0,t=>t0 t
 | k+1,t=>if S k=true∧dstAt l k=some t then some (spAt ss k).tv else trun l ss t0 S k t
def hrun (ss:List HSpec) (h0:Nat→Option HObj) (S:Nat→Bool):Nat→Nat→Option HObj
 | 0=>h0
 | k+1=>if S k=true then hupd (hrun ss h0 S k) (spAt ss k).post else hrun ss h0 S k
def dtm (o:Oper) (sp:HSpec) (tm:List (Nat×TV)):List (Nat×TV):=match o.dst with | some d=>(d,sp.tv)::tm | none=>tm
inductive VRun (P:Program) (ops:Array Oper) (n clk:Nat) (tm0:List (Nat×TV)) (hp0:List (Nat×HObj)):List Oper→List HSpec→List (Nat×TV)→List (Nat×HObj)→Prop
 | nil:VRun P ops n clk tm0 hp0 [] [] tm0 hp0
 | snoc (l:List Oper) (ss:List HSpec) (tm:List (Nat×TV)) (hp:List (Nat×HObj)) (o:Oper) (sp:HSpec) (h:VRun P ops n clk tm0 hp0 l ss tm hp) (hst:HStep P ops o (tget tm) (clk+l.length) sp) (hpre:∀ p∈sp.pre,hget hp p.1=some p.2) (hd:∀ d,o.dst=some d→d < n) :
   VRun P ops n clk tm0 hp0 (l++[o]) (ss++[sp]) (dtm o sp tm) (sp.post++hp)
section
variable {l:List Oper} {ss:List HSpec} {t0:Nat→Option TV} {h0:Nat→Option HObj}
theorem trun_congr {l':List Oper} {ss':List HSpec} {S S':Nat→Bool} {t:Nat}:∀ m,(∀ k,k < m→dstAt l k=dstAt l' k)→(∀ k,k < m→dstAt l k=some t→S k=S' k∧spAt ss k=spAt ss' k)→trun l ss t0 S m t=trun l' ss' t0 S' m t
  | 0,_,_=>rfl
  | m + 1, h1, h2 => by
    have ih:=trun_congr (S:=S) (S':=S') (t:=t) (ss':=ss') m (fun k hk=>h1 k (by omega)) (fun k hk=>h2 k (by omega))
    simp only [trun]
    rw [←h1 m (by omega),ih]
    by_cases hd:dstAt l m=some t
    · obtain ⟨e1,e2⟩:=h2 m (by omega) hd
      rw [e1,e2]
    · simp [hd]
theorem hrun_congr {ss':List HSpec} {S S':Nat→Bool} {id:Nat}:∀ m,(∀ k,k < m→(spAt ss k).post=(spAt ss' k).post)→(∀ k,k < m→id∈(spAt ss k).post.map (·.1)→S k=S' k)→hrun ss h0 S m id=hrun ss' h0 S' m id
  | 0,_,_=>rfl
  | m + 1, h1, h2 => by
    have ih:=hrun_congr (S:=S) (S':=S') (id:=id) (ss':=ss') m (fun k hk=>h1 k (by omega)) (fun k hk=>h2 k (by omega))
    simp only [hrun]
    rw [←h1 m (by omega)]
    have miss:∀ (h:Nat→Option HObj) (p:List (Nat×HObj)),id∉p.map (·.1)→hupd h p id=h id:=by
      intro h p
      induction p with
      | nil=>intro _;rfl
      | cons q p ih =>
        intro hn
        simp only [List.map_cons,List.mem_cons,not_or] at hn
        show hset (hupd h p) q.1 q.2 id=_
        rw [hset_ne _ _ hn.1];exact ih hn.2
    have hit:∀ (h h':Nat→Option HObj) (p:List (Nat×HObj)),h id=h' id→hupd h p id=hupd h' p id:=by
      intro h h' p he
      induction p with
      | nil=>exact he
      | cons q p ih=>show hset (hupd h p) q.1 q.2 id=hset (hupd h' p) q.1 q.2 id;unfold hset;split <;> first | rfl | exact ih
    by_cases hw:id∈(spAt ss m).post.map (·.1)
    · rw [←h2 m (by omega) hw]
      split
      · exact hit _ _ _ ih
      · exact ih
    · split <;> split <;> first | exact ih | (simp only [miss _ _ hw];exact ih)
theorem hupd_miss {h:Nat→Option HObj} {id:Nat}:∀ {p:List (Nat×HObj)},id∉p.map (·.1)→hupd h p id=h id
  | [],_=>rfl
  | q :: p, hn => by
    simp only [List.map_cons,List.mem_cons,not_or] at hn
    show hset (hupd h p) q.1 q.2 id=_
    rw [hset_ne _ _ hn.1];exact hupd_miss hn.2
theorem hupd_hit {h h':Nat→Option HObj} {id:Nat}:∀ {p:List (Nat×HObj)},id∈p.map (·.1)→hupd h p id=hupd h' p id
  | [],hn=>by simp at hn
  | q :: p, hn => by
    show hset (hupd h p) q.1 q.2 id=hset (hupd h' p) q.1 q.2 id
    unfold hset
    split
    · rfl
    · rename_i hne
      simp only [List.map_cons,List.mem_cons] at hn
      exact hupd_hit (hn.resolve_left hne)
theorem trun_cut {i:Nat} {t:Nat}:∀ m,i≤m→trun l ss t0 (fun k=>decide (k < i)) m t=trun l ss t0 (fun _=>true) i t:=by
  intro m hm
  induction m with
  | zero=>obtain rfl:i=0:=(by omega);rfl
  | succ m ih =>
    by_cases hi:i=m+1
    · subst hi;exact trun_congr _ (fun _ _=>rfl) (fun k hk _=>⟨by simp [hk],rfl⟩)
    · rw [←ih (by omega)]
      simp only [trun]
      rw [if_neg]
      simp;omega
theorem hrun_cut {i:Nat} {id:Nat}:∀ m,i≤m→hrun ss h0 (fun k=>decide (k < i)) m id=hrun ss h0 (fun _=>true) i id:=by
  intro m hm
  induction m with
  | zero=>obtain rfl:i=0:=(by omega);rfl
  | succ m ih =>
    by_cases hi:i=m+1
    · subst hi;exact hrun_congr _ (fun _ _=>rfl) (fun k hk _=>by simp [hk])
    · rw [←ih (by omega)]
      simp only [hrun]
      rw [if_neg (by simp;omega)]
theorem trun_src {S:Nat→Bool} {t:Nat} {y:TV}:∀ {m},trun l ss t0 S m t=some y→t0 t=some y∨∃ k,k < m∧S k=true∧y=(spAt ss k).tv
  | 0,h=>.inl h
  | m + 1, h => by
    simp only [trun] at h
    split at h
    · rename_i hc;injection h with h;exact .inr ⟨m,by omega,hc.1,h.symm⟩
    · rcases trun_src h with h1 | ⟨k,h1,h2,h3⟩
      · exact .inl h1
      · exact .inr ⟨k,by omega,h2,h3⟩
end
structure Good (P:Program) (ops:Array Oper) (n clk:Nat) (tm0:List (Nat×TV)) (hp0:List (Nat×HObj)) (l:List Oper) (ss:List HSpec) (i:Nat) (o:Oper):Prop where
 st:HStep P ops o (trun l ss (tget tm0) (fun _=>true) i) (clk+i) (spAt ss i)
 pre:∀ p∈(spAt ss i).pre,hrun ss (hget hp0) (fun _=>true) i p.1=some p.2
 dst:∀ d,o.dst=some d→d < n
theorem VRun.good {P:Program} {ops:Array Oper} {n clk:Nat} {tm0:List (Nat×TV)} {hp0:List (Nat×HObj)} {l:List Oper} {ss:List HSpec} {tm:List (Nat×TV)} {hp:List (Nat×HObj)} (h:VRun P ops n clk tm0 hp0 l ss tm hp) :
    l.length=ss.length∧tget tm=trun l ss (tget tm0) (fun _=>true) l.length∧hget hp=hrun ss (hget hp0) (fun _=>true) l.length∧∀ i o,l[i]?=some o→Good P ops n clk tm0 hp0 l ss i o:=by
  induction h with
  | nil=>exact ⟨rfl,rfl,rfl,fun i o h=>by simp at h⟩
  | snoc l ss tm hp o sp h hst hpre hd ih =>
    obtain ⟨i1,i2,i3,i4⟩:=ih
    have d1:∀ k,k < l.length→dstAt l k=dstAt (l++[o]) k:=fun k hk=>by unfold dstAt;rw [List.getElem?_append_left hk]
    have s1:∀ k,k < l.length→spAt ss k=spAt (ss++[sp]) k:=fun k hk=>by unfold spAt;rw [List.getD_eq_getElem?_getD,List.getD_eq_getElem?_getD,List.getElem?_append_left (by omega)]
    have d2:dstAt (l++[o]) l.length=o.dst:=by unfold dstAt;rw [List.getElem?_append_right (Nat.le_refl _)];simp
    have s2:spAt (ss++[sp]) l.length=sp:=by unfold spAt;rw [List.getD_eq_getElem?_getD,i1,List.getElem?_append_right (Nat.le_refl _)];simp
    have t1:∀ k,k≤l.length→∀ t,trun l ss (tget tm0) (fun _=>true) k t=trun (l++[o]) (ss++[sp]) (tget tm0) (fun _=>true) k t:=fun k hk t=>trun_congr k (fun j hj=>d1 j (by omega)) (fun j hj _=>⟨rfl,s1 j (by omega)⟩)
    have h1:∀ k,k≤l.length→∀ t,hrun ss (hget hp0) (fun _=>true) k t=hrun (ss++[sp]) (hget hp0) (fun _=>true) k t:=fun k hk t=>hrun_congr k (fun j hj=>by rw [s1 j (by omega)]) (fun j hj _=>rfl)
    refine ⟨by simp [i1],?_,?_,fun i o' ho'=>?_⟩
    · funext t
      rw [List.length_append,List.length_singleton]
      simp only [trun,d2,s2,←t1 l.length (Nat.le_refl _),←i2,dtm]
      cases hdst:o.dst with
      | none=>simp
      | some d=>simp only [tget_cons,Option.some.injEq];by_cases htd:t=d <;> simp [htd,eq_comm]
    · funext t
      rw [List.length_append,List.length_singleton,hget_append]
      simp only [hrun,if_true,s2]
      have:hrun (ss++[sp]) (hget hp0) (fun _=>true) l.length=hget hp:=by funext t;rw [←h1 l.length (Nat.le_refl _),←i3]
      rw [this]
    · by_cases hi:i < l.length
      · rw [List.getElem?_append_left hi] at ho'
        have gd:=i4 i o' ho'
        refine ⟨?_,?_,gd.dst⟩
        · have e:trun (l++[o]) (ss++[sp]) (tget tm0) (fun _=>true) i=trun l ss (tget tm0) (fun _=>true) i:=funext fun t=>(t1 i (by omega) t).symm
          rw [←s1 i hi,e];exact gd.st
        · rw [←s1 i hi]
          intro p hp
          rw [←h1 i (by omega)];exact gd.pre p hp
      · have hil:i=l.length:=by
          have:i < (l++[o]).length:=by
            rcases Nat.lt_or_ge i (l++[o]).length with h | h
            · exact h
            · rw [List.getElem?_eq_none h] at ho';cases ho'
          rw [List.length_append,List.length_singleton] at this
          omega
        subst hil
        rw [List.getElem?_append_right (Nat.le_refl _),Nat.sub_self] at ho'
        simp at ho'
        subst ho'
        refine ⟨?_,?_,hd⟩
        · have e:trun (l++[o]) (ss++[sp]) (tget tm0) (fun _=>true) l.length=tget tm:=by rw [i2];exact funext fun t=>(t1 l.length (Nat.le_refl _) t).symm
          rw [s2,e];exact hst
        · rw [s2]
          intro p hp
          rw [←h1 l.length (Nat.le_refl _),←i3];exact hpre p hp
def edg (o:Oper):List Nat:=(o.after.toList.filter fun e=>Region.binds .any e).map (·.on)
def mkBef:List Oper→List (List Nat)→List (List Nat)
 | [],acc=>acc
 | o::r,acc=>mkBef r (acc++[(edg o++(edg o).flatMap fun e=>acc.getD e []).eraseDups])
def allV:List (Nat×TV)→Bool
 | []=>true
 | (_,.v _)::r=>allV r
 | (_,.un ..)::_=>false
def ids (p:List (Nat×HObj)):List Nat:=p.map (·.1)
def meets (a b:List Nat):Bool:=a.any fun x=>b.any (Nat.beq x)
def chk1 (i:Nat) (o:Oper):Bool:=(edg o).all fun e=>Nat.blt e i
def chk2 (bef:List (List Nat)) (i:Nat) (o:Oper):Bool:=(bef.getD i []).all fun j=>Nat.blt j i&&(edg o).any fun e=>Nat.beq e j||(bef.getD e []).any (Nat.beq j)
def chkA (l:List Oper) (i k:Nat):Bool:=match dstAt l i,dstAt l k with | some d,some d'=>!Nat.beq d d' | _,_=>true
def chkB (l:List Oper) (ss:List HSpec) (bef:List (List Nat)) (i k:Nat):Bool:=match dstAt l k with
 | some t=>!((spAt ss i).need.any (Nat.beq t))||(Nat.blt k i&&(bef.getD i []).any (Nat.beq k))||(Nat.blt i k&&(bef.getD k []).any (Nat.beq i))
 | none=>true
def chkC (ss:List HSpec) (bef:List (List Nat)) (i k:Nat):Bool :=
 !(meets (ids (spAt ss i).post) (ids (spAt ss k).pre++ids (spAt ss k).post)||meets (ids (spAt ss i).pre) (ids (spAt ss k).post))||(bef.getD i []).any (Nat.beq k)||(bef.getD k []).any (Nat.beq i)
def chk3 (l:List Oper) (ss:List HSpec) (bef:List (List Nat)) (i:Nat):Bool:=(List.range l.length).all fun k=>Nat.beq k i||(chkA l i k&&chkB l ss bef i k&&chkC ss bef i k)
def chk4 (l:List Oper) (ss:List HSpec) (i:Nat):Bool:=match dstAt l i with | some t=>!((spAt ss i).need.any (Nat.beq t)) | none=>true
def chk5 (l:List Oper) (ss:List HSpec) (bef:List (List Nat)) (i:Nat):Bool:=match (spAt ss i).tv with
 | .v _=>true
 | .un j _ _=>(List.range l.length).all fun k=>match dstAt l k with | some t=>!Nat.beq t j||(bef.getD i []).any (Nat.beq k) | none=>true
def chkI (l:List Oper) (ss:List HSpec) (bef:List (List Nat)) (i:Nat) (o:Oper):Bool:=chk1 i o&&chk2 bef i o&&chk3 l ss bef i&&chk4 l ss i&&chk5 l ss bef i
def chkR (l:List Oper) (ss:List HSpec) (tm0:List (Nat×TV)):Bool :=
 allV tm0&&(List.range l.length).all fun i=>match l[i]? with | some o=>chkI l ss (mkBef l []) i o | none=>false
structure Chk (l:List Oper) (ss:List HSpec) (bef:List (List Nat)):Prop where
 edge:∀ i o,l[i]?=some o→∀ e∈edg o,e < i
 befo:∀ i o,l[i]?=some o→∀ j∈bef.getD i [],j < i∧∃ e∈edg o,e=j∨j∈bef.getD e []
 dst:∀ i k d,i < l.length→k < l.length→k≠i→dstAt l i=some d→dstAt l k≠some d
 need:∀ i k t,i < l.length→k < l.length→t∈(spAt ss i).need→dstAt l k=some t→(k < i∧k∈bef.getD i [])∨(i < k∧i∈bef.getD k [])
 conf:∀ i k id,i < l.length→k < l.length→k≠i→id∈ids (spAt ss k).post→(id∈ids (spAt ss i).pre∨id∈ids (spAt ss i).post)→k∈bef.getD i []∨i∈bef.getD k []
 un:∀ i j b x k,i < l.length→k < l.length→(spAt ss i).tv=.un j b x→dstAt l k=some j→k∈bef.getD i []
theorem any_beq {a:Nat} {l:List Nat}:l.any (Nat.beq a)=true↔a∈l:=by
 rw [List.any_eq_true]
 constructor
 ·rintro ⟨x,hx,he⟩;rw [Nat.beq_eq] at he;subst he;exact hx
 ·intro h;exact ⟨a,h,Nat.beq_refl a⟩
theorem meets_iff {a b:List Nat}:meets a b=true↔∃ x,x∈a∧x∈b:=by
 unfold meets
 rw [List.any_eq_true]
 constructor
 ·rintro ⟨x,hx,he⟩;exact ⟨x,hx,any_beq.1 he⟩
 ·rintro ⟨x,hx,he⟩;exact ⟨x,hx,any_beq.2 he⟩
theorem chk_of {l:List Oper} {ss:List HSpec} {tm0:List (Nat×TV)} (h:chkR l ss tm0=true):allV tm0=true∧Chk l ss (mkBef l []):=by
 unfold chkR at h
 rw [Bool.and_eq_true] at h
 refine ⟨h.1,?_⟩
 generalize mkBef l []=bef at h
 have each:∀ i o,l[i]?=some o→chkI l ss bef i o=true:=by
  intro i o ho
  have hi:i < l.length:=by
   rcases Nat.lt_or_ge i l.length with h | h
   ·exact h
   ·rw [List.getElem?_eq_none h] at ho;cases ho
  have:=List.all_eq_true.1 h.2 i (List.mem_range.2 hi)
  rw [ho] at this;exact this
 have op_:∀ i,i < l.length→∃ o,l[i]?=some o:=fun i hi=>⟨l[i],List.getElem?_eq_getElem hi⟩
 have parts:∀ i o,l[i]?=some o→chk1 i o=true∧chk2 bef i o=true∧chk3 l ss bef i=true∧chk4 l ss i=true∧chk5 l ss bef i=true:=by
  intro i o ho
  have:=each i o ho
  unfold chkI at this
  simp only [Bool.and_eq_true] at this
  exact ⟨this.1.1.1.1,this.1.1.1.2,this.1.1.2,this.1.2,this.2⟩
 have pair:∀ i o k,l[i]?=some o→k < l.length→k≠i→(chkA l i k=true∧chkB l ss bef i k=true)∧chkC ss bef i k=true:=by
  intro i o k ho hk hne
  have h3:=(parts i o ho).2.2.1
  unfold chk3 at h3
  have:=List.all_eq_true.1 h3 k (List.mem_range.2 hk)
  rw [Bool.or_eq_true] at this
  have h1:=this.resolve_left (fun h=>hne (by rwa [Nat.beq_eq] at h))
  simp only [Bool.and_eq_true] at h1
  exact h1
 refine ⟨fun i o ho e he=>?_,fun i o ho j hj=>?_,fun i k d hi hk hne hd hd'=>?_,fun i k t hi hk ht hd=>?_,fun i k id hi hk hne h1 h2=>?_,fun i j b x k hi hk htv hd=>?_⟩
 ·have h1:=(parts i o ho).1
  unfold chk1 at h1
  have:=List.all_eq_true.1 h1 e he
  simpa [Nat.blt_eq] using this
 ·have h1:=(parts i o ho).2.1
  unfold chk2 at h1
  have:=List.all_eq_true.1 h1 j hj
  rw [Bool.and_eq_true,Nat.blt_eq,List.any_eq_true] at this
  obtain ⟨h1,e,he,h2⟩:=this
  rw [Bool.or_eq_true,Nat.beq_eq,any_beq] at h2
  exact ⟨h1,e,he,h2⟩
 ·obtain ⟨o,ho⟩:=op_ i hi
  have:=(pair i o k ho hk hne).1.1
  unfold chkA at this
  rw [hd,hd'] at this
  simp at this
 ·obtain ⟨o,ho⟩:=op_ i hi
  by_cases hne:k=i
  ·subst hne
   have:=(parts k o ho).2.2.2.1
   unfold chk4 at this
   rw [hd] at this
   simp only [Bool.not_eq_true'] at this
   rw [←Bool.not_eq_true,any_beq] at this
   exact absurd ht this
  ·have:=(pair i o k ho hk hne).1.2
   unfold chkB at this
   rw [hd] at this
   simp only [Bool.or_eq_true,Bool.and_eq_true,Bool.not_eq_true',Nat.blt_eq,any_beq] at this
   rcases this with (h | h) | h
   ·rw [←Bool.not_eq_true,any_beq] at h;exact absurd ht h
   ·exact .inl h
   ·exact .inr h
 ·obtain ⟨o,ho⟩:=op_ i hi
  have:=(pair i o k ho hk hne).2
  unfold chkC at this
  simp only [Bool.or_eq_true,Bool.not_eq_true',any_beq,Bool.or_eq_false_iff] at this
  rcases this with (h | h) | h
  ·rcases h2 with h2 | h2
   ·have:=h.2
    rw [←Bool.not_eq_true,meets_iff] at this
    exact absurd ⟨id,h2,h1⟩ this
   ·have:=h.1
    rw [←Bool.not_eq_true,meets_iff] at this
    exact absurd ⟨id,h2,List.mem_append.2 (.inr h1)⟩ this
  ·exact .inl h
  ·exact .inr h
 ·obtain ⟨o,ho⟩:=op_ i hi
  have:=(parts i o ho).2.2.2.2
  unfold chk5 at this
  rw [htv] at this
  have:=List.all_eq_true.1 this k (List.mem_range.2 hk)
  rw [hd] at this
  simp only [Bool.or_eq_true,Bool.not_eq_true',any_beq] at this
  exact this.resolve_left (fun h=>by rw [←Bool.not_eq_true,Nat.beq_eq] at h;exact h rfl)
theorem allV_spec {tm:List (Nat×TV)} (h:allV tm=true):∀ t y,tget tm t=some y→∃ x,y=.v x:=by
  induction tm with
  | nil=>intro t y h;cases h
  | cons q r ih =>
    obtain ⟨k,z⟩:=q
    cases z with
    | un j b x=>cases h
    | v x =>
      intro t y ht
      rw [tget_cons] at ht
      split at ht
      · injection ht with ht;exact ⟨x,ht.symm⟩
      · exact ih h t y ht
section
variable {C:Ctx} {P:Program} {Q:Exit→Act→World→Prop} {n clk:Nat} {tm0:List (Nat×TV)} {hp0:List (Nat×HObj)} {l:List Oper} {ss:List HSpec}
structure Inv (C:Ctx) (n clk:Nat) (tm0:List (Nat×TV)) (hp0:List (Nat×HObj)) (l:List Oper) (ss:List HSpec) (listed:Array Bool) (a:Act) (w:World):Prop where
 sz:listed.size=l.length
 closed:∀ i o,l[i]?=some o→listed.getD i false=true→∀ e∈edg o,listed.getD e false=true
 st:∃ E,Ext C.w0 C.E0 w E∧R C.K C.w0 C.E0.F E (hrun ss (hget hp0) (fun k=>listed.getD k false) l.length) w∧(∀ g,E.G g→g < clk∨∃ k,k < l.length∧listed.getD k false=true∧g=clk+k)∧a.tmps.size=n∧DefOk C.mks w E C.ds a.defers ∧
  ∀ t x,trun l ss (tget tm0) (fun k=>listed.getD k false) l.length t=some x→TVRep w E a (a.tmps.getD t undef) x
theorem bef_closed {bef:List (List Nat)} (hc:Chk l ss bef) {S:Nat→Bool} (hcl:∀ i o,l[i]?=some o→S i=true→∀ e∈edg o,S e=true):∀ i o,l[i]?=some o→(∀ e∈edg o,S e=true)→∀ j∈bef.getD i [],S j=true:=by
  intro i
  induction i using Nat.strongRecOn with
  | _ i ih =>
    intro o ho he j hj
    obtain ⟨_,e,hee,h2⟩:=hc.befo i o ho j hj
    rcases h2 with rfl | h2
    · exact he _ hee
    · have hlt:=hc.edge i o ho e hee
      have hi:i < l.length:=by
        rcases Nat.lt_or_ge i l.length with h | h
        · exact h
        · rw [List.getElem?_eq_none h] at ho;cases ho
      have hle:l[e]?=some l[e]:=List.getElem?_eq_getElem (by omega)
      exact ih e hlt _ hle (hcl e _ hle (he e hee)) j h2
theorem edg_ready {listed:Array Bool} {i:Nat} {o:Oper} (hr:i∈Region.ready .any l.toArray listed) (ho:l[i]?=some o) (hsz:listed.size=l.length):listed.getD i false=false∧i < l.length∧∀ e∈edg o,listed.getD e false=true:=by
 obtain ⟨h1,o',ho',h2⟩:=mem_ready.1 hr
 have hi:i < l.length:=by
  rcases Nat.lt_or_ge i l.length with h | h
  ·exact h
  ·rw [List.getElem?_eq_none h] at ho;cases ho
 have:o'=o:=by
  have e:l.toArray[i]?=l[i]?:=by simp
  rw [e,ho] at ho';injection ho' with ho';exact ho'.symm
 subst this
 refine ⟨?_,hi,fun e he=>?_⟩
 ·have hl:i < listed.size:=by omega
  simpa [hl] using h1
 ·obtain ⟨x,hx,rfl⟩:=List.mem_map.1 he
  obtain ⟨hx1,hx2⟩:=List.mem_filter.1 hx
  exact h2 x (by simpa using hx1) (by simpa using hx2)
theorem getD_set (listed:Array Bool) (i k:Nat) (hi:i < listed.size):(listed.setIfInBounds i true).getD k false=if k=i then true else listed.getD k false:=by
 by_cases hk:k=i
 ·subst hk;simp [hi]
 ·simp [hk,Array.getElem?_setIfInBounds,Ne.symm hk]
theorem Inv.look {bef:List (List Nat)} (hc:Chk l ss bef) {listed:Array Bool} {a:Act} {w:World} (hI:Inv C n clk tm0 hp0 l ss listed a w) {i:Nat} (hr:i∈Region.ready .any l.toArray listed) {o:Oper} (ho:l[i]?=some o) (hpre0:∀ p∈(spAt ss i).pre,hrun ss (hget hp0) (fun _=>true) i p.1=some p.2) :
  ∃ E,Ext C.w0 C.E0 w E∧R C.K C.w0 C.E0.F E (hrun ss (hget hp0) (fun k=>listed.getD k false) l.length) w∧(∀ g,E.G g→g < clk∨∃ k,k < l.length∧listed.getD k false=true∧g=clk+k)∧a.tmps.size=n∧DefOk C.mks w E C.ds a.defers ∧
  (∀ t x,trun l ss (tget tm0) (fun k=>listed.getD k false) l.length t=some x→TVRep w E a (a.tmps.getD t undef) x) ∧
  (∀ t x,t∈(spAt ss i).need→trun l ss (tget tm0) (fun _=>true) i t=some x→TVRep w E a (a.tmps.getD t undef) x)∧∀ p∈(spAt ss i).pre,hrun ss (hget hp0) (fun k=>listed.getD k false) l.length p.1=some p.2:=by
 obtain ⟨hun,hi,hedg⟩:=edg_ready hr ho hI.sz
 obtain ⟨E,e0,r,hG,hsz,hdf,ht⟩:=hI.st
 have hilt:i < listed.size:=by rw [hI.sz];exact hi
 have hbef:∀ j∈bef.getD i [],listed.getD j false=true:=bef_closed hc (S:=fun k=>listed.getD k false) hI.closed i o ho hedg
 have hnot:∀ k,k < l.length→i∈bef.getD k []→listed.getD k false=false:=by
  intro k hk hik
  rw [←Bool.not_eq_true]
  intro hkl
  have hko:l[k]?=some l[k]:=List.getElem?_eq_getElem hk
  have:=bef_closed hc (S:=fun k=>listed.getD k false) hI.closed k _ hko (hI.closed k _ hko hkl) i hik
  rw [hun] at this;cases this
 have hbl:∀ j∈bef.getD i [],j < i:=fun j hj=>(hc.befo i o ho j hj).1
 have htm:∀ t x,t∈(spAt ss i).need→trun l ss (tget tm0) (fun _=>true) i t=some x→trun l ss (tget tm0) (fun k=>listed.getD k false) l.length t=some x:=by
  intro t x htn hx
  rw [←trun_cut l.length (by omega)] at hx
  rw [←hx]
  refine trun_congr _ (fun _ _=>rfl) (fun k hk hd=>⟨?_,rfl⟩)
  rcases hc.need i k t hi hk htn hd with ⟨h1,h2⟩ | ⟨h1,h2⟩
  ·rw [hbef k h2];simp [h1]
  ·rw [hnot k hk h2];simp;omega
 have wr:∀ id,(id∈ids (spAt ss i).pre∨id∈ids (spAt ss i).post)→∀ k,k < l.length→k≠i→id∈(spAt ss k).post.map (·.1)→listed.getD k false=decide (k < i):=by
  intro id hid k hk hne hw
  rcases hc.conf i k id hi hk hne hw hid with h | h
  ·rw [hbef k h];simp [hbl k h]
  ·rw [hnot k hk h]
   have hko:l[k]?=some l[k]:=List.getElem?_eq_getElem hk
   have:=(hc.befo k _ hko i h).1
   simp;omega
 have hpre:∀ p∈(spAt ss i).pre,hrun ss (hget hp0) (fun k=>listed.getD k false) l.length p.1=some p.2:=by
  intro p hp
  rw [←hpre0 p hp,←hrun_cut l.length (by omega)]
  refine hrun_congr _ (fun _ _=>rfl) (fun k hk hw=>?_)
  by_cases hne:k=i
  ·subst hne;rw [hun];simp
  ·exact wr p.1 (.inl (List.mem_map.2 ⟨p,hp,rfl⟩)) k hk hne hw
 exact ⟨E,e0,r,hG,hsz,hdf,ht,fun t x htn hx=>ht t x (htm t x htn hx),hpre⟩
theorem Inv.step {bef:List (List Nat)} (hc:Chk l ss bef) (hV:allV tm0=true) {i:Nat} (hg:∀ o,l[i]?=some o→Good P l.toArray n clk tm0 hp0 l ss i o) {listed:Array Bool} {a:Act} {w:World} (hI:Inv C n clk tm0 hp0 l ss listed a w) (hr:i∈Region.ready .any l.toArray listed) {N:Act→World→Prop}
    (hN:∀ a' w',Inv C n clk tm0 hp0 l ss (listed.setIfInBounds i true) a' w'→N a' w'):wpOpX P l.toArray Q i N a w:=by
  have hm:=mem_ready.1 hr
  obtain ⟨_,o,ho',_⟩:=hm
  have ho:l[i]?=some o:=by rw [←ho'];simp
  obtain ⟨hun,hi,hedg⟩:=edg_ready hr ho hI.sz
  have gd:=hg o ho
  obtain ⟨E,e0,r,hG,hsz,hdf,ht⟩:=hI.st
  have hilt:i < listed.size:=by rw [hI.sz];exact hi
  have hbef:∀ j∈bef.getD i [],listed.getD j false=true:=bef_closed hc (S:=fun k=>listed.getD k false) hI.closed i o ho hedg
  have hnot:∀ k,k < l.length→i∈bef.getD k []→listed.getD k false=false:=by
    intro k hk hik
    rw [←Bool.not_eq_true]
    intro hkl
    have hko:l[k]?=some l[k]:=List.getElem?_eq_getElem hk
    have:=bef_closed hc (S:=fun k=>listed.getD k false) hI.closed k _ hko (hI.closed k _ hko hkl) i hik
    rw [hun] at this;cases this
  have hbl:∀ j∈bef.getD i [],j < i:=fun j hj=>(hc.befo i o ho j hj).1
  have htm:∀ t x,t∈(spAt ss i).need→trun l ss (tget tm0) (fun _=>true) i t=some x→trun l ss (tget tm0) (fun k=>listed.getD k false) l.length t=some x:=by
    intro t x htn hx
    rw [←trun_cut l.length (by omega)] at hx
    rw [←hx]
    refine trun_congr _ (fun _ _=>rfl) (fun k hk hd=>⟨?_,rfl⟩)
    rcases hc.need i k t hi hk htn hd with ⟨h1,h2⟩ | ⟨h1,h2⟩
    · rw [hbef k h2];simp [h1]
    · rw [hnot k hk h2];simp;omega
  have wr:∀ id,(id∈ids (spAt ss i).pre∨id∈ids (spAt ss i).post)→∀ k,k < l.length→k≠i→id∈(spAt ss k).post.map (·.1)→listed.getD k false=decide (k < i):=by
    intro id hid k hk hne hw
    rcases hc.conf i k id hi hk hne hw hid with h | h
    · rw [hbef k h];simp [hbl k h]
    · rw [hnot k hk h]
      have hko:l[k]?=some l[k]:=List.getElem?_eq_getElem hk
      have:=(hc.befo k _ hko i h).1
      simp;omega
  have hpre:∀ p∈(spAt ss i).pre,hrun ss (hget hp0) (fun k=>listed.getD k false) l.length p.1=some p.2:=by
    intro p hp
    rw [←gd.pre p hp,←hrun_cut l.length (by omega)]
    refine hrun_congr _ (fun _ _=>rfl) (fun k hk hw=>?_)
    by_cases hne:k=i
    · subst hne;rw [hun];simp
    · exact wr p.1 (.inl (List.mem_map.2 ⟨p,hp,rfl⟩)) k hk hne hw
  have hgf:¬ E.G (clk+i):=by
    intro hgg
    rcases hG _ hgg with h | ⟨k,_,h2,h3⟩
    · omega
    · have:k=i:=by omega
      subst this;rw [hun] at h2;cases h2
  unfold wpOpX
  have hoa:l.toArray[i]?=some o:=by rw [←ho];simp
  simp only [hoa]
  have key:=gd.st C.K C.w0 C.E0.F E _ a w Q N r (fun t x htn hx=>ht t x (htm t x htn hx)) hgf ⟨clk+l.length,fun g hg=>by rcases hG g hg with h | ⟨k,h1,_,h3⟩ <;> omega⟩ hpre (fun val w' E' e' r' hG' hv=>hN _ _ ?_)
  · split
    · rename_i hw;rw [if_pos hw] at key;exact Or.inl key
    · rename_i hw;rw [if_neg hw] at key;exact key
  · refine ⟨by simp [hI.sz],fun k o' hk' hkl e he=>?_,E',e0.trans e',?_,fun g hg'=>?_,?_,?_,?_⟩
    · rw [getD_set _ _ _ hilt] at hkl ⊢
      split
      · rfl
      · split at hkl
        · rename_i hki;subst hki
          rw [ho] at hk';injection hk' with hk';subst hk'
          exact hedg e he
        · exact hI.closed k o' hk' hkl e he
    · have:hrun ss (hget hp0) (fun k=>(listed.setIfInBounds i true).getD k false) l.length=hupd (hrun ss (hget hp0) (fun k=>listed.getD k false) l.length) (spAt ss i).post:=by
        funext id
        by_cases hid:id∈(spAt ss i).post.map (·.1)
        · rw [hupd_hit (h':=hrun ss (hget hp0) (fun _=>true) i) hid]
          have e1:hupd (hrun ss (hget hp0) (fun _=>true) i) (spAt ss i).post=hrun ss (hget hp0) (fun _=>true) (i+1):=by simp only [hrun,if_true]
          rw [e1,←hrun_cut (i:=i+1) l.length (by omega)]
          refine hrun_congr _ (fun _ _=>rfl) (fun k hk hw=>?_)
          rw [getD_set _ _ _ hilt]
          by_cases hne:k=i
          · subst hne;simp
          · rw [if_neg hne,wr id (.inr hid) k hk hne hw]
            have:(k < i)↔(k < i+1):=by omega
            simp [this]
        · rw [hupd_miss hid]
          refine hrun_congr _ (fun _ _=>rfl) (fun k hk hw=>?_)
          rw [getD_set _ _ _ hilt,if_neg (fun hki=>hid (by subst hki;exact hw))]
      rw [this];exact r'
    · rcases hG' g hg' with h | ⟨_,h⟩
      · rcases hG g h with h | ⟨k,h1,h2,h3⟩
        · exact .inl h
        · exact .inr ⟨k,h1,by rw [getD_set _ _ _ hilt];split <;> first | rfl | exact h2,h3⟩
      · exact .inr ⟨i,hi,by rw [getD_set _ _ _ hilt,if_pos rfl],h⟩
    · cases hd : o.dst with
      | none=>simpa [Act.put] using hsz
      | some d=>simpa [Act.put] using hsz
    · cases hd:o.dst <;> exact hdf.ext e'
    · intro t x hx
      have hdi:dstAt l i=o.dst:=by unfold dstAt;rw [ho];rfl
      have keep:∀ (u:Value) (y:TV),(∀ d j b z,o.dst=some d→y=.un j b z→j≠d)→TVRep w' E' a u y→TVRep w' E' (a.put o.dst val) u y:=by
        intro u y hy h
        cases hd:o.dst with
        | none=>exact h
        | some d =>
          cases y with
          | v z=>exact h
          | un j b z=>simp only [TVRep,getD_put_ne (hy d j b z hd rfl)];exact h
      by_cases hti:o.dst=some t
      · have hx1:trun l ss (tget tm0) (fun k=>(listed.setIfInBounds i true).getD k false) l.length t=some (spAt ss i).tv:=by
          have:∀ m,i < m→m≤l.length→trun l ss (tget tm0) (fun k=>(listed.setIfInBounds i true).getD k false) m t=some (spAt ss i).tv:=by
            intro m
            induction m with
            | zero=>intro h;omega
            | succ m ih =>
              intro him hml
              simp only [trun]
              by_cases hmi:m=i
              · subst hmi
                rw [if_pos ⟨by rw [getD_set _ _ _ hilt,if_pos rfl],by rw [hdi,hti]⟩]
              · rw [if_neg (fun hh=>hc.dst i m t hi (by omega) hmi (by rw [hdi,hti]) hh.2)]
                exact ih (by omega) (by omega)
          exact this l.length hi (Nat.le_refl _)
        rw [hx1] at hx
        injection hx with hx
        subst hx
        have hlt:=gd.dst t hti
        rw [hti,getD_put_same (by rw [hsz];exact hlt),←hti]
        refine keep val _ (fun d j b z hd hy hjd=>?_) hv
        subst hjd
        have:=hc.un i j b z i hi hi hy (by rw [hdi,hd])
        exact absurd (hbl i this) (Nat.lt_irrefl _)
      · have hx1:trun l ss (tget tm0) (fun k=>listed.getD k false) l.length t=some x:=by
          rw [←hx]
          refine trun_congr _ (fun _ _=>rfl) (fun k hk hd=>⟨?_,rfl⟩)
          rw [getD_set _ _ _ hilt,if_neg (fun hki=>hti (by subst hki;rw [←hdi];exact hd))]
        have hgd:(a.put o.dst val).tmps.getD t undef=a.tmps.getD t undef:=by
          cases hd:o.dst with
          | none=>rfl
          | some d=>exact getD_put_ne (fun htd=>hti (by rw [hd,htd]))
        rw [hgd]
        refine keep _ _ (fun d j b z hd hy hjd=>?_) ((ht t x hx1).ext e')
        subst hjd
        rcases trun_src hx1 with h | ⟨k,hk,hkS,hk2⟩
        · obtain ⟨z',hz'⟩:=allV_spec hV t x h
          rw [hz'] at hy;cases hy
        · have:=hc.un k j b z i hk hi (by rw [←hk2];exact hy) (by rw [hdi,hd])
          rw [hnot k hk this] at hkS;cases hkS
theorem Inv.any {bef:List (List Nat)} (hc:Chk l ss bef) (hV:allV tm0=true) (hg:∀ i o,l[i]?=some o→Good P l.toArray n clk tm0 hp0 l ss i o) (hQ:∀ a w listed,Inv C n clk tm0 hp0 l ss listed a w→(∀ k,k < l.length→listed.getD k false=true)→Q .normal a w) :
    ∀ (fuel:Nat) (listed:Array Bool) (a:Act) (w:World),listed.toList.count false≤fuel→Inv C n clk tm0 hp0 l ss listed a w→wpAnyX P .any l.toArray Q fuel listed a w:=by
  have full:∀ (listed:Array Bool) (a:Act) (w:World),Inv C n clk tm0 hp0 l ss listed a w→Region.ready .any l.toArray listed=[]→∀ k,k < l.length→listed.getD k false=true:=by
    intro listed a w hI hr k
    induction k using Nat.strongRecOn with
    | _ k ih =>
      intro hk
      have hko:l[k]?=some l[k]:=List.getElem?_eq_getElem hk
      rw [←Bool.not_eq_false]
      intro hkf
      have:k∈Region.ready .any l.toArray listed:=by
        refine mem_ready.2 ⟨?_,l[k],by simp,fun e he hb=>?_⟩
        · have hkl:k < listed.size:=by rw [hI.sz];exact hk
          simpa [hkl] using hkf
        · have hee:e.on∈edg l[k]:=List.mem_map.2 ⟨e,List.mem_filter.2 ⟨by simpa using he,hb⟩,rfl⟩
          exact ih e.on (hc.edge k _ hko _ hee) (by have:=hc.edge k _ hko _ hee;omega)
      rw [hr] at this;cases this
  intro fuel
  induction fuel with
  | zero =>
    intro listed a w hcnt hI
    have hall:∀ k,k < l.length→listed.getD k false=true:=by
      intro k hk
      have hkl:k < listed.size:=by rw [hI.sz];exact hk
      rw [←Bool.not_eq_false]
      intro hkf
      have hmem:false∈listed.toList:=by
        have:listed[k]=false:=by simpa [hkl] using hkf
        rw [←this];simp
      have:=List.count_pos_iff.2 hmem
      omega
    refine ⟨?_,hQ a w listed hI hall⟩
    cases hr:Region.ready .any l.toArray listed with
    | nil=>rfl
    | cons i r =>
      have hi:i∈Region.ready .any l.toArray listed:=by rw [hr];exact List.mem_cons_self ..
      obtain ⟨_,o,ho,_⟩:=mem_ready.1 hi
      have ho:l[i]?=some o:=by rw [←ho];simp
      obtain ⟨h1,h2,_⟩:=edg_ready hi ho hI.sz
      rw [hall i h2] at h1;cases h1
  | succ fuel ih =>
    intro listed a w hcnt hI
    refine ⟨fun hr=>hQ a w listed hI (full listed a w hI hr),fun i hr=>?_⟩
    refine hI.step hc hV (hg i) hr (fun a' w' hI'=>ih _ a' w' ?_ hI')
    obtain ⟨_,o,ho,_⟩:=mem_ready.1 hr
    have ho:l[i]?=some o:=by rw [←ho];simp
    obtain ⟨h1,h2,_⟩:=edg_ready hr ho hI.sz
    have hil:i < listed.toList.length:=by rw [Array.length_toList,hI.sz];exact h2
    have hli:listed.toList[i]=false:=by
      have hkl:i < listed.size:=by rw [hI.sz];exact h2
      simpa [hkl] using h1
    have hpos:0 < listed.toList.count false:=List.count_pos_iff.2 (by rw [←hli];exact List.getElem_mem hil)
    rw [Array.toList_setIfInBounds,List.count_set hil,hli]
    have e1:(false == false)=true:=rfl
    have e2:(true == false)=false:=rfl
    rw [e1,e2]
    simp only [if_true,Bool.false_eq_true,if_false]
    omega
def HDr (P:Program) (n clk:Nat) (tm0:List (Nat×TV)) (hp0:List (Nat×HObj)) (L:List Oper) (dn:List Oper) (ss:List HSpec) (rest:List Oper) (k:Nat) (tm:List (Nat×TV)) (hp:List (Nat×HObj)) (Fin:Prop):Prop :=
 dn++rest=L→dn.length=k→VRun P L.toArray n clk tm0 hp0 dn ss tm hp→Fin
theorem hd_start {id:Nat} (h:HDr P n clk tm0 hp0 l [] [] l 0 tm0 hp0 (HWp C P (.region id l.toArray true) ⟨n,tm0,hp0,clk⟩ Q)):HWp C P (.region id l.toArray true) ⟨n,tm0,hp0,clk⟩ Q:=h rfl rfl .nil
theorem hd_nil {id:Nat} {dn:List Oper} {k:Nat} {tm:List (Nat×TV)} {hp:List (Nat×HObj)} (hm:P.follows .mixedOrders=true) (hc:chkR l ss tm0=true) {c':Nat} (hc':clk+k=c') (h:HQ C Q .normal ⟨n,tm,hp,c'⟩) (nd:C.rd=none∨l.all Oper.calm=true:=by first | exact .inr rfl | exact .inl rfl | exact .inl (by assumption)):HDr P n clk tm0 hp0 l dn ss [] k tm hp (HWp C P (.region id l.toArray true) ⟨n,tm0,hp0,clk⟩ Q):=by
 subst hc'
 intro hdl hk hv a w hs
 rw [List.append_nil] at hdl
 subst hdl;subst hk
 obtain ⟨hV,hchk⟩:=chk_of hc
 obtain ⟨g1,g2,g3,g4⟩:=hv.good
 obtain ⟨E,e0,r,hG,hsz,hdf,ht⟩:=hs
 have start:Inv C n clk tm0 hp0 dn ss (Array.replicate dn.length false) a w.drew:=by
  have hf:∀ k,(Array.replicate dn.length false).getD k false=false:=by
   intro k;by_cases hk:k < dn.length <;> simp [hk]
  have hfun:(fun k=>(Array.replicate dn.length false).getD k false)=fun _=>false:=funext hf
  have hz:∀ m,hrun ss (hget hp0) (fun _=>false) m=hget hp0:=by
   intro m
   induction m with
   | zero=>rfl
   | succ m ih=>simp only [hrun,Bool.false_eq_true,if_false];exact ih
  have hzt:∀ m t,trun dn ss (tget tm0) (fun _=>false) m t=tget tm0 t:=by
   intro m t
   induction m with
   | zero=>rfl
   | succ m ih=>simp only [trun,Bool.false_eq_true,false_and,if_false];exact ih
  refine ⟨by simp,(fun i o _ h=>by rw [hf] at h;cases h),E,e0.trans (r.extBelow (Below.refl _ _).drew),(by rw [hfun,hz];exact r.drew),fun g hg=>.inl (hG g hg),hsz,hdf.ext (r.extBelow (Below.refl _ _).drew),fun t x hx=>?_⟩
  rw [hfun] at hx
  rw [hzt] at hx
  exact (ht t x hx).ext (r.extBelow (Below.refl _ _).drew)
 refine wpR_region_any nd hm ?_
 have:=Inv.any (C:=C) (P:=P) (Q:=Q) hchk hV g4 (fun a' w' listed hI hall=>h a' w' ?_) dn.toArray.size (Array.replicate dn.length false) a w.drew (by simp) start
 ·simpa using this
 ·obtain ⟨E',e',r',hG',hsz',hdf',ht'⟩:=hI.st
  have e1:hrun ss (hget hp0) (fun k=>listed.getD k false) dn.length=hget hp:=by
   rw [g3];funext id;exact hrun_congr _ (fun _ _=>rfl) (fun k hk _=>hall k hk)
  have e2:∀ t,trun dn ss (tget tm0) (fun k=>listed.getD k false) dn.length t=tget tm t:=by
   intro t;rw [g2];exact trun_congr _ (fun _ _=>rfl) (fun k hk _=>⟨hall k hk,rfl⟩)
  rw [e1] at r'
  refine ⟨E',e',r',fun g hg=>?_,hsz',hdf',fun t x hx=>ht' t x (by rw [e2];exact hx)⟩
  rcases hG' g hg with h | ⟨k,h1,_,h3⟩
  ·show g < clk+dn.length;omega
  ·show g < clk+dn.length;omega
section
variable {Fin:Prop} {o:Oper} {rest dn:List Oper} {k:Nat} {tm:List (Nat×TV)} {hp:List (Nat×HObj)} {L:List Oper} {pre post:List (Nat×HObj)} {v:HV}
theorem hd_cons (sp:HSpec) (d:Nat) (hd:o.dst=some d) (hst:HStep P L.toArray o (tget tm) (clk+k) sp) (hpre:∀ p∈sp.pre,hget hp p.1=some p.2) (hlt:Nat.blt d n=true) (h:HDr P n clk tm0 hp0 L (dn++[o]) (ss++[sp]) rest (k+1) ((d,sp.tv)::tm) (sp.post++hp) Fin):HDr P n clk tm0 hp0 L dn ss (o::rest) k tm hp Fin:=by
 intro hL hk hv
 subst hk
 have:=VRun.snoc dn ss tm hp o sp hv hst hpre (fun d' hd'=>by rw [hd] at hd';injection hd' with hd';subst hd';simpa [Nat.blt_eq] using hlt)
 have e:dtm o sp tm=(d,sp.tv)::tm:=by unfold dtm;rw [hd]
 rw [e] at this
 exact h (by simpa using hL) (by simp) this
theorem hd_cons_ (sp:HSpec) (hd:o.dst=none) (hst:HStep P L.toArray o (tget tm) (clk+k) sp) (hpre:∀ p∈sp.pre,hget hp p.1=some p.2) (h:HDr P n clk tm0 hp0 L (dn++[o]) (ss++[sp]) rest (k+1) tm (sp.post++hp) Fin):HDr P n clk tm0 hp0 L dn ss (o::rest) k tm hp Fin:=by
 intro hL hk hv
 subst hk
 have:=VRun.snoc dn ss tm hp o sp hv hst hpre (fun d' hd'=>by rw [hd] at hd';cases hd')
 have e:dtm o sp tm=tm:=by unfold dtm;rw [hd]
 rw [e] at this
 exact h (by simpa using hL) (by simp) this
theorem hd_q (d:Nat) (hop:HOp P o (pview (tget tm)) (clk+k) pre v []) (hd:o.dst=some d) (hg:o.guard=none) (hpre:∀ p∈pre,hget hp p.1=some p.2) (hlt:Nat.blt d n=true) (hk:True=True)
  {k':Nat} (hk':k+1=k') (h:HDr P n clk tm0 hp0 L (dn++[o]) (ss++[⟨.v v,ops_tmps o,pre,[]⟩]) rest k' ((d,.v v)::tm) hp Fin):HDr P n clk tm0 hp0 L dn ss (o::rest) k tm hp Fin:=by subst hk';exact hd_cons ⟨.v v,ops_tmps o,pre,[]⟩ d hd (hstep_plain hg hop) hpre hlt h
theorem hd_g (d gi j:Nat) (b c:Bool) (hop:c=b→HOp P o (gview (tget tm) j b) (clk+k) pre v []) (hd:o.dst=some d) (hg:o.guard=some (gi,b)) (hgi:(L.toArray[gi]?).bind (·.dst)=some j) (hc:tget tm j=some (.v (.imm (.bool c)))) (hpre:∀ p∈pre,hget hp p.1=some p.2) (hlt:Nat.blt d n=true) (hk:True=True) (hjd:True=True)
  {k':Nat} (hk':k+1=k') (h:HDr P n clk tm0 hp0 L (dn++[o]) (ss++[⟨.un j b v,j::ops_tmps o,pre,[]⟩]) rest k' ((d,.un j b v)::tm) hp Fin):HDr P n clk tm0 hp0 L dn ss (o::rest) k tm hp Fin:=by subst hk';exact hd_cons ⟨.un j b v,j::ops_tmps o,pre,[]⟩ d hd (hstep_guard gi j b c hg hgi (.inl hc) hop) hpre hlt h
theorem hd_m (d:Nat) (hop:HOp P o (pview (tget tm)) (clk+k) pre v post) (hd:o.dst=some d) (hg:o.guard=none) (hpre:∀ p∈pre,hget hp p.1=some p.2) (hlt:Nat.blt d n=true) (hk:True=True)
  {k':Nat} (hk':k+1=k') (h:HDr P n clk tm0 hp0 L (dn++[o]) (ss++[⟨.v v,ops_tmps o,pre,post⟩]) rest k' ((d,.v v)::tm) (post++hp) Fin):HDr P n clk tm0 hp0 L dn ss (o::rest) k tm hp Fin:=by subst hk';exact hd_cons ⟨.v v,ops_tmps o,pre,post⟩ d hd (hstep_plain hg hop) hpre hlt h
theorem hd_1 (d:Nat) {id:Nat} {ob:HObj} (hop:HOp P o (pview (tget tm)) (clk+k) pre v [(id,ob)]) (hd:o.dst=some d) (hg:o.guard=none) (hpre:∀ p∈pre,hget hp p.1=some p.2) (hlt:Nat.blt d n=true) (hk:True=True)
  {k':Nat} (hk':k+1=k') (h:HDr P n clk tm0 hp0 L (dn++[o]) (ss++[⟨.v v,ops_tmps o,pre,[(id,ob)]⟩]) rest k' ((d,.v v)::tm) ((id,ob)::hp) Fin):HDr P n clk tm0 hp0 L dn ss (o::rest) k tm hp Fin:=by subst hk';exact hd_m d hop hd hg hpre hlt hk rfl h
theorem hd_s1 {id:Nat} {ob:HObj} (hop:HOp P o (pview (tget tm)) (clk+k) pre v [(id,ob)]) (hd:o.dst=none) (hg:o.guard=none) (hpre:∀ p∈pre,hget hp p.1=some p.2)
  {k':Nat} (hk':k+1=k') (h:HDr P n clk tm0 hp0 L (dn++[o]) (ss++[⟨.v v,ops_tmps o,pre,[(id,ob)]⟩]) rest k' tm ((id,ob)::hp) Fin):HDr P n clk tm0 hp0 L dn ss (o::rest) k tm hp Fin:=by subst hk';exact hd_cons_ ⟨.v v,ops_tmps o,pre,[(id,ob)]⟩ hd (hstep_plain hg hop) hpre h
theorem hd_p (d:Nat) {need:List Nat} (hst:HStep P L.toArray o (tget tm) (clk+k) ⟨.v v,need,[],[]⟩) (hd:o.dst=some d) (hlt:Nat.blt d n=true) (hk:True=True)
  {k':Nat} (hk':k+1=k') (h:HDr P n clk tm0 hp0 L (dn++[o]) (ss++[⟨.v v,need,[],[]⟩]) rest k' ((d,.v v)::tm) hp Fin):HDr P n clk tm0 hp0 L dn ss (o::rest) k tm hp Fin:=by subst hk';exact hd_cons ⟨.v v,need,[],[]⟩ d hd hst pre0 hlt h
end
end
section
variable {P:Program} {ov:Nat→Option HV} {g:Nat} {d:Option Tmp} {ty:TypeId} {pos:String} {af:Array Edge} {gd:Option (Nat×Bool)} {T:TypeId} {x y:Operand}
end
section
variable {P:Program} {ov:Nat→Option HV} {g:Nat} {d:Option Tmp} {ty:TypeId} {pos:String} {af:Array Edge} {gd:Option (Nat×Bool)} {T:TypeId}
end
section
variable {P:Program} {ov:Nat→Option HV} {g:Nat} {d:Option Tmp} {ty:TypeId} {pos:String} {af:Array Edge} {gd:Option (Nat×Bool)} {T:TypeId} {x y:Operand}
end
theorem ty_3:tyOf Try.prog 3=some (false,1):=by kernel_rfl
theorem zc_3:zcs Try.prog 3=some [.int .i64 0]:=by kernel_rfl
theorem ty_4:tyOf Try.prog 4=some (false,1):=by kernel_rfl
theorem zc_4:zcs Try.prog 4=some [.bool false]:=by kernel_rfl
theorem ty_22:tyOf Try.prog 22=some (false,1):=by kernel_rfl
theorem el_22:elOf Try.prog 22=some (71,12):=by kernel_rfl
theorem ty_24:tyOf Try.prog 24=some (false,1):=by kernel_rfl
theorem el_24:elOf Try.prog 24=some (69,8):=by kernel_rfl
theorem ty_26:tyOf Try.prog 26=some (true,10):=by kernel_rfl
theorem zc_26:zcs Try.prog 26=some [.int .i64 0,.int .i64 0,.int .i64 0,.int .i64 0,.int .i64 0,.int .i64 0,.int .i64 0,.int .i64 0,.slice none 0 0,.slice none 0 0]:=by kernel_rfl
theorem st_26:stOf Try.prog 26=some ([.int .i64 0,.int .i64 0,.int .i64 0,.int .i64 0,.int .i64 0,.int .i64 0,.int .i64 0,.int .i64 0,.slice none 0 0,.slice none 0 0],[(0,1),(1,1),(2,1),(3,1),(4,1),(5,1),(6,1),(7,1),(8,1),(9,1)]):=by kernel_rfl
theorem fd_26_0:fdOf Try.prog 26 0=some 0:=by kernel_rfl
theorem fd_26_1:fdOf Try.prog 26 1=some 1:=by kernel_rfl
theorem fd_26_2:fdOf Try.prog 26 2=some 2:=by kernel_rfl
theorem fd_26_3:fdOf Try.prog 26 3=some 3:=by kernel_rfl
theorem fd_26_4:fdOf Try.prog 26 4=some 4:=by kernel_rfl
theorem fd_26_8:fdOf Try.prog 26 8=some 8:=by kernel_rfl
theorem fd_26_9:fdOf Try.prog 26 9=some 9:=by kernel_rfl
theorem el_37:elOf Try.prog 37=some (50,2):=by kernel_rfl
theorem ty_41:tyOf Try.prog 41=some (false,1):=by kernel_rfl
theorem ei_41:elInfo Try.prog 41=some (48,1,24,true):=by kernel_rfl
theorem el_41:elOf Try.prog 41=some (48,1):=by kernel_rfl
theorem ty_42:tyOf Try.prog 42=some (false,1):=by kernel_rfl
theorem zc_44:zcs Try.prog 44=some [.slice none 0 0,.map none]:=by kernel_rfl
theorem st_44:stOf Try.prog 44=some ([.slice none 0 0,.map none],[(0,1),(1,1)]):=by kernel_rfl
theorem fd_44_0:fdOf Try.prog 44 0=some 0:=by kernel_rfl
theorem fd_44_1:fdOf Try.prog 44 1=some 1:=by kernel_rfl
theorem ty_45:tyOf Try.prog 45=some (false,1):=by kernel_rfl
theorem ei_45:elInfo Try.prog 45=some (3,1,8,true):=by kernel_rfl
theorem el_45:elOf Try.prog 45=some (3,1):=by kernel_rfl
theorem ty_47:tyOf Try.prog 47=some (true,2):=by kernel_rfl
theorem zc_47:zcs Try.prog 47=some [.slice none 0 0,.slice none 0 0]:=by kernel_rfl
theorem st_47:stOf Try.prog 47=some ([.slice none 0 0,.slice none 0 0],[(0,1),(1,1)]):=by kernel_rfl
theorem fd_47_0:fdOf Try.prog 47 0=some 0:=by kernel_rfl
theorem fd_47_1:fdOf Try.prog 47 1=some 1:=by kernel_rfl
theorem ty_48:tyOf Try.prog 48=some (false,1):=by kernel_rfl
theorem ei_48:elInfo Try.prog 48=some (88,3,24,true):=by kernel_rfl
theorem el_48:elOf Try.prog 48=some (88,3):=by kernel_rfl
theorem fd_50_0:fdOf Try.prog 50 0=some 0:=by kernel_rfl
theorem fd_50_1:fdOf Try.prog 50 1=some 1:=by kernel_rfl
theorem ty_52:tyOf Try.prog 52=some (false,1):=by kernel_rfl
theorem zc_52:zcs Try.prog 52=some [.int .i64 0]:=by kernel_rfl
theorem ty_60:tyOf Try.prog 60=some (false,1):=by kernel_rfl
theorem ty_88:tyOf Try.prog 88=some (true,3):=by kernel_rfl
theorem zc_88:zcs Try.prog 88=some [.int .i64 0,.int .i64 0,.int .i64 0]:=by kernel_rfl
theorem st_88:stOf Try.prog 88=some ([.int .i64 0,.int .i64 0,.int .i64 0],[(0,1),(1,1),(2,1)]):=by kernel_rfl
theorem fd_88_0:fdOf Try.prog 88 0=some 0:=by kernel_rfl
theorem fd_88_1:fdOf Try.prog 88 1=some 1:=by kernel_rfl
theorem fd_88_2:fdOf Try.prog 88 2=some 2:=by kernel_rfl
theorem ty_93:tyOf Try.prog 93=some (true,5):=by kernel_rfl
theorem zc_93:zcs Try.prog 93=some [.int .i64 0,.bool false,.bool false,.int .i64 0,.int .i64 0]:=by kernel_rfl
theorem st_93:stOf Try.prog 93=some ([.int .i64 0,.bool false,.bool false,.int .i64 0,.int .i64 0],[(0,1),(1,1),(2,1),(3,1),(4,1)]):=by kernel_rfl
theorem fd_93_0:fdOf Try.prog 93 0=some 0:=by kernel_rfl
theorem fd_93_1:fdOf Try.prog 93 1=some 1:=by kernel_rfl
theorem fd_93_2:fdOf Try.prog 93 2=some 2:=by kernel_rfl
theorem fd_93_3:fdOf Try.prog 93 3=some 3:=by kernel_rfl
theorem fd_93_4:fdOf Try.prog 93 4=some 4:=by kernel_rfl
theorem st_99:stOf Try.prog 99=some ([.nilFunc,.bool false],[(0,1),(1,1)]):=by kernel_rfl
theorem fd_99_0:fdOf Try.prog 99 0=some 0:=by kernel_rfl
theorem fd_99_1:fdOf Try.prog 99 1=some 1:=by kernel_rfl
theorem ty_100:tyOf Try.prog 100=some (true,5):=by kernel_rfl
theorem zc_100:zcs Try.prog 100=some [.int .i64 0,.bool false,.bool false,.int .i64 0,.int .i64 0]:=by kernel_rfl
theorem st_100:stOf Try.prog 100=some ([.int .i64 0,.bool false,.bool false,.int .i64 0,.int .i64 0],[(0,1),(1,1),(2,1),(3,1),(4,1)]):=by kernel_rfl
theorem fd_100_0:fdOf Try.prog 100 0=some 0:=by kernel_rfl
theorem fd_100_1:fdOf Try.prog 100 1=some 1:=by kernel_rfl
theorem fd_100_2:fdOf Try.prog 100 2=some 2:=by kernel_rfl
theorem fd_100_3:fdOf Try.prog 100 3=some 3:=by kernel_rfl
theorem fd_100_4:fdOf Try.prog 100 4=some 4:=by kernel_rfl
inductive Kz (kp sh:List (Nat×HObj)):HV→HV→Prop
 | fz (x y:HV) (h:Fz sh x y):Kz kp sh x y
 | agg (n:Nat) (f f':Nat→HV) (h:∀ i,i < n→Kz kp sh (f i) (f' i)):Kz kp sh (.agg n f) (.agg n f')
 | tup (n:Nat) (f f':Nat→HV) (h:∀ i,i < n→Kz kp sh (f i) (f' i)):Kz kp sh (.tup n f) (.tup n f')
 | sl (sz n:Nat) (f f':Nat→Nat→HV) (h:∀ i j,i < n→j < sz→Kz kp sh (f i j) (f' i j)):Kz kp sh (.sl sz n f) (.sl sz n f')
 | ifc (t:TypeId) (x y:HV) (h:Kz kp sh x y):Kz kp sh (.ifc t x) (.ifc t y)
 | fn (fn:Fn) (n:Nat) (f f':Nat→HV) (h:∀ i,i < n→Kz kp sh (f i) (f' i)):Kz kp sh (.fn fn n f) (.fn fn n f')
 | pt (id g i off:Nat) (o:HObj) (ho:hget kp id=some o) (hg:o.g=g):Kz kp sh (.pt id g i off) (.pt id g i off)
 | os (id g lo n:Nat) (o:HObj) (ho:hget kp id=some o) (hg:o.g=g):Kz kp sh (.os id g lo n) (.os id g lo n)
 | nps (id g:Nat) (o:HObj) (ho:hget kp id=some o) (hg:o.g=g):Kz kp sh (.nps id g) (.nps id g)
 | mp (id g:Nat) (o:HObj) (ho:hget kp id=some o) (hg:o.g=g):Kz kp sh (.mp id g) (.mp id g)
 | bnd (f:Fn) (x y:HV) (h:Kz kp sh x y):Kz kp sh (.bnd f x) (.bnd f y)
theorem Kz.sound {w:World} {E E':Env} {kp sh:List (Nat×HObj)} (hF:∀ a,E.F a→E'.F a) (hL:∀ id o,hget kp id=some o→E'.L id=E.L id) (hG:∀ id o,hget kp id=some o→E'.G o.g) (hsh:Shared w E sh) {x y:HV} (hz:Kz kp sh x y) :
    ∀ {v:Value},Rep w E v x→Rep w E' v y:=by
  induction hz with
  | fz x y h=>exact fun hr=>(h.sound hsh hr).ext (Ext.just hF)
  | agg n f f' _ ih=>intro u h;cases h with | agg cs _ _ vs hn hv h=>exact .agg cs n f' vs hn hv (fun i hi=>ih i hi (h i hi))
  | tup n f f' _ ih=>intro u h;cases h with | tup cs _ _ vs hn hv h=>exact .tup cs n f' vs hn hv (fun i hi=>ih i hi (h i hi))
  | sl sz n f f' _ ih=>intro u h;cases h with | sl A _ c _ _ vs hc hm hA h=>exact .sl A n c sz f' vs hc hm (fun hn=>by
      obtain ⟨b,o,h1,h2,h3⟩:=hA hn
      exact ⟨b,o,h1,h2,fun i j hi hj=>⟨hF _ (h3 i j hi hj).1,(h3 i j hi hj).2⟩⟩) (fun i j hi hj=>ih i j hi hj (h i j hi hj))
  | ifc t x y _ ih=>intro u h;cases h with | ifc _ v _ h=>exact .ifc t v y (ih h)
  | fn fn n f f' _ ih=>intro u h;cases h with | fn _ cs _ _ vs hn hv h=>exact .fn fn cs n f' vs hn hv (fun i hi=>ih i hi (h i hi))
  | bnd f x y _ ih=>intro u h;cases h with | bnd _ v _ h=>exact .bnd f v y (ih h)
  | pt id g i off o ho hg =>
    intro u h
    cases h with
    | pt b k _ _ _ _ hgG hh=>exact .pt b k id g i off (hg▸hG id o ho) (fun l hl hlg=>hh l (by rw [←hL id o ho];exact hl) hlg)
  | os id g lo n o ho hg =>
    intro u h
    cases h with
    | os A _ c _ _ _ hgG hc hm hA h0 =>
      refine .os A n c id g lo (hg▸hG id o ho) hc hm (fun hp=>?_) (fun l hl hlg=>h0 l (by rw [←hL id o ho];exact hl) hlg)
      obtain ⟨b,k,h1,h2⟩:=hA hp
      exact ⟨b,k,h1,fun l hl hlg=>h2 l (by rw [←hL id o ho];exact hl) hlg⟩
  | mp id g o ho hg =>
    intro u h
    cases h with
    | mp b _ _ hgG hh=>exact .mp b id g (hg▸hG id o ho) (fun l hl hlg=>hh l (by rw [←hL id o ho];exact hl) hlg)
  | nps id g o ho hg =>
    intro u h
    cases h with
    | npn _ _ hgG hh=>exact .npn id g (hg▸hG id o ho) (fun l hl hlg=>hh l (by rw [←hL id o ho];exact hl) hlg)
    | npp _ _ _ hgG hc h =>
      cases h with
      | pt b k _ _ _ _ _ hh=>exact .npp _ _ _ (hg▸hG id o ho) (fun l hl hlg=>hc l (by rw [←hL id o ho];exact hl) hlg) (.pt b k id g 0 0 (hg▸hG id o ho) (fun l hl hlg=>hh l (by rw [←hL id o ho];exact hl) hlg))
structure Clr where
 K:Nat→Prop
 w0:World
 F0:Addr→Prop
 E:Env
 h:Nat→Option HObj
 w:World
 pre:List (Nat×HObj)
def Clr.K' (X:Clr) (b:Nat):Prop:=∀ id o l,hget X.pre id=some o→X.E.L id=some l→l.A≠some b
def Clr.ctx (X:Clr):Ctx:=⟨X.K',X.w,X.E,[],none,none⟩
structure Clr.Ok (X:Clr):Prop where
 r:R X.K X.w0 X.F0 X.E X.h X.w
 pre:∀ id o,hget X.pre id=some o→X.h id=some o
theorem Clr.Ok.start {X:Clr} (ok:X.Ok):R X.K' X.w X.E.F X.E (hget X.pre) X.w:=by
 have r:=ok.r
 refine ⟨rfl,rfl,rfl,Nat.le_refl _,fun _ _ _=>rfl,r.frz,fun a ha=>.inl ha,fun b hb id o l ho hl hA=>?_,r.libw,r.bks,fun id o ho=>?_,fun id id' o o' l l' b ho ho' hl hl' hb hb'=>r.inj id id' o o' l l' b (ok.pre _ _ ho) (ok.pre _ _ ho') hl hl' hb hb'⟩
 ·obtain ⟨l2,hl2,a⟩:=r.obj id o (ok.pre _ _ ho)
  rw [hl] at hl2;injection hl2 with hl2;subst hl2
  exact a.notK hA (r.lib.ok _ hb) (r.klib _ hb)
 ·obtain ⟨l,hl,a⟩:=r.obj id o (ok.pre _ _ ho)
  refine ⟨l,hl,a.g,a.G,a.sz,a.pos,?_⟩
  rcases a.at_ with h0 | ⟨b,cs,g1,g2,g3,g4,g5,g6,g8,g9⟩ | ⟨b,ob,g1,g2,g3,g4⟩
  ·exact .inl h0
  ·exact .inr (.inl ⟨b,cs,g1,g2,g3,g4,g5,fun _ hk=>hk id o l ho hl g1,g8,g9⟩)
  ·exact .inr (.inr ⟨b,ob,g1,g2,g3,fun _ hk=>hk id o l ho hl g1⟩)
theorem hupd_hget (h:Nat→Option HObj):∀ (p:List (Nat×HObj)) (id:Nat),hupd h p id=match hget p id with | some o=>some o | none=>h id
  | [],id=>rfl
  | (k, o) :: p, id => by
    show hset (hupd h p) k o id=_
    rw [hget_cons]
    by_cases hk:id=k
    · subst hk;rw [hset_same,hset_same]
    · rw [hset_ne _ _ hk,hset_ne _ _ hk,hupd_hget h p id]
theorem Clr.Ok.back {X:Clr} (ok:X.Ok) {E2:Env} {h2:Nat→Option HObj} {w':World} {c':Nat} (e2:Ext X.w X.E w' E2) (r2:R X.K' X.w X.E.F E2 h2 w') (hG2:∀ g,E2.G g→g < c') {kp sh:List (Nat×HObj)} (hsh:Shared w' E2 sh)
    (hpk:∀ id o,hget X.pre id=some o→∃ o',hget kp id=some o')
    (hkp:∀ id o',hget kp id=some o'→∃ o,h2 id=some o∧o.g=o'.g∧o.n=o'.n∧o.sz=o'.sz∧o.ty=o'.ty∧o.fl≤o'.fl∧(∀ i j,i < o.n→j < o.sz→Kz kp sh (o.f i j) (o'.f i j))∧(o'.n < o'.fl→o=o')) :
    ∃ E3,Ext X.w X.E w' E3∧R X.K X.w0 X.F0 E3 (hupd X.h kp) w'∧(∀ g,E3.G g→g < c')∧(∀ g,E3.G g→X.E.G g∨∃ id o,hget kp id=some o∧o.g=g)∧∀ v x y,Kz kp sh x y→Rep w' E2 v x→Rep w' E3 v y:=by
  have r:=ok.r
  let E3:Env:=⟨E2.F,fun id=>match hget kp id with | some _=>E2.L id | none=>X.E.L id,fun g=>X.E.G g∨∃ id o,hget kp id=some o∧o.g=g,X.E.M⟩
  have hL:∀ id o,hget kp id=some o→E3.L id=E2.L id:=fun id o ho=>by show (match hget kp id with | some _=>E2.L id | none=>X.E.L id)=_;rw [ho]
  have hLn:∀ id,hget kp id=none→E3.L id=X.E.L id:=fun id ho=>by show (match hget kp id with | some _=>E2.L id | none=>X.E.L id)=_;rw [ho]
  have kz:∀ v x y,Kz kp sh x y→Rep w' E2 v x→Rep w' E3 v y:=fun v x y hz hr=>hz.sound (E:=E2) (E':=E3) (fun _ h=>h) hL (fun id o ho=>.inr ⟨id,o,ho,rfl⟩) hsh hr
  have e3:Ext X.w X.E w' E3:=⟨e2.sz,e2.F,fun g hg=>.inl hg,fun id l hl hg=>by
    cases hk:hget kp id with
    | none=>rw [hLn id hk] at hl;exact hl
    | some o=>rw [hL id o hk] at hl;exact e2.L id l hl hg,fun _ h=>h⟩
  have own:∀ id o l b,X.h id=some o→X.E.L id=some l→l.A=some b→b < X.w.heap.size∧(b < X.w0.heap.size→¬ X.K b)∧(hget X.pre id=none→X.K' b):=by
    intro id o l b ho hl hA
    obtain ⟨l2,hl2,a⟩:=r.obj id o ho
    rw [hl] at hl2;injection hl2 with hl2;subst hl2
    refine ⟨a.lt hA,?_,fun hn id' o' l' ho' hl' hA'=>?_⟩
    · exact a.notK hA
    · have:=r.inj id id' o o' l l' b ho (ok.pre _ _ ho') hl hl' hA hA'
      subst this
      rw [hn] at ho';cases ho'
  have notpre:∀ b,b < X.w0.heap.size→X.K b→X.K' b:=fun b hb hK id o l ho hl hA=>(own id o l b (ok.pre _ _ ho) hl hA).2.1 hb hK
  have ispre:∀ b,¬ X.K' b→∃ id o l,hget X.pre id=some o∧X.E.L id=some l∧l.A=some b:=by
    intro b hb
    unfold Clr.K' at hb
    simp only [Classical.not_forall,ne_eq,Classical.not_not] at hb
    obtain ⟨id,o,l,h1,h2,h3⟩:=hb
    exact ⟨id,o,l,h1,h2,h3⟩
  have kpo:∀ id o',hget kp id=some o'→∃ l,E3.L id=some l∧ObjAt w' E3 X.K X.w0.heap.size o' l∧E2.L id=some l∧(∀ b,l.A=some b→X.w.heap.size≤b∨¬ X.K' b):=by
    intro id o' hk
    obtain ⟨o,ho,h1,h2',h3,h4,h5,h6,h7⟩:=hkp id o' hk
    obtain ⟨l,hl,a⟩:=r2.obj id o ho
    refine ⟨l,by rw [hL id o' hk];exact hl,⟨a.g.trans h1,.inr ⟨id,o',hk,rfl⟩,a.sz.trans h3,by rw [←h3];exact a.pos,?_⟩,hl,fun b hb=>?_⟩
    · rcases a.at_ with ⟨g1,g2,g3⟩ | ⟨b,cs,g1,g2,g3,g4,g5,g6,⟨vs,g8⟩,g9⟩ | ⟨b,ob,g1,g2,g3,g6⟩
      rotate_right
      · refine .inr (.inr ⟨b,ob,g1,g2,by rw [←h7 (by rw [←h2',g3.n];rw [g3.fl] at h5;omega)];exact g3,fun hlt=>?_⟩)
        have hlt':=Nat.lt_of_lt_of_le hlt r.size
        obtain ⟨id',o1,l1,p1,p2,p3⟩:=ispre b (g6 hlt')
        exact (own id' o1 l1 b (ok.pre _ _ p1) p2 p3).2.1 hlt
      · refine .inl ⟨g1,g2,by rw [←h2'];exact g3.1,?_⟩
        rcases Nat.lt_or_ge o'.n o'.fl with h | h
        · rw [←h7 h];exact g3.2
        · exact h
      · refine .inr (.inl ⟨b,cs,g1,by rw [←h4];exact g2,by rw [←h3];exact g3,by rw [←h2'];exact g4,g5,fun hlt=>?_,⟨vs,fun i j hi hj=>?_⟩,fun k hk'=>?_,?_⟩)
        · have hlt':=Nat.lt_of_lt_of_le hlt r.size
          obtain ⟨id',o1,l1,p1,p2,p3⟩:=ispre b (g6 hlt')
          exact (own id' o1 l1 b (ok.pre _ _ p1) p2 p3).2.1 hlt
        · rw [←h2'] at hi;rw [←h3] at hj
          have:=g8 i j hi hj
          rw [←h3]
          exact ⟨this.1,this.2.1,kz _ _ _ (h6 i j hi hj) this.2.2⟩
        · have:=g9.1 k hk'
          rw [←h3]
          exact Nat.lt_of_lt_of_le this (Nat.mul_le_mul_right _ h5)
        · rcases Nat.lt_or_ge o'.n o'.fl with h | h
          · rw [←h7 h];exact g9.2
          · exact h
    · have g6:=a.notK hb
      · by_cases hlt:b < X.w.heap.size
        · exact .inr (g6 hlt)
        · exact .inl (by omega)
  have oth:∀ id o,hget kp id=none→X.h id=some o→∃ l,E3.L id=some l∧ObjAt w' E3 X.K X.w0.heap.size o l∧X.E.L id=some l∧(∀ b,l.A=some b→b < X.w.heap.size∧X.K' b):=by
    intro id o hk ho
    have hpn:hget X.pre id=none:=by
      cases hp:hget X.pre id with
      | none=>rfl
      | some o1=>obtain ⟨o',ho'⟩:=hpk id o1 hp;rw [hk] at ho';cases ho'
    obtain ⟨l,hl,a⟩:=r.obj id o ho
    have hb:∀ b,l.A=some b→b < X.w.heap.size∧X.K' b:=fun b hb=>⟨(own id o l b ho hl hb).1,(own id o l b ho hl hb).2.2 hpn⟩
    refine ⟨l,by rw [hLn id hk];exact hl,a.ext e3 (fun b hA=>r2.keep b (hb b hA).1 (hb b hA).2) (fun b k hA hF=>?_),hl,hb⟩
    rcases r2.fnew _ hF with h1 | h1 | h1
    · exact h1
    · exact absurd h1 (by have:=(hb b hA).1;simp;omega)
    · exact absurd (hb b hA).2 h1
  have all:∀ id o,hupd X.h kp id=some o→∃ l,E3.L id=some l∧ObjAt w' E3 X.K X.w0.heap.size o l:=by
    intro id o ho
    rw [hupd_hget] at ho
    cases hk:hget kp id with
    | some o'=>rw [hk] at ho;injection ho with ho;subst ho;obtain ⟨l,h1,h2,_⟩:=kpo id o' hk;exact ⟨l,h1,h2⟩
    | none=>rw [hk] at ho;obtain ⟨l,h1,h2,_⟩:=oth id o hk ho;exact ⟨l,h1,h2⟩
  refine ⟨E3,e3,⟨r2.os.trans r.os,r2.tape.trans r.tape,r2.output.trans r.output,Nat.le_trans r.size r2.size,fun k hk hK=>(r2.keep k (Nat.lt_of_lt_of_le hk r.size) (notpre k hk hK)).trans (r.keep k hk hK),r2.frz,fun a ha=>?_,r.klib,r.lib,fun b hb=>r2.bks b (e2.M b hb),all,fun id id' o o' l l' b ho ho' hl hl' hb hb'=>?_⟩,fun g hg=>?_,fun g hg=>hg,kz⟩
  · rcases r2.fnew a ha with h1 | h1 | h1
    · exact r.fnew a h1
    · exact .inr (.inl (Nat.le_trans r.size h1))
    · obtain ⟨id,o,l,p1,p2,p3⟩:=ispre _ h1
      by_cases hlt:a.block < X.w0.heap.size
      · exact .inr (.inr ((own id o l _ (ok.pre _ _ p1) p2 p3).2.1 hlt))
      · exact .inr (.inl (by omega))
  · rw [hupd_hget] at ho ho'
    cases hk:hget kp id with
    | some o1 =>
      obtain ⟨l1,h1,_,h3,h4⟩:=kpo id o1 hk
      rw [hl] at h1;injection h1 with h1;subst h1
      cases hk':hget kp id' with
      | some o2 =>
        obtain ⟨l2,g1,_,g3,g4⟩:=kpo id' o2 hk'
        rw [hl'] at g1;injection g1 with g1;subst g1
        obtain ⟨p,hp,_⟩:=hkp id o1 hk
        obtain ⟨q,hq,_⟩:=hkp id' o2 hk'
        exact r2.inj id id' p q l l' b hp hq h3 g3 hb hb'
      | none =>
        rw [hk'] at ho'
        obtain ⟨l2,g1,_,g3,g4⟩:=oth id' o' hk' ho'
        rw [hl'] at g1;injection g1 with g1;subst g1
        rcases h4 b hb with h5 | h5
        · have:=(g4 b hb').1;omega
        · exact absurd (g4 b hb').2 h5
    | none =>
      rw [hk] at ho
      obtain ⟨l1,h1,_,h3,h4⟩:=oth id o hk ho
      rw [hl] at h1;injection h1 with h1;subst h1
      cases hk':hget kp id' with
      | some o2 =>
        obtain ⟨l2,g1,_,g3,g4⟩:=kpo id' o2 hk'
        rw [hl'] at g1;injection g1 with g1;subst g1
        rcases g4 b hb' with h5 | h5
        · have:=(h4 b hb).1;omega
        · exact absurd (h4 b hb).2 h5
      | none =>
        rw [hk'] at ho'
        obtain ⟨l2,g1,_,g3,g4⟩:=oth id' o' hk' ho'
        rw [hl'] at g1;injection g1 with g1;subst g1
        exact r.inj id id' o o' l l' b ho ho' h3 g3 hb hb'
  · rcases hg with hg | ⟨id,o',hk,rfl⟩
    · exact hG2 g (e2.G g hg)
    · obtain ⟨o,ho,h1,_⟩:=hkp id o' hk
      obtain ⟨l,hl,a⟩:=r2.obj id o ho
      rw [←h1]
      exact hG2 _ a.G
inductive HEnd where
 | ret (x:HV)
 | pan (x:HV)
def EndRep (w:World) (E:Env):Ending→HEnd→Prop
 | .returned v,.ret x=>Rep w E v x
 | .panicked ch,.pan x=>∃ v,ch=[{ v:=v,recovered:=false }]∧Rep w E v x
 | _,_=>False
def FunPost (X:Clr) (Post:HEnd→List (Nat×HObj)→Nat→Prop) (e:Ending) (w':World):Prop :=
 ∃ x kp c' E',Post x kp c'∧Ext X.w X.E w' E'∧R X.K X.w0 X.F0 E' (hupd X.h kp) w'∧(∀ g,E'.G g→g < c')∧(∀ g,E'.G g→X.E.G g∨∃ id o,hget kp id=some o∧o.g=g)∧EndRep w' E' e x
def HFun (P:Program) (f:FuncId) (c:Nat) (args:List HV) (pre:List (Nat×HObj)) (Post:HEnd→List (Nat×HObj)→Nat→Prop):Prop:=FnOk P f ∧
 ∀ (X:Clr) (vs:List Value),X.Ok→X.pre=pre→RepAll X.w X.E vs args→(∀ g,X.E.G g→g < c)→Calls P f vs.toArray X.w (FunPost X Post)
theorem hget_mem {p:List (Nat×HObj)} {id:Nat} {o:HObj} (h:hget p id=some o):(id,o)∈p:=by
  induction p with
  | nil=>cases h
  | cons q p ih =>
    obtain ⟨k,x⟩:=q
    rw [hget_cons] at h
    unfold hset at h
    split at h
    · rename_i e;injection h with h;subst h;subst e;exact List.mem_cons_self ..
    · exact List.mem_cons_of_mem _ (ih h)
section
variable {P:Program} {Post:HEnd→List (Nat×HObj)→Nat→Prop}
theorem hfun_of {f:FuncId} {fn:Func} {c:Code} (hf:P.funcs[f]?=some fn) (hb:fn.body=some c) (hn:(fn.name == "runtime.NumGoroutine")=false) (clk:Nat) (args:List HV) (pre:List (Nat×HObj)) (tm:List (Nat×TV)) (htm:slots 0 args=tm) (n:Nat) (hnt:fn.ntmps=n) (hlen:Nat.ble args.length n=true)
  (h:∀ X:Clr,X.Ok→X.pre=pre→HWp X.ctx P c ⟨n,tm,pre,clk⟩ (bodyPost P fn (FunPost X Post))):HFun P f clk args pre Post:=by
 refine ⟨⟨fn,c,hf,hb,hn⟩,fun X vs ok hX hr hG=>calls_of_wp hf hb (wpR_none.1 (h X ok hX _ X.w ?_))⟩
 obtain ⟨hl,hg⟩:=hr.get
 have hlen:args.length≤n:=by simpa using hlen
 have rs:=ok.start
 rw [hX] at rs
 refine ⟨X.E,Ext.refl _ _,rs,hG,?_,rfl,fun t x hx=>?_⟩
 ·simp [hl,hnt];omega
 ·rw [←htm] at hx
  obtain ⟨i,y,rfl,h2,rfl⟩:=tget_slots args 0 t x hx
  obtain ⟨v,hv,hrep⟩:=hg i y h2
  have hi:i < vs.length:=by
   rcases Nat.lt_or_ge i vs.length with h | h
   ·exact h
   ·rw [List.getElem?_eq_none h] at hv;cases hv
  have:({ tmps:=vs.toArray++Array.replicate (fn.ntmps - vs.toArray.size) undef,defers:=[] }:Act).tmps.getD (0+i) undef=v:=by
   rw [Nat.zero_add]
   simp only [Array.getD_eq_getD_getElem?]
   rw [Array.getElem?_append_left (by simpa using hi)]
   simp [hv]
  rw [this]
  exact hrep
def OKz (kp sh:List (Nat×HObj)) (o o':HObj):Prop:=o.g=o'.g∧o.n=o'.n∧o.sz=o'.sz∧o.ty=o'.ty∧o.fl≤o'.fl∧(∀ i j,i < o.n→j < o.sz→Kz kp sh (o.f i j) (o'.f i j))∧(o'.n < o'.fl→o=o')
theorem OKz.of {kp sh:List (Nat×HObj)} {g n sz ty fl:Nat} {f f':Nat→Nat→HV} (h:∀ i j,i < n→j < sz→Kz kp sh (f i j) (f' i j)) (hfn:fl≤n:=by first | exact Nat.zero_le _ | exact Nat.le_refl _ | omega):OKz kp sh ⟨g,n,sz,ty,fl,f⟩ ⟨g,n,sz,ty,fl,f'⟩:=⟨rfl,rfl,rfl,rfl,Nat.le_refl _,h,fun h=>absurd hfn (Nat.not_le_of_lt h)⟩
def Kept (kp0 sh hp:List (Nat×HObj)):List (Nat×HObj)→Prop
 | []=>True
 | (id,o')::r=>(∃ o,hget hp id=some o∧OKz kp0 sh o o')∧Kept kp0 sh hp r
theorem Kept.get {kp0 sh hp:List (Nat×HObj)}:∀ {kp:List (Nat×HObj)},Kept kp0 sh hp kp→∀ id o',hget kp id=some o'→∃ o,hget hp id=some o∧OKz kp0 sh o o'
  | [],_,id,o',h=>by cases h
  | (k, x) :: r, hk, id, o', h => by
    rw [hget_cons] at h
    unfold hset at h
    split at h
    · rename_i e;injection h with h;subst h;subst e;exact hk.1
    · exact Kept.get hk.2 id o' h
theorem FunPost.of {X:Clr} (ok:X.Ok) {E:Env} {s:HSt} {w':World} (e0:Ext X.w X.E w' E) (r:R X.K' X.w X.E.F E (hget s.hp) w') (hG:∀ g,E.G g→g < s.clk) (sh:List (Nat×HObj)) (hd:dupfree (sh.map (·.1))=true) (hsh:∀ p∈sh,hget s.hp p.1=some p.2)
  (kp:List (Nat×HObj)) (hpk:(X.pre.all fun p=>(hget kp p.1).isSome)=true) (hks:(kp.all fun p=>!(sh.map (·.1)).any (Nat.beq p.1))=true) (hkp:Kept kp sh s.hp kp) {x y:HV} {v:Value} (hz:Kz kp sh x y) (hv:Rep w' E v x) (hP:Post (.ret y) kp s.clk):FunPost X Post (.returned v) w':=by
 obtain ⟨E1,e1,hL,hG1,hs1,r1⟩:=r.shareAll sh hd hsh
 obtain ⟨E3,e3,r3,hG3,hGk,kz⟩:=ok.back (e0.trans e1) r1 (fun g hg=>hG g (by rw [←hG1];exact hg)) (kp:=kp) (sh:=sh) hs1 (fun id o ho=>by
   have:=List.all_eq_true.1 hpk _ (hget_mem ho)
   exact Option.isSome_iff_exists.1 this) (fun id o' ho'=>by
   obtain ⟨o,h1,h2⟩:=hkp.get id o' ho'
   have:=List.all_eq_true.1 hks _ (hget_mem ho')
   refine ⟨o,?_,h2⟩
   rw [hupd_ne _ _ _ (by simpa [List.map_map,Function.comp_def] using this)]
   exact h1)
 exact ⟨.ret y,kp,s.clk,E3,hP,e3,r3,hG3,hGk,kz v x y hz (hv.ext e1)⟩
theorem hf_ret0 {X:Clr} (ok:X.Ok) {fn:Func} {s:HSt} {y:HV} (hres:fn.results=#[]) (sh:List (Nat×HObj)) (hd:dupfree (sh.map (·.1))=true) (hsh:∀ p∈sh,hget s.hp p.1=some p.2)
  (kp:List (Nat×HObj)) (hpk:(X.pre.all fun p=>(hget kp p.1).isSome)=true) (hks:(kp.all fun p=>!(sh.map (·.1)).any (Nat.beq p.1))=true) (hz:Kz kp sh (.tup 0 fun _=>default) y) (hP:Post (.ret y) kp s.clk) (hkp:Kept kp sh s.hp kp):HQ X.ctx (bodyPost P fn (FunPost X Post)) .ret s:=by
 intro a w' ⟨E,e0,r,hG,hsz,hdf,ht⟩
 refine ⟨hdf,_,?_,FunPost.of ok e0 r hG sh hd hsh kp hpk hks hkp hz (.tup #[] 0 (fun _=>default) (fun _=>undef) rfl (fun i hi=>absurd hi (Nat.not_lt_zero _)) (fun i hi=>absurd hi (Nat.not_lt_zero _))) hP⟩
 show (results fn a.tmps).run P w'=.ok (.tuple #[]) w'
 unfold results
 rw [hres]
 simp
theorem hf_ret1 {X:Clr} (ok:X.Ok) {fn:Func} {rv:ResultVar} {s:HSt} {x y:HV} (hres:fn.results=#[rv]) (hrv:RVal P s rv x) (sh:List (Nat×HObj)) (hd:dupfree (sh.map (·.1))=true) (hsh:∀ p∈sh,hget s.hp p.1=some p.2)
  (kp:List (Nat×HObj)) (hpk:(X.pre.all fun p=>(hget kp p.1).isSome)=true) (hks:(kp.all fun p=>!(sh.map (·.1)).any (Nat.beq p.1))=true) (hz:Kz kp sh x y) (hP:Post (.ret y) kp s.clk) (hkp:Kept kp sh s.hp kp):HQ X.ctx (bodyPost P fn (FunPost X Post)) .ret s:=by
 intro a w' ⟨E,e0,r,hG,hsz,hdf,ht⟩
 obtain ⟨v,h1,h2⟩:=hrv X.ctx a w' E r ht
 refine ⟨hdf,v,?_,FunPost.of ok e0 r hG sh hd hsh kp hpk hks hkp hz h2 hP⟩
 have:(results fn a.tmps).run P w'=.ok v w':=by
  unfold results
  rw [hres]
  cases rv with
  | tmp t=>simp at h1 ⊢;exact h1
  | cell p t=>simp [Sem.run_bind] at h1 ⊢;simp [h1]
 exact this
theorem hf_ret2 {X:Clr} (ok:X.Ok) {fn:Func} {rv1 rv2:ResultVar} {s:HSt} {x1 x2 y:HV} (hres:fn.results=#[rv1,rv2]) (hrv1:RVal P s rv1 x1) (hrv2:RVal P s rv2 x2) (sh:List (Nat×HObj)) (hd:dupfree (sh.map (·.1))=true) (hsh:∀ p∈sh,hget s.hp p.1=some p.2)
  (kp:List (Nat×HObj)) (hpk:(X.pre.all fun p=>(hget kp p.1).isSome)=true) (hks:(kp.all fun p=>!(sh.map (·.1)).any (Nat.beq p.1))=true) (hz:Kz kp sh (t2 x1 x2) y) (hP:Post (.ret y) kp s.clk) (hkp:Kept kp sh s.hp kp):HQ X.ctx (bodyPost P fn (FunPost X Post)) .ret s:=by
 intro a w' ⟨E,e0,r,hG,hsz,hdf,ht⟩
 obtain ⟨v1,h1,g1⟩:=hrv1 X.ctx a w' E r ht
 obtain ⟨v2,h2,g2⟩:=hrv2 X.ctx a w' E r ht
 have hrep:Rep w' E (.tuple #[v1,v2]) (.tup 2 (fun i=>match i with | 0=>x1 | _=>x2)) :=
  .tup _ 2 _ (fun i=>match i with | 0=>v1 | _=>v2) rfl (fun i hi=>by match i,hi with | 0,_=>rfl | 1,_=>rfl) (fun i hi=>by match i,hi with | 0,_=>exact g1 | 1,_=>exact g2)
 refine ⟨hdf,_,?_,FunPost.of ok e0 r hG sh hd hsh kp hpk hks hkp hz hrep hP⟩
 have:(results fn a.tmps).run P w'=.ok (.tuple #[v1,v2]) w':=by
  unfold results
  rw [hres]
  cases rv1 <;> cases rv2 <;> (simp [Sem.run_bind] at h1 h2 ⊢)
  all_goals first | done | (try (first | rw [andThen_chain h1] | skip);try (first | rw [andThen_chain h2] | skip);try simp [h1,h2])
 exact this
theorem hf_ret3 {X:Clr} (ok:X.Ok) {fn:Func} {rv1 rv2 rv3:ResultVar} {s:HSt} {x1 x2 x3 y:HV} (hres:fn.results=#[rv1,rv2,rv3]) (hrv1:RVal P s rv1 x1) (hrv2:RVal P s rv2 x2) (hrv3:RVal P s rv3 x3) (sh:List (Nat×HObj)) (hd:dupfree (sh.map (·.1))=true) (hsh:∀ p∈sh,hget s.hp p.1=some p.2)
  (kp:List (Nat×HObj)) (hpk:(X.pre.all fun p=>(hget kp p.1).isSome)=true) (hks:(kp.all fun p=>!(sh.map (·.1)).any (Nat.beq p.1))=true) (hz:Kz kp sh (t3 x1 x2 x3) y) (hP:Post (.ret y) kp s.clk) (hkp:Kept kp sh s.hp kp):HQ X.ctx (bodyPost P fn (FunPost X Post)) .ret s:=by
 intro a w' ⟨E,e0,r,hG,hsz,hdf,ht⟩
 obtain ⟨v1,h1,g1⟩:=hrv1 X.ctx a w' E r ht
 obtain ⟨v2,h2,g2⟩:=hrv2 X.ctx a w' E r ht
 obtain ⟨v3,h3,g3⟩:=hrv3 X.ctx a w' E r ht
 have hrep:Rep w' E (.tuple #[v1,v2,v3]) (.tup 3 (fun i=>match i with | 0=>x1 | 1=>x2 | _=>x3)) :=
  .tup _ 3 _ (fun i=>match i with | 0=>v1 | 1=>v2 | _=>v3) rfl (fun i hi=>by match i,hi with | 0,_=>rfl | 1,_=>rfl | 2,_=>rfl) (fun i hi=>by match i,hi with | 0,_=>exact g1 | 1,_=>exact g2 | 2,_=>exact g3)
 refine ⟨hdf,_,?_,FunPost.of ok e0 r hG sh hd hsh kp hpk hks hkp hz hrep hP⟩
 have:(results fn a.tmps).run P w'=.ok (.tuple #[v1,v2,v3]) w':=by
  unfold results
  rw [hres]
  cases rv1 <;> cases rv2 <;> cases rv3 <;> (simp [Sem.run_bind] at h1 h2 h3 ⊢)
  all_goals first | done | (try (first | rw [andThen_chain h1] | skip);try (first | rw [andThen_chain h2] | skip);try (first | rw [andThen_chain h3] | skip);try simp [h1,h2,h3])
 exact this
theorem hq_fall {C:Ctx} {fn:Func} {R0:Ending→World→Prop} {s:HSt} (h:HQ C (bodyPost P fn R0) .ret s):HQ C (bodyPost P fn R0) .normal s:=h
def HPan (C:Ctx) (Q:Exit→Act→World→Prop) (s:HSt) (x:HV):Prop:=∀ a w,∀ E v,Ext C.w0 C.E0 w E→R C.K C.w0 C.E0.F E (hget s.hp) w→(∀ g,E.G g→g < s.clk)→a.tmps.size=s.n→DefOk C.mks w E C.ds a.defers→(∀ t x,tget s.tm t=some x→TVRep w E a (a.tmps.getD t undef) x)→Rep w E v x→Q (.panic [{ v:=v,recovered:=false }]) a w
theorem hf_call {C:Ctx} {ops:Array Oper} {Q:Exit→Act→World→Prop} {n clk:Nat} {tm:List (Nat×TV)} {hp:List (Nat×HObj)} {rest:List Oper} {ty:TypeId} {pos:String} {af:Array Edge} {f:FuncId} {args:List Operand} {at_:Array TypeId} {xs:List HV} {pre:List (Nat×HObj)} (d:Nat)
    (hc:HFun P f clk xs pre Post) (hx:ovAll (pview (tget tm)) args xs) (hpre:∀ p∈pre,hget hp p.1=some p.2) (hlt:Nat.blt d n=true) (hk:nokey tm d=true)
    (h:∀ r kp c',Post (.ret r) kp c'→HSeq C P ops rest ⟨n,(d,.v r)::tm,kp++hp,c'⟩ Q) (hpan:∀ x kp c',Post (.pan x) kp c'→HPan C Q ⟨n,tm,kp++hp,c'⟩ x) :
    HSeq C P ops (⟨some d,.call ⟨.value (.func f),args.toArray,at_⟩,ty,pos,af,none⟩::rest) ⟨n,tm,hp,clk⟩ Q:=by
  intro a w ⟨E,e0,r,hG,hsz,hdf,ht⟩
  have hlt:d < n:=by simpa [Nat.blt_eq] using hlt
  unfold wpSq
  rw [if_pos (by simp [Region.wanted])]
  left
  have hrep:=hx.rep (w:=w) (E:=E) (ρ:=a.eval) (fun x hv hx' h=>by
    cases x with
    | tmp t =>
      simp only [ovl,pview] at h
      cases hq:tget tm t with
      | none=>rw [hq] at h;cases h
      | some u => rw [hq] at h; cases u with
        | v y=>injection h with h;subst h;exact ht t _ hq
        | un j b y=>cases h
    | const v=>exact rep_cst w E _ v _ h
    | global k=>injection h with h;subst h;exact .imm _
    | func f=>injection h with h;subst h;exact .fn (.func f) #[] 0 _ (fun _=>undef) rfl (fun i hi=>absurd hi (Nat.not_lt_zero _)) (fun i hi=>absurd hi (Nat.not_lt_zero _)))
  unfold Oper.wp execOp
  have hargs:args.toArray.map a.eval=(args.map a.eval).toArray:=by simp
  simp only [resolve,Act.eval,Deferred.ofValue,invoke,Sem.run_bind,Sem.run_pure,Result.andThen_ok,Array.empty_append,Array.append_empty]
  rw [run_callFunc hc.1]
  simp only [Oper.upon]
  have hcalls:=hc.2 ⟨C.K,C.w0,C.E0.F,E,hget hp,w,pre⟩ (args.map a.eval) ⟨r,fun id o ho=>hpre (id,o) (hget_mem ho)⟩ rfl hrep hG
  rw [←hargs] at hcalls
  refine Calls.mono hcalls ?_
  rintro e w' ⟨x,kp,c',E',hP,e',r',hG',_,hv⟩
  cases e with
  | returned v =>
    cases x with
    | pan x=>exact hv.elim
    | ret x =>
      refine h x kp c' hP _ w' ⟨E',e0.trans e',by simp only [hget_append];exact r',hG',by simp [Act.put,hsz],hdf.ext e',fun t y hy=>?_⟩
      simp only [tget_cons] at hy
      split at hy
      · rename_i htd
        subst htd
        injection hy with hy
        subst hy
        rw [getD_put_same (by rw [hsz];exact hlt)]
        exact hv
      · rename_i htd
        rw [getD_put_ne htd]
        have:=(ht t y hy).ext e'
        cases y with
        | v z=>exact this
        | un j b z =>
          have hne:=nokey_spec hk t j b z hy
          simp only [TVRep,getD_put_ne hne] at this ⊢;exact this
  | panicked ch =>
    cases x with
    | ret x=>exact hv.elim
    | pan x =>
      obtain ⟨v,rfl,hv⟩:=hv
      exact hpan x kp c' hP a w' E' v (e0.trans e') (by simp only [hget_append];exact r') hG' hsz (hdf.ext e') (fun t y hy=>(ht t y hy).ext e') hv
  | outgrown=>cases x <;> exact hv.elim
theorem hsub_shr {C:Ctx} {n clk:Nat} {tm:List (Nat×TV)} {hp:List (Nat×HObj)} (t:Nat) (sh:List (Nat×HObj)) (hd:dupfree (sh.map (·.1))=true) (hsh:∀ p∈sh,hget hp p.1=some p.2) {x y:HV} (ht:tget tm t=some (.v x)) (hz:Fz sh x y) :
  HSub C ⟨n,tm,hp,clk⟩ ⟨n,(t,.v y)::tm,sh.map (fun p=>(p.1,p.2.full))++hp,clk⟩:=by
 intro a w ⟨E,e0,r,hG,hsz,hdf,htm⟩
 obtain ⟨E1,e1,hL,hG1,hs1,r1⟩:=r.shareAll sh hd hsh
 refine ⟨E1,e0.trans e1,by simp only [hget_append];exact r1,fun g hg=>hG g (by rw [←hG1];exact hg),hsz,hdf.ext e1,fun t' z hz'=>?_⟩
 simp only [tget_cons] at hz'
 split at hz'
 ·rename_i e;subst e;injection hz' with hz';subst hz'
  exact (hz.sound hs1 ((htm t' _ ht).ext e1)).ext (Ext.just fun _ h=>h)
 ·exact (htm t' z hz').ext e1
theorem HSub.seq {C:Ctx} {ops:Array Oper} {Q:Exit→Act→World→Prop} {s s':HSt} {l:List Oper} (hs:HSub C s s') (h:HSeq C P ops l s' Q):HSeq C P ops l s Q:=fun a w ha=>h a w (hs a w ha)
@[reducible] def RetP {α:Type} (I:α→Nat→Prop) (r:α→HV) (kp:α→List (Nat×HObj)):HEnd→List (Nat×HObj)→Nat→Prop:=fun e o c'=>∃ x,I x c'∧e=.ret (r x)∧o=kp x
@[reducible] def RoP {α β:Type} (I:α→Nat→Prop) (r:α→HV) (kp:α→List (Nat×HObj)) (J:β→Nat→Prop) (q:β→HV) (kq:β→List (Nat×HObj)):HEnd→List (Nat×HObj)→Nat→Prop:=fun e o c'=>(∃ x,I x c'∧e=.ret (r x)∧o=kp x)∨(∃ y,J y c'∧e=.pan (q y)∧o=kq y)
section
variable {α β:Type} {I:α→Nat→Prop} {r:α→HV} {kpf:α→List (Nat×HObj)} {J:β→Nat→Prop} {q:β→HV} {kqf:β→List (Nat×HObj)}
theorem hf_callR {C:Ctx} {ops:Array Oper} {Q:Exit→Act→World→Prop} {n clk:Nat} {tm:List (Nat×TV)} {hp:List (Nat×HObj)} {rest:List Oper} {ty:TypeId} {pos:String} {af:Array Edge} {f:FuncId} {args:List Operand} {at_:Array TypeId} {xs:List HV} {pre:List (Nat×HObj)} (d:Nat)
  (hc:HFun P f clk xs pre (RetP I r kpf)) (hx:ovAll (pview (tget tm)) args xs) (hpre:∀ p∈pre,hget hp p.1=some p.2) (hlt:Nat.blt d n=true) (hk:nokey tm d=true)
  (h:∀ x c',I x c'→HSeq C P ops rest ⟨n,(d,.v (r x))::tm,kpf x++hp,c'⟩ Q) :
  HSeq C P ops (⟨some d,.call ⟨.value (.func f),args.toArray,at_⟩,ty,pos,af,none⟩::rest) ⟨n,tm,hp,clk⟩ Q :=
 hf_call d hc hx hpre hlt hk (fun _ _ c' ⟨x,hI,he,hk⟩=>by injection he with he;subst he;subst hk;exact h x c' hI) (fun _ _ _ ⟨_,_,he,_⟩=>by cases he)
def RetS (P:Program) (I:α→Nat→Prop) (r:α→HV) (kpf:α→List (Nat×HObj)) (Post:HEnd→List (Nat×HObj)→Nat→Prop):Prop:=∀ x c',I x c'→Post (.ret (r x)) (kpf x) c'
theorem RetS.one:RetS P I r kpf (RetP I r kpf):=fun x _ h=>⟨x,h,rfl,rfl⟩
theorem RetS.two:RetS P I r kpf (RoP I r kpf J q kqf):=fun x _ h=>.inl ⟨x,h,rfl,rfl⟩
theorem hf_retR0 {X:Clr} (ok:X.Ok) {pre:List (Nat×HObj)} (hX:X.pre=pre) (hS:RetS P I r kpf Post) {fn:Func} {s:HSt} (hres:fn.results=#[]) (sh:List (Nat×HObj)) (hd:dupfree (sh.map (·.1))=true) (hsh:∀ p∈sh,hget s.hp p.1=some p.2)
  (x:α) (hI:I x s.clk) (hpk:(pre.all fun p=>(hget (kpf x) p.1).isSome)=true) (hks:((kpf x).all fun p=>!(sh.map (·.1)).any (Nat.beq p.1))=true) (hz:Kz (kpf x) sh (.tup 0 fun _=>default) (r x)) (hkp:Kept (kpf x) sh s.hp (kpf x)):HQ X.ctx (bodyPost P fn (FunPost X Post)) .ret s :=
 hf_ret0 ok hres sh hd hsh (kpf x) (by rw [hX];exact hpk) hks hz (hS x _ hI) hkp
theorem hf_retR1 {X:Clr} (ok:X.Ok) {pre:List (Nat×HObj)} (hX:X.pre=pre) (hS:RetS P I r kpf Post) {fn:Func} {s:HSt} {rv:ResultVar} {v:HV} (hres:fn.results=#[rv]) (hrv:RVal P s rv v) (sh:List (Nat×HObj)) (hd:dupfree (sh.map (·.1))=true) (hsh:∀ p∈sh,hget s.hp p.1=some p.2)
  (x:α) (hI:I x s.clk) (hpk:(pre.all fun p=>(hget (kpf x) p.1).isSome)=true) (hks:((kpf x).all fun p=>!(sh.map (·.1)).any (Nat.beq p.1))=true) (hz:Kz (kpf x) sh v (r x)) (hkp:Kept (kpf x) sh s.hp (kpf x)):HQ X.ctx (bodyPost P fn (FunPost X Post)) .ret s :=
 hf_ret1 ok hres hrv sh hd hsh (kpf x) (by rw [hX];exact hpk) hks hz (hS x _ hI) hkp
theorem hf_retR2 {X:Clr} (ok:X.Ok) {pre:List (Nat×HObj)} (hX:X.pre=pre) (hS:RetS P I r kpf Post) {fn:Func} {s:HSt} {rv1 rv2:ResultVar} {v1 v2:HV} (hres:fn.results=#[rv1,rv2]) (hrv1:RVal P s rv1 v1) (hrv2:RVal P s rv2 v2) (sh:List (Nat×HObj)) (hd:dupfree (sh.map (·.1))=true) (hsh:∀ p∈sh,hget s.hp p.1=some p.2)
  (x:α) (hI:I x s.clk) (hpk:(pre.all fun p=>(hget (kpf x) p.1).isSome)=true) (hks:((kpf x).all fun p=>!(sh.map (·.1)).any (Nat.beq p.1))=true) (hz:Kz (kpf x) sh (t2 v1 v2) (r x)) (hkp:Kept (kpf x) sh s.hp (kpf x)):HQ X.ctx (bodyPost P fn (FunPost X Post)) .ret s :=
 hf_ret2 ok hres hrv1 hrv2 sh hd hsh (kpf x) (by rw [hX];exact hpk) hks hz (hS x _ hI) hkp
theorem hf_retR3 {X:Clr} (ok:X.Ok) {pre:List (Nat×HObj)} (hX:X.pre=pre) (hS:RetS P I r kpf Post) {fn:Func} {s:HSt} {rv1 rv2 rv3:ResultVar} {v1 v2 v3:HV} (hres:fn.results=#[rv1,rv2,rv3]) (hrv1:RVal P s rv1 v1) (hrv2:RVal P s rv2 v2) (hrv3:RVal P s rv3 v3) (sh:List (Nat×HObj)) (hd:dupfree (sh.map (·.1))=true) (hsh:∀ p∈sh,hget s.hp p.1=some p.2)
  (x:α) (hI:I x s.clk) (hpk:(pre.all fun p=>(hget (kpf x) p.1).isSome)=true) (hks:((kpf x).all fun p=>!(sh.map (·.1)).any (Nat.beq p.1))=true) (hz:Kz (kpf x) sh (t3 v1 v2 v3) (r x)) (hkp:Kept (kpf x) sh s.hp (kpf x)):HQ X.ctx (bodyPost P fn (FunPost X Post)) .ret s :=
 hf_ret3 ok hres hrv1 hrv2 hrv3 sh hd hsh (kpf x) (by rw [hX];exact hpk) hks hz (hS x _ hI) hkp
section
variable {kp sh:List (Nat×HObj)} {g ty fl:Nat} {f f':Nat→Nat→HV}
end
end
end
def HFunD (P:Program) (f:FuncId) (args:List HV) (pre:List (Nat×HObj)) (r:HV) (post:List (Nat×HObj)):Prop:=∀ c,HFun P f c args pre (RetP (fun (_:Unit) _=>True) (fun _=>r) (fun _=>post))
def Clocks (pre post:List (Nat×HObj)):Prop:=∀ id o,hget post id=some o→∃ q∈pre,q.2.g=o.g
theorem clocks_cons {pre post:List (Nat×HObj)} {id:Nat} {o o':HObj} {id':Nat} (hm:(id',o')∈pre) (hg:o'.g=o.g) (h:Clocks pre post):Clocks pre ((id,o)::post):=fun k x hx=>by
 rw [hget_cons] at hx
 unfold hset at hx
 split at hx
 ·injection hx with hx;subst hx;exact ⟨_,hm,hg⟩
 ·exact h k x hx
theorem HFunD.sem {P:Program} {f:FuncId} {args:List HV} {pre post:List (Nat×HObj)} {r:HV} (hc:HFunD P f args pre r post) (hk:Clocks pre post) {K:Nat→Prop} {w0 w:World} {F0:Addr→Prop} {E:Env} {h:Nat→Option HObj} (rr:R K w0 F0 E h w) (hpre:∀ p∈pre,h p.1=some p.2) (vs:List Value) (hr:RepAll w E vs args) (hb:∃ c,∀ g,E.G g→g < c) :
    Calls P f vs.toArray w fun e w'=>∃ v E',e=.returned v∧Ext w E w' E'∧R K w0 F0 E' (hupd h post) w'∧(∀ g,E'.G g→E.G g)∧Rep w' E' v r:=by
  obtain ⟨c,hG⟩:=hb
  refine ((hc c).2 ⟨K,w0,F0,E,h,w,pre⟩ vs ⟨rr,fun id o ho=>hpre (id,o) (hget_mem ho)⟩ rfl hr hG).mono ?_
  rintro e w' ⟨x,kp,c',E',⟨_,_,rfl,rfl⟩,e',r',_,hGk,hv⟩
  cases e with
  | returned v =>
    refine ⟨v,E',rfl,e',r',fun g hg=>?_,hv⟩
    rcases hGk g hg with h1 | ⟨id,o,ho,rfl⟩
    · exact h1
    · obtain ⟨q,hq,hqg⟩:=hk id o ho
      rw [←hqg]
      obtain ⟨l,hl,a⟩:=rr.obj q.1 q.2 (hpre q hq)
      exact a.G
  | panicked ch=>exact hv.elim
  | outgrown=>exact hv.elim
section
variable {C:Ctx} {P:Program} {ops:Array Oper} {Q:Exit→Act→World→Prop} {n clk:Nat} {tm:List (Nat×TV)} {hp:List (Nat×HObj)} {rest:List Oper} {v:HV} {d:Nat} {op:Op} {ty T:TypeId} {pos:String} {af:Array Edge} {x y:Operand}
theorem sm (h:HSeq C P ops rest ⟨n,(d,.v v)::tm,hp,clk⟩ Q) (hx:ovl (pview (tget tm)) x=some v:=by rfl) (hlt:Nat.blt d n=true:=by rfl) (hk:nokey tm d=true:=by rfl):HSeq C P ops (⟨some d,.move x,ty,pos,af,none⟩::rest) ⟨n,tm,hp,clk⟩ Q:=stm hx hlt hk h
theorem sa (h:HSeq C P ops rest ⟨n,(d,.v v)::tm,hp,clk⟩ Q) (hx:ovl (pview (tget tm)) x=some v:=by rfl) (hlt:Nat.blt d n=true:=by rfl) (hk:nokey tm d=true:=by rfl):HSeq C P ops (⟨some d,.assign x,ty,pos,af,none⟩::rest) ⟨n,tm,hp,clk⟩ Q:=sta hx hlt hk h
theorem s0 (hop:HOp P ⟨some d,op,ty,pos,af,none⟩ (pview (tget tm)) clk [] v []) (h:HSeq C P ops rest ⟨n,(d,.v v)::tm,hp,clk⟩ Q) (hlt:Nat.blt d n=true:=by rfl) (hk:nokey tm d=true:=by rfl):HSeq C P ops (⟨some d,op,ty,pos,af,none⟩::rest) ⟨n,tm,hp,clk⟩ Q:=st0 hop hlt hk h
theorem s1 {id:Nat} {ob:HObj} (hop:HOp P ⟨some d,op,ty,pos,af,none⟩ (pview (tget tm)) clk [(id,ob)] v []) (h:HSeq C P ops rest ⟨n,(d,.v v)::tm,hp,clk⟩ Q) (hid:hget hp id=some ob:=by rfl) (hlt:Nat.blt d n=true:=by rfl) (hk:nokey tm d=true:=by rfl):HSeq C P ops (⟨some d,op,ty,pos,af,none⟩::rest) ⟨n,tm,hp,clk⟩ Q:=st1 hop hid hlt hk h
theorem sl {id gg i off s m sz fl:Nat} {b:Bool} {oty:TypeId} {f:Nat→Nat→HV} (hT:tyOf P T=some (b,s)) (h:HSeq C P ops rest ⟨n,(d,.v (ldv b s (f i) off))::tm,hp,clk⟩ Q) (h1:ovl (pview (tget tm)) x=some (.pt id gg i off):=by rfl) (hid:hget hp id=some ⟨gg,m,sz,oty,fl,f⟩:=by rfl) (hi:Nat.ble (i+1) m=true:=by rfl) (hoff:Nat.ble (off+s) sz=true:=by rfl) (hs:(b||Nat.beq s 1)=true:=by rfl) (hlt:Nat.blt d n=true:=by rfl) (hk:nokey tm d=true:=by rfl):HSeq C P ops (⟨some d,.load T x,ty,pos,af,none⟩::rest) ⟨n,tm,hp,clk⟩ Q :=
 st1 (hol_load hT h1 (nb hi) (nb hoff) (fun e=>by subst e;simpa using hs)) hid hlt hk h
theorem sx {id gg i off s m sz fl:Nat} {b:Bool} {oty:TypeId} {f:Nat→Nat→HV} {hv:HV} (c':Nat) (hT:tyOf P T=some (b,s)) (h:HSeq C P ops rest ⟨n,tm,(id,⟨gg,m,sz,oty,fl,upd f i off s (fun j=>hv.cell j)⟩)::hp,c'⟩ Q) (h1:ovl (pview (tget tm)) x=some (.pt id gg i off):=by rfl) (h2:ovl (pview (tget tm)) y=some hv:=by rfl) (hf:hv.flat=true:=by rfl) (hw:hv.wid=s:=by rfl) (hid:hget hp id=some ⟨gg,m,sz,oty,fl,f⟩:=by rfl) (hi:Nat.ble (i+1) m=true:=by rfl) (hfl:Nat.ble fl i=true:=by rfl) (hoff:Nat.ble (off+s) sz=true:=by rfl) (hc:clk+1=c':=by rfl):HSeq C P ops (⟨none,.store T x y,ty,pos,af,none⟩::rest) ⟨n,tm,hp,clk⟩ Q :=
 hm_s1 (hol_store hT h1 h2 hf hw (nb hi) (nb hfl) (nb hoff)) rfl rfl (pre1 hid) hc h
theorem g0 {gi:Nat} {b:Bool} (j:Nat) {c:Bool} (hop:c=b→HOp P ⟨some d,op,ty,pos,af,some (gi,b)⟩ (gview (tget tm) j b) clk [] v []) (h:HSeq C P ops rest ⟨n,(d,.un j b v)::tm,hp,clk⟩ Q) (hgi:(ops[gi]?).bind (·.dst)=some j:=by rfl) (hc:tget tm j=some (.v (.imm (.bool c))):=by rfl) (hlt:Nat.blt d n=true:=by rfl) (hk:nokey tm d=true:=by rfl) (hjd:Nat.beq j d=false:=by rfl):HSeq C P ops (⟨some d,op,ty,pos,af,some (gi,b)⟩::rest) ⟨n,tm,hp,clk⟩ Q:=stg j hop hgi hc hlt hk hjd h
theorem gm {gi:Nat} {b:Bool} (j:Nat) {c:Bool} (h:HSeq C P ops rest ⟨n,(d,.un j b v)::tm,hp,clk⟩ Q) (hx:ovl (gview (tget tm) j b) x=some v:=by rfl) (hgi:(ops[gi]?).bind (·.dst)=some j:=by rfl) (hc:tget tm j=some (.v (.imm (.bool c))):=by rfl) (hlt:Nat.blt d n=true:=by rfl) (hk:nokey tm d=true:=by rfl) (hjd:Nat.beq j d=false:=by rfl):HSeq C P ops (⟨some d,.move x,ty,pos,af,some (gi,b)⟩::rest) ⟨n,tm,hp,clk⟩ Q:=stg j (fun _=>hop_move hx) hgi hc hlt hk hjd h
theorem nu {tm':List (Nat×TV)} (h:HQ C Q .normal ⟨n,tm',hp,clk⟩) (hu:unOnce tm=true:=by rfl) (ht:dropUn tm []=tm':=by (simp only [dropUn,slots];exact rfl)):HSeq C P ops [] ⟨n,tm,hp,clk⟩ Q:=hseq_nilU hu ht h
theorem wc {s:HSt} {t:Nat} {cx cy:Code} {b:Bool} (h1:b=true→HWp C P cx s Q) (h2:b=false→HWp C P cy s Q) (hb:tget s.tm t=some (.v (.imm (.bool b))):=by rfl):HWp C P (.cond (.tmp t) cx cy) s Q:=hw_cond b hb h1 h2
end
section
variable {P:Program} {n clk:Nat} {tm0:List (Nat×TV)} {hp0:List (Nat×HObj)} {ss:List HSpec} {Fin:Prop} {o:Oper} {rest dn:List Oper} {k:Nat} {tm:List (Nat×TV)} {hp:List (Nat×HObj)} {L:List Oper} {pre post:List (Nat×HObj)} {v:HV} {d:Nat} {op:Op} {ty T:TypeId} {pos:String} {af:Array Edge} {x y:Operand}
theorem d0 (k':Nat) (hop:HOp P ⟨some d,op,ty,pos,af,none⟩ (pview (tget tm)) (clk+k) [] v []) (h:HDr P n clk tm0 hp0 L (dn++[⟨some d,op,ty,pos,af,none⟩]) (ss++[⟨.v v,ops_tmps ⟨some d,op,ty,pos,af,none⟩,[],[]⟩]) rest k' ((d,.v v)::tm) hp Fin) (hlt:Nat.blt d n=true:=by rfl) (hk':k+1=k':=by rfl):HDr P n clk tm0 hp0 L dn ss (⟨some d,op,ty,pos,af,none⟩::rest) k tm hp Fin:=hd_q d hop rfl rfl pre0 hlt rfl hk' h
theorem d1 (k':Nat) {id:Nat} {ob:HObj} (hop:HOp P ⟨some d,op,ty,pos,af,none⟩ (pview (tget tm)) (clk+k) [(id,ob)] v []) (h:HDr P n clk tm0 hp0 L (dn++[⟨some d,op,ty,pos,af,none⟩]) (ss++[⟨.v v,ops_tmps ⟨some d,op,ty,pos,af,none⟩,[(id,ob)],[]⟩]) rest k' ((d,.v v)::tm) hp Fin) (hid:hget hp id=some ob:=by rfl) (hlt:Nat.blt d n=true:=by rfl) (hk':k+1=k':=by rfl):HDr P n clk tm0 hp0 L dn ss (⟨some d,op,ty,pos,af,none⟩::rest) k tm hp Fin:=hd_q d hop rfl rfl (pre1 hid) hlt rfl hk' h
theorem dm (k':Nat) (h:HDr P n clk tm0 hp0 L (dn++[⟨some d,.move x,ty,pos,af,none⟩]) (ss++[⟨.v v,ops_tmps ⟨some d,.move x,ty,pos,af,none⟩,[],[]⟩]) rest k' ((d,.v v)::tm) hp Fin) (hx:ovl (pview (tget tm)) x=some v:=by rfl) (hlt:Nat.blt d n=true:=by rfl) (hk':k+1=k':=by rfl):HDr P n clk tm0 hp0 L dn ss (⟨some d,.move x,ty,pos,af,none⟩::rest) k tm hp Fin:=hd_q d (hop_move hx) rfl rfl pre0 hlt rfl hk' h
end
theorem kza {kp sh:List (Nat×HObj)} {x y:HV} (h:Kz kp sh x y:=by first | exact .fz _ _ (.imm _) | exact .os _ _ _ _ _ rfl rfl | exact .pt _ _ _ _ _ rfl rfl | exact .nps _ _ _ rfl rfl | exact .mp _ _ _ rfl rfl | (dsimp only;exact .fz _ _ Frz.fz) | exact .fz _ _ (.tup 0 _ _ (fun i hi=>absurd hi (Nat.not_lt_zero _)))):Kz kp sh x y:=h
theorem tsr {tm r:List (Nat×TV)} {t:Nat} {x:HV} (h:tget tm t=some (.v x)) (hr:TmSub tm r):TmSub tm ((t,.v x)::r):=.cons h (.refl _) hr
theorem hsr {hp r:List (Nat×HObj)} {id:Nat} {o:HObj} (h:hget hp id=some o) (hr:HpSub hp r):HpSub hp ((id,o)::r):=.cons h (.refl _) hr
set_option maxRecDepth 100000
@[reducible] def intV (x:Int):HV:=.imm (.int .i64 x)
@[reducible] def boolV (b:Bool):HV:=.imm (.bool b)
class Frz (x:HV):Prop where
 fz:∀ {sh:List (Nat×HObj)},Fz sh x x
instance (v:Value):Frz (.imm v):=⟨.imm v⟩
instance (sz n:Nat) (f:Nat→Nat→HV) [h:∀ i j,Frz (f i j)]:Frz (.sl sz n f):=⟨.sl _ _ _ _ fun i j _ _=>(h i j).fz⟩
instance (n:Nat) (f:Nat→HV) [h:∀ i,Frz (f i)]:Frz (.agg n f):=⟨.agg _ _ _ fun i _=>(h i).fz⟩
instance (n:Nat) (f:Nat→HV) [h:∀ i,Frz (f i)]:Frz (.tup n f):=⟨.tup _ _ _ fun i _=>(h i).fz⟩
instance (n:Nat) (f:Nat→HV) [h:∀ i,Frz (f i)]:Frz (.fp n f):=⟨.fp _ _ (Nat.le_refl _) _ _ fun i _=>(h i).fz⟩
theorem Fz.eq {sh:List (Nat×HObj)} {x y:HV} [h:Frz y] (e:x=y):Fz sh x y:=by subst e;exact h.fz
theorem fz_agg10 {sh:List (Nat×HObj)} {f f':Nat→HV} (h0:Fz sh (f 0) (f' 0)) (h1:Fz sh (f 1) (f' 1)) (h2:Fz sh (f 2) (f' 2)) (h3:Fz sh (f 3) (f' 3)) (h4:Fz sh (f 4) (f' 4)) (h5:Fz sh (f 5) (f' 5)) (h6:Fz sh (f 6) (f' 6)) (h7:Fz sh (f 7) (f' 7)) (h8:Fz sh (f 8) (f' 8)) (h9:Fz sh (f 9) (f' 9)):Fz sh (.agg 10 f) (.agg 10 f'):=.agg _ _ _ fun i hi=>by
 match i,hi with
 | 0,_=>exact h0
 | 1,_=>exact h1
 | 2,_=>exact h2
 | 3,_=>exact h3
 | 4,_=>exact h4
 | 5,_=>exact h5
 | 6,_=>exact h6
 | 7,_=>exact h7
 | 8,_=>exact h8
 | 9,_=>exact h9
theorem fz_row {α:Type} {sh:List (Nat×HObj)} {enc:α→Nat→HV} {d:α} {l:List α} {id g n:Nat} {o:HObj} (ho:(id,o)∈sh) (hg:o.g=g) (hn:n=l.length) (hon:n≤o.n) (h:∀ i j,i < l.length→j < o.sz→Fz sh (o.f i j) (enc (l.getD i d) j)) :
  Fz sh (.os id g 0 n) (.sl o.sz l.length (fun i=>enc (l.getD i d))):=by
 subst hn
 exact Fz.os id g 0 l.length o _ ho hg (by omega) (fun i j hi hj=>by rw [Nat.zero_add];exact h i j hi hj)
theorem sb10 {f f':Nat→HV} (h0:Sb (f 0) (f' 0)) (h1:Sb (f 1) (f' 1)) (h2:Sb (f 2) (f' 2)) (h3:Sb (f 3) (f' 3)) (h4:Sb (f 4) (f' 4)) (h5:Sb (f 5) (f' 5)) (h6:Sb (f 6) (f' 6)) (h7:Sb (f 7) (f' 7)) (h8:Sb (f 8) (f' 8)) (h9:Sb (f 9) (f' 9)):∀ j,j < 10→Sb (f j) (f' j):=fun i hi=>by
 match i,hi with
 | 0,_=>exact h0
 | 1,_=>exact h1
 | 2,_=>exact h2
 | 3,_=>exact h3
 | 4,_=>exact h4
 | 5,_=>exact h5
 | 6,_=>exact h6
 | 7,_=>exact h7
 | 8,_=>exact h8
 | 9,_=>exact h9
theorem kr {p:Prop} (h:p:=by kernel_rfl):p:=h
theorem om {p:Prop} (h:p:=by omega):p:=h
theorem omx {p:Prop} (h:p:=by first | exact Nat.le_of_ble_eq_true rfl | omega | (dsimp only;omega) | (simp <;> omega)):p:=h
theorem rqc {p q:Prop} (h:p→q:=by (intro h;first | rfl | cases h)):p→q:=h
theorem fe {sh:List (Nat×HObj)} {x y:HV} [hz:Frz y] (h:x=y:=by rfl):Fz sh x y:=Fz.eq h
theorem fzc {sh:List (Nat×HObj)} {x y:HV} (h:Fz sh x y:=by first | exact .imm _ | exact .nil _ _ _ (by decide) _ | exact Frz.fz):Fz sh x y:=h
theorem tsa {a b:List (Nat×TV)} (h:TmSub a b:=by repeat (first | exact TmSub.nil | refine tsr rfl ?_)):TmSub a b:=h
theorem hsa {a b:List (Nat×HObj)} (h:HpSub a b:=by repeat (first | exact HpSub.nil | refine hsr rfl ?_)):HpSub a b:=h
section
variable {P:Program} {ov:Nat→Option HV} {g:Nat} {d:Option Tmp} {ty:TypeId} {pos:String} {af:Array Edge} {gd:Option (Nat×Bool)} {T yT:TypeId} {x y:Operand} {k:IntKind} {a b:Int}
theorem hqi (h1:ovl ov x=some (.imm (.int k a)):=by rfl) (h2:ovl ov y=some (.imm (.int k b)):=by rfl):HOp P ⟨d,.binOp .eql T x y yT,ty,pos,af,gd⟩ ov g [] (.imm (.bool (a == b))) []:=hop_eql h1 h2
theorem hli (h1:ovl ov x=some (.imm (.int k a)):=by rfl) (h2:ovl ov y=some (.imm (.int k b)):=by rfl):HOp P ⟨d,.binOp .lss T x y yT,ty,pos,af,gd⟩ ov g [] (.imm (.bool (decide (a < b)))) []:=hop_lss h1 h2
theorem hnl {e:TypeId} {s n:Nat} {f:Nat→Nat→HV} {at_:Array TypeId} (hE:elOf P T=some (e,s)) (hT:at_[0]?=some T:=by rfl) (h1:ovl ov x=some (.sl s n f):=by rfl):HOp P ⟨d,.call ⟨.builtin .len,#[x],at_⟩,ty,pos,af,gd⟩ ov g [] (.imm (.int .i64 (n:Int))) []:=hop_len_sl hT (elOf_spec hE).1 h1
theorem hex {n:Nat} {f:Nat→HV} {i:Nat} (h1:ovl ov x=some (.tup n f):=by rfl) (hi:Nat.blt i n=true:=by rfl):HOp P ⟨d,.extract x i,ty,pos,af,gd⟩ ov g [] (f i) []:=hop_extract h1 hi
end
end Go.Proofs.Ytkcfhciffdnmmaa
namespace Go.Proofs.Ytkcfhciffdnmmaa
set_option linter.unusedSimpArgs false
set_option linter.unusedVariables false
open Go.ChangeShapes Go.WideShapes Go.ChangeAt Go.RowKit Go.Deep
theorem rd_alloc_new (w:World) (cs:List Value) (t:TypeId) (n:Nat) (h:cs.length=n):rd (w.alloc (.cells cs.toArray t)) ⟨w.heap.size,0,none⟩ n=some cs:=by
 have:=(Blk.new w t cs.toArray).rd_
 subst h
 simpa using this
structure Mks where
 m0:Int
 m1:Int
 m2:Int
 m3:Int
 m4:Int
 m5:Int
 m6:Int
 m7:Int
theorem Mks.eq_iff (s t:Mks):(s.m0=t.m0∧s.m1=t.m1∧s.m2=t.m2∧s.m3=t.m3∧s.m4=t.m4∧s.m5=t.m5∧s.m6=t.m6∧s.m7=t.m7)↔s=t:=by
 cases s;cases t;simp only [Mks.mk.injEq]
instance mksDec:DecidableEq Mks:=fun s t=>decidable_of_iff _ (Mks.eq_iff s t)
def Mks.cells (t:Mks):List Value:=[.int .u16 t.m0,.int .u16 t.m1,.int .u16 t.m2,.int .u16 t.m3,.int .u16 t.m4,.int .u16 t.m5,.int .u16 t.m6,.int .u16 t.m7]
theorem Mks.cells_length (t:Mks):t.cells.length=8:=by simp [Mks.cells]
theorem mks_agg:∀ w,(isAgg 69).run Try.prog w=.ok true w:=fun w=>by kernel_rfl
theorem mks_size:∀ w,(sizeOf 69).run Try.prog w=.ok 8 w:=fun w=>by kernel_rfl
theorem run_load_mks (w:World) (ρ:Operand→Value) (x:Operand) (d:Option Tmp) (ty:TypeId) (pos:String) (af:Array _) (g:Option _) :
  (execOp ρ ⟨d,.load 69 x,ty,pos,af,g⟩).run Try.prog w=aggLoad Try.prog 69 8 w (ρ x):=run_load_agg _ mks_agg 8 mks_size w ρ x d ty pos af g
theorem run_eqmks (w:World) (s t:Mks) (d:Nat):(Op.equalIn (d+2) 69 (.agg s.cells.toArray) (.agg t.cells.toArray)).run Try.prog w=.ok (decide (s=t)) w:=by
 obtain ⟨a0,a1,a2,a3,a4,a5,a6,a7⟩:=s
 obtain ⟨b0,b1,b2,b3,b4,b5,b6,b7⟩:=t
 refine (eq_marks w a0 a1 a2 a3 a4 a5 a6 a7 b0 b1 b2 b3 b4 b5 b6 b7 d).trans ?_
 congr 1
 exact decide_eq_decide.2 (Mks.eq_iff ⟨a0,a1,a2,a3,a4,a5,a6,a7⟩ ⟨b0,b1,b2,b3,b4,b5,b6,b7⟩)
theorem run_eql_mks (w:World) (s t:Mks):(binOp .eql 69 (.agg s.cells.toArray) (.agg t.cells.toArray)).run Try.prog w=.ok (.bool (decide (s=t))) w:=by
 simp only [run_eql_struct,run_eqmks w s t 9998,Result.andThen_ok]
theorem run_neq_mks (w:World) (s t:Mks):(binOp .neq 69 (.agg s.cells.toArray) (.agg t.cells.toArray)).run Try.prog w=.ok (.bool (!decide (s=t))) w:=by
 simp only [run_neq_struct,run_eqmks w s t 9998,Result.andThen_ok]
theorem mks_one (t:Mks):∀ u∈t.cells,u.oneCell'=true:=by
 intro u hu
 simp only [Mks.cells,List.mem_cons,List.not_mem_nil,or_false] at hu
 rcases hu with rfl | rfl | rfl | rfl | rfl | rfl | rfl | rfl <;> rfl
theorem mksElem:Elem Try.prog 24 69 8 16 :=
 ⟨Try.underlying24,info_some (z:=.agg #[.int .u16 0,.int .u16 0,.int .u16 0,.int .u16 0,.int .u16 0,.int .u16 0,.int .u16 0,.int .u16 0]) (by kernel_rfl) rfl,by omega,by omega⟩
structure St where
 k:Int
 f:Int
 t:Int
 gf:Int
 gt:Int
 ins:Int
 mark:Int
 vl:Int
 sl:List Tok
 sets:List Mks
theorem St.eq_iff (x y:St):(x.k=y.k∧x.f=y.f∧x.t=y.t∧x.gf=y.gf∧x.gt=y.gt∧x.ins=y.ins∧x.mark=y.mark∧x.vl=y.vl∧x.sl=y.sl∧x.sets=y.sets)↔x=y:=by
 cases x;cases y;simp only [St.mk.injEq]
instance stDec:DecidableEq St:=fun s t=>decidable_of_iff _ (St.eq_iff s t)
def St.none:St:=⟨0,0,0,0,0,0,0,0,[],[]⟩
structure Stp where
 v:St
 a1:Option Addr
 n1:Nat
 c1:Nat
 a2:Option Addr
 n2:Nat
 c2:Nat
def Stp.cells (x:Stp):List Value:=[.int .i64 x.v.k,.int .i64 x.v.f,.int .i64 x.v.t,.int .i64 x.v.gf,.int .i64 x.v.gt,.int .i64 x.v.ins,.int .i64 x.v.mark,.int .i64 x.v.vl,.slice x.a1 x.n1 x.c1,.slice x.a2 x.n2 x.c2]
theorem Stp.cells_length (x:Stp):x.cells.length=10:=by simp [Stp.cells]
theorem build_stp (x:Stp):List.foldl (fun (cs:Array Value) (y:Value×Nat)=>cs.setIfInBounds y.2 y.1) #[Value.int .i64 0,Value.int .i64 0,Value.int .i64 0,Value.int .i64 0,Value.int .i64 0,Value.int .i64 0,Value.int .i64 0,Value.int .i64 0,Value.slice none 0 0,Value.slice none 0 0] x.cells.zipIdx=x.cells.toArray:=by
 simp [Stp.cells]
def Stp.Ok (w:World) (B:Nat) (x:Stp):Prop:=x.v.sl.length=x.n1∧x.v.sets.length=x.n2∧Sl w B 12 Tok.cells x.a1 x.v.sl∧Sl w B 8 Mks.cells x.a2 x.v.sets∧x.n1≤x.c1∧x.n2≤x.c2
theorem Stp.Ok.keep {w w':World} {B:Nat} {x:Stp} (h:x.Ok w B) {B':Nat} (hB:B≤B') (hb:Below B' w w'):x.Ok w' B :=
 ⟨h.1,h.2.1,h.2.2.1.below (hb.mono hB),h.2.2.2.1.below (hb.mono hB),h.2.2.2.2⟩
def Stp.none:Stp:=⟨St.none,Option.none,0,0,Option.none,0,0⟩
def Stp.inOk (w:World) (x:Stp):Prop:=x.Ok w w.heap.size∧x.c1≤9223372036854775807∧x.c2≤9223372036854775807∧okInt x.v.k∧okInt x.v.f∧okInt x.v.t∧okInt x.v.gf∧okInt x.v.gt∧okInt x.v.ins∧okInt x.v.mark∧okInt x.v.vl
section
variable {H:Type} {encH:TypeId×Value→H} {w:World} {base:Nat} {spare:Nat→Bool} {held:Bool}
theorem el_mks (m:Nat) (cs:List Value) (y:DataW H×List MemPlace) (h:DataW.trod encH Try.prog w base spare held m 69 cs=some y):∃ t:Mks,cs=t.cells∧True:=by
 obtain ⟨m0,m1,m2,m3,m4,m5,m6,m7,h4,w4⟩:=el_marks Try.underlying69 Try.underlying67 (by kernel_rfl) (by kernel_rfl) _ _ _ h
 exact ⟨⟨m0,m1,m2,m3,m4,m5,m6,m7⟩,h4,trivial⟩
theorem trod_slice_form {P:Program} {t e:TypeId} (ht:P.underlying t=some (.slice e)) {fuel:Nat} {v:Value} {x:DataW H×List MemPlace} (hf:DataW.trod encH P w base spare held fuel t [v]=some x):∃ A n c,v=.slice A n c:=by
 rcases open_slice ht hf with ⟨h0,_⟩ | ⟨a,len,cap,m,k,D,Pl,hcs,_⟩
 ·injection h0 with h0 _;exact ⟨_,_,_,h0⟩
 ·injection hcs with h0 _;exact ⟨_,_,_,h0⟩
set_option maxRecDepth 100000 in
theorem el_stp (m:Nat) (cs:List Value) (y:DataW H×List MemPlace) (h:DataW.trod encH Try.prog w base spare held m 26 cs=some y):∃ t:Stp,cs=t.cells∧t.inOk w:=by
  obtain ⟨xs,k,_,_,hlen,hxl,hx⟩:=DataW.trod_struct Try.underlying26 h
  have hC:Try.prog.cellsOf 26=10:=by kernel_rfl
  have hI:Try.prog.cellsOf 3=1:=by kernel_rfl
  have hT:Try.prog.cellsOf 22=1:=by kernel_rfl
  have hM:Try.prog.cellsOf 24=1:=by kernel_rfl
  rw [hC] at hlen
  match cs,hlen,xs,hxl with
  | [c0, c1, c2, c3, c4, c5, c6, c7, c8, c9], _, [x0, x1, x2, x3, x4, x5, x6, x7, x8, x9], _ =>
    have f0:DataW.trod encH Try.prog w base spare held k 3 (([c0,c1,c2,c3,c4,c5,c6,c7,c8,c9].drop 0).take (Try.prog.cellsOf 3))=[x0,x1,x2,x3,x4,x5,x6,x7,x8,x9][0]?:=hx 0 _ rfl
    have f1:DataW.trod encH Try.prog w base spare held k 3 (([c0,c1,c2,c3,c4,c5,c6,c7,c8,c9].drop 1).take (Try.prog.cellsOf 3))=[x0,x1,x2,x3,x4,x5,x6,x7,x8,x9][1]?:=hx 1 _ rfl
    have f2:DataW.trod encH Try.prog w base spare held k 3 (([c0,c1,c2,c3,c4,c5,c6,c7,c8,c9].drop 2).take (Try.prog.cellsOf 3))=[x0,x1,x2,x3,x4,x5,x6,x7,x8,x9][2]?:=hx 2 _ rfl
    have f3:DataW.trod encH Try.prog w base spare held k 3 (([c0,c1,c2,c3,c4,c5,c6,c7,c8,c9].drop 3).take (Try.prog.cellsOf 3))=[x0,x1,x2,x3,x4,x5,x6,x7,x8,x9][3]?:=hx 3 _ rfl
    have f4:DataW.trod encH Try.prog w base spare held k 3 (([c0,c1,c2,c3,c4,c5,c6,c7,c8,c9].drop 4).take (Try.prog.cellsOf 3))=[x0,x1,x2,x3,x4,x5,x6,x7,x8,x9][4]?:=hx 4 _ rfl
    have f5:DataW.trod encH Try.prog w base spare held k 3 (([c0,c1,c2,c3,c4,c5,c6,c7,c8,c9].drop 5).take (Try.prog.cellsOf 3))=[x0,x1,x2,x3,x4,x5,x6,x7,x8,x9][5]?:=hx 5 _ rfl
    have f6:DataW.trod encH Try.prog w base spare held k 3 (([c0,c1,c2,c3,c4,c5,c6,c7,c8,c9].drop 6).take (Try.prog.cellsOf 3))=[x0,x1,x2,x3,x4,x5,x6,x7,x8,x9][6]?:=hx 6 _ rfl
    have f7:DataW.trod encH Try.prog w base spare held k 3 (([c0,c1,c2,c3,c4,c5,c6,c7,c8,c9].drop 7).take (Try.prog.cellsOf 3))=[x0,x1,x2,x3,x4,x5,x6,x7,x8,x9][7]?:=hx 7 _ rfl
    have f8:DataW.trod encH Try.prog w base spare held k 22 (([c0,c1,c2,c3,c4,c5,c6,c7,c8,c9].drop 8).take (Try.prog.cellsOf 22))=[x0,x1,x2,x3,x4,x5,x6,x7,x8,x9][8]?:=hx 8 _ rfl
    have f9:DataW.trod encH Try.prog w base spare held k 24 (([c0,c1,c2,c3,c4,c5,c6,c7,c8,c9].drop 9).take (Try.prog.cellsOf 24))=[x0,x1,x2,x3,x4,x5,x6,x7,x8,x9][9]?:=hx 9 _ rfl
    rw [hI] at f0 f1 f2 f3 f4 f5 f6 f7
    rw [hT] at f8
    rw [hM] at f9
    obtain ⟨a0,h0,_,w0⟩:=DataW.trod_int Try.underlying3 f0
    obtain ⟨a1,h1,_,w1⟩:=DataW.trod_int Try.underlying3 f1
    obtain ⟨a2,h2,_,w2⟩:=DataW.trod_int Try.underlying3 f2
    obtain ⟨a3,h3,_,w3⟩:=DataW.trod_int Try.underlying3 f3
    obtain ⟨a4,h4,_,w4⟩:=DataW.trod_int Try.underlying3 f4
    obtain ⟨a5,h5,_,w5⟩:=DataW.trod_int Try.underlying3 f5
    obtain ⟨a6,h6,_,w6⟩:=DataW.trod_int Try.underlying3 f6
    obtain ⟨a7,h7,_,w7⟩:=DataW.trod_int Try.underlying3 f7
    simp at h0 h1 h2 h3 h4 h5 h6 h7
    subst h0;subst h1;subst h2;subst h3;subst h4;subst h5;subst h6;subst h7
    simp only [List.drop_succ_cons,List.drop_zero,List.take_succ_cons,List.take_zero] at f8 f9
    obtain ⟨A,n,c,rfl⟩:=trod_slice_form Try.underlying22 f8
    obtain ⟨A',n',c',rfl⟩:=trod_slice_form Try.underlying24 f9
    obtain ⟨l1,e1,s1,o1,m1,_⟩:=open_sl Try.underlying22 12 (by kernel_rfl) (by omega) Tok.cells Tok.cells_length Tok.ok el_tok f8
    obtain ⟨l2,e2,s2,o2,m2,_⟩:=open_sl Try.underlying24 8 (by kernel_rfl) (by omega) Mks.cells Mks.cells_length (fun _=>True) el_mks f9
    exact ⟨⟨⟨a0,a1,a2,a3,a4,a5,a6,a7,l1,l2⟩,A,n,c,A',n',c'⟩,rfl,⟨e1,e2,s1,s2,o1,o2⟩,m1,m2,w0,w1,w2,w3,w4,w5,w6,w7⟩
end
end Go.Proofs.Ytkcfhciffdnmmaa
namespace Go.Proofs.Ytkcfhciffdnmmaa
set_option linter.unusedSimpArgs false
set_option linter.unusedVariables false
set_option maxRecDepth 100000
open Go.RowKit
def tok0:Tok:=⟨0,0,0,0,0,0,0,0,0,0,0,0⟩
def mks0:Mks:=⟨0,0,0,0,0,0,0,0⟩
def tokF (t:Tok):Nat→HV
 | 0=>.imm (.int .i64 t.kind) | 1=>.imm (.int .i64 t.typ) | 2=>.imm (.int .i64 t.attr) | 3=>.imm (.int .i32 t.rune)
 | 4=>.imm (.int .u16 t.m0) | 5=>.imm (.int .u16 t.m1) | 6=>.imm (.int .u16 t.m2) | 7=>.imm (.int .u16 t.m3)
 | 8=>.imm (.int .u16 t.m4) | 9=>.imm (.int .u16 t.m5) | 10=>.imm (.int .u16 t.m6) | _=>.imm (.int .u16 t.m7)
def mksF (t:Mks):Nat→HV
 | 0=>.imm (.int .u16 t.m0) | 1=>.imm (.int .u16 t.m1) | 2=>.imm (.int .u16 t.m2) | 3=>.imm (.int .u16 t.m3)
 | 4=>.imm (.int .u16 t.m4) | 5=>.imm (.int .u16 t.m5) | 6=>.imm (.int .u16 t.m6) | _=>.imm (.int .u16 t.m7)
@[reducible] def toksV (l:List Tok):HV:=.sl 12 l.length (fun i=>tokF (l.getD i tok0))
@[reducible] def mkssV (l:List Mks):HV:=.sl 8 l.length (fun i=>mksF (l.getD i mks0))
def stF (s:St):Nat→HV
 | 0=>.imm (.int .i64 s.k) | 1=>.imm (.int .i64 s.f) | 2=>.imm (.int .i64 s.t) | 3=>.imm (.int .i64 s.gf) | 4=>.imm (.int .i64 s.gt)
 | 5=>.imm (.int .i64 s.ins) | 6=>.imm (.int .i64 s.mark) | 7=>.imm (.int .i64 s.vl) | 8=>toksV s.sl | _=>mkssV s.sets
@[reducible] def stV (s:St):HV:=.agg 10 (stF s)
theorem fz_tokF {sh:List (Nat×HObj)} (t:Tok) (j:Nat):Fz sh (tokF t j) (tokF t j):=by unfold tokF;split <;> exact .imm _
theorem fz_mksF {sh:List (Nat×HObj)} (t:Mks) (j:Nat):Fz sh (mksF t j) (mksF t j):=by unfold mksF;split <;> exact .imm _
theorem fz_toks {sh:List (Nat×HObj)} (l:List Tok):Fz sh (toksV l) (toksV l):=.sl _ _ _ _ fun i j _ _=>fz_tokF _ _
theorem fz_mkss {sh:List (Nat×HObj)} (l:List Mks):Fz sh (mkssV l) (mkssV l):=.sl _ _ _ _ fun i j _ _=>fz_mksF _ _
theorem fz_stF {sh:List (Nat×HObj)} (t:St) (j:Nat):Fz sh (stF t j) (stF t j):=by unfold stF;split <;> first | exact .imm _ | exact fz_toks _ | exact fz_mkss _
instance (t:Tok) (j:Nat):Frz (tokF t j):=⟨fz_tokF t j⟩
instance (t:Mks) (j:Nat):Frz (mksF t j):=⟨fz_mksF t j⟩
instance (t:St) (j:Nat):Frz (stF t j):=⟨fz_stF t j⟩
theorem Few25h (s:St):HPure Try.prog 16 [stV s] (boolV (decide ((s.sl.length:Int)≤60)&&decide ((s.sets.length:Int)≤150))):=by
 refine hpure_of Try.func16 rfl kr _ _ _ rfl 13 rfl rfl (fun w F=>?_)
 refine srg fun N h1=>?_
 refine hm_1 1 (hop_box (id:=1) (sz:=10) rfl rfl rfl omx omx) rfl rfl pre0 rfl rfl (c':=1) rfl ?_
 refine sa<|snl h1<|srg fun N h2=>?_
 first
 | refine hq_ 3 (hop_fa fd_26_8 rfl) rfl rfl pre0 rfl rfl ?_
 | refine hq_ 3 (hop_fa_fp fd_26_8 rfl (by first | exact Nat.le_of_ble_eq_true rfl | omega | (dsimp only;omega) | (simp <;> omega))) rfl rfl pre0 rfl rfl ?_
 first
 | refine hq_ 4 (hol_load ty_22 rfl (by first | exact Nat.le_of_ble_eq_true rfl | omega | (dsimp only;omega) | (simp <;> omega)) (by first | exact Nat.le_of_ble_eq_true rfl | omega | (dsimp only;omega) | (simp <;> omega)) (fun h=>(by first | rfl | cases h))) rfl rfl (pre1 rfl) rfl rfl ?_
 | refine hq_ 4 (hop_load_fp ty_22 rfl (by first | exact Nat.le_of_ble_eq_true rfl | omega | (dsimp only;omega) | (simp <;> omega)) (fun h=>(by first | rfl | cases h))) rfl rfl pre0 rfl rfl ?_
 first
 | refine hq_ 5 (hop_len_sl (T:=22) rfl (elOf_spec el_22).1 rfl) rfl rfl pre0 rfl rfl ?_
 | refine hq_ 5 (hop_len_os (T:=22) rfl (elOf_spec el_22).1 rfl) rfl rfl pre0 rfl rfl ?_
 | refine hq_ 5 (hop_len_nil (T:=22) rfl (elOf_spec el_22).1 rfl) rfl rfl pre0 rfl rfl ?_
 refine s0 (hop_leq rfl rfl) ?_
 refine sm ?_
 first
 | refine stg 7 (fun hb=>hop_fa fd_26_9 rfl) rfl rfl rfl rfl rfl ?_
 | refine sth 7 (fun hb=>hop_fa fd_26_9 rfl) rfl rfl rfl rfl rfl ?_
 | refine stg 7 (fun hb=>hop_fa_fp fd_26_9 rfl (by first | exact Nat.le_of_ble_eq_true rfl | (simp at hb;first | omega | (dsimp only;omega) | (simp <;> omega)) | omega | (dsimp only;omega))) rfl rfl rfl rfl rfl ?_
 | refine sth 7 (fun hb=>hop_fa_fp fd_26_9 rfl (by first | exact Nat.le_of_ble_eq_true rfl | (simp at hb;first | omega | (dsimp only;omega) | (simp <;> omega)) | omega | (dsimp only;omega))) rfl rfl rfl rfl rfl ?_
 first
 | refine hq_g 9 4 7 true _ (fun hb=>hol_load ty_24 rfl (by first | exact Nat.le_of_ble_eq_true rfl | (simp at hb;first | omega | (dsimp only;omega) | (simp <;> omega)) | omega | (dsimp only;omega)) (by first | exact Nat.le_of_ble_eq_true rfl | (simp at hb;first | omega | (dsimp only;omega) | (simp <;> omega)) | omega | (dsimp only;omega)) (fun h=>(by first | rfl | cases h))) rfl rfl rfl rfl (pre1 rfl) rfl rfl rfl ?_
 | refine hq_g2 9 4 7 _ _ true _ (fun hb=>hol_load ty_24 rfl (by first | exact Nat.le_of_ble_eq_true rfl | (simp at hb;first | omega | (dsimp only;omega) | (simp <;> omega)) | omega | (dsimp only;omega)) (by first | exact Nat.le_of_ble_eq_true rfl | (simp at hb;first | omega | (dsimp only;omega) | (simp <;> omega)) | omega | (dsimp only;omega)) (fun h=>(by first | rfl | cases h))) rfl rfl rfl rfl (pre1 rfl) rfl rfl rfl ?_
 | refine stg 7 (fun hb=>hop_load_fp ty_24 rfl (by first | exact Nat.le_of_ble_eq_true rfl | (simp at hb;first | omega | (dsimp only;omega) | (simp <;> omega)) | omega | (dsimp only;omega)) (fun h=>(by first | rfl | cases h))) rfl rfl rfl rfl rfl ?_
 | refine sth 7 (fun hb=>hop_load_fp ty_24 rfl (by first | exact Nat.le_of_ble_eq_true rfl | (simp at hb;first | omega | (dsimp only;omega) | (simp <;> omega)) | omega | (dsimp only;omega)) (fun h=>(by first | rfl | cases h))) rfl rfl rfl rfl rfl ?_
 first
 | refine stg 7 (fun hb=>hop_len_sl (T:=24) rfl (elOf_spec el_24).1 rfl) rfl rfl rfl rfl rfl ?_
 | refine sth 7 (fun hb=>hop_len_sl (T:=24) rfl (elOf_spec el_24).1 rfl) rfl rfl rfl rfl rfl ?_
 | refine stg 7 (fun hb=>hop_len_os (T:=24) rfl (elOf_spec el_24).1 rfl) rfl rfl rfl rfl rfl ?_
 | refine sth 7 (fun hb=>hop_len_os (T:=24) rfl (elOf_spec el_24).1 rfl) rfl rfl rfl rfl rfl ?_
 | refine stg 7 (fun hb=>hop_len_nil (T:=24) rfl (elOf_spec el_24).1 rfl) rfl rfl rfl rfl rfl ?_
 | refine sth 7 (fun hb=>hop_len_nil (T:=24) rfl (elOf_spec el_24).1 rfl) rfl rfl rfl rfl rfl ?_
 first
 | refine stg 7 (fun hb=>hop_leq rfl rfl) rfl rfl rfl rfl rfl ?_
 | refine sth 7 (fun hb=>hop_leq rfl rfl) rfl rfl rfl rfl rfl ?_
 first
 | refine hq_p 12 (hstep_and _ _ rfl rfl rfl) rfl rfl rfl ?_
 | refine hq_p 12 (hstep_or _ _ rfl rfl rfl) rfl rfl rfl ?_
 | refine hq_p 12 (hstep_ite _ _ _ rfl rfl rfl) rfl rfl rfl ?_
 | refine hq_p 12 (hstep_pick _ _ _ _ rfl rfl rfl (fun _=>.refl _) (fun _=>.refl _)) rfl rfl rfl ?_
 refine sa ?_
 refine nu ?_
 refine h2 _<|hw_ret ?_
 refine hq_ret1 rfl (rval_tmp rfl) [] rfl pre0 ?_
 exact Frz.fz
theorem sl_of {α:Type} {w:World} {E:Env} {v:Value} (sz:Nat) (enc:α→List Value) (henc:∀ x,(enc x).length=sz) (encF:α→Nat→HV) (hF:∀ x j,j < sz→encF x j=.imm ((enc x).getD j undef)) (d:α) (l:List α)
    (h:Rep w E v (.sl sz l.length (fun i=>encF (l.getD i d)))):∃ A c,v=.slice A l.length c∧l.length≤c∧c≤maxLen∧Sl w w.heap.size sz enc A l:=by
  cases h with
  | sl A _ c _ _ vs hc hm hA h =>
    refine ⟨A,c,rfl,hc,hm,henc,flatMap_len henc l,fun hn=>?_⟩
    obtain ⟨b,o,rfl,hlt,hcell⟩:=hA hn
    refine ⟨_,rfl,hlt,fun p u hu=>?_⟩
    have hp:p < l.length * sz:=by
      rcases Nat.lt_or_ge p (l.flatMap enc).length with h1 | h1
      · rwa [flatMap_len henc] at h1
      · rw [List.getElem?_eq_none h1] at hu;cases hu
    have hs:0 < sz:=Nat.pos_of_ne_zero (fun h0=>by subst h0;simp at hp)
    have hi:p / sz < l.length:=(Nat.div_lt_iff_lt_mul hs).2 hp
    have hj:p % sz < sz:=Nat.mod_lt _ hs
    have e1:p=p / sz * sz+p % sz:=by rw [Nat.mul_comm];exact (Nat.div_add_mod p sz).symm
    rw [add_off,e1,(hcell _ _ hi hj).2.1]
    rw [e1,flatMap_at henc l _ _ hi hj] at hu
    have hr:Rep w E (vs (p / sz) (p % sz)) (encF (l.getD (p / sz) d) (p % sz)):=h _ _ hi hj
    rw [hF _ _ hj] at hr
    have hv:=hr.imm_inv
    rw [hv]
    have hg:l.getD (p / sz) d=l[p / sz]:=by simp [List.getD,List.getElem?_eq_getElem hi]
    rw [hg]
    have:(enc l[p / sz]).getD (p % sz) undef=u:=by simp [List.getD,hu]
    rw [this]
theorem arr10 {cs:Array Value} (h:cs.size=10) (vs:Nat→Value) (hv:∀ i,i < 10→cs[i]?=some (vs i)):cs=#[vs 0,vs 1,vs 2,vs 3,vs 4,vs 5,vs 6,vs 7,vs 8,vs 9]:=by
 apply Array.ext_getElem?
 intro i
 by_cases hi:i < 10
 ·rw [hv i hi]
  match i,hi with
  | 0,_=>rfl | 1,_=>rfl | 2,_=>rfl | 3,_=>rfl | 4,_=>rfl | 5,_=>rfl | 6,_=>rfl | 7,_=>rfl | 8,_=>rfl | 9,_=>rfl
 ·rw [Array.getElem?_eq_none (by omega),Array.getElem?_eq_none (by simp;omega)]
theorem pure_imm {w w':World} {F:Addr→Prop} {u:Value} (hF:∀ a,F a→a.spot=none∧(w.cell? a).isSome=true) (hb:Below w.heap.size w w'):PurePost w F (.imm u) (.returned u) w' :=
 ⟨hb,u,F,rfl,fun _ h=>h,fun _ h=>.inl h,fun a ha=>⟨(hF a ha).1,by rw [World.cell?_of_block (hb.block _ (lt_of_cell (hF a ha).2))];exact (hF a ha).2⟩,.imm u⟩
theorem gives_pure {α:Type} {w w':World} {F:Addr→Prop} (hF:∀ a,F a→a.spot=none∧(w.cell? a).isSome=true) {e:TypeId} {sz:Nat} {enc:α→List Value} (encF:α→Nat→HV) (hFe:∀ x j,j < sz→encF x j=.imm ((enc x).getD j undef)) (h1:∀ x,∀ u∈enc x,u.oneCell'=true) (d:α) {l:List α} {en:Ending}
  (h:GivesSl e sz enc w l en w'):PurePost w F (.sl sz l.length (fun i=>encF (l.getD i d))) en w':=by
 obtain ⟨A,c,rfl,hown,hb⟩:=h
 have henc:=hown.1
 have hFk:∀ a,F a→(w'.cell? a)=w.cell? a:=fun a ha=>World.cell?_of_block (hb.block _ (lt_of_cell (hF a ha).2))
 rcases hown.2.2 with ⟨hv,hn⟩ | ⟨b,cap,cur,hv,hbase,hblk,hn,hcap,hsz,htake⟩
 ·injection hv with hA _ hc
  subst hA;subst hc
  have hl:l=[]:=List.eq_nil_of_length_eq_zero hn
  subst hl
  refine ⟨hb,_,F,rfl,fun _ h=>h,fun _ h=>.inl h,fun a ha=>⟨(hF a ha).1,by rw [hFk a ha];exact (hF a ha).2⟩,?_⟩
  exact .sl _ 0 0 sz _ (fun _ _=>undef) (Nat.le_refl _) (Nat.zero_le _) (fun h=>absurd h (Nat.lt_irrefl _)) (fun i j hi=>absurd hi (Nat.not_lt_zero _))
 ·injection hv with hA _ hc
  subst hA;subst hc
  have hB:Blk w' b e cur:=hblk
  have hcell:∀ i j,i < l.length→j < sz→w'.cell? ⟨b,i * sz+j,none⟩=some ((enc (l.getD i d)).getD j undef):=by
   intro i j hi hj
   have hlt:=pos_in (sz:=sz) hi hj
   have hg:l.getD i d=l[i]:=by simp [List.getD,List.getElem?_eq_getElem hi]
   have hj':j < (enc l[i]).length:=by rw [henc];exact hj
   have hg2:(enc l[i]).getD j undef=(enc l[i])[j]:=by simp [List.getD,List.getElem?_eq_getElem hj']
   rw [hB.cell,hg,hg2,←Array.getElem?_toList]
   have:=flatMap_at henc l i j hi hj
   rw [←htake,List.getElem?_take,if_pos hlt] at this
   rw [this,List.getElem?_eq_getElem hj']
  refine ⟨hb,_,fun a=>F a∨(a.block=b∧a.spot=none∧a.off < l.length * sz),rfl,fun _ h=>.inl h,fun a ha=>?_,fun a ha=>?_,?_⟩
  ·rcases ha with ha | ⟨ha,_⟩
   ·exact .inl ha
   ·exact .inr (by rw [ha];exact hbase)
  ·rcases ha with ha | ⟨ha,hs,ho⟩
   ·exact ⟨(hF a ha).1,by rw [hFk a ha];exact (hF a ha).2⟩
   ·obtain ⟨ab,ao,asp⟩:=a
    simp only at ha hs ho
    subst ha;subst hs
    refine ⟨rfl,?_⟩
    have:ao < cur.size:=by rw [hsz];exact Nat.lt_of_lt_of_le ho (Nat.mul_le_mul_right _ hn)
    rw [hB.cell,Array.getElem?_eq_getElem this];rfl
  ·refine .sl _ _ _ sz _ (fun i j=>(enc (l.getD i d)).getD j undef) hn hcap (fun hp=>⟨b,0,rfl,hB.lt,fun i j hi hj=>?_⟩) (fun i j hi hj=>by show Rep _ _ _ (encF _ _);rw [hFe _ _ hj];exact .imm _)
   rw [Nat.zero_add]
   refine ⟨.inr ⟨rfl,rfl,pos_in hi hj⟩,hcell i j hi hj,?_⟩
   have hj':j < (enc (l.getD i d)).length:=by rw [henc];exact hj
   have hg2:(enc (l.getD i d)).getD j undef=(enc (l.getD i d))[j]:=by rw [List.getD_eq_getElem?_getD,List.getElem?_eq_getElem hj'];rfl
   rw [hg2]
   exact h1 _ _ (List.getElem_mem hj')
theorem rep1 {w:World} {E:Env} {vs:List Value} {x:HV} (h:RepAll w E vs [x]):∃ v,vs=[v]∧Rep w E v x:=by
 match vs,h with
 | [v],h=>exact ⟨v,rfl,h.1⟩
theorem rep2 {w:World} {E:Env} {vs:List Value} {x y:HV} (h:RepAll w E vs [x,y]):∃ u v,vs=[u,v]∧Rep w E u x∧Rep w E v y:=by
 match vs,h with
 | [u,v],h=>exact ⟨u,v,rfl,h.1,h.2.1⟩
def allF (w:World) (a:Addr):Prop:=a.spot=none∧(w.cell? a).isSome=true
theorem rep_sl {α:Type} {w:World} {B:Nat} {A:Option Addr} {c:Nat} (sz:Nat) (hs:0 < sz) (enc:α→List Value) (enc1:∀ x,∀ u∈enc x,u.oneCell'=true) (encF:α→Nat→HV) (d:α) (l:List α) (hc:l.length≤c) (hm:c≤maxLen) (h:Sl w B sz enc A l)
  (hr:∀ i j,i < l.length→j < sz→Rep w (Env.just (allF w)) ((enc (l.getD i d)).getD j undef) (encF (l.getD i d) j)):Rep w (Env.just (allF w)) (.slice A l.length c) (.sl sz l.length (fun i=>encF (l.getD i d))):=by
 refine .sl A l.length c sz _ (fun i j=>(enc (l.getD i d)).getD j undef) hc hm (fun hn=>?_) hr
 obtain ⟨b,o,rfl,hb⟩:=h.addr hn hs
 have cell:∀ i j,i < l.length→j < sz→w.cell? ⟨b,o+(i * sz+j),none⟩=some ((enc (l.getD i d)).getD j undef)∧((enc (l.getD i d)).getD j undef).oneCell'=true:=by
  intro i j hi hj
  have:=h.cell_ hi j hj
  have hg:l.getD i d=l[i]:=by rw [List.getD_eq_getElem?_getD,List.getElem?_eq_getElem hi];rfl
  have hj':j < (enc l[i]).length:=by rw [h.1];exact hj
  have hg2:(enc l[i]).getD j undef=(enc l[i])[j]:=by rw [List.getD_eq_getElem?_getD,List.getElem?_eq_getElem hj'];rfl
  rw [hg,hg2,show o+(i * sz+j)=o+i * sz+j from by omega,this,List.getElem?_eq_getElem hj']
  exact ⟨rfl,enc1 _ _ (List.getElem_mem hj')⟩
 have hlt:b < w.heap.size:=by
  have:=(cell 0 0 hn hs).1
  exact World.block_lt_of_cell? w _ this
 exact ⟨b,o,rfl,hlt,fun i j hi hj=>⟨⟨rfl,by rw [(cell i j hi hj).1];rfl⟩,(cell i j hi hj).1,(cell i j hi hj).2⟩⟩
theorem law_walk {P:Program} {f:FuncId} {xs:List HV} (h:HPure P f xs (boolV true)) (w:World) (vs:List Value) (hr:RepAll w (Env.just (allF w)) vs xs) (hw:LibW w):Calls P f vs.toArray w fun e w'=>e=.returned (.bool true)∧Below w.heap.size w w':=by
 refine (h.2 w (allF w) vs (fun a h=>h) hr hw).mono ?_
 rintro e w' ⟨hb,v,F',rfl,_,_,_,hv⟩
 rw [hv.imm_inv]
 exact ⟨rfl,hb⟩
theorem tokF_imm (t:Tok) (j:Nat) (h:j < 12):tokF t j=.imm (t.cells.getD j undef):=by
 match j,h with
 | 0,_=>rfl | 1,_=>rfl | 2,_=>rfl | 3,_=>rfl | 4,_=>rfl | 5,_=>rfl | 6,_=>rfl | 7,_=>rfl | 8,_=>rfl | 9,_=>rfl | 10,_=>rfl | 11,_=>rfl
theorem mksF_imm (t:Mks) (j:Nat) (h:j < 8):mksF t j=.imm (t.cells.getD j undef):=by
 match j,h with
 | 0,_=>rfl | 1,_=>rfl | 2,_=>rfl | 3,_=>rfl | 4,_=>rfl | 5,_=>rfl | 6,_=>rfl | 7,_=>rfl
theorem toks_of {w:World} {E:Env} {v:Value} {l:List Tok} (h:Rep w E v (toksV l)):∃ A c,v=.slice A l.length c∧l.length≤c∧c≤maxLen∧Sl w w.heap.size 12 Tok.cells A l:=sl_of 12 Tok.cells Tok.cells_length tokF tokF_imm tok0 l h
theorem mkss_of {w:World} {E:Env} {v:Value} {l:List Mks} (h:Rep w E v (mkssV l)):∃ A c,v=.slice A l.length c∧l.length≤c∧c≤maxLen∧Sl w w.heap.size 8 Mks.cells A l:=sl_of 8 Mks.cells Mks.cells_length mksF mksF_imm mks0 l h
theorem stp_of {w:World} {E:Env} {v:Value} {s:St} (h:Rep w E v (stV s)):∃ a:Stp,a.v=s∧v=.agg a.cells.toArray∧a.Ok w w.heap.size:=by
  cases h with
  | agg cs _ _ vs hn hv h =>
    have e:=arr10 hn vs (fun i hi=>(hv i hi).1)
    have i0:=(h 0 (by omega)).imm_inv
    have i1:=(h 1 (by omega)).imm_inv
    have i2:=(h 2 (by omega)).imm_inv
    have i3:=(h 3 (by omega)).imm_inv
    have i4:=(h 4 (by omega)).imm_inv
    have i5:=(h 5 (by omega)).imm_inv
    have i6:=(h 6 (by omega)).imm_inv
    have i7:=(h 7 (by omega)).imm_inv
    obtain ⟨A1,c1,i8,o1,_,s1⟩:=toks_of (h 8 (by omega))
    obtain ⟨A2,c2,i9,o2,_,s2⟩:=mkss_of (h 9 (by omega))
    rw [i0,i1,i2,i3,i4,i5,i6,i7,i8,i9] at e
    subst e
    exact ⟨⟨s,A1,s.sl.length,c1,A2,s.sets.length,c2⟩,rfl,rfl,rfl,rfl,s1,s2,o1,o2⟩
theorem rep_toks {w:World} {B:Nat} {A:Option Addr} {c:Nat} {l:List Tok} (h:Sl w B 12 Tok.cells A l) (hc:l.length≤c) (hm:c≤maxLen):Rep w (Env.just (allF w)) (.slice A l.length c) (toksV l) :=
 rep_sl 12 (by omega) Tok.cells tok_one tokF tok0 l hc hm h (fun i j _ hj=>by rw [tokF_imm _ _ hj];exact .imm _)
theorem rep_mkss {w:World} {B:Nat} {A:Option Addr} {c:Nat} {l:List Mks} (h:Sl w B 8 Mks.cells A l) (hc:l.length≤c) (hm:c≤maxLen):Rep w (Env.just (allF w)) (.slice A l.length c) (mkssV l) :=
 rep_sl 8 (by omega) Mks.cells mks_one mksF mks0 l hc hm h (fun i j _ hj=>by rw [mksF_imm _ _ hj];exact .imm _)
section
variable {K:Nat→Prop} {w0 w:World} {F0:Addr→Prop} {E:Env} {h:Nat→Option HObj}
end
section
variable {P:Program} {ov:Nat→Option HV} {g:Nat} {d:Option Tmp} {ty T yT:TypeId} {pos:String} {af:Array Edge} {gd:Option (Nat×Bool)} {x y:Operand} {l m:List UInt8}
end
section
variable {P:Program} {ov:Nat→Option HV} {g:Nat} {d:Option Tmp} {ty T yT:TypeId} {pos:String} {af:Array Edge} {gd:Option (Nat×Bool)} {x y:Operand} {k k':IntKind} {a b:Int}
end
theorem HOp.val {P:Program} {o:Oper} {ov:Nat→Option HV} {g:Nat} {pre post:List (Nat×HObj)} {v v':HV} (h:HOp P o ov g pre v post) (e:v=v'):HOp P o ov g pre v' post:=e▸h
section
variable {P:Program} {ov:Nat→Option HV} {g:Nat} {d:Option Tmp} {ty T yT:TypeId} {pos:String} {af:Array Edge} {gd:Option (Nat×Bool)} {x y:Operand} {k k':IntKind} {a b lo hi c:Int}
end
theorem HFun.mono {P:Program} {f:FuncId} {c:Nat} {args:List HV} {pre:List (Nat×HObj)} {Post Post':HEnd→List (Nat×HObj)→Nat→Prop} (h:HFun P f c args pre Post) (hi:∀ e kp c',Post e kp c'→Post' e kp c'):HFun P f c args pre Post' :=
 ⟨h.1,fun X vs ok hX hr hG=>(h.2 X vs ok hX hr hG).mono (by rintro e w' ⟨x,kp,c',E',hP,rest⟩;exact ⟨x,kp,c',E',hi _ _ _ hP,rest⟩)⟩
theorem hupd_same {h:Nat→Option HObj}:∀ {p:List (Nat×HObj)},(∀ q∈p,h q.1=some q.2)→hupd h p=h
  | [],_=>rfl
  | q :: p, hq => by
    show hset (hupd h p) q.1 q.2=h
    rw [hupd_same (fun x hx=>hq x (List.mem_cons_of_mem _ hx))]
    funext k
    unfold hset
    split
    · rename_i e;subst e;exact (hq q (List.mem_cons_self ..)).symm
    · rfl
theorem clocks_self (pre:List (Nat×HObj)):Clocks pre pre:=fun id o h=>⟨_,hget_mem h,rfl⟩
section
variable {P:Program} {ops:Array Oper} {ov:Nat→Option HV} {g:Nat} {d:Option Tmp} {ty:TypeId} {pos:String} {af:Array Edge} {gd:Option (Nat×Bool)}
theorem hop_funD {f:FuncId} {args:List Operand} {at_:Array TypeId} {xs:List HV} {pre post:List (Nat×HObj)} {r:HV} (hc:HFunD P f xs pre r post) (hk:Clocks pre post) (hx:ovAll ov args xs) :
  HOp P ⟨d,.call ⟨.value (.func f),args.toArray,at_⟩,ty,pos,af,gd⟩ ov g pre r post:=by
 intro K w0 F0 E hh a w Q N rr ht hG hBd hpre hN
 have hrep:=hx.rep (w:=w) (E:=E) (ρ:=a.eval) (fun x hv hx h=>ht x hv (by simp [Op.operands,Call.operands];exact .inr hx) h)
 unfold Oper.wp execOp
 have hargs:args.toArray.map a.eval=(args.map a.eval).toArray:=by simp
 simp only [resolve,Act.eval,Deferred.ofValue,invoke,Sem.run_bind,Sem.run_pure,Result.andThen_ok,Array.empty_append,Array.append_empty]
 rw [run_callFunc (hc 0).1]
 simp only [Oper.upon]
 have h:=hc.sem hk rr hpre (args.map a.eval) hrep hBd
 rw [←hargs] at h
 refine Calls.mono h ?_
 rintro e w' ⟨v,E',rfl,e',r',hg',hv⟩
 exact hN v w' E' e' r' (fun g' h=>.inl (hg' g' h)) hv
theorem hop_funR {f:FuncId} {args:List Operand} {at_:Array TypeId} {xs:List HV} {pre:List (Nat×HObj)} {r:HV} (hc:HFunD P f xs pre r pre) (hx:ovAll ov args xs) :
  HOp P ⟨d,.call ⟨.value (.func f),args.toArray,at_⟩,ty,pos,af,gd⟩ ov g pre r []:=by
 intro K w0 F0 E hh a w Q N rr ht hG hBd hpre hN
 have hrep:=hx.rep (w:=w) (E:=E) (ρ:=a.eval) (fun x hv hx h=>ht x hv (by simp [Op.operands,Call.operands];exact .inr hx) h)
 unfold Oper.wp execOp
 have hargs:args.toArray.map a.eval=(args.map a.eval).toArray:=by simp
 simp only [resolve,Act.eval,Deferred.ofValue,invoke,Sem.run_bind,Sem.run_pure,Result.andThen_ok,Array.empty_append,Array.append_empty]
 rw [run_callFunc (hc 0).1]
 simp only [Oper.upon]
 have h:=hc.sem (clocks_self pre) rr hpre (args.map a.eval) hrep hBd
 rw [←hargs] at h
 refine Calls.mono h ?_
 rintro e w' ⟨v,E',rfl,e',r',hg',hv⟩
 rw [hupd_same hpre] at r'
 exact hN v w' E' e' r' (fun g' h=>.inl (hg' g' h)) hv
end
theorem hsub_ob {C:Ctx} {n clk:Nat} {tm:List (Nat×TV)} {hp:List (Nat×HObj)} (id:Nat) (o':HObj) {o:HObj} (h:hget hp id=some o) (hs:OSub o o'):HSub C ⟨n,tm,hp,clk⟩ ⟨n,tm,(id,o')::hp,clk⟩:=by
 intro a w ⟨E,e0,r,hG,hsz,hdf,ht⟩
 refine ⟨E,e0,r.weak (fun k x hx=>?_),hG,hsz,hdf,ht⟩
 obtain ⟨o1,h1,h2⟩:=HpSub.cons h hs (HpSub.refl hp) k x hx
 exact ⟨o1,h1,h2⟩
section
variable {P:Program} {ops:Array Oper} {Q:Exit→Act→World→Prop} {C:Ctx} {n clk:Nat} {tm:List (Nat×TV)} {hp:List (Nat×HObj)} {rest:List Oper} {ty:TypeId} {pos:String} {af:Array Edge}
theorem hop_makeBound {ov:Nat→Option HV} {g:Nat} {d:Option Tmp} {gd:Option (Nat×Bool)} {f:FuncId} {x:Operand} {hv:HV} (hx:ovl ov x=some hv):HOp P ⟨d,.makeFunc (.func f) #[x] #[],ty,pos,af,gd⟩ ov g [] (.bnd (.func f) hv) [] :=
 hop_pure fun w E ρ hr=>⟨.func (.func f) #[ρ x] #[],by simp [execOp,Instr.makeFunc],.bnd _ _ _ (hr x hv (by simp [Op.operands]) hx)⟩
theorem pview_rep {w:World} {E:Env} {a:Act} {args:List Operand} {xs:List HV} (ht:∀ t x,tget tm t=some x→TVRep w E a (a.tmps.getD t undef) x) (hx:ovAll (pview (tget tm)) args xs):RepAll w E (args.map a.eval) xs :=
  hx.rep (w:=w) (E:=E) (ρ:=a.eval) (fun x hv hx' h=>by
    cases x with
    | tmp t =>
      simp only [ovl,pview] at h
      cases hq:tget tm t with
      | none=>rw [hq] at h;cases h
      | some u => rw [hq] at h; cases u with
        | v y=>injection h with h;subst h;exact ht t _ hq
        | un j b y=>cases h
    | const v=>exact rep_cst w E _ v _ h
    | global k=>injection h with h;subst h;exact .imm _
    | func f=>injection h with h;subst h;exact .fn (.func f) #[] 0 _ (fun _=>undef) rfl (fun i hi=>absurd hi (Nat.not_lt_zero _)) (fun i hi=>absurd hi (Nat.not_lt_zero _)))
theorem hf_callB {f:FuncId} {t:Nat} {args:List Operand} {at_:Array TypeId} {y:HV} {xs:List HV} {pre:List (Nat×HObj)} {Post:HEnd→List (Nat×HObj)→Nat→Prop} (d:Nat)
    (hc:HFun P f clk (y::xs) pre Post) (h0:tget tm t=some (.v (.bnd (.func f) y))) (hx:ovAll (pview (tget tm)) args xs) (hpre:∀ p∈pre,hget hp p.1=some p.2) (hlt:Nat.blt d n=true) (hk:nokey tm d=true)
    (h:∀ r kp c',Post (.ret r) kp c'→HSeq C P ops rest ⟨n,(d,.v r)::tm,kp++hp,c'⟩ Q) (hpan:∀ x kp c',Post (.pan x) kp c'→HPan C Q ⟨n,tm,kp++hp,c'⟩ x) :
    HSeq C P ops (⟨some d,.call ⟨.value (.tmp t),args.toArray,at_⟩,ty,pos,af,none⟩::rest) ⟨n,tm,hp,clk⟩ Q:=by
  intro a w ⟨E,e0,r,hG,hsz,hdf,ht⟩
  have hlt:d < n:=by simpa [Nat.blt_eq] using hlt
  unfold wpSq
  rw [if_pos (by simp [Region.wanted])]
  left
  have hrep:=pview_rep ht hx
  have hfn:Rep w E (a.eval (.tmp t)) (.bnd (.func f) y):=ht t _ h0
  unfold Oper.wp execOp
  generalize hρ:a.eval (.tmp t)=u at hfn
  cases hfn with
  | bnd _ v0 _ hv0 =>
    have hargs:#[v0]++args.toArray.map a.eval=(v0::args.map a.eval).toArray:=by simp
    simp only [resolve,hρ,Deferred.ofValue,invoke,Sem.run_bind,Sem.run_pure,Result.andThen_ok,Array.empty_append,Array.append_empty]
    rw [run_callFunc hc.1]
    simp only [Oper.upon]
    have hcalls:=hc.2 ⟨C.K,C.w0,C.E0.F,E,hget hp,w,pre⟩ (v0::args.map a.eval) ⟨r,fun id o ho=>hpre (id,o) (hget_mem ho)⟩ rfl ⟨hv0,hrep⟩ hG
    rw [←hargs] at hcalls
    refine Calls.mono hcalls ?_
    rintro e w' ⟨x,kp,c',E',hP,e',r',hG',_,hv⟩
    cases e with
    | returned v =>
      cases x with
      | pan x=>exact hv.elim
      | ret x =>
        refine h x kp c' hP _ w' ⟨E',e0.trans e',by simp only [hget_append];exact r',hG',by simp [Act.put,hsz],hdf.ext e',fun t y hy=>?_⟩
        simp only [tget_cons] at hy
        split at hy
        · rename_i htd
          subst htd
          injection hy with hy
          subst hy
          rw [getD_put_same (by rw [hsz];exact hlt)]
          exact hv
        · rename_i htd
          rw [getD_put_ne htd]
          have:=(ht t y hy).ext e'
          cases y with
          | v z=>exact this
          | un j b z =>
            have hne:=nokey_spec hk t j b z hy
            simp only [TVRep,getD_put_ne hne] at this ⊢;exact this
    | panicked ch =>
      cases x with
      | ret x=>exact hv.elim
      | pan x =>
        obtain ⟨v,rfl,hv⟩:=hv
        exact hpan x kp c' hP a w' E' v (e0.trans e') (by simp only [hget_append];exact r') hG' hsz (hdf.ext e') (fun t y hy=>(ht t y hy).ext e') hv
    | outgrown=>cases x <;> exact hv.elim
theorem hf_callBR {α:Type} {I:α→Nat→Prop} {r:α→HV} {kpf:α→List (Nat×HObj)} {f:FuncId} {t:Nat} {args:List Operand} {at_:Array TypeId} {y:HV} {xs:List HV} {pre:List (Nat×HObj)} (d:Nat)
  (hc:HFun P f clk (y::xs) pre (RetP I r kpf)) (h0:tget tm t=some (.v (.bnd (.func f) y))) (hx:ovAll (pview (tget tm)) args xs) (hpre:∀ p∈pre,hget hp p.1=some p.2) (hlt:Nat.blt d n=true) (hk:nokey tm d=true)
  (h:∀ x c',I x c'→HSeq C P ops rest ⟨n,(d,.v (r x))::tm,kpf x++hp,c'⟩ Q) :
  HSeq C P ops (⟨some d,.call ⟨.value (.tmp t),args.toArray,at_⟩,ty,pos,af,none⟩::rest) ⟨n,tm,hp,clk⟩ Q :=
 hf_callB d hc h0 hx hpre hlt hk (fun _ _ c' ⟨x,hI,he,hk⟩=>by injection he with he;subst he;subst hk;exact h x c' hI) (fun _ _ _ ⟨_,_,he,_⟩=>by cases he)
@[reducible] def PanP {β:Type} (J:β→Nat→Prop) (q:β→HV) (kq:β→List (Nat×HObj)):HEnd→List (Nat×HObj)→Nat→Prop:=fun e o c'=>∃ y,J y c'∧e=.pan (q y)∧o=kq y
theorem HFun.pan {β:Type} {J:β→Nat→Prop} {q:β→HV} {kqf:β→List (Nat×HObj)} {f:FuncId} {c:Nat} {args:List HV} {pre:List (Nat×HObj)} {α:Type} {I:α→Nat→Prop} {r:α→HV} {kpf:α→List (Nat×HObj)} (h:HFun P f c args pre (PanP J q kqf)):HFun P f c args pre (RoP I r kpf J q kqf) :=
 h.mono fun _ _ _ ⟨y,h1,h2,h3⟩=>.inr ⟨y,h1,h2,h3⟩
end
section
variable {C:Ctx} {P:Program} {Q:Exit→Act→World→Prop} {n clk:Nat} {tm0:List (Nat×TV)} {hp0:List (Nat×HObj)} {l:List Oper} {ss:List HSpec}
theorem Good.wide {ops:Array Oper} {dn L:List Oper} {ss ss':List HSpec} {i:Nat} {o:Oper} (hd:∀ k,k < i→dstAt dn k=dstAt L k) (hs:∀ k,k≤i→spAt ss k=spAt ss' k) (h:Good P ops n clk tm0 hp0 dn ss i o):Good P ops n clk tm0 hp0 L ss' i o:=by
 refine ⟨?_,?_,h.dst⟩
 ·have e:trun L ss' (tget tm0) (fun _=>true) i=trun dn ss (tget tm0) (fun _=>true) i:=funext fun t=>(trun_congr i (fun k hk=>(hd k hk)) (fun k hk _=>⟨rfl,hs k (by omega)⟩)).symm
  rw [←hs i (Nat.le_refl _),e];exact h.st
 ·rw [←hs i (Nat.le_refl _)]
  intro p hp
  rw [←hrun_congr (ss:=ss) i (fun k hk=>by rw [hs k (by omega)]) (fun k hk _=>rfl)];exact h.pre p hp
end
section
variable {P:Program} {ops:Array Oper} {Q:Exit→Act→World→Prop} {C:Ctx} {n clk:Nat} {tm:List (Nat×TV)} {hp:List (Nat×HObj)} {ty:TypeId} {pos:String} {af:Array Edge}
end
section
variable {P:Program}
variable {Post:HEnd→List (Nat×HObj)→Nat→Prop}
end
section
variable {P:Program} {C:Ctx} {n clk:Nat} {tm:List (Nat×TV)} {hp:List (Nat×HObj)} {fn:Func} {Rp:Ending→World→Prop} {f:FuncId} {hs:List HV} {pre:List (Nat×HObj)} {Post:HEnd→List (Nat×HObj)→Nat→Prop}
end
section
variable {C:Ctx} {P:Program} {Q:Exit→Act→World→Prop} {n clk:Nat} {tm0:List (Nat×TV)} {hp0:List (Nat×HObj)} {l:List Oper} {ss:List HSpec}
end
section
variable {C:Ctx} {P:Program} {ops:Array Oper} {Q:Exit→Act→World→Prop} {n clk:Nat} {tm:List (Nat×TV)} {hp:List (Nat×HObj)} {rest:List Oper} {ty:TypeId} {pos:String} {af:Array Edge}
theorem caps_rep {w:World} {E:Env} {m:Nat} {vcs:Array Value} {cs:List HV} {caps:Nat→HV} {vs:Nat→Value} (hn:vcs.size=m) (hv:∀ i,i < m→vcs[i]?=some (vs i)) (hr:∀ i,i < m→Rep w E (vs i) (caps i)) (hcs:cs.length=m) (hci:∀ i,i < m→cs[i]?=some (caps i)):RepAll w E vcs.toList cs:=by
  have:∀ (l:List Value) (k:List HV),l.length=k.length→(∀ i,i < l.length→∃ v x,l[i]?=some v∧k[i]?=some x∧Rep w E v x)→RepAll w E l k:=by
    intro l
    induction l with
    | nil=>intro k hl _;cases k with | nil=>trivial | cons _ _=>simp at hl
    | cons v l ih =>
      intro k hl h
      cases k with
      | nil=>simp at hl
      | cons x k =>
        obtain ⟨v',x',h1,h2,h3⟩:=h 0 (by simp)
        simp at h1 h2
        subst h1;subst h2
        exact ⟨h3,ih k (by simpa using hl) (fun i hi=>by have:=h (i+1) (by simpa using hi);simpa using this)⟩
  refine this _ _ (by rw [Array.length_toList,hn,hcs]) (fun i hi=>?_)
  rw [Array.length_toList,hn] at hi
  exact ⟨vs i,caps i,by rw [Array.getElem?_toList];exact hv i hi,hci i hi,hr i hi⟩
end
section
variable {P:Program} {ops:Array Oper} {ov:Nat→Option HV} {g:Nat} {d:Option Tmp} {ty:TypeId} {pos:String} {af:Array Edge} {gd:Option (Nat×Bool)} {T yT:TypeId} {x y:Operand}
end
section
variable {K:Nat→Prop} {w0 w w':World} {F0:Addr→Prop} {E E':Env} {h h':Nat→Option HObj}
theorem R.newRaw (r:R K w0 F0 E h w) (id:Nat) (o:HObj) (ob:Obj) (hraw:RawIs o ob) (hg:¬ E.G o.g) (hsz:0 < o.sz) :
  Ext w E (w.alloc ob) (E.new id o.g w.heap.size 0 o.sz)∧R K w0 F0 (E.new id o.g w.heap.size 0 o.sz) (hset h id o) (w.alloc ob):=by
 have hb:Below w.heap.size w (w.alloc ob):=(Below.refl _ _).alloc (Nat.le_refl _) _
 have e:Ext w E (w.alloc ob) (E.new id o.g w.heap.size 0 o.sz):=Ext.new w E id o.g _ 0 o.sz hg _ hb.size (fun a ha=>((r.extBelow hb).F a ha).2)
 refine ⟨e,hb.os.trans r.os,hb.tape.trans r.tape,hb.output.trans r.output,Nat.le_trans r.size hb.size,fun k hk hK=>(hb.block k (Nat.lt_of_lt_of_le hk r.size)).trans (r.keep k hk hK),
  fun a ha=>⟨(r.frz a ha).1,by rw [(e.F a ha).2];exact (r.frz a ha).2⟩,r.fnew,r.klib,r.lib,fun b hm=>(hb.block b (lt_of_heap (r.bks b hm))).trans (r.bks b hm),fun k o1 ho=>?_,fun k k' o1 o2 l l' b ho ho' hl hl' hb1 hb2=>?_⟩
 ·by_cases hk:k=id
  ·subst hk
   rw [hset_same] at ho
   injection ho with ho
   subst ho
   refine ⟨_,Env.new_L _ _ _ _ _ _,rfl,.inr rfl,rfl,hsz,.inr (.inr ⟨w.heap.size,ob,rfl,by show (w.heap.push ob)[w.heap.size]?=_;simp,hraw,fun hlt=>absurd hlt (by have:=r.size;omega)⟩)⟩
  ·rw [hset_ne _ _ hk] at ho
   obtain ⟨l,hl,a⟩:=r.obj k o1 ho
   exact ⟨l,by rw [Env.new_Lne E hk];exact hl,a.ext e (fun b hb'=>hb.block b (a.lt hb')) (fun _ _ _ hF=>hF)⟩
 ·have old:∀ k o1 l,k≠id→hset h id o k=some o1→(E.new id o.g w.heap.size 0 o.sz).L k=some l→h k=some o1∧E.L k=some l∧∀ b,l.A=some b→b < w.heap.size:=by
   intro k o1 l hk ho hl
   rw [hset_ne _ _ hk] at ho
   rw [Env.new_Lne E hk] at hl
   obtain ⟨l',hl',a⟩:=r.obj k o1 ho
   rw [hl] at hl'
   injection hl' with hl'
   subst hl'
   exact ⟨ho,hl,fun b hb'=>a.lt hb'⟩
  by_cases hk:k=id <;> by_cases hk':k'=id
  ·rw [hk,hk']
  ·subst hk
   rw [Env.new_L] at hl
   injection hl with hl
   subst hl
   have:=(old k' o2 l' hk' ho' hl').2.2 b hb2
   injection hb1 with hb1
   omega
  ·subst hk'
   rw [Env.new_L] at hl'
   injection hl' with hl'
   subst hl'
   have:=(old k o1 l hk ho hl).2.2 b hb1
   injection hb2 with hb2
   omega
  ·have a1:=old k o1 l hk ho hl
   have a2:=old k' o2 l' hk' ho' hl'
   exact r.inj k k' o1 o2 l l' b a1.1 a2.1 a1.2.1 a2.2.1 hb1 hb2
end
section
variable {P:Program} {ops:Array Oper} {ov:Nat→Option HV} {g:Nat} {d:Option Tmp} {ty:TypeId} {pos:String} {af:Array Edge} {gd:Option (Nat×Bool)} {T yT:TypeId} {x y:Operand}
theorem hstep_guard3 {o:Oper} {tm:Nat→Option TV} {pre:List (Nat×HObj)} {v:HV} (gi j j2:Nat) (b2 b c c2:Bool) (hg:o.guard=some (gi,b)) (hgi:(ops[gi]?).bind (·.dst)=some j)
  (hc:tm j=some (.un j2 b2 (.imm (.bool c)))) (hc2:tm j2=some (.v (.imm (.bool c2)))) (h:c=b→c2=b2→HOp P o (gview tm j b) g pre v []):HStep P ops o tm g ⟨.un j b v,j::j2::ops_tmps o,pre,[]⟩:=by
 intro K w0 F0 E hh a w Q N r ht hG hBd hp hN
 have hwant:Region.wanted o (yielded ops a.tmps)=true↔a.tmps.getD j undef=.bool b:=by
  unfold Region.wanted yielded
  rw [hg]
  simp only [hgi,Option.bind_some]
  by_cases hj:j < a.tmps.size
  ·have e1:a.tmps[j]?=some a.tmps[j]:=Array.getElem?_eq_getElem hj
   have e2:a.tmps.getD j undef=a.tmps[j]:=by simp [hj]
   rw [e1,e2]
   cases h:a.tmps[j] <;> simp
  ·have e1:a.tmps[j]?=none:=Array.getElem?_eq_none (by omega)
   have e2:a.tmps.getD j undef=undef:=by simp [hj]
   rw [e1,e2]
   try simp [undef]
 by_cases hj:a.tmps.getD j undef=.bool b
 ·rw [if_pos (hwant.2 hj)]
  have h2:=ht j _ (List.mem_cons_self ..) hc
  have h4:=Rep.imm_inv (ht j2 _ (List.mem_cons_of_mem _ (List.mem_cons_self ..)) hc2)
  have h3:a.tmps.getD j2 undef=.bool b2:=by
   refine Classical.byContradiction fun hne=>?_
   have:=h2.2 hne
   rw [hj] at this
   exact absurd this (by simp [undef])
  have hcb:c=b:=by
   have:=Rep.imm_inv (h2.1 h3)
   rw [hj] at this;injection this with this;exact this.symm
  have hcb2:c2=b2:=by rw [h3] at h4;injection h4 with h4;exact h4.symm
  refine h hcb hcb2 K w0 F0 E hh a w Q N r (fun x hv hx ho=>?_) hG hBd hp (fun val w' E' e r' hG' hv=>hN val w' E' e r' hG' ⟨fun _=>hv,fun hne=>absurd hj hne⟩)
  cases x with
  | tmp t=>exact gview_sound hj (fun y hy=>ht j y (List.mem_cons_self ..) hy) (fun y hy=>ht t y (List.mem_cons_of_mem _ (List.mem_cons_of_mem _ (mem_tmps hx))) hy) ho
  | const v=>exact rep_cst w E _ v _ ho
  | global k=>injection ho with ho;subst ho;exact .imm _
  | func f=>injection ho with ho;subst ho;exact .fn (.func f) #[] 0 _ (fun _=>undef) rfl (fun i hi=>absurd hi (Nat.not_lt_zero _)) (fun i hi=>absurd hi (Nat.not_lt_zero _))
 ·rw [if_neg (fun h=>hj (hwant.1 h))]
  exact hN undef w E (Ext.refl _ _) r (fun _ h=>.inl h) ⟨fun h=>absurd h hj,fun _=>rfl⟩
theorem hstep_pickg {tm:Nat→Option TV} {gi j j1:Nat} {b:Bool} (c:Bool) (hx hy v:HV) (hgi:(ops[gi]?).bind (·.dst)=some j) (h0:tm j1=some (.un j b (.imm (.bool c)))) (h1:ovl (gview tm j1 true) x=some hx) (h2:ovl (gview tm j1 false) y=some hy) (hv1:c=true→Sb hx v) (hv2:c=false→Sb hy v) :
    HStep P ops ⟨d,.pick (.tmp j1) x y,ty,pos,af,some (gi,b)⟩ tm g ⟨.un j b v,j::j1::ops_tmps ⟨d,.pick (.tmp j1) x y,ty,pos,af,some (gi,b)⟩,[],[]⟩:=by
  intro K w0 F0 E hh a w Q N r ht hG hBd hp hN
  have hwant:Region.wanted ⟨d,.pick (.tmp j1) x y,ty,pos,af,some (gi,b)⟩ (yielded ops a.tmps)=true↔a.tmps.getD j undef=.bool b:=by
    unfold Region.wanted yielded
    simp only [hgi,Option.bind_some]
    by_cases hj:j < a.tmps.size
    · have e1:a.tmps[j]?=some a.tmps[j]:=Array.getElem?_eq_getElem hj
      have e2:a.tmps.getD j undef=a.tmps[j]:=by simp [hj]
      rw [e1,e2]
      cases h:a.tmps[j] <;> simp
    · have e1:a.tmps[j]?=none:=Array.getElem?_eq_none (by omega)
      have e2:a.tmps.getD j undef=undef:=by simp [hj]
      rw [e1,e2]
      try simp [undef]
  by_cases hj:a.tmps.getD j undef=.bool b
  · rw [if_pos (hwant.2 hj)]
    have hj1:a.eval (.tmp j1)=.bool c:=Rep.imm_inv ((ht j1 _ (List.mem_cons_of_mem _ (List.mem_cons_self ..)) h0).1 hj)
    have look:∀ (b':Bool) (z:Operand) (h:HV),c=b'→z∈(Op.pick (.tmp j1) x y).operands.toList→ovl (gview tm j1 b') z=some h→Rep w E (a.eval z) h:=by
      intro b' z h hb hz ho
      subst hb
      cases z with
      | tmp t=>exact gview_sound hj1 (fun y hy=>ht j1 y (List.mem_cons_of_mem _ (List.mem_cons_self ..)) hy) (fun y hy=>ht t y (List.mem_cons_of_mem _ (List.mem_cons_of_mem _ (mem_tmps hz))) hy) ho
      | const v=>exact rep_cst w E _ v _ ho
      | global k=>injection ho with ho;subst ho;exact .imm _
      | func f=>injection ho with ho;subst ho;exact .fn (.func f) #[] 0 _ (fun _=>undef) rfl (fun i hi=>absurd hi (Nat.not_lt_zero _)) (fun i hi=>absurd hi (Nat.not_lt_zero _))
    refine wp_val (v:=if c=true then a.eval x else a.eval y) (w':=w) ?_ (hN _ w E (Ext.refl _ _) r (fun _ h=>.inl h) ⟨fun _=>?_,fun hne=>absurd hj hne⟩)
    · cases c <;> simp [execOp,hj1,asBool]
    · cases c with
      | true=>exact (hv1 rfl).sound (look true x hx rfl (by simp [Op.operands]) h1)
      | false=>exact (hv2 rfl).sound (look false y hy rfl (by simp [Op.operands]) h2)
  · rw [if_neg (fun h=>hj (hwant.1 h))]
    exact hN undef w E (Ext.refl _ _) r (fun _ h=>.inl h) ⟨fun h=>absurd h hj,fun _=>rfl⟩
theorem hstep_org {tm:Nat→Option TV} {gi j j1:Nat} {b:Bool} (c e:Bool) (hgi:(ops[gi]?).bind (·.dst)=some j) (h0:tm j1=some (.un j b (.imm (.bool c)))) (h1:ovl (gview tm j1 true) x=some (.imm (.bool true))) (h2:ovl (gview tm j1 false) y=some (.imm (.bool e))) :
  HStep P ops ⟨d,.pick (.tmp j1) x y,ty,pos,af,some (gi,b)⟩ tm g ⟨.un j b (.imm (.bool (c||e))),j::j1::ops_tmps ⟨d,.pick (.tmp j1) x y,ty,pos,af,some (gi,b)⟩,[],[]⟩ :=
 hstep_pickg c _ _ _ hgi h0 h1 h2 (fun h=>by subst h;exact .refl _) (fun h=>by subst h;exact .refl _)
theorem hstep_andg {tm:Nat→Option TV} {gi j j1:Nat} {b:Bool} (c e:Bool) (hgi:(ops[gi]?).bind (·.dst)=some j) (h0:tm j1=some (.un j b (.imm (.bool c)))) (h1:ovl (gview tm j1 true) x=some (.imm (.bool e))) (h2:ovl (gview tm j1 false) y=some (.imm (.bool false))) :
  HStep P ops ⟨d,.pick (.tmp j1) x y,ty,pos,af,some (gi,b)⟩ tm g ⟨.un j b (.imm (.bool (c&&e))),j::j1::ops_tmps ⟨d,.pick (.tmp j1) x y,ty,pos,af,some (gi,b)⟩,[],[]⟩ :=
 hstep_pickg c _ _ _ hgi h0 h1 h2 (fun h=>by subst h;exact .refl _) (fun h=>by subst h;exact .refl _)
end
section
variable {C:Ctx} {P:Program} {ops:Array Oper} {Q:Exit→Act→World→Prop} {n clk:Nat} {tm:List (Nat×TV)} {hp:List (Nat×HObj)} {o:Oper} {rest:List Oper} {v:HV}
theorem hq_g3 {pre:List (Nat×HObj)} (d gi j j2:Nat) (b2 b c c2:Bool) (hop:c=b→c2=b2→HOp P o (gview (tget tm) j b) clk pre v []) (hd:o.dst=some d) (hg:o.guard=some (gi,b)) (hgi:(ops[gi]?).bind (·.dst)=some j) (hc:tget tm j=some (.un j2 b2 (.imm (.bool c)))) (hc2:tget tm j2=some (.v (.imm (.bool c2)))) (hpre:∀ p∈pre,hget hp p.1=some p.2) (hlt:Nat.blt d n=true) (hk:nokey tm d=true) (hjd:Nat.beq j d=false)
  (h:HSeq C P ops rest ⟨n,(d,.un j b v)::tm,hp,clk⟩ Q):HSeq C P ops (o::rest) ⟨n,tm,hp,clk⟩ Q :=
 hseq_consq (s:=⟨n,tm,hp,clk⟩) d _ hd rfl (hstep_guard3 gi j j2 b2 b c c2 hg hgi hc hc2 hop) hpre hlt hk h (fun j' b' x h=>by injection h with h1 h2 h3;subst h1;rw [←Bool.not_eq_true,Nat.beq_eq] at hjd;exact hjd)
theorem hq_pg (d:Nat) {need:List Nat} {j:Nat} {b:Bool} (hst:HStep P ops o (tget tm) clk ⟨.un j b v,need,[],[]⟩) (hd:o.dst=some d) (hlt:Nat.blt d n=true) (hk:nokey tm d=true) (hjd:Nat.beq j d=false) (h:HSeq C P ops rest ⟨n,(d,.un j b v)::tm,hp,clk⟩ Q):HSeq C P ops (o::rest) ⟨n,tm,hp,clk⟩ Q :=
 hseq_consq (s:=⟨n,tm,hp,clk⟩) d _ hd rfl hst pre0 hlt hk h (fun j' b' x h=>by injection h with h1 h2 h3;subst h1;rw [←Bool.not_eq_true,Nat.beq_eq] at hjd;exact hjd)
end
section
variable {K:Nat→Prop} {w0 w:World} {F0:Addr→Prop} {E:Env} {h:Nat→Option HObj}
theorem R.tell (r:R K w0 F0 E h w) (id:Nat) {g n sz:Nat} {ty:TypeId} {fl:Nat} {f f':Nat→Nat→HV} (ho:h id=some ⟨g,n,sz,ty,fl,f⟩)
    (hc:∀ l b cs,E.L id=some l→l.A=some b→Blk w b ty cs→∀ i j u,i < n→j < sz→cs[i * sz+j]?=some u→Rep w E u (f i j)→Rep w E u (f' i j)) (hfn:fl≤n:=by first | exact Nat.zero_le _ | exact Nat.le_refl _ | omega):R K w0 F0 E (hset h id ⟨g,n,sz,ty,fl,f'⟩) w :=
  { r with
    obj:=fun k o hk=>by
      by_cases e:k=id
      · subst e
        rw [hset_same] at hk;injection hk with hk;subst hk
        obtain ⟨l,hl,a⟩:=r.obj k _ ho
        refine ⟨l,hl,a.g,a.G,a.sz,a.pos,?_⟩
        rcases a.at_ with h0 | ⟨b,cs,g1,g2,g3,g4,g5,g6,⟨vs,g8⟩,g9⟩ | ⟨_,_,_,_,h3,_⟩
        rotate_right
        · have h7:=h3.n;have h8:=h3.fl;simp only at h7 h8;omega
        · exact .inl h0
        · exact .inr (.inl ⟨b,cs,g1,g2,g3,g4,g5,g6,⟨vs,fun i j hi hj=>⟨(g8 i j hi hj).1,(g8 i j hi hj).2.1,hc l b cs hl g1 g2 i j _ hi hj (g8 i j hi hj).1 (g8 i j hi hj).2.2⟩⟩,g9⟩)
      · rw [hset_ne _ _ e] at hk
        exact r.obj k o hk
    inj:=fun k k' o o' l l' b hk hk' hl hl' hb hb'=>by
      have old:∀ k o,hset h id ⟨g,n,sz,ty,fl,f'⟩ k=some o→∃ o,h k=some o:=by
        intro k o hk
        by_cases e:k=id
        · subst e;exact ⟨_,ho⟩
        · rw [hset_ne _ _ e] at hk;exact ⟨o,hk⟩
      obtain ⟨p,hp⟩:=old k o hk
      obtain ⟨q,hq⟩:=old k' o' hk'
      exact r.inj k k' p q l l' b hp hq hl hl' hb hb' }
end
theorem hsub_ownc {C:Ctx} {n clk:Nat} {tm:List (Nat×TV)} {hp:List (Nat×HObj)} (id0 j0 id sz:Nat) (ty:TypeId) (f:Nat→Nat→HV) {g0 m0:Nat} {ty0:TypeId} {f0:Nat→Nat→HV} (f':Nat→Nat→HV) (ho:hget hp id0=some ⟨g0,1,m0,ty0,0,f0⟩) (hf0:f0 0 j0=.imm (.slice none 0 0)) (hf':∀ j,j < m0→(j=j0∧f' 0 j=.os id clk 0 0)∨f' 0 j=f0 0 j) (hid:id0≠id) (hsz:0 < sz) {c':Nat} (hc:clk+1=c') :
  HSub C ⟨n,tm,hp,clk⟩ ⟨n,tm,(id0,⟨g0,1,m0,ty0,0,f'⟩)::(id,⟨clk,0,sz,ty,0,f⟩)::hp,c'⟩:=by
 subst hc
 intro a w ⟨E,e0,r,hG,hsz',hdf,htm⟩
 have hg:¬ E.G clk:=fun h=>absurd (hG _ h) (Nat.lt_irrefl _)
 obtain ⟨e,r'⟩:=r.newNil id clk sz ty f hg hsz
 have r2:=r'.tell id0 (g:=g0) (n:=1) (sz:=m0) (ty:=ty0) (fl:=0) (f':=f') (by rw [hset_ne _ _ hid];exact ho) (fun l b cs hl hA hB i j u hi hj hu hr=>by
  obtain rfl:i=0:=by omega
  rcases hf' j hj with ⟨rfl,h2⟩ | h2
  ·rw [h2]
   rw [hf0] at hr
   rw [hr.imm_inv]
   refine .os none 0 0 id clk 0 (.inr rfl) (Nat.le_refl _) (Nat.zero_le _) (fun h=>absurd h (Nat.lt_irrefl _)) (fun l hl _ _=>?_)
   rw [Env.place_L] at hl;injection hl with hl;subst hl
   exact ⟨rfl,rfl⟩
  ·rw [h2];exact hr)
 refine ⟨_,e0.trans e,by simp only [hget_cons];exact r2,fun g hg=>?_,hsz',hdf.ext e,fun t x hx=>(htm t x hx).ext e⟩
 rcases hg with hg | hg
 ·exact Nat.lt_succ_of_lt (hG g hg)
 ·rw [hg];exact Nat.lt_succ_self _
theorem hw_joinc {C:Ctx} {P:Program} {Q:Exit→Act→World→Prop} {s:HSt} {α:Type} {x y:Code} (st:α→Nat→HSt) (I:α→Prop)
  (first:∀ N:Act→World→Prop,(∀ z c' s',I z→HSub C s' (st z c')→HQ C (Exit.then N Q) .normal s')→HWp C P x s (Exit.then N Q)) (rest:∀ z c,I z→HWp C P y (st z c) Q):HWp C P (.seq x y) s Q :=
 hw_seq fun N hN=>first N fun z c' s' hI hs a w ha=>hN (st z c') (rest z c' hI) a w (hs a w ha)
section
variable {P:Program} {n clk:Nat} {tm0:List (Nat×TV)} {hp0:List (Nat×HObj)} {ss:List HSpec} {Fin:Prop} {o:Oper} {rest dn:List Oper} {k:Nat} {tm:List (Nat×TV)} {hp:List (Nat×HObj)} {L:List Oper} {pre post:List (Nat×HObj)} {v:HV}
end
def famP (b:Nat) (ob:Nat→HObj) (P:Nat→Bool):Nat→List (Nat×HObj)
 | 0=>[]
 | n+1=>if P n=true then (b+n,ob n)::famP b ob P n else famP b ob P n
theorem hget_famP (b:Nat) (ob:Nat→HObj) (P:Nat→Bool):∀ n id,hget (famP b ob P n) id=if b≤id∧id < b+n∧P (id - b)=true then some (ob (id - b)) else none
  | 0,id=>by rw [if_neg (by omega)];rfl
  | n + 1, id => by
    have ih:=hget_famP b ob P n id
    simp only [famP]
    by_cases hP:P n=true
    · rw [if_pos hP,hget_cons]
      by_cases e:id=b+n
      · subst e
        rw [hset_same,if_pos ⟨by omega,by omega,by rw [Nat.add_sub_cancel_left];exact hP⟩,Nat.add_sub_cancel_left]
      · rw [hset_ne _ _ e,ih]
        by_cases h:b≤id∧id < b+n∧P (id - b)=true
        · rw [if_pos h,if_pos ⟨h.1,by omega,h.2.2⟩]
        · rw [if_neg h,if_neg (fun h'=>h ⟨h'.1,by omega,h'.2.2⟩)]
    · rw [if_neg hP,ih]
      by_cases h:b≤id∧id < b+n∧P (id - b)=true
      · rw [if_pos h,if_pos ⟨h.1,by omega,h.2.2⟩]
      · rw [if_neg h,if_neg (fun h'=>by
          by_cases e:id=b+n
          · subst e;exact hP (by simpa using h'.2.2)
          · exact h ⟨h'.1,by omega,h'.2.2⟩)]
def under (b k:Nat) (L:List (Nat×HObj)):Bool:=L.all fun p=>Nat.blt p.1 b&&!Nat.beq p.1 k
section
variable {C:Ctx} {n clk:Nat} {tm:List (Nat×TV)} {hp:List (Nat×HObj)}
end
section
variable {C:Ctx} {n clk:Nat} {tm:List (Nat×TV)}
end
theorem HpSub.skip {x:Nat×HObj} {hp:List (Nat×HObj)} {b:Nat} {ob:Nat→HObj} {P:Nat→Bool} {N:Nat} (h:HpSub hp (famP b ob P N)) (hx:Nat.blt x.1 b=true):HpSub (x::hp) (famP b ob P N):=fun k o' hk=>by
 obtain ⟨k0,o0⟩:=x
 obtain ⟨o1,h1,h2⟩:=h k o' hk
 have hb:b≤k:=by
  rw [hget_famP] at hk
  by_cases h3:b≤k∧k < b+N∧P (k - b)=true
  ·exact h3.1
  ·rw [if_neg h3] at hk;cases hk
 have:k0 < b:=by simpa [Nat.blt_eq] using hx
 exact ⟨o1,by rw [hget_cons,hset_ne _ _ (by omega)];exact h1,h2⟩
theorem hd_nilU {C:Ctx} {P:Program} {Q:Exit→Act→World→Prop} {n clk:Nat} {tm0:List (Nat×TV)} {hp0:List (Nat×HObj)} {l:List Oper} {ss:List HSpec} {id:Nat} {dn:List Oper} {k:Nat} {tm tm':List (Nat×TV)} {hp:List (Nat×HObj)} (hm:P.follows .mixedOrders=true) (hc:chkR l ss tm0=true) (hu:unOnce tm=true) (ht:dropUn tm []=tm') {c':Nat} (hc':clk+k=c') (h:HQ C Q .normal ⟨n,tm',hp,c'⟩) (nd:C.rd=none∨l.all Oper.calm=true:=by first | exact .inr rfl | exact .inl rfl | exact .inl (by assumption)):HDr P n clk tm0 hp0 l dn ss [] k tm hp (HWp C P (.region id l.toArray true) ⟨n,tm0,hp0,clk⟩ Q) :=
 hd_nil hm hc hc' (fun a w ⟨E,e0,r,hG,hsz,hdf,htm⟩=>h a w ⟨E,e0,r,hG,hsz,hdf,fun t x hx=>htm t x (dropUn_sub hu t x (by rw [ht];exact hx))⟩) nd
section
variable {P:Program} {n clk:Nat} {tm0:List (Nat×TV)} {hp0:List (Nat×HObj)} {ss:List HSpec} {Fin:Prop} {o:Oper} {rest dn:List Oper} {k:Nat} {tm:List (Nat×TV)} {hp:List (Nat×HObj)} {L:List Oper} {pre post:List (Nat×HObj)} {v:HV}
end
theorem sb_intV {x y:Int} (h:x=y):Sb (intV x) (intV y):=by subst h;exact .refl _
theorem fz_intV {sh:List (Nat×HObj)} {x y:Int} (h:x=y):Fz sh (intV x) (intV y):=by subst h;exact .imm _
theorem updA {F:Nat→Nat→HV} {q k:Nat} {x:Nat→HV}:upd F q 0 1 x k 0=if k=q then x 0 else F k 0:=by
 unfold upd inb
 have h0:(Nat.ble 0 0&&Nat.blt 0 (0+1))=true:=by simp
 by_cases e:k=q
 ·subst e
  have:Nat.beq k k=true:=by simp
  rw [h0,this,if_pos rfl];rfl
 ·have:Nat.beq k q=false:=(by rw [Bool.eq_false_iff];intro h;exact e (Nat.eq_of_beq_eq_true h))
  rw [this,if_neg e];rfl
section
variable {P:Program} {ov:Nat→Option HV} {g:Nat} {d:Option Tmp} {ty:TypeId} {pos:String} {af:Array Edge} {gd:Option (Nat×Bool)} {T yT:TypeId} {x y:Operand}
def isPtr (P:Program) (T:TypeId):Bool:=match P.underlying T with | some (.pointer _)=>true | _=>false
theorem ptr_eq (hT:isPtr P T=true) (a b:Option Addr) (w:World) (hb:b=none):(Op.equal T (.pointer a) (.pointer b)).run P w=.ok (a.isNone) w:=by
  subst hb
  unfold isPtr at hT
  cases hu:P.underlying T with
  | none=>rw [hu] at hT;cases hT
  | some dd =>
    rw [hu] at hT
    cases dd <;> first | cases hT | skip
    have e:Op.equal T (.pointer a) (.pointer none)=Op.equalIn (Op.maxDepth - 1+1) T (.pointer a) (.pointer none):=rfl
    cases a <;> simp [e,Op.equalIn,run_underlying hu]
theorem hop_eql_ptn {id gg i off:Nat} (hT:isPtr P T=true) (h1:ovl ov x=some (.pt id gg i off)) (h2:ovl ov y=some (.imm (.pointer none))):HOp P ⟨d,.binOp .eql T x y yT,ty,pos,af,gd⟩ ov g [] (.imm (.bool false)) [] :=
  hop_pure fun w E ρ hr=>by
    have h:=hr x _ (by simp [Op.operands]) h1
    have e2:=Rep.imm_inv (hr y _ (by simp [Op.operands]) h2)
    generalize hρ:ρ x=u at h
    cases h with
    | pt b k _ _ _ _ _ _ =>
      refine ⟨.bool false,?_,.imm _⟩
      have hT2:=hT
      unfold isPtr at hT2
      cases hu:P.underlying T with
      | none=>rw [hu] at hT2;cases hT2
      | some dd =>
        simp [execOp,hρ,e2,eqGuard,binOp,ptr_eq hT _ _ _ rfl]
theorem hop_eql_fpn {n:Nat} {f:Nat→HV} (hT:isPtr P T=true) (h1:ovl ov x=some (.fp n f)) (h2:ovl ov y=some (.imm (.pointer none))):HOp P ⟨d,.binOp .eql T x y yT,ty,pos,af,gd⟩ ov g [] (.imm (.bool false)) [] :=
  hop_pure fun w E ρ hr=>by
    have h:=hr x _ (by simp [Op.operands]) h1
    have e2:=Rep.imm_inv (hr y _ (by simp [Op.operands]) h2)
    generalize hρ:ρ x=u at h
    cases h with
    | fp b k _ _ vs _ _ =>
      refine ⟨.bool false,?_,.imm _⟩
      have hT2:=hT
      unfold isPtr at hT2
      cases hu:P.underlying T with
      | none=>rw [hu] at hT2;cases hT2
      | some dd =>
        simp [execOp,hρ,e2,eqGuard,binOp,ptr_eq hT _ _ _ rfl]
theorem hop_eql_nnp (hT:isPtr P T=true) (h1:ovl ov x=some (.imm (.pointer none))) (h2:ovl ov y=some (.imm (.pointer none))):HOp P ⟨d,.binOp .eql T x y yT,ty,pos,af,gd⟩ ov g [] (.imm (.bool true)) [] :=
  hop_pure fun w E ρ hr=>by
    have h:=hr x _ (by simp [Op.operands]) h1
    have e2:=Rep.imm_inv (hr y _ (by simp [Op.operands]) h2)
    generalize hρ:ρ x=u at h
    cases h with
    | imm _ =>
      refine ⟨.bool true,?_,.imm _⟩
      have hT2:=hT
      unfold isPtr at hT2
      cases hu:P.underlying T with
      | none=>rw [hu] at hT2;cases hT2
      | some dd =>
        simp [execOp,hρ,e2,eqGuard,binOp,ptr_eq hT _ _ _ rfl]
end
set_option linter.unusedSectionVars false
@[reducible] def mapO (g:Nat) (l:List (Value×Value)):HObj:=⟨g,0,2,0,1,fun _ _=>.imm (.tuple (l.map fun p=>Value.tuple #[p.1,p.2]).toArray)⟩
theorem mapO_raw {o:HObj} {ob:Obj} {g:Nat} {l:List (Value×Value)} (h:RawIs o ob) (ho:o=mapO g l):∃ es,ob=.map es es.size∧es.toList.map (fun e=>(e.key,e.val))=l∧∀ (i:Nat) (e:MapEntry),es[i]?=some e→e.born=i:=by
  cases h with
  | iter g' ty' s' p'=>injection ho with _ _ hs;cases hs
  | map g' ty' es c hc hb =>
    subst hc
    injection ho with _ _ _ _ _ hf
    have h0:=congrFun (congrFun hf 0) 0
    injection h0 with h0
    injection h0 with h0
    refine ⟨es,rfl,?_,hb⟩
    have h1:=congrArg Array.toList h0
    simp only [Array.toList_map] at h1
    have h2:(es.toList.map fun e=>(e.key,e.val)).map (fun p=>Value.tuple #[p.1,p.2])=l.map fun p=>Value.tuple #[p.1,p.2]:=by
      rw [List.map_map];exact h1
    refine (List.map_inj_right (fun p q hpq=>?_)).1 h2
    injection hpq with hpq
    have a1:p.1=q.1:=by have:=congrArg (fun a=>a[0]?) hpq;simpa using this
    have a2:p.2=q.2:=by have:=congrArg (fun a=>a[1]?) hpq;simpa using this
    exact Prod.ext a1 a2
theorem raw_map (g:Nat) (es:Array MapEntry) (l:List (Value×Value)) (h:es.toList.map (fun e=>(e.key,e.val))=l) (hb:∀ (i:Nat) (e:MapEntry),es[i]?=some e→e.born=i):RawIs (mapO g l) (.map es es.size):=by
 have e:mapO g l=⟨g,0,2,0,1,fun _ _=>.imm (.tuple (es.map fun e=>.tuple #[e.key,e.val]))⟩:=by
  unfold mapO
  congr 1
  funext i j
  congr 2
  subst h
  rw [List.map_map]
  apply Array.ext'
  simp
 rw [e];exact .map g 0 es _ rfl hb
section
variable {K:Nat→Prop} {w0 w w':World} {F0:Addr→Prop} {E E':Env} {h h':Nat→Option HObj}
theorem R.mapAt (r:R K w0 F0 E h w) {id g:Nat} {l:List (Value×Value)} (ho:h id=some (mapO g l)):∃ lc b es,E.L id=some lc∧lc.g=g∧lc.A=some b∧w.heap[b]?=some (.map es es.size)∧es.toList.map (fun e=>(e.key,e.val))=l∧∀ (i:Nat) (e:MapEntry),es[i]?=some e→e.born=i:=by
 obtain ⟨lc,hl,a⟩:=r.obj id _ ho
 rcases a.at_ with ⟨h0,h1,h2,h3⟩ | ⟨b,cs,h1,h2,h3,h4,h5,h6,h8,h9⟩ | ⟨b,ob,h1,h2,h3,h4⟩
 ·exact absurd h3 (by show ¬ (1≤0);omega)
 ·exact absurd h9.2 (by show ¬ (1≤0);omega)
 ·obtain ⟨es,rfl,e,hb⟩:=mapO_raw h3 rfl
  exact ⟨lc,b,es,hl,a.g,h1,h2,e,hb⟩
theorem R.setMap (r:R K w0 F0 E h w) {id g:Nat} {l l':List (Value×Value)} {lc:Loc} {b:Nat} {es es':Array MapEntry} {c:Nat} (ho:h id=some (mapO g l)) (hl:E.L id=some lc) (hb:lc.A=some b) (hw:w.heap[b]?=some (.map es c)) (he:es'.toList.map (fun e=>(e.key,e.val))=l') (hbn:∀ (i:Nat) (e:MapEntry),es'[i]?=some e→e.born=i) :
  Ext w E { w with heap:=w.heap.setIfInBounds b (.map es' es'.size) } E∧R K w0 F0 E (hset h id (mapO g l')) { w with heap:=w.heap.setIfInBounds b (.map es' es'.size) }:=by
 obtain ⟨l2,hl',a⟩:=r.obj id _ ho
 rw [hl] at hl';injection hl' with hl';subst hl'
 have hlt:=a.lt hb
 refine r.write id _ _ lc b ho hl hb rfl rfl rfl (by simp) (fun k hk=>?_) (fun k hk=>?_) (fun e=>⟨a.g,a.G,a.sz,a.pos,.inr (.inr ⟨b,_,hb,?_,raw_map g es' l' he hbn,a.notK hb⟩)⟩)
 ·show (w.heap.setIfInBounds b _)[k]?=_
  rw [Array.getElem?_setIfInBounds_ne (Ne.symm hk)]
 ·have:=(r.frz _ hk).2
  simp [World.cell?,hw] at this
 ·show (w.heap.setIfInBounds b _)[b]?=_
  rw [Array.getElem?_setIfInBounds_self_of_lt hlt]
end
def mfind {α:Type} [DecidableEq α] (a:α):List (α×Value)→Nat→Option (Nat×Value)
 | [],_=>none
 | p::r,i=>if a=p.1 then some (i,p.2) else mfind a r (i+1)
def mget {α:Type} [DecidableEq α] (l:List (α×Value)) (a:α):Option Value:=(mfind a l 0).map (·.2)
def mput {α:Type} [DecidableEq α] (l:List (α×Value)) (a:α) (v:Value):List (α×Value):=match mfind a l 0 with | some (i,_)=>l.set i (a,v) | none=>l++[(a,v)]
@[reducible] def encL {α:Type} (enc:α→Value) (l:List (α×Value)):List (Value×Value):=l.map fun p=>(enc p.1,p.2)
structure KeyOk (P:Program) (T:TypeId) (α:Type) [DecidableEq α] (enc:α→Value) (zero:Value):Prop where
 all:∃ kt et,P.underlying T=some (.map kt et)∧(∀ w,(zeroValue et).run P w=.ok zero w)∧(∀ b a w,(Instr.checkKey b 10000 kt (enc a)).run P w=.ok () w) ∧
  (∀ a (es:List MapEntry) (l:List (α×Value)),es.map (fun e=>(e.key,e.val))=encL enc l→∀ w,(Instr.findKey kt (enc a) es).run P w=.ok (mfind a l 0) w)
 stay:∀ a,Instr.sameBits 10000 (enc a) (enc a)=true
theorem mfind_get {α:Type} [DecidableEq α] {a:α}:∀ {l:List (α×Value)} {i n:Nat} {v:Value},mfind a l i=some (n,v)→∃ k,n=i+k∧l[k]?=some (a,v)
  | [],i,n,v,h=>by cases h
  | p :: r, i, n, v, h => by
    unfold mfind at h
    split at h
    · rename_i e;injection h with h;injection h with h1 h2
      exact ⟨0,by omega,by rw [e,←h2];rfl⟩
    · obtain ⟨k,h1,h2⟩:=mfind_get h
      exact ⟨k+1,by omega,by simpa using h2⟩
section
variable {P:Program} {ov:Nat→Option HV} {g:Nat} {d:Option Tmp} {ty:TypeId} {pos:String} {af:Array Edge} {gd:Option (Nat×Bool)} {T yT:TypeId} {x y z:Operand}
theorem hop_makeMap {id:Nat}:HOp P ⟨d,.makeMap T none,ty,pos,af,gd⟩ ov g [] (.mp id g) [(id,mapO g [])]:=by
 intro K w0 F0 E hh a w Q N r ht hG hBd hpre hN
 have hnew:=r.newRaw id (mapO g []) (.map #[] 0) (raw_map g #[] [] rfl (fun i e h=>by simp at h)) hG (by show 0 < 2;omega)
 refine wp_val (v:=.map (some w.heap.size)) (w':=w.alloc (.map #[] 0)) ?_ (hN _ _ _ hnew.1 hnew.2 (fun g' hg'=>hg'.imp (fun h=>h) fun h=>⟨by simp,h⟩) ?_)
 ·simp only [execOp,Instr.makeMap,Option.map_none,Sem.run_bind,Sem.run_pure,Result.andThen_ok];rfl
 ·refine .mp w.heap.size id g (.inr rfl) (fun l hl _=>?_)
  rw [Env.new_L] at hl;injection hl with hl;subst hl
  rfl
section
variable {α:Type} [DecidableEq α] {enc:α→Value} {zero:Value}
def lkV (ok:Bool) (r:Option Value) (zero:Value):HV:=match ok with | true=>t2 (.imm (r.getD zero)) (.imm (.bool r.isSome)) | false=>.imm (r.getD zero)
def lkW (ok:Bool) (r:Option Value) (zero:Value):Value:=match ok with | true=>.tuple #[r.getD zero,.bool r.isSome] | false=>r.getD zero
theorem lk_rep {w:World} {E:Env} (ok:Bool) (r:Option Value) (zero:Value):Rep w E (lkW ok r zero) (lkV ok r zero):=by
 cases ok with
 | true=>exact .tup _ 2 _ (fun i=>match i with | 0=>r.getD zero | _=>.bool r.isSome) rfl (fun i hi=>by match i,hi with | 0,_=>rfl | 1,_=>rfl) (fun i hi=>by match i,hi with | 0,_=>exact .imm _ | 1,_=>exact .imm _)
 | false=>exact .imm _
theorem run_lookup (hK:KeyOk P T α enc zero) (w:World) (b:Nat) (es:Array MapEntry) (c:Nat) (hb:w.heap[b]?=some (.map es c)) (l:List (α×Value)) (he:es.toList.map (fun e=>(e.key,e.val))=encL enc l) (a:α) (ok:Bool) :
  (Instr.lookup T (.map (some b)) (enc a) ok).run P w=.ok (lkW ok (mget l a) zero) w:=by
 obtain ⟨kt,et,h1,h2,h3,h4⟩:=hK.all
 unfold Instr.lookup
 have hg:(getObj b).run P w=.ok (.map es c) w:=by simp [getObj,Sem.run,hb]
 simp only [Sem.run_bind,run_underlying h1,Result.andThen_ok,hg,Sem.run_pure,h3,h4 a es.toList l he]
 unfold mget lkW
 cases mfind a l 0 with
 | none=>simp only [Sem.run_bind,h2,Result.andThen_ok,Sem.run_pure,Option.map_none,Option.getD_none,Option.isSome_none];cases ok <;> rfl
 | some p=>obtain ⟨i,v⟩:=p;simp only [Sem.run_pure,Result.andThen_ok,Option.map_some,Option.getD_some,Option.isSome_some];cases ok <;> rfl
theorem run_lookup_nil (hK:KeyOk P T α enc zero) (w:World) (a:α) (ok:Bool):(Instr.lookup T (.map none) (enc a) ok).run P w=.ok (lkW ok none zero) w:=by
 obtain ⟨kt,et,h1,h2,h3,h4⟩:=hK.all
 unfold Instr.lookup
 have h5:=h4 a [] [] rfl
 simp only [Sem.run_bind,run_underlying h1,Result.andThen_ok,Sem.run_pure,h3,h5,mfind,h2]
 unfold lkW
 cases ok <;> rfl
def IsKey (hv:HV) (v:Value):Prop:=∀ (w:World) (E:Env) (u:Value),Rep w E u hv→u=v
theorem IsKey.imm (v:Value):IsKey (.imm v) v:=fun _ _ _ h=>h.imm_inv
theorem hop_lookup (hK:KeyOk P T α enc zero) {id gg:Nat} {l:List (α×Value)} {a:α} {ok:Bool} {hk:HV} (h1:ovl ov x=some (.mp id gg)) (h2:ovl ov y=some hk) (h3:IsKey hk (enc a)) :
    HOp P ⟨d,.lookup T x y ok,ty,pos,af,gd⟩ ov g [(id,mapO gg (encL enc l))] (lkV ok (mget l a) zero) []:=by
  intro K w0 F0 E hh ac w Q N r ht hG hBd hpre hN
  have ho:=hpre _ (List.mem_cons_self ..)
  obtain ⟨lc,b,es,hl,hlg,hlA,hwb,he,hbn⟩:=r.mapAt ho
  have hX:=ht x _ (by simp [Op.operands]) h1
  have e2:=h3 _ _ _ (ht y _ (by simp [Op.operands]) h2)
  generalize hρ:ac.eval x=u at hX
  cases hX with
  | mp b' _ _ hgg hh' =>
    have h4:=hh' lc hl hlg
    rw [hlA] at h4;injection h4 with h4;subst h4
    refine wp_val (v:=lkW ok (mget l a) zero) ?_ (hN _ _ _ (Ext.refl _ _) r (fun g' hg'=>.inl hg') (lk_rep ok _ zero))
    simp only [execOp,hρ,e2,Sem.run_bind,run_lookup hK w b es es.size hwb l he a ok,Result.andThen_ok,Sem.run_pure]
theorem hop_lookup_nil (hK:KeyOk P T α enc zero) {a:α} {ok:Bool} {hk:HV} (h1:ovl ov x=some (.imm (.map none))) (h2:ovl ov y=some hk) (h3:IsKey hk (enc a)) :
  HOp P ⟨d,.lookup T x y ok,ty,pos,af,gd⟩ ov g [] (lkV ok none zero) [] :=
 hop_pure fun w E ρ hr=>by
  have e1:=Rep.imm_inv (hr x _ (by simp [Op.operands]) h1)
  have e2:=h3 _ _ _ (hr y _ (by simp [Op.operands]) h2)
  refine ⟨lkW ok none zero,?_,lk_rep ok _ zero⟩
  simp only [execOp,e1,e2,Sem.run_bind,run_lookup_nil hK w a ok,Result.andThen_ok,Sem.run_pure]
theorem born_push {es:Array MapEntry} (h:∀ (i:Nat) (e:MapEntry),es[i]?=some e→e.born=i) (k v:Value):∀ (i:Nat) (e:MapEntry),(es.push ⟨k,v,es.size⟩)[i]?=some e→e.born=i:=fun i e he=>by
 rw [Array.getElem?_push] at he
 split at he
 ·rename_i e1;injection he with he;subst he;exact e1.symm
 ·exact h i e he
theorem born_modify {es:Array MapEntry} (h:∀ (i:Nat) (e:MapEntry),es[i]?=some e→e.born=i) (k:Nat) (f:MapEntry→MapEntry) (hf:∀ e,(f e).born=e.born):∀ (i:Nat) (e:MapEntry),(es.modify k f)[i]?=some e→e.born=i:=fun i e he=>by
  rw [Array.getElem?_modify] at he
  split at he
  · cases hq : es[i]? with
    | none=>rw [hq] at he;cases he
    | some e0=>rw [hq] at he;injection he with he;subst he;rw [hf];exact h i e0 hq
  · exact h i e he
def mslot (l:List (α×Value)) (a:α) (zero:Value):Nat×Value:=match mfind a l 0 with | some (i,v)=>(i,v) | none=>(l.length,zero)
def ment (l:List (α×Value)) (a:α) (zero:Value):List (α×Value):=match mfind a l 0 with | some _=>l | none=>l++[(a,zero)]
def mset (l:List (α×Value)) (i:Nat) (v:Value):List (α×Value):=l.modify i (fun p=>(p.1,v))
theorem run_mapEntry (hK:KeyOk P T α enc zero) (w:World) (b:Nat) (es:Array MapEntry) (hb:w.heap[b]?=some (.map es es.size)) (hbn:∀ (i:Nat) (e:MapEntry),es[i]?=some e→e.born=i) (l:List (α×Value)) (he:es.toList.map (fun e=>(e.key,e.val))=encL enc l) (a:α) :
    ∃ es',(Instr.mapEntry T (.map (some b)) (enc a)).run P w=.ok (.tuple #[(mslot l a zero).2,.int .i64 ((mslot l a zero).1:Int)]) { w with heap:=w.heap.setIfInBounds b (.map es' es'.size) }∧es'.toList.map (fun e=>(e.key,e.val))=encL enc (ment l a zero)∧∀ (i:Nat) (e:MapEntry),es'[i]?=some e→e.born=i:=by
  obtain ⟨kt,et,h1,h2,h3,h4⟩:=hK.all
  have hg:(getObj b).run P w=.ok (.map es es.size) w:=by simp [getObj,Sem.run,hb]
  have hs:∀ o,(setObj b o).run P w=.ok () { w with heap:=w.heap.setIfInBounds b o }:=fun o=>by simp [setObj,Sem.run,hb]
  have hlen:es.size=l.length:=by have:=congrArg List.length he;simpa [encL] using this
  unfold mslot ment
  cases hm:mfind a l 0 with
  | none =>
    refine ⟨es.push { key:=enc a,val:=zero,born:=es.size },?_,?_,born_push hbn _ _⟩
    · unfold Instr.mapEntry
      simp only [Sem.run_bind,run_underlying h1,Result.andThen_ok,hg,h3,h4 a es.toList l he,hm,h2,hs,Array.size_push,Sem.run_pure,goInt,hlen]
    · simp [he,encL]
  | some p =>
    obtain ⟨i,u⟩:=p
    obtain ⟨k,rfl,hk⟩:=mfind_get hm
    rw [Nat.zero_add] at *
    have hkey:∃ e,es[k]?=some e∧e.key=enc a:=by
      have:=congrArg (fun q=>q[k]?) he
      simp only [encL,List.getElem?_map,hk,Option.map_some] at this
      cases hq:es[k]? with
      | none=>rw [←Array.getElem?_toList] at hq;rw [hq] at this;cases this
      | some e=>rw [←Array.getElem?_toList] at hq;rw [hq] at this;injection this with this;injection this with t1 t2;exact ⟨e,rfl,t1⟩
    obtain ⟨e,hek,hea⟩:=hkey
    have hst:(Instr.keyThatStays (((es[k]?).map (·.key)).getD (enc a)) (enc a)).run P w=.ok (enc a) w:=by
      unfold Instr.keyThatStays
      rw [hek]
      simp [hea,hK.stay a]
    refine ⟨es.modify k fun e=>{ e with key:=enc a },?_,?_,born_modify hbn k _ (fun _=>rfl)⟩
    · unfold Instr.mapEntry
      simp only [Sem.run_bind,run_underlying h1,Result.andThen_ok,hg,h3,h4 a es.toList l he,hm,hst,hs,Array.size_modify,Sem.run_pure,goInt]
      rw [hek]
      simp [hbn k e hek]
    · rw [Array.toList_modify]
      apply List.ext_getElem?
      intro j
      have hj:=congrArg (fun q=>q[j]?) he
      simp only [encL,List.getElem?_map] at hj
      simp only [encL,List.getElem?_map,List.getElem?_modify]
      by_cases e1:k=j
      · subst e1
        rw [←Array.getElem?_toList] at hek
        rw [hek] at hj ⊢
        simp only [Option.map_some] at hj
        rw [←hj,←hea];simp
      · rw [←hj];simp [e1]
theorem hop_mapEntry (hK:KeyOk P T α enc zero) {id gg:Nat} {l:List (α×Value)} {a:α} {hk:HV} (h1:ovl ov x=some (.mp id gg)) (h2:ovl ov y=some hk) (h3:IsKey hk (enc a)) :
    HOp P ⟨d,.mapEntry T x y,ty,pos,af,gd⟩ ov g [(id,mapO gg (encL enc l))] (t2 (.imm (mslot l a zero).2) (.imm (.int .i64 ((mslot l a zero).1:Int)))) [(id,mapO gg (encL enc (ment l a zero)))]:=by
  intro K w0 F0 E hh ac w Q N r ht hG hBd hpre hN
  have ho:=hpre _ (List.mem_cons_self ..)
  obtain ⟨lc,b,es,hl,hlg,hlA,hwb,he,hbn⟩:=r.mapAt ho
  have hX:=ht x _ (by simp [Op.operands]) h1
  have e2:=h3 _ _ _ (ht y _ (by simp [Op.operands]) h2)
  generalize hρ:ac.eval x=u at hX
  cases hX with
  | mp b' _ _ hgg hh' =>
    have h4:=hh' lc hl hlg
    rw [hlA] at h4;injection h4 with h4;subst h4
    obtain ⟨es',hrun,he',hbn'⟩:=run_mapEntry hK w b es hwb hbn l he a
    have hset:=r.setMap ho hl hlA hwb he' hbn'
    refine wp_val (v:=.tuple #[(mslot l a zero).2,.int .i64 ((mslot l a zero).1:Int)]) (w':={ w with heap:=w.heap.setIfInBounds b (.map es' es'.size) }) ?_ (hN _ _ _ hset.1 hset.2 (fun g' hg'=>.inl hg') ?_)
    · simp only [execOp,hρ,e2,Sem.run_bind,hrun,Result.andThen_ok,Sem.run_pure]
    · exact .tup _ 2 _ (fun i=>match i with | 0=>(mslot l a zero).2 | _=>.int .i64 ((mslot l a zero).1:Int)) rfl (fun i hi=>by match i,hi with | 0,_=>rfl | 1,_=>rfl) (fun i hi=>by match i,hi with | 0,_=>exact .imm _ | 1,_=>exact .imm _)
theorem run_entryStore (w:World) (b:Nat) (es:Array MapEntry) (hb:w.heap[b]?=some (.map es es.size)) (hbn:∀ (i:Nat) (e:MapEntry),es[i]?=some e→e.born=i) (l:List (α×Value)) (he:es.toList.map (fun e=>(e.key,e.val))=encL enc l) (i:Nat) (hi:i < l.length) (v:Value) :
    ∃ es',(Instr.entryStore T (.map (some b)) (.int .i64 (i:Int)) v).run P w=.ok () { w with heap:=w.heap.setIfInBounds b (.map es' es'.size) }∧es'.toList.map (fun e=>(e.key,e.val))=encL enc (mset l i v)∧∀ (i:Nat) (e:MapEntry),es'[i]?=some e→e.born=i:=by
  have hg:(getObj b).run P w=.ok (.map es es.size) w:=by simp [getObj,Sem.run,hb]
  have hs:∀ o,(setObj b o).run P w=.ok () { w with heap:=w.heap.setIfInBounds b o }:=fun o=>by simp [setObj,Sem.run,hb]
  have hlen:es.size=l.length:=by have:=congrArg List.length he;simpa [encL] using this
  have hf:es.findIdx? (fun e=>(e.born:Int) == (i:Int))=some i:=by
    rw [Array.findIdx?_eq_some_iff_getElem]
    refine ⟨by omega,?_,fun j hj=>?_⟩
    · have:=hbn i es[i] (Array.getElem?_eq_getElem _)
      simp [this]
    · have:=hbn j es[j] (Array.getElem?_eq_getElem _)
      simp [this];omega
  refine ⟨es.modify i fun e=>{ e with val:=v },?_,?_,born_modify hbn i _ (fun _=>rfl)⟩
  · unfold Instr.entryStore
    simp only [Sem.run_bind,hg,Result.andThen_ok,asInt,asIntOf,Sem.run_pure,hf,hs,Array.size_modify]
  · rw [Array.toList_modify]
    apply List.ext_getElem?
    intro j
    have hj:=congrArg (fun q=>q[j]?) he
    simp only [encL,List.getElem?_map] at hj
    simp only [encL,mset,List.getElem?_map,List.getElem?_modify]
    by_cases e1:i=j
    · subst e1
      cases hq:es.toList[i]? with
      | none => rw [hq] at hj; simp only [Option.map_none] at hj; cases hl : l[i]? with
        | none=>rfl
        | some q=>rw [hl] at hj;cases hj
      | some e0 => rw [hq] at hj; cases hl : l[i]? with
        | none=>rw [hl] at hj;cases hj
        | some q=>rw [hl] at hj;simp only [Option.map_some] at hj;injection hj with hj;injection hj with q1 q2;simp [q1]
    · simpa [e1] using hj
theorem hop_entryStore {id gg:Nat} {l:List (α×Value)} {i:Nat} {v:Value} (h1:ovl ov x=some (.mp id gg)) (h2:ovl ov y=some (.imm (.int .i64 (i:Int)))) (hi:i < l.length) (h4:ovl ov z=some (.imm v)) :
    HOp P ⟨d,.entryStore T x y z,ty,pos,af,gd⟩ ov g [(id,mapO gg (encL enc l))] (.imm undef) [(id,mapO gg (encL enc (mset l i v)))]:=by
  intro K w0 F0 E hh ac w Q N r ht hG hBd hpre hN
  have ho:=hpre _ (List.mem_cons_self ..)
  obtain ⟨lc,b,es,hl,hlg,hlA,hwb,he,hbn⟩:=r.mapAt ho
  have hX:=ht x _ (by simp [Op.operands]) h1
  have e2:=Rep.imm_inv (ht y _ (by simp [Op.operands]) h2)
  have e3:=Rep.imm_inv (ht z _ (by simp [Op.operands]) h4)
  generalize hρ:ac.eval x=u at hX
  cases hX with
  | mp b' _ _ hgg hh' =>
    have h4:=hh' lc hl hlg
    rw [hlA] at h4;injection h4 with h4;subst h4
    obtain ⟨es',hrun,he',hbn'⟩:=run_entryStore (P:=P) (T:=T) (enc:=enc) w b es hwb hbn l he i hi v
    have hset:=r.setMap ho hl hlA hwb he' hbn'
    refine wp_skp (w':={ w with heap:=w.heap.setIfInBounds b (.map es' es'.size) }) ?_ (hN _ _ _ hset.1 hset.2 (fun g' hg'=>.inl hg') (.imm _))
    simp only [execOp,hρ,e2,e3,Sem.run_bind,hrun,Result.andThen_ok,Sem.run_pure]
theorem mslot_lt (l:List (α×Value)) (a:α) (zero:Value):(mslot l a zero).1 < (ment l a zero).length:=by
  unfold mslot ment
  cases hm:mfind a l 0 with
  | none=>simp
  | some p =>
    obtain ⟨i,u⟩:=p
    obtain ⟨k,rfl,hk⟩:=mfind_get hm
    show 0+k < l.length
    rcases Nat.lt_or_ge k l.length with h | h
    · omega
    · rw [List.getElem?_eq_none h] at hk;cases hk
theorem mset_ment (l:List (α×Value)) (a:α) (zero v:Value):mset (ment l a zero) (mslot l a zero).1 v=mput l a v:=by
  unfold mset ment mslot mput
  cases hm:mfind a l 0 with
  | none =>
    show (l++[(a,zero)]).modify l.length (fun p=>(p.1,v))=l++[(a,v)]
    apply List.ext_getElem?
    intro j
    rw [List.getElem?_modify]
    rcases Nat.lt_trichotomy j l.length with h | h | h
    · rw [List.getElem?_append_left h,List.getElem?_append_left h]
      cases l[j]? with
      | none=>rfl
      | some p=>simp [show ¬ l.length=j by omega]
    · subst h;simp
    · rw [List.getElem?_eq_none (by simp;omega),List.getElem?_eq_none (by simp;omega)];rfl
  | some p =>
    obtain ⟨i,u⟩:=p
    obtain ⟨k,rfl,hk⟩:=mfind_get hm
    show l.modify (0+k) (fun p=>(p.1,v))=l.set (0+k) (a,v)
    rw [Nat.zero_add]
    apply List.ext_getElem?
    intro j
    rw [List.getElem?_modify,List.getElem?_set]
    have hkl:k < l.length:=by
      rcases Nat.lt_or_ge k l.length with h | h
      · exact h
      · rw [List.getElem?_eq_none h] at hk;cases hk
    by_cases e:k=j
    · subst e;rw [if_pos rfl,if_pos hkl,hk];simp
    · rw [if_neg e]
      cases l[j]? with
      | none=>rfl
      | some p=>simp [e]
theorem hop_map_nil_eq (hT:(match P.underlying T with | some (.map _ _)=>true | _=>false)=true) (h1:ovl ov x=some (.imm (.map none))) (h2:ovl ov y=some (.imm (.map none))):HOp P ⟨d,.binOp .eql T x y yT,ty,pos,af,gd⟩ ov g [] (.imm (.bool true)) [] :=
  hop_pure fun w E ρ hr=>by
    have e1:=Rep.imm_inv (hr x _ (by simp [Op.operands]) h1)
    have e2:=Rep.imm_inv (hr y _ (by simp [Op.operands]) h2)
    refine ⟨.bool true,?_,.imm _⟩
    cases hu:P.underlying T with
    | none=>rw [hu] at hT;cases hT
    | some dd =>
      rw [hu] at hT
      cases dd <;> first | cases hT | skip
      have e:Op.equal T (.map none) (.map none)=Op.equalIn (Op.maxDepth - 1+1) T (.map none) (.map none):=rfl
      simp [execOp,e1,e2,eqGuard,binOp,e,Op.equalIn,run_underlying hu]
theorem hop_map_mp_eq (hT:(match P.underlying T with | some (.map _ _)=>true | _=>false)=true) {id gg:Nat} (h1:ovl ov x=some (.mp id gg)) (h2:ovl ov y=some (.imm (.map none))):HOp P ⟨d,.binOp .eql T x y yT,ty,pos,af,gd⟩ ov g [] (.imm (.bool false)) [] :=
  hop_pure fun w E ρ hr=>by
    have h:=hr x _ (by simp [Op.operands]) h1
    have e2:=Rep.imm_inv (hr y _ (by simp [Op.operands]) h2)
    generalize hρ:ρ x=u at h
    cases h with
    | mp b _ _ _ _ =>
      refine ⟨.bool false,?_,.imm _⟩
      cases hu:P.underlying T with
      | none=>rw [hu] at hT;cases hT
      | some dd =>
        rw [hu] at hT
        cases dd <;> first | cases hT | skip
        have e:Op.equal T (.map (some b)) (.map none)=Op.equalIn (Op.maxDepth - 1+1) T (.map (some b)) (.map none):=rfl
        simp [execOp,hρ,e2,eqGuard,binOp,e,Op.equalIn,run_underlying hu]
end
end
theorem findNow_int (k:IntKind) (a:Int):∀ (es:List MapEntry) (l:List (Int×Value)) (i:Nat),es.map (fun e=>(e.key,e.val))=encL (fun x=>Value.int k x) l→Instr.findNow (.int k) (.int k a) es i=some (mfind a l i)
  | [], l, i, h => by
    cases l with
    | nil=>rfl
    | cons p l=>simp [encL] at h
  | e :: es, l, i, h => by
    cases l with
    | nil=>simp [encL] at h
    | cons p l =>
      simp only [encL,List.map_cons,List.cons.injEq,Prod.mk.injEq] at h
      obtain ⟨⟨h1,h2⟩,h3⟩:=h
      have ih:=findNow_int k a es l (i+1) h3
      unfold Instr.findNow mfind
      rw [h1]
      simp only [Instr.sameNow,if_true]
      by_cases e1:a=p.1
      · rw [if_pos e1,h2];simp [e1]
      · rw [if_neg e1,show (a == p.1)=false by simpa using e1];exact ih
theorem keyOk_int {P:Program} {T kt et:TypeId} {k:IntKind} {zero:Value} (h1:P.underlying T=some (.map kt et)) (h2:P.underlying kt=some (.int k)) (h3:∀ w,(zeroValue et).run P w=.ok zero w):KeyOk P T Int (fun x=>Value.int k x) zero where
 all:=⟨kt,et,h1,h3,fun b a w=>by
  unfold Instr.checkKey
  simp only [Sem.run_bind,run_underlying h2,Result.andThen_ok,Sem.run_pure],fun a es l he w=>by
  unfold Instr.findKey
  simp only [Sem.run_bind,run_underlying h2,Result.andThen_ok,findNow_int k a es l 0 he,Sem.run_pure]⟩
 stay a:=by simp [Instr.sameBits]
def isBk (o:Obj):Bool:=match o with | .loop _=>true | .deferred _=>true | _=>false
structure Bk (b:Nat) (w w':World):Prop where
 os:w'.os=w.os
 tape:w'.tape=w.tape
 output:w'.output=w.output
 size:w.heap.size≤w'.heap.size
 block:∀ k,k < w.heap.size→k≠b→w'.heap[k]?=w.heap[k]?
theorem Bk.put (w:World) (b:Nat) (o:Obj):Bk b w (w.putObj b o):=⟨rfl,rfl,rfl,Nat.le_of_eq World.putObj_size.symm,fun _ _ h=>World.putObj_heap_other h⟩
section
variable {K:Nat→Prop} {w0 w w':World} {F0:Addr→Prop} {E E':Env} {h h':Nat→Option HObj}
theorem R.notBk (r:R K w0 F0 E h w) {b:Nat} {ob:Obj} (hb:w.heap[b]?=some ob) (hbk:isBk ob=true):(∀ a,E.F a→a.block≠b)∧(∀ id o l,h id=some o→E.L id=some l→l.A≠some b):=by
 refine ⟨fun a ha e=>?_,fun id o l ho hl hA=>?_⟩
 ·have:=r.frz a ha
  obtain ⟨u,hu⟩:=Option.isSome_iff_exists.1 this.2
  subst e
  unfold World.cell? at hu
  rw [hb] at hu
  cases ob <;> first | (simp [isBk] at hbk;done) | (simp at hu;done) | (cases hu;done)
 ·obtain ⟨l2,hl2,a⟩:=r.obj id o ho
  rw [hl] at hl2;injection hl2 with hl2;subst hl2
  rcases a.at_ with ⟨h0,_⟩ | ⟨b',cs,h1,h2,_⟩ | ⟨b',ob',h1,h2,h3,_⟩
  ·rw [h0] at hA;cases hA
  ·rw [h1] at hA;injection hA with hA;subst hA
   rw [show w.heap[b']?=_ from h2] at hb;injection hb with hb;subst hb;cases hbk
  ·rw [h1] at hA;injection hA with hA;subst hA
   rw [h2] at hb;injection hb with hb;subst hb;cases h3 <;> cases hbk
theorem R.book (r:R K w0 F0 E h w) {b:Nat} {ob:Obj} (hb:w.heap[b]?=some ob) (hbk:isBk ob=true) (hB:w0.heap.size≤b) (hM:¬ E.M b) (k:Bk b w w'):Ext w E w' E∧R K w0 F0 E h w':=by
 have nb:=r.notBk hb hbk
 have e:Ext w E w' E:=⟨k.size,fun a ha=>⟨ha,World.cell?_of_block (k.block _ (lt_of_cell (r.frz a ha).2) (nb.1 a ha))⟩,fun _ h=>h,fun _ _ h _=>h,fun _ h=>h⟩
 refine ⟨e,k.os.trans r.os,k.tape.trans r.tape,k.output.trans r.output,Nat.le_trans r.size k.size,fun j hj hK=>(k.block j (Nat.lt_of_lt_of_le hj r.size) (by omega)).trans (r.keep j hj hK),
  fun a ha=>⟨(r.frz a ha).1,by rw [(e.F a ha).2];exact (r.frz a ha).2⟩,r.fnew,r.klib,r.lib,fun j hj=>(k.block j (lt_of_heap (r.bks j hj)) (fun e=>hM (e▸hj))).trans (r.bks j hj),fun id o ho=>?_,r.inj⟩
 obtain ⟨l,hl,a⟩:=r.obj id o ho
 exact ⟨l,hl,a.ext e (fun b' hb'=>k.block b' (a.lt hb') (fun e=>nb.2 id o l ho hl (e▸hb'))) (fun _ _ _ h=>h)⟩
def KH (E:Env) (h:Nat→Option HObj) (b:Nat):Prop:=∀ id o l,h id=some o→E.L id=some l→l.A≠some b
theorem R.reb (r:R K w0 F0 E h w):R (KH E h) w E.F E h w:=by
 refine ⟨rfl,rfl,rfl,Nat.le_refl _,fun _ _ _=>rfl,r.frz,fun a ha=>.inl ha,fun b hb id o l ho hl hA=>?_,r.libw,r.bks,fun id o ho=>?_,r.inj⟩
 ·obtain ⟨l2,hl2,a⟩:=r.obj id o ho
  rw [hl] at hl2;injection hl2 with hl2;subst hl2
  exact a.notK hA (r.lib.ok _ hb) (r.klib _ hb)
 ·obtain ⟨l,hl,a⟩:=r.obj id o ho
  refine ⟨l,hl,a.g,a.G,a.sz,a.pos,?_⟩
  rcases a.at_ with h0 | ⟨b,cs,g1,g2,g3,g4,g5,g6,g8,g9⟩ | ⟨b,ob,g1,g2,g3,g4⟩
  ·exact .inl h0
  ·exact .inr (.inl ⟨b,cs,g1,g2,g3,g4,g5,fun _ hk=>hk id o l ho hl g1,g8,g9⟩)
  ·exact .inr (.inr ⟨b,ob,g1,g2,g3,fun _ hk=>hk id o l ho hl g1⟩)
theorem R.unreb (r:R K w0 F0 E h w) {E2:Env} {h2:Nat→Option HObj} {w2:World} (r2:R (KH E h) w E.F E2 h2 w2):R K w0 F0 E2 h2 w2:=by
 have own:∀ b,¬ KH E h b→b < w0.heap.size→¬ K b:=by
  intro b hb hlt
  unfold KH at hb
  simp only [Classical.not_forall,ne_eq,Classical.not_not] at hb
  obtain ⟨id,o,l,h1,h2,h3⟩:=hb
  obtain ⟨l2,hl2,a⟩:=r.obj id o h1
  rw [h2] at hl2;injection hl2 with hl2;subst hl2
  exact a.notK h3 hlt
 have kk:∀ b,b < w0.heap.size→K b→KH E h b:=fun b hb hK=>Classical.byContradiction fun hn=>own b hn hb hK
 refine ⟨r2.os.trans r.os,r2.tape.trans r.tape,r2.output.trans r.output,Nat.le_trans r.size r2.size,fun k hk hK=>(r2.keep k (Nat.lt_of_lt_of_le hk r.size) (kk k hk hK)).trans (r.keep k hk hK),r2.frz,fun a ha=>?_,r.klib,r.lib,r2.bks,fun id o ho=>?_,r2.inj⟩
 ·rcases r2.fnew a ha with h1 | h1 | h1
  ·exact r.fnew a h1
  ·exact .inr (.inl (Nat.le_trans r.size h1))
  ·by_cases hlt:a.block < w0.heap.size
   ·exact .inr (.inr (own _ h1 hlt))
   ·exact .inr (.inl (by omega))
 ·obtain ⟨l,hl,a⟩:=r2.obj id o ho
  refine ⟨l,hl,a.g,a.G,a.sz,a.pos,?_⟩
  rcases a.at_ with h0 | ⟨b,cs,g1,g2,g3,g4,g5,g6,g8,g9⟩ | ⟨b,ob,g1,g2,g3,g4⟩
  ·exact .inl h0
  ·exact .inr (.inl ⟨b,cs,g1,g2,g3,g4,g5,fun hlt hk=>g6 (Nat.lt_of_lt_of_le hlt r.size) (kk b hlt hk),g8,g9⟩)
  ·exact .inr (.inr ⟨b,ob,g1,g2,g3,fun hlt hk=>g4 (Nat.lt_of_lt_of_le hlt r.size) (kk b hlt hk)⟩)
end
def Ctx.topM (w:World) (F:Addr→Prop):Ctx:=⟨fun _=>True,w,Env.just F,[],none,some w.heap.size⟩
def Ctx.noM (C:Ctx):Ctx:=⟨C.K,C.w0,C.E0,C.ds,C.rd,none⟩
section
variable {P:Program} {fn:Func} {Rp:Ending→World→Prop} {C:Ctx} {s:HSt}
theorem leaves_marks {tmps:Array Value} (B:Nat) (hC:C.ds=[]∧C.mks=some C.w0.heap.size∧∀ b,C.E0.M b→b < C.w0.heap.size):∀ (Ds:List Nat) (a:Act) (w:World) (E:Env),a.tmps=tmps→Ds.Nodup→Ext C.w0 C.E0 w E→R C.K C.w0 C.E0.F E (hget s.hp) w→(∀ g,E.G g→g < s.clk)→a.tmps.size=s.n →
    (∀ D∈Ds,E.M D∧C.w0.heap.size≤D)→(∀ t x,tget s.tm t=some x→TVRep w E a (a.tmps.getD t undef) x)→HQ C.noM (bodyPost P fn Rp) .ret s→LeavesInM Fence.wide 0 P fn tmps Rp (Ds.map fun D=>⟨.collected D,#[]⟩) .returning w
  | [], a, w, E, ha, _, e0, r, hG, hsz, _, ht, h => by
    obtain ⟨_,v,h1,h2⟩:=h ⟨a.tmps,[]⟩ w ⟨E,e0,r,hG,hsz,by rw [show C.noM.ds=[] from hC.1];rfl,fun t x hx=>by
      have:=ht t x hx
      cases x with
      | v z=>exact this
      | un j b z=>exact this⟩
    exact ⟨v,by rw [←ha];exact h1,h2⟩
  | D :: Ds, a, w, E, ha, hnd, e0, r, hG, hsz, hD, ht, h => by
    refine ⟨(fun h=>by cases h),.inl ⟨D,w.putObj D (.deferred none),rfl,run_takeDeferred (r.bks D (hD D (List.mem_cons_self ..)).1),?_⟩⟩
    have hDb:=r.bks D (hD D (List.mem_cons_self ..)).1
    have hnm:=(List.nodup_cons.1 hnd).1
    let E':Env:=⟨E.F,E.L,E.G,fun b=>E.M b∧b≠D⟩
    have eE:Ext w E' w E:=⟨Nat.le_refl _,fun a h=>⟨h,rfl⟩,fun _ h=>h,fun _ _ h _=>h,fun _ h=>h.1⟩
    have up:∀ v x,Rep w E v x→Rep w E' v x:=by
      intro v x hr
      induction hr with
      | imm v=>exact .imm v
      | agg cs n f vs hn hv _ ih=>exact .agg cs n f vs hn hv ih
      | tup cs n f vs hn hv _ ih=>exact .tup cs n f vs hn hv ih
      | sl A n c sz f vs hc hm hA _ ih=>exact .sl A n c sz f vs hc hm hA ih
      | fp b o n f vs hA _ ih=>exact .fp b o n f vs hA ih
      | pt b k id g i off hg h=>exact .pt b k id g i off hg h
      | os A n c id g lo hg hc hm hA h0=>exact .os A n c id g lo hg hc hm hA h0
      | ifc t v x _ ih=>exact .ifc t v x ih
      | fn f cs n x vs hn hv _ ih=>exact .fn f cs n x vs hn hv ih
      | bnd f v x _ ih=>exact .bnd f v x ih
      | npn id g hg h=>exact .npn id g hg h
      | npp v id g hg hc _ ih=>exact .npp v id g hg hc ih
      | mp b id g hg h=>exact .mp b id g hg h
    have e1:Ext C.w0 C.E0 w E':=⟨e0.sz,e0.F,e0.G,e0.L,fun b hb=>⟨e0.M b hb,fun e=>by have:=hC.2.2 b hb;have:=(hD D (List.mem_cons_self ..)).2;omega⟩⟩
    have r1:R C.K C.w0 C.E0.F E' (hget s.hp) w:=⟨r.os,r.tape,r.output,r.size,r.keep,r.frz,r.fnew,r.klib,r.lib,fun b hb=>r.bks b hb.1,fun id o ho=>by
      obtain ⟨l,hl,a⟩:=r.obj id o ho
      refine ⟨l,hl,a.g,a.G,a.sz,a.pos,?_⟩
      rcases a.at_ with h0 | ⟨b,cs,g1,g2,g3,g4,g5,g6,⟨vs,g8⟩,g9⟩ | g
      · exact .inl h0
      · exact .inr (.inl ⟨b,cs,g1,g2,g3,g4,g5,g6,⟨vs,fun i j hi hj=>⟨(g8 i j hi hj).1,(g8 i j hi hj).2.1,up _ _ (g8 i j hi hj).2.2⟩⟩,g9⟩)
      · exact .inr (.inr g),r.inj⟩
    obtain ⟨e2,r2⟩:=r1.book hDb rfl (hD D (List.mem_cons_self ..)).2 (fun h=>h.2 rfl) (Bk.put w D (.deferred none))
    refine leaves_marks B hC Ds a _ E' ha (List.nodup_cons.1 hnd).2 (e1.trans e2) r2 hG hsz (fun D' hD'=>⟨⟨(hD D' (List.mem_cons_of_mem _ hD')).1,fun e=>hnm (e▸hD')⟩,(hD D' (List.mem_cons_of_mem _ hD')).2⟩) (fun t x hx=>?_) h
    have:=ht t x hx
    cases x with
    | v z=>exact (up _ _ this).ext e2
    | un j b z=>exact ⟨fun hj=>(up _ _ (this.1 hj)).ext e2,this.2⟩
theorem hq_retM (hC:C.ds=[]∧C.mks=some C.w0.heap.size∧∀ b,C.E0.M b→b < C.w0.heap.size) (h:HQ C.noM (bodyPost P fn Rp) .ret s):HQ C (bodyPostM Fence.wide 0 P fn Rp) .ret s:=by
 intro a w ⟨E,e0,r,hG,hsz,hdf,ht⟩
 rw [hC.1,hC.2.1] at hdf
 obtain ⟨Ds,hd,hnd,hD⟩:=hdf
 show LeavesInM Fence.wide 0 P fn a.tmps Rp a.defers .returning w
 rw [hd]
 exact leaves_marks 0 hC Ds a w E rfl hnd e0 r hG hsz hD ht h
end
structure KeepsO (O:Nat→Prop) (W W1:World):Prop where
 size:W.heap.size≤W1.heap.size
 block:∀ k,k < W.heap.size→¬ O k→W1.heap[k]?=W.heap[k]?
 lib:LibW W1
def HIter (P:Program) (f:FuncId) (caps:List HV) (N:Nat) (ys:Nat→List HV):Prop:=FnOk P f ∧
  ∀ (l : Nat) (W : World) (F : Addr → Prop) (cvs : List Value) (J : Nat → (Nat → Prop) → World → Prop) (Jx : Nat → World → Prop) (O0 : Nat → Prop), (∀ a, F a → a.spot = none ∧ (W.cell? a).isSome = true) → (∀ a, F a → ¬ O0 a.block) → RepAll W (Env.just F) cvs caps → LibW W →
    (∀ i O W1 W2,J i O W1→Below W1.heap.size W1 W2→J i O W2)→(∀ i W1 W2,Jx i W1→Below W1.heap.size W1 W2→Jx i W2)→(∀ i O W1,J i O W1→∀ k,O k→k < W1.heap.size) →
    (∀ i O W1 F' vs,i < N→J i O W1→(∀ a,F' a→a.spot=none∧(W1.cell? a).isSome=true)→(∀ a,F' a→¬ O a.block)→(∀ a,F' a→F a∨W.heap.size≤a.block)→RepAll W1 (Env.just F') vs (ys i) →
      YieldAt Fence.wide 0 P l vs.toArray W1 fun e W'=>KeepsO O W1 W'∧((e=.returned (.bool true)∧∃ O',J (i+1) O' W'∧∀ k,O' k→O k∨W1.heap.size≤k)∨(e=.returned (.bool false)∧Jx (i+1) W'))) →
    J 0 O0 W→Calls P f (#[.func (.yield l) #[] #[]]++cvs.toArray) W fun e W'=>(∃ v,e=.returned v)∧((∃ O,J N O W')∨∃ i,i < N∧Jx (i+1) W')
def psl:List Tmp→List HV→List (Nat×TV)→List (Nat×TV)
 | p::ps,y::ys,tm=>psl ps ys ((p,.v y)::tm)
 | _,_,tm=>tm
theorem psl_rep {w:World} {E:Env}:∀ (ps:List Tmp) (vs:List Value) (ys:List HV) (tm:List (Nat×TV)) (tmps:Array Value),RepAll w E vs ys→ps.length=ys.length→ps.all (fun p=>Nat.blt p tmps.size)=true→allV tm=true →
    (∀ t x,tget tm t=some x→∀ ds,TVRep w E ⟨tmps,ds⟩ (tmps.getD t undef) x)→allV (psl ps ys tm)=true∧∀ t x,tget (psl ps ys tm) t=some x→∀ ds,TVRep w E ⟨(ps.zip vs).foldl (fun t p=>t.setIfInBounds p.1 p.2) tmps,ds⟩ (((ps.zip vs).foldl (fun t p=>t.setIfInBounds p.1 p.2) tmps).getD t undef) x
  | [],[],[],tm,tmps,_,_,_,hV,h=>⟨hV,h⟩
  | p :: ps, v :: vs, y :: ys, tm, tmps, hr, hl, hb, hV, h => by
    rw [List.all_cons,Bool.and_eq_true] at hb
    have hp:p < tmps.size:=by simpa [Nat.blt_eq] using hb.1
    refine psl_rep ps vs ys ((p,.v y)::tm) (tmps.setIfInBounds p v) hr.2 (by simpa using hl) (by simpa using hb.2) hV (fun t x hx ds=>?_)
    rw [tget_cons] at hx
    split at hx
    · rename_i e;subst e;injection hx with hx;subst hx
      have:(tmps.setIfInBounds t v).getD t undef=v:=by simp [hp]
      rw [this];exact hr.1
    · rename_i e
      have:(tmps.setIfInBounds p v).getD t undef=tmps.getD t undef:=by simp [Array.getElem?_setIfInBounds,Ne.symm e]
      rw [this]
      obtain ⟨z,rfl⟩:=allV_spec hV t x hx
      exact h t _ hx ds
  | [],_::_,_::_,_,_,_,hl,_,_,_=>by simp at hl
  | [],[],_::_,_,_,hr,_,_,_,_=>hr.elim
  | [],_::_,[],_,_,hr,_,_,_,_=>hr.elim
  | _::_,[],[],_,_,_,hl,_,_,_=>by simp at hl
  | _::_,[],_::_,_,_,hr,_,_,_,_=>hr.elim
  | _::_,_::_,[],_,_,hr,_,_,_,_=>hr.elim
def RndOk (C:Ctx) (l:Nat):Prop:=C.rd=some l∧C.ds=[]∧C.mks=none∧l < C.w0.heap.size∧C.K l∧∃ r,C.w0.heap[l]?=some (.loop r)
def RB (C:Ctx) (hp:List (Nat×HObj)) (c:Nat) (w:World):Prop:=∃ E,Ext C.w0 C.E0 w E∧R C.K C.w0 C.E0.F E (hget hp) w∧∀ g,E.G g→g < c
def RQ (C:Ctx) (NI:List (Nat×HObj)→Nat→Prop) (X:Exit→List (Nat×HObj)→Nat→Prop):Exit→Act→World→Prop
 | .normal,_,w=>∃ hp c,NI hp c∧RB C hp c w
 | .ret,_,w=>∃ hp c,X .ret hp c∧RB C hp c w
 | .exit id,_,w=>∃ hp c,X (.exit id) hp c∧RB C hp c w
 | _,_,_=>False
theorem Sat.rb {C:Ctx} {s:HSt} {a:Act} {w:World} (h:Sat C s a w):RB C s.hp s.clk w:=let ⟨E,e0,r,hG,_⟩:=h;⟨E,e0,r,hG⟩
section
variable {C:Ctx} {NI:List (Nat×HObj)→Nat→Prop} {X:Exit→List (Nat×HObj)→Nat→Prop} {s:HSt}
theorem rq_normal (h:NI s.hp s.clk):HQ C (RQ C NI X) .normal s:=fun a w hs=>⟨_,_,h,hs.rb⟩
theorem rq_ret (h:X .ret s.hp s.clk):HQ C (RQ C NI X) .ret s:=fun a w hs=>⟨_,_,h,hs.rb⟩
end
def HRound (P:Program) (assign body:Code) (s:HSt) (QB:Ctx→Exit→Act→World→Prop):Prop :=
 ∀ C1 l,RndOk C1 l→∀ N1:Act→World→Prop,(∀ s1,(∀ C2,RndOk C2 l→HWp C2 P body s1 (QB C2))→∀ a w,Sat C1 s1 a w→N1 a w)→HWp C1 P assign s (Exit.then N1 (fun _ _ _=>False))
def Env.mark (E:Env) (D:Nat):Env:=⟨E.F,E.L,E.G,fun b=>E.M b∨b=D⟩
section
variable {K:Nat→Prop} {w0 w w':World} {F0:Addr→Prop} {E E':Env} {h h':Nat→Option HObj}
theorem Ext.mark (w:World) (E:Env) (D:Nat):Ext w E w (E.mark D):=⟨Nat.le_refl _,fun a h=>⟨h,rfl⟩,fun _ h=>h,fun _ _ h _=>h,fun _ h=>.inl h⟩
theorem R.mark (r:R K w0 F0 E h w) {D:Nat} (hD:w.heap[D]?=some (.deferred (some []))):R K w0 F0 (E.mark D) h w :=
 ⟨r.os,r.tape,r.output,r.size,r.keep,r.frz,r.fnew,r.klib,r.lib,fun b hb=>by rcases hb with hb | rfl;exact r.bks b hb;exact hD,fun id o ho=>by
  obtain ⟨l,hl,a⟩:=r.obj id o ho
  exact ⟨l,hl,a.ext (Ext.mark w E D) (fun _ _=>rfl) (fun _ _ _ h=>h)⟩,r.inj⟩
theorem R.noFl (r:R K w0 F0 E h w) (hfl:∀ id o,h id=some o→o.fl=0):∀ a,E.F a→KH E h a.block:=fun a ha id o l ho hl hA=>by
 obtain ⟨l2,hl2,ao⟩:=r.obj id o ho
 rw [hl] at hl2;injection hl2 with hl2;subst hl2
 obtain ⟨b,k,sp⟩:=a
 have hs:=(r.frz _ ha).1
 simp only at hs hA
 subst hs
 rcases ao.at_ with ⟨h0,_⟩ | ⟨b',cs,h1,_,_,_,_,_,_,h9,_⟩ | ⟨b',ob,h1,_,h3,_⟩
 ·rw [h0] at hA;cases hA
 ·rw [h1] at hA;injection hA with hA;subst hA
  have:=h9 k ha
  rw [hfl id o ho,Nat.zero_mul] at this;omega
 ·have:=h3.fl;rw [hfl id o ho] at this;cases this
theorem R.notM (r:R K w0 F0 E h w) {b:Nat} {lp:Loop} (hb:w.heap[b]?=some (.loop lp)):¬ E.M b:=fun hm=>by
 rw [r.bks b hm] at hb;injection hb with hb;cases hb
end
section
variable {α:Type} {P:Program} {C:Ctx} {Q:Exit→Act→World→Prop} {n clk:Nat} {tm:List (Nat×TV)} {hp:List (Nat×HObj)} {ps:Array Tmp} {assign body:Code} {N:Nat} {ys:Nat→List HV}
def Jn (C:Ctx) (B:World) (E1:Env) (l:Nat) (rec:LoopState→Option Code→Loop) (st:α→List (Nat×HObj)) (idx:α→Nat) (I:α→Prop) (i:Nat) (O:Nat→Prop) (W:World):Prop :=
 ∃ x c Ei,idx x=i∧I x∧Ext B E1 W Ei∧R C.K C.w0 C.E0.F Ei (hget (st x)) W∧(∀ g,Ei.G g→g < c)∧W.heap[l]?=some (.loop (rec .ready none))∧∀ b,O b↔(¬ KH Ei (hget (st x)) b∨b=l)
def Jxn (C:Ctx) (B:World) (E1:Env) (l:Nat) (rec:LoopState→Option Code→Loop) (X:Exit→List (Nat×HObj)→Nat→Prop) (W:World):Prop :=
 ∃ cj hp' c Ei,((cj=Code.ret∧X .ret hp' c)∨∃ id,cj=Code.exit id∧X (.exit id) hp' c)∧Ext B E1 W Ei∧R C.K C.w0 C.E0.F Ei (hget hp') W∧(∀ g,Ei.G g→g < c)∧W.heap[l]?=some (.loop (rec .done (some cj)))
theorem jn_below {B:World} {E1:Env} {l:Nat} {rec:LoopState→Option Code→Loop} {st:α→List (Nat×HObj)} {idx:α→Nat} {I:α→Prop} {i:Nat} {O:Nat→Prop} {W W2:World} (h:Jn C B E1 l rec st idx I i O W) (hb:Below W.heap.size W W2):Jn C B E1 l rec st idx I i O W2:=by
 obtain ⟨x,c,Ei,h1,h2,h3,h4,h5,h6,h7⟩:=h
 exact ⟨x,c,Ei,h1,h2,h3.trans (h4.extBelow hb),h4.growSame hb,h5,(hb.block l (lt_of_heap h6)).trans h6,h7⟩
theorem jn_own {B:World} {E1:Env} {l:Nat} {rec:LoopState→Option Code→Loop} {st:α→List (Nat×HObj)} {idx:α→Nat} {I:α→Prop} {i:Nat} {O:Nat→Prop} {W:World} (h:Jn C B E1 l rec st idx I i O W):∀ k,O k→k < W.heap.size:=by
 obtain ⟨x,c,Ei,h1,h2,h3,h4,h5,h6,h7⟩:=h
 intro k hk
 rcases (h7 k).1 hk with hk | rfl
 ·unfold KH at hk
  simp only [Classical.not_forall,ne_eq,Classical.not_not] at hk
  obtain ⟨id,o,lo,q1,q2,q3⟩:=hk
  obtain ⟨lo',q4,ao⟩:=h4.obj id o q1
  rw [q2] at q4;injection q4 with q4;subst q4
  exact ao.lt q3
 ·exact lt_of_heap h6
theorem jxn_below {B:World} {E1:Env} {l:Nat} {rec:LoopState→Option Code→Loop} {X:Exit→List (Nat×HObj)→Nat→Prop} {W W2:World} (h:Jxn C B E1 l rec X W) (hb:Below W.heap.size W W2):Jxn C B E1 l rec X W2:=by
 obtain ⟨cj,hp',c,Ei,h1,h3,h4,h5,h6⟩:=h
 exact ⟨cj,hp',c,Ei,h1,h3.trans (h4.extBelow hb),h4.growSame hb,h5,(hb.block l (lt_of_heap h6)).trans h6⟩
theorem round_yield {B:World} {E1:Env} {l:Nat} {fn:FuncId} {tmps:Array Value} {dfs:Nat} {rec:LoopState→Option Code→Loop} (hrec:rec=fun s p=>{ state:=s,pending:=p,fn,tmps:=tmps,params:=ps,assign,body,defers:=dfs })
    {st:α→List (Nat×HObj)} {idx:α→Nat} {I:α→Prop} (hl0:C.w0.heap.size≤l) (hsz:tmps.size=n) (hV:allV tm=true) (htm:∀ t x,tget tm t=some x→∀ ds,TVRep B E1 ⟨tmps,ds⟩ (tmps.getD t undef) x) (hps:∀ i,(ys i).length=ps.size) (hpb:ps.toList.all (fun p=>Nat.blt p n)=true)
    (round:∀ x c,I x→idx x < N→HRound P assign body ⟨n,psl ps.toList (ys (idx x)) tm,st x,c⟩ (fun C2=>RQ C2 (fun hp' _=>∃ y,I y∧idx y=idx x+1∧HpSub hp' (st y)) (fun e hp' c'=>HQ C Q e ⟨n,tm,hp',c'⟩)))
    (hB0:C.w0.heap.size≤B.heap.size) (i:Nat) (O:Nat→Prop) (W:World) (F':Addr→Prop) (vs:List Value) (hi:i < N) (hJ:Jn C B E1 l rec st idx I i O W) (hF1:∀ a,F' a→a.spot=none∧(W.cell? a).isSome=true) (hF2:∀ a,F' a→¬ O a.block) (hF3:∀ a,F' a→E1.F a∨B.heap.size≤a.block) (hv:RepAll W (Env.just F') vs (ys i)) :
    YieldAt Fence.wide 0 P l vs.toArray W fun e W'=>KeepsO O W W'∧((e=.returned (.bool true)∧∃ O',Jn C B E1 l rec st idx I (i+1) O' W'∧∀ k,O' k→O k∨W.heap.size≤k)∨(e=.returned (.bool false)∧Jxn C B E1 l rec (fun e hp' c'=>HQ C Q e ⟨n,tm,hp',c'⟩) W')):=by
  obtain ⟨x,c,Ei0,rfl,hI,eB0,rW0,hG,hl,hO⟩:=hJ
  obtain ⟨Ei,hEi⟩:∃ Ei:Env,Ei=⟨fun a=>Ei0.F a∨F' a,Ei0.L,Ei0.G,Ei0.M⟩:=⟨_,rfl⟩
  have hEF:∀ a,F' a→Ei.F a:=fun a ha=>by rw [hEi];exact .inr ha
  have hKH:KH Ei (hget (st x))=KH Ei0 (hget (st x)):=by rw [hEi];rfl
  have e01:Ext W Ei0 W Ei:=by rw [hEi];exact ⟨Nat.le_refl _,fun a h=>⟨.inl h,rfl⟩,fun _ h=>h,fun _ _ h _=>h,fun _ h=>h⟩
  have rW:R C.K C.w0 C.E0.F Ei (hget (st x)) W:=by
    have hfrz:∀ a,Ei.F a→a.spot=none∧(W.cell? a).isSome=true:=fun a ha=>by
      rw [hEi] at ha;rcases ha with ha | ha;exact rW0.frz a ha;exact hF1 a ha
    have hnew:∀ a,Ei.F a→C.E0.F a∨C.w0.heap.size≤a.block∨¬ C.K a.block:=fun a ha=>by
      rw [hEi] at ha
      rcases ha with ha | ha
      · exact rW0.fnew a ha
      · rcases hF3 a ha with h | h
        · exact rW0.fnew a (eB0.F a h).1
        · exact .inr (.inl (Nat.le_trans hB0 h))
    refine ⟨rW0.os,rW0.tape,rW0.output,rW0.size,rW0.keep,hfrz,hnew,rW0.klib,rW0.lib,fun b hb=>rW0.bks b (by rw [hEi] at hb;exact hb),fun id o ho=>?_,fun id id' o o' l l' b ho ho' hl hl'=>rW0.inj id id' o o' l l' b ho ho' (by rw [hEi] at hl;exact hl) (by rw [hEi] at hl';exact hl')⟩
    obtain ⟨lo,hlo,ao⟩:=rW0.obj id o ho
    refine ⟨lo,by rw [hEi];exact hlo,ao.ext e01 (fun _ _=>rfl) (fun b k hA hF=>?_)⟩
    rw [hEi] at hF
    rcases hF with hF | hF
    · exact hF
    · exact absurd ((hO b).2 (.inl (fun hk=>hk id o lo ho hlo hA))) (hF2 _ hF)
  have eB:Ext B E1 W Ei:=eB0.trans e01
  have hvl:vs.length=(ys (idx x)).length:=(hv.get).1
  have hsz':vs.toArray.size=(rec .ready none).params.size:=by rw [hrec];simp [hvl,hps]
  have hy:=run_yield (P:=P) (args:=vs.toArray) hl hsz'
  refine ⟨_,_,_,_,hy,roundIn_of_wpIn trivial ?_⟩
  have hps2:(rec .ready none).params=ps:=by rw [hrec]
  have hts2:(rec .ready none).tmps=tmps:=by rw [hrec]
  have has2:(rec .ready none).assign=assign:=by rw [hrec]
  have hbd2:(rec .ready none).body=body:=by rw [hrec]
  rw [hps2,hts2,has2,hbd2]
  have hlW:=lt_of_heap hl
  have nb:=rW.notBk hl rfl
  have hfold:(ps.zip vs.toArray).foldl (fun tmps (x:Tmp×Value)=>tmps.setIfInBounds x.1 x.2) tmps=(ps.toList.zip vs).foldl (fun t p=>t.setIfInBounds p.1 p.2) tmps:=by
    rw [←Array.foldl_toList];simp
  have hfold':(Array.foldl (fun (t:Array Value) (x:Tmp×Value)=>match x with | (p,v)=>t.setIfInBounds p v) tmps (ps.zip vs.toArray))=(ps.toList.zip vs).foldl (fun t p=>t.setIfInBounds p.1 p.2) tmps:=hfold
  rw [hfold']
  have hzs:∀ (q:List (Tmp×Value)) (t:Array Value),(q.foldl (fun t p=>t.setIfInBounds p.1 p.2) t).size=t.size:=by
    intro q
    induction q with
    | nil=>intro t;rfl
    | cons z q ih=>intro t;rw [List.foldl_cons,ih];simp
  have hjust:Ext W (Env.just F') W Ei:=Ext.just hEF
  have libA:∀ W',R C.K C.w0 C.E0.F Ei (hget (st x)) W'→LibW W':=fun _ r=>r.libw
  obtain ⟨hV0,hslots⟩:=psl_rep (w:=W) (E:=Ei) ps.toList vs (ys (idx x)) tm tmps (hv.ext hjust) (by simp [hps]) (by rw [hsz];exact hpb) hV (fun t y hy ds=>(htm t y hy ds).ext eB)
  have sat0:Sat ⟨KH Ei (hget (st x)),W,Ei,[],some l,none⟩ ⟨n,psl ps.toList (ys (idx x)) tm,st x,c⟩ ⟨(ps.toList.zip vs).foldl (fun t p=>t.setIfInBounds p.1 p.2) tmps,[]⟩ W :=
    ⟨Ei,Ext.refl _ _,rW.reb,(by rw [hEi];exact hG),by rw [hzs,hsz],rfl,fun t y hy=>hslots t y hy []⟩
  refine round x c hI hi ⟨KH Ei (hget (st x)),W,Ei,[],some l,none⟩ l ⟨rfl,rfl,rfl,hlW,nb.2,_,hl⟩ _ (fun s1 hb a1 Wa hsat=>?_) _ W sat0
  obtain ⟨Ea,ea,ra,hGa,hsza,hdfa,hta⟩:=hsat
  have rA:=rW.unreb ra
  have hla:Wa.heap[l]?=some (.loop (rec .ready none)):=(ra.keep l hlW nb.2).trans hl
  have hlaW:=lt_of_heap hla
  have hst:(rec .ready none).state=.ready:=by rw [hrec]
  refine ⟨_,run_beginRound hla hst,?_⟩
  obtain ⟨e2,r2⟩:=rA.book hla rfl hl0 (rA.notM hla) (Bk.put Wa l (.loop { rec .ready none with state:=.busy }))
  have hl2:(Wa.putObj l (.loop { rec .ready none with state:=.busy })).heap[l]?=some (.loop { rec .ready none with state:=.busy }):=World.putObj_heap_same hlaW
  have nb2:=r2.notBk hl2 rfl
  have hl2W:=lt_of_heap hl2
  have hda:a1.defers=[]:=hdfa
  have sat2:Sat ⟨KH Ea (hget s1.hp),Wa.putObj l (.loop { rec .ready none with state:=.busy }),Ea,[],some l,none⟩ s1 a1 (Wa.putObj l (.loop { rec .ready none with state:=.busy })) :=
    ⟨Ea,Ext.refl _ _,r2.reb,hGa,hsza,hda,fun t y hy=>(hta t y hy).ext e2⟩
  refine wpIn_mono (hb ⟨KH Ea (hget s1.hp),_,Ea,[],some l,none⟩ ⟨rfl,rfl,rfl,hl2W,nb2.2,_,hl2⟩ a1 _ sat2) (fun e a' W3 hq=>?_)
  have fin:∀ (jump:Option Code) (hp':List (Nat×HObj)) (c':Nat),RB ⟨KH Ea (hget s1.hp),Wa.putObj l (.loop { rec .ready none with state:=.busy }),Ea,[],some l,none⟩ hp' c' W3 →
      ∃ W4 E3,(Instr.endRound l jump).run P W3=.ok (.bool jump.isNone) W4∧KeepsO O W W4∧(∀ k,¬ KH E3 (hget hp') k→O k∨W.heap.size≤k)∧Ext B E1 W4 E3∧R C.K C.w0 C.E0.F E3 (hget hp') W4∧(∀ g,E3.G g→g < c')∧W4.heap[l]?=some (.loop (rec (if jump.isNone then .ready else .done) jump)):=by
    intro jump hp' c' ⟨E3,e3,r3,hG3⟩
    have hl3:W3.heap[l]?=some (.loop { rec .ready none with state:=.busy }):=(r3.keep l hl2W nb2.2).trans hl2
    have r3':=r2.unreb r3
    obtain ⟨e4,r4⟩:=r3'.book hl3 rfl hl0 (r3'.notM hl3) (Bk.put W3 l (.loop { ({ rec .ready none with state:=.busy }:Loop) with state:=if jump.isNone then .ready else .done,pending:=jump }))
    have own2:∀ k,k < W.heap.size→¬ O k→KH Ea (hget s1.hp) k:=fun k hk hno=>Classical.byContradiction fun hn=>by
      unfold KH at hn
      simp only [Classical.not_forall,ne_eq,Classical.not_not] at hn
      obtain ⟨id,o,lo,q1,q2,q3⟩:=hn
      obtain ⟨lo',q4,ao⟩:=ra.obj id o q1
      rw [q2] at q4;injection q4 with q4;subst q4
      have:=ao.notK q3 hk
      rw [hKH] at this
      exact hno ((hO k).2 (.inl this))
    refine ⟨_,E3,run_endRound jump hl3,⟨?_,fun k hk hno=>?_,r4.libw⟩,fun k hk=>?_,eB.trans (ea.trans (e2.trans (e3.trans e4))),r4,hG3,?_⟩
    · exact Nat.le_trans ea.sz (Nat.le_trans e2.sz (Nat.le_trans e3.sz e4.sz))
    · have hkl:k≠l:=fun e=>hno ((hO k).2 (.inr e))
      have hk1:KH Ei (hget (st x)) k:=by rw [hKH];exact Classical.byContradiction fun h=>hno ((hO k).2 (.inl h))
      have hka:k < Wa.heap.size:=Nat.lt_of_lt_of_le hk ea.sz
      have hk2:k < (Wa.putObj l (.loop { rec .ready none with state:=.busy })).heap.size:=by rw [World.putObj_size];exact hka
      rw [World.putObj_heap_other hkl,r3.keep k hk2 (own2 k hk hno),World.putObj_heap_other hkl]
      exact ra.keep k hk hk1
    · rcases Nat.lt_or_ge k W.heap.size with h | h
      · left
        refine Classical.byContradiction fun hno=>hk (fun id o lo q1 q2 q3=>?_)
        obtain ⟨lo',q4,ao⟩:=r3.obj id o q1
        rw [q2] at q4;injection q4 with q4;subst q4
        have hk2:k < (Wa.putObj l (.loop { rec .ready none with state:=.busy })).heap.size:=by rw [World.putObj_size];exact Nat.lt_of_lt_of_le h ea.sz
        exact ao.notK q3 hk2 (own2 k h hno)
      · exact .inr h
    · rw [World.putObj_heap_same (lt_of_heap hl3),hrec]
  cases e with
  | normal =>
    obtain ⟨hp',c',⟨y,hy1,hy2,hy3⟩,hrb⟩:=hq
    obtain ⟨W4,E3,h1,hk,ho,h2,h3,h4,h5⟩:=fin none hp' c' hrb
    refine ⟨_,W4,h1,hk,.inl ⟨rfl,_,⟨y,c',E3,hy2,hy1,h2,h3.weak hy3,h4,h5,fun b=>Iff.rfl⟩,fun k hk'=>?_⟩⟩
    rcases hk' with hk' | rfl
    · refine ho k (fun hK=>hk' (fun id o' lo q1 q2=>?_))
      obtain ⟨o,q3,_⟩:=hy3 id o' q1
      exact hK id o lo q3 q2
    · exact .inl ((hO k).2 (.inr rfl))
  | ret =>
    obtain ⟨hp',c',hX,hrb⟩:=hq
    obtain ⟨W4,E3,h1,hk,_,h2,h3,h4,h5⟩:=fin (some .ret) hp' c' hrb
    exact ⟨_,W4,h1,hk,.inr ⟨rfl,.ret,hp',c',E3,.inl ⟨rfl,hX⟩,h2,h3,h4,h5⟩⟩
  | exit id =>
    obtain ⟨hp',c',hX,hrb⟩:=hq
    obtain ⟨W4,E3,h1,hk,_,h2,h3,h4,h5⟩:=fin (some (.exit id)) hp' c' hrb
    exact ⟨_,W4,h1,hk,.inr ⟨rfl,.exit id,hp',c',E3,.inr ⟨id,rfl,hX⟩,h2,h3,h4,h5⟩⟩
  | goto t=>exact hq.elim
  | panic ch=>exact hq.elim
  | outgrown=>exact hq.elim
end
section
variable {α:Type} {P:Program} {C:Ctx} {Q:Exit→Act→World→Prop} {n clk:Nat} {tm:List (Nat×TV)} {hp:List (Nat×HObj)} {ps:Array Tmp} {assign body:Code} {N:Nat} {ys:Nat→List HV}
theorem shared_nil (w:World) (E:Env):Shared w E []:=fun _ _ h=>by cases h
theorem range_after {B:World} {E1:Env} {l:Nat} {fn:FuncId} {tmps:Array Value} {dfs:Nat} {rec:LoopState→Option Code→Loop} (hrec:rec=fun s p=>{ state:=s,pending:=p,fn,tmps:=tmps,params:=ps,assign,body,defers:=dfs })
  {st:α→List (Nat×HObj)} {idx:α→Nat} {I:α→Prop} (hl0:C.w0.heap.size≤l) (a':Act) (sat:∀ (hp':List (Nat×HObj)) (c':Nat) (Ei:Env) (W:World),Ext B E1 W Ei→R C.K C.w0 C.E0.F Ei (hget hp') W→(∀ g,Ei.G g→g < c')→Sat C ⟨n,tm,hp',c'⟩ a' W)
  (done:∀ x c,I x→idx x=N→HQ C Q .normal ⟨n,tm,st x,c⟩) (W:World)
  (h:(∃ O,Jn C B E1 l rec st idx I N O W)∨∃ i,i < N∧Jxn C B E1 l rec (fun e hp' c'=>HQ C Q e ⟨n,tm,hp',c'⟩) W) :
  ∃ jump W2,(Instr.endLoop l).run P W=.ok jump W2∧(match jump with | none=>Q .normal a' W2 | some c=>c.wpIn (fenR C.rd) 0 P Q a' W2):=by
 rcases h with ⟨_,x,c,Ei,h1,h2,h3,h4,h5,h6,_⟩ | ⟨i,_,cj,hp',c,Ei,h1,h3,h4,h5,h6⟩
 ·obtain ⟨e2,r2⟩:=h4.book h6 rfl hl0 (h4.notM h6) (Bk.put W l (.loop { rec .ready none with state:=.exhausted }))
  refine ⟨none,_,?_,done x c h2 h1 a' _ (sat _ _ Ei _ (h3.trans e2) r2 h5)⟩
  have:=run_endLoop (P:=P) h6 (by rw [hrec];simp)
  rw [hrec] at this ⊢
  exact this
 ·obtain ⟨e2,r2⟩:=h4.book h6 rfl hl0 (h4.notM h6) (Bk.put W l (.loop { rec .done (some cj) with state:=.exhausted }))
  refine ⟨some cj,W.putObj l (.loop { rec .done (some cj) with state:=.exhausted }),?_,?_⟩
  ·have:=run_endLoop (P:=P) h6 (by rw [hrec];simp)
   rw [hrec] at this ⊢
   exact this
  ·have hs:=sat _ _ Ei _ (h3.trans e2) r2 h5
   rcases h1 with ⟨rfl,hX⟩ | ⟨id,rfl,hX⟩
   ·exact wpIn_ret (hX a' _ hs)
   ·exact wpIn_exit (hX a' _ hs)
theorem hw_range {t:Nat} {f:FuncId} {m:Nat} {cfs:Nat→HV} {cs caps:List HV} (hC:C.rd=none∧C.ds=[]∧C.mks=some C.w0.heap.size)
    (hit:HIter P f caps N ys) (ht:tget tm t=some (.v (.fn (.func f) m cfs))) (hcs:cs.length=m) (hci:∀ i,i < m→cs[i]?=some (cfs i)) (hz:FzAll [] cs caps)
    (hV:allV tm=true) (hps:∀ i,(ys i).length=ps.size) (hpb:ps.toList.all (fun p=>Nat.blt p n)=true)
    (st:α→List (Nat×HObj)) (idx:α→Nat) (I:α→Prop) (x0:α) (h0:I x0) (hi0:idx x0=0) (hs0:HpSub hp (st x0)) (hfl:((st x0).all fun p=>p.2.fl == 0)=true)
    (round:∀ x c,I x→idx x < N→HRound P assign body ⟨n,psl ps.toList (ys (idx x)) tm,st x,c⟩ (fun C2=>RQ C2 (fun hp' _=>∃ y,I y∧idx y=idx x+1∧HpSub hp' (st y)) (fun e hp' c'=>HQ C Q e ⟨n,tm,hp',c'⟩)))
    (done:∀ x c,I x→idx x=N→HQ C Q .normal ⟨n,tm,st x,c⟩):HWp C P (.rangeFunc (.tmp t) ps assign body) ⟨n,tm,hp,clk⟩ Q:=by
  intro a w ⟨E,e0,r,hG,hsz,hdf,htm⟩
  have hfn:Rep w E (a.eval (.tmp t)) (.fn (.func f) m cfs):=htm t _ ht
  rw [hC.1]
  refine wpIn_rangeFunc fun fn _=>?_
  generalize hρ:a.eval (.tmp t)=u at hfn
  cases hfn with
  | fn _ vcs _ _ vs hn hv hr =>
    have hcap:=caps_rep hn hv hr hcs hci
    obtain ⟨rec,hrec⟩:∃ rec:LoopState→Option Code→Loop,rec=fun s p=>{ state:=s,pending:=p,fn,tmps:=a.tmps,params:=ps,assign,body,defers:=w.heap.size }:=⟨_,rfl⟩
    obtain ⟨W1,hW1⟩:∃ W1,(w.alloc (.deferred (some []))).alloc (.loop (rec .ready none))=W1:=⟨_,rfl⟩
    have hbel:Below w.heap.size w W1:=by rw [←hW1];exact (((Below.refl _ w).alloc (Nat.le_refl _) _).alloc (by simp) _)
    have hD1:W1.heap[w.heap.size]?=some (.deferred (some [])):=by
      rw [←hW1];exact (Below.heap_alloc _ _ _ (by simp)).trans (World.alloc_heap_new w _)
    have hL1:W1.heap[w.heap.size+1]?=some (.loop (rec .ready none)):=by
      rw [←hW1];have:=World.alloc_heap_new (w.alloc (.deferred (some []))) (.loop (rec .ready none));rwa [World.size_alloc] at this
    have e1:Ext w E W1 (E.mark w.heap.size):=(r.extBelow hbel).trans (Ext.mark _ _ _)
    have r1:R C.K C.w0 C.E0.F (E.mark w.heap.size) (hget hp) W1:=(r.growSame hbel).mark hD1
    have hw0:C.w0.heap.size≤w.heap.size+1:=Nat.le_succ_of_le r.size
    refine ⟨w.heap.size+1,[{ target:=.collected w.heap.size,args:=#[] }],W1,{ target:=.fn (.func f) vcs,args:=#[.func (.yield (w.heap.size+1)) #[] #[]] },W1,f,
      #[.func (.yield (w.heap.size+1)) #[] #[]]++vcs,W1,?_,?_,fun _ _=>trivial,?_,nodepth,?_⟩
    · rw [←hW1,hrec];exact run_enterLoop_outer _ _ _ _ _
    · simp only [resolve,hρ]
      simp [go_sem]
    · have:=run_callFunc hit.1 (#[.func (.yield (w.heap.size+1)) #[] #[]]++vcs) W1
      simp only [invoke]
      exact this
    · refine callsIn_fr (r:=none) ?_
      have hfr:∀ p,E.F p→p.spot=none∧(W1.cell? p).isSome=true:=fun p hp=>by
        have:=r.frz p hp
        exact ⟨this.1,by rw [(e1.F p hp).2];exact this.2⟩
      have hcap1:RepAll W1 (Env.just E.F) vcs.toList caps:=by
        have:=hz.sound (shared_nil W1 (E.mark w.heap.size)) (hcap.ext e1)
        exact this
      have hfo:∀ p,E.F p→¬ (¬ KH (E.mark w.heap.size) (hget (st x0)) p.block∨p.block=w.heap.size+1):=fun p hp=>by
        rintro (h | h)
        · exact h ((r1.weak hs0).noFl (fun id o ho=>by have:=List.all_eq_true.1 hfl _ (hget_mem ho);simpa using this) p hp)
        · exact ((r1.weak hs0).notBk hL1 rfl).1 p hp h
      have hslots:∀ t x,tget tm t=some x→∀ ds,TVRep W1 (E.mark w.heap.size) ⟨a.tmps,ds⟩ (a.tmps.getD t undef) x:=fun t x hx ds=>by
        obtain ⟨z,rfl⟩:=allV_spec hV t x hx
        exact (htm t _ hx).ext e1
      have hc:=hit.2 (w.heap.size+1) W1 E.F vcs.toList (Jn C W1 (E.mark w.heap.size) (w.heap.size+1) rec st idx I) (fun _=>Jxn C W1 (E.mark w.heap.size) (w.heap.size+1) rec (fun e hp' c'=>HQ C Q e ⟨n,tm,hp',c'⟩))
        _ hfr hfo hcap1 r1.libw (fun i O W2 W3 h hb=>jn_below h hb) (fun i W2 W3 h hb=>jxn_below h hb) (fun i O W2 h=>jn_own h)
        (fun i O W2 F' vs2 hi hJ q1 q2 q3 hv2=>round_yield hrec hw0 hsz hV hslots hps hpb round (Nat.le_trans r.size hbel.size) i O W2 F' vs2 hi hJ q1 q2 q3 hv2)
        ⟨x0,clk,E.mark w.heap.size,hi0,h0,Ext.refl _ _,r1.weak hs0,hG,hL1,fun b=>Iff.rfl⟩
      have harr:#[Value.func (.yield (w.heap.size+1)) #[] #[]]++vcs.toList.toArray=#[.func (.yield (w.heap.size+1)) #[] #[]]++vcs:=by simp
      rw [harr] at hc
      refine Calls.mono hc (fun e W2 ⟨⟨v,he⟩,hj⟩=>?_)
      subst he
      have hsat:∀ (hp':List (Nat×HObj)) (c':Nat) (Ei:Env) (W:World),Ext W1 (E.mark w.heap.size) W Ei→R C.K C.w0 C.E0.F Ei (hget hp') W→(∀ g,Ei.G g→g < c')→Sat C ⟨n,tm,hp',c'⟩ { a with defers:=[⟨.collected w.heap.size,#[]⟩]++a.defers } W:=by
        intro hp' c' Ei W e2 r2 hG2
        refine ⟨Ei,e0.trans (e1.trans e2),r2,hG2,hsz,?_,fun t x hx=>?_⟩
        · rw [hC.2.1,hC.2.2] at hdf ⊢
          obtain ⟨Ds,h1,h2,h3⟩:=hdf
          refine ⟨w.heap.size::Ds,by rw [h1];rfl,List.nodup_cons.2 ⟨fun hm=>?_,h2⟩,fun D hD=>?_⟩
          · exact absurd (lt_of_heap (r.bks _ (h3 _ hm).1)) (Nat.lt_irrefl _)
          · rcases List.mem_cons.1 hD with rfl | hD
            · exact ⟨e2.M _ (.inr rfl),r.size⟩
            · exact ⟨e2.M _ (e1.M _ (h3 D hD).1),(h3 D hD).2⟩
        · obtain ⟨z,rfl⟩:=allV_spec hV t x hx
          exact (htm t _ hx).ext (e1.trans e2)
      obtain ⟨jump,W3,h1,h2⟩:=range_after hrec hw0 _ hsat done W2 hj
      rw [hC.1] at h2
      exact ⟨jump,W3,h1,h2⟩
end
section
variable {P:Program} {Post:HEnd→List (Nat×HObj)→Nat→Prop}
theorem hpure_ofM {f:FuncId} {fn:Func} {c:Code} (hf:P.funcs[f]?=some fn) (hb:fn.body=some c) (hn:(fn.name == "runtime.NumGoroutine")=false) (args:List HV) (r:HV) (tm:List (Nat×TV)) (htm:slots 0 args=tm) (n:Nat) (hnt:fn.ntmps=n) (hlen:Nat.ble args.length n=true)
  (h:∀ w F,HWp (Ctx.topM w F) P c ⟨n,tm,[],0⟩ (bodyPostM Fence.wide 0 P fn (PurePost w F r))):HPure P f args r:=by
 refine ⟨⟨fn,c,hf,hb,hn⟩,fun w F vs hF hr hw=>callsIn_wide.1 (callsIn_of_wp_marks (F:=Fence.wide) (n:=0) hf hb trivial (h w F _ w ?_))⟩
 obtain ⟨hl,hg⟩:=hr.get
 have hlen:args.length≤n:=by simpa using hlen
 refine ⟨Env.just F,Ext.refl _ _,⟨rfl,rfl,rfl,Nat.le_refl _,fun _ _ _=>rfl,hF,fun a ha=>.inl ha,fun _ _=>trivial,hw,(fun b hb=>hb.elim),(fun id o ho=>by cases ho),(fun id id' o o' l l' b ho=>by cases ho)⟩,fun g hg=>hg.elim,?_,⟨[],rfl,List.nodup_nil,fun D hD=>by cases hD⟩,fun t x hx=>?_⟩
 ·simp [hl,hnt];omega
 ·rw [←htm] at hx
  obtain ⟨i,y,rfl,h2,rfl⟩:=tget_slots args 0 t x hx
  obtain ⟨v,hv,hrep⟩:=hg i y h2
  have hi:i < vs.length:=by
   rcases Nat.lt_or_ge i vs.length with h | h
   ·exact h
   ·rw [List.getElem?_eq_none h] at hv;cases hv
  have:(vs.toArray++Array.replicate (fn.ntmps - vs.toArray.size) undef).getD (0+i) undef=v:=by
   rw [Nat.zero_add]
   simp only [Array.getD_eq_getD_getElem?]
   rw [Array.getElem?_append_left (by simpa using hi)]
   simp [hv]
  show Rep w _ _ y
  rw [this]
  exact hrep
theorem hq_retP {w:World} {F:Addr→Prop} {fn:Func} {Rp:Ending→World→Prop} {s:HSt} (h:HQ (Ctx.top w F) (bodyPost P fn Rp) .ret s):HQ (Ctx.topM w F) (bodyPostM Fence.wide 0 P fn Rp) .ret s:=hq_retM ⟨rfl,rfl,fun b hb=>hb.elim⟩ h
end
structure ItX (P:Program) where
 l:Nat
 W0:World
 F0:Addr→Prop
 J:Nat→(Nat→Prop)→World→Prop
 Jx:Nat→World→Prop
 N:Nat
 ys:Nat→List HV
 jb:∀ i O W1 W2,J i O W1→Below W1.heap.size W1 W2→J i O W2
 ob:∀ i O W1,J i O W1→∀ k,O k→k < W1.heap.size
 jxb:∀ i W1 W2,Jx i W1→Below W1.heap.size W1 W2→Jx i W2
 yl:∀ i O W1 F' vs,i < N→J i O W1→(∀ a,F' a→a.spot=none∧(W1.cell? a).isSome=true)→(∀ a,F' a→¬ O a.block)→(∀ a,F' a→F0 a∨W0.heap.size≤a.block)→RepAll W1 (Env.just F') vs (ys i) →
   YieldAt Fence.wide 0 P l vs.toArray W1 fun e W'=>KeepsO O W1 W'∧((e=.returned (.bool true)∧∃ O',J (i+1) O' W'∧∀ k,O' k→O k∨W1.heap.size≤k)∨(e=.returned (.bool false)∧Jx (i+1) W'))
structure FrOk (P:Program) (X:ItX P) (W:World) (F:Addr→Prop):Prop where
 frz:∀ a,F a→a.spot=none∧(W.cell? a).isSome=true
 new:∀ a,F a→X.F0 a∨X.W0.heap.size≤a.block
 size:X.W0.heap.size≤W.heap.size
 lib:LibW W
structure GoodW (P:Program) (X:ItX P) (i:Nat) (O:Nat→Prop) (W:World) (F:Addr→Prop):Prop where
 j:X.J i O W
 fr:FrOk P X W F
 own:∀ a,F a→¬ O a.block
def ItPost (P:Program) (X:ItX P) (e:Ending) (w:World):Prop:=(∃ v,e=.returned v)∧((∃ O,X.J X.N O w)∨∃ i,i < X.N∧X.Jx (i+1) w)
section
variable {P:Program} {X:ItX P} {fn:Func} {Q:Exit→Act→World→Prop} {n clk:Nat} {tm:List (Nat×TV)} {hp:List (Nat×HObj)}
theorem top_below {W w:World} {F0:Addr→Prop} {E:Env} {h:Nat→Option HObj} (r:R (fun _=>True) W F0 E h w):Below W.heap.size W w :=
 ⟨r.os,r.tape,r.output,r.size,fun k hk=>r.keep k hk trivial⟩
def TmFz (tm tm':List (Nat×TV)):Prop:=∀ t x,tget tm' t=some x→∃ y z,x=.v z∧tget tm t=some (.v y)∧Fz [] y z
theorem TmFz.nil {tm:List (Nat×TV)}:TmFz tm []:=fun t x h=>by cases h
theorem TmFz.cons {tm r:List (Nat×TV)} {t:Nat} {y z:HV} (h:tget tm t=some (.v y)) (hz:Fz [] y z) (hr:TmFz tm r):TmFz tm ((t,.v z)::r):=fun t' x h'=>by
 rw [tget_cons] at h'
 split at h'
 ·rename_i e;subst e;injection h' with h';subst h';exact ⟨y,z,rfl,h,hz⟩
 ·exact hr t' x h'
theorem hiter_of {f:FuncId} {c:Code} (hf:P.funcs[f]?=some fn) (hb:fn.body=some c) (hn:(fn.name == "runtime.NumGoroutine")=false) (caps:List HV) (N:Nat) (ys:Nat→List HV) (tm:List (Nat×TV)) (htm:slots 1 caps=tm) (n:Nat) (hnt:fn.ntmps=n) (hlen:Nat.ble (caps.length+1) n=true)
  (h:∀ X:ItX P,X.N=N→X.ys=ys→∀ O W F,GoodW P X 0 O W F→HWp (Ctx.top W F) P c ⟨n,(0,.v (.fn (.yield X.l) 0 fun _=>default))::tm,[],0⟩ (bodyPost P fn (ItPost P X))):HIter P f caps N ys:=by
 refine ⟨⟨fn,c,hf,hb,hn⟩,fun l W F cvs J Jx O0 hF hFO hr hw hjb hjxb hob hyl hj=>?_⟩
 have key:=h ⟨l,W,F,J,Jx,N,ys,hjb,hob,hjxb,hyl⟩ rfl rfl O0 W F ⟨hj,⟨hF,fun a ha=>.inl ha,Nat.le_refl _,hw⟩,hFO⟩
 refine calls_of_wp hf hb (wpR_none.1 (key _ W ?_))
 obtain ⟨hl,hg⟩:=hr.get
 have hlen:caps.length+1≤n:=by simpa using hlen
 refine ⟨Env.just F,Ext.refl _ _,⟨rfl,rfl,rfl,Nat.le_refl _,fun _ _ _=>rfl,hF,fun a ha=>.inl ha,fun _ _=>trivial,hw,(fun b hb=>hb.elim),(fun id o ho=>by cases ho),(fun id id' o o' l l' b ho=>by cases ho)⟩,fun g hg=>hg.elim,?_,rfl,fun t x hx=>?_⟩
 ·simp [hl,hnt];omega
 ·rw [tget_cons] at hx
  split at hx
  ·rename_i e;subst e;injection hx with hx;subst hx
   have:((#[Value.func (.yield l) #[] #[]]++cvs.toArray)++Array.replicate (fn.ntmps - (#[Value.func (.yield l) #[] #[]]++cvs.toArray).size) undef).getD 0 undef=.func (.yield l) #[] #[]:=by
    simp only [Array.getD_eq_getD_getElem?]
    rw [Array.getElem?_append_left (by simp),Array.getElem?_append_left (by simp)]
    rfl
   show Rep W _ _ _
   rw [this]
   exact .fn _ _ _ _ (fun _=>undef) rfl (fun i hi=>absurd hi (Nat.not_lt_zero _)) (fun i hi=>absurd hi (Nat.not_lt_zero _))
  ·rw [←htm] at hx
   obtain ⟨i,y,rfl,h2,rfl⟩:=tget_slots caps 1 t x hx
   obtain ⟨v,hv,hrep⟩:=hg i y h2
   have hi:i < cvs.length:=by
    rcases Nat.lt_or_ge i cvs.length with h | h
    ·exact h
    ·rw [List.getElem?_eq_none h] at hv;cases hv
   have:((#[Value.func (.yield l) #[] #[]]++cvs.toArray)++Array.replicate (fn.ntmps - (#[Value.func (.yield l) #[] #[]]++cvs.toArray).size) undef).getD (1+i) undef=v:=by
    simp only [Array.getD_eq_getD_getElem?]
    rw [Array.getElem?_append_left (by simp;omega),Array.getElem?_append_right (by simp)]
    simp [hv]
   show Rep W _ _ y
   rw [this]
   exact hrep
theorem hq_retI {W:World} {F:Addr→Prop} {s:HSt} (hres:fn.results=#[]) (hg:(∃ O,X.J X.N O W)∨∃ i,i < X.N∧X.Jx (i+1) W):HQ (Ctx.top W F) (bodyPost P fn (ItPost P X)) .ret s:=by
 intro a w ⟨E,e0,r,hG,hsz,hdf,ht⟩
 have hb:Below W.heap.size W w:=top_below r
 refine ⟨hdf,.tuple #[],?_,⟨_,rfl⟩,?_⟩
 ·simp [results,hres,go_sem]
 ·rcases hg with ⟨O,h⟩ | ⟨i,hi,h⟩
  ·exact .inl ⟨O,X.jb _ _ _ _ h hb⟩
  ·exact .inr ⟨i,hi,X.jxb _ _ _ h hb⟩
theorem hq_yield {ops:Array Oper} {rest:List Oper} {ty:TypeId} {pos:String} {af:Array Edge} {W:World} {F:Addr→Prop} {i:Nat} {O:Nat→Prop} (hg:GoodW P X i O W F) (hi:i < X.N) {t d:Nat} {y0:Nat→HV} {args:List Operand} {at_:Array TypeId} {xs:List HV} (tm':List (Nat×TV))
    (h0:tget tm t=some (.v (.fn (.yield X.l) 0 y0))) (hx:ovAll (pview (tget tm)) args xs) (hz:FzAll [] xs (X.ys i)) (htm:TmFz tm tm') (hlt:Nat.blt d n=true)
    (hyes:∀ O' W' F',GoodW P X (i+1) O' W' F'→HSeq (Ctx.top W' F') P ops rest ⟨n,(d,.v (.imm (.bool true)))::tm',[],0⟩ Q)
    (hno:∀ W' F',FrOk P X W' F'→X.Jx (i+1) W'→HSeq (Ctx.top W' F') P ops rest ⟨n,(d,.v (.imm (.bool false)))::tm',[],0⟩ Q) :
    HSeq (Ctx.top W F) P ops (⟨some d,.call ⟨.value (.tmp t),args.toArray,at_⟩,ty,pos,af,none⟩::rest) ⟨n,tm,hp,clk⟩ Q:=by
  intro a w ⟨E,e0,r,hG,hsz,hdf,ht⟩
  have hlt:d < n:=by simpa [Nat.blt_eq] using hlt
  have hb:Below W.heap.size W w:=top_below r
  unfold wpSq
  rw [if_pos (by simp [Region.wanted])]
  right
  have hrep:=pview_rep ht hx
  have hfn:Rep w E (a.eval (.tmp t)) (.fn (.yield X.l) 0 y0):=ht t _ h0
  refine ⟨fun _ _=>trivial,?_⟩
  rw [show ∀ o:Oper,o.semAt Fence.wide.round a.eval=execOp a.eval o from fun o=>Oper.semAt_none _ _]
  have hargs:args.toArray.map a.eval=(args.map a.eval).toArray:=by simp
  have hfrz:RepAll w (Env.just E.F) (args.map a.eval) (X.ys i):=hz.sound (shared_nil w E) hrep
  have hown:∀ p,E.F p→¬ O p.block:=fun p hp=>by
    rcases r.fnew p hp with h1 | h1 | h1
    · exact hg.own p h1
    · intro hO
      have:=X.ob _ _ _ hg.j _ hO
      exact absurd h1 (by show ¬ W.heap.size≤_;omega)
    · exact absurd trivial h1
  obtain ⟨fn',tmps',as',bd',hy,hround⟩:=X.yl i O w E.F (args.map a.eval) hi (X.jb _ _ _ _ hg.j hb) r.frz hown (fun p hp=>by
    rcases r.fnew p hp with h1 | h1 | h1
    · exact hg.fr.new p h1
    · exact .inr (Nat.le_trans hg.fr.size h1)
    · exact absurd trivial h1) hfrz
  unfold execOp
  generalize hρ:a.eval (.tmp t)=u at hfn
  cases hfn with
  | fn _ vcs _ _ vs hn hv hr =>
    have hvc:vcs=#[]:=Array.eq_empty_of_size_eq_zero hn
    subst hvc
    simp only [resolve,hρ,Deferred.ofValue,invoke,Sem.run_bind,Sem.run_pure,Result.andThen_ok,Array.empty_append,Array.append_empty]
    rw [hargs,hy]
    refine ⟨nodepth,RoundIn.mono hround (fun e W' he=>?_)⟩
    obtain ⟨hk,he⟩:=he
    have hfr':FrOk P X W' E.F:=⟨fun p hp=>⟨(r.frz p hp).1,by rw [World.cell?_of_block (hk.block _ (lt_of_cell (r.frz p hp).2) (hown p hp))];exact (r.frz p hp).2⟩,fun p hp=>by
      rcases r.fnew p hp with h1 | h1 | h1
      · exact hg.fr.new p h1
      · exact .inr (Nat.le_trans hg.fr.size h1)
      · exact absurd trivial h1,Nat.le_trans hg.fr.size (Nat.le_trans r.size hk.size),hk.lib⟩
    have eK:Ext w (Env.just E.F) W' (Env.just E.F):=⟨hk.size,fun p hp=>⟨hp,World.cell?_of_block (hk.block _ (lt_of_cell (r.frz p hp).2) (hown p hp))⟩,fun _ h=>h,fun _ _ h _=>h,fun _ h=>h⟩
    have hsat:∀ b:Bool,Sat (Ctx.top W' E.F) ⟨n,(d,.v (.imm (.bool b)))::tm',[],0⟩ (a.put (some d) (.bool b)) W':=fun b=>by
      refine ⟨Env.just E.F,Ext.refl _ _,⟨rfl,rfl,rfl,Nat.le_refl _,fun _ _ _=>rfl,hfr'.frz,fun a ha=>.inl ha,fun _ _=>trivial,hfr'.lib,(fun b hb=>hb.elim),(fun id o ho=>by cases ho),(fun id id' o o' l l' b ho=>by cases ho)⟩,fun g hg=>hg.elim,by simp [Act.put,hsz],hdf,fun t' x hx=>?_⟩
      rw [tget_cons] at hx
      split at hx
      · rename_i e;subst e;injection hx with hx;subst hx
        rw [getD_put_same (by rw [hsz];exact hlt)]
        exact .imm _
      · rename_i e
        obtain ⟨y,z,rfl,h1,h2⟩:=htm t' x hx
        rw [getD_put_ne e]
        exact (h2.sound (shared_nil w E) (ht t' _ h1)).ext eK
    rcases he with ⟨rfl,O',hj,ho⟩ | ⟨rfl,hj⟩
    · refine hyes O' W' E.F ⟨hj,hfr',fun p hp hO=>?_⟩ _ W' (hsat true)
      rcases ho _ hO with h1 | h1
      · exact hown p hp h1
      · have:=lt_of_cell (r.frz p hp).2;omega
    · exact hno W' E.F hfr' hj _ W' (hsat false)
theorem hw_loopI {α:Type} {body:Code} {W:World} {F:Addr→Prop} {O:Nat→Prop} {tm0:List (Nat×TV)} {hp0:List (Nat×HObj)} {c0:Nat} (st:α→List (Nat×TV)) (I:α→Prop) (idx:α→Nat) (m:α→Nat) (x0:α) (h0:I x0) (hg0:GoodW P X (idx x0) O W F) (hs0:HSub (Ctx.top W F) ⟨n,tm0,hp0,c0⟩ ⟨n,st x0,[],c0⟩)
  (round:∀ x O W F c,I x→GoodW P X (idx x) O W F→∀ N:Act→World→Prop,(∀ y O' W' F' c' s',I y→m y < m x→GoodW P X (idx y) O' W' F'→HSub (Ctx.top W' F') s' ⟨n,st y,[],c'⟩→HQ (Ctx.top W' F') (Exit.then N Q) .normal s')→HWp (Ctx.top W F) P body ⟨n,st x,[],c⟩ (Exit.then N Q)) :
  HWp (Ctx.top W F) P (.loop body) ⟨n,tm0,hp0,c0⟩ Q:=by
 intro a w hs
 refine wpR_loop_ghost (fun k a w=>∃ x O W F c,m x=k∧I x∧GoodW P X (idx x) O W F∧Sat (Ctx.top W F) ⟨n,st x,[],c⟩ a w) (m x0) ⟨x0,O,W,F,c0,rfl,h0,hg0,hs0 a w hs⟩ ?_
 rintro k a w ⟨x,O,W,F,c,rfl,hx,hg,hs⟩
 exact round x O W F c hx hg (fun a' w'=>∃ j,j < m x∧∃ y O W F c,m y=j∧I y∧GoodW P X (idx y) O W F∧Sat (Ctx.top W F) ⟨n,st y,[],c⟩ a' w') (fun y O' W' F' c' s' hy hlt hg' hsub a w hs=>⟨m y,hlt,y,O',W',F',c',rfl,hy,hg',hsub a w hs⟩) a w hs
end
end Go.Proofs.Ytkcfhciffdnmmaa
namespace Go.Proofs.Ytkcfhciffdnmmaa
set_option linter.unusedSimpArgs false
set_option linter.unusedVariables false
structure Rg where
 at_:Int
 old:Int
 new:Int
deriving DecidableEq
instance:Inhabited Rg:=⟨⟨0,0,0⟩⟩
def inB (n:Int):Bool:=decide (0≤n)&&decide (n≤1073741824)
theorem inB_iff {n:Int}:inB n=true↔0≤n∧n≤1073741824:=by unfold inB;simp
def rgOk (e:Int):List Rg→Bool
 | []=>true
 | r::l=>inB r.at_&&inB r.old&&inB r.new&&decide (e < r.at_)&&rgOk (r.at_+r.old) l
def rightM (m:List Rg):Bool:=decide (m.length≤1000)&&rgOk (-1) m
def endAt (m:List Rg) (i:Nat):Int:=if i=0 then -1 else (m.getD (i - 1) default).at_+(m.getD (i - 1) default).old
theorem endAt_succ (m:List Rg) (i:Nat):endAt m (i+1)=(m.getD i default).at_+(m.getD i default).old:=rfl
theorem endAt_pos (m:List Rg) {i:Nat} (h:0 < i):endAt m i=(m.getD (i - 1) default).at_+(m.getD (i - 1) default).old:=by
 unfold endAt;rw [if_neg (by omega)]
theorem endAt_zero (m:List Rg):endAt m 0=-1:=rfl
def shiftTo (m:List Rg):Nat→Int
 | 0=>0
 | i+1=>shiftTo m i+((m.getD i default).new - (m.getD i default).old)
theorem drop_rg {m:List Rg} {i:Nat} (h:i < m.length):m.drop i=m.getD i default::m.drop (i+1):=by
 rw [List.drop_eq_getElem_cons h,List.getD_eq_getElem?_getD,List.getElem?_eq_getElem h];rfl
theorem rgOk_step {m:List Rg} {i:Nat} (h:i < m.length):rgOk (endAt m i) (m.drop i)=(inB (m.getD i default).at_&&inB (m.getD i default).old&&inB (m.getD i default).new&&decide (endAt m i < (m.getD i default).at_)&&rgOk (endAt m (i+1)) (m.drop (i+1))):=by
 rw [drop_rg h,rgOk]
 rfl
theorem rgOk_all {m:List Rg} (h:rgOk (-1) m=true):∀ i,i≤m.length→rgOk (endAt m i) (m.drop i)=true
  | 0,_=>h
  | i + 1, hi => by
    have:=rgOk_all h i (by omega)
    rw [rgOk_step (by omega)] at this
    simp only [Bool.and_eq_true] at this
    exact this.2
theorem rg_at {m:List Rg} (h:rgOk (-1) m=true) {i:Nat} (hi:i < m.length):(0≤(m.getD i default).at_∧(m.getD i default).at_≤1073741824)∧(0≤(m.getD i default).old∧(m.getD i default).old≤1073741824)∧(0≤(m.getD i default).new∧(m.getD i default).new≤1073741824)∧endAt m i < (m.getD i default).at_:=by
 have:=rgOk_all h i (by omega)
 rw [rgOk_step hi] at this
 simp only [Bool.and_eq_true,inB_iff,decide_eq_true_eq] at this
 exact ⟨this.1.1.1.1,this.1.1.1.2,this.1.1.2,this.1.2⟩
theorem rightM_iff {m:List Rg}:rightM m=true↔m.length≤1000∧rgOk (-1) m=true:=by unfold rightM;simp
theorem shift_bd {m:List Rg} (h:rgOk (-1) m=true):∀ i,i≤m.length→-(1073741824 * i)≤shiftTo m i∧shiftTo m i≤1073741824 * i
  | 0,_=>by unfold shiftTo;omega
  | i + 1, hi => by
    have ih:=shift_bd h i (by omega)
    have:=rg_at h (i:=i) (by omega)
    unfold shiftTo
    omega
structure Plc where
 pos:Int
 gone:Bool
 ins:Bool
 rng:Int
 off:Int
def withinV (r:Rg) (i sh pos side:Int):Plc :=
 let right:=if r.old > 0∧(pos=r.at_∨pos=r.at_+r.old) then decide (pos=r.at_+r.old) else decide (side≥0)
 let gone:=if side < 0 then decide (pos > r.at_) else decide (pos < r.at_+r.old)
 ⟨r.at_+sh+(if right=true then r.new else 0),gone,decide (pos > r.at_)&&decide (pos < r.at_+r.old),if gone=true then i else 0,if gone=true then pos - r.at_ else 0⟩
def tellI (m:List Rg) (pos side:Int) (i:Nat):Plc :=
 if i=m.length∨pos < (m.getD i default).at_ then ⟨pos+shiftTo m i,false,false,0,0⟩ else withinV (m.getD i default) i (shiftTo m i) pos side
def firstI (m:List Rg) (pos:Int):Nat→Nat→Nat
 | 0,i=>i
 | n+1,i=>if i < m.length∧(m.getD i default).at_+(m.getD i default).old < pos then firstI m pos n (i+1) else i
def firstV (m:List Rg) (pos:Int):Nat:=firstI m pos m.length 0
def tellV (m:List Rg) (pos side:Int):Plc:=tellI m pos side (firstV m pos)
theorem firstI_at (m:List Rg) (pos:Int):∀ n i k,i≤k→k≤n+i→k≤m.length→(∀ q,i≤q→q < k→(m.getD q default).at_+(m.getD q default).old < pos)→(k=m.length∨¬ (m.getD k default).at_+(m.getD k default).old < pos)→firstI m pos n i=k
  | 0,i,k,h1,h2,h3,h4,h5=>by unfold firstI;omega
  | n + 1, i, k, h1, h2, h3, h4, h5 => by
    unfold firstI
    by_cases e:i=k
    · subst e
      rw [if_neg]
      rintro ⟨a,b⟩
      rcases h5 with h5 | h5
      · omega
      · exact h5 b
    · rw [if_pos ⟨by omega,h4 i (Nat.le_refl _) (by omega)⟩]
      exact firstI_at m pos n (i+1) k (by omega) (by omega) h3 (fun q a b=>h4 q (by omega) b) h5
theorem firstV_at {m:List Rg} {pos:Int} {k:Nat} (h3:k≤m.length) (h4:∀ q,q < k→(m.getD q default).at_+(m.getD q default).old < pos) (h5:k=m.length∨¬ (m.getD k default).at_+(m.getD k default).old < pos):firstV m pos=k :=
 firstI_at m pos m.length 0 k (Nat.zero_le _) (by omega) h3 (fun q _ b=>h4 q b) h5
def recV (m:List Rg) (a off:Int):Option Int:=if rightM m=true∧0≤a∧a < m.length∧0≤off∧off≤(m.getD a.toNat default).new then some ((m.getD a.toNat default).at_+shiftTo m a.toNat+off) else none
def withinD (r:Rg) (i sh pos side:Int):Plc :=
 let tok:=if side < 0 then pos - 1 else pos
 let gone:=decide (r.at_≤tok)&&decide (tok < r.at_+r.old)
 ⟨r.at_+sh+(if (0 < r.old∧pos=r.at_+r.old)∨(pos≠r.at_∧side≥0)∨(r.old=0∧side≥0) then r.new else 0),gone,decide (pos > r.at_)&&decide (pos < r.at_+r.old),if gone=true then i else 0,if gone=true then pos - r.at_ else 0⟩
theorem within_eq (r:Rg) (i sh pos side:Int) (h0:0≤r.old) (h1:r.at_≤pos) (h2:pos≤r.at_+r.old):withinD r i sh pos side=withinV r i sh pos side:=by
 unfold withinD withinV
 have e1:((if r.old > 0∧(pos=r.at_∨pos=r.at_+r.old) then decide (pos=r.at_+r.old) else decide (side≥0))=true)↔((0 < r.old∧pos=r.at_+r.old)∨(pos≠r.at_∧side≥0)∨(r.old=0∧side≥0)):=by
  by_cases h:r.old > 0∧(pos=r.at_∨pos=r.at_+r.old)
  ·rw [if_pos h];simp only [decide_eq_true_eq];omega
  ·rw [if_neg h];simp only [decide_eq_true_eq];omega
 have e2:(decide (r.at_≤(if side < 0 then pos - 1 else pos))&&decide ((if side < 0 then pos - 1 else pos) < r.at_+r.old))=(if side < 0 then decide (pos > r.at_) else decide (pos < r.at_+r.old)):=by
  by_cases h:side < 0
  ·simp only [if_pos h];rw [Bool.eq_iff_iff];simp;omega
  ·simp only [if_neg h];rw [Bool.eq_iff_iff];simp;omega
 simp only [e1,e2]
end Go.Proofs.Ytkcfhciffdnmmaa
