/-
  Words for memory: a slice that reads as a list of encoded elements, a block that is known whole, an append onto a row of the call's own. Plain lemmas, no program in sight.
-/
import Derived.WalkKit
import Derived.WalkSpells
import Derived.WalkLawsBesides
import Derived.Below
import Derived.Laws.OwnMore
import Derived.Laws.Rows
import Derived.Maps.AppendAt
import Derived.Deep.AppendLies
import Derived.Deep.Draws
import Derived.RegionTactic
import Derived.OwnWalk
import Derived.Deep.QuietTactic
import Derived.BigQuiet
import Derived.Deep.LoopGhost
import Derived.Lib.Hide
import Derived.Deep.RegionHeld3
import Derived.Laws.Tables
import Derived.Deep.WholeRow
import Derived.Deep.CutBlock
import Derived.Deep.DeepCutAuto
import Derived.DataShut
import Derived.Deep.MidRow
import Derived.Test.YtkeakpcieokhhaaGreatDoorChecked
import Derived.Lib.LaidTab
import Derived.Lib.ItoaNum
import Derived.Lib.TrailingZeros
import Derived.RangeFuncNested
import Derived.RangeFuncBound
import Derived.LoopNIn
import Derived.OrdersIn
import Derived.Great.BuildSlice
import Derived.LoopN
set_option linter.unusedSimpArgs false
set_option linter.unusedVariables false
namespace Go.Proofs.YtkeakpcieokhhaaGreatDoor
section
open Go.RowKit
theorem a3g (a:Addr) (n:Nat):(a.add n).block=a.block:=by unfold Addr.add;split <;> rfl
theorem a6k (a:Addr) (i j:Nat):(a.add i).add j=a.add (i+j):=by
 unfold Addr.add
 by_cases hi:i=0 <;> by_cases hj:j=0 <;> simp [hi,hj,Nat.add_assoc]
theorem a6e {a b:Bool} (h:a=b):Ending.returned (.bool a)=Ending.returned (.bool b):=by rw [h]
def rd (w:World) (a:Addr) (n:Nat):Option (List Value):=w.cells? 0 a n
theorem a8y {w:World} {a:Addr} {n:Nat} {cs:List Value} (hn:cs.length=n) (h:∀ i,i < n→w.cell? (a.add i)=cs[i]?):rd w a n=some cs :=
 World.cells?_of_each (Nat.zero_le _) hn h
theorem c1j {w:World} {a:Addr} {n:Nat} {cs:List Value} (h:rd w a n=some cs):cs.length=n∧∀ i,i < n→w.cell? (a.add i)=cs[i]? :=
 let ⟨_,h2,h3⟩:=World.cells?_some h
 ⟨h2,h3⟩
theorem a8w {w w':World} {a:Addr} (h:w'.heap[a.block]?=w.heap[a.block]?) (n:Nat):rd w' a n=rd w a n:=by
 unfold rd World.cells?
 have:(fun i=>w'.cell? (a.add i))=fun i=>w.cell? (a.add i):=funext fun i=>World.cell?_of_block (by rw [a3g];exact h)
 rw [this]
theorem a7U (w:World) (a:Addr) (n:Nat):rd w.drew a n=rd w a n:=a8w rfl n
theorem a6f (w:World) (k:Nat) (a:Addr) (n:Nat):rd (w.drewN k) a n=rd w a n:=a8w rfl n
theorem a7w (w:World) (o:Obj) (a:Addr) (n:Nat) (h:a.block < w.heap.size):rd (w.alloc o) a n=rd w a n:=a8w (Below.heap_alloc w o _ h) n
theorem c3N {B:Nat} {w w':World} (h:Below B w w') (a:Addr) (n:Nat) (hb:a.block < B):rd w' a n=rd w a n:=a8w (h.block _ hb) n
theorem a7l {P:Program} (T:TypeId) (hagg:∀ w,(isAgg T).run P w=.ok true w) (sz:Nat) (hsz:∀ w,(sizeOf T).run P w=.ok sz w) (w:World) (a:Addr) (h:(rd w a sz).isSome=true) :
    (Instr.loadAt T (.pointer (some a))).run P w=.ok (.agg ((rd w a sz).getD []).toArray) w:=by
  cases hr:rd w a sz with
  | none=>simp [hr] at h
  | some cs =>
    obtain ⟨hl,hc⟩:=c1j hr
    have:=run_loadCells_list (P:=P) w a cs (fun j v hv=>by
      have hj:j < cs.length:=by
        rcases Nat.lt_or_ge j cs.length with h | h
        · exact h
        · rw [List.getElem?_eq_none h] at hv;cases hv
      rw [hc j (by omega),hv])
    rw [hl] at this
    simp only [Instr.loadAt,Instr.sureAddr,loadVar,Sem.run_bind,Sem.run_pure,Result.andThen,hagg,hsz,if_true,this,Option.getD_some]
def b8b (P:Program) (T:TypeId) (w:World) (a:Addr):Option (List Value)→Result Next
 | some cs=>.ok (.value (.agg cs.toArray)) w
 | none=>(execOp (fun _=>.pointer (some a)) ⟨none,.load T (.const undef),0, "", #[],none⟩).run P w
def b0B (P:Program) (T:TypeId) (sz:Nat) (w:World):Value→Result Next
 | .pointer (some a)=>b8b P T w a (rd w a sz)
 | v=>(execOp (fun _=>v) ⟨none,.load T (.const undef),0, "", #[],none⟩).run P w
theorem a2Y (P:Program) (T:TypeId) (sz:Nat) (w:World) (a:Addr):b0B P T sz w (.pointer (some a))=b8b P T w a (rd w a sz):=rfl
theorem a2R (P:Program) (T:TypeId) (w:World) (a:Addr) (cs:List Value):b8b P T w a (some cs)=.ok (.value (.agg cs.toArray)) w:=rfl
theorem a8I {P:Program} (T:TypeId) (hagg:∀ w,(isAgg T).run P w=.ok true w) (sz:Nat) (hsz:∀ w,(sizeOf T).run P w=.ok sz w) (w:World) (ρ:Operand→Value) (x:Operand)
  (d:Option Tmp) (ty:TypeId) (pos:String) (af:Array _) (g:Option _):(execOp ρ ⟨d,.load T x,ty,pos,af,g⟩).run P w=b0B P T sz w (ρ x):=by
 unfold b0B
 split
 ·rename_i a ha
  unfold b8b
  split
  ·rename_i cs hr
   have:=a7l T hagg sz hsz w a (by rw [hr];rfl)
   rw [hr] at this
   simp only [execOp,ha,Sem.run_bind,this,Result.andThen_ok]
   rfl
  ·simp only [execOp,ha]
 ·simp only [execOp]
def a1n (w:World) (B size:Nat) (A:Option Addr) (n:Nat) (xs:List Value):Prop :=
 xs.length=n * size∧(0 < n→∃ ad,A=some ad∧ad.block < B∧∀ j u,xs[j]?=some u→w.cell? (ad.add j)=some u)
section
variable {w w':World} {B B' size n:Nat} {A:Option Addr} {xs:List Value}
theorem a1n.none_:a1n w B size A 0 []:=⟨by simp,fun h=>absurd h (by omega)⟩
theorem a1n.at_ {k:Nat} (h:a1n w B 1 A n xs) (hk:k < n):∃ ad u,A=some ad∧ad.block < B∧xs[k]?=some u∧w.cell? (ad.add k)=some u:=by
 obtain ⟨ad,e,hb,hc⟩:=h.2 (by omega)
 have hl:k < xs.length:=by have:=h.1;omega
 exact ⟨ad,xs[k],e,hb,List.getElem?_eq_getElem hl,hc k _ (List.getElem?_eq_getElem hl)⟩
theorem a1n.keep (h:a1n w B size A n xs) (hk:∀ p:Addr,p.block < B→w'.cell? p=w.cell? p):a1n w' B size A n xs :=
 ⟨h.1,fun hn=>by
  obtain ⟨ad,e,hb,hc⟩:=h.2 hn
  exact ⟨ad,e,hb,fun j u hu=>(hk _ (by rw [a3g];exact hb)).trans (hc j u hu)⟩⟩
theorem a1n.more (h:a1n w B size A n xs) (hB:B≤B'):a1n w B' size A n xs :=
 ⟨h.1,fun hn=>by
  obtain ⟨ad,e,hb,hc⟩:=h.2 hn
  exact ⟨ad,e,by omega,hc⟩⟩
theorem a1n.below (h:a1n w B size A n xs) (hb:Below B w w'):a1n w' B size A n xs:=h.keep fun _ hp=>hb.cell hp
theorem a1n.drew (h:a1n w B size A n xs):a1n w.drew B size A n xs:=h
theorem a1n.drewN (h:a1n w B size A n xs) (k:Nat):a1n (w.drewN k) B size A n xs:=h
theorem a1n.alloc (h:a1n w B size A n xs) (hB:B≤w.heap.size) (o:Obj):a1n (w.alloc o) B size A n xs:=h.keep fun p hp=>World.cell?_alloc_lt w o p (by omega)
theorem a1n.setCell (h:a1n w B size A n xs) {p:Addr} (hB:B≤p.block) (u:Value):a1n (w.setCell p u) B size A n xs :=
 h.keep fun q hq=>World.cell?_setCell_other w p q u (fun e=>by subst e;omega)
theorem a1n.grown (h:a1n w B size A n xs) {row:Option Nat} (hg:w.grownBy w' row) (hB:B≤w.heap.size) (hr:∀ g,row=some g→B≤g):a1n w' B size A n xs :=
 h.keep fun p hp=>World.cell?_of_block (hg.block p.block (by omega) (fun e=>by have:=hr _ e.symm;omega))
theorem a1n.cut (h:a1n w B size A n xs) {k cap:Nat} (hk:k≤n) (hc:n≤cap) :
  a1n w B size (if cap=k then A else A.map (·.add (k * size))) (n - k) (xs.drop (k * size)):=by
 refine ⟨by rw [List.length_drop,h.1,Nat.sub_mul],fun hn=>?_⟩
 obtain ⟨ad,rfl,hb,hcell⟩:=h.2 (by omega)
 rw [if_neg (by omega)]
 refine ⟨ad.add (k * size),rfl,by rw [a3g];exact hb,fun j u hu=>?_⟩
 rw [a6k]
 exact hcell _ u (by rw [←hu,List.getElem?_drop])
theorem a1n.of_own {base:Nat} {e:TypeId} {c:Nat} (h:w.ownsRow base e size (.slice A n c) n xs):a1n w w.heap.size size A n xs:=by
 refine ⟨h.1,fun hn=>?_⟩
 obtain ⟨g,cap,hv,_,hlt⟩:=h.form hn
 have hA:A=some ⟨g,0,none⟩:=by injection hv
 subst hA
 exact ⟨_,rfl,hlt,h.cells (g:=g) rfl⟩
theorem a1n.addr (h:a1n w B size A n xs) (hn:0 < n) (hs:0 < size):∃ b off,A=some ⟨b,off,none⟩∧b < B:=by
 obtain ⟨ad,rfl,hb,hc⟩:=h.2 hn
 have hl:0 < xs.length:=by rw [h.1];exact Nat.mul_pos hn hs
 have h0:=hc 0 _ (List.getElem?_eq_getElem hl)
 obtain ⟨b,off,spot⟩:=ad
 have hspot:spot=none:=by simpa [Addr.add] using World.cell?_spot h0
 subst hspot
 exact ⟨b,off,rfl,hb⟩
end
def Sl {α:Type} (w:World) (B size:Nat) (enc:α→List Value) (A:Option Addr) (l:List α):Prop:=(∀ x,(enc x).length=size)∧a1n w B size A l.length (l.flatMap enc)
theorem a1P {α:Type} {enc:α→List Value} {size:Nat} (he:∀ x,(enc x).length=size):∀ (l:List α) (k j:Nat) (hk:k < l.length),j < size→(l.flatMap enc)[k * size+j]?=(enc l[k])[j]?
  | x :: l, 0, j, _, hj => by
    simp only [List.flatMap_cons,Nat.zero_mul,Nat.zero_add,List.getElem_cons_zero]
    rw [List.getElem?_append_left (by rw [he];exact hj)]
  | x :: l, k + 1, j, hk, hj => by
    simp only [List.flatMap_cons,List.getElem_cons_succ]
    rw [List.getElem?_append_right (by rw [he,Nat.add_mul];omega),he,show (k+1) * size+j - size=k * size+j from by rw [Nat.add_mul];omega]
    exact a1P he l k j (by simpa using hk) hj
section
variable {α:Type} {w w':World} {B B' size:Nat} {enc:α→List Value} {A:Option Addr} {l:List α}
theorem Sl.addr (h:Sl w B size enc A l) (hn:0 < l.length) (hs:0 < size):∃ b off,A=some ⟨b,off,none⟩∧b < B:=h.2.addr hn hs
theorem Sl.rd_ {b off k:Nat} (h:Sl w B size enc (some ⟨b,off,none⟩) l) (hk:k < l.length):rd w ⟨b,off+k * size,none⟩ size=some (enc l[k]):=by
 obtain ⟨ad,e,hb,hc⟩:=h.2.2 (by omega)
 injection e with e
 subst e
 refine a8y (h.1 _) (fun i hi=>?_)
 have hv:(enc l[k])[i]?=some ((enc l[k])[i]'(by rw [h.1];exact hi)):=List.getElem?_eq_getElem _
 have:=hc (k * size+i) _ ((a1P h.1 l k i hk hi).trans hv)
 rw [hv,←this,show (⟨b,off+k * size,none⟩:Addr)=(⟨b,off,none⟩:Addr).add (k * size) from by unfold Addr.add;split <;> simp_all,a6k]
theorem Sl.keep (h:Sl w B size enc A l) (hk:∀ p:Addr,p.block < B→w'.cell? p=w.cell? p):Sl w' B size enc A l:=⟨h.1,h.2.keep hk⟩
theorem Sl.more (h:Sl w B size enc A l) (hB:B≤B'):Sl w B' size enc A l:=⟨h.1,h.2.more hB⟩
theorem Sl.below (h:Sl w B size enc A l) (hb:Below B w w'):Sl w' B size enc A l:=⟨h.1,h.2.below hb⟩
theorem Sl.drew (h:Sl w B size enc A l):Sl w.drew B size enc A l:=h
theorem Sl.drewN (h:Sl w B size enc A l) (k:Nat):Sl (w.drewN k) B size enc A l:=h
theorem Sl.alloc (h:Sl w B size enc A l) (hB:B≤w.heap.size) (o:Obj):Sl (w.alloc o) B size enc A l:=⟨h.1,h.2.alloc hB o⟩
theorem Sl.setCell (h:Sl w B size enc A l) {p:Addr} (hB:B≤p.block) (u:Value):Sl (w.setCell p u) B size enc A l:=⟨h.1,h.2.setCell hB u⟩
theorem Sl.grown (h:Sl w B size enc A l) {row:Option Nat} (hg:w.grownBy w' row) (hB:B≤w.heap.size) (hr:∀ g,row=some g→B≤g):Sl w' B size enc A l:=⟨h.1,h.2.grown hg hB hr⟩
end
def Blk (w:World) (g:Nat) (t:TypeId) (cs:Array Value):Prop:=w.heap[g]?=some (.cells cs t (0,0))
section
variable {w w':World} {g:Nat} {t:TypeId} {cs:Array Value}
theorem Blk.lt (h:Blk w g t cs):g < w.heap.size:=by
 rcases Nat.lt_or_ge g w.heap.size with hlt | hge
 ·exact hlt
 ·unfold Blk at h;rw [Array.getElem?_eq_none hge] at h;cases h
theorem Blk.cell (h:Blk w g t cs) (i:Nat):w.cell? ⟨g,i,none⟩=cs[i]?:=cell_of_row w g i cs t (0,0) h
theorem Blk.frozen (h:Blk w g t cs) (i:Nat):w.frozen? ⟨g,i,none⟩=false:=by
 unfold Blk at h
 simp [World.frozen?,h]
theorem Blk.new (w:World) (t:TypeId) (cs:Array Value):Blk (w.alloc (.cells cs t)) w.heap.size t cs:=heap_alloc_new w _
theorem Blk.drew (h:Blk w g t cs):Blk w.drew g t cs:=h
theorem Blk.drewN (h:Blk w g t cs) (n:Nat):Blk (w.drewN n) g t cs:=h
theorem Blk.alloc (h:Blk w g t cs) (o:Obj):Blk (w.alloc o) g t cs:=(Below.heap_alloc w o g h.lt).trans h
theorem Blk.set_ (h:Blk w g t cs) (i:Nat) (u:Value):Blk (w.setCell ⟨g,i,none⟩ u) g t (cs.setIfInBounds i u):=by
 unfold Blk at h ⊢
 simp [World.setCell,Array.getElem?_modify,h]
theorem Blk.far (h:Blk w g t cs) {p:Addr} (hp:g≠p.block) (u:Value):Blk (w.setCell p u) g t cs:=(Below.heap_setCell w p u g hp).trans h
theorem Blk.below {B:Nat} (h:Blk w g t cs) (hb:Below B w w') (hg:g < B):Blk w' g t cs:=(hb.block g hg).trans h
theorem Blk.grown {row:Option Nat} (h:Blk w g t cs) (hb:w.grownBy w' row) (hg:some g≠row):Blk w' g t cs:=(hb.block g h.lt hg).trans h
end
section
variable {P:Program} (w:World)
theorem a4R (base:Nat) (t ty e:TypeId) (i:TypeInfo) (size:Nat) (ht:P.underlying t=some (.slice e)) (hi:P.info? e=some i)
  (v:Value) (n:Nat) (xs:List Value) (hown:w.ownsRow base e size v n xs) (c:Nat):(Builtin.append_ #[t,t] ty #[v,.slice none 0 c]).run P w=.ok v w:=by
 rcases hown.2 with ⟨rfl,rfl⟩ | ⟨g,cap,cur,rfl,_,_,hnc,_⟩
 ·simp [Builtin.append_,run_underlying ht,sizeOf,typeInfo,hi,Builtin.lenOf,Builtin.firstCells]
 ·simp [Builtin.append_,run_underlying ht,sizeOf,typeInfo,hi,Builtin.lenOf,Builtin.firstCells,hnc,storeCells]
theorem a6y (base:Nat) (t ty e:TypeId) (i:TypeInfo) (z:Value) (size bytes:Nat) (ht:P.underlying t=some (.slice e)) (hi:P.info? e=some i) (hz:i.zero=some z)
    (hsize:i.size=size) (hby:i.bytes=bytes) (hzs:z.cells.size=size) (hsz:0 < size)
    (v:Value) (n:Nat) (xs:List Value) (hown:w.ownsRow base e size v n xs)
    (B:Nat) (A:Option Addr) (m c:Nat) (news:List Value) (hr:a1n w B size A m news) (h1:∀ u∈news,u.oneCell'=true)
    (h63:n+m≤maxLen) (hbytes:(n+m) * bytes≤140737488355328) (hbase:base≤w.heap.size) :
    ∃ v' w', (Builtin.append_ #[t, t] ty #[v, .slice A m c]).run P w = .ok v' w' ∧ w'.ownsRow base e size v' (n + m) (xs ++ news) ∧ w.grownBy w' v.ownBlock ∧
      (v'.ownBlock=v.ownBlock∨v'.ownBlock=some w.heap.size):=by
  rcases A with _ | ad
  · have hm:m=0:=by
      rcases Nat.eq_zero_or_pos m with h0 | h0
      · exact h0
      · obtain ⟨ad,h,_⟩:=hr.2 h0
        cases h
    subst hm
    have hn:news=[]:=List.eq_nil_of_length_eq_zero (by simpa using hr.1)
    subst hn
    exact ⟨v,w,a4R w base t ty e i size ht hi v n xs hown c,by simpa using hown,World.grownBy.refl w _,.inl rfl⟩
  · have hcells:∀ j u,news[j]?=some u→w.cell? (ad.add j)=some u:=by
      intro j u hu
      rcases Nat.eq_zero_or_pos m with h0 | h0
      · subst h0
        have hn:news=[]:=List.eq_nil_of_length_eq_zero (by simpa using hr.1)
        subst hn
        simp at hu
      · obtain ⟨ad',h,_,hc⟩:=hr.2 h0
        injection h with h
        subst h
        exact hc j u hu
    obtain ⟨v',w',hrun,h2,h3,_,h5⟩:=run_append_own_at (P:=P) w base t ty e i z size bytes ht hi hz hsize hby hzs hsz v n xs hown ad m c news hr.1 hcells h1 h63 hbytes hbase
    exact ⟨v',w',hrun,h2,h3,h5⟩
theorem b1H {o:Oper} {a:Act} {K:Act→World→Prop} {Q:Exit→Act→World→Prop} (s x:Operand) (t:TypeId)
  (ho:o.op=.call { callee:=.builtin .append,args:=#[s,x],argTypes:=#[t,t] })
  (base:Nat) (e:TypeId) (i:TypeInfo) (z:Value) (size bytes:Nat) (ht:P.underlying t=some (.slice e)) (hi:P.info? e=some i) (hz:i.zero=some z)
  (hsize:i.size=size) (hby:i.bytes=bytes) (hzs:z.cells.size=size) (hsz:0 < size)
  (v:Value) (n:Nat) (xs:List Value) (hs:a.eval s=v) (hown:w.ownsRow base e size v n xs)
  (B:Nat) (A:Option Addr) (m c:Nat) (news:List Value) (hx:a.eval x=.slice A m c) (hr:a1n w B size A m news) (h1:∀ u∈news,u.oneCell'=true)
  (h63:n+m≤maxLen) (hbytes:(n+m) * bytes≤140737488355328) (hbase:base≤w.heap.size)
  (h:∀ v' w',w'.ownsRow base e size v' (n+m) (xs++news)→w.grownBy w' v.ownBlock→(v'.ownBlock=v.ownBlock∨v'.ownBlock=some w.heap.size)→K (a.put o.dst v') w'):o.wp P a w K Q:=by
 obtain ⟨v',w',hrun,h2,h3,h4⟩:=a6y (P:=P) w base t o.type e i z size bytes ht hi hz hsize hby hzs hsz v n xs hown B A m c news hr h1 h63 hbytes hbase
 unfold Oper.wp execOp
 simp only [ho,resolve,invoke,builtin,Sem.run_bind,Sem.run_pure,Result.andThen_ok,List.map_toArray,List.map_cons,List.map_nil,hs,hx,hrun]
 exact h v' w' h2 h3 h4
theorem a8s {ops:Array Oper} {rest:List Oper} {o:Oper} {a:Act} {Q:Exit→Act→World→Prop} (hgd:o.guard=none) (s x:Operand) (t:TypeId)
  (ho:o.op=.call { callee:=.builtin .append,args:=#[s,x],argTypes:=#[t,t] })
  (base:Nat) (e:TypeId) (i:TypeInfo) (z:Value) (size bytes:Nat) (ht:P.underlying t=some (.slice e)) (hi:P.info? e=some i) (hz:i.zero=some z)
  (hsize:i.size=size) (hby:i.bytes=bytes) (hzs:z.cells.size=size) (hsz:0 < size)
  (v:Value) (n:Nat) (xs:List Value) (hs:a.eval s=v) (hown:w.ownsRow base e size v n xs)
  (B:Nat) (A:Option Addr) (m c:Nat) (news:List Value) (hx:a.eval x=.slice A m c) (hr:a1n w B size A m news) (h1:∀ u∈news,u.oneCell'=true)
  (h63:n+m≤maxLen) (hbytes:(n+m) * bytes≤140737488355328) (hbase:base≤w.heap.size)
  (h:∀ v' w',w'.ownsRow base e size v' (n+m) (xs++news)→w.grownBy w' v.ownBlock→(v'.ownBlock=v.ownBlock∨v'.ownBlock=some w.heap.size)→wpList P ops Q rest (a.put o.dst v') w'):wpList P ops Q (o::rest) a w :=
 wpList_plain hgd fun _ hK=>b1H w s x t ho base e i z size bytes ht hi hz hsize hby hzs hsz v n xs hs hown B A m c news hx hr h1 h63 hbytes hbase fun v' w' h2 h3 h4=>hK _ _ (h v' w' h2 h3 h4)
end
theorem a1n.new {w:World} (cs:Array Value) (e:TypeId) (size n:Nat) (h:cs.size=n * size):a1n (w.alloc (.cells cs e)) (w.heap.size+1) size (some ⟨w.heap.size,0,none⟩) n cs.toList:=by
 refine ⟨by simpa using h,fun _=>⟨_,rfl,by simp,fun j u hu=>?_⟩⟩
 rw [show (⟨w.heap.size,0,none⟩:Addr).add j=⟨w.heap.size,j,none⟩ from by unfold Addr.add;split <;> simp_all]
 rw [(Blk.new w e cs).cell j]
 simpa using hu
def Own {α:Type} (w:World) (base:Nat) (e:TypeId) (size:Nat) (enc:α→List Value) (v:Value) (l:List α):Prop:=(∀ x,(enc x).length=size)∧w.ownsRow base e size v l.length (l.flatMap enc)
structure Elem (P:Program) (t e:TypeId) (size bytes:Nat):Prop where
 ht:P.underlying t=some (.slice e)
 info:∃ i z,P.info? e=some i∧i.zero=some z∧i.size=size∧i.bytes=bytes∧z.cells.size=size
 pos:0 < size
 small:bytes≤1000
section
variable {α:Type} {w w':World} {base size n:Nat} {e:TypeId} {enc:α→List Value} {v:Value} {l:List α}
theorem Own.form (h:Own w base e size enc v l):∃ A c,v=.slice A l.length c∧Sl w w.heap.size size enc A l:=by
 obtain ⟨h1,h2⟩:=h
 rcases h2.2 with ⟨rfl,hn⟩ | ⟨g,cap,cur,rfl,_⟩
 ·have hl:l=[]:=List.eq_nil_of_length_eq_zero hn
  subst hl
  exact ⟨none,0,rfl,h1,a1n.none_⟩
 ·exact ⟨_,_,rfl,h1,a1n.of_own h2⟩
theorem Own.sl {A:Option Addr} {c:Nat} (h:Own w base e size enc (.slice A l.length c) l):Sl w w.heap.size size enc A l:=⟨h.1,a1n.of_own h.2⟩
theorem Own.lt (h:Own w base e size enc v l):∀ k,v.ownBlock=some k→base≤k∧k < w.heap.size:=h.2.lt
theorem Own.nil (w:World) (base:Nat) (e:TypeId) (he:∀ x:α,(enc x).length=size):Own w base e size enc (.slice none 0 0) []:=⟨he,World.ownsRow_nil _ _ _ _⟩
theorem Own.drew (h:Own w base e size enc v l):Own w.drew base e size enc v l:=h
theorem Own.drewN (h:Own w base e size enc v l) (k:Nat):Own (w.drewN k) base e size enc v l:=h
theorem Own.alloc (h:Own w base e size enc v l) (o:Obj):Own (w.alloc o) base e size enc v l:=⟨h.1,h.2.alloc o⟩
theorem Own.kept (h:Own w base e size enc v l) (hk:∀ k,v.ownBlock=some k→w'.heap[k]?=w.heap[k]?):Own w' base e size enc v l:=by
 refine ⟨h.1,h.2.1,?_⟩
 rcases h.2.2 with hn | ⟨g,cap,cur,rfl,hb,hh,hx⟩
 ·exact .inl hn
 ·exact .inr ⟨g,cap,cur,rfl,hb,(hk g rfl).trans hh,hx⟩
theorem Own.below {B:Nat} (h:Own w base e size enc v l) (hb:Below B w w') (hB:w.heap.size≤B):Own w' base e size enc v l :=
 h.kept fun k hk=>hb.block k (Nat.lt_of_lt_of_le (h.lt k hk).2 hB)
theorem Own.grown {row:Option Nat} (h:Own w base e size enc v l) (hg:w.grownBy w' row) (hr:v.ownBlock=row→row=none):Own w' base e size enc v l :=
 h.kept fun k hk=>hg.block k (h.lt k hk).2 (fun e=>by have:=hr (hk.trans e);rw [this] at e;cases e)
theorem Own.below_grown {w0:World} {B:Nat} (h:Own w base e size enc v l) (hb:Below B w0 w) (hg:w.grownBy w' v.ownBlock) (hB:B≤base) (hz:B≤w.heap.size):Below B w0 w' :=
 hb.grown hg hz (fun k hk=>Nat.le_trans hB (h.lt k hk).1)
end
section
variable {α:Type} {P:Program}
theorem a5w {w:World} {ops:Array Oper} {rest:List Oper} {o:Oper} {a:Act} {Q:Exit→Act→World→Prop} (hgd:o.guard=none) (s x:Operand) (t:TypeId)
  (ho:o.op=.call { callee:=.builtin .append,args:=#[s,x],argTypes:=#[t,t] })
  {e:TypeId} {size bytes:Nat} (E:Elem P t e size bytes) (base:Nat) (enc:α→List Value) (h1:∀ x,∀ u∈enc x,u.oneCell'=true)
  (v:Value) (l:List α) (nl:Nat) (hnl:l.length=nl) (hs:a.eval s=v) (hown:Own w base e size enc v l)
  (B:Nat) (A:Option Addr) (n c:Nat) (m:List α) (hx:a.eval x=.slice A n c) (hn:m.length=n) (hr:Sl w B size enc A m)
  (hlen:nl+n≤2000000000) (hbase:base≤w.heap.size)
  (h:∀ A' c' w',Own w' base e size enc (.slice A' (nl+n) c') (l++m)→w.grownBy w' v.ownBlock→((Value.slice A' (nl+n) c').ownBlock=v.ownBlock∨(Value.slice A' (nl+n) c').ownBlock=some w.heap.size) →
   wpList P ops Q rest (a.put o.dst (.slice A' (nl+n) c')) w'):wpList P ops Q (o::rest) a w:=by
 subst hn
 subst hnl
 obtain ⟨i,z,hi,hz,hsz,hby,hzs⟩:=E.info
 refine a8s w hgd s x t ho base e i z size bytes E.ht hi hz hsz hby hzs E.pos v l.length (l.flatMap enc) hs hown.2 B A m.length c (m.flatMap enc) hx hr.2 (fun u hu=>?_) (by unfold maxLen;omega) ?_ hbase ?_
 ·obtain ⟨y,_,hy⟩:=List.mem_flatMap.1 hu
  exact h1 y u hy
 ·have:=Nat.mul_le_mul hlen E.small
  omega
 ·intro v' w' h2 h3 h4
  have h5:Own w' base e size enc v' (l++m):=⟨hown.1,by rw [List.length_append,List.flatMap_append];exact h2⟩
  obtain ⟨A',c',hv,_⟩:=h5.form
  rw [List.length_append] at hv
  subst hv
  exact h A' c' w' h5 h3 h4
end
theorem b6L {n:Nat} {w:World} (h:n≤w.heap.size) (o:Obj):n≤(w.alloc o).heap.size:=by simp;omega
section
variable {α:Type} {P:Program}
end
def a3V {α:Type} (e:TypeId) (size:Nat) (enc:α→List Value) (w:World) (l:List α) (en:Ending) (w':World):Prop :=
 ∃ A c,en=.returned (.slice A l.length c)∧Own w' w.heap.size e size enc (.slice A l.length c) l∧Below w.heap.size w w'
theorem Sl.cell_ {α:Type} {w:World} {B size:Nat} {enc:α→List Value} {l:List α} {b off k:Nat} (h:Sl w B size enc (some ⟨b,off,none⟩) l) (hk:k < l.length) (j:Nat) (hj:j < size) :
  w.cell? ⟨b,off+k * size+j,none⟩=(enc l[k])[j]?:=by
 have:=(c1j (h.rd_ hk)).2 j hj
 rw [←this]
 congr 1
 unfold Addr.add;split <;> simp_all
theorem Sl.cell1 {α:Type} {w:World} {B:Nat} {enc:α→List Value} {l:List α} {b off k:Nat} (h:Sl w B 1 enc (some ⟨b,off,none⟩) l) (hk:k < l.length) :
  w.cell? ⟨b,off+k,none⟩=(enc l[k])[0]?:=by
 have:=h.cell_ hk 0 (by omega)
 simpa using this
theorem Sl.new {α:Type} (w:World) (enc:α→List Value) (size:Nat) (henc:∀ x,(enc x).length=size) (e:TypeId) (x:α):Sl (w.alloc (.cells (enc x).toArray e)) (w.heap.size+1) size enc (some ⟨w.heap.size,0,none⟩) [x] :=
 ⟨henc,by
  have:=a1n.new (w:=w) (enc x).toArray e size 1 (by simp [henc])
  simpa using this⟩
theorem a3V.of {α:Type} {e:TypeId} {size:Nat} {enc:α→List Value} {w w':World} {l:List α} {en:Ending} {A:Option Addr} {n c:Nat} (hn:l.length=n) (h1:en=.returned (.slice A n c))
  (h2:Own w' w.heap.size e size enc (.slice A n c) l) (h3:Below w.heap.size w w'):a3V e size enc w l en w':=by
 subst hn;exact ⟨A,c,h1,h2,h3⟩
theorem Own.empty {α:Type} {base size:Nat} {enc:α→List Value} (w:World) (e:TypeId) (henc:∀ x,(enc x).length=size) (hb:base≤w.heap.size) :
  Own (w.alloc (.cells #[] e)) base e size enc (.slice (some ⟨w.heap.size,0,none⟩) 0 0) [] :=
 ⟨henc,World.ownsRow_made w #[] 0 hb (by unfold maxLen;omega) (by simp)⟩
def cutA (A:Option Addr) (M l sz:Nat):Option Addr:=if M=l then A else A.map (·.add (l * sz))
theorem a1y {P:Program} (w:World) (k:IntKind) (i:Int) (y:Nat) (code:BoundsCode) (h0:0≤i) (h1:i≤y):(Instr.sliceBound (.int k i) y code).run P w=.ok i.toNat w:=run_sliceBound w k i y code h0 h1
section
variable (P:Program) (T:TypeId) (sz:Nat) (w:World) (A:Option Addr) (n c:Nat) (k k' k'':IntKind) (l h m:Int)
end
theorem c1a (A:Option Addr) (c sz:Nat):cutA A c 0 sz=A:=by
 unfold cutA
 split
 ·rfl
 ·cases A <;> simp [Addr.add]
theorem Sl.cutA {α:Type} {w:World} {B size:Nat} {enc:α→List Value} {A:Option Addr} {l:List α} (h:Sl w B size enc A l) {lo hi M:Nat} (h1:lo≤hi) (h2:hi≤l.length) (h3:hi≤M) :
    Sl w B size enc (cutA A M lo size) ((l.take hi).drop lo):=by
  refine ⟨h.1,?_,fun hn=>?_⟩
  · have:∀ m:List α,(m.flatMap enc).length=m.length * size:=by
      intro m
      induction m with
      | nil=>simp
      | cons x m ih=>simp [List.flatMap_cons,ih,h.1,Nat.add_mul,Nat.add_comm]
    exact this _
  · simp only [List.length_drop,List.length_take] at hn
    obtain ⟨ad,rfl,hb,hc⟩:=h.2.2 (by omega)
    unfold Go.Proofs.YtkeakpcieokhhaaGreatDoor.cutA
    rw [if_neg (by omega)]
    refine ⟨_,rfl,by rw [a3g];exact hb,fun j u hu=>?_⟩
    rw [a6k]
    refine hc _ u ?_
    by_cases hs:size=0
    · have:∀ m:List α,m.flatMap enc=[]:=by
        intro m
        induction m with
        | nil=>rfl
        | cons x m ih =>
          have:enc x=[]:=List.eq_nil_of_length_eq_zero (by rw [h.1,hs])
          simp [List.flatMap_cons,ih,this]
      rw [this] at hu;simp at hu
    · have hj:j < ((l.take hi).drop lo).length * size:=by
        have hfl:∀ m:List α,(m.flatMap enc).length=m.length * size:=by
          intro m
          induction m with
          | nil=>simp
          | cons x m ih=>simp [List.flatMap_cons,ih,h.1,Nat.add_mul,Nat.add_comm]
        rcases Nat.lt_or_ge j (((l.take hi).drop lo).flatMap enc).length with hlt | hge
        · rw [hfl] at hlt;exact hlt
        · rw [List.getElem?_eq_none hge] at hu;cases hu
      have hjd:j / size < ((l.take hi).drop lo).length:=(Nat.div_lt_iff_lt_mul (by omega)).2 hj
      have hjm:j % size < size:=Nat.mod_lt _ (by omega)
      have e1:j=j / size * size+j % size:=by rw [Nat.mul_comm];exact (Nat.div_add_mod j size).symm
      rw [e1] at hu ⊢
      rw [a1P h.1 _ _ _ hjd hjm] at hu
      rw [show lo * size+(j / size * size+j % size)=(lo+j / size) * size+j % size from by rw [Nat.add_mul];omega]
      have hd:j / size < min hi l.length - lo:=by simpa using hjd
      rw [a1P h.1 l _ _ (by omega) hjm]
      simpa using hu
def a3T (w:World) (g:Nat):Option Nat :=
 match w.heap[g]? with
 | some (.cells cur _ (0,0))=>some cur.size
 | _=>none
def a5Q (P:Program) (T:TypeId) (w:World) (p x:Value):Result Next:=((do Instr.storeAt T p x;pure Next.skip):Sem Next).run P w
def a9e (P:Program) (T:TypeId) (sz:Nat) (w:World) (p x:Value):Result Next :=
 match p,x with
 | .pointer (some ⟨g,0,none⟩),.agg cs=>if a3T w g=some sz∧cs.size=sz∧cs.all (·.oneCell')=true then .ok .skip (w.setRow g cs) else a5Q P T w (.pointer (some ⟨g,0,none⟩)) (.agg cs)
 | p,x=>a5Q P T w p x
theorem b0Z {w:World} {g n:Nat} (h:a3T w g=some n):∃ cur t,w.heap[g]?=some (.cells cur t (0,0))∧cur.size=n:=by
 unfold a3T at h
 split at h
 ·rename_i cur t he
  injection h with h
  exact ⟨cur,t,he,h⟩
 ·cases h
theorem a5g {w:World} {g:Nat} {t:TypeId} {cs:Array Value} (h:Blk w g t cs):a3T w g=some cs.size:=by
 unfold Blk at h
 unfold a3T
 rw [h]
 rfl
theorem b2W {P:Program} (T:TypeId) (sz:Nat) (hsz:(P.info? T).map (·.size)=some sz) (w:World) (ρ:Operand→Value) (p x:Operand)
  (d:Option Tmp) (ty:TypeId) (pos:String) (af:Array _) (g:Option _):(execOp ρ ⟨d,.store T p x,ty,pos,af,g⟩).run P w=a9e P T sz w (ρ p) (ρ x):=by
 have horig:(execOp ρ ⟨d,.store T p x,ty,pos,af,g⟩).run P w=a5Q P T w (ρ p) (ρ x):=rfl
 rw [horig]
 unfold a9e
 split
 ·split
  ·rename_i g cs hq hx hc
   obtain ⟨cur,t,he,hs⟩:=b0Z hc.1
   have:=run_storeVar_row (P:=P) w g t T cur cs he (by rw [hsz,hc.2.1]) (by rw [hs,hc.2.1]) hc.2.2
   rw [hq,hx]
   unfold a5Q Instr.storeAt
   simp only [Instr.sureAddr,Sem.run_bind,Sem.run_pure,Result.andThen_ok,this]
  ·rename_i g cs hq hx _
   rw [hq,hx]
 ·rfl
theorem a3q (P:Program) (T:TypeId) (sz:Nat) (w:World) (g:Nat) (cs:Array Value):a9e P T sz w (.pointer (some ⟨g,0,none⟩)) (.agg cs) =
  if a3T w g=some sz∧cs.size=sz∧cs.all (·.oneCell')=true then .ok .skip (w.setRow g cs) else a5Q P T w (.pointer (some ⟨g,0,none⟩)) (.agg cs):=rfl
theorem c2g (w:World) (cs:Array Value) (t:TypeId):a3T (w.alloc (.cells cs t)) w.heap.size=some cs.size:=a5g (Blk.new w t cs)
theorem Blk.setRow {w:World} {g:Nat} {t:TypeId} {cs:Array Value} (h:Blk w g t cs) (cs':Array Value):Blk (w.setRow g cs') g t cs':=setRow_heap w g cs cs' t (0,0) h
theorem a1l (w:World) (g:Nat) (cs:Array Value) (k:Nat) (h:k≠g):(w.setRow g cs).heap[k]?=w.heap[k]?:=by
 simp only [World.setRow,Array.getElem?_modify]
 rw [if_neg (by omega)]
theorem a9X {B:Nat} {a w:World} (h:Below B a w) (n:Nat):Below B a (w.drewN n):=⟨h.os,h.tape,h.output,h.size,h.block⟩
theorem a2u {B:Nat} {a w:World} (h:Below B a w) {g:Nat} (hg:B≤g) (cs:Array Value):Below B a (w.setRow g cs) :=
 h.trans ⟨rfl,rfl,rfl,by simp,fun k hk=>a1l _ _ _ _ (by omega)⟩
theorem Blk.setRow_far {w:World} {g g':Nat} {t:TypeId} {cs:Array Value} (h:Blk w g t cs) (hne:g≠g') (cs':Array Value):Blk (w.setRow g' cs') g t cs:=(a1l w g' cs' g hne).trans h
theorem Own.setRow_far {α:Type} {w:World} {base size:Nat} {e:TypeId} {enc:α→List Value} {v:Value} {l:List α} (h:Own w base e size enc v l) {g:Nat} (hne:v.ownBlock≠some g) (cs:Array Value):Own (w.setRow g cs) base e size enc v l :=
 h.kept fun k hk=>a1l w g cs k (fun e=>hne (by rw [hk,e]))
theorem Blk.rd_ {w:World} {g:Nat} {t:TypeId} {cs:Array Value} (h:Blk w g t cs):rd w ⟨g,0,none⟩ cs.size=some cs.toList:=by
 refine a8y (by simp) fun i hi=>?_
 rw [show (⟨g,0,none⟩:Addr).add i=⟨g,i,none⟩ from by unfold Addr.add;split <;> simp_all,h.cell i]
 simp
theorem a6z {P:Program} (T:TypeId) (hagg:∀ w,(isAgg T).run P w=.ok true w) (sz:Nat) (hsz:∀ w,(sizeOf T).run P w=.ok sz w) (w:World) (a:Addr) (cs:List Value) (h:rd w a sz=some cs) :
  (loadVar T a).run P w=.ok (.agg cs.toArray) w:=by
 have:=a7l T hagg sz hsz w a (by rw [h];rfl)
 rw [h] at this
 simpa only [Instr.loadAt,Instr.sureAddr,Sem.run_bind,Sem.run_pure,Result.andThen_ok,Option.getD_some] using this
theorem a1K {P:Program} {fn:Func} {p:Tmp} {T:TypeId} (h:fn.results=#[.cell p T]) (hagg:∀ w,(isAgg T).run P w=.ok true w) (sz:Nat) (hsz:∀ w,(sizeOf T).run P w=.ok sz w) (tmps:Array Value) (w:World) (a:Addr) (cs:List Value)
  (hp:tmps.getD p undef=.pointer (some a)) (hr:rd w a sz=some cs):(results fn tmps).run P w=.ok (.agg cs.toArray) w:=by
 have hp':tmps[p]?.getD undef=.pointer (some a):=by simpa using hp
 simp [results,h,hp',asAddr,a6z T hagg sz hsz w a cs hr]
theorem Own.cap {α:Type} {w:World} {base size:Nat} {e:TypeId} {enc:α→List Value} {l:List α} {A:Option Addr} {n c:Nat} (h:Own w base e size enc (.slice A n c) l):n≤c∧l.length=n:=by
 rcases h.2.2 with ⟨hv,hn⟩ | ⟨g,cap,cur,hv,_,_,hc,_⟩
 ·injection hv with _ h1 h2;omega
 ·injection hv with _ h1 h2;omega
def c0R (p:Int×Int):List Value:=[.int .i64 p.1,.int .i64 p.2]
def a4U (x:Int):List Value:=[.int .i64 x]
theorem c2V (x:Int):(a4U x).length=1:=rfl
theorem b5D (x:Int) (h1:-9223372036854775808≤x) (h2:x≤9223372036854775807):IntKind.i64.wrap x=x:=by rw [IntKind.wrap_i64];omega
theorem b3w {P:Program} {e:TypeId} {z:Value} {n b:Nat} (h:(P.info? e).map (fun i=>(i.zero,i.size,i.bytes))=some (some z,n,b)) (hz:z.cells.size=n) :
  ∃ i z,P.info? e=some i∧i.zero=some z∧i.size=n∧i.bytes=b∧z.cells.size=n:=by
 obtain ⟨i,h1,h2,h3,h4⟩:=info_parts h
 exact ⟨i,z,h1,h2,h3,h4,hz⟩
theorem a2p (b:Nat):∀ (vs:List Value) (o:Nat) (w:World) (k:Nat),k≠b→(w.setCells b o vs).heap[k]?=w.heap[k]?
 | [],_,_,_,_=>rfl
 | v::r,o,w,k,h=>by rw [World.setCells,a2p b r _ _ _ h];exact Below.heap_setCell w _ v k h
theorem a5r (b:Nat):∀ (vs:List Value) (o:Nat) (w:World),(w.setCells b o vs).heap.size=w.heap.size
 | [],_,_=>rfl
 | v::r,o,w=>by rw [World.setCells,a5r b r];simp [World.setCell]
def b9t:List Value→Nat→List Value→List Value
 | xs,_,[]=>xs
 | xs,o,v::r=>b9t (xs.set o v) (o+1) r
theorem a9C:∀ (vs xs:List Value) (o:Nat),(b9t xs o vs).length=xs.length
 | [],_,_=>rfl
 | v::r,xs,o=>by rw [b9t,a9C r];simp
theorem a9p:∀ (vs xs:List Value) (o j:Nat),o+vs.length≤xs.length→(b9t xs o vs)[j]?=if o≤j∧j < o+vs.length then vs[j - o]? else xs[j]?
  | [],xs,o,j,_=>by rw [b9t,if_neg (by simp only [List.length_nil];omega)]
  | v :: r, xs, o, j, h => by
    simp only [List.length_cons] at h
    rw [b9t,a9p r _ _ _ (by simp;omega)]
    by_cases h1:o+1≤j∧j < o+1+r.length
    · rw [if_pos h1,if_pos (by simp only [List.length_cons];omega),show j - o=(j - (o+1))+1 from by omega,List.getElem?_cons_succ]
    · rw [if_neg h1]
      by_cases h2:j=o
      · subst h2
        rw [if_pos (by simp),Nat.sub_self,List.getElem?_cons_zero,List.getElem?_set_self (by omega)]
      · rw [if_neg (by simp only [List.length_cons];omega),List.getElem?_set_ne (by omega)]
theorem a5s {base:Nat} {e:TypeId} {size g n cap:Nat}:∀ (vs:List Value) (o:Nat) (w:World) (xs:List Value),w.ownsRow base e size (.slice (some ⟨g,0,none⟩) n cap) n xs→o+vs.length≤n * size →
    (w.setCells g o vs).ownsRow base e size (.slice (some ⟨g,0,none⟩) n cap) n (b9t xs o vs)
  | [],_,_,_,h,_=>h
  | v :: r, o, w, xs, h, hl => by
    simp only [List.length_cons] at hl
    exact a5s r (o+1) _ _ (h.stored o v).1 (by omega)
theorem a4c {α:Type} {enc:α→List Value} {size:Nat} (he:∀ x,(enc x).length=size) (l:List α):(l.flatMap enc).length=l.length * size:=by
 induction l with
 | nil=>simp
 | cons x l ih=>simp [List.flatMap_cons,ih,he,Nat.add_mul,Nat.add_comm]
theorem b5j {α:Type} {enc:α→List Value} {size:Nat} (he:∀ x,(enc x).length=size) (hs:0 < size) (l:List α) (k:Nat) (hk:k < l.length) (x:α) :
  b9t (l.flatMap enc) (k * size) (enc x)=(l.set k x).flatMap enc:=by
 have hle:(k+1) * size≤l.length * size:=Nat.mul_le_mul_right _ hk
 rw [Nat.add_mul,Nat.one_mul] at hle
 apply List.ext_getElem?
 intro j
 rw [a9p _ _ _ _ (by rw [a4c he,he];exact hle),he]
 by_cases hj:j < l.length * size
 ·have hjd:j / size < l.length:=(Nat.div_lt_iff_lt_mul hs).2 hj
  have hjm:j % size < size:=Nat.mod_lt _ hs
  have e1:j=j / size * size+j % size:=by rw [Nat.mul_comm];exact (Nat.div_add_mod j size).symm
  have h1:=a1P he l _ _ hjd hjm
  have h2:=a1P he (l.set k x) (j / size) (j % size) (by simpa using hjd) hjm
  rw [←e1] at h1 h2
  rw [h1,h2,List.getElem_set]
  by_cases hq:k=j / size
  ·subst hq
   rw [if_pos ⟨by omega,by omega⟩,if_pos rfl]
   congr 1
   omega
  ·rw [if_neg hq,if_neg]
   intro hh
   apply hq
   have:=(Nat.div_eq_iff (by omega)).2 ⟨hh.1,by omega⟩
   omega
 ·rw [if_neg (by omega),List.getElem?_eq_none (by rw [a4c he];omega),List.getElem?_eq_none (by rw [a4c he];simp;omega)]
section
variable {α:Type} {w w':World} {base size:Nat} {e:TypeId} {enc:α→List Value} {l:List α}
theorem Own.set_ {g n c:Nat} (h:Own w base e size enc (.slice (some ⟨g,0,none⟩) n c) l) (hs:0 < size) (k:Nat) (hk:k < n) (x:α):Own (w.setCells g (k * size) (enc x)) base e size enc (.slice (some ⟨g,0,none⟩) n c) (l.set k x):=by
 have hn:=h.cap.2
 subst hn
 refine ⟨h.1,?_⟩
 have hle:(k+1) * size≤l.length * size:=Nat.mul_le_mul_right _ hk
 rw [Nat.add_mul,Nat.one_mul] at hle
 have:=a5s (enc x) (k * size) w _ h.2 (by rw [h.1];exact hle)
 rw [b5j h.1 hs l k hk x] at this
 simpa using this
end
theorem b0S {P:Program} (n:Nat) (t:TypeId) (i:TypeInfo) (hi:P.info? t=some i) (name:String) (f:FuncId) (m:_) (hm:i.methods.find? (·.name == name)=some m) (hp:m.path=#[]) (hf:m.func=some (f,false))
  (elem:TypeId) (hu:P.underlying t=some (.pointer elem)) (a:Addr) (v:Value) (w:World) (hl:(loadVar elem a).run P w=.ok v w):(method (n+1) t (.pointer (some a)) name).run P w=.ok (f,v) w:=by
 have hnil:∀ (xt:TypeId) (s:String),(Builtin.ssaWrapNilChk_ #[xt] xt #[.pointer (some a),strVal "", strVal s]).run P w=.ok (.pointer (some a)) w:=fun _ _=>rfl
 unfold method
 simp [Sem.run_bind,typeInfo,hi,hm,hp,hf,follow,receiverAt,Place.get,run_underlying hu,hnil,asAddr,hl]
theorem b0M {P:Program} (n:Nat) (t:TypeId) (name:String) (f:FuncId) (h:((P.info? t).bind fun i=>(i.methods.find? (·.name == name)).map fun m=>(m.path.isEmpty,m.func))=some (true,some (f,false)))
  (elem:TypeId) (hu:P.underlying t=some (.pointer elem)) (a:Addr) (v:Value) (w:World) (hl:(loadVar elem a).run P w=.ok v w):(method (n+1) t (.pointer (some a)) name).run P w=.ok (f,v) w:=by
 obtain ⟨i,hi,h⟩:=Option.bind_eq_some_iff.1 h
 obtain ⟨m,hm,h⟩:=Option.map_eq_some_iff.1 h
 injection h with h1 h2
 exact b0S n t i hi name f m hm (by simpa using h1) h2 elem hu a v w hl
def a3I:List String:=["internal/strconv.uint64pow10", "strconv.ErrSyntax", "strconv.ErrRange", "internal/bytealg.MaxLen", "math/bits.deBruijn64tab"]
def isLib (b:Nat):Prop:=∃ name∈a3I,Tryz.prog.globalNamed name=some b
def hasLib (name:String):Prop:=(Tryz.prog.globalNamed name).isSome=true
structure LibW (w:World):Prop where
 ok:∀ b,isLib b→b < w.heap.size
 tab:hasLib "internal/strconv.uint64pow10" → Lib.TabIs Tryz.prog w "internal/strconv.uint64pow10" .u64 Lib.pow10Tab
 syn:hasLib "strconv.ErrSyntax" → ∃ tp p,w.var? Tryz.prog "strconv.ErrSyntax" = some #[.iface tp p]
 rng:hasLib "strconv.ErrRange" → ∃ tp p,w.var? Tryz.prog "strconv.ErrRange" = some #[.iface tp p]
 max:∀ g,Tryz.prog.globalNamed "internal/bytealg.MaxLen" = some g→∃ m,w.cell? ⟨g,0,none⟩=some (.int .i64 m)
 dbt:hasLib "math/bits.deBruijn64tab" → Lib.TabIs Tryz.prog w "math/bits.deBruijn64tab" .u8 (Lib.deBruijn64tab.map (fun n:Nat=>(n:Int)))
theorem a7o {w w':World} {name:String} {x:Array Value} (hn:name∈a3I) (hk:∀ b,isLib b→w'.heap[b]?=w.heap[b]?) (h:w.var? Tryz.prog name=some x):w'.var? Tryz.prog name=some x:=by
  unfold World.var? at *
  cases hg:Tryz.prog.globalNamed name with
  | none=>rw [hg] at h;cases h
  | some g =>
    rw [hg] at h
    simp only [Option.bind_some] at h ⊢
    rw [hk g ⟨name,hn,hg⟩]
    exact h
theorem LibW.agree {w w':World} (h:LibW w) (hs:w.heap.size≤w'.heap.size) (hk:∀ b,isLib b→w'.heap[b]?=w.heap[b]?):LibW w' :=
 ⟨fun b hb=>Nat.lt_of_lt_of_le (h.ok b hb) hs,fun hl=>a7o (by simp [a3I]) hk (h.tab hl),fun hl=>(h.syn hl).imp fun _ h=>h.imp fun _ h=>a7o (by simp [a3I]) hk h,
  fun hl=>(h.rng hl).imp fun _ h=>h.imp fun _ h=>a7o (by simp [a3I]) hk h,
  fun g hg=>(h.max g hg).imp fun _ hc=>by rw [World.cell?_of_block (hk g ⟨_,by simp [a3I],hg⟩)];exact hc,fun hl=>a7o (by simp [a3I]) hk (h.dbt hl)⟩
theorem LibW.below {w w':World} (h:LibW w) (b:Below w.heap.size w w'):LibW w':=h.agree b.size fun k hk=>b.block k (h.ok k hk)
theorem lrf {n:Nat}:n≤n:=Nat.le_refl n
theorem krf {p:Prop} (h:p:=by kernel_rfl):p:=h
theorem smo {p:Prop} (h:p:=by simp [Op.operands]):p:=h
theorem sml {p:Prop} (h:p:=by simp):p:=h
theorem dcd {p:Prop} (h:p:=by decide):p:=h
theorem omo {p:Prop} (h:p:=by omega):p:=h
theorem omd {p:Prop} (h:p:=by (try dsimp only);omega):p:=h
theorem omb {p:Prop} (h:p:=by first | exact Nat.le_of_ble_eq_true rfl | (simp at hb;first | omega | (dsimp only;omega) | (simp <;> omega)) | omega | (dsimp only;omega)):p:=h
theorem omy {p:Prop} (h:p:=by first | exact Nat.le_of_ble_eq_true rfl | omega | (dsimp only;omega) | (simp <;> omega)):p:=h
theorem nb {a b:Nat} (h:Nat.ble a b=true):a≤b:=Nat.le_of_ble_eq_true h
theorem hcs:(∀ (p:Prop) [Decidable p],(decide p=true)=p)∧(∀ (p:Prop) [Decidable p],(decide p=false)=¬ p)∧(∀ a b:Bool,((a&&b)=true)=(a=true∧b=true))∧(∀ a b:Bool,((a||b)=true)=(a=true∨b=true))∧(∀ b:Bool,((!b)=true)=(b=false))∧(∀ a b:Bool,((a||b)=false)=(a=false∧b=false)) ∧
  (∀ (α:Type) [BEq α] [LawfulBEq α] (a b:α),((a == b)=true)=(a=b))∧(∀ (α:Type) [BEq α] [LawfulBEq α] (a b:α),((a != b)=true)=¬ (a=b))∧(∀ (α:Type) [BEq α] [LawfulBEq α] (a b:α),((a == b)=false)=¬ (a=b))∧(∀ (α:Type) [BEq α] [LawfulBEq α] (a b:α),((a != b)=false)=(a=b))∧(∀ b:Bool,(¬ (b=true))=(b=false))∧(∀ b:Bool,(¬ (b=false))=(b=true))∧(∀ b:Bool,((!b)=false)=(b=true))∧(∀ n:Nat,(n:Int).toNat=n):=by
 refine ⟨?_,?_,?_,?_,?_,?_,?_,?_,?_,?_,?_,?_,?_,?_⟩ <;> intros <;> simp
inductive HV where
 | imm (v:Value)
 | agg (n:Nat) (f:Nat→HV)
 | tup (n:Nat) (f:Nat→HV)
 | sl (sz n:Nat) (f:Nat→Nat→HV)
 | fp (n:Nat) (f:Nat→HV)
 | pt (id g i off:Nat)
 | os (id g lo n:Nat)
 | ifc (t:TypeId) (v:HV)
 | fn (f:Fn) (n:Nat) (caps:Nat→HV)
 | nps (id g:Nat)
 | bnd (f:Fn) (x:HV)
 | mp (id g:Nat)
instance:Inhabited HV:=⟨.imm undef⟩
structure Loc where
 g:Nat
 A:Option Nat
 cap:Nat
 sz:Nat
structure Env where
 F:Addr→Prop
 L:Nat→Option Loc
 G:Nat→Prop
 M:Nat→Prop
inductive Rep (w:World) (E:Env):Value→HV→Prop
 | imm (v:Value):Rep w E v (.imm v)
 | agg (cs:Array Value) (n:Nat) (f:Nat→HV) (vs:Nat→Value) (hn:cs.size=n) (hv:∀ i,i < n→cs[i]?=some (vs i)∧(vs i).oneCell'=true)
   (h:∀ i,i < n→Rep w E (vs i) (f i)):Rep w E (.agg cs) (.agg n f)
 | tup (cs:Array Value) (n:Nat) (f:Nat→HV) (vs:Nat→Value) (hn:cs.size=n) (hv:∀ i,i < n→cs[i]?=some (vs i))
   (h:∀ i,i < n→Rep w E (vs i) (f i)):Rep w E (.tuple cs) (.tup n f)
 | sl (A:Option Addr) (n c sz:Nat) (f:Nat→Nat→HV) (vs:Nat→Nat→Value) (hc:n≤c) (hm:c≤maxLen)
   (hA:0 < n→∃ b o,A=some ⟨b,o,none⟩∧b < w.heap.size∧∀ i j,i < n→j < sz→E.F ⟨b,o+(i * sz+j),none⟩∧w.cell? ⟨b,o+(i * sz+j),none⟩=some (vs i j)∧(vs i j).oneCell'=true)
   (h:∀ i j,i < n→j < sz→Rep w E (vs i j) (f i j)):Rep w E (.slice A n c) (.sl sz n f)
 | fp (b o n:Nat) (f:Nat→HV) (vs:Nat→Value)
   (hA:∀ j,j < n→E.F ⟨b,o+j,none⟩∧w.cell? ⟨b,o+j,none⟩=some (vs j)∧(vs j).oneCell'=true)
   (h:∀ j,j < n→Rep w E (vs j) (f j)):Rep w E (.pointer (some ⟨b,o,none⟩)) (.fp n f)
 | pt (b k id g i off:Nat) (hg:E.G g) (h:∀ l,E.L id=some l→l.g=g→l.A=some b∧k=i * l.sz+off):Rep w E (.pointer (some ⟨b,k,none⟩)) (.pt id g i off)
 | os (A:Option Addr) (n c id g lo:Nat) (hg:E.G g) (hc:n≤c) (hm:c≤maxLen) (hA:0 < n→∃ b k,A=some ⟨b,k,none⟩∧∀ l,E.L id=some l→l.g=g→l.A=some b∧k=lo * l.sz)
   (h0:∀ l,E.L id=some l→l.g=g→lo+c=l.cap∧(lo=0∨0 < c→A=l.A.map (fun b=>⟨b,lo * l.sz,none⟩))):Rep w E (.slice A n c) (.os id g lo n)
 | ifc (t:TypeId) (v:Value) (x:HV) (h:Rep w E v x):Rep w E (.iface t v) (.ifc t x)
 | fn (f:Fn) (cs:Array Value) (n:Nat) (x:Nat→HV) (vs:Nat→Value) (hn:cs.size=n) (hv:∀ i,i < n→cs[i]?=some (vs i)) (h:∀ i,i < n→Rep w E (vs i) (x i)):Rep w E (.func f #[] cs) (.fn f n x)
 | bnd (f:Fn) (v:Value) (x:HV) (h:Rep w E v x):Rep w E (.func f #[v] #[]) (.bnd f x)
 | npn (id g:Nat) (hg:E.G g) (h:∀ l,E.L id=some l→l.g=g→l.cap=1):Rep w E (.pointer none) (.nps id g)
 | npp (v:Value) (id g:Nat) (hg:E.G g) (hc:∀ l,E.L id=some l→l.g=g→l.cap=1) (h:Rep w E v (.pt id g 0 0)):Rep w E v (.nps id g)
 | mp (b id g:Nat) (hg:E.G g) (h:∀ l,E.L id=some l→l.g=g→l.A=some b):Rep w E (.map (some b)) (.mp id g)
structure Ext (w:World) (E:Env) (w':World) (E':Env):Prop where
 sz:w.heap.size≤w'.heap.size
 F:∀ a,E.F a→E'.F a∧w'.cell? a=w.cell? a
 G:∀ g,E.G g→E'.G g
 L:∀ id l,E'.L id=some l→E.G l.g→E.L id=some l
 M:∀ b,E.M b→E'.M b
theorem Ext.refl (w:World) (E:Env):Ext w E w E:=⟨Nat.le_refl _,fun _ h=>⟨h,rfl⟩,fun _ h=>h,fun _ _ h _=>h,fun _ h=>h⟩
theorem Ext.trans {w w' w'':World} {E E' E'':Env} (h:Ext w E w' E') (k:Ext w' E' w'' E''):Ext w E w'' E'' :=
 ⟨Nat.le_trans h.sz k.sz,fun a ha=>⟨(k.F a (h.F a ha).1).1,(k.F a (h.F a ha).1).2.trans (h.F a ha).2⟩,fun g hg=>k.G g (h.G g hg),fun id l hl hg=>h.L id l (k.L id l hl (h.G _ hg)) hg,fun b hb=>k.M b (h.M b hb)⟩
theorem Rep.ext {w w':World} {E E':Env} (e:Ext w E w' E') {v:Value} {x:HV} (h:Rep w E v x):Rep w' E' v x:=by
  induction h with
  | imm v=>exact .imm v
  | agg cs n f vs hn hv _ ih=>exact .agg cs n f vs hn hv ih
  | tup cs n f vs hn hv _ ih=>exact .tup cs n f vs hn hv ih
  | sl A n c sz f vs hc hm hA _ ih =>
    refine .sl A n c sz f vs hc hm (fun hn=>?_) ih
    obtain ⟨b,o,h1,h2,h3⟩:=hA hn
    exact ⟨b,o,h1,Nat.lt_of_lt_of_le h2 e.sz,fun i j hi hj=>⟨(e.F _ (h3 i j hi hj).1).1,(e.F _ (h3 i j hi hj).1).2.trans (h3 i j hi hj).2.1,(h3 i j hi hj).2.2⟩⟩
  | fp b o n f vs hA _ ih=>exact .fp b o n f vs (fun j hj=>⟨(e.F _ (hA j hj).1).1,(e.F _ (hA j hj).1).2.trans (hA j hj).2.1,(hA j hj).2.2⟩) ih
  | pt b k id g i off hg h=>exact .pt b k id g i off (e.G _ hg) (fun l hl hlg=>h l (e.L id l hl (hlg▸hg)) hlg)
  | os A n c id g lo hg hc hm hA h0 =>
    refine .os A n c id g lo (e.G _ hg) hc hm (fun hn=>?_) (fun l hl hlg=>h0 l (e.L id l hl (hlg▸hg)) hlg)
    obtain ⟨b,k,h1,h2⟩:=hA hn
    exact ⟨b,k,h1,fun l hl hlg=>h2 l (e.L id l hl (hlg▸hg)) hlg⟩
  | ifc t v x _ ih=>exact .ifc t v x ih
  | fn f cs n x vs hn hv _ ih=>exact .fn f cs n x vs hn hv ih
  | bnd f v x _ ih=>exact .bnd f v x ih
  | npn id g hg h=>exact .npn id g (e.G _ hg) (fun l hl hlg=>h l (e.L id l hl (hlg▸hg)) hlg)
  | npp v id g hg hc _ ih=>exact .npp v id g (e.G _ hg) (fun l hl hlg=>hc l (e.L id l hl (hlg▸hg)) hlg) ih
  | mp b id g hg h=>exact .mp b id g (e.G _ hg) (fun l hl hlg=>h l (e.L id l hl (hlg▸hg)) hlg)
def HV.one:HV→Bool
 | .imm v=>v.oneCell'
 | .agg _ _=>false
 | .tup _ _=>false
 | _=>true
def HV.wid:HV→Nat
 | .agg n _=>n
 | _=>1
def HV.cell:HV→Nat→HV
 | .agg _ f,j=>f j
 | x,_=>x
def HV.flat:HV→Bool
 | .agg _ _=>true
 | x=>x.one
theorem Rep.one {w:World} {E:Env} {v:Value} {x:HV} (h:Rep w E v x) (h1:x.one=true):v.oneCell'=true:=by
 cases h <;> first | exact h1 | rfl | assumption | (rename_i h;cases h;rfl) | (simp [HV.one] at h1)
theorem c1c {v:Value} (h:v.oneCell'=true):v.cells=#[v]:=by
 cases v <;> first | rfl | (simp [Value.oneCell'] at h)
theorem Rep.cells {w:World} {E:Env} {v:Value} {x:HV} (h:Rep w E v x) (hf:x.flat=true):v.cells.size=x.wid∧∃ vs:Nat→Value,∀ j,j < x.wid→v.cells[j]?=some (vs j)∧(vs j).oneCell'=true∧Rep w E (vs j) (x.cell j):=by
 by_cases ha:∃ n f,x=.agg n f
 ·obtain ⟨n,f,rfl⟩:=ha
  cases h with
  | agg cs _ _ vs hn hv h=>exact ⟨hn,vs,fun j hj=>⟨(hv j hj).1,(hv j hj).2,h j hj⟩⟩
 ·have hone:x.one=true:=by
   cases x <;> first | exact hf | (exact absurd ⟨_,_,rfl⟩ ha)
  have hw:x.wid=1:=by
   cases x <;> first | rfl | (exact absurd ⟨_,_,rfl⟩ ha)
  have hc:∀ j,x.cell j=x:=by
   intro j
   cases x <;> first | rfl | (exact absurd ⟨_,_,rfl⟩ ha)
  have h1:=h.one hone
  rw [c1c h1,hw]
  refine ⟨rfl,fun _=>v,fun j hj=>?_⟩
  have:j=0:=by omega
  subst this
  exact ⟨rfl,h1,by rw [hc];exact h⟩
structure HObj where
 g:Nat
 n:Nat
 sz:Nat
 ty:TypeId
 fl:Nat
 f:Nat→Nat→HV
inductive RawIs:HObj→Obj→Prop
 | iter (g ty:Nat) (s:ByteArray) (p:Nat):RawIs ⟨g,0,1,ty,1,fun _ _=>.imm (.tuple #[.string s,.int .i64 (p:Int)])⟩ (.stringIter s p)
 | map (g ty:Nat) (es:Array MapEntry) (c:Nat) (hc:c=es.size) (hb:∀ (i:Nat) (e:MapEntry),es[i]?=some e→e.born=i):RawIs ⟨g,0,2,ty,1,fun _ _=>.imm (.tuple (es.map fun e=>.tuple #[e.key,e.val]))⟩ (.map es c)
theorem RawIs.n {o:HObj} {ob:Obj} (h:RawIs o ob):o.n=0:=by cases h <;> rfl
theorem RawIs.fl {o:HObj} {ob:Obj} (h:RawIs o ob):o.fl=1:=by cases h <;> rfl
structure ObjAt (w:World) (E:Env) (K:Nat→Prop) (B:Nat) (o:HObj) (l:Loc):Prop where
 g:l.g=o.g
 G:E.G o.g
 sz:l.sz=o.sz
 pos:0 < o.sz
 at_:(l.A=none∧l.cap=0∧o.n=0∧o.fl≤o.n)∨(∃ b cs,l.A=some b∧Blk w b o.ty cs∧cs.size=l.cap * o.sz∧o.n≤l.cap∧l.cap≤maxLen∧(b < B→¬ K b) ∧
  (∃ vs:Nat→Nat→Value,∀ i j,i < o.n→j < o.sz→cs[i * o.sz+j]?=some (vs i j)∧(vs i j).oneCell'=true∧Rep w E (vs i j) (o.f i j))∧(∀ k,E.F ⟨b,k,none⟩→k < o.fl * o.sz)∧o.fl≤o.n)∨∃ b ob,l.A=some b∧w.heap[b]?=some ob∧RawIs o ob∧(b < B→¬ K b)
structure R (K:Nat→Prop) (w0:World) (F0:Addr→Prop) (E:Env) (h:Nat→Option HObj) (w:World):Prop where
 os:w.os=w0.os
 tape:w.tape=w0.tape
 output:w.output=w0.output
 size:w0.heap.size≤w.heap.size
 keep:∀ k,k < w0.heap.size→K k→w.heap[k]?=w0.heap[k]?
 frz:∀ a,E.F a→a.spot=none∧(w.cell? a).isSome=true
 fnew:∀ a,E.F a→F0 a∨w0.heap.size≤a.block∨¬ K a.block
 klib:∀ b,isLib b→K b
 lib:LibW w0
 bks:∀ b,E.M b→w.heap[b]?=some (.deferred (some []))
 obj:∀ id o,h id=some o→∃ l,E.L id=some l∧ObjAt w E K w0.heap.size o l
 inj:∀ id id' o o' l l' b,h id=some o→h id'=some o'→E.L id=some l→E.L id'=some l'→l.A=some b→l'.A=some b→id=id'
section
variable {K:Nat→Prop} {w0 w w':World} {F0:Addr→Prop} {E E':Env} {h h':Nat→Option HObj}
theorem a1m {w:World} {a:Addr} (h:(w.cell? a).isSome=true):a.block < w.heap.size:=by
 obtain ⟨u,hu⟩:=Option.isSome_iff_exists.1 h
 exact World.block_lt_of_cell? w a hu
theorem a0Z {w:World} {b:Nat} {o:Obj} (h:w.heap[b]?=some o):b < w.heap.size:=by
 rcases Nat.lt_or_ge b w.heap.size with h1 | h1
 ·exact h1
 ·rw [Array.getElem?_eq_none h1] at h;cases h
theorem R.extBelow (r:R K w0 F0 E h w) (hb:Below w.heap.size w w'):Ext w E w' E :=
 ⟨hb.size,fun a ha=>⟨ha,World.cell?_of_block (hb.block _ (a1m (r.frz a ha).2))⟩,fun _ hg=>hg,fun _ _ hl _=>hl,fun _ h=>h⟩
theorem ObjAt.ext {o:HObj} {l:Loc} {B:Nat} (a:ObjAt w E K B o l) (e:Ext w E w' E') (hb:∀ b,l.A=some b→w'.heap[b]?=w.heap[b]?) (hF:∀ b k,l.A=some b→E'.F ⟨b,k,none⟩→E.F ⟨b,k,none⟩):ObjAt w' E' K B o l:=by
 refine ⟨a.g,e.G _ a.G,a.sz,a.pos,?_⟩
 rcases a.at_ with h0 | ⟨b,cs,h1,h2,h3,h4,h5,h6,⟨vs,h8⟩,h9⟩ | ⟨b,ob,h1,h2,h3,h4⟩
 ·exact .inl h0
 ·exact .inr (.inl ⟨b,cs,h1,(hb b h1).trans h2,h3,h4,h5,h6,⟨vs,fun i j hi hj=>⟨(h8 i j hi hj).1,(h8 i j hi hj).2.1,(h8 i j hi hj).2.2.ext e⟩⟩,fun k hk=>h9.1 k (hF b k h1 hk),h9.2⟩)
 ·exact .inr (.inr ⟨b,ob,h1,(hb b h1).trans h2,h3,h4⟩)
theorem ObjAt.notK {o:HObj} {l:Loc} {B b:Nat} (a:ObjAt w E K B o l) (hb:l.A=some b):b < B→¬ K b:=by
 rcases a.at_ with ⟨h0,_⟩ | ⟨b',cs,h1,_,_,_,_,h6,_⟩ | ⟨b',ob,h1,_,_,h6⟩
 ·rw [h0] at hb;cases hb
 ·rw [h1] at hb;injection hb with hb;subst hb;exact h6
 ·rw [h1] at hb;injection hb with hb;subst hb;exact h6
theorem ObjAt.notDfd {o:HObj} {l:Loc} {B b:Nat} (a:ObjAt w E K B o l) (hb:l.A=some b):w.heap[b]?≠some (.deferred (some [])):=by
 intro h
 rcases a.at_ with ⟨h0,_⟩ | ⟨b',cs,h1,h2,_⟩ | ⟨b',ob,h1,h2,h3,_⟩
 ·rw [h0] at hb;cases hb
 ·rw [h1] at hb;injection hb with hb;subst hb
  rw [show w.heap[b']?=_ from h2] at h;cases h
 ·rw [h1] at hb;injection hb with hb;subst hb
  rw [h2] at h;injection h with h;subst h;cases h3
theorem ObjAt.lt {o:HObj} {l:Loc} {B b:Nat} (a:ObjAt w E K B o l) (hb:l.A=some b):b < w.heap.size:=by
 rcases a.at_ with ⟨h0,_⟩ | ⟨b',cs,h1,h2,_⟩ | ⟨b',ob,h1,h2,_⟩
 ·rw [h0] at hb;cases hb
 ·rw [h1] at hb;injection hb with hb;subst hb;exact h2.lt
 ·rw [h1] at hb;injection hb with hb;subst hb
  rcases Nat.lt_or_ge b' w.heap.size with h | h
  ·exact h
  ·rw [Array.getElem?_eq_none h] at h2;cases h2
theorem R.libw (r:R K w0 F0 E h w):LibW w:=r.lib.agree r.size fun b hb=>r.keep b (r.lib.ok b hb) (r.klib b hb)
theorem R.grow (r:R K w0 F0 E h w) (hb:Below w.heap.size w w') (e:Ext w E w' E') (hL:E'.L=E.L) (hF:∀ a,E'.F a→E.F a∨w.heap.size≤a.block) (hf:∀ a,E'.F a→a.spot=none∧(w'.cell? a).isSome=true) (hM:E'.M=E.M:=by rfl):R K w0 F0 E' h w' where
 os:=hb.os.trans r.os
 tape:=hb.tape.trans r.tape
 output:=hb.output.trans r.output
 size:=Nat.le_trans r.size hb.size
 keep k hk hK:=(hb.block k (Nat.lt_of_lt_of_le hk r.size)).trans (r.keep k hk hK)
 frz:=hf
 fnew a ha:=by
  rcases hF a ha with h1 | h1
  ·exact r.fnew a h1
  ·exact .inr (.inl (Nat.le_trans r.size h1))
 klib:=r.klib
 lib:=r.lib
 bks b hm:=by rw [hM] at hm;exact (hb.block b (a0Z (r.bks b hm))).trans (r.bks b hm)
 obj id o ho:=by
  obtain ⟨l,hl,a⟩:=r.obj id o ho
  refine ⟨l,by rw [hL];exact hl,a.ext e (fun b hb'=>hb.block b (a.lt hb')) (fun b k hb' hk=>?_)⟩
  rcases hF _ hk with h1 | h1
  ·exact h1
  ·have:=a.lt hb';exact absurd h1 (by simp;omega)
 inj id id' o o' l l' b ho ho' hl hl':=by rw [hL] at hl hl';exact r.inj id id' o o' l l' b ho ho' hl hl'
theorem R.growSame (r:R K w0 F0 E h w) (hb:Below w.heap.size w w'):R K w0 F0 E h w' :=
 r.grow hb (r.extBelow hb) rfl (fun _ ha=>.inl ha) (fun a ha=>⟨(r.frz a ha).1,by rw [((r.extBelow hb).F a ha).2];exact (r.frz a ha).2⟩)
theorem R.drew (r:R K w0 F0 E h w):R K w0 F0 E h w.drew:=r.growSame (Below.refl _ _).drew
def a2I (h:Nat→Option HObj) (id:Nat) (o:HObj):Nat→Option HObj:=fun k=>if k=id then some o else h k
theorem a0v (h:Nat→Option HObj) (id:Nat) (o:HObj):a2I h id o id=some o:=by simp [a2I]
theorem a0s (h:Nat→Option HObj) {id k:Nat} (o:HObj) (hk:k≠id):a2I h id o k=h k:=by simp [a2I,hk]
def Env.new (E:Env) (id g b cap sz:Nat):Env:=⟨E.F,fun k=>if k=id then some ⟨g,some b,cap,sz⟩ else E.L k,fun k=>E.G k∨k=g,E.M⟩
theorem Env.new_L (E:Env) (id g b cap sz:Nat):(E.new id g b cap sz).L id=some ⟨g,some b,cap,sz⟩:=by simp [Env.new]
theorem Env.new_Lne (E:Env) {id g b cap sz k:Nat} (hk:k≠id):(E.new id g b cap sz).L k=E.L k:=by simp [Env.new,hk]
theorem Ext.new (w:World) (E:Env) (id g b cap sz:Nat) (hg:¬ E.G g) (w':World) (hs:w.heap.size≤w'.heap.size) (hF:∀ a,E.F a→w'.cell? a=w.cell? a):Ext w E w' (E.new id g b cap sz) :=
 ⟨hs,fun a ha=>⟨ha,hF a ha⟩,fun g hg=>.inl hg,fun k l hl hG=>by
  by_cases hk:k=id
  ·subst hk
   rw [Env.new_L] at hl
   injection hl with hl
   subst hl
   exact absurd hG hg
  ·rwa [Env.new_Lne E hk] at hl,fun _ h=>h⟩
theorem R.new (r:R K w0 F0 E h w) (id g:Nat) (cap sz:Nat) (ty:TypeId) (cs:Array Value) (f:Nat→Nat→HV) (n:Nat) (vs:Nat→Nat→Value) (hg:¬ E.G g) (hsz:0 < sz) (hcs:cs.size=cap * sz) (hn:n≤cap) (hm:cap≤maxLen)
  (hv:∀ i j,i < n→j < sz→cs[i * sz+j]?=some (vs i j)∧(vs i j).oneCell'=true∧Rep w E (vs i j) (f i j)) :
  Ext w E (w.alloc (.cells cs ty)) (E.new id g w.heap.size cap sz)∧R K w0 F0 (E.new id g w.heap.size cap sz) (a2I h id ⟨g,n,sz,ty,0,f⟩) (w.alloc (.cells cs ty)):=by
 have hb:Below w.heap.size w (w.alloc (.cells cs ty)):=(Below.refl _ _).alloc (Nat.le_refl _) _
 have e:Ext w E (w.alloc (.cells cs ty)) (E.new id g w.heap.size cap sz):=Ext.new w E id g _ cap sz hg _ hb.size (fun a ha=>((r.extBelow hb).F a ha).2)
 refine ⟨e,hb.os.trans r.os,hb.tape.trans r.tape,hb.output.trans r.output,Nat.le_trans r.size hb.size,fun k hk hK=>(hb.block k (Nat.lt_of_lt_of_le hk r.size)).trans (r.keep k hk hK),
  fun a ha=>⟨(r.frz a ha).1,by rw [(e.F a ha).2];exact (r.frz a ha).2⟩,r.fnew,r.klib,r.lib,fun b hm=>(hb.block b (a0Z (r.bks b hm))).trans (r.bks b hm),fun k o ho=>?_,fun k k' o o' l l' b ho ho' hl hl' hb1 hb2=>?_⟩
 ·by_cases hk:k=id
  ·subst hk
   rw [a0v] at ho
   injection ho with ho
   subst ho
   refine ⟨_,Env.new_L _ _ _ _ _ _,rfl,.inr rfl,rfl,hsz,.inr (.inl ⟨w.heap.size,cs,rfl,Blk.new w ty cs,hcs,hn,hm,fun hlt=>absurd hlt (by have:=r.size;omega),⟨vs,fun i j hi hj=>⟨(hv i j hi hj).1,(hv i j hi hj).2.1,(hv i j hi hj).2.2.ext e⟩⟩,fun k hk=>?_,Nat.zero_le _⟩)⟩
   have:=a1m (r.frz _ hk).2
   exact absurd this (by simp)
  ·rw [a0s _ _ hk] at ho
   obtain ⟨l,hl,a⟩:=r.obj k o ho
   exact ⟨l,by rw [Env.new_Lne E hk];exact hl,a.ext e (fun b hb'=>hb.block b (a.lt hb')) (fun _ _ _ hF=>hF)⟩
 ·have old:∀ k o l,k≠id→a2I h id ⟨g,n,sz,ty,0,f⟩ k=some o→(E.new id g w.heap.size cap sz).L k=some l→h k=some o∧E.L k=some l∧∀ b,l.A=some b→b < w.heap.size:=by
   intro k o l hk ho hl
   rw [a0s _ _ hk] at ho
   rw [Env.new_Lne E hk] at hl
   obtain ⟨l',hl',a⟩:=r.obj k o ho
   rw [hl] at hl'
   injection hl' with hl'
   subst hl'
   exact ⟨ho,hl,fun b hb'=>a.lt hb'⟩
  by_cases hk:k=id <;> by_cases hk':k'=id
  ·rw [hk,hk']
  ·subst hk
   rw [Env.new_L] at hl
   injection hl with hl
   subst hl
   have:=(old k' o' l' hk' ho' hl').2.2 b hb2
   injection hb1 with hb1
   omega
  ·subst hk'
   rw [Env.new_L] at hl'
   injection hl' with hl'
   subst hl'
   have:=(old k o l hk ho hl).2.2 b hb1
   injection hb2 with hb2
   omega
  ·have a1:=old k o l hk ho hl
   have a2:=old k' o' l' hk' ho' hl'
   exact r.inj k k' o o' l l' b a1.1 a2.1 a1.2.1 a2.2.1 hb1 hb2
end
theorem d0x {A:Option Addr} {c:Nat} {l:Loc} (h:0+c=l.cap∧((0:Nat)=0∨0 < c→A=l.A.map (fun b=>⟨b,0 * l.sz,none⟩))):A=l.A.map (fun b=>⟨b,0,none⟩)∧c=l.cap:=⟨by rw [h.2 (.inl rfl),Nat.zero_mul],by have:=h.1;omega⟩
theorem Blk.setCells {g:Nat} {t:TypeId}:∀ (vs:List Value) (o:Nat) {w:World} {cs:Array Value},Blk w g t cs→Blk (w.setCells g o vs) g t (b9t cs.toList o vs).toArray
  | [],o,w,cs,h=>by simpa [World.setCells,b9t] using h
  | v :: r, o, w, cs, h => by
    rw [World.setCells,b9t]
    have:=Blk.setCells r (o+1) (h.set_ o v)
    rwa [Array.toList_setIfInBounds] at this
def inb (i off m i' j:Nat):Bool:=Nat.beq i' i&&(Nat.ble off j&&Nat.blt j (off+m))
def upd (f:Nat→Nat→HV) (i off m:Nat) (g:Nat→HV):Nat→Nat→HV:=fun i' j=>match inb i off m i' j with | true=>g (j - off) | false=>f i' j
theorem c1K (i off m i' j:Nat):inb i off m i' j=true↔i'=i∧off≤j∧j < off+m:=by
 simp [inb,Nat.blt_eq]
theorem a4t {f:Nat→Nat→HV} {i off m:Nat} {g:Nat→HV} {i' j:Nat} (h:i'=i∧off≤j∧j < off+m):upd f i off m g i' j=g (j - off):=by
 unfold upd;rw [(c1K _ _ _ _ _).2 h]
theorem a1G {f:Nat→Nat→HV} {i off m:Nat} {g:Nat→HV} {i' j:Nat} (h:¬ (i'=i∧off≤j∧j < off+m)):upd f i off m g i' j=f i' j:=by
 unfold upd
 rw [show inb i off m i' j=false from by rw [←Bool.not_eq_true,c1K];exact h]
section
variable {K:Nat→Prop} {w0 w w':World} {F0:Addr→Prop} {E E':Env} {h h':Nat→Option HObj}
theorem a7n {sz n i j:Nat} (hi:i < n) (hj:j < sz):i * sz+j < n * sz:=by
 have:=Nat.mul_le_mul_right sz (show i+1≤n from hi)
 rw [Nat.add_mul] at this;omega
theorem d1a {sz i i' j j':Nat} (hj:j < sz) (hj':j' < sz) (h:i * sz+j=i' * sz+j'):i=i'∧j=j':=by
 have h1:(i * sz+j) / sz=i:=by rw [Nat.mul_comm,Nat.mul_add_div omo,Nat.div_eq_of_lt hj];omega
 have h2:(i' * sz+j') / sz=i':=by rw [Nat.mul_comm,Nat.mul_add_div omo,Nat.div_eq_of_lt hj'];omega
 have:i=i':=by rw [←h1,←h2,h]
 subst this
 exact ⟨rfl,by omega⟩
theorem R.write (r:R K w0 F0 E h w) (id:Nat) (o o':HObj) (l:Loc) (b:Nat) (ho:h id=some o) (hl:E.L id=some l) (hb:l.A=some b)
  (hos:w'.os=w.os) (htape:w'.tape=w.tape) (hout:w'.output=w.output) (hsz:w'.heap.size=w.heap.size) (hh:∀ k,k≠b→w'.heap[k]?=w.heap[k]?)
  (hF:∀ k,E.F ⟨b,k,none⟩→w'.cell? ⟨b,k,none⟩=w.cell? ⟨b,k,none⟩)
  (ha:∀ e:Ext w E w' E,ObjAt w' E K w0.heap.size o' l):Ext w E w' E∧R K w0 F0 E (a2I h id o') w':=by
 obtain ⟨l',hl',a⟩:=r.obj id o ho
 rw [hl] at hl'
 injection hl' with hl'
 subst hl'
 have e:Ext w E w' E:=by
  refine ⟨Nat.le_of_eq hsz.symm,fun p hp=>⟨hp,?_⟩,fun _ hg=>hg,fun _ _ hl _=>hl,fun _ h=>h⟩
  by_cases hpb:p.block=b
  ·obtain ⟨pb,po,ps⟩:=p
   have hs:=(r.frz _ hp).1
   simp only at hs hpb
   subst hs;subst hpb
   exact hF po hp
  ·exact World.cell?_of_block (hh _ hpb)
 have hK:∀ b',l.A=some b'→b' < w0.heap.size→¬ K b':=by
  intro b' hb'
  exact a.notK hb'
 refine ⟨e,⟨hos.trans r.os,htape.trans r.tape,hout.trans r.output,by rw [hsz];exact r.size,fun k hk hKk=>?_,fun p hp=>⟨(r.frz p hp).1,by rw [(e.F p hp).2];exact (r.frz p hp).2⟩,r.fnew,r.klib,r.lib,fun b' hm=>(hh b' (fun he=>a.notDfd hb (he▸r.bks b' hm))).trans (r.bks b' hm),fun k o1 ho1=>?_,fun k k' o1 o2 l1 l2 b' ho1 ho2 hl1 hl2 hb1 hb2=>?_⟩⟩
 ·rw [hh k (fun he=>by subst he;exact hK k hb hk hKk)]
  exact r.keep k hk hKk
 ·by_cases hk:k=id
  ·subst hk
   rw [a0v] at ho1
   injection ho1 with ho1
   subst ho1
   exact ⟨l,hl,ha e⟩
  ·rw [a0s _ _ hk] at ho1
   obtain ⟨l1,hl1,a1⟩:=r.obj k o1 ho1
   exact ⟨l1,hl1,a1.ext e (fun b' hb'=>hh b' (fun he=>by subst he;exact hk (r.inj k id o1 o l1 l b' ho1 ho hl1 hl hb' hb))) (fun _ _ _ hF=>hF)⟩
 ·have old:∀ k o,a2I h id o' k=some o→∃ o,h k=some o:=by
   intro k o1 ho1
   by_cases hk:k=id
   ·subst hk;exact ⟨o,ho⟩
   ·rw [a0s _ _ hk] at ho1;exact ⟨o1,ho1⟩
  obtain ⟨p1,hp1⟩:=old k o1 ho1
  obtain ⟨p2,hp2⟩:=old k' o2 ho2
  exact r.inj k k' p1 p2 l1 l2 b' hp1 hp2 hl1 hl2 hb1 hb2
theorem a7E (g:Nat):∀ (vs:List Value) (o:Nat) (w:World),(w.setCells g o vs).os=w.os∧(w.setCells g o vs).tape=w.tape∧(w.setCells g o vs).output=w.output
 | [],_,_=>⟨rfl,rfl,rfl⟩
 | v::r,o,w=>by rw [World.setCells];exact a7E g r _ _
theorem R.store (r:R K w0 F0 E h w) (id:Nat) (o:HObj) (l:Loc) (b:Nat) (ho:h id=some o) (hl:E.L id=some l) (hb:l.A=some b) (i off:Nat) (us:List Value) (g:Nat→HV)
  (hi:i < o.n) (hfl:o.fl≤i) (hoff:off+us.length≤o.sz) (hu:∀ (j:Nat) (u:Value),us[j]?=some u→u.oneCell'=true∧Rep w E u (g j)) :
  Ext w E (w.setCells b (i * o.sz+off) us) E∧R K w0 F0 E (a2I h id { o with f:=upd o.f i off us.length g }) (w.setCells b (i * o.sz+off) us):=by
 obtain ⟨l',hl',a⟩:=r.obj id o ho
 rw [hl] at hl'
 injection hl' with hl'
 subst hl'
 rcases a.at_ with ⟨h0,_⟩ | ⟨b',cs,h1,h2,h3,h4,h5,h6,⟨vs,h8⟩,h9⟩ | ⟨_,_,_,_,h3,_⟩
 rotate_right
 ·have:=h3.n;omega
 ·rw [h0] at hb;cases hb
 ·rw [h1] at hb
  injection hb with hb
  subst hb
  have hs:=a7E b' us (i * o.sz+off) w
  have hle:i * o.sz+off+us.length≤cs.toList.length:=by
   have:=Nat.mul_le_mul_right o.sz (show i+1≤l.cap from by omega)
   rw [Nat.add_mul] at this
   have h3':cs.toList.length=l.cap * o.sz:=by rw [Array.length_toList,h3]
   rw [h3'];omega
  have hB:=Blk.setCells us (i * o.sz+off) h2
  refine r.write id o _ l b' ho hl h1 hs.1 hs.2.1 hs.2.2 (a5r _ _ _ _) (fun k hk=>a2p _ _ _ _ _ hk) (fun k hk=>?_) (fun e=>?_)
  ·have hk':=h9.1 k hk
   rw [hB.cell,h2.cell]
   have hlt:k < i * o.sz+off:=by have:=Nat.mul_le_mul_right o.sz hfl;omega
   rw [List.getElem?_toArray,a9p _ _ _ _ hle,if_neg omo,Array.getElem?_toList]
  ·refine ⟨a.g,a.G,a.sz,a.pos,.inr (.inl ⟨b',_,h1,hB,by rw [List.size_toArray,a9C,Array.length_toList];exact h3,h4,h5,h6,⟨fun i' j=>if i'=i∧off≤j∧j < off+us.length then us.getD (j - off) undef else vs i' j,fun i' j hi' hj=>?_⟩,h9⟩)⟩
   ·simp only at hi' hj
    show (b9t cs.toList (i * o.sz+off) us).toArray[i' * o.sz+j]?=some (if i'=i∧off≤j∧j < off+us.length then us.getD (j - off) undef else vs i' j)∧(if i'=i∧off≤j∧j < off+us.length then us.getD (j - off) undef else vs i' j).oneCell'=true∧Rep _ E (if i'=i∧off≤j∧j < off+us.length then us.getD (j - off) undef else vs i' j) (upd o.f i off us.length g i' j)
    rw [List.getElem?_toArray,a9p _ _ _ _ hle]
    by_cases hc:i'=i∧off≤j∧j < off+us.length
    ·have hd:j - off < us.length:=by omega
     have hlook:us[j - off]?=some us[j - off]:=List.getElem?_eq_getElem hd
     have hgd:us.getD (j - off) undef=us[j - off]:=by simp [List.getD,hlook]
     rw [if_pos hc,a4t hc,hgd]
     obtain ⟨rfl,hj1,hj2⟩:=hc
     rw [if_pos omo,show i' * o.sz+j - (i' * o.sz+off)=j - off from by omega]
     exact ⟨hlook,(hu _ _ hlook).1,(hu _ _ hlook).2.ext e⟩
    ·rw [a1G hc,if_neg hc,if_neg,Array.getElem?_toList]
     ·exact ⟨(h8 i' j hi' hj).1,(h8 i' j hi' hj).2.1,(h8 i' j hi' hj).2.2.ext e⟩
     ·intro hh
      apply hc
      have hlt:off+us.length≤o.sz:=hoff
      have:i'=i:=by
       have e1:i' * o.sz+j=i * o.sz+(i' * o.sz+j - i * o.sz):=by omega
       exact (d1a hj omo e1).1
      subst this
      exact ⟨rfl,by omega,by omega⟩
theorem R.objAt (r:R K w0 F0 E h w) {id:Nat} {o:HObj} (ho:h id=some o) (hn:0 < o.n):∃ l b cs,E.L id=some l∧l.g=o.g∧l.sz=o.sz∧l.A=some b∧Blk w b o.ty cs∧cs.size=l.cap * o.sz∧o.n≤l.cap∧l.cap≤maxLen ∧
  ∃ vs:Nat→Nat→Value,∀ i j,i < o.n→j < o.sz→cs[i * o.sz+j]?=some (vs i j)∧(vs i j).oneCell'=true∧Rep w E (vs i j) (o.f i j):=by
 obtain ⟨l,hl,a⟩:=r.obj id o ho
 rcases a.at_ with ⟨_,_,h0⟩ | ⟨b,cs,h1,h2,h3,h4,h5,h6,h8,h9⟩ | ⟨_,_,_,_,h3,_⟩
 rotate_right
 ·have:=h3.n;omega
 ·omega
 ·exact ⟨l,b,cs,hl,a.g,a.sz,h1,h2,h3,h4,h5,h8⟩
theorem R.owns (r:R K w0 F0 E h w) {id:Nat} {o:HObj} (ho:h id=some o) (m:Nat) (hm:m≤o.n) (hfm:o.fl≤m):∃ l xs,E.L id=some l∧w.ownsRow 0 o.ty o.sz (.slice (l.A.map fun b=>⟨b,0,none⟩) m l.cap) m xs∧l.cap≤maxLen ∧
  ∀ i j,i < m→j < o.sz→∃ u,xs[i * o.sz+j]?=some u∧u.oneCell'=true∧Rep w E u (o.f i j):=by
 obtain ⟨l,hl,a⟩:=r.obj id o ho
 rcases a.at_ with ⟨h0,h1,h2⟩ | ⟨b,cs,h1,h2,h3,h4,h5,h6,⟨vs,h8⟩,h9⟩ | ⟨_,_,_,_,h3,_⟩
 rotate_right
 ·have:=h3.n;have:=h3.fl;omega
 ·obtain rfl:m=0:=by omega
  refine ⟨l,[],hl,⟨by simp,.inl ⟨by rw [h0,h1];rfl,rfl⟩⟩,by rw [h1];unfold maxLen;omega,fun i j hi=>by omega⟩
 ·have hle:m * o.sz≤l.cap * o.sz:=Nat.mul_le_mul_right _ omo
  refine ⟨l,cs.toList.take (m * o.sz),hl,⟨by rw [List.length_take,Array.length_toList,h3];omega,.inr ⟨b,l.cap,cs,by rw [h1];rfl,Nat.zero_le _,h2,by omega,h5,h3,rfl⟩⟩,h5,fun i j hi hj=>?_⟩
  have hlt:=a7n (sz:=o.sz) hi hj
  obtain ⟨e1,e3,e2⟩:=h8 i j omo hj
  exact ⟨vs i j,by rw [List.getElem?_take,if_pos hlt,Array.getElem?_toList];exact e1,e3,e2⟩
end
def Env.place (E:Env) (id:Nat) (l:Loc):Env:=⟨E.F,fun k=>if k=id then some l else E.L k,fun k=>E.G k∨k=l.g,E.M⟩
theorem Env.place_L (E:Env) (id:Nat) (l:Loc):(E.place id l).L id=some l:=by simp [Env.place]
theorem Env.place_Lne (E:Env) {id k:Nat} (l:Loc) (hk:k≠id):(E.place id l).L k=E.L k:=by simp [Env.place,hk]
section
variable {K:Nat→Prop} {w0 w w':World} {F0:Addr→Prop} {E E':Env} {h h':Nat→Option HObj}
theorem R.renew (r:R K w0 F0 E h w) (id:Nat) (o o':HObj) (l l':Loc) (ho:h id=some o) (hl:E.L id=some l) (hg:¬ E.G l'.g)
  (hos:w'.os=w.os) (htape:w'.tape=w.tape) (hout:w'.output=w.output) (hsz:w.heap.size≤w'.heap.size) (hh:∀ k,k < w.heap.size→l.A≠some k→w'.heap[k]?=w.heap[k]?)
  (hF:∀ b k,l.A=some b→E.F ⟨b,k,none⟩→w'.cell? ⟨b,k,none⟩=w.cell? ⟨b,k,none⟩) (hA:∀ b,l'.A=some b→l.A=some b∨w.heap.size≤b)
  (ha:∀ e:Ext w E w' (E.place id l'),ObjAt w' (E.place id l') K w0.heap.size o' l'):Ext w E w' (E.place id l')∧R K w0 F0 (E.place id l') (a2I h id o') w':=by
 obtain ⟨l1,hl1,a⟩:=r.obj id o ho
 rw [hl] at hl1
 injection hl1 with hl1
 subst hl1
 have hlb:∀ b,l.A=some b→b < w.heap.size:=fun b hb=>a.lt hb
 have e:Ext w E w' (E.place id l'):=by
  refine ⟨hsz,fun p hp=>⟨hp,?_⟩,fun _ hg=>.inl hg,fun k l2 hl2 hg2=>?_,fun _ h=>h⟩
  ·by_cases hpb:l.A=some p.block
   ·obtain ⟨pb,po,ps⟩:=p
    have hs:=(r.frz _ hp).1
    simp only at hs hpb
    subst hs
    exact hF pb po hpb hp
   ·exact World.cell?_of_block (hh _ (a1m (r.frz _ hp).2) hpb)
  ·by_cases hk:k=id
   ·subst hk
    rw [Env.place_L] at hl2
    injection hl2 with hl2
    subst hl2
    exact absurd hg2 hg
   ·rwa [Env.place_Lne _ _ hk] at hl2
 have hK:∀ b',l.A=some b'→b' < w0.heap.size→¬ K b':=by
  intro b' hb'
  exact a.notK hb'
 have oth:∀ k o1 l1,k≠id→h k=some o1→E.L k=some l1→∀ b,l1.A=some b→b < w.heap.size∧l.A≠some b:=by
  intro k o1 l1 hk ho1 hl1 b hb
  obtain ⟨l2,hl2,a2⟩:=r.obj k o1 ho1
  rw [hl1] at hl2
  injection hl2 with hl2
  subst hl2
  exact ⟨a2.lt hb,fun hlb=>hk (r.inj k id o1 o l1 l b ho1 ho hl1 hl hb hlb)⟩
 refine ⟨e,⟨hos.trans r.os,htape.trans r.tape,hout.trans r.output,Nat.le_trans r.size hsz,fun k hk hKk=>?_,fun p hp=>⟨(r.frz p hp).1,by rw [(e.F p hp).2];exact (r.frz p hp).2⟩,r.fnew,r.klib,r.lib,fun b' hm=>(hh b' (a0Z (r.bks b' hm)) (fun he=>a.notDfd he (r.bks b' hm))).trans (r.bks b' hm),fun k o1 ho1=>?_,fun k k' o1 o2 l1 l2 b' ho1 ho2 hl1 hl2 hb1 hb2=>?_⟩⟩
 ·rw [hh k (Nat.lt_of_lt_of_le hk r.size) (fun he=>hK k he hk hKk)]
  exact r.keep k hk hKk
 ·by_cases hk:k=id
  ·subst hk
   rw [a0v] at ho1
   injection ho1 with ho1
   subst ho1
   exact ⟨l',Env.place_L _ _ _,ha e⟩
  ·rw [a0s _ _ hk] at ho1
   obtain ⟨l1,hl1,a1⟩:=r.obj k o1 ho1
   refine ⟨l1,by rw [Env.place_Lne _ _ hk];exact hl1,a1.ext e (fun b' hb'=>?_) (fun _ _ _ hF=>hF)⟩
   have:=oth k o1 l1 hk ho1 hl1 b' hb'
   exact hh b' this.1 this.2
 ·have old:∀ k o1 l1,k≠id→a2I h id o' k=some o1→(E.place id l').L k=some l1→∀ b,l1.A=some b→h k=some o1∧E.L k=some l1∧b < w.heap.size∧l.A≠some b:=by
   intro k o1 l1 hk ho1 hl1 b hb
   rw [a0s _ _ hk] at ho1
   rw [Env.place_Lne _ _ hk] at hl1
   exact ⟨ho1,hl1,oth k o1 l1 hk ho1 hl1 b hb⟩
  by_cases hk:k=id <;> by_cases hk':k'=id
  ·rw [hk,hk']
  ·subst hk
   rw [Env.place_L] at hl1
   injection hl1 with hl1
   subst hl1
   have:=old k' o2 l2 hk' ho2 hl2 b' hb2
   rcases hA b' hb1 with h1 | h1
   ·exact absurd h1 this.2.2.2
   ·omega
  ·subst hk'
   rw [Env.place_L] at hl2
   injection hl2 with hl2
   subst hl2
   have:=old k o1 l1 hk ho1 hl1 b' hb1
   rcases hA b' hb2 with h1 | h1
   ·exact absurd h1 this.2.2.2
   ·omega
  ·have a1:=old k o1 l1 hk ho1 hl1 b' hb1
   have a2:=old k' o2 l2 hk' ho2 hl2 b' hb2
   exact r.inj k k' o1 o2 l1 l2 b' a1.1 a2.1 a1.2.1 a2.2.1 hb1 hb2
end
def cat (m:Nat) (f g:Nat→Nat→HV):Nat→Nat→HV:=fun i j=>match Nat.blt i m with | true=>f i j | false=>g (i - m) j
theorem a6B {m:Nat} {f g:Nat→Nat→HV} {i j:Nat} (h:i < m):cat m f g i j=f i j:=by
 unfold cat;rw [show Nat.blt i m=true from by simpa [Nat.blt_eq] using h]
theorem a5O {m:Nat} {f g:Nat→Nat→HV} {i j:Nat} (h:m≤i):cat m f g i j=g (i - m) j:=by
 unfold cat;rw [show Nat.blt i m=false from by rw [←Bool.not_eq_true,Nat.blt_eq];omega]
section
variable {P:Program}
theorem b0G (w:World) (t ty e:TypeId) (i:TypeInfo) (z:Value) (size bytes:Nat) (ht:P.underlying t=some (.slice e)) (hi:P.info? e=some i) (hz:i.zero=some z)
    (hsize:i.size=size) (hby:i.bytes=bytes) (hzs:z.cells.size=size) (hsz:0 < size)
    (v:Value) (n:Nat) (xs:List Value) (hown:w.ownsRow 0 e size v n xs)
    (B:Nat) (A:Option Addr) (m c:Nat) (news:List Value) (hr:a1n w B size A m news) (h1:∀ u∈news,u.oneCell'=true)
    (h63:n+m≤maxLen) (hbytes:(n+m) * bytes≤140737488355328) :
    ∃ v' w', (Builtin.append_ #[t, t] ty #[v, .slice A m c]).run P w = .ok v' w' ∧ w'.ownsRow 0 e size v' (n + m) (xs ++ news) ∧ w.grownBy w' v.ownBlock ∧
      (v'.ownBlock=v.ownBlock∨(v'.ownBlock=some w.heap.size∧w.grownBy w' none)):=by
  obtain ⟨v',w',hrun,h2,h3,h4⟩:=a6y w 0 t ty e i z size bytes ht hi hz hsize hby hzs hsz v n xs hown B A m c news hr h1 h63 hbytes (Nat.zero_le _)
  refine ⟨v',w',hrun,h2,h3,?_⟩
  rcases h4 with h4 | h4
  · exact .inl h4
  · refine .inr ⟨h4,?_⟩
    rcases hown.2 with ⟨rfl,rfl⟩ | ⟨g,cap,cur,rfl,hbg,hg,hnc,hcm,hcs,htake⟩
    · exact h3
    · have hlt:g < w.heap.size:=by
        rcases Nat.lt_or_ge g w.heap.size with h | h
        · exact h
        · rw [Array.getElem?_eq_none h] at hg;cases hg
      rcases A with _ | ad
      · have hm:m=0:=by
          rcases Nat.eq_zero_or_pos m with h0 | h0
          · exact h0
          · obtain ⟨ad,h,_⟩:=hr.2 h0;cases h
        subst hm
        have hn:news=[]:=List.eq_nil_of_length_eq_zero (by simpa using hr.1)
        subst hn
        rw [a4R w 0 t ty e i size ht hi _ n xs hown c] at hrun
        injection hrun with hv hw
        subst hv
        simp [Value.ownBlock] at h4
        omega
      · have hcells:∀ j u,news[j]?=some u→w.cell? (ad.add j)=some u:=by
          intro j u hu
          rcases Nat.eq_zero_or_pos m with h0 | h0
          · subst h0
            have hn:news=[]:=List.eq_nil_of_length_eq_zero (by simpa using hr.1)
            subst hn
            simp at hu
          · obtain ⟨ad',h,_,hc⟩:=hr.2 h0
            injection h with h
            subst h
            exact hc j u hu
        subst hsize
        subst hby
        by_cases hroom:n+m≤cap
        · have hfit:n * i.size+news.length≤cur.size:=by rw [hr.1,hcs,←Nat.add_mul];exact Nat.mul_le_mul_right _ hroom
          rw [run_append_room (P:=P) w t ty e i ht hi g n cap cur hg ad m c news hr.1 hcells h1 hroom hfit] at hrun
          injection hrun with hv hw
          subst hv
          simp [Value.ownBlock] at h4
          omega
        · have holds:∀ j u,xs[j]?=some u→w.cell? ((⟨g,0,none⟩:Addr).add j)=some u:=hown.cells (g:=g) rfl
          have hsmall:n+m≤9223372036854775807:=by simp only [maxLen] at h63;omega
          rw [run_append_grow (P:=P) w t ty e i z ht hi hz ⟨g,0,none⟩ n cap xs hown.1 holds ad m c news hr.1 hcells omo omo (growslice_fits omo hbytes)] at hrun
          injection hrun with hv hw
          subst hw
          exact ⟨rfl,rfl,rfl,by simp,fun k hk _=>heap_alloc_old w.drew _ hk⟩
end
section
variable {K:Nat→Prop} {w0 w w':World} {F0:Addr→Prop} {E E':Env} {h h':Nat→Option HObj}
theorem R.append (r:R K w0 F0 E h w) (id:Nat) (o:HObj) (l:Loc) (ho:h id=some o) (hl:E.L id=some l) (m k g:Nat) (hm:m≤o.n) (hfl:o.fl≤m) (hg:¬ E.G g) (fn:Nat→Nat→HV)
  (xs news:List Value) (hxs:w.ownsRow 0 o.ty o.sz (.slice (l.A.map fun b=>⟨b,0,none⟩) m l.cap) m xs) (hx:∀ i j,i < m→j < o.sz→∃ u,xs[i * o.sz+j]?=some u∧u.oneCell'=true∧Rep w E u (o.f i j))
  (hnl:news.length=k * o.sz) (hne:∀ i j,i < k→j < o.sz→∃ u,news[i * o.sz+j]?=some u∧Rep w E u (fn i j)) (hn1:∀ u∈news,u.oneCell'=true) (hcap:l.cap≤maxLen)
  (v':Value) (hown:w'.ownsRow 0 o.ty o.sz v' (m+k) (xs++news)) (hgr:w.grownBy w' (Value.slice (l.A.map fun b=>⟨b,0,none⟩) m l.cap).ownBlock)
  (hat:v'.ownBlock=(Value.slice (l.A.map fun b=>⟨b,0,none⟩) m l.cap).ownBlock∨(v'.ownBlock=some w.heap.size∧w.grownBy w' none)) :
  ∃ E',Ext w E w' E'∧R K w0 F0 E' (a2I h id ⟨g,m+k,o.sz,o.ty,o.fl,cat m o.f fn⟩) w'∧(∀ g',E'.G g'→E.G g'∨g'=g)∧Rep w' E' v' (.os id g 0 (m+k)):=by
 obtain ⟨l1,hl1,a⟩:=r.obj id o ho
 rw [hl] at hl1
 injection hl1 with hl1
 subst hl1
 have hob:(Value.slice (l.A.map fun b=>(⟨b,0,none⟩:Addr)) m l.cap).ownBlock=l.A:=by cases l.A <;> rfl
 rw [hob] at hgr hat
 have hxl:xs.length=m * o.sz:=hxs.1
 have reps:∀ i j,i < m+k→j < o.sz→∃ u,(xs++news)[i * o.sz+j]?=some u∧u.oneCell'=true∧Rep w E u (cat m o.f fn i j):=by
  intro i j hi hj
  by_cases him:i < m
  ·obtain ⟨u,h1,h0,h2⟩:=hx i j him hj
   refine ⟨u,?_,h0,by rw [a6B him];exact h2⟩
   rw [List.getElem?_append_left (by rw [hxl];exact a7n him hj)]
   exact h1
  ·obtain ⟨u,h1,h2⟩:=hne (i - m) j omo hj
   refine ⟨u,?_,hn1 u (List.mem_of_getElem? h1),by rw [a5O omo];exact h2⟩
   have e1:i * o.sz=m * o.sz+(i - m) * o.sz:=by rw [←Nat.add_mul];congr 1;omega
   rw [List.getElem?_append_right (by rw [hxl];omega),hxl,show i * o.sz+j - m * o.sz=(i - m) * o.sz+j from by omega]
   exact h1
 have hnF:∀ k,¬ E.F ⟨w.heap.size,k,none⟩:=fun k hk=>absurd (a1m (r.frz _ hk).2) sml
 obtain ⟨l',hg',hv',hA',hObj⟩:∃ l':Loc,l'.g=g∧(∃ A c,v'=.slice A (m+k) c∧m+k≤c∧c≤maxLen∧(0 < m+k→∃ b,l'.A=some b∧A=some ⟨b,0 * l'.sz,none⟩)∧(A=l'.A.map (fun b=>⟨b,0,none⟩)∧c=l'.cap))∧(∀ b,l'.A=some b→l.A=some b∨w.heap.size≤b) ∧
   ∀ e:Ext w E w' (E.place id l'),ObjAt w' (E.place id l') K w0.heap.size ⟨g,m+k,o.sz,o.ty,o.fl,cat m o.f fn⟩ l':=by
  rcases hown.2 with ⟨hv,hn⟩ | ⟨b,cap,cur,hv,_,hb2,hb3,hb4,hb5,hb6⟩
  ·subst hv
   refine ⟨⟨g,none,0,o.sz⟩,rfl,⟨none,0,by rw [hn],by omega,by unfold maxLen;omega,fun hp=>by omega,rfl,rfl⟩,(fun b hb=>by cases hb),fun e=>⟨rfl,.inr rfl,rfl,a.pos,.inl ⟨rfl,rfl,hn,by show o.fl≤m+k;omega⟩⟩⟩
  ·subst hv
   refine ⟨⟨g,some b,cap,o.sz⟩,rfl,⟨_,cap,rfl,hb3,hb4,fun _=>⟨b,rfl,by rw [Nat.zero_mul]⟩,rfl,rfl⟩,fun b' hb'=>?_,fun e=>⟨rfl,.inr rfl,rfl,a.pos,.inr (.inl ⟨b,cur,rfl,hb2,hb5,hb3,hb4,fun hlt=>?_,?_,fun kk hkk=>?_,by show o.fl≤m+k;omega⟩)⟩⟩
   ·injection hb' with hb'
    subst hb'
    rcases hat with h1 | ⟨h1,_⟩
    ·exact .inl h1.symm
    ·injection h1 with h1;exact .inr (Nat.le_of_eq h1.symm)
   ·rcases hat with h1 | ⟨h1,_⟩
    ·exact a.notK h1.symm hlt
    ·have h1:b=w.heap.size:=by simpa [Value.ownBlock] using h1
     have:=r.size;exact absurd hlt omo
   ·refine ⟨fun i j=>(cur[i * o.sz+j]?).getD undef,fun i j hi hj=>?_⟩
    obtain ⟨u,h1,h0,h2⟩:=reps i j hi hj
    have h3:cur[i * o.sz+j]?=some u:=by
     rw [←hb6,List.getElem?_take] at h1
     split at h1
     ·rw [←Array.getElem?_toList];exact h1
     ·cases h1
    show cur[i * o.sz+j]?=some ((cur[i * o.sz+j]?).getD undef)∧((cur[i * o.sz+j]?).getD undef).oneCell'=true∧Rep _ _ ((cur[i * o.sz+j]?).getD undef) _
    rw [h3]
    exact ⟨rfl,h0,h2.ext e⟩
   ·rcases hat with h1 | ⟨h1,_⟩
    ·rcases a.at_ with ⟨h0,_⟩ | ⟨b'',cs,h1',_,_,_,_,_,_,h9⟩ | ⟨_,_,_,_,h3,_⟩
     rotate_right
     ·have:=h3.n;have:=h3.fl;omega
     ·rw [←h1] at h0;cases h0
     ·rw [h1'] at h1;injection h1 with h1;subst h1;exact h9.1 kk hkk
    ·injection h1 with h1;subst h1;exact absurd hkk (hnF kk)
 have hren:=r.renew id o ⟨g,m+k,o.sz,o.ty,o.fl,cat m o.f fn⟩ l l' ho hl (by rw [hg'];exact hg) hgr.os hgr.tape hgr.output hgr.size (fun k hk hne=>hgr.block k hk (fun e=>hne e.symm)) (fun b kk hb hF=>?_) hA' hObj
 ·refine ⟨E.place id l',hren.1,hren.2,fun g' hh=>?_,?_⟩
  ·rcases hh with hh | hh
   ·exact .inl hh
   ·exact .inr (hh.trans hg')
  ·obtain ⟨A,c,rfl,h1,h2,h3,h4,h5⟩:=hv'
   refine .os A (m+k) c id g 0 (.inr hg'.symm) h1 h2 (fun hp=>?_) (fun l2 hl2 _=>?_)
   ·obtain ⟨b,hb,hA⟩:=h3 hp
    refine ⟨b,_,hA,fun l2 hl2 _=>?_⟩
    rw [Env.place_L] at hl2;injection hl2 with hl2;subst hl2
    exact ⟨hb,rfl⟩
   ·rw [Env.place_L] at hl2;injection hl2 with hl2;subst hl2
    exact ⟨by rw [Nat.zero_add];exact h5,fun _=>by rw [Nat.zero_mul];exact h4⟩
 ·rcases hat with h1 | ⟨_,h1⟩
  ·
   rcases a.at_ with ⟨h0,_⟩ | ⟨b'',cs,h1',hblk,hcs,_,_,_,_,h9⟩ | ⟨_,_,_,_,h3,_⟩
   rotate_right
   ·have:=h3.n;have:=h3.fl;omega
   ·rw [hb] at h0;cases h0
   ·rw [hb] at h1';injection h1' with h1';subst h1'
    have hk:=h9.1 kk hF
    have hkm:kk < m * o.sz:=Nat.lt_of_lt_of_le hk (Nat.mul_le_mul_right _ hfl)
    rcases hown.2 with ⟨hv,_⟩ | ⟨b1,cap,cur,hv,_,hb2,hb3,hb4,hb5,hb6⟩
    ·subst hv;rw [hb] at h1;cases h1
    ·subst hv
     rw [hb] at h1
     injection h1 with h1
     simp only at h1
     subst h1
     rw [(show Blk w' b1 o.ty cur from hb2).cell,hblk.cell]
     have e1:cur.toList[kk]?=xs[kk]?:=by
      have:(xs++news)[kk]?=cur.toList[kk]?:=by
       rw [←hb6,List.getElem?_take,if_pos (by have:=Nat.mul_le_mul_right o.sz (Nat.le_add_right m k);omega)]
      rw [←this,List.getElem?_append_left (by rw [hxl];exact hkm)]
     have e2:cs.toList[kk]?=xs[kk]?:=by
      rcases hxs.2 with ⟨hv,hm0⟩ | ⟨b2,cap2,cur2,hv,_,hc2,_,_,_,hc6⟩
      ·rw [hm0] at hkm;simp at hkm
      ·rw [hb] at hv
       injection hv with hv _ _
       injection hv with hv
       injection hv with hv
       subst hv
       have hcc:cur2=cs:=by
        unfold Blk at hblk
        rw [hblk] at hc2
        injection hc2 with hc2
        injection hc2 with hc2
        exact hc2.symm
       subst hcc
       rw [←hc6,List.getElem?_take,if_pos hkm]
     rw [←Array.getElem?_toList,←Array.getElem?_toList,e1,e2]
  ·exact World.cell?_of_block (h1.block b (a.lt hb) sml)
end
structure GrT (W:World) where
 val:World
 below:Below W.heap.size W val
section
variable {W:World}
def GrT.start (W:World):GrT W:=⟨W,Below.refl _ W⟩
theorem GrT.cell (u:GrT W) (b o:Nat) (h:b < W.heap.size):u.val.cell? ⟨b,o,none⟩=W.cell? ⟨b,o,none⟩:=u.below.cell h
theorem GrT.frozen (u:GrT W) (b o:Nat) (h:b < W.heap.size):u.val.frozen? ⟨b,o,none⟩=W.frozen? ⟨b,o,none⟩:=u.below.frozen h
theorem GrT.rd (u:GrT W) (b o n:Nat) (h:b < W.heap.size):rd u.val ⟨b,o,none⟩ n=rd W ⟨b,o,none⟩ n:=c3N u.below _ n h
theorem GrT.next (u:GrT W) {w':World} (h:Below u.val.heap.size u.val w'):∃ u':GrT W,w'=u'.val:=⟨⟨w',u.below.trans (h.mono u.below.size)⟩,rfl⟩
end
section
variable {P:Program} {ops:Array Oper} {C:World→Prop}
section
variable {Q:Exit→Act→World→Prop} {a:Act} {o:Oper} {rest:List Oper} {w:World}
end
end
structure NrT (g:Nat) (W:World) where
 val:World
 size:W.heap.size≤val.heap.size
 block:∀ k,k < W.heap.size→k≠g→val.heap[k]?=W.heap[k]?
section
variable {W w w':World} {g:Nat}
def Nr (g:Nat) (W:World) (w:World):Prop:=∃ u:NrT g W,w=u.val
theorem Nr.start (g:Nat) (W:World):Nr g W W.drew:=⟨⟨W.drew,Nat.le_refl _,fun _ _ _=>rfl⟩,rfl⟩
theorem Nr.grow (h:Nr g W w) (hb:Below w.heap.size w w'):Nr g W w':=by
 obtain ⟨u,rfl⟩:=h
 exact ⟨⟨w',Nat.le_trans u.size hb.size,fun k hk hg=>(hb.block k (Nat.lt_of_lt_of_le hk u.size)).trans (u.block k hk hg)⟩,rfl⟩
theorem Nr.alloc (h:Nr g W w) (o:Obj):Nr g W (w.alloc o):=h.grow ((Below.refl _ _).alloc (Nat.le_refl _) _)
theorem Nr.drew (h:Nr g W w):Nr g W w.drew:=h.grow (Below.refl _ _).drew
theorem Nr.drewN (h:Nr g W w) (n:Nat):Nr g W (w.drewN n):=h.grow (a9X (Below.refl _ _) n)
theorem Nr.heap (h:Nr g W w) (hs:w'.heap.size=w.heap.size) (hh:∀ k,k≠g→w'.heap[k]?=w.heap[k]?):Nr g W w':=by
 obtain ⟨u,rfl⟩:=h
 exact ⟨⟨w',by rw [hs];exact u.size,fun k hk hg=>(hh k hg).trans (u.block k hk hg)⟩,rfl⟩
theorem Nr.setCell (h:Nr g W w) (o:Nat) (v:Value):Nr g W (w.setCell ⟨g,o,none⟩ v):=h.heap (by simp [World.setCell]) (fun k hk=>Below.heap_setCell w _ v k hk)
theorem Nr.setRow (h:Nr g W w) (cs:Array Value):Nr g W (w.setRow g cs):=h.heap (by simp) (fun k hk=>a1l _ _ _ _ hk)
theorem Nr.setCells (h:Nr g W w) (o:Nat) (vs:List Value):Nr g W (w.setCells g o vs):=h.heap (a5r _ _ _ _) (fun k hk=>a2p _ _ _ _ _ hk)
theorem NrT.cell (u:NrT g W) (b o:Nat) (h:b < W.heap.size) (hg:b≠g):u.val.cell? ⟨b,o,none⟩=W.cell? ⟨b,o,none⟩:=World.cell?_of_block (w:=W) (u.block b h hg)
theorem NrT.rd (u:NrT g W) (b o n:Nat) (h:b < W.heap.size) (hg:b≠g):Go.Proofs.YtkeakpcieokhhaaGreatDoor.rd u.val ⟨b,o,none⟩ n=Go.Proofs.YtkeakpcieokhhaaGreatDoor.rd W ⟨b,o,none⟩ n:=a8w (w:=W) (u.block b h hg) n
end
def b9y (r:Option Nat):Fence:={ Fence.wide with round:=r }
def Oper.calm (o:Oper):Bool:=match o.op with | .defer _=>false | _=>true
theorem Oper.calm_ne {o:Oper} (h:Oper.calm o=true):∀ c,o.op≠.defer c:=fun c hc=>by
 unfold Oper.calm at h;rw [hc] at h;cases h
def Code.wpR (r:Option Nat) (P:Program) (c:Code) (Q:Exit→Act→World→Prop) (a:Act) (w:World):Prop:=c.wpIn (b9y r) 0 P Q a w
theorem a5K {r:Option Nat} {n:Nat} (h:(b9y r).depth.isSome=true):1≤n:=by cases h
section
variable {P:Program} {Q:Exit→Act→World→Prop} {a:Act} {w:World} {r:Option Nat}
theorem a7q {c:Code}:Code.wpR none P c Q a w↔c.wp P Q a w:=wpIn_wide
theorem c0l {row:String} {args:Array Value} {R:Value→World→Prop} (h:Rows P row args w R):RowsIn (b9y r) 0 P row args w R :=
 fun c cs _=>let ⟨v,w',h1,h2⟩:=h c cs;⟨v,w',h1,(stepsIn_wide (P:=P)).2 h2⟩
theorem a7Y {f:FuncId} {args:Array Value} {R:Ending→World→Prop} (h:Calls P f args w R):CallsIn (b9y r) 0 P f args w R:=(callsIn_wide (n:=0)).2 h
@[reducible] def opX (P:Program) (o:Oper) (a:Act) (w:World) (K:Act→World→Prop) (Q:Exit→Act→World→Prop):Prop:=o.wp P a w K Q∨o.wpIn Fence.wide 0 P a w K Q
theorem b1v {o:Oper} {K K':Act→World→Prop} (h:∀ a w,K a w→K' a w) (hh:opX P o a w K Q):opX P o a w K' Q:=hh.imp (Oper.wp_mono h) (Oper.wpIn_mono h)
theorem c5K {o:Oper} {K:Act→World→Prop} (hc:r=none∨Oper.calm o=true) (h:opX P o a w K Q):o.wpIn (b9y r) 0 P a w K Q:=by
  have hs:o.semAt (b9y r).round a.eval=execOp a.eval o:=by
    rcases hc with rfl | hc
    · exact Oper.semAt_none _ _
    · exact Oper.semAt_eq _ _ _ (Oper.calm_ne hc)
  refine ⟨fun _ _=>trivial,?_⟩
  rw [hs]
  rcases h with h | h
  · unfold Oper.wp at h
    revert h
    generalize (execOp a.eval o).run P w=res
    intro h
    cases res with
    | ok x w' =>
      cases x with
      | enter f args=>exact ⟨a5K,a7Y (r:=r) h⟩
      | row row args=>exact ⟨a5K,c0l (r:=r) h⟩
      | round l f tmps assign body=>exact h.elim
      | value v=>exact h
      | skip=>exact h
      | defer d=>exact h
      | _=>exact h.elim
    | halt x w'=>cases x <;> exact h
  · have h2:=h.2
    rw [show o.semAt Fence.wide.round a.eval=execOp a.eval o from Oper.semAt_none _ _] at h2
    revert h2
    generalize (execOp a.eval o).run P w=res
    intro h
    cases res with
    | ok x w' =>
      cases x with
      | enter f args=>exact ⟨a5K,h.2⟩
      | row row args=>exact ⟨a5K,h.2⟩
      | round l f tmps assign body=>exact ⟨a5K,h.2⟩
      | value v=>exact h
      | skip=>exact h
      | defer d=>exact h
      | _=>exact h.elim
    | halt x w'=>cases x <;> exact h
end
def a8R (P:Program) (ops:Array Oper) (Q:Exit→Act→World→Prop):List Oper→Act→World→Prop
 | [],a,w=>Q .normal a w
 | o::rest,a,w=>if Region.wanted o (yielded ops a.tmps) then opX P o a w (a8R P ops Q rest) Q else a8R P ops Q rest (a.put o.dst undef) w
section
variable {P:Program} {ops:Array Oper} {Q:Exit→Act→World→Prop} {r:Option Nat}
theorem c8V {c:Prop} [Decidable c] {o:Oper} {a:Act} {w:World} {K:Act→World→Prop} {M:Prop} (h:if c then o.wp P a w K Q else M):if c then opX P o a w K Q else M:=by
 split
 ·rename_i hc;rw [if_pos hc] at h;exact .inl h
 ·rename_i hc;rw [if_neg hc] at h;exact h
theorem a6Y:∀ (l:List Oper) (k:Nat) (a:Act) (w:World),(r=none∨l.all Oper.calm=true)→(∀ j,l[j]?=ops[k+j]?)→a8R P ops Q l a w→wpOpsIn (b9y r) 0 P ops Q (List.range' k l.length) a w
  | [],_,a,w,_,_,h=>h
  | o :: l, k, a, w, hc, hl, h => by
    have h0:ops[k]?=some o:=by simpa using (hl 0).symm
    have hc0:r=none∨Oper.calm o=true:=hc.imp id fun h=>by rw [List.all_cons,Bool.and_eq_true] at h;exact h.1
    have hc1:r=none∨l.all Oper.calm=true:=hc.imp id fun h=>by rw [List.all_cons,Bool.and_eq_true] at h;exact h.2
    rw [List.length_cons,List.range'_succ]
    have hn:∀ a w,a8R P ops Q l a w→wpOpsIn (b9y r) 0 P ops Q (List.range' (k+1) l.length) a w:=fun a w=>a6Y l (k+1) a w hc1 (fun j=>by have:=hl (j+1);simpa [Nat.add_assoc,Nat.add_comm 1 j] using this)
    unfold wpOpsIn
    simp only [h0]
    unfold a8R at h
    split
    · rename_i hw;simp only [hw,if_true] at h;exact c5K hc0 (b1v hn h)
    · rename_i hw;simp only [hw] at h;exact ⟨fun _ _=>trivial,hn _ _ h⟩
theorem b8n {id:Nat} {a:Act} {w:World} {l:List Oper} (hc:r=none∨l.all Oper.calm=true) (h:a8R P l.toArray Q l a w):Code.wpR r P (Code.region id l.toArray false) Q a w:=by
 refine wpIn_region ?_
 have:=a6Y (r:=r) (P:=P) (ops:=l.toArray) (Q:=Q) l 0 a w hc (by simp) h
 simpa [List.range_eq_range'] using this
def b3k (P:Program) (ops:Array Oper) (Q:Exit→Act→World→Prop) (i:Nat) (K:Act→World→Prop) (a:Act) (w:World):Prop :=
 match ops[i]? with
 | none=>K a w
 | some o=>if Region.wanted o (yielded ops a.tmps) then opX P o a w K Q else K (a.put o.dst undef) w
def a8M (P:Program) (md:Region.Mode) (ops:Array Oper) (Q:Exit→Act→World→Prop):Nat→Array Bool→Act→World→Prop
  | 0,listed,a,w=>Region.ready md ops listed=[]∧Q .normal a w
  | fuel + 1, listed, a, w =>
    (Region.ready md ops listed=[]→Q .normal a w) ∧
    ∀ i∈Region.ready md ops listed,b3k P ops Q i (a8M P md ops Q fuel (listed.setIfInBounds i true)) a w
theorem b5P {i:Nat} {K K':Act→World→Prop} {a:Act} {w:World} (hc:r=none∨∀ (i:Nat) (o:Oper),ops[i]?=some o→Oper.calm o=true) (hk:∀ a w,K a w→K' a w) (h:b3k P ops Q i K a w):wpOpIn (b9y r) 0 P ops Q i K' a w:=by
  unfold b3k at h
  unfold wpOpIn
  cases ho:ops[i]? with
  | none=>simp only [ho] at h;exact hk _ _ h
  | some o =>
    simp only [ho] at h ⊢
    split
    · rename_i hw;simp only [hw,if_true] at h;exact c5K (hc.imp id fun hc=>hc i o ho) (b1v hk h)
    · rename_i hw;simp only [hw] at h;exact ⟨fun _ _=>trivial,hk _ _ h⟩
theorem a8G {md:Region.Mode} (hc:r=none∨∀ (i:Nat) (o:Oper),ops[i]?=some o→Oper.calm o=true):∀ (fuel:Nat) (listed:Array Bool) (a:Act) (w:World),a8M P md ops Q fuel listed a w→wpAnyIn (b9y r) 0 P md ops Q fuel listed a w
 | 0,_,_,_,h=>h
 | fuel+1,listed,a,w,h=>⟨h.1,fun i hi=>b5P hc (fun a w h=>a8G hc fuel _ a w h) (h.2 i hi)⟩
theorem c3I {l:List Oper} (hc:r=none∨l.all Oper.calm=true):r=none∨∀ (i:Nat) (o:Oper),l.toArray[i]?=some o→Oper.calm o=true:=hc.imp id fun h i o ho=>by
 rw [List.all_eq_true] at h
 exact h o (List.mem_of_getElem? (by simpa using ho))
theorem a4w {id:Nat} {a:Act} {w:World} {l:List Oper} (hc:r=none∨l.all Oper.calm=true) (hm:P.follows .mixedOrders=true)
  (h:a8M P .any l.toArray Q l.toArray.size (Array.replicate l.toArray.size false) a { w with drawn:=w.drawn+1 }):Code.wpR r P (Code.region id l.toArray true) Q a w :=
 wpIn_region_any hm (a8G (c3I hc) _ _ _ _ h)
theorem a7y {p:Nat→Prop} (h:∃ n,p n):∃ n,p n∧∀ m,p m→n≤m:=by
  obtain ⟨n,hn⟩:=h
  induction n using Nat.strongRecOn with
  | _ n ih =>
    by_cases hm:∃ m,m < n∧p m
    · obtain ⟨m,h1,h2⟩:=hm;exact ih m h1 h2
    · exact ⟨n,hn,fun m hp=>Nat.le_of_not_lt fun hlt=>hm ⟨m,hlt,hp⟩⟩
theorem a6E {c:Code} {a:Act} {w:World} (I:Nat→Act→World→Prop) (n0:Nat) (h0:I n0 a w)
    (round:∀ n a w,I n a w→Code.wpR r P c (Exit.then (fun a' w'=>∃ m,m < n∧I m a' w') Q) a w):Code.wpR r P (.loop c) Q a w:=by
  classical
  let J:Act→World→Prop:=fun a w=>∃ n,I n a w
  let μ:Act→World→Nat:=fun a w=>if h:∃ n,I n a w then Classical.choose (a7y h) else 0
  refine wpIn_loop J μ ⟨n0,h0⟩ fun a w hJ=>?_
  have hf:=(Classical.choose_spec (a7y hJ)).1
  refine wpIn_mono (round _ a w hf) fun e a' w' hq=>?_
  cases e with
  | normal =>
    obtain ⟨m,hm,hI⟩:=hq
    have h1:∃ n,I n a' w':=⟨m,hI⟩
    refine ⟨h1,?_⟩
    show (if h:∃ n,I n a' w' then Classical.choose (a7y h) else 0) < (if h:∃ n,I n a w then Classical.choose (a7y h) else 0)
    rw [dif_pos h1,dif_pos hJ]
    exact Nat.lt_of_le_of_lt ((Classical.choose_spec (a7y h1)).2 _ hI) hm
  | _=>exact hq
end
inductive TV where
 | v (x:HV)
 | un (j:Nat) (b:Bool) (x:HV)
def tget:List (Nat×TV)→Nat→Option TV
 | [],_=>none
 | (k,x)::r,t=>match Nat.beq k t with | true=>some x | false=>tget r t
def hget:List (Nat×HObj)→Nat→Option HObj
 | [],_=>none
 | (k,x)::r,t=>match Nat.beq k t with | true=>some x | false=>hget r t
def a0O:List (Nat×TV)→Nat→Bool
 | [],_=>true
 | (_,.un j _ _)::r,d=>!Nat.beq j d&&a0O r d
 | (_,.v _)::r,d=>a0O r d
def hupd (h:Nat→Option HObj) (p:List (Nat×HObj)):Nat→Option HObj:=p.foldr (fun q h=>a2I h q.1 q.2) h
theorem a0o (k:Nat) (o:HObj) (r:List (Nat×HObj)):hget ((k,o)::r)=a2I (hget r) k o:=by
 funext t
 simp only [hget,a2I]
 by_cases h:t=k
 ·subst h;rw [show Nat.beq t t=true from Nat.beq_refl t];simp
 ·rw [show Nat.beq k t=false from by rw [←Bool.not_eq_true,Nat.beq_eq];omega];simp [h]
theorem a0I (p r:List (Nat×HObj)):hget (p++r)=hupd (hget r) p:=by
 induction p with
 | nil=>rfl
 | cons q p ih=>obtain ⟨k,o⟩:=q;rw [List.cons_append,a0o,ih];rfl
theorem a0x (k:Nat) (x:TV) (r:List (Nat×TV)) (t:Nat):tget ((k,x)::r) t=if t=k then some x else tget r t:=by
 simp only [tget]
 by_cases h:t=k
 ·subst h;rw [show Nat.beq t t=true from Nat.beq_refl t];simp
 ·rw [show Nat.beq k t=false from by rw [←Bool.not_eq_true,Nat.beq_eq];omega];simp [h]
def TVRep (w:World) (E:Env) (a:Act) (val:Value):TV→Prop
 | .v x=>Rep w E val x
 | .un j b x=>(a.tmps.getD j undef=.bool b→Rep w E val x)∧(a.tmps.getD j undef≠.bool b→val=undef)
theorem TVRep.ext {w w':World} {E E':Env} {a:Act} {val:Value} {x:TV} (h:TVRep w E a val x) (e:Ext w E w' E'):TVRep w' E' a val x:=by
 cases x with
 | v x=>exact Rep.ext e h
 | un j b x=>exact ⟨fun hj=>Rep.ext e (h.1 hj),h.2⟩
structure HSt where
 n:Nat
 tm:List (Nat×TV)
 hp:List (Nat×HObj)
 clk:Nat
structure Ctx where
 K:Nat→Prop
 w0:World
 E0:Env
 ds:List HV
 rd:Option Nat
 mks:Option Nat
def DefOk (mk:Option Nat) (w:World) (E:Env):List HV→List Deferred→Prop
 | [],l=>match mk with | none=>l=[] | some B=>∃ Ds:List Nat,l=Ds.map (fun D=>⟨.collected D,#[]⟩)∧Ds.Nodup∧∀ D∈Ds,E.M D∧B≤D
 | x::xs,l=>∃ fv cap r,l=⟨.fn fv cap,#[]⟩::r∧Rep w E (.func fv #[] cap) x∧DefOk mk w E xs r
theorem DefOk.ext {w w':World} {E E':Env} {mk:Option Nat}:∀ {ds:List HV} {l:List Deferred},DefOk mk w E ds l→Ext w E w' E'→DefOk mk w' E' ds l
 | [],_,h,e=>match mk,h with | none,h=>h | some _,⟨Ds,h1,h2,h3⟩=>⟨Ds,h1,h2,fun D hD=>⟨e.M D (h3 D hD).1,(h3 D hD).2⟩⟩
 | _::_,_,⟨fv,cap,r,h1,h2,h3⟩,e=>⟨fv,cap,r,h1,h2.ext e,h3.ext e⟩
def Sat (C:Ctx) (s:HSt) (a:Act) (w:World):Prop :=
 ∃ E,Ext C.w0 C.E0 w E∧R C.K C.w0 C.E0.F E (hget s.hp) w∧(∀ g,E.G g→g < s.clk)∧a.tmps.size=s.n∧DefOk C.mks w E C.ds a.defers∧∀ t x,tget s.tm t=some x→TVRep w E a (a.tmps.getD t undef) x
def HQ (C:Ctx) (Q:Exit→Act→World→Prop) (e:Exit) (s:HSt):Prop:=∀ a w,Sat C s a w→Q e a w
def HWp (C:Ctx) (P:Program) (c:Code) (s:HSt) (Q:Exit→Act→World→Prop):Prop:=∀ a w,Sat C s a w→Code.wpR C.rd P c Q a w
def HSeq (C:Ctx) (P:Program) (ops:Array Oper) (l:List Oper) (s:HSt) (Q:Exit→Act→World→Prop):Prop:=∀ a w,Sat C s a w→a8R P ops Q l a w
structure HSpec where
 tv:TV
 need:List Nat
 pre:List (Nat×HObj)
 post:List (Nat×HObj)
def HStep (P:Program) (ops:Array Oper) (o:Oper) (tm:Nat→Option TV) (g:Nat) (s:HSpec):Prop :=
  ∀ K w0 F0 E h a w Q (N : Act → World → Prop), R K w0 F0 E h w → (∀ t x, t ∈ s.need → tm t = some x → TVRep w E a (a.tmps.getD t undef) x) → ¬ E.G g → (∃ c, ∀ g', E.G g' → g' < c) → (∀ p ∈ s.pre, h p.1 = some p.2) →
    (∀ val w' E',Ext w E w' E'→R K w0 F0 E' (hupd h s.post) w'→(∀ g',E'.G g'→E.G g'∨(s.post≠[]∧g'=g))→TVRep w' E' a val s.tv→N (a.put o.dst val) w') →
    if Region.wanted o (yielded ops a.tmps)=true then o.wp P a w N Q else N (a.put o.dst undef) w
section
variable {C:Ctx} {P:Program} {ops:Array Oper} {Q:Exit→Act→World→Prop} {s:HSt} {o:Oper} {rest:List Oper}
theorem a0w {a:Act} {d t:Nat} {v:Value} (h:t≠d):(a.put (some d) v).tmps.getD t undef=a.tmps.getD t undef:=by
 simp [Act.put,Array.getElem?_setIfInBounds,Ne.symm h]
theorem a0R {a:Act} {d:Nat} {v:Value} (h:d < a.tmps.size):(a.put (some d) v).tmps.getD d undef=v:=by
 simp [Act.put,Array.getElem?_setIfInBounds,h]
theorem a2b {tm:List (Nat×TV)} {d:Nat} (h:a0O tm d=true):∀ t j b x,tget tm t=some (.un j b x)→j≠d:=by
  induction tm with
  | nil=>intro t j b x h;cases h
  | cons q r ih =>
    obtain ⟨k,y⟩:=q
    intro t j b x ht
    rw [a0x] at ht
    cases y with
    | v y =>
      have h:a0O r d=true:=h
      split at ht
      · injection ht with ht;cases ht
      · exact ih h t j b x ht
    | un j' b' y =>
      have h:(!Nat.beq j' d&&a0O r d)=true:=h
      rw [Bool.and_eq_true] at h
      split at ht
      · injection ht with ht
        injection ht with h1 h2 h3
        subst h1
        have:=h.1
        rw [Bool.not_eq_true',←Bool.not_eq_true,Nat.beq_eq] at this
        exact this
      · exact ih h.2 t j b x ht
theorem a2H (h:HQ C Q .normal s):HSeq C P ops [] s Q:=fun a w hs=>h a w hs
theorem b3p (d:Nat) (sp:HSpec) (hd:o.dst=some d) (hst:HStep P ops o (tget s.tm) s.clk sp) (hpre:∀ p∈sp.pre,hget s.hp p.1=some p.2) (hlt:Nat.blt d s.n=true) (hk:a0O s.tm d=true)
  (h:HSeq C P ops rest ⟨s.n,(d,sp.tv)::s.tm,sp.post++s.hp,s.clk+1⟩ Q) (hs:∀ j b x,sp.tv=.un j b x→j≠d):HSeq C P ops (o::rest) s Q:=by
 intro a w ⟨E,e0,r,hG,hsz,hdf,ht⟩
 have hlt:d < s.n:=by simpa [Nat.blt_eq] using hlt
 unfold a8R
 refine c8V (hst C.K C.w0 C.E0.F E (hget s.hp) a w Q _ r (fun t x _ hx=>ht t x hx) (fun hg=>absurd (hG _ hg) omo) ⟨_,hG⟩ hpre (fun val w' E' e r' hG' hv=>?_))
 rw [hd]
 refine h _ w' ⟨E',e0.trans e,by simp only [a0I];exact r',fun g hg=>?_,by simp [Act.put,hsz],hdf.ext e,fun t x hx=>?_⟩
 ·rcases hG' g hg with h1 | h1
  ·exact Nat.lt_succ_of_lt (hG g h1)
  ·rw [h1.2];exact Nat.lt_succ_self _
 ·simp only [a0x] at hx
  have same:∀ (val:Value) (y:TV),(∀ j b z,y=.un j b z→j≠d)→TVRep w' E' a val y→TVRep w' E' (a.put (some d) val) val y:=by
   intro u y hy h
   cases y with
   | v z=>exact h
   | un j b z=>simp only [TVRep,a0w (hy j b z rfl)];exact h
  have same':∀ (u:Value) (y:TV),(∀ j b z,y=.un j b z→j≠d)→TVRep w' E' a u y→TVRep w' E' (a.put (some d) val) u y:=by
   intro u y hy h
   cases y with
   | v z=>exact h
   | un j b z=>simp only [TVRep,a0w (hy j b z rfl)];exact h
  split at hx
  ·rename_i htd
   subst htd
   injection hx with hx
   subst hx
   rw [a0R (by rw [hsz];exact hlt)]
   exact same val _ hs hv
  ·rename_i htd
   rw [a0w htd]
   exact same' _ _ (fun j b z hz=>a2b hk t j b z (by rw [hx,hz])) ((ht t x hx).ext e)
theorem a2W (d:Nat) (sp:HSpec) (hd:o.dst=some d) (hpost:sp.post=[]) (hst:HStep P ops o (tget s.tm) s.clk sp) (hpre:∀ p∈sp.pre,hget s.hp p.1=some p.2) (hlt:Nat.blt d s.n=true) (hk:a0O s.tm d=true)
  (h:HSeq C P ops rest ⟨s.n,(d,sp.tv)::s.tm,s.hp,s.clk⟩ Q) (hs:∀ j b x,sp.tv=.un j b x→j≠d):HSeq C P ops (o::rest) s Q:=by
 intro a w ⟨E,e0,r,hG,hsz,hdf,ht⟩
 have hlt:d < s.n:=by simpa [Nat.blt_eq] using hlt
 unfold a8R
 refine c8V (hst C.K C.w0 C.E0.F E (hget s.hp) a w Q _ r (fun t x _ hx=>ht t x hx) (fun hg=>absurd (hG _ hg) omo) ⟨_,hG⟩ hpre (fun val w' E' e r' hG' hv=>?_))
 rw [hd]
 refine h _ w' ⟨E',e0.trans e,by rw [hpost] at r';exact r',fun g hg=>?_,by simp [Act.put,hsz],hdf.ext e,fun t x hx=>?_⟩
 ·rcases hG' g hg with h1 | h1
  ·exact hG g h1
  ·exact absurd hpost h1.1
 ·simp only [a0x] at hx
  have same:∀ (val:Value) (y:TV),(∀ j b z,y=.un j b z→j≠d)→TVRep w' E' a val y→TVRep w' E' (a.put (some d) val) val y:=by
   intro u y hy h
   cases y with
   | v z=>exact h
   | un j b z=>simp only [TVRep,a0w (hy j b z rfl)];exact h
  have same':∀ (u:Value) (y:TV),(∀ j b z,y=.un j b z→j≠d)→TVRep w' E' a u y→TVRep w' E' (a.put (some d) val) u y:=by
   intro u y hy h
   cases y with
   | v z=>exact h
   | un j b z=>simp only [TVRep,a0w (hy j b z rfl)];exact h
  split at hx
  ·rename_i htd
   subst htd
   injection hx with hx
   subst hx
   rw [a0R (by rw [hsz];exact hlt)]
   exact same val _ hs hv
  ·rename_i htd
   rw [a0w htd]
   exact same' _ _ (fun j b z hz=>a2b hk t j b z (by rw [hx,hz])) ((ht t x hx).ext e)
theorem b8p (sp:HSpec) (hd:o.dst=none) (hst:HStep P ops o (tget s.tm) s.clk sp) (hpre:∀ p∈sp.pre,hget s.hp p.1=some p.2)
  (h:HSeq C P ops rest ⟨s.n,s.tm,sp.post++s.hp,s.clk+1⟩ Q):HSeq C P ops (o::rest) s Q:=by
 intro a w ⟨E,e0,r,hG,hsz,hdf,ht⟩
 unfold a8R
 refine c8V (hst C.K C.w0 C.E0.F E (hget s.hp) a w Q _ r (fun t x _ hx=>ht t x hx) (fun hg=>absurd (hG _ hg) omo) ⟨_,hG⟩ hpre (fun val w' E' e r' hG' hv=>?_))
 rw [hd]
 refine h _ w' ⟨E',e0.trans e,by simp only [a0I];exact r',fun g hg=>?_,hsz,hdf.ext e,fun t x hx=>(ht t x hx).ext e⟩
 rcases hG' g hg with h1 | h1
 ·exact Nat.lt_succ_of_lt (hG g h1)
 ·rw [h1.2];exact Nat.lt_succ_self _
theorem b3i {id:Nat} {l:List Oper} (h:HSeq C P l.toArray l s Q) (nd:C.rd=none∨l.all Oper.calm=true:=by first | exact .inr rfl | exact .inl rfl | exact .inl (by assumption)):HWp C P (.region id l.toArray false) s Q:=fun a w hs=>b8n nd (h a w hs)
theorem c9X {x y:Code} (h:∀ N:Act→World→Prop,(∀ s',HWp C P y s' Q→∀ a w,Sat C s' a w→N a w)→HWp C P x s (Exit.then N Q)):HWp C P (.seq x y) s Q :=
 fun a w hs=>wpIn_seq (h _ (fun s' hy a w hs=>hy a w hs) a w hs)
theorem c7Y (h:HQ C Q .normal s):HWp C P .skip s Q:=fun a w hs=>wpIn_skip (h a w hs)
theorem c8E {id:Nat} (h:HQ C Q (.exit id) s):HWp C P (.exit id) s Q:=fun a w hs=>wpIn_exit (h a w hs)
theorem c9Y (h:HQ C Q .ret s):HWp C P .ret s Q:=fun a w hs=>wpIn_ret (h a w hs)
theorem c4D {id:Nat} {c:Code} (h:HWp C P c s (Exit.inBlock id Q)):HWp C P (.block id c) s Q:=fun a w hs=>wpIn_block (h a w hs)
theorem c7I {t:Nat} {x y:Code} (b:Bool) (hb:tget s.tm t=some (.v (.imm (.bool b)))) (h1:b=true→HWp C P x s Q) (h2:b=false→HWp C P y s Q):HWp C P (.cond (.tmp t) x y) s Q:=by
 intro a w hs
 have hs':=hs
 obtain ⟨E,e0,r,hG,hsz,hdf,ht⟩:=hs'
 have hv:=ht t _ hb
 have hv:a.eval (.tmp t)=.bool b:=by
  show a.tmps.getD t undef=_
  generalize a.tmps.getD t undef=u at hv
  cases hv
  rfl
 exact wpIn_cond_split hv (fun hb=>h1 hb a w hs) (fun hb=>h2 hb a w hs)
theorem a0c {N:Act→World→Prop} {id:Nat} (h:HQ C Q (.exit id) s):HQ C (Exit.then N Q) (.exit id) s:=h
theorem a0q {N:Act→World→Prop} (h:HQ C Q .ret s):HQ C (Exit.then N Q) .ret s:=h
theorem b2T {id:Nat} (h:HQ C Q .normal s):HQ C (Exit.inBlock id Q) (.exit id) s:=fun a w hs=>by
 show if id=id then Q .normal a w else Q (.exit id) a w
 rw [if_pos rfl];exact h a w hs
theorem b5i {id id':Nat} (hne:Nat.beq id' id=false) (h:HQ C Q (.exit id') s):HQ C (Exit.inBlock id Q) (.exit id') s:=fun a w hs=>by
 show if id'=id then Q .normal a w else Q (.exit id') a w
 rw [if_neg (by rw [←Bool.not_eq_true,Nat.beq_eq] at hne;exact hne)];exact h a w hs
def a4D (C:Ctx) (s s':HSt):Prop:=∀ a w,Sat C s a w→Sat C s' a w
theorem a4D.wp {s':HSt} {c:Code} (hs:a4D C s s') (h:HWp C P c s' Q):HWp C P c s Q:=fun a w ha=>h a w (hs a w ha)
theorem a4D.q {s':HSt} {e:Exit} (hs:a4D C s s') (h:HQ C Q e s'):HQ C Q e s:=fun a w ha=>h a w (hs a w ha)
theorem c7w {α:Type} {body:Code} (st:α→HSt) (I:α→Prop) (m:α→Nat) (x0:α) (h0:I x0) (hs0:a4D C s (st x0))
  (round:∀ x,I x→∀ N:Act→World→Prop,(∀ y s',I y→m y < m x→a4D C s' (st y)→∀ a w,Sat C s' a w→N a w)→HWp C P body (st x) (Exit.then N Q)):HWp C P (.loop body) s Q:=by
 intro a w hs
 refine a6E (fun n a w=>∃ x,m x=n∧I x∧Sat C (st x) a w) (m x0) ⟨x0,rfl,h0,hs0 a w hs⟩ ?_
 rintro n a w ⟨x,rfl,hx,hs⟩
 exact round x hx _ (fun y s' hy hlt hsub a w hs=>⟨m y,hlt,y,rfl,hy,hsub a w hs⟩) a w hs
end
section
variable {K:Nat→Prop} {w0 w w':World} {F0:Addr→Prop} {E E':Env} {h h':Nat→Option HObj}
def HObj.full (o:HObj):HObj:={ o with fl:=max o.fl o.n }
theorem R.share (r:R K w0 F0 E h w) (id:Nat) (o:HObj) (ho:h id=some o) :
  ∃ E',Ext w E w E'∧E'.L=E.L∧E'.G=E.G∧(∀ l b,E.L id=some l→l.A=some b→∀ k,k < o.n * o.sz→E'.F ⟨b,k,none⟩)∧R K w0 F0 E' (a2I h id o.full) w:=by
 obtain ⟨l,hl,a⟩:=r.obj id o ho
 let E':Env:=⟨fun p=>E.F p∨∃ b k,l.A=some b∧k < o.n * o.sz∧p=⟨b,k,none⟩,E.L,E.G,E.M⟩
 have e:Ext w E w E':=⟨Nat.le_refl _,fun p hp=>⟨.inl hp,rfl⟩,fun _ hg=>hg,fun _ _ hl _=>hl,fun _ h=>h⟩
 refine ⟨E',e,rfl,rfl,fun l' b hl' hb k hk=>?_,r.os,r.tape,r.output,r.size,r.keep,fun p hp=>?_,fun p hp=>?_,r.klib,r.lib,r.bks,fun k o1 ho1=>?_,fun k k' o1 o2 l1 l2 b' ho1 ho2 hl1 hl2 hb1 hb2=>?_⟩
 ·rw [hl] at hl';injection hl' with hl';subst hl'
  exact .inr ⟨b,k,hb,hk,rfl⟩
 ·rcases hp with hp | ⟨b,k,hb,hk,rfl⟩
  ·exact r.frz p hp
  ·rcases a.at_ with ⟨h0,_⟩ | ⟨b',cs,h1,h2,h3,h4,h5,h6,h8,h9⟩ | ⟨_,_,_,_,h3,_⟩
   rotate_right
   ·rw [h3.n,Nat.zero_mul] at hk;omega
   ·rw [h0] at hb;cases hb
   ·rw [h1] at hb;injection hb with hb;subst hb
    refine ⟨rfl,?_⟩
    have hlt:k < cs.size:=by rw [h3];exact Nat.lt_of_lt_of_le hk (Nat.mul_le_mul_right _ h4)
    rw [h2.cell,Array.getElem?_eq_getElem hlt];rfl
 ·rcases hp with hp | ⟨b,k,hb,hk,rfl⟩
  ·exact r.fnew p hp
  ·have h6:=a.notK hb
   ·by_cases hlt:b < w0.heap.size
    ·exact .inr (.inr (h6 hlt))
    ·exact .inr (.inl (by simpa using hlt))
 ·by_cases hk:k=id
  ·subst hk
   rw [a0v] at ho1;injection ho1 with ho1;subst ho1
   refine ⟨l,hl,a.g,a.G,a.sz,a.pos,?_⟩
   rcases a.at_ with h0 | ⟨b',cs,h1,h2,h3,h4,h5,h6,⟨vs,h8⟩,h9⟩ | ⟨b',ob,h1,h2,h3,h4⟩
   rotate_right
   ·refine .inr (.inr ⟨b',ob,h1,h2,?_,h4⟩)
    have e1:o.full=o:=by
     cases h3 <;> rfl
    rw [e1];exact h3
   ·exact .inl ⟨h0.1,h0.2.1,h0.2.2.1,Nat.max_le.2 ⟨h0.2.2.2,Nat.le_refl _⟩⟩
   ·refine .inr (.inl ⟨b',cs,h1,h2,h3,h4,h5,h6,⟨vs,fun i j hi hj=>⟨(h8 i j hi hj).1,(h8 i j hi hj).2.1,(h8 i j hi hj).2.2.ext e⟩⟩,fun kk hkk=>?_,Nat.max_le.2 ⟨h9.2,Nat.le_refl _⟩⟩)
    have hm1:o.fl * o.sz≤max o.fl o.n * o.sz:=Nat.mul_le_mul_right _ (Nat.le_max_left _ _)
    have hm2:o.n * o.sz≤max o.fl o.n * o.sz:=Nat.mul_le_mul_right _ (Nat.le_max_right _ _)
    rcases hkk with hkk | ⟨b,k',hb,hk',he⟩
    ·exact Nat.lt_of_lt_of_le (h9.1 kk hkk) hm1
    ·injection he with _ he;subst he
     exact Nat.lt_of_lt_of_le hk' hm2
  ·rw [a0s _ _ hk] at ho1
   obtain ⟨l1,hl1,a1⟩:=r.obj k o1 ho1
   refine ⟨l1,hl1,a1.ext e (fun _ _=>rfl) (fun b k' hb hF=>?_)⟩
   rcases hF with hF | ⟨b',k'',hb',_,he⟩
   ·exact hF
   ·injection he with he;subst he
    exact absurd (r.inj k id o1 o l1 l b ho1 ho hl1 hl hb hb') hk
 ·have old:∀ k o1,a2I h id o.full k=some o1→∃ o,h k=some o:=by
   intro k o1 ho1
   by_cases hk:k=id
   ·subst hk;exact ⟨o,ho⟩
   ·rw [a0s _ _ hk] at ho1;exact ⟨o1,ho1⟩
  obtain ⟨p1,hp1⟩:=old k o1 ho1
  obtain ⟨p2,hp2⟩:=old k' o2 ho2
  exact r.inj k k' p1 p2 l1 l2 b' hp1 hp2 hl1 hl2 hb1 hb2
def a1u:List Nat→Bool
 | []=>true
 | x::r=>!(r.any (Nat.beq x))&&a1u r
theorem b5E (h:Nat→Option HObj):∀ (p:List (Nat×HObj)) (id:Nat),(p.map (·.1)).any (Nat.beq id)=false→hupd h p id=h id
  | [],_,_=>rfl
  | q :: p, id, hn => by
    simp only [List.map_cons,List.any_cons,Bool.or_eq_false_iff] at hn
    have hne:id≠q.1:=by have:=hn.1;rw [←Bool.not_eq_true,Nat.beq_eq] at this;exact this
    show a2I (hupd h p) q.1 q.2 id=_
    rw [a0s _ _ hne,b5E h p id hn.2]
def b1h (w:World) (E:Env) (sh:List (Nat×HObj)):Prop:=∀ id o,(id,o)∈sh→∃ l,E.L id=some l∧l.g=o.g∧l.sz=o.sz∧0 < o.sz∧(o.n=0∨∃ b cs,l.A=some b∧Blk w b o.ty cs∧o.n * o.sz≤cs.size ∧
 (∀ k,k < o.n * o.sz→E.F ⟨b,k,none⟩)∧∃ vs:Nat→Nat→Value,∀ i j,i < o.n→j < o.sz→cs[i * o.sz+j]?=some (vs i j)∧(vs i j).oneCell'=true∧Rep w E (vs i j) (o.f i j))
theorem R.shareAll (r:R K w0 F0 E h w):∀ (sh:List (Nat×HObj)),a1u (sh.map (·.1))=true→(∀ p∈sh,h p.1=some p.2) →
    ∃ E',Ext w E w E'∧E'.L=E.L∧E'.G=E.G∧b1h w E' sh∧R K w0 F0 E' (hupd h (sh.map fun p=>(p.1,p.2.full))) w
  | [],_,_=>⟨E,Ext.refl _ _,rfl,rfl,(fun _ _ h=>by cases h),r⟩
  | q :: sh, hd, hp => by
    simp only [List.map_cons,a1u,Bool.and_eq_true,Bool.not_eq_true'] at hd
    obtain ⟨E1,e1,hL1,hG1,hs1,r1⟩:=R.shareAll r sh hd.2 (fun p hpm=>hp p (List.mem_cons_of_mem _ hpm))
    have hq:hupd h (sh.map fun p=>(p.1,p.2.full)) q.1=some q.2:=by
      rw [b5E _ _ _ (by simpa [List.map_map,Function.comp_def] using hd.1)]
      exact hp q (List.mem_cons_self ..)
    obtain ⟨E2,e2,hL2,hG2,hF2,r2⟩:=r1.share q.1 q.2 hq
    refine ⟨E2,e1.trans e2,hL2.trans hL1,hG2.trans hG1,fun id o hm=>?_,r2⟩
    rcases List.mem_cons.1 hm with he | hm
    · obtain ⟨l,hl,a⟩:=r1.obj q.1 q.2 hq
      have:q=(id,o):=he.symm
      subst this
      refine ⟨l,by rw [hL2];exact hl,a.g,a.sz,a.pos,?_⟩
      rcases a.at_ with ⟨_,_,h0⟩ | ⟨b',cs,h1,h2,h3,h4,h5,h6,⟨vs,h8⟩,h9⟩ | ⟨_,_,_,_,h3,_⟩
      rotate_right
      · exact .inl h3.n
      · exact .inl h0.1
      · exact .inr ⟨b',cs,h1,h2,by rw [h3];exact Nat.mul_le_mul_right _ h4,fun k hk=>hF2 l b' hl h1 k hk,vs,fun i j hi hj=>⟨(h8 i j hi hj).1,(h8 i j hi hj).2.1,(h8 i j hi hj).2.2.ext e2⟩⟩
    · obtain ⟨l,hl,h1,h2,h3,h4⟩:=hs1 id o hm
      refine ⟨l,by rw [hL2];exact hl,h1,h2,h3,h4.imp (fun h=>h) ?_⟩
      rintro ⟨b,cs,g1,g2,g3,g4,vs,g5⟩
      exact ⟨b,cs,g1,g2,g3,fun k hk=>(e2.F _ (g4 k hk)).1,vs,fun i j hi hj=>⟨(g5 i j hi hj).1,(g5 i j hi hj).2.1,(g5 i j hi hj).2.2.ext e2⟩⟩
end
inductive Fz (sh:List (Nat×HObj)):HV→HV→Prop
 | imm (v:Value):Fz sh (.imm v) (.imm v)
 | nil (c:Nat) (sz:Nat) (f:Nat→Nat→HV) (hc:c≤maxLen) (A:Option Addr):Fz sh (.imm (.slice A 0 c)) (.sl sz 0 f)
 | agg (n:Nat) (f f':Nat→HV) (h:∀ i,i < n→Fz sh (f i) (f' i)):Fz sh (.agg n f) (.agg n f')
 | tup (n:Nat) (f f':Nat→HV) (h:∀ i,i < n→Fz sh (f i) (f' i)):Fz sh (.tup n f) (.tup n f')
 | sl (sz n:Nat) (f f':Nat→Nat→HV) (h:∀ i j,i < n→j < sz→Fz sh (f i j) (f' i j)):Fz sh (.sl sz n f) (.sl sz n f')
 | fp (n m:Nat) (hm:m≤n) (f f':Nat→HV) (h:∀ i,i < m→Fz sh (f i) (f' i)):Fz sh (.fp n f) (.fp m f')
 | ifc (t:TypeId) (x y:HV) (h:Fz sh x y):Fz sh (.ifc t x) (.ifc t y)
 | fn (fn:Fn) (n:Nat) (f f':Nat→HV) (h:∀ i,i < n→Fz sh (f i) (f' i)):Fz sh (.fn fn n f) (.fn fn n f')
 | os (id g lo n:Nat) (o:HObj) (f':Nat→Nat→HV) (ho:(id,o)∈sh) (hg:o.g=g) (hn:lo+n≤o.n) (h:∀ i j,i < n→j < o.sz→Fz sh (o.f (lo+i) j) (f' i j)):Fz sh (.os id g lo n) (.sl o.sz n f')
 | pt (id g i off m:Nat) (o:HObj) (f':Nat→HV) (ho:(id,o)∈sh) (hg:o.g=g) (hi:i < o.n) (hm:off+m≤o.sz) (h:∀ j,j < m→Fz sh (o.f i (off+j)) (f' j)):Fz sh (.pt id g i off) (.fp m f')
def Env.just (F:Addr→Prop):Env:=⟨F,fun _=>none,fun _=>False,fun _=>False⟩
theorem Ext.just {w:World} {F:Addr→Prop} {E:Env} (h:∀ a,F a→E.F a):Ext w (Env.just F) w E:=⟨Nat.le_refl _,fun a ha=>⟨h a ha,rfl⟩,fun _ h=>h.elim,fun _ _ _ h=>h.elim,fun _ h=>h.elim⟩
theorem Fz.sound {w:World} {E:Env} {sh:List (Nat×HObj)} (hsh:b1h w E sh) {x y:HV} (hz:Fz sh x y):∀ {v:Value},Rep w E v x→Rep w (Env.just E.F) v y:=by
  induction hz with
  | imm v=>intro u h;cases h;exact .imm _
  | nil c sz f hc A=>intro u h;cases h;exact .sl _ 0 c sz f (fun _ _=>undef) (Nat.zero_le _) hc (fun h=>absurd h (Nat.lt_irrefl _)) (fun i j hi=>absurd hi (Nat.not_lt_zero _))
  | agg n f f' _ ih=>intro u h;cases h with | agg cs _ _ vs hn hv h=>exact .agg cs n f' vs hn hv (fun i hi=>ih i hi (h i hi))
  | tup n f f' _ ih=>intro u h;cases h with | tup cs _ _ vs hn hv h=>exact .tup cs n f' vs hn hv (fun i hi=>ih i hi (h i hi))
  | sl sz n f f' _ ih=>intro u h;cases h with | sl A _ c _ _ vs hc hm hA h=>exact .sl A n c sz f' vs hc hm hA (fun i j hi hj=>ih i j hi hj (h i j hi hj))
  | fp n m hm f f' _ ih=>intro u h;cases h with | fp b o _ _ vs hA h=>exact .fp b o m f' vs (fun j hj=>hA j (Nat.lt_of_lt_of_le hj hm)) (fun j hj=>ih j hj (h j (Nat.lt_of_lt_of_le hj hm)))
  | ifc t x y _ ih=>intro u h;cases h with | ifc _ v _ h=>exact .ifc t v y (ih h)
  | fn fn n f f' _ ih=>intro u h;cases h with | fn _ cs _ _ vs hn hv h=>exact .fn fn cs n f' vs hn hv (fun i hi=>ih i hi (h i hi))
  | os id g lo n o f' ho hg hn _ ih =>
    intro u h
    obtain ⟨l,hl,h1,h2,hpos,h3⟩:=hsh id o ho
    cases h with
    | os A _ c _ _ _ hgG hc hm hA _ =>
      rcases h3 with h0 | ⟨b,cs,g1,g2,g3,g4,vs,g5⟩
      · obtain rfl:n=0:=by omega
        exact .sl A 0 c o.sz f' (fun _ _=>undef) hc hm (fun h=>absurd h (Nat.lt_irrefl _)) (fun i j hi=>absurd hi (Nat.not_lt_zero _))
      · refine .sl A n c o.sz f' (fun i j=>vs (lo+i) j) hc hm (fun hp=>?_) (fun i j hi hj=>ih i j hi hj (g5 _ j omo hj).2.2)
        obtain ⟨b',k',rfl,hl2⟩:=hA hp
        obtain ⟨hb',rfl⟩:=hl2 l hl (h1.trans hg)
        rw [g1] at hb';injection hb' with hb';subst hb'
        refine ⟨b,lo * l.sz,rfl,g2.lt,fun i j hi hj=>?_⟩
        have e1:lo * l.sz+(i * o.sz+j)=(lo+i) * o.sz+j:=by rw [h2,Nat.add_mul];omega
        have hlt:=a7n (sz:=o.sz) (show lo+i < o.n by omega) hj
        rw [e1]
        exact ⟨g4 _ hlt,by rw [g2.cell];exact (g5 _ j omo hj).1,(g5 _ j omo hj).2.1⟩
  | pt id g i off m o f' ho hg hi hm _ ih =>
    intro u h
    obtain ⟨l,hl,h1,h2,hpos,h3⟩:=hsh id o ho
    cases h with
    | pt b' k' _ _ _ _ hgG hh =>
      obtain ⟨hb',rfl⟩:=hh l hl (h1.trans hg)
      rcases h3 with h0 | ⟨b,cs,g1,g2,g3,g4,vs,g5⟩
      · omega
      · rw [g1] at hb';injection hb' with hb';subst hb'
        refine .fp b _ m f' (fun j=>vs i (off+j)) (fun j hj=>?_) (fun j hj=>ih j hj (g5 i _ hi omo).2.2)
        have e1:i * l.sz+off+j=i * o.sz+(off+j):=by rw [h2];omega
        have hlt:=a7n (sz:=o.sz) hi (show off+j < o.sz by omega)
        rw [e1]
        exact ⟨g4 _ hlt,by rw [g2.cell];exact (g5 i _ hi omo).1,(g5 i _ hi omo).2.1⟩
inductive Sb:HV→HV→Prop
 | refl (x:HV):Sb x x
 | nil (c sz:Nat) (f:Nat→Nat→HV) (hc:c≤maxLen) (A:Option Addr):Sb (.imm (.slice A 0 c)) (.sl sz 0 f)
 | agg (n:Nat) (f f':Nat→HV) (h:∀ i,i < n→Sb (f i) (f' i)):Sb (.agg n f) (.agg n f')
 | tup (n:Nat) (f f':Nat→HV) (h:∀ i,i < n→Sb (f i) (f' i)):Sb (.tup n f) (.tup n f')
 | sl (sz n:Nat) (f f':Nat→Nat→HV) (h:∀ i j,i < n→j < sz→Sb (f i j) (f' i j)):Sb (.sl sz n f) (.sl sz n f')
 | fp (n m:Nat) (hm:m≤n) (f f':Nat→HV) (h:∀ i,i < m→Sb (f i) (f' i)):Sb (.fp n f) (.fp m f')
theorem Sb.sound {w:World} {E:Env} {x y:HV} (hz:Sb x y):∀ {v:Value},Rep w E v x→Rep w E v y:=by
 induction hz with
 | refl x=>exact fun h=>h
 | nil c sz f hc A=>intro u h;cases h;exact .sl _ 0 c sz f (fun _ _=>undef) (Nat.zero_le _) hc (fun h=>absurd h (Nat.lt_irrefl _)) (fun i j hi=>absurd hi (Nat.not_lt_zero _))
 | agg n f f' _ ih=>intro u h;cases h with | agg cs _ _ vs hn hv h=>exact .agg cs n f' vs hn hv (fun i hi=>ih i hi (h i hi))
 | tup n f f' _ ih=>intro u h;cases h with | tup cs _ _ vs hn hv h=>exact .tup cs n f' vs hn hv (fun i hi=>ih i hi (h i hi))
 | sl sz n f f' _ ih=>intro u h;cases h with | sl A _ c _ _ vs hc hm hA h=>exact .sl A n c sz f' vs hc hm hA (fun i j hi hj=>ih i j hi hj (h i j hi hj))
 | fp n m hm f f' _ ih=>intro u h;cases h with | fp b o _ _ vs hA h=>exact .fp b o m f' vs (fun j hj=>hA j (Nat.lt_of_lt_of_le hj hm)) (fun j hj=>ih j hj (h j (Nat.lt_of_lt_of_le hj hm)))
def a2m (o o':HObj):Prop:=o.g=o'.g∧o.n=o'.n∧o.sz=o'.sz∧o.ty=o'.ty∧o.fl≤o'.fl∧(∀ i j,i < o.n→j < o.sz→Sb (o.f i j) (o'.f i j))∧(o'.n < o'.fl→o=o')
theorem a2m.refl (o:HObj):a2m o o:=⟨rfl,rfl,rfl,rfl,Nat.le_refl _,fun _ _ _ _=>.refl _,fun _=>rfl⟩
theorem a2m.of {g n sz ty fl:Nat} {f f':Nat→Nat→HV} (h:∀ i j,i < n→j < sz→Sb (f i j) (f' i j)) (hfn:fl≤n:=by first | exact Nat.zero_le _ | exact Nat.le_refl _ | omega):a2m ⟨g,n,sz,ty,fl,f⟩ ⟨g,n,sz,ty,fl,f'⟩:=⟨rfl,rfl,rfl,rfl,Nat.le_refl _,h,fun h=>absurd hfn (Nat.not_le_of_lt h)⟩
theorem a2m.at_ {w:World} {E:Env} {K:Nat→Prop} {B:Nat} {o o':HObj} {l:Loc} (h:a2m o o') (a:ObjAt w E K B o l):ObjAt w E K B o' l:=by
 obtain ⟨g,n,sz,ty,fl,f⟩:=o
 obtain ⟨g',n',sz',ty',fl',f'⟩:=o'
 obtain ⟨h1,h2,h3,h4,h5,h6,h7⟩:=h
 simp only at h1 h2 h3 h4 h5 h6
 subst h1;subst h2;subst h3;subst h4
 refine ⟨a.g,a.G,a.sz,a.pos,?_⟩
 rcases a.at_ with h0 | ⟨b,cs,g1,g2,g3,g4,g5,g6,⟨vs,g8⟩,g9⟩ | ⟨b,ob,g1,g2,g3,g4⟩
 ·refine .inl ⟨h0.1,h0.2.1,h0.2.2.1,?_⟩
  rcases Nat.lt_or_ge n fl' with h | h
  ·have e1:=h7 h;injection e1 with _ _ _ _ e1 _;have:=h0.2.2.2;simp only at this ⊢;omega
  ·exact h
 ·refine .inr (.inl ⟨b,cs,g1,g2,g3,g4,g5,g6,⟨vs,fun i j hi hj=>⟨(g8 i j hi hj).1,(g8 i j hi hj).2.1,(h6 i j hi hj).sound (g8 i j hi hj).2.2⟩⟩,fun k hk=>Nat.lt_of_lt_of_le (g9.1 k hk) (Nat.mul_le_mul_right _ h5),?_⟩)
  rcases Nat.lt_or_ge n fl' with h | h
  ·have e1:=h7 h;injection e1 with _ _ _ _ e1 _;have:=g9.2;simp only at this ⊢;omega
  ·exact h
 ·refine .inr (.inr ⟨b,ob,g1,g2,?_,g4⟩)
  have e1:=h7 (by have:=g3.n;have:=g3.fl;simp only at *;omega)
  rw [←e1];exact g3
theorem R.weak {K:Nat→Prop} {w0 w:World} {F0:Addr→Prop} {E:Env} {h h':Nat→Option HObj} (r:R K w0 F0 E h w) (hh:∀ id o',h' id=some o'→∃ o,h id=some o∧a2m o o'):R K w0 F0 E h' w :=
  { r with obj:=fun id o ho=>by
             obtain ⟨o1,ho1,hs⟩:=hh id o ho
             obtain ⟨l,hl,a1⟩:=r.obj id o1 ho1
             exact ⟨l,hl,hs.at_ a1⟩
           inj:=fun id id' o o' l l' b ho ho' hl hl' hb hb'=>by
             obtain ⟨o1,ho1,_⟩:=hh id o ho
             obtain ⟨o2,ho2,_⟩:=hh id' o' ho'
             exact r.inj id id' o1 o2 l l' b ho1 ho2 hl hl' hb hb' }
def c6n (P:Program) (f:FuncId):Prop:=∃ fn c,P.funcs[f]?=some fn∧fn.body=some c∧(fn.name == "runtime.NumGoroutine")=false
def FzAll (sh:List (Nat×HObj)):List HV→List HV→Prop
 | [],[]=>True
 | x::xs,y::ys=>Fz sh x y∧FzAll sh xs ys
 | _,_=>False
def RepAll (w:World) (E:Env):List Value→List HV→Prop
 | [],[]=>True
 | v::vs,x::xs=>Rep w E v x∧RepAll w E vs xs
 | _,_=>False
def a1c (w:World) (F:Addr→Prop) (r:HV) (e:Ending) (w':World):Prop :=
 Below w.heap.size w w'∧∃ v F',e=.returned v∧(∀ a,F a→F' a)∧(∀ a,F' a→F a∨w.heap.size≤a.block)∧(∀ a,F' a→a.spot=none∧(w'.cell? a).isSome=true)∧Rep w' (Env.just F') v r
def HPure (P:Program) (f:FuncId) (args:List HV) (r:HV):Prop:=c6n P f ∧
 ∀ w F (vs:List Value),(∀ a,F a→a.spot=none∧(w.cell? a).isSome=true)→RepAll w (Env.just F) vs args→LibW w→Calls P f vs.toArray w (a1c w F r)
theorem FzAll.sound {w:World} {E:Env} {sh:List (Nat×HObj)} (hsh:b1h w E sh):∀ {vs:List Value} {xs ys:List HV},FzAll sh xs ys→RepAll w E vs xs→RepAll w (Env.just E.F) vs ys
 | [],[],[],_,_=>trivial
 | v::vs,x::xs,y::ys,h,hr=>⟨h.1.sound hsh hr.1,FzAll.sound hsh h.2 hr.2⟩
 | [],_::_,_,_,hr=>hr.elim
 | _::_,[],_,_,hr=>hr.elim
 | [],[],_::_,h,_=>h.elim
 | _::_,_::_,[],h,_=>h.elim
theorem RepAll.ext {w w':World} {E E':Env} (e:Ext w E w' E'):∀ {vs:List Value} {xs:List HV},RepAll w E vs xs→RepAll w' E' vs xs
 | [],[],_=>trivial
 | _::_,_::_,h=>⟨h.1.ext e,RepAll.ext e h.2⟩
 | [],_::_,h=>h.elim
 | _::_,[],h=>h.elim
section
variable {K:Nat→Prop} {w0 w w':World} {F0:Addr→Prop} {E E':Env} {h h':Nat→Option HObj} {P:Program}
theorem HPure.calls {f:FuncId} {ys:List HV} {r:HV} (hp:HPure P f ys r) (rr:R K w0 F0 E h w) (sh:List (Nat×HObj)) (hd:a1u (sh.map (·.1))=true) (hsh:∀ p∈sh,h p.1=some p.2) (xs:List HV) (vs:List Value) (hz:FzAll sh xs ys) (hr:RepAll w E vs xs) :
  Calls P f vs.toArray w fun e w'=>∃ v E',e=.returned v∧Ext w E w' E'∧R K w0 F0 E' (hupd h (sh.map fun p=>(p.1,p.2.full))) w'∧(∀ g,E'.G g→E.G g)∧Rep w' E' v r:=by
 obtain ⟨E1,e1,hL1,hG1,hs1,r1⟩:=rr.shareAll sh hd hsh
 refine (hp.2 w E1.F vs r1.frz (hz.sound hs1 (hr.ext e1)) rr.libw).mono ?_
 rintro e w' ⟨hb,v,F',rfl,hF1,hF2,hF3,hv⟩
 have e2:Ext w E1 w' ⟨F',E1.L,E1.G,E1.M⟩:=⟨hb.size,fun a ha=>⟨hF1 a ha,((r1.extBelow hb).F a ha).2⟩,fun _ hg=>hg,fun _ _ hl _=>hl,fun _ h=>h⟩
 exact ⟨v,⟨F',E1.L,E1.G,E1.M⟩,rfl,e1.trans e2,r1.grow hb e2 rfl hF2 hF3,fun g hg=>by rw [←hG1];exact hg,hv.ext (Ext.just (fun _ h=>h))⟩
end
def ovl (tm:Nat→Option HV):Operand→Option HV
 | .tmp t=>tm t
 | .const (.agg cs)=>match cs.all (·.oneCell') with | true=>some (.agg cs.size (fun i=>.imm (cs.getD i undef))) | false=>some (.imm (.agg cs))
 | .const v=>some (.imm v)
 | .global g=>some (.imm (.pointer (some ⟨g,0,none⟩)))
 | .func f=>some (.fn (.func f) 0 (fun _=>default))
theorem a5m (w:World) (E:Env) (tm:Nat→Option HV) (v:Value) (x:HV) (h:ovl tm (.const v)=some x):Rep w E v x:=by
 cases v <;> first | (injection h with h;subst h;exact .imm _) | skip
 rename_i cs
 simp only [ovl] at h
 split at h
 ·rename_i hall
  injection h with h
  subst h
  refine .agg cs cs.size _ (fun i=>cs.getD i undef) rfl (fun i hi=>⟨by simp [hi],?_⟩) (fun i hi=>.imm _)
  rw [Array.all_eq_true] at hall
  have:=hall i hi
  simpa [hi] using this
 ·injection h with h
  subst h
  exact .imm _
theorem Rep.imm_inv {w:World} {E:Env} {v u:Value} (h:Rep w E v (.imm u)):v=u:=by cases h;rfl
def OpRep (w:World) (E:Env) (ρ:Operand→Value) (o:Oper) (ov:Nat→Option HV):Prop:=∀ x hv,x∈o.op.operands.toList→ovl ov x=some hv→Rep w E (ρ x) hv
structure HOp (P:Program) (o:Oper) (ov:Nat→Option HV) (g:Nat) (pre:List (Nat×HObj)) (v:HV) (post:List (Nat×HObj)):Prop where
  h : ∀ K w0 F0 E h (a : Act) w Q (N : Act → World → Prop), R K w0 F0 E h w → OpRep w E a.eval o ov → ¬ E.G g → (∃ c, ∀ g', E.G g' → g' < c) → (∀ p ∈ pre, h p.1 = some p.2) →
    (∀ val w' E',Ext w E w' E'→R K w0 F0 E' (hupd h post) w'→(∀ g',E'.G g'→E.G g'∨(post≠[]∧g'=g))→Rep w' E' val v→N (a.put o.dst val) w')→o.wp P a w N Q
section
variable {P:Program} {ops:Array Oper} {ov:Nat→Option HV} {g:Nat}
theorem a4q {o:Oper} {a:Act} {w w':World} {N:Act→World→Prop} {Q:Exit→Act→World→Prop} {v:Value} (h:(execOp a.eval o).run P w=.ok (.value v) w') (hn:N (a.put o.dst v) w'):o.wp P a w N Q:=by
 unfold Oper.wp;rw [h];exact hn
theorem c6r {o:Oper} {a:Act} {w w':World} {N:Act→World→Prop} {Q:Exit→Act→World→Prop} (h:(execOp a.eval o).run P w=.ok .skip w') (hn:N (a.put o.dst undef) w'):o.wp P a w N Q:=by
 unfold Oper.wp;rw [h];exact hn
def a0F (tm:Nat→Option TV) (t:Nat):Option HV:=match tm t with | some (.v x)=>some x | _=>none
def a0A (o:Oper):List Nat:=o.op.operands.toList.filterMap fun | .tmp t=>some t | _=>none
theorem a6r {o:Oper} {t:Nat} (h:Operand.tmp t∈o.op.operands.toList):t∈a0A o:=List.mem_filterMap.2 ⟨_,h,rfl⟩
theorem a2L {o:Oper} {tm:Nat→Option TV} {pre post:List (Nat×HObj)} {v:HV} (hg:o.guard=none) (h:HOp P o (a0F tm) g pre v post):HStep P ops o tm g ⟨.v v,a0A o,pre,post⟩:=by
  intro K w0 F0 E hh a w Q N r ht hG hBd hp hN
  rw [if_pos (by simp [Region.wanted,hg])]
  refine h.h K w0 F0 E hh a w Q N r (fun x hv hx ho=>?_) hG hBd hp hN
  cases x with
  | tmp t =>
    simp only [ovl,a0F] at ho
    split at ho
    · rename_i y hy
      injection ho with ho
      subst ho
      exact ht t _ (a6r hx) hy
    · cases ho
  | const v=>exact a5m w E _ v _ ho
  | global k=>injection ho with ho;subst ho;exact .imm _
  | func f=>injection ho with ho;subst ho;exact .fn (.func f) #[] 0 _ (fun _=>undef) rfl (fun i hi=>absurd hi (Nat.not_lt_zero _)) (fun i hi=>absurd hi (Nat.not_lt_zero _))
def a1T (tm:Nat→Option TV) (j:Nat) (b:Bool) (t:Nat):Option HV :=
  match tm t with
  | some (.v x)=>some x
  | some (.un j1 b1 x) => match (Nat.beq j j1 && b == b1) with
    | true=>some x
    | false => match tm j with
      | some (.un j2 b2 _)=>match (Nat.beq j2 j1&&b2 == b1) with | true=>some x | false=>none
      | _=>none
  | none=>none
theorem a5i {w:World} {E:Env} {a:Act} {tm:Nat→Option TV} {j:Nat} {b:Bool} {t:Nat} {x:HV} (hj:a.tmps.getD j undef=.bool b) (hk:∀ y,tm j=some y→TVRep w E a (a.tmps.getD j undef) y)
  (ht:∀ y,tm t=some y→TVRep w E a (a.tmps.getD t undef) y) (hx:a1T tm j b t=some x):Rep w E (a.tmps.getD t undef) x:=by
 unfold a1T at hx
 split at hx
 ·rename_i y hy;injection hx with hx;subst hx;exact ht _ hy
 ·rename_i j1 b1 y hy
  have h1:=ht _ hy
  split at hx
  ·rename_i hb
   injection hx with hx
   subst hx
   simp only [Bool.and_eq_true,Nat.beq_eq,beq_iff_eq] at hb
   obtain ⟨rfl,rfl⟩:=hb
   exact h1.1 hj
  ·split at hx
   ·rename_i j2 b2 z hz
    split at hx
    ·rename_i hb
     injection hx with hx
     subst hx
     simp only [Bool.and_eq_true,Nat.beq_eq,beq_iff_eq] at hb
     obtain ⟨rfl,rfl⟩:=hb
     have h2:=hk _ hz
     refine h1.1 ?_
     by_cases h3:a.tmps.getD j2 undef=.bool b2
     ·exact h3
     ·have:=h2.2 h3
      rw [hj] at this
      exact absurd this (by simp [undef])
    ·cases hx
   ·cases hx
 ·cases hx
theorem a6J {o:Oper} {tm:Nat→Option TV} {pre:List (Nat×HObj)} {v:HV} (gi j:Nat) (b c:Bool) (hg:o.guard=some (gi,b)) (hgi:(ops[gi]?).bind (·.dst)=some j)
  (hc:tm j=some (.v (.imm (.bool c)))∨∃ j2 b2,tm j=some (.un j2 b2 (.imm (.bool c)))) (h:c=b→HOp P o (a1T tm j b) g pre v []):HStep P ops o tm g ⟨.un j b v,j::a0A o,pre,[]⟩:=by
 intro K w0 F0 E hh a w Q N r ht hG hBd hp hN
 have hwant:Region.wanted o (yielded ops a.tmps)=true↔a.tmps.getD j undef=.bool b:=by
  unfold Region.wanted yielded
  rw [hg]
  simp only [hgi,Option.bind_some]
  by_cases hj:j < a.tmps.size
  ·have e1:a.tmps[j]?=some a.tmps[j]:=Array.getElem?_eq_getElem hj
   have e2:a.tmps.getD j undef=a.tmps[j]:=by simp [hj]
   rw [e1,e2]
   cases h:a.tmps[j] <;> simp
  ·have e1:a.tmps[j]?=none:=Array.getElem?_eq_none omo
   have e2:a.tmps.getD j undef=undef:=by simp [hj]
   rw [e1,e2]
   try simp [undef]
 by_cases hj:a.tmps.getD j undef=.bool b
 ·rw [if_pos (hwant.2 hj)]
  have hcb:c=b:=by
   rcases hc with hc | ⟨j2,b2,hc⟩
   ·have:=Rep.imm_inv (ht j _ (List.mem_cons_self ..) hc)
    rw [hj] at this;injection this with this;exact this.symm
   ·have h2:=ht j _ (List.mem_cons_self ..) hc
    by_cases h3:a.tmps.getD j2 undef=.bool b2
    ·have:=Rep.imm_inv (h2.1 h3)
     rw [hj] at this;injection this with this;exact this.symm
    ·have:=h2.2 h3
     rw [hj] at this
     exact absurd this (by simp [undef])
  refine (h hcb).h K w0 F0 E hh a w Q N r (fun x hv hx ho=>?_) hG hBd hp (fun val w' E' e r' hG' hv=>hN val w' E' e r' hG' ⟨fun _=>hv,fun hne=>absurd hj hne⟩)
  cases x with
  | tmp t=>exact a5i hj (fun y hy=>ht j y (List.mem_cons_self ..) hy) (fun y hy=>ht t y (List.mem_cons_of_mem _ (a6r hx)) hy) ho
  | const v=>exact a5m w E _ v _ ho
  | global k=>injection ho with ho;subst ho;exact .imm _
  | func f=>injection ho with ho;subst ho;exact .fn (.func f) #[] 0 _ (fun _=>undef) rfl (fun i hi=>absurd hi (Nat.not_lt_zero _)) (fun i hi=>absurd hi (Nat.not_lt_zero _))
 ·rw [if_neg (fun h=>hj (hwant.1 h))]
  exact hN undef w E (Ext.refl _ _) r (fun _ h=>.inl h) ⟨fun h=>absurd h hj,fun _=>rfl⟩
theorem a0t {o:Oper} {v:HV} (h:∀ (w:World) (E:Env) (ρ:Operand→Value),OpRep w E ρ o ov→∃ val,(execOp ρ o).run P w=.ok (.value val) w∧Rep w E val v):HOp P o ov g [] v []:=by
 refine ⟨?_⟩;intro K w0 F0 E hh a w Q N r ht hG hBd hp hN
 obtain ⟨val,h1,h2⟩:=h w E a.eval ht
 exact a4q h1 (hN val w E (Ext.refl _ _) r (fun _ h=>.inl h) h2)
theorem b1C {o:Oper} {v:HV} {id:Nat} {ob:HObj} (h:∀ K w0 F0 E hh (w:World) (ρ:Operand→Value),R K w0 F0 E hh w→hh id=some ob→OpRep w E ρ o ov→∃ val,(execOp ρ o).run P w=.ok (.value val) w∧Rep w E val v):HOp P o ov g [(id,ob)] v []:=by
 refine ⟨?_⟩;intro K w0 F0 E hh a w Q N r ht hG hBd hp hN
 obtain ⟨val,h1,h2⟩:=h K w0 F0 E hh w a.eval r (hp _ (List.mem_cons_self ..)) ht
 exact a4q h1 (hN val w E (Ext.refl _ _) r (fun _ h=>.inl h) h2)
section
variable {d:Option Tmp} {ty:TypeId} {pos:String} {af:Array Edge} {gd:Option (Nat×Bool)} {T yT:TypeId} {x y z:Operand} {hx hy:HV}
theorem a1p (h:ovl ov x=some hx):HOp P ⟨d,.move x,ty,pos,af,gd⟩ ov g [] hx [] :=
 a0t fun w E ρ hr=>⟨ρ x,rfl,hr x hx smo h⟩
theorem b0Y (h:ovl ov x=some hx):HOp P ⟨d,.assign x,ty,pos,af,gd⟩ ov g [] hx [] :=
 a0t fun w E ρ hr=>⟨ρ x,rfl,hr x hx smo h⟩
theorem a1J (op:BinOp) (a b c:Value) (h1:ovl ov x=some (.imm a)) (h2:ovl ov y=some (.imm b)) (hg:∀ w,(do eqGuard op T x y a b;binOp op T a b).run P w=.ok c w):HOp P ⟨d,.binOp op T x y yT,ty,pos,af,gd⟩ ov g [] (.imm c) [] :=
 a0t fun w E ρ hr=>by
  have e1:=Rep.imm_inv (hr x _ smo h1)
  have e2:=Rep.imm_inv (hr y _ smo h2)
  refine ⟨c,?_,.imm _⟩
  simp only [execOp,e1,e2]
  have:=hg w
  simp only [Sem.run_bind] at this ⊢
  rw [this]
  rfl
section
variable {k:IntKind} {a b:Int}
theorem c0M (h1:ovl ov x=some (.imm (.int k a))) (h2:ovl ov y=some (.imm (.int k b))):HOp P ⟨d,.binOp .add T x y yT,ty,pos,af,gd⟩ ov g [] (.imm (.int k (k.wrap (a+b)))) []:=a1J .add _ _ _ h1 h2 (fun w=>by simp [eqGuard,binOp,Op.intArith])
theorem a5J (h1:ovl ov x=some (.imm (.int k a))) (h2:ovl ov y=some (.imm (.int k b))):HOp P ⟨d,.binOp .sub T x y yT,ty,pos,af,gd⟩ ov g [] (.imm (.int k (k.wrap (a - b)))) []:=a1J .sub _ _ _ h1 h2 (fun w=>by simp [eqGuard,binOp,Op.intArith])
theorem c8f (h1:ovl ov x=some (.imm (.int k a))) (h2:ovl ov y=some (.imm (.int k b))):HOp P ⟨d,.binOp .mul T x y yT,ty,pos,af,gd⟩ ov g [] (.imm (.int k (k.wrap (a * b)))) []:=a1J .mul _ _ _ h1 h2 (fun w=>by simp [eqGuard,binOp,Op.intArith])
theorem c3V {c:Int} (h1:ovl ov x=some (.imm (.int .i64 a))) (h2:ovl ov y=some (.imm (.int .i64 b))) (hc:c=a+b) (hl:-9223372036854775808≤c) (hh:c≤9223372036854775807):HOp P ⟨d,.binOp .add T x y yT,ty,pos,af,gd⟩ ov g [] (.imm (.int .i64 c)) []:=by
 have:=c0M (P:=P) (g:=g) (d:=d) (ty:=ty) (pos:=pos) (af:=af) (gd:=gd) (T:=T) (yT:=yT) h1 h2
 rwa [←hc,b5D _ hl hh] at this
theorem a5l {c:Int} (h1:ovl ov x=some (.imm (.int .i64 a))) (h2:ovl ov y=some (.imm (.int .i64 b))) (hc:c=a - b) (hl:-9223372036854775808≤c) (hh:c≤9223372036854775807):HOp P ⟨d,.binOp .sub T x y yT,ty,pos,af,gd⟩ ov g [] (.imm (.int .i64 c)) []:=by
 have:=a5J (P:=P) (g:=g) (d:=d) (ty:=ty) (pos:=pos) (af:=af) (gd:=gd) (T:=T) (yT:=yT) h1 h2
 rwa [←hc,b5D _ hl hh] at this
theorem c3A {c:Int} (h1:ovl ov x=some (.imm (.int .i64 a))) (h2:ovl ov y=some (.imm (.int .i64 b))) (hc:c=a * b) (hl:-9223372036854775808≤c) (hh:c≤9223372036854775807):HOp P ⟨d,.binOp .mul T x y yT,ty,pos,af,gd⟩ ov g [] (.imm (.int .i64 c)) []:=by
 have:=c8f (P:=P) (g:=g) (d:=d) (ty:=ty) (pos:=pos) (af:=af) (gd:=gd) (T:=T) (yT:=yT) h1 h2
 rwa [←hc,b5D _ hl hh] at this
theorem c0K (h1:ovl ov x=some (.imm (.int k a))) (h2:ovl ov y=some (.imm (.int k b))):HOp P ⟨d,.binOp .eql T x y yT,ty,pos,af,gd⟩ ov g [] (.imm (.bool (a == b))) []:=a1J .eql _ _ _ h1 h2 (fun w=>by simp [eqGuard,binOp,Op.intCmp])
theorem c7g (h1:ovl ov x=some (.imm (.int k a))) (h2:ovl ov y=some (.imm (.int k b))):HOp P ⟨d,.binOp .neq T x y yT,ty,pos,af,gd⟩ ov g [] (.imm (.bool (a != b))) []:=a1J .neq _ _ _ h1 h2 (fun w=>by simp [eqGuard,binOp,Op.intCmp])
theorem b6x (h1:ovl ov x=some (.imm (.int k a))) (h2:ovl ov y=some (.imm (.int k b))):HOp P ⟨d,.binOp .lss T x y yT,ty,pos,af,gd⟩ ov g [] (.imm (.bool (decide (a < b)))) []:=a1J .lss _ _ _ h1 h2 (fun w=>by simp [eqGuard,binOp,Op.intCmp])
theorem c8G (h1:ovl ov x=some (.imm (.int k a))) (h2:ovl ov y=some (.imm (.int k b))):HOp P ⟨d,.binOp .leq T x y yT,ty,pos,af,gd⟩ ov g [] (.imm (.bool (decide (a≤b)))) []:=a1J .leq _ _ _ h1 h2 (fun w=>by simp [eqGuard,binOp,Op.intCmp])
theorem c7V (h1:ovl ov x=some (.imm (.int k a))) (h2:ovl ov y=some (.imm (.int k b))):HOp P ⟨d,.binOp .gtr T x y yT,ty,pos,af,gd⟩ ov g [] (.imm (.bool (decide (b < a)))) []:=a1J .gtr _ _ _ h1 h2 (fun w=>by simp [eqGuard,binOp,Op.intCmp])
theorem c8L (h1:ovl ov x=some (.imm (.int k a))) (h2:ovl ov y=some (.imm (.int k b))):HOp P ⟨d,.binOp .geq T x y yT,ty,pos,af,gd⟩ ov g [] (.imm (.bool (decide (b≤a)))) []:=a1J .geq _ _ _ h1 h2 (fun w=>by simp [eqGuard,binOp,Op.intCmp])
theorem b5U (h1:ovl ov x=some (.imm (.int k a))) (h2:ovl ov y=some (.imm (.int k b))) (hb:b≠0):HOp P ⟨d,.binOp .quo T x y yT,ty,pos,af,gd⟩ ov g [] (.imm (.int k (k.wrap (a.tdiv b)))) []:=a1J .quo _ _ _ h1 h2 (fun w=>by simp [eqGuard,binOp,Op.intDiv,hb])
end
theorem c6X {a b:Bool} (hT:∀ w,(Op.equal T (.bool a) (.bool b)).run P w=.ok (a == b) w) (h1:ovl ov x=some (.imm (.bool a))) (h2:ovl ov y=some (.imm (.bool b))):HOp P ⟨d,.binOp .eql T x y yT,ty,pos,af,gd⟩ ov g [] (.imm (.bool (a == b))) []:=a1J .eql _ _ _ h1 h2 (fun w=>by simp [eqGuard,binOp,hT])
theorem c7B {a b:Bool} (hT:∀ w,(Op.equal T (.bool a) (.bool b)).run P w=.ok (a == b) w) (h1:ovl ov x=some (.imm (.bool a))) (h2:ovl ov y=some (.imm (.bool b))):HOp P ⟨d,.binOp .neq T x y yT,ty,pos,af,gd⟩ ov g [] (.imm (.bool (!(a == b)))) []:=a1J .neq _ _ _ h1 h2 (fun w=>by simp [eqGuard,binOp,hT])
theorem c4w {a b:ByteArray} (h1:ovl ov x=some (.imm (.string a))) (h2:ovl ov y=some (.imm (.string b))):HOp P ⟨d,.binOp .eql T x y yT,ty,pos,af,gd⟩ ov g [] (.imm (.bool (a.toList == b.toList))) []:=a1J .eql _ _ _ h1 h2 (fun w=>by simp [eqGuard,binOp,Op.stringOp])
theorem c7R {a b:ByteArray} (h1:ovl ov x=some (.imm (.string a))) (h2:ovl ov y=some (.imm (.string b))):HOp P ⟨d,.binOp .neq T x y yT,ty,pos,af,gd⟩ ov g [] (.imm (.bool (!(a.toList == b.toList)))) []:=a1J .neq _ _ _ h1 h2 (fun w=>by simp [eqGuard,binOp,Op.stringOp])
theorem b9O {b:Bool} (h1:ovl ov x=some (.imm (.bool b))):HOp P ⟨d,.unOp .not T x,ty,pos,af,gd⟩ ov g [] (.imm (.bool (!b))) [] :=
 a0t fun w E ρ hr=>by
  have e1:=Rep.imm_inv (hr x _ smo h1)
  exact ⟨_,by simp [execOp,e1,Op.unary],.imm _⟩
theorem b7j {k k':IntKind} {a:Int} (hT:P.underlying yT=some (.int k')) (hS:(P.underlying T).isSome=true) (h1:ovl ov x=some (.imm (.int k a))):HOp P ⟨d,.convert T yT x,ty,pos,af,gd⟩ ov g [] (.imm (.int k' (k'.wrap a))) [] :=
 a0t fun w E ρ hr=>by
  have e1:=Rep.imm_inv (hr x _ smo h1)
  obtain ⟨dd,hd⟩:=Option.isSome_iff_exists.1 hS
  refine ⟨_,?_,.imm _⟩
  simp only [execOp,e1,convert,Sem.run_bind,run_underlying hd,run_underlying hT,Result.andThen_ok,Conv.intToInt,Sem.run_pure]
theorem b0A {n:Nat} {f:Nat→HV} (h1:ovl ov x=some (.fp n f)):HOp P ⟨d,.nilCheck x,ty,pos,af,gd⟩ ov g [] (.fp n f) [] :=
 a0t fun w E ρ hr=>by
  have h:=hr x _ smo h1
  refine ⟨ρ x,?_,h⟩
  generalize hρ:ρ x=u at h
  cases h
  simp [execOp,hρ]
theorem b0f {id gg i off:Nat} (h1:ovl ov x=some (.pt id gg i off)):HOp P ⟨d,.nilCheck x,ty,pos,af,gd⟩ ov g [] (.pt id gg i off) [] :=
 a0t fun w E ρ hr=>by
  have h:=hr x _ smo h1
  refine ⟨ρ x,?_,h⟩
  generalize hρ:ρ x=u at h
  cases h
  simp [execOp,hρ]
theorem b0D {n:Nat} {f:Nat→HV} {i:Nat} (h1:ovl ov x=some (.tup n f)) (hi:Nat.blt i n=true):HOp P ⟨d,.extract x i,ty,pos,af,gd⟩ ov g [] (f i) [] :=
 a0t fun w E ρ hr=>by
  have h:=hr x _ smo h1
  have hi:i < n:=by simpa [Nat.blt_eq] using hi
  generalize hρ:ρ x=u at h
  cases h with
  | tup cs _ _ vs hn hv h=>exact ⟨vs i,by simp [execOp,hρ,Instr.extract,(hv i hi)],h i hi⟩
theorem c2B {hx:HV} (hT:(match P.underlying T with | some (.interface _)=>false | some _=>true | none=>false)=true) (h1:ovl ov x=some hx):HOp P ⟨d,.makeInterface T x,ty,pos,af,gd⟩ ov g [] (.ifc T hx) [] :=
  a0t fun w E ρ hr=>by
    have h:=hr x _ smo h1
    refine ⟨.iface T (ρ x),?_,.ifc _ _ _ h⟩
    cases hu:P.underlying T with
    | none=>rw [hu] at hT;cases hT
    | some dd =>
      rw [hu] at hT
      simp only [execOp,Instr.makeInterface,Sem.run_bind,run_underlying hu,Result.andThen_ok]
      cases dd <;> first | rfl | cases hT
end
end
def tyOf (P:Program) (T:TypeId):Option (Bool×Nat) :=
 match P.underlying T,P.info? T with
 | some d,some i=>some (match d with | .struct _ | .array _ _=>true | _=>false,i.size)
 | _,_=>none
section
variable {P:Program}
theorem a3f {T:TypeId} {b:Bool} {s:Nat} (h:tyOf P T=some (b,s)):(∀ w,(isAgg T).run P w=.ok b w)∧(∀ w,(sizeOf T).run P w=.ok s w)∧(P.info? T).map (·.size)=some s:=by
 unfold tyOf at h
 split at h
 ·rename_i d i hd hi
  injection h with h
  injection h with h1 h2
  subst h2
  refine ⟨fun w=>?_,fun w=>?_,by rw [hi];rfl⟩
  ·unfold isAgg
   simp only [Sem.run_bind,run_underlying hd,Result.andThen_ok]
   subst h1
   cases d <;> rfl
  ·simp [sizeOf,typeInfo,hi]
 ·cases h
theorem a9Z {T:TypeId} {s:Nat} (h:tyOf P T=some (false,s)) (w:World) (a:Addr) (v:Value) (hv:w.cell? a=some v):(loadVar T a).run P w=.ok v w:=by
 unfold loadVar
 simp only [Sem.run_bind,(a3f h).1,Result.andThen_ok,Bool.false_eq_true,if_false]
 simp [load,Sem.run,hv]
def ldv (b:Bool) (s:Nat) (f:Nat→HV) (off:Nat):HV:=match b with | true=>.agg s (match off with | 0=>f | k+1=>fun j=>f (k+1+j)) | false=>f off
theorem a2d {T:TypeId} {b:Bool} {s:Nat} (h:tyOf P T=some (b,s)) (hs:b=false→s=1) (w:World) (E:Env) (bl o:Nat) (vs:Nat→Value) (f:Nat→HV) (hc:∀ j,j < s→w.cell? ⟨bl,o+j,none⟩=some (vs j)∧(vs j).oneCell'=true∧Rep w E (vs j) (f j)) :
    ∃ v,(loadVar T ⟨bl,o,none⟩).run P w=.ok v w∧Rep w E v (ldv b s f 0):=by
  cases b with
  | false =>
    obtain rfl:=hs rfl
    obtain ⟨h1,h2,h3⟩:=hc 0 omo
    exact ⟨vs 0,a9Z h w _ _ h1,h3⟩
  | true =>
    have hrd:rd w ⟨bl,o,none⟩ s=some ((List.range s).map vs):=by
      refine a8y sml (fun i hi=>?_)
      rw [Addr.add_mid,(hc i hi).1]
      simp [hi]
    refine ⟨_,a6z T (a3f h).1 s (a3f h).2.1 w _ _ hrd,?_⟩
    exact .agg _ s _ vs sml (fun i hi=>⟨by simp [hi],(hc i hi).2.1⟩) (fun i hi=>(hc i hi).2.2)
end
section
variable {P:Program} {ops:Array Oper} {ov:Nat→Option HV} {g:Nat}
variable {d:Option Tmp} {ty:TypeId} {pos:String} {af:Array Edge} {gd:Option (Nat×Bool)} {T yT:TypeId} {x y z:Operand} {hx hy:HV}
theorem c4B {id gg i off s:Nat} {b:Bool} {o:HObj} (hT:tyOf P T=some (b,s)) (h1:ovl ov x=some (.pt id gg i off)) (hg:o.g=gg) (hi:i < o.n) (hoff:off+s≤o.sz) (hs:b=false→s=1):HOp P ⟨d,.load T x,ty,pos,af,gd⟩ ov g [(id,o)] (ldv b s (o.f i) off) [] :=
  b1C fun K w0 F0 E hh w ρ r ho hr=>by
    subst hg
    have h:=hr x _ smo h1
    obtain ⟨l,bl,cs,hl,hlg,hlsz,hA,hB,hcs,hn,hm,vs,hv⟩:=r.objAt ho omo
    generalize hρ:ρ x=u at h
    cases h with
    | pt b' k' _ _ _ _ hg hh =>
      obtain ⟨hb',rfl⟩:=hh l hl hlg
      rw [hA] at hb';injection hb' with hb';subst hb'
      obtain ⟨v,hrun,hrep⟩:=a2d hT hs w E bl (i * l.sz+off) (fun j=>vs i (off+j)) (fun j=>o.f i (off+j)) (fun j hj=>by
        have hlt:off+j < o.sz:=by omega
        rw [hB.cell,hlsz,show i * o.sz+off+j=i * o.sz+(off+j) from by omega]
        exact hv i (off+j) hi hlt)
      refine ⟨v,?_,?_⟩
      · simp only [execOp,hρ,Instr.loadAt,Instr.sureAddr,Sem.run_bind,Sem.run_pure,Result.andThen_ok,hrun]
      · cases b
        · simpa [ldv] using hrep
        · cases off with
          | zero=>simpa [ldv] using hrep
          | succ k=>exact hrep
theorem a0j {n s:Nat} {b:Bool} {f:Nat→HV} (hT:tyOf P T=some (b,s)) (h1:ovl ov x=some (.fp n f)) (hoff:s≤n) (hs:b=false→s=1):HOp P ⟨d,.load T x,ty,pos,af,gd⟩ ov g [] (ldv b s f 0) [] :=
  a0t fun w E ρ hr=>by
    have h:=hr x _ smo h1
    generalize hρ:ρ x=u at h
    cases h with
    | fp bl o _ _ vs hA h =>
      obtain ⟨v,hrun,hrep⟩:=a2d hT hs w E bl o vs f (fun j hj=>⟨(hA j omo).2.1,(hA j omo).2.2,h j omo⟩)
      exact ⟨v,by simp only [execOp,hρ,Instr.loadAt,Instr.sureAddr,Sem.run_bind,Sem.run_pure,Result.andThen_ok,hrun],hrep⟩
def fdOf (P:Program) (T:TypeId) (k:Nat):Option Nat :=
 match P.underlying T with
 | some (.struct fs)=>(fs[k]?).bind fun f=>(P.info? f.type).bind fun i=>match i.size with | 0=>none | _+1=>some f.offset
 | _=>none
theorem b4j {T:TypeId} {k fo:Nat} (h:fdOf P T k=some fo) (a:Addr) (w:World):(Instr.fieldAt T (.pointer (some a)) k).run P w=.ok (.pointer (some (a.add fo))) w:=by
 unfold fdOf at h
 split at h
 ·rename_i fs hu
  obtain ⟨f,hf,h⟩:=Option.bind_eq_some_iff.1 h
  obtain ⟨i,hi,h⟩:=Option.bind_eq_some_iff.1 h
  split at h
  ·cases h
  ·rename_i n hn
   injection h with h
   subst h
   simp [Instr.fieldAt,run_underlying hu,hf,Instr.sureAddr,fieldPlace,sizeOf,typeInfo,hi,hn]
 ·cases h
theorem a3v (b o k:Nat):(⟨b,o,none⟩:Addr).add k=⟨b,o+k,none⟩:=Addr.add_mid b o k
theorem b7N {id gg i off k fo:Nat} (hT:fdOf P T k=some fo) (h1:ovl ov x=some (.pt id gg i off)):HOp P ⟨d,.fieldAddr T x k,ty,pos,af,gd⟩ ov g [] (.pt id gg i (off+fo)) [] :=
  a0t fun w E ρ hr=>by
    have h:=hr x _ smo h1
    generalize hρ:ρ x=u at h
    cases h with
    | pt b' k' _ _ _ _ hgg hh =>
      refine ⟨.pointer (some ⟨b',k'+fo,none⟩),?_,?_⟩
      · simp only [execOp,hρ,b4j hT,Sem.run_bind,Result.andThen_ok,Sem.run_pure,a3v]
      · refine .pt b' (k'+fo) id gg i (off+fo) hgg (fun l hl hlg=>?_)
        obtain ⟨h1,rfl⟩:=hh l hl hlg
        exact ⟨h1,by rw [Nat.add_assoc]⟩
theorem b0E {n k fo:Nat} {f:Nat→HV} (hT:fdOf P T k=some fo) (h1:ovl ov x=some (.fp n f)) (hn:fo≤n):HOp P ⟨d,.fieldAddr T x k,ty,pos,af,gd⟩ ov g [] (.fp (n - fo) (fun j=>f (fo+j))) [] :=
  a0t fun w E ρ hr=>by
    have h:=hr x _ smo h1
    generalize hρ:ρ x=u at h
    cases h with
    | fp bl o _ _ vs hA h =>
      refine ⟨.pointer (some ⟨bl,o+fo,none⟩),?_,?_⟩
      · simp only [execOp,hρ,b4j hT,Sem.run_bind,Result.andThen_ok,Sem.run_pure,a3v]
      · refine .fp bl (o+fo) _ _ (fun j=>vs (fo+j)) (fun j hj=>?_) (fun j hj=>h _ omo)
        rw [Nat.add_assoc]
        exact hA (fo+j) omo
def elOf (P:Program) (T:TypeId):Option (TypeId×Nat) :=
 match P.underlying T with
 | some (.slice e)=>(P.info? e).map fun i=>(e,i.size)
 | _=>none
theorem a0Q {T e:TypeId} {s:Nat} (h:elOf P T=some (e,s)):P.underlying T=some (.slice e)∧(∀ w,(sizeOf e).run P w=.ok s w):=by
 unfold elOf at h
 split at h
 ·rename_i e' hu
  obtain ⟨i,hi,h⟩:=Option.map_eq_some_iff.1 h
  injection h with h1 h2
  subst h1;subst h2
  exact ⟨hu,fun w=>by simp [sizeOf,typeInfo,hi]⟩
 ·cases h
theorem a6w {T e:TypeId} {s:Nat} (hT:elOf P T=some (e,s)) (k:IntKind) (i:Int) (a:Addr) (n c:Nat) (h0:0≤i) (h1:i < n) (w:World) :
  (Instr.indexAt T (.slice (some a) n c) (.int k i)).run P w=.ok (.pointer (some (a.add (i.toNat * s)))) w:=by
 obtain ⟨hu,hs⟩:=a0Q hT
 unfold Instr.indexAt
 simp [asIntOf,run_underlying hu,h0,h1,hs]
theorem a5T {e:TypeId} {s n:Nat} {f:Nat→Nat→HV} {k:IntKind} {i:Int} (hT:elOf P T=some (e,s)) (h1:ovl ov x=some (.sl s n f)) (h2:ovl ov y=some (.imm (.int k i))) (hi0:0≤i) (hi:i < n) (hs:0 < s) :
    HOp P ⟨d,.indexAddr T x y,ty,pos,af,gd⟩ ov g [] (.fp s (f i.toNat)) [] :=
  a0t fun w E ρ hr=>by
    have h:=hr x _ smo h1
    have e2:=Rep.imm_inv (hr y _ smo h2)
    generalize hρ:ρ x=u at h
    cases h with
    | sl A _ c _ _ vs hc hm hA h =>
      obtain ⟨b,o,rfl,hlt,hcell⟩:=hA omo
      refine ⟨.pointer (some ⟨b,o+i.toNat * s,none⟩),?_,?_⟩
      · simp only [execOp,hρ,e2,Sem.run_bind,a6w hT k i _ n c hi0 hi,Result.andThen_ok,Sem.run_pure,a3v]
      · refine .fp b _ s _ (vs i.toNat) (fun j hj=>?_) (fun j hj=>h _ _ omo hj)
        rw [Nat.add_assoc]
        exact hcell _ j omo hj
theorem c2N {id gg lo n s:Nat} {k:IntKind} {i:Int} {e:TypeId} {o:HObj} (hT:elOf P T=some (e,s)) (h1:ovl ov x=some (.os id gg lo n)) (h2:ovl ov y=some (.imm (.int k i))) (hg:o.g=gg) (hsz:o.sz=s) (hi0:0≤i) (hi:i < n) :
    HOp P ⟨d,.indexAddr T x y,ty,pos,af,gd⟩ ov g [(id,o)] (.pt id gg (lo+i.toNat) 0) [] :=
  b1C fun K w0 F0 E hh w ρ r ho hr=>by
    have h:=hr x _ smo h1
    have e2:=Rep.imm_inv (hr y _ smo h2)
    obtain ⟨l,hl,a⟩:=r.obj id o ho
    generalize hρ:ρ x=u at h
    cases h with
    | os A _ c _ _ _ hgg hc hm hA _ =>
      obtain ⟨b,k',rfl,hl2⟩:=hA omo
      obtain ⟨hb,rfl⟩:=hl2 l hl (a.g.trans hg)
      have hls:l.sz=s:=a.sz.trans hsz
      refine ⟨.pointer (some ⟨b,lo * l.sz+i.toNat * s,none⟩),?_,?_⟩
      · simp only [execOp,hρ,e2,Sem.run_bind,a6w hT k i _ n c hi0 hi,Result.andThen_ok,Sem.run_pure,a3v]
      · refine .pt b _ id gg _ 0 hgg (fun l' hl' _=>?_)
        rw [hl] at hl';injection hl' with hl';subst hl'
        exact ⟨hb,by rw [Nat.add_mul,hls,Nat.add_zero]⟩
theorem a3b {s n:Nat} {f:Nat→Nat→HV} {e:TypeId} {at_:Array TypeId} (hT:at_[0]?=some T) (hE:P.underlying T=some (.slice e)) (h1:ovl ov x=some (.sl s n f)) :
  HOp P ⟨d,.call ⟨.builtin .len,#[x],at_⟩,ty,pos,af,gd⟩ ov g [] (.imm (.int .i64 (n:Int))) [] :=
 a0t fun w E ρ hr=>by
  have h:=hr x _ (by simp [Op.operands,Call.operands]) h1
  generalize hρ:ρ x=u at h
  cases h with
  | sl A _ c _ _ vs hc hm hA h=>exact ⟨_,by simp [execOp,resolve,invoke,builtin,Builtin.len_,hT,run_underlying hE,hρ,goInt],.imm _⟩
theorem a3N {id gg lo n:Nat} {e:TypeId} {at_:Array TypeId} (hT:at_[0]?=some T) (hE:P.underlying T=some (.slice e)) (h1:ovl ov x=some (.os id gg lo n)) :
  HOp P ⟨d,.call ⟨.builtin .len,#[x],at_⟩,ty,pos,af,gd⟩ ov g [] (.imm (.int .i64 (n:Int))) [] :=
 a0t fun w E ρ hr=>by
  have h:=hr x _ (by simp [Op.operands,Call.operands]) h1
  generalize hρ:ρ x=u at h
  cases h with
  | os A _ c _ _ _ hgg hc hm hA _=>exact ⟨_,by simp [execOp,resolve,invoke,builtin,Builtin.len_,hT,run_underlying hE,hρ,goInt],.imm _⟩
theorem a2X {A:Option Addr} {n c:Nat} {e:TypeId} {at_:Array TypeId} (hT:at_[0]?=some T) (hE:P.underlying T=some (.slice e)) (h1:ovl ov x=some (.imm (.slice A n c))) :
  HOp P ⟨d,.call ⟨.builtin .len,#[x],at_⟩,ty,pos,af,gd⟩ ov g [] (.imm (.int .i64 (n:Int))) [] :=
 a0t fun w E ρ hr=>by
  have e1:=Rep.imm_inv (hr x _ (by simp [Op.operands,Call.operands]) h1)
  exact ⟨_,by simp [execOp,resolve,invoke,builtin,Builtin.len_,hT,run_underlying hE,e1,goInt],.imm _⟩
theorem b4U {sb:ByteArray} {at_:Array TypeId} (hT:at_[0]?=some T) (hE:P.underlying T=some .string) (h1:ovl ov x=some (.imm (.string sb))) :
  HOp P ⟨d,.call ⟨.builtin .len,#[x],at_⟩,ty,pos,af,gd⟩ ov g [] (.imm (.int .i64 (sb.size:Int))) [] :=
 a0t fun w E ρ hr=>by
  have e1:=Rep.imm_inv (hr x _ (by simp [Op.operands,Call.operands]) h1)
  exact ⟨_,by simp [execOp,resolve,invoke,builtin,Builtin.len_,hT,run_underlying hE,e1,goInt],.imm _⟩
theorem b9e {sb:ByteArray} {k:IntKind} {i:Int} (hT:P.underlying T=some .string) (h1:ovl ov x=some (.imm (.string sb))) (h2:ovl ov y=some (.imm (.int k i))) (hi0:0≤i) (hi:i < (sb.size:Int)) :
  HOp P ⟨d,.index T x y,ty,pos,af,gd⟩ ov g [] (.imm (.int .u8 ((sb.data.toList.getD i.toNat 0).toNat:Int))) [] :=
 a0t fun w E ρ hr=>by
  have e1:=Rep.imm_inv (hr x _ smo h1)
  have e2:=Rep.imm_inv (hr y _ smo h2)
  refine ⟨_,?_,.imm _⟩
  have hlt:i.toNat < sb.size:=by omega
  have hb:sb[i.toNat]?=some (sb.data.toList.getD i.toNat 0):=by
   rw [getElem?_pos sb i.toNat hlt]
   have h2:i.toNat < sb.data.toList.length:=by simpa using hlt
   simp [List.getD,List.getElem?_eq_getElem h2]
   rfl
  simp [execOp,e1,e2,Instr.index,asIntOf,run_underlying hT,hi0,hb]
theorem a6O {id sz:Nat} {hv:HV} (h1:ovl ov x=some hv) (hf:hv.flat=true) (hw:hv.wid=sz) (hp:0 < sz) (hm:sz≤1000000):HOp P ⟨d,.box T x,ty,pos,af,gd⟩ ov g [] (.pt id g 0 0) [(id,⟨g,1,sz,T,0,fun _ j=>hv.cell j⟩)]:=by
 refine ⟨?_⟩;intro K w0 F0 E hh a w Q N r ht hG hBd hpre hN
 have h:=ht x _ smo h1
 obtain ⟨hs,vs,hvs⟩:=h.cells hf
 have hnew:=r.new id g 1 sz T (a.eval x).cells (fun _ j=>hv.cell j) 1 (fun _ j=>vs j) hG hp (by rw [hs,hw];omega) lrf (by unfold maxLen;omega) (fun i j hi hj=>by
  obtain rfl:i=0:=by omega
  rw [Nat.zero_mul,Nat.zero_add]
  exact hvs j (by rw [hw];exact hj))
 refine a4q (v:=.pointer (some ⟨w.heap.size,0,none⟩)) (w':=w.alloc (.cells (a.eval x).cells T)) rfl (hN _ _ _ hnew.1 hnew.2 (fun g' hg'=>hg'.imp (fun h=>h) fun h=>⟨by simp,h⟩) ?_)
 refine .pt _ _ id g 0 0 (.inr rfl) (fun l hl _=>?_)
 rw [Env.new_L] at hl;injection hl with hl;subst hl
 exact ⟨rfl,by simp⟩
def zcs (P:Program) (T:TypeId):Option (List Value):=((P.info? T).bind (·.zero)).map fun z=>z.cells.toList
theorem a0V {id sz:Nat} {cs:List Value} (hz:zcs P T=some cs) (hsz:cs.length=sz) (h1:cs.all (·.oneCell')=true) (hp:0 < sz) (hm:sz≤1000000):HOp P ⟨d,.alloc T,ty,pos,af,gd⟩ ov g [] (.pt id g 0 0) [(id,⟨g,1,sz,T,0,fun _ j=>.imm (cs.getD j undef)⟩)]:=by
 refine ⟨?_⟩;intro K w0 F0 E hh a w Q N r ht hG hBd hpre hN
 obtain ⟨z,hz1,hz2⟩:=Option.map_eq_some_iff.1 hz
 obtain ⟨i,hi,hz3⟩:=Option.bind_eq_some_iff.1 hz1
 have hcs:z.cells=cs.toArray:=by rw [←hz2]
 have hnew:=r.new id g 1 sz T z.cells (fun _ j=>.imm (cs.getD j undef)) 1 (fun _ j=>cs.getD j undef) hG hp (by rw [hcs,List.size_toArray,hsz];omega) lrf (by unfold maxLen;omega) (fun i j hi hj=>by
  obtain rfl:i=0:=by omega
  rw [Nat.zero_mul,Nat.zero_add,hcs]
  have hjl:j < cs.length:=by omega
  have hg:cs.getD j undef=cs[j]:=by simp [List.getD,List.getElem?_eq_getElem hjl]
  rw [hg]
  exact ⟨by simp [hjl],List.all_eq_true.1 h1 _ (List.getElem_mem hjl),.imm _⟩)
 refine a4q (v:=.pointer (some ⟨w.heap.size,0,none⟩)) (w':=w.alloc (.cells z.cells T)) ?_ (hN _ _ _ hnew.1 hnew.2 (fun g' hg'=>hg'.imp (fun h=>h) fun h=>⟨by simp,h⟩) ?_)
 ·simp [execOp,Instr.alloc,zeroValue,typeInfo,hi,hz3,newVar,newRow]
 ·refine .pt _ _ id g 0 0 (.inr rfl) (fun l hl _=>?_)
  rw [Env.new_L] at hl;injection hl with hl;subst hl
  exact ⟨rfl,by simp⟩
theorem b4s {id i off s:Nat} {b:Bool} {gg:Nat} {o:HObj} {hv:HV} (hT:tyOf P T=some (b,s)) (h1:ovl ov x=some (.pt id gg i off)) (h2:ovl ov y=some hv) (hg:o.g=gg) (hf:hv.flat=true) (hw:hv.wid=s) (hi:i < o.n) (hfl:o.fl≤i) (hoff:off+s≤o.sz) :
    HOp P ⟨d,.store T x y,ty,pos,af,gd⟩ ov g [(id,o)] (.imm undef) [(id,{ o with f:=upd o.f i off s (fun j=>hv.cell j) })]:=by
  subst hg
  refine ⟨?_⟩;intro K w0 F0 E hh a w Q N r ht hG hBd hpre hN
  have ho:=hpre _ (List.mem_cons_self ..)
  simp only at ho
  have hX:=ht x _ smo h1
  have hY:=ht y _ smo h2
  obtain ⟨hs,vs,hvs⟩:=hY.cells hf
  obtain ⟨l,bl,cs,hl,hlg,hlsz,hA,hB,hcs,hn,hm,_⟩:=r.objAt ho omo
  generalize hρ:a.eval x=u at hX
  cases hX with
  | pt b' k' _ _ _ _ hg hh' =>
    obtain ⟨hb',rfl⟩:=hh' l hl hlg
    rw [hA] at hb';injection hb' with hb';subst hb'
    have hlen:(a.eval y).cells.toList.length=s:=by rw [Array.length_toList,hs,hw]
    have hst:=r.store id o l bl ho hl hA i off (a.eval y).cells.toList (fun j=>hv.cell j) hi hfl (by rw [hlen];exact hoff) (fun j u hu=>by
      have hj:j < hv.wid:=by
        rcases Nat.lt_or_ge j hv.wid with h | h
        · exact h
        · rw [List.getElem?_eq_none (by rw [hlen,←hw];exact h)] at hu;cases hu
      rw [Array.getElem?_toList,(hvs j hj).1] at hu
      injection hu with hu;subst hu
      exact (hvs j hj).2)
    rw [hlen] at hst
    have hall:∀ u∈(a.eval y).cells.toList,u.oneCell'=true:=by
      intro u hu
      obtain ⟨j,hj,rfl⟩:=List.mem_iff_getElem.1 hu
      have hj':j < hv.wid:=by rw [hlen] at hj;rw [hw];exact hj
      have:=hvs j hj'
      have e1:(a.eval y).cells.toList[j]?=some (vs j):=by rw [Array.getElem?_toList];exact this.1
      rw [List.getElem?_eq_getElem hj] at e1
      injection e1 with e1
      rw [e1];exact this.2.1
    have hle:i * o.sz+off+s≤cs.size:=by
      have:=Nat.mul_le_mul_right o.sz (show i+1≤l.cap from by omega)
      rw [Nat.add_mul] at this
      rw [hcs];omega
    have hrun:(Instr.storeAt T (.pointer (some ⟨bl,i * l.sz+off,none⟩)) (a.eval y)).run P w=.ok () (w.setCells bl (i * o.sz+off) (a.eval y).cells.toList):=by
      have hsz:=(a3f hT).2.1 w
      have hc:(a.eval y).cells.size=s:=by rw [hs,hw]
      have hsc:=run_storeCells_cells (P:=P) bl (i * o.sz+off) (a.eval y).cells.toList 0 w (fun j hj=>by
        rw [Nat.add_zero,hB.cell,Array.getElem?_eq_getElem (by rw [hlen] at hj;omega)];rfl) (fun j hj=>by rw [Nat.add_zero];exact hB.frozen _) hall
      rw [Nat.add_zero] at hsc
      rw [hlsz]
      simp [Instr.storeAt,Instr.sureAddr,storeVar,hsz,hc,hsc]
    refine c6r (w':=w.setCells bl (i * o.sz+off) (a.eval y).cells.toList) ?_ (hN _ _ _ hst.1 hst.2 (fun g' hg'=>.inl hg') (.imm _))
    simp only [execOp,hρ,Sem.run_bind,hrun,Result.andThen_ok,Sem.run_pure]
theorem b8Z {id gg s:Nat} {b:Bool} {o:HObj} {hv:HV} (hT:tyOf P T=some (b,s)) (h1:ovl ov x=some (.pt id gg 0 0)) (h2:ovl ov y=some hv) (hg:o.g=gg) (hf:hv.flat=true) (hw:hv.wid=s) (hn:o.n=1) (hfl:o.fl=0) (hsz:o.sz=s) :
  HOp P ⟨d,.store T x y,ty,pos,af,gd⟩ ov g [(id,o)] (.imm undef) [(id,{ o with f:=fun _ j=>hv.cell j })]:=by
 have h:=b4s (P:=P) (g:=g) (d:=d) (ty:=ty) (pos:=pos) (af:=af) (gd:=gd) hT h1 h2 hg hf hw omo omo omo
 refine ⟨?_⟩;intro K w0 F0 E hh a w Q N r ht hG hBd hpre hN
 refine h.h K w0 F0 E hh a w Q N r ht hG hBd hpre (fun val w' E' e r' hG' hv'=>hN val w' E' e (r'.weak fun k o' ho'=>?_) (fun g' hg'=>(hG' g' hg').imp (fun h=>h) fun h=>⟨by simp,h.2⟩) hv')
 by_cases hk:k=id
 ·subst hk
  simp only [hupd,List.foldr,a0v] at ho' ⊢
  injection ho' with ho'
  subst ho'
  refine ⟨_,rfl,rfl,rfl,rfl,rfl,Nat.le_refl _,fun i j hi hj=>?_,fun h=>by simp only at h;omega⟩
  simp only at hi hj
  obtain rfl:i=0:=by omega
  simp only
  rw [a4t ⟨rfl,Nat.zero_le _,by omega⟩]
  exact .refl _
 ·simp only [hupd,List.foldr,a0s _ _ hk] at ho' ⊢
  exact ⟨o',ho',.refl _⟩
theorem a0r {id gg i off s n sz fl:Nat} {b:Bool} {oty:TypeId} {f:Nat→Nat→HV} (hT:tyOf P T=some (b,s)) (h1:ovl ov x=some (.pt id gg i off)) (hi:i < n) (hoff:off+s≤sz) (hs:b=false→s=1) :
  HOp P ⟨d,.load T x,ty,pos,af,gd⟩ ov g [(id,⟨gg,n,sz,oty,fl,f⟩)] (ldv b s (f i) off) []:=c4B (o:=⟨gg,n,sz,oty,fl,f⟩) hT h1 rfl hi hoff hs
theorem a4J {id gg lo n s m fl:Nat} {k:IntKind} {i:Int} {e oty:TypeId} {f:Nat→Nat→HV} (hT:elOf P T=some (e,s)) (h1:ovl ov x=some (.os id gg lo n)) (h2:ovl ov y=some (.imm (.int k i))) (hi0:0≤i) (hi:i < n) :
  HOp P ⟨d,.indexAddr T x y,ty,pos,af,gd⟩ ov g [(id,⟨gg,m,s,oty,fl,f⟩)] (.pt id gg (lo+i.toNat) 0) []:=c2N (o:=⟨gg,m,s,oty,fl,f⟩) hT h1 h2 rfl rfl hi0 hi
theorem b3s {id gg i off s n sz fl:Nat} {b:Bool} {oty:TypeId} {f:Nat→Nat→HV} {hv:HV} (hT:tyOf P T=some (b,s)) (h1:ovl ov x=some (.pt id gg i off)) (h2:ovl ov y=some hv) (hf:hv.flat=true) (hw:hv.wid=s) (hi:i < n) (hfl:fl≤i) (hoff:off+s≤sz) :
  HOp P ⟨d,.store T x y,ty,pos,af,gd⟩ ov g [(id,⟨gg,n,sz,oty,fl,f⟩)] (.imm undef) [(id,⟨gg,n,sz,oty,fl,upd f i off s (fun j=>hv.cell j)⟩)]:=b4s (o:=⟨gg,n,sz,oty,fl,f⟩) hT h1 h2 rfl hf hw hi hfl hoff
theorem b1o {id gg s:Nat} {b:Bool} {oty:TypeId} {f:Nat→Nat→HV} {hv:HV} (hT:tyOf P T=some (b,s)) (h1:ovl ov x=some (.pt id gg 0 0)) (h2:ovl ov y=some hv) (hf:hv.flat=true) (hw:hv.wid=s) :
  HOp P ⟨d,.store T x y,ty,pos,af,gd⟩ ov g [(id,⟨gg,1,s,oty,0,f⟩)] (.imm undef) [(id,⟨gg,1,s,oty,0,fun _ j=>hv.cell j⟩)]:=b8Z (o:=⟨gg,1,s,oty,0,f⟩) hT h1 h2 rfl hf hw rfl rfl rfl
end
section
variable {P:Program} {ops:Array Oper} {ov:Nat→Option HV} {g:Nat}
variable {d:Option Tmp} {ty:TypeId} {pos:String} {af:Array Edge} {gd:Option (Nat×Bool)} {T yT:TypeId} {x y z:Operand} {hx hy:HV}
theorem c1W {e:TypeId} {s:Nat} (hT:elOf P T=some (e,s)) (w:World) (A:Option Addr) (n c:Nat) (lo hi:Option Value) (l h:Int) (hl:lo=none∧l=0∨∃ k,lo=some (.int k l)) (hh:hi=none∧h=n∨∃ k,hi=some (.int k h)) (h0:0≤l) (h1:l≤h) (h2:h≤n) (hc:n≤c) :
  (Instr.sliceAt T (.slice A n c) lo hi none).run P w=.ok (.slice (cutA A c l.toNat s) (h - l).toNat (c - l.toNat)) w:=by
 obtain ⟨hu,hs⟩:=a0Q hT
 have hb:(Instr.sliceBounds true n c lo hi none).run P w=.ok (l.toNat,h.toNat,c) w:=by
  unfold Instr.sliceBounds
  rcases hl with ⟨rfl,rfl⟩ | ⟨k,rfl⟩ <;> rcases hh with ⟨rfl,rfl⟩ | ⟨k',rfl⟩
  ·simp
  ·have a1:=fun code=>a1y (P:=P) w k' h c code omo omo
   simp [a1]
  ·have a1:=fun code=>a1y (P:=P) w k l n code omo omo
   simp [a1]
  ·have a1:=fun code=>a1y (P:=P) w k' h c code omo omo
   have a2:=fun code=>a1y (P:=P) w k l h.toNat code omo omo
   simp [a1,a2]
 unfold Instr.sliceAt Instr.slice
 simp only [Sem.run_bind,run_underlying hu,Result.andThen_ok,hb,hs,Sem.run_pure]
 rw [show h.toNat - l.toNat=(h - l).toNat from by omega]
 rfl
theorem b1p {e:TypeId} {s n:Nat} {f:Nat→Nat→HV} {lo hi:Option Operand} {l h:Int} (hT:elOf P T=some (e,s)) (h1:ovl ov x=some (.sl s n f))
    (hl:lo=none∧l=0∨∃ k z,lo=some z∧ovl ov z=some (.imm (.int k l))) (hh:hi=none∧h=n∨∃ k z,hi=some z∧ovl ov z=some (.imm (.int k h))) (h0:0≤l) (hlh:l≤h) (hn:h≤n) :
    HOp P ⟨d,.slice T x lo hi none,ty,pos,af,gd⟩ ov g [] (.sl s (h - l).toNat (fun i j=>f (l.toNat+i) j)) [] :=
  a0t fun w E ρ hr=>by
    have hX:=hr x _ smo h1
    have e1:lo.map ρ=none∧l=0∨∃ k,lo.map ρ=some (.int k l):=by
      rcases hl with ⟨rfl,rfl⟩ | ⟨k,z,rfl,hz⟩
      · exact .inl ⟨rfl,rfl⟩
      · exact .inr ⟨k,by have:=Rep.imm_inv (hr z _ smo hz);simp [this]⟩
    have e2:hi.map ρ=none∧h=n∨∃ k,hi.map ρ=some (.int k h):=by
      rcases hh with ⟨rfl,rfl⟩ | ⟨k,z,rfl,hz⟩
      · exact .inl ⟨rfl,rfl⟩
      · exact .inr ⟨k,by have:=Rep.imm_inv (hr z _ smo hz);simp [this]⟩
    generalize hρ:ρ x=u at hX
    cases hX with
    | sl A _ c _ _ vs hc hm hA hrep =>
      have hcut:=c1W hT w A n c _ _ l h e1 e2 h0 hlh hn hc
      refine ⟨.slice (cutA A c l.toNat s) (h - l).toNat (c - l.toNat),by simp only [execOp,hρ,Option.map_none,Sem.run_bind,hcut,Result.andThen_ok,Sem.run_pure],?_⟩
      have q1:l.toNat+(h - l).toNat≤n:=by omega
      generalize (h - l).toNat=m at q1 ⊢
      generalize l.toNat=l' at q1 ⊢
      refine .sl _ _ _ s _ (fun i j=>vs (l'+i) j) omo omo (fun hp=>?_) (fun i j hi hj=>hrep _ _ omo hj)
      obtain ⟨b,o,rfl,hlt,hcell⟩:=hA omo
      refine ⟨b,o+l' * s,?_,hlt,fun i j hi hj=>?_⟩
      · rw [cutA,if_neg omo];simp [a3v]
      · rw [show o+l' * s+(i * s+j)=o+((l'+i) * s+j) from by rw [Nat.add_mul];omega]
        exact hcell _ _ omo hj
theorem b9l {e:TypeId} {id gg lo0 n s:Nat} {o:HObj} {lo hi:Option Operand} {l h:Int} (hT:elOf P T=some (e,s)) (h1:ovl ov x=some (.os id gg lo0 n)) (hg:o.g=gg) (hsz:o.sz=s)
    (hl:lo=none∧l=0∨∃ k z,lo=some z∧ovl ov z=some (.imm (.int k l))) (hh:hi=none∧h=n∨∃ k z,hi=some z∧ovl ov z=some (.imm (.int k h))) (h0:0≤l) (hlh:l≤h) (hn:h≤n) :
    HOp P ⟨d,.slice T x lo hi none,ty,pos,af,gd⟩ ov g [(id,o)] (.os id gg (lo0+l.toNat) (h - l).toNat) [] :=
  b1C fun K w0 F0 E hh' w ρ r ho hr=>by
    have hX:=hr x _ smo h1
    have e1:lo.map ρ=none∧l=0∨∃ k,lo.map ρ=some (.int k l):=by
      rcases hl with ⟨rfl,rfl⟩ | ⟨k,z,rfl,hz⟩
      · exact .inl ⟨rfl,rfl⟩
      · exact .inr ⟨k,by have:=Rep.imm_inv (hr z _ smo hz);simp [this]⟩
    have e2:hi.map ρ=none∧h=n∨∃ k,hi.map ρ=some (.int k h):=by
      rcases hh with ⟨rfl,rfl⟩ | ⟨k,z,rfl,hz⟩
      · exact .inl ⟨rfl,rfl⟩
      · exact .inr ⟨k,by have:=Rep.imm_inv (hr z _ smo hz);simp [this]⟩
    obtain ⟨l1,hl1,a⟩:=r.obj id o ho
    generalize hρ:ρ x=u at hX
    cases hX with
    | os A _ c _ _ _ hgg hc hm hA hz =>
      have hcut:=c1W hT w A n c _ _ l h e1 e2 h0 hlh hn hc
      have hls:l1.sz=s:=a.sz.trans hsz
      refine ⟨.slice (cutA A c l.toNat s) (h - l).toNat (c - l.toNat),by simp only [execOp,hρ,Option.map_none,Sem.run_bind,hcut,Result.andThen_ok,Sem.run_pure],?_⟩
      refine .os _ _ _ id gg _ hgg omo omo (fun hp=>?_) (fun l2 hl2 hlg2=>?_)
      · obtain ⟨b,k',rfl,hl2⟩:=hA omo
        refine ⟨b,k'+l.toNat * s,?_,fun l2 hl3 hlg=>?_⟩
        · rw [cutA,if_neg omo]
          simp [a3v]
        · obtain ⟨h1,rfl⟩:=hl2 l2 hl3 hlg
          rw [hl1] at hl3;injection hl3 with hl3;subst hl3
          exact ⟨h1,by rw [hls,Nat.add_mul]⟩
      · obtain ⟨hz2,hz1⟩:=hz l2 hl2 hlg2
        rw [hl1] at hl2;injection hl2 with hl2;subst hl2
        refine ⟨by omega,fun hq=>?_⟩
        by_cases hl0:l.toNat=0
        · rw [hl0,c1a,Nat.add_zero]
          exact hz1 omo
        · rw [hz1 (.inr omo),cutA,if_neg omo,Option.map_map,hls]
          congr 1
          funext b
          simp [a3v,Nat.add_mul]
theorem b5C {sb:ByteArray} {lo hi:Option Operand} {l h:Int} (hT:P.underlying T=some .string) (h1:ovl ov x=some (.imm (.string sb)))
  (hl:lo=none∧l=0∨∃ k z,lo=some z∧ovl ov z=some (.imm (.int k l))) (hh:hi=none∧h=sb.size∨∃ k z,hi=some z∧ovl ov z=some (.imm (.int k h))) (h0:0≤l) (hlh:l≤h) (hn:h≤sb.size) :
  HOp P ⟨d,.slice T x lo hi none,ty,pos,af,gd⟩ ov g [] (.imm (.string (sb.extract l.toNat h.toNat))) [] :=
 a0t fun w E ρ hr=>by
  have hX:=Rep.imm_inv (hr x _ smo h1)
  have e1:lo.map ρ=none∧l=0∨∃ k,lo.map ρ=some (.int k l):=by
   rcases hl with ⟨rfl,rfl⟩ | ⟨k,z,rfl,hz⟩
   ·exact .inl ⟨rfl,rfl⟩
   ·exact .inr ⟨k,by have:=Rep.imm_inv (hr z _ smo hz);simp [this]⟩
  have e2:hi.map ρ=none∧h=sb.size∨∃ k,hi.map ρ=some (.int k h):=by
   rcases hh with ⟨rfl,rfl⟩ | ⟨k,z,rfl,hz⟩
   ·exact .inl ⟨rfl,rfl⟩
   ·exact .inr ⟨k,by have:=Rep.imm_inv (hr z _ smo hz);simp [this]⟩
  have hb:(Instr.sliceBounds false sb.size sb.size (lo.map ρ) (hi.map ρ) none).run P w=.ok (l.toNat,h.toNat,sb.size) w:=by
   unfold Instr.sliceBounds
   rcases e1 with ⟨h1,rfl⟩ | ⟨k,h1⟩ <;> rcases e2 with ⟨h2,rfl⟩ | ⟨k',h2⟩
   ·rw [h1,h2];simp
   ·have a1:=fun code=>a1y (P:=P) w k' h sb.size code omo omo
    rw [h1,h2];simp [a1]
   ·have a1:=fun code=>a1y (P:=P) w k l sb.size code omo omo
    rw [h1,h2];simp [a1]
   ·have a1:=fun code=>a1y (P:=P) w k' h sb.size code omo omo
    have a2:=fun code=>a1y (P:=P) w k l h.toNat code omo omo
    rw [h1,h2];simp [a1,a2]
  refine ⟨_,?_,.imm _⟩
  simp only [execOp,hX,Option.map_none,Instr.sliceAt,Instr.slice,Sem.run_bind,run_underlying hT,Result.andThen_ok,Option.isSome_none,Bool.false_eq_true,if_false,Sem.run_pure,hb]
def b2t (ov:Nat→Option HV) (y:Operand) (sz k:Nat) (pre:List (Nat×HObj)) (fn:Nat→Nat→HV):Prop :=
  ∀ K w0 F0 E h (w : World) (u : Value), R K w0 F0 E h w → (∀ p ∈ pre, h p.1 = some p.2) → (∀ hv, ovl ov y = some hv → Rep w E u hv) →
    ∃ A c news,u=.slice A k c∧a1n w w.heap.size sz A k news∧(∀ u∈news,u.oneCell'=true)∧∀ i j,i < k→j < sz→∃ u,news[i * sz+j]?=some u∧Rep w E u (fn i j)
def b4e (sz k:Nat) (vs:Nat→Nat→Value):List Value:=(List.range (k * sz)).map fun p=>vs (p / sz) (p % sz)
theorem a5U (sz k:Nat) (vs:Nat→Nat→Value):(b4e sz k vs).length=k * sz:=by simp [b4e]
theorem b0x {sz k:Nat} {vs:Nat→Nat→Value} {i j:Nat} (hi:i < k) (hj:j < sz):(b4e sz k vs)[i * sz+j]?=some (vs i j):=by
 have hlt:=a7n (sz:=sz) hi hj
 unfold b4e
 rw [List.getElem?_map,List.getElem?_range hlt]
 have h1:(i * sz+j) / sz=i:=by rw [Nat.mul_comm,Nat.mul_add_div omo,Nat.div_eq_of_lt hj];omega
 have h2:(i * sz+j) % sz=j:=by rw [Nat.mul_comm,Nat.mul_add_mod,Nat.mod_eq_of_lt hj]
 simp [h1,h2]
theorem a5n {sz k:Nat} {vs:Nat→Nat→Value} {p:Nat} {u:Value} (h:(b4e sz k vs)[p]?=some u):∃ i j,i < k∧j < sz∧p=i * sz+j∧u=vs i j:=by
 have hp:p < k * sz:=by
  rcases Nat.lt_or_ge p (b4e sz k vs).length with h1 | h1
  ·rwa [a5U] at h1
  ·rw [List.getElem?_eq_none h1] at h;cases h
 have hs:0 < sz:=Nat.pos_of_ne_zero (fun h0=>by subst h0;simp at hp)
 refine ⟨p / sz,p % sz,(Nat.div_lt_iff_lt_mul hs).2 hp,Nat.mod_lt _ hs,?_,?_⟩
 ·rw [Nat.mul_comm];exact (Nat.div_add_mod p sz).symm
 ·have e1:p=p / sz * sz+p % sz:=by rw [Nat.mul_comm];exact (Nat.div_add_mod p sz).symm
  have:=b0x (sz:=sz) (k:=k) (vs:=vs) ((Nat.div_lt_iff_lt_mul hs).2 hp) (Nat.mod_lt p hs)
  rw [←e1,h] at this
  injection this
theorem a0Y {s n:Nat} {f:Nat→Nat→HV} (h1:ovl ov y=some (.sl s n f)):b2t ov y s n [] f:=by
  intro K w0 F0 E h w u r hp hr
  have hX:=hr _ h1
  cases hX with
  | sl A _ c _ _ vs hc hm hA hrep =>
    refine ⟨A,c,b4e s n vs,rfl,⟨a5U _ _ _,fun hn=>?_⟩,fun u hu=>?_,fun i j hi hj=>⟨_,b0x hi hj,hrep i j hi hj⟩⟩
    · obtain ⟨b,o,rfl,hlt,hcell⟩:=hA hn
      refine ⟨_,rfl,hlt,fun p u hu=>?_⟩
      obtain ⟨i,j,hi,hj,rfl,rfl⟩:=a5n hu
      rw [a3v]
      exact (hcell i j hi hj).2.1
    · obtain ⟨p,hp,rfl⟩:=List.mem_iff_getElem.1 hu
      obtain ⟨i,j,hi,hj,_,e⟩:=a5n (List.getElem?_eq_getElem hp)
      rw [e]
      obtain ⟨b,o,rfl,hlt,hcell⟩:=hA omo
      exact (hcell i j hi hj).2.2
theorem a0G {A:Option Addr} {c:Nat} (s:Nat) (f:Nat→Nat→HV) (h1:ovl ov y=some (.imm (.slice A 0 c))):b2t ov y s 0 [] f:=by
 intro K w0 F0 E h w u r hp hr
 have:=Rep.imm_inv (hr _ h1)
 subst this
 exact ⟨A,c,[],rfl,⟨by simp,fun h=>absurd h (Nat.lt_irrefl _)⟩,(fun u hu=>by cases hu),fun i j hi=>absurd hi (Nat.not_lt_zero _)⟩
theorem c5R {id gg lo n s:Nat} {o:HObj} (h1:ovl ov y=some (.os id gg lo n)) (hg:o.g=gg) (hsz:o.sz=s) (hn:lo+n≤o.n):b2t ov y s n [(id,o)] (fun i j=>o.f (lo+i) j):=by
  intro K w0 F0 E h w u r hp hr
  have hX:=hr _ h1
  have ho:=hp _ (List.mem_cons_self ..)
  simp only at ho
  obtain ⟨l,hl,a⟩:=r.obj id o ho
  cases hX with
  | os A _ c _ _ _ hgg hc hm hA _ =>
    by_cases hn0:n=0
    · subst hn0
      exact ⟨A,c,[],rfl,⟨by simp,fun h=>absurd h (Nat.lt_irrefl _)⟩,(fun u hu=>by cases hu),fun i j hi=>absurd hi (Nat.not_lt_zero _)⟩
    · obtain ⟨b,k',rfl,hl2⟩:=hA omo
      obtain ⟨hb,rfl⟩:=hl2 l hl (a.g.trans hg)
      rcases a.at_ with ⟨h0,_⟩ | ⟨b',cs,g1,g2,g3,g4,g5,g6,⟨vs,g8⟩,g9⟩ | ⟨_,_,_,_,h3,_⟩
      rotate_right
      · have:=h3.n;omega
      · rw [h0] at hb;cases hb
      · rw [g1] at hb;injection hb with hb;subst hb
        refine ⟨_,c,b4e s n (fun i j=>vs (lo+i) j),rfl,⟨a5U _ _ _,fun _=>⟨_,rfl,g2.lt,fun p u hu=>?_⟩⟩,fun u hu=>?_,fun i j hi hj=>⟨_,b0x hi hj,(g8 (lo+i) j omo omo).2.2⟩⟩
        · obtain ⟨i,j,hi,hj,rfl,rfl⟩:=a5n hu
          rw [a3v,g2.cell,a.sz,show lo * o.sz+(i * s+j)=(lo+i) * o.sz+j from by rw [Nat.add_mul,hsz];omega]
          exact (g8 (lo+i) j omo omo).1
        · obtain ⟨p,hp,rfl⟩:=List.mem_iff_getElem.1 hu
          obtain ⟨i,j,hi,hj,_,e⟩:=a5n (List.getElem?_eq_getElem hp)
          rw [e]
          exact (g8 (lo+i) j omo omo).2.1
def elInfo (P:Program) (T:TypeId):Option (TypeId×Nat×Nat×Bool) :=
 match P.underlying T with
 | some (.slice e)=>(P.info? e).bind fun i=>i.zero.map fun z=>(e,i.size,i.bytes,Nat.beq z.cells.size i.size&&z.cells.all (·.oneCell'))
 | _=>none
theorem a6S {T e:TypeId} {s by_:Nat} (h:elInfo P T=some (e,s,by_,true)):P.underlying T=some (.slice e)∧∃ i z,P.info? e=some i∧i.zero=some z∧i.size=s∧i.bytes=by_∧z.cells.size=s∧z.cells.all (·.oneCell')=true:=by
 unfold elInfo at h
 split at h
 ·rename_i e' hu
  obtain ⟨i,hi,h⟩:=Option.bind_eq_some_iff.1 h
  obtain ⟨z,hz,h⟩:=Option.map_eq_some_iff.1 h
  injection h with h1 h2
  injection h2 with h2 h3
  injection h3 with h3 h4
  subst h1
  simp only [Bool.and_eq_true,Nat.beq_eq] at h4
  exact ⟨hu,i,z,hi,hz,h2,h3,h4.1.trans h2,h4.2⟩
 ·cases h
theorem b0c {id gg m k s by_:Nat} {e:TypeId} {o:HObj} {pre:List (Nat×HObj)} {fn:Nat→Nat→HV} (hT:elInfo P T=some (e,s,by_,true)) (h1:ovl ov x=some (.os id gg 0 m)) (hg:o.g=gg) (hsz:o.sz=s) (hty:o.ty=e) (hm:m≤o.n) (hfl:o.fl≤m)
    (hsrc:b2t ov y s k pre fn) (hk:m+k≤2000000000000) (hb:(m+k) * by_≤140737488355328) :
    HOp P ⟨d,.call ⟨.builtin .append,#[x,y],#[T,T]⟩,ty,pos,af,gd⟩ ov g ((id,o)::pre) (.os id g 0 (m+k)) [(id,⟨g,m+k,o.sz,o.ty,o.fl,cat m o.f fn⟩)]:=by
  refine ⟨?_⟩;intro K w0 F0 E hh a w Q N r ht hG hBd hpre hN
  have ho:=hpre _ (List.mem_cons_self ..)
  simp only at ho
  have hX:=ht x _ (by simp [Op.operands,Call.operands]) h1
  obtain ⟨A,c,news,hy,hrd,hone,hnew⟩:=hsrc K w0 F0 E hh w (a.eval y) r (fun p hp=>hpre p (List.mem_cons_of_mem _ hp)) (fun hv h=>ht y hv (by simp [Op.operands,Call.operands]) h)
  obtain ⟨hu,i,z,hi,hz,his,hib,hzs,_⟩:=a6S hT
  obtain ⟨l,xs,hl,hown,hcap,hxs⟩:=r.owns ho m hm hfl
  obtain ⟨l',hl',at_⟩:=r.obj id o ho
  rw [hl] at hl';injection hl' with hl';subst hl'
  have hp:=at_.pos
  subst hsz;subst hty
  generalize hρ:a.eval x=u at hX
  cases hX with
  | os A1 _ c1 _ _ _ hgg hc hmm hA hz0 =>
    obtain ⟨rfl,rfl⟩:=d0x (hz0 l hl (at_.g.trans hg))
    obtain ⟨v',w',hrun,h2,h3,h4⟩:=b0G (P:=P) w T ty o.ty i z o.sz by_ hu hi hz his hib hzs hp _ m xs hown w.heap.size A k c news hrd hone (by unfold maxLen;omega) hb
    obtain ⟨E',e',r',hg',hrep⟩:=r.append id o l ho hl m k g hm hfl hG fn xs news hown hxs hrd.1 hnew hone hcap v' h2 h3 h4
    refine a4q (v:=v') (w':=w') ?_ (hN v' w' E' e' r' (fun g' h=>(hg' g' h).imp (fun h=>h) fun h=>⟨by simp,h⟩) hrep)
    simp only [execOp,resolve,invoke,builtin,Sem.run_bind,Sem.run_pure,Result.andThen_ok,List.map_toArray,List.map_cons,List.map_nil,hρ,hy,hrun]
theorem b9m {id gg m k s by_:Nat} {e:TypeId} {o:HObj} {pre:List (Nat×HObj)} {fn:Nat→Nat→HV} (hT:elInfo P T=some (e,s,by_,true)) (hby:by_≤1000) (h1:ovl ov x=some (.os id gg 0 m)) (hg:o.g=gg) (hsz:o.sz=s) (hty:o.ty=e) (hm:m≤o.n) (hfl:o.fl≤m)
  (hsrc:b2t ov y s k pre fn) (hk:m+k≤2000000000) :
  HOp P ⟨d,.call ⟨.builtin .append,#[x,y],#[T,T]⟩,ty,pos,af,gd⟩ ov g ((id,o)::pre) (.os id g 0 (m+k)) [(id,⟨g,m+k,o.sz,o.ty,o.fl,cat m o.f fn⟩)] :=
 b0c hT h1 hg hsz hty hm hfl hsrc omo (by have:=Nat.mul_le_mul hk hby;omega)
theorem b1e {e oty:TypeId} {id gg lo0 n s m fl:Nat} {f:Nat→Nat→HV} {lo hi:Option Operand} {l h:Int} (hT:elOf P T=some (e,s)) (h1:ovl ov x=some (.os id gg lo0 n))
  (hl:lo=none∧l=0∨∃ k z,lo=some z∧ovl ov z=some (.imm (.int k l))) (hh:hi=none∧h=n∨∃ k z,hi=some z∧ovl ov z=some (.imm (.int k h))) (h0:0≤l) (hlh:l≤h) (hn:h≤n) :
  HOp P ⟨d,.slice T x lo hi none,ty,pos,af,gd⟩ ov g [(id,⟨gg,m,s,oty,fl,f⟩)] (.os id gg (lo0+l.toNat) (h - l).toNat) []:=b9l (o:=⟨gg,m,s,oty,fl,f⟩) hT h1 rfl rfl hl hh h0 hlh hn
theorem a1a {id gg lo n s m fl:Nat} {oty:TypeId} {f:Nat→Nat→HV} (h1:ovl ov y=some (.os id gg lo n)) (hn:lo+n≤m):b2t ov y s n [(id,⟨gg,m,s,oty,fl,f⟩)] (fun i j=>f (lo+i) j):=c5R (o:=⟨gg,m,s,oty,fl,f⟩) h1 rfl rfl hn
theorem a0D {id gg n s m fl:Nat} {oty:TypeId} {f:Nat→Nat→HV} (h1:ovl ov y=some (.os id gg 0 n)) (hn:n≤m):b2t ov y s n [(id,⟨gg,m,s,oty,fl,f⟩)] f:=by
 have:=c5R (o:=⟨gg,m,s,oty,fl,f⟩) h1 rfl rfl (by simpa using hn)
 simpa using this
theorem a0a {id gg m k s by_ n fl:Nat} {e:TypeId} {f:Nat→Nat→HV} {pre:List (Nat×HObj)} {fn:Nat→Nat→HV} (hT:elInfo P T=some (e,s,by_,true)) (hby:by_≤1000) (h1:ovl ov x=some (.os id gg 0 m)) (hm:m≤n) (hfl:fl≤m)
  (hsrc:b2t ov y s k pre fn) (hk:m+k≤2000000000) {m':Nat} (hm':m+k=m') :
  HOp P ⟨d,.call ⟨.builtin .append,#[x,y],#[T,T]⟩,ty,pos,af,gd⟩ ov g ((id,⟨gg,n,s,e,fl,f⟩)::pre) (.os id g 0 m') [(id,⟨g,m',s,e,fl,cat m f fn⟩)]:=by
 subst hm';exact b9m (o:=⟨gg,n,s,e,fl,f⟩) hT hby h1 rfl rfl rfl hm hfl hsrc hk
theorem b6n {id gg m k s by_ n fl:Nat} {e:TypeId} {f:Nat→Nat→HV} {pre:List (Nat×HObj)} {fn:Nat→Nat→HV} (hT:elInfo P T=some (e,s,by_,true)) (h1:ovl ov x=some (.os id gg 0 m)) (hm:m≤n) (hfl:fl≤m)
  (hsrc:b2t ov y s k pre fn) (hk:m+k≤2000000000000) (hb:(m+k) * by_≤140737488355328) {m':Nat} (hm':m+k=m') :
  HOp P ⟨d,.call ⟨.builtin .append,#[x,y],#[T,T]⟩,ty,pos,af,gd⟩ ov g ((id,⟨gg,n,s,e,fl,f⟩)::pre) (.os id g 0 m') [(id,⟨g,m',s,e,fl,cat m f fn⟩)]:=by
 subst hm';exact b0c (o:=⟨gg,n,s,e,fl,f⟩) hT h1 rfl rfl rfl hm hfl hsrc hk hb
end
section
variable {P:Program} {ops:Array Oper} {ov:Nat→Option HV} {g:Nat}
variable {d:Option Tmp} {ty:TypeId} {pos:String} {af:Array Edge} {gd:Option (Nat×Bool)} {T yT:TypeId} {x y z:Operand} {hx hy:HV}
def inr (o s k:Nat):Bool:=Nat.ble o k&&Nat.blt k (o+s)
theorem b6u (o s k:Nat):inr o s k=true↔o≤k∧k < o+s:=by simp [inr,Nat.blt_eq]
def bld:List (Nat×Nat×HV)→(Nat→HV)→Nat→HV
 | [],z=>z
 | (o,s,h)::r,z=>bld r (fun k=>match inr o s k with | true=>h.cell (k - o) | false=>z k)
theorem b2X {w:World} {E:Env} (place:Nat→Option (Nat×Nat)):∀ (ps:List (Nat×Value)) (hs:List (Nat×Nat×HV)) (cells:Array Value) (z:Nat→HV),
    (∀ k,k < cells.size→∃ u,cells[k]?=some u∧u.oneCell'=true∧Rep w E u (z k)) →
    ps.length=hs.length→(∀ (i:Nat) (p:Nat×Value) (q:Nat×Nat×HV),ps[i]?=some p→hs[i]?=some q→place p.1=some (q.1,q.2.1)∧q.2.2.flat=true∧q.2.2.wid=q.2.1∧q.1+q.2.1≤cells.size∧Rep w E p.2 q.2.2) →
    ∃ r,Instr.fill place cells ps=some r∧r.size=cells.size∧∀ k,k < cells.size→∃ u,r[k]?=some u∧u.oneCell'=true∧Rep w E u (bld hs z k)
  | [],[],cells,z,hz,_,_=>⟨cells,rfl,rfl,hz⟩
  | [],_::_,_,_,_,h,_=>by simp at h
  | _::_,[],_,_,_,h,_=>by simp at h
  | (i, v) :: ps, (o, s, h) :: hs, cells, z, hz, hl, hp => by
    obtain ⟨h1,h2,h3,h4,h5⟩:=hp 0 (i,v) (o,s,h) rfl rfl
    simp only at h1 h2 h3 h4 h5
    obtain ⟨hsz,vs,hvs⟩:=h5.cells h2
    have hsz':v.cells.size=s:=hsz.trans h3
    unfold Instr.fill
    simp only [h1]
    rw [if_neg (by simp [hsz'];omega)]
    have hf:=Great.foldl_set o v.cells.toList 0 cells
    have hfe:v.cells.zipIdx.foldl (fun cs (x:Value×Nat)=>cs.setIfInBounds (o+x.2) x.1) cells=(v.cells.toList.zipIdx 0).foldl (fun cs (x:Value×Nat)=>cs.setIfInBounds (o+x.2) x.1) cells:=by
      rw [←Array.foldl_toList,Array.toList_zipIdx]
    have hfe':v.cells.zipIdx.foldl (fun cs x=>cs.setIfInBounds (o+x.2) x.1) cells=(v.cells.toList.zipIdx 0).foldl (fun cs (x:Value×Nat)=>cs.setIfInBounds (o+x.2) x.1) cells:=hfe
    generalize hc:(v.cells.toList.zipIdx 0).foldl (fun cs (x:Value×Nat)=>cs.setIfInBounds (o+x.2) x.1) cells=c' at hf hfe'
    have:=b2X (w:=w) (E:=E) place ps hs c' (fun k=>match inr o s k with | true=>h.cell (k - o) | false=>z k) (fun k hk=>?_) (by simpa using hl) (fun j p q hj hq=>?_)
    · obtain ⟨r,hr1,hr2,hr3⟩:=this
      refine ⟨r,?_,hr2.trans hf.1,fun k hk=>hr3 k (by rw [hf.1];exact hk)⟩
      rw [←hr1,←hfe']
    · rw [hf.1] at hk
      rw [hf.2 k]
      by_cases hin:o≤k∧k < o+s
      · rw [if_pos ⟨by omega,by rw [Array.length_toList,hsz'];omega,hk⟩,Nat.add_zero,Array.getElem?_toList]
        rw [(b6u o s k).2 hin]
        exact ⟨_,hvs (k - o) (by rw [h3];omega)⟩
      · rw [if_neg (by rw [Array.length_toList,hsz'];omega),show inr o s k=false from by rw [←Bool.not_eq_true,b6u];exact hin]
        exact hz k hk
    · have:=hp (j+1) p q hj hq
      exact ⟨this.1,this.2.1,this.2.2.1,by rw [hf.1];exact this.2.2.2.1,this.2.2.2.2⟩
def stOf (P:Program) (T:TypeId):Option (List Value×List (Nat×Nat)) :=
  match P.info? T,P.underlying T with
  | some it, some (.struct fields) =>
    match it.zero,fields.toList.mapM (fun f=>(P.info? f.type).map fun i=>(f.offset,i.size)) with
    | some z,some places=>some (z.cells.toList,places)
    | _,_=>none
  | _,_=>none
def a3S (ov:Nat→Option HV) (pl:List (Nat×Nat)) (sz:Nat):List (Nat×Operand)→List (Nat×Nat×HV)→Prop
 | [],[]=>True
 | (i,x)::ps,(o,s,h)::hs=>ovl ov x=some h∧pl[i]?=some (o,s)∧h.flat=true∧h.wid=s∧Nat.ble (o+s) sz=true∧a3S ov pl sz ps hs
 | _,_=>False
theorem a3S.spec {w:World} {E:Env} {ρ:Operand→Value} {pl:List (Nat×Nat)} {sz:Nat}:∀ {ps:List (Nat×Operand)} {hs:List (Nat×Nat×HV)},a3S ov pl sz ps hs→(∀ x hv,x∈ps.map (·.2)→ovl ov x=some hv→Rep w E (ρ x) hv) →
    (ps.map fun p=>(p.1,ρ p.2)).length=hs.length∧∀ (i:Nat) (p:Nat×Value) (q:Nat×Nat×HV),(ps.map fun p=>(p.1,ρ p.2))[i]?=some p→hs[i]?=some q→pl.toArray[p.1]?=some (q.1,q.2.1)∧q.2.2.flat=true∧q.2.2.wid=q.2.1∧q.1+q.2.1≤sz∧Rep w E p.2 q.2.2
  | [],[],_,_=>⟨rfl,fun i p q h=>by simp at h⟩
  | [],_::_,h,_=>h.elim
  | _::_,[],h,_=>h.elim
  | (i, x) :: ps, (o, s, h) :: hs, ⟨h1, h2, h3, h4, h5, h6⟩, hr => by
    obtain ⟨e1,e2⟩:=a3S.spec h6 (fun x hv hx=>hr x hv (List.mem_cons_of_mem _ hx))
    refine ⟨by rw [List.map_cons,List.length_cons,List.length_cons,e1],fun j p q hp hq=>?_⟩
    cases j with
    | zero =>
      simp at hp hq
      subst hp;subst hq
      exact ⟨by simpa using h2,h3,h4,by simpa using h5,hr x h (List.mem_cons_self ..) h1⟩
    | succ j=>exact e2 j p q (by simpa using hp) (by simpa using hq)
theorem c2y {zs:List Value} {pl:List (Nat×Nat)} {n:Nat} {parts:List (Nat×Operand)} {hs:List (Nat×Nat×HV)} (hT:stOf P T=some (zs,pl)) (hn:zs.length=n) (hz1:zs.all (·.oneCell')=true) (hp:a3S ov pl n parts hs) :
  HOp P ⟨d,.build T parts.toArray,ty,pos,af,gd⟩ ov g [] (.agg n (bld hs (fun j=>.imm (zs.getD j undef)))) [] :=
 a0t fun w E ρ hr=>by
  obtain ⟨e1,e2⟩:=hp.spec (w:=w) (E:=E) (ρ:=ρ) (fun x hv hx h=>hr x hv (by simpa [Op.operands] using hx) h)
  unfold stOf at hT
  split at hT
  ·rename_i it fields hit hu
   split at hT
   ·rename_i z places hz hpl
    injection hT with hT
    injection hT with ha hb
    subst hb
    have hzl:z.cells.size=n:=by rw [←hn,←ha,Array.length_toList]
    obtain ⟨r,hr1,hr2,hr3⟩:=b2X (w:=w) (E:=E) (places.toArray[·]?) (parts.map fun p=>(p.1,ρ p.2)) hs z.cells (fun j=>.imm (zs.getD j undef)) (fun k hk=>by
     have hk':k < zs.length:=by rw [hn,←hzl];exact hk
     have e:zs.getD k undef=zs[k]:=by simp [List.getD,List.getElem?_eq_getElem hk']
     refine ⟨zs[k],?_,List.all_eq_true.1 hz1 _ (List.getElem_mem hk'),by rw [e];exact .imm _⟩
     rw [←Array.getElem?_toList,ha,List.getElem?_eq_getElem hk']) e1 (fun i p q hp hq=>by rw [hzl];exact e2 i p q hp hq)
    have hb:P.built T (parts.toArray.map fun (i,x)=>(i,ρ x)).toList=some r:=by
     unfold Program.built
     simp only [hit,hu,hz,hpl]
     rw [←hr1]
     simp
    refine ⟨.agg r,by simp only [execOp,Sem.run_bind,run_build w T _ r hb,Result.andThen_ok,Sem.run_pure],?_⟩
    have hch:∀ k,∃ u,k < n→r[k]?=some u∧u.oneCell'=true∧Rep w E u (bld hs (fun j=>.imm (zs.getD j undef)) k):=by
     intro k
     by_cases hk:k < n
     ·obtain ⟨u,hu⟩:=hr3 k (by rw [hzl];exact hk)
      exact ⟨u,fun _=>hu⟩
     ·exact ⟨undef,fun h=>absurd h hk⟩
    refine .agg r n _ (fun k=>(hch k).choose) (by rw [hr2,hzl]) (fun i hi=>⟨((hch i).choose_spec hi).1,((hch i).choose_spec hi).2.1⟩) (fun i hi=>((hch i).choose_spec hi).2.2)
   ·cases hT
  ·cases hT
def bsf:List HV→Nat→Nat→HV
 | [],_,_=>default
 | h::r,i,j=>match i with | 0=>h.cell j | i+1=>bsf r i j
def a5P (ov:Nat→Option HV) (sz:Nat):Nat→List (Nat×Operand)→List HV→Prop
 | _,[],[]=>True
 | k,(i,x)::ps,h::hs=>i=k∧ovl ov x=some h∧h.flat=true∧h.wid=sz∧a5P ov sz (k+1) ps hs
 | _,_,_=>False
theorem a5P.spec {w:World} {E:Env} {ρ:Operand→Value} {sz:Nat}:∀ {k:Nat} {ps:List (Nat×Operand)} {hs:List HV},a5P ov sz k ps hs→(∀ x hv,x∈ps.map (·.2)→ovl ov x=some hv→Rep w E (ρ x) hv) →
    ps.length=hs.length∧(ps.map fun p=>(p.1,ρ p.2))=((ps.map fun p=>ρ p.2).zipIdx k).map (fun x=>(x.2,x.1))∧(∀ v∈ps.map (fun p=>ρ p.2),v.cells.size=sz) ∧
      ∀ i j,i < hs.length→j < sz→∃ v u,(ps.map fun p=>ρ p.2)[i]?=some v∧v.cells[j]?=some u∧u.oneCell'=true∧Rep w E u (bsf hs i j)
  | _,[],[],_,_=>⟨rfl,rfl,fun v h=>by simp at h,fun i j hi=>by simp at hi⟩
  | _,[],_::_,h,_=>h.elim
  | _,_::_,[],h,_=>h.elim
  | k, (i, x) :: ps, h :: hs, ⟨h1, h2, h3, h4, h5⟩, hr => by
    obtain ⟨e1,e2,e3,e4⟩:=a5P.spec h5 (fun x hv hx=>hr x hv (List.mem_cons_of_mem _ hx))
    subst h1
    obtain ⟨hsz,vs,hvs⟩:=(hr x h (List.mem_cons_self ..) h2).cells h3
    refine ⟨by simp [e1],by simp [e2],fun v hv=>?_,fun a j ha hj=>?_⟩
    · simp only [List.map_cons,List.mem_cons] at hv
      rcases hv with rfl | hv
      · rw [hsz,h4]
      · exact e3 v hv
    · cases a with
      | zero=>exact ⟨ρ x,vs j,by simp,hvs j (by rw [h4];exact hj)⟩
      | succ a =>
        obtain ⟨v,u,g1,g2⟩:=e4 a j (by simpa using ha) hj
        exact ⟨v,u,by simpa using g1,g2⟩
theorem c8s {s:Nat} (hs:0 < s) (vs:List Value) (h1:∀ v∈vs,v.cells.size=s) (i j:Nat) (hi:i < vs.length) (hj:j < s):(vs.flatMap fun v=>v.cells.toList).toArray[i * s+j]?=vs[i].cells[j]?:=by
  induction vs generalizing i with
  | nil=>simp at hi
  | cons v vs ih =>
    have hv:=h1 v (List.mem_cons_self ..)
    simp only [List.flatMap_cons,List.getElem?_toArray]
    cases i with
    | zero =>
      rw [Nat.zero_mul,Nat.zero_add,List.getElem?_append_left (by rw [Array.length_toList,hv];exact hj)]
      simp
    | succ i =>
      rw [List.getElem?_append_right (by rw [Array.length_toList,hv,Nat.add_mul];omega),Array.length_toList,hv,show (i+1) * s+j - s=i * s+j from by rw [Nat.add_mul];omega]
      have:=ih (fun u hu=>h1 u (List.mem_cons_of_mem _ hu)) i (by simpa using hi)
      simpa using this
theorem a0d {id e s by_ n:Nat} {parts:List (Nat×Operand)} {hs:List HV} (hT:elInfo P T=some (e,s,by_,true)) (hs0:0 < s) (hn:hs.length=n) (hsm:n * s≤16777216) (hp:a5P ov s 0 parts hs) :
  HOp P ⟨d,.buildSlice T n parts.toArray,ty,pos,af,gd⟩ ov g [] (.os id g 0 n) [(id,⟨g,n,s,e,0,bsf hs⟩)]:=by
 refine ⟨?_⟩;intro K w0 F0 E hh a w Q N r ht hG hBd hpre hN
 obtain ⟨e1,e2,e3,e4⟩:=hp.spec (w:=w) (E:=E) (ρ:=a.eval) (fun x hv hx h=>ht x hv (by simpa [Op.operands] using hx) h)
 obtain ⟨hu,i,z,hi,hz,his,hib,hzs,_⟩:=a6S hT
 have hpe:(parts.toArray.map fun (i,x)=>(i,a.eval x)).toList=parts.map fun p=>(p.1,a.eval p.2):=by simp
 have hvl:(parts.map fun p=>a.eval p.2).length=n:=by rw [List.length_map,e1,hn]
 have hnm:n≤maxLen:=by
  have:n * 1≤n * s:=Nat.mul_le_mul_left _ hs0
  unfold maxLen;omega
 have key:∀ cs:Array Value,cs.size=n * s→(∀ a' j,a' < n→j < s→∃ u,cs[a' * s+j]?=some u∧u.oneCell'=true∧Rep w E u (bsf hs a' j)) →
   (Instr.buildSlice T n (parts.toArray.map fun (i,x)=>(i,a.eval x))).run P w=.ok (.slice (some ⟨w.heap.size,0,none⟩) n n) (w.alloc (.cells cs e))→Oper.wp P ⟨d,.buildSlice T n parts.toArray,ty,pos,af,gd⟩ a w N Q:=by
  intro cs hcs hrep hrun
  have hch:∀ a' j,∃ u,a' < n→j < s→cs[a' * s+j]?=some u∧u.oneCell'=true∧Rep w E u (bsf hs a' j):=by
   intro a' j
   by_cases h1:a' < n
   ·by_cases h2:j < s
    ·obtain ⟨u,hu⟩:=hrep a' j h1 h2
     exact ⟨u,fun _ _=>hu⟩
    ·exact ⟨undef,fun _ h=>absurd h h2⟩
   ·exact ⟨undef,fun h=>absurd h h1⟩
  have hnew:=r.new id g n s e cs (bsf hs) n (fun a' j=>(hch a' j).choose) hG hs0 hcs lrf hnm (fun a' j h1 h2=>(hch a' j).choose_spec h1 h2)
  refine a4q (v:=.slice (some ⟨w.heap.size,0,none⟩) n n) (w':=w.alloc (.cells cs e)) ?_ (hN _ _ _ hnew.1 hnew.2 (fun g' hg'=>hg'.imp (fun h=>h) fun h=>⟨by simp,h⟩) ?_)
  ·simp only [execOp,Sem.run_bind,hrun,Result.andThen_ok,Sem.run_pure]
  ·refine .os _ n n id g 0 (.inr rfl) lrf hnm (fun _=>⟨_,_,rfl,fun l hl _=>?_⟩) (fun l hl _=>?_)
   ·rw [Env.new_L] at hl;injection hl with hl;subst hl
    exact ⟨rfl,by simp⟩
   ·rw [Env.new_L] at hl;injection hl with hl;subst hl
    exact ⟨Nat.zero_add _,fun _=>by simp⟩
 by_cases hn0:n=0
 ·subst hn0
  refine key #[] sml (fun a' j h=>absurd h (Nat.not_lt_zero _)) ?_
  have hpn:parts=[]:=List.eq_nil_of_length_eq_zero (by rw [e1,hn])
  subst hpn
  simp [Instr.buildSlice,run_underlying hu,sizeOf,typeInfo,hi,Instr.fill,newRow,show Array.range 0=#[] from rfl]
 ·have hw:=Great.fill_whole hs0 (parts.map fun p=>a.eval p.2) ((Array.range (n * i.size)).map (z.cells[· % z.cells.size]!)) e3 (by rw [hvl,Array.size_map,Array.size_range,his])
  have hrun:=run_buildSlice (P:=P) w T e n (parts.toArray.map fun (i,x)=>(i,a.eval x)) _ i z hu hi hz (by rw [his];omega) (by rw [his];exact Nat.mul_ne_zero hn0 omo) (by rw [hpe,e2,his];rw [his] at hw;exact hw)
  refine key _ ?_ ?_ hrun
  ·have:∀ vs:List Value,(∀ v∈vs,v.cells.size=s)→(vs.flatMap fun v=>v.cells.toList).length=vs.length * s:=by
    intro vs
    induction vs with
    | nil=>intro _;simp
    | cons v vs ih=>intro h;simp [List.flatMap_cons,ih (fun u hu=>h u (List.mem_cons_of_mem _ hu)),h v (List.mem_cons_self ..),Nat.add_mul,Nat.add_comm]
   rw [List.size_toArray,this _ e3,hvl]
  ·intro a' j h1 h2
   obtain ⟨v,u,g1,g2,g3⟩:=e4 a' j (by rw [hn];exact h1) h2
   refine ⟨u,?_,g3⟩
   have hlt:a' < (parts.map fun p=>a.eval p.2).length:=by rw [hvl];exact h1
   rw [c8s hs0 _ e3 a' j hlt h2]
   rw [List.getElem?_eq_getElem hlt] at g1
   injection g1 with g1
   rw [g1];exact g2
theorem b2Z {id e s by_:Nat} {kl kc:IntKind} {l c:Int} {n m:Nat} (hT:elInfo P T=some (e,s,by_,true)) (hs0:0 < s) (hby:by_≤1000) (h1:ovl ov x=some (.imm (.int kl l))) (h2:ovl ov y=some (.imm (.int kc c))) (hl:l=(n:Int)) (hc:c=(m:Int)) (hnm:n≤m) (hm:m≤1000000) (hsm:m * s≤16777216) {zs:List Value} (hz:((P.info? e).bind (·.zero)).map (fun z=>z.cells.toList)=some zs) :
  HOp P ⟨d,.makeSlice T x y,ty,pos,af,gd⟩ ov g [] (.os id g 0 n) [(id,⟨g,n,s,e,0,fun _ j=>.imm (zs.getD j undef)⟩)]:=by
 refine ⟨?_⟩;intro K w0 F0 E hh a w Q N r ht hG hBd hpre hN
 have e1:=Rep.imm_inv (ht x _ smo h1)
 have e2:=Rep.imm_inv (ht y _ smo h2)
 obtain ⟨hu,i,z,hi,hz0,his,hib,hzs,hz1⟩:=a6S hT
 simp only [hi,hz0,Option.bind_some,Option.map_some] at hz
 injection hz with hz
 subst hl;subst hc
 have hb:(i.bytes:Int) * (m:Int)≤281474976710656:=by
  have:i.bytes * m≤1000 * 1000000:=Nat.mul_le_mul omo hm
  have h2:(i.bytes:Int) * (m:Int)=((i.bytes * m:Nat):Int):=by simp
  rw [h2];omega
 have hrun:=run_make (P:=P) w T e i z hu hi hz0 kl kc (n:Int) (m:Int) omo omo hb omo
 simp only [Int.toNat_natCast] at hrun
 have hzl:zs.length=s:=by rw [←hz,Array.length_toList,hzs]
 have hcell:∀ k,k < m * s→(madeCells z.cells (m * i.size))[k]?=some (zs.getD (k % s) undef):=by
  intro k hk
  have hks:k % s < s:=Nat.mod_lt _ hs0
  have e3:zs.getD (k % s) undef=zs[k % s]:=by simp [List.getD,List.getElem?_eq_getElem (show k % s < zs.length by omega)]
  rw [e3]
  subst hz
  simp only [madeCells,Array.getElem?_map,Array.getElem?_range,his,hk,if_true,Option.map_some,hzs]
  congr 1
  rw [getElem!_pos z.cells (k % s) omo]
  simp
 have hnew:=r.new id g m s e (madeCells z.cells (m * i.size)) (fun _ j=>.imm (zs.getD j undef)) n (fun _ j=>zs.getD j undef) hG hs0 (by rw [size_madeCells,his]) hnm (by unfold maxLen;omega) (fun a' j ha hj=>by
  have hlt:=a7n (sz:=s) (show a' < m by omega) hj
  refine ⟨?_,?_,.imm _⟩
  ·rw [hcell _ hlt,Nat.mul_comm,Nat.mul_add_mod,Nat.mod_eq_of_lt hj]
  ·have hjl:j < zs.length:=by omega
   have e3:zs.getD j undef=zs[j]:=by simp [List.getD,List.getElem?_eq_getElem hjl]
   rw [e3]
   have:=Array.all_eq_true_iff_forall_mem.1 hz1
   have h6:∀ u∈zs,u∈z.cells:=by intro u hu;rw [←hz] at hu;simpa using hu
   exact this _ (h6 _ (List.getElem_mem hjl)))
 refine a4q (v:=.slice (some ⟨w.heap.size,0,none⟩) n m) (w':=w.alloc (.cells (madeCells z.cells (m * i.size)) e)) ?_ (hN _ _ _ hnew.1 hnew.2 (fun g' hg'=>hg'.imp (fun h=>h) fun h=>⟨by simp,h⟩) ?_)
 ·simp only [execOp,e1,e2,Sem.run_bind,hrun,Result.andThen_ok,Sem.run_pure]
 ·refine .os _ n m id g 0 (.inr rfl) hnm (by unfold maxLen;omega) (fun _=>⟨_,_,rfl,fun l hl _=>?_⟩) (fun l hl _=>?_)
  ·rw [Env.new_L] at hl;injection hl with hl;subst hl
   exact ⟨rfl,by simp⟩
  ·rw [Env.new_L] at hl;injection hl with hl;subst hl
   exact ⟨Nat.zero_add _,fun _=>by simp⟩
def a1L (ov:Nat→Option HV):List Operand→List HV→Prop
 | [],[]=>True
 | x::xs,h::hs=>ovl ov x=some h∧a1L ov xs hs
 | _,_=>False
theorem a1L.rep {w:World} {E:Env} {ρ:Operand→Value}:∀ {xs:List Operand} {hs:List HV},a1L ov xs hs→(∀ x hv,x∈xs→ovl ov x=some hv→Rep w E (ρ x) hv)→RepAll w E (xs.map ρ) hs
 | [],[],_,_=>trivial
 | x::xs,h::hs,h1,hr=>⟨hr x h (List.mem_cons_self ..) h1.1,a1L.rep h1.2 (fun y hv hy=>hr y hv (List.mem_cons_of_mem _ hy))⟩
 | [],_::_,h,_=>h.elim
 | _::_,[],h,_=>h.elim
theorem a0C {f:FuncId} (h:c6n P f) (args:Array Value) (w:World):(callFunc f args).run P w=.ok (.enter f args) w:=by
 obtain ⟨fn,c,hf,hb,hn⟩:=h
 have hn':¬ fn.name = "runtime.NumGoroutine" := by simpa using hn
 unfold callFunc
 simp [Sem.run_bind,program,Sem.run,hf,hb,hn']
theorem a7e {f:FuncId} {args:List Operand} {at_:Array TypeId} {xs ys:List HV} {r:HV} (sh:List (Nat×HObj)) (hp:HPure P f ys r) (hx:a1L ov args xs) (hz:FzAll sh xs ys) (hd:a1u (sh.map (·.1))=true) :
  HOp P ⟨d,.call ⟨.value (.func f),args.toArray,at_⟩,ty,pos,af,gd⟩ ov g sh r (sh.map fun p=>(p.1,p.2.full)):=by
 refine ⟨?_⟩;intro K w0 F0 E hh a w Q N rr ht hG hBd hpre hN
 have hrep:=hx.rep (w:=w) (E:=E) (ρ:=a.eval) (fun x hv hx h=>ht x hv (by simp [Op.operands,Call.operands];exact .inr hx) h)
 unfold Oper.wp execOp
 have hargs:args.toArray.map a.eval=(args.map a.eval).toArray:=by simp
 simp only [resolve,Act.eval,Deferred.ofValue,invoke,Sem.run_bind,Sem.run_pure,Result.andThen_ok,Array.empty_append,Array.append_empty]
 rw [a0C hp.1]
 simp only [Oper.upon]
 have hc:=hp.calls rr sh hd hpre xs (args.map a.eval) hz hrep
 rw [←hargs] at hc
 refine Calls.mono hc ?_
 rintro e w' ⟨v,E',rfl,e',r',hg',hv⟩
 exact hN v w' E' e' r' (fun g' h=>.inl (hg' g' h)) hv
theorem a0e {f:FuncId} {args:List Operand} {at_:Array TypeId} {xs ys:List HV} {r:HV} (hp:HPure P f ys r) (hx:a1L ov args xs) (hz:FzAll [] xs ys):HOp P ⟨d,.call ⟨.value (.func f),args.toArray,at_⟩,ty,pos,af,gd⟩ ov g [] r []:=a7e [] hp hx hz rfl
theorem c0y {f:FuncId} {t:Nat} {n:Nat} {caps:Nat→HV} {args:List Operand} {at_:Array TypeId} {xs cs ys:List HV} {r:HV} (sh:List (Nat×HObj)) (hp:HPure P f ys r) (h0:ovl ov (.tmp t)=some (.fn (.func f) n caps)) (hcs:cs.length=n) (hci:∀ i,i < n→cs[i]?=some (caps i)) (hx:a1L ov args xs) (hz:FzAll sh (xs++cs) ys) (hd:a1u (sh.map (·.1))=true) :
    HOp P ⟨d,.call ⟨.value (.tmp t),args.toArray,at_⟩,ty,pos,af,gd⟩ ov g sh r (sh.map fun p=>(p.1,p.2.full)):=by
  refine ⟨?_⟩;intro K w0 F0 E hh a w Q N rr ht hG hBd hpre hN
  have hrep:=hx.rep (w:=w) (E:=E) (ρ:=a.eval) (fun x hv hx h=>ht x hv (by simp [Op.operands,Call.operands];exact .inr hx) h)
  have hfn:=ht (.tmp t) _ (by simp [Op.operands,Call.operands]) h0
  unfold Oper.wp execOp
  generalize hρ:a.eval (.tmp t)=u at hfn
  cases hfn with
  | fn _ vcs _ _ vs hn hv hr =>
    have hcap:RepAll w E vcs.toList cs:=by
      have:∀ (l:List Value) (m:List HV) (k:Nat),l.length=m.length→(∀ i,i < l.length→∃ v x,l[i]?=some v∧m[i]?=some x∧Rep w E v x)→RepAll w E l m:=by
        intro l
        induction l with
        | nil=>intro m k hl _;cases m with | nil=>trivial | cons _ _=>simp at hl
        | cons v l ih =>
          intro m k hl h
          cases m with
          | nil=>simp at hl
          | cons x m =>
            obtain ⟨v',x',h1,h2,h3⟩:=h 0 sml
            simp at h1 h2
            subst h1;subst h2
            exact ⟨h3,ih m k (by simpa using hl) (fun i hi=>by have:=h (i+1) (by simpa using hi);simpa using this)⟩
      refine this _ _ 0 (by rw [Array.length_toList,hn,hcs]) (fun i hi=>?_)
      rw [Array.length_toList,hn] at hi
      exact ⟨vs i,caps i,by rw [Array.getElem?_toList];exact hv i hi,hci i hi,hr i hi⟩
    have hargs:args.toArray.map a.eval++vcs=(args.map a.eval++vcs.toList).toArray:=by
      apply Array.ext'
      simp
    have happ:RepAll w E (args.map a.eval++vcs.toList) (xs++cs):=by
      have:∀ (l:List Value) (m:List HV),RepAll w E l m→RepAll w E (l++vcs.toList) (m++cs):=by
        intro l
        induction l with
        | nil=>intro m h;cases m with | nil=>exact hcap | cons _ _=>exact h.elim
        | cons v l ih =>
          intro m h
          cases m with
          | nil=>exact h.elim
          | cons x m=>exact ⟨h.1,ih m h.2⟩
      exact this _ _ hrep
    simp only [resolve,hρ,Deferred.ofValue,invoke,Sem.run_bind,Sem.run_pure,Result.andThen_ok,Array.empty_append]
    rw [a0C hp.1]
    simp only [Oper.upon]
    have hc:=hp.calls rr sh hd hpre (xs++cs) _ hz happ
    rw [←hargs] at hc
    refine Calls.mono hc ?_
    rintro e w' ⟨v,E',rfl,e',r',hg',hv⟩
    exact hN v w' E' e' r' (fun g' h=>.inl (hg' g' h)) hv
theorem a6m {f:FuncId} {t:Nat} {n:Nat} {caps:Nat→HV} {args:List Operand} {at_:Array TypeId} {xs cs ys:List HV} {r:HV} (hp:HPure P f ys r) (h0:ovl ov (.tmp t)=some (.fn (.func f) n caps)) (hcs:cs.length=n) (hci:∀ i,i < n→cs[i]?=some (caps i)) (hx:a1L ov args xs) (hz:FzAll [] (xs++cs) ys) :
  HOp P ⟨d,.call ⟨.value (.tmp t),args.toArray,at_⟩,ty,pos,af,gd⟩ ov g [] r []:=c0y [] hp h0 hcs hci hx hz rfl
theorem c7s {k:IntKind} {a b:Int} {at_:Array TypeId} (h1:ovl ov x=some (.imm (.int k a))) (h2:ovl ov y=some (.imm (.int k b))):HOp P ⟨d,.call ⟨.builtin .min,#[x,y],at_⟩,ty,pos,af,gd⟩ ov g [] (.imm (.int k (if b < a then b else a))) [] :=
 a0t fun w E ρ hr=>by
  have e1:=Rep.imm_inv (hr x _ (by simp [Op.operands,Call.operands]) h1)
  have e2:=Rep.imm_inv (hr y _ (by simp [Op.operands,Call.operands]) h2)
  exact ⟨_,by simp [execOp,resolve,invoke,builtin,Builtin.min_,Builtin.min2,e1,e2],.imm _⟩
theorem c8q {k:IntKind} {a b:Int} {at_:Array TypeId} (h1:ovl ov x=some (.imm (.int k a))) (h2:ovl ov y=some (.imm (.int k b))):HOp P ⟨d,.call ⟨.builtin .max,#[x,y],at_⟩,ty,pos,af,gd⟩ ov g [] (.imm (.int k (if b > a then b else a))) [] :=
 a0t fun w E ρ hr=>by
  have e1:=Rep.imm_inv (hr x _ (by simp [Op.operands,Call.operands]) h1)
  have e2:=Rep.imm_inv (hr y _ (by simp [Op.operands,Call.operands]) h2)
  exact ⟨_,by simp [execOp,resolve,invoke,builtin,Builtin.max_,Builtin.max2,e1,e2],.imm _⟩
theorem b4q {f:FuncId} {caps:List Operand} {hs:List HV} (hx:a1L ov caps hs):HOp P ⟨d,.makeFunc (.func f) #[] caps.toArray,ty,pos,af,gd⟩ ov g [] (.fn (.func f) hs.length (fun i=>hs.getD i default)) [] :=
  a0t fun w E ρ hr=>by
    have hrep:=hx.rep (w:=w) (E:=E) (ρ:=ρ) (fun x hv hx h=>hr x hv (by simpa [Op.operands] using hx) h)
    refine ⟨.func (.func f) #[] (caps.toArray.map ρ),by simp [execOp,Instr.makeFunc],?_⟩
    have:∀ (l:List Value) (m:List HV),RepAll w E l m→l.length=m.length∧∀ i,i < m.length→∃ v,l[i]?=some v∧Rep w E v (m.getD i default):=by
      intro l
      induction l with
      | nil=>intro m h;cases m with | nil=>exact ⟨rfl,fun i hi=>by simp at hi⟩ | cons _ _=>exact h.elim
      | cons v l ih =>
        intro m h
        cases m with
        | nil=>exact h.elim
        | cons x m =>
          obtain ⟨i1,i2⟩:=ih m h.2
          refine ⟨by simp [i1],fun i hi=>?_⟩
          cases i with
          | zero=>exact ⟨v,rfl,h.1⟩
          | succ i=>exact i2 i (by simpa using hi)
    obtain ⟨i1,i2⟩:=this _ _ hrep
    refine .fn _ _ _ _ (fun i=>(caps.map ρ).getD i undef) (by rw [←i1];simp) (fun i hi=>?_) (fun i hi=>?_)
    · obtain ⟨v,hv,_⟩:=i2 i hi
      have:(caps.map ρ).getD i undef=v:=by simp [List.getD,hv]
      rw [this]
      have e:(caps.toArray.map ρ)[i]?=(caps.map ρ)[i]?:=by simp
      rw [e,hv]
    · obtain ⟨v,hv,h⟩:=i2 i hi
      have:(caps.map ρ).getD i undef=v:=by simp [List.getD,hv]
      rw [this];exact h
end
section
variable {P:Program} {ops:Array Oper} {g:Nat} {d:Option Tmp} {ty:TypeId} {pos:String} {af:Array Edge}
theorem a6n {tm:Nat→Option TV} {j:Nat} {x y:Operand} (c:Bool) (hx hy v:HV) (hc:tm j=some (.v (.imm (.bool c)))) (h1:ovl (a1T tm j true) x=some hx) (h2:ovl (a1T tm j false) y=some hy) (hv1:c=true→Sb hx v) (hv2:c=false→Sb hy v) :
    HStep P ops ⟨d,.pick (.tmp j) x y,ty,pos,af,none⟩ tm g ⟨.v v,j::a0A ⟨d,.pick (.tmp j) x y,ty,pos,af,none⟩,[],[]⟩:=by
  intro K w0 F0 E hh a w Q N r ht hG hBd hp hN
  rw [if_pos (by simp [Region.wanted])]
  have hj:a.eval (.tmp j)=.bool c:=Rep.imm_inv (ht j _ (List.mem_cons_self ..) hc)
  have look:∀ (b:Bool) (z:Operand) (h:HV),c=b→z∈(Op.pick (.tmp j) x y).operands.toList→ovl (a1T tm j b) z=some h→Rep w E (a.eval z) h:=by
    intro b z h hb hz ho
    subst hb
    cases z with
    | tmp t=>exact a5i hj (fun y hy=>ht j y (List.mem_cons_self ..) hy) (fun y hy=>ht t y (List.mem_cons_of_mem _ (a6r hz)) hy) ho
    | const v=>exact a5m w E _ v _ ho
    | global k=>injection ho with ho;subst ho;exact .imm _
    | func f=>injection ho with ho;subst ho;exact .fn (.func f) #[] 0 _ (fun _=>undef) rfl (fun i hi=>absurd hi (Nat.not_lt_zero _)) (fun i hi=>absurd hi (Nat.not_lt_zero _))
  refine a4q (v:=if c=true then a.eval x else a.eval y) (w':=w) ?_ (hN _ w E (Ext.refl _ _) r (fun _ h=>.inl h) ?_)
  · cases c <;> simp [execOp,hj,asBool]
  · cases c with
    | true=>exact (hv1 rfl).sound (look true x hx rfl smo h1)
    | false=>exact (hv2 rfl).sound (look false y hy rfl smo h2)
theorem b6W {tm:Nat→Option TV} {j:Nat} {x y:Operand} (c b:Bool) (hc:tm j=some (.v (.imm (.bool c)))) (h1:ovl (a1T tm j true) x=some (.imm (.bool true))) (h2:ovl (a1T tm j false) y=some (.imm (.bool b))) :
  HStep P ops ⟨d,.pick (.tmp j) x y,ty,pos,af,none⟩ tm g ⟨.v (.imm (.bool (c||b))),j::a0A ⟨d,.pick (.tmp j) x y,ty,pos,af,none⟩,[],[]⟩ :=
 a6n c _ _ _ hc h1 h2 (fun h=>by subst h;exact .refl _) (fun h=>by subst h;exact .refl _)
theorem b3f {tm:Nat→Option TV} {j:Nat} {x y:Operand} (c b:Bool) (hc:tm j=some (.v (.imm (.bool c)))) (h1:ovl (a1T tm j true) x=some (.imm (.bool b))) (h2:ovl (a1T tm j false) y=some (.imm (.bool false))) :
  HStep P ops ⟨d,.pick (.tmp j) x y,ty,pos,af,none⟩ tm g ⟨.v (.imm (.bool (c&&b))),j::a0A ⟨d,.pick (.tmp j) x y,ty,pos,af,none⟩,[],[]⟩ :=
 a6n c _ _ _ hc h1 h2 (fun h=>by subst h;exact .refl _) (fun h=>by subst h;exact .refl _)
end
def Ctx.top (w:World) (F:Addr→Prop):Ctx:=⟨fun _=>True,w,Env.just F,[],none,none⟩
def a8o:Nat→List HV→List (Nat×TV)
 | _,[]=>[]
 | k,x::r=>(k,.v x)::a8o (k+1) r
theorem a2w:∀ (l:List HV) (k t:Nat) (x:TV),tget (a8o k l) t=some x→∃ i h,t=k+i∧l[i]?=some h∧x=.v h
  | [],_,_,_,h=>by cases h
  | a :: l, k, t, x, h => by
    rw [a8o,a0x] at h
    split at h
    · rename_i e
      injection h with h
      exact ⟨0,a,by omega,rfl,h.symm⟩
    · obtain ⟨i,y,h1,h2,h3⟩:=a2w l (k+1) t x h
      exact ⟨i+1,y,by omega,by simpa using h2,h3⟩
theorem RepAll.get {w:World} {E:Env}:∀ {vs:List Value} {xs:List HV},RepAll w E vs xs→vs.length=xs.length∧∀ (i:Nat) (x:HV),xs[i]?=some x→∃ v,vs[i]?=some v∧Rep w E v x
  | [],[],_=>⟨rfl,fun i x h=>by simp at h⟩
  | v :: vs, x :: xs, h => by
    obtain ⟨h1,h2⟩:=RepAll.get h.2
    refine ⟨by simp [h1],fun i y hy=>?_⟩
    cases i with
    | zero=>simp at hy;subst hy;exact ⟨v,rfl,h.1⟩
    | succ i=>exact h2 i y (by simpa using hy)
  | [],_::_,h=>h.elim
  | _::_,[],h=>h.elim
section
variable {P:Program}
theorem a0k {f:FuncId} {fn:Func} {c:Code} (hf:P.funcs[f]?=some fn) (hb:fn.body=some c) (hn:(fn.name == "runtime.NumGoroutine")=false) (args:List HV) (r:HV) (tm:List (Nat×TV)) (htm:a8o 0 args=tm) (n:Nat) (hnt:fn.ntmps=n) (hlen:Nat.ble args.length n=true)
  (h:∀ w F,HWp (Ctx.top w F) P c ⟨n,tm,[],0⟩ (bodyPost P fn (a1c w F r))):HPure P f args r:=by
 refine ⟨⟨fn,c,hf,hb,hn⟩,fun w F vs hF hr hw=>calls_of_wp hf hb (a7q.1 (h w F _ w ?_))⟩
 obtain ⟨hl,hg⟩:=hr.get
 have hlen:args.length≤n:=by simpa using hlen
 refine ⟨Env.just F,Ext.refl _ _,⟨rfl,rfl,rfl,Nat.le_refl _,fun _ _ _=>rfl,hF,fun a ha=>.inl ha,fun _ _=>trivial,hw,(fun b hb=>hb.elim),(fun id o ho=>by cases ho),(fun id id' o o' l l' b ho=>by cases ho)⟩,fun g hg=>hg.elim,?_,rfl,fun t x hx=>?_⟩
 ·simp [hl,hnt];omega
 ·rw [←htm] at hx
  obtain ⟨i,y,rfl,h2,rfl⟩:=a2w args 0 t x hx
  obtain ⟨v,hv,hrep⟩:=hg i y h2
  have hi:i < vs.length:=by
   rcases Nat.lt_or_ge i vs.length with h | h
   ·exact h
   ·rw [List.getElem?_eq_none h] at hv;cases hv
  have:({ tmps:=vs.toArray++Array.replicate (fn.ntmps - vs.toArray.size) undef,defers:=[] }:Act).tmps.getD (0+i) undef=v:=by
   rw [Nat.zero_add]
   simp only [Array.getD_eq_getD_getElem?]
   rw [Array.getElem?_append_left (by simpa using hi)]
   simp [hv]
  rw [this]
  exact hrep
theorem a1c.of {w:World} {F:Addr→Prop} {E:Env} {s:HSt} {w':World} (e0:Ext w (Env.just F) w' E) (r:R (fun _=>True) w F E (hget s.hp) w') (sh:List (Nat×HObj)) (hd:a1u (sh.map (·.1))=true) (hsh:∀ p∈sh,hget s.hp p.1=some p.2) {x y:HV} {v:Value} (hz:Fz sh x y) (hv:Rep w' E v x) :
  a1c w F y (.returned v) w':=by
 obtain ⟨E1,e1,hL,hG,hs1,r1⟩:=r.shareAll sh hd hsh
 refine ⟨⟨r.os,r.tape,r.output,r.size,fun k hk=>r.keep k hk trivial⟩,v,E1.F,rfl,fun a ha=>(e1.F a (e0.F a ha).1).1,fun a ha=>?_,r1.frz,hz.sound hs1 (hv.ext e1)⟩
 rcases r1.fnew a ha with h | h | h
 ·exact .inl h
 ·exact .inr h
 ·exact absurd trivial h
def a6M (P:Program) (s:HSt) (rv:ResultVar) (x:HV):Prop:=∀ (C:Ctx) (a:Act) (w:World) (E:Env),R C.K C.w0 C.E0.F E (hget s.hp) w→(∀ t x,tget s.tm t=some x→TVRep w E a (a.tmps.getD t undef) x) →
 ∃ v,(match rv with | .tmp t=>pure (a.tmps.getD t undef) | .cell p t=>do loadVar t (←asAddr (a.tmps.getD p undef)):Sem Value).run P w=.ok v w∧Rep w E v x
theorem a0f {s:HSt} {t:Nat} {x:HV} (h:tget s.tm t=some (.v x)):a6M P s (.tmp t) x:=fun C a w E r ht=>⟨_,rfl,ht t _ h⟩
theorem c2j {s:HSt} {t:Nat} {T:TypeId} {id sz:Nat} {gg:Nat} {b:Bool} {o:HObj} (h:tget s.tm t=some (.v (.pt id gg 0 0))) (ho:hget s.hp id=some o) (hg:o.g=gg) (hT:tyOf P T=some (b,sz)) (hs:b=false→sz=1) (hn:Nat.blt 0 o.n=true) (hz:Nat.ble sz o.sz=true):a6M P s (.cell t T) (ldv b sz (o.f 0) 0):=fun C a w E r ht=>by
  subst hg
  have hn:0 < o.n:=by simpa [Nat.blt_eq] using hn
  have hz:sz≤o.sz:=by simpa using hz
  have hv:=ht t _ h
  obtain ⟨l,bl,cs,hl,hlg,hlsz,hA,hB,hcs,hnc,hm,vs,hvs⟩:=r.objAt ho hn
  generalize hq:a.tmps.getD t undef=u at hv
  cases hv with
  | pt b' k' _ _ _ _ hg hh =>
    obtain ⟨hb',rfl⟩:=hh l hl hlg
    rw [hA] at hb';injection hb' with hb';subst hb'
    obtain ⟨v,hrun,hrep⟩:=a2d hT hs w E bl (0 * l.sz+0) (fun j=>vs 0 (0+j)) (fun j=>o.f 0 (0+j)) (fun j hj=>by
      have hlt:0+j < o.sz:=by omega
      rw [hB.cell,show 0 * l.sz+0+j=0 * o.sz+(0+j) from by simp]
      exact hvs 0 (0+j) hn hlt)
    refine ⟨v,?_,?_⟩
    · simp only [hq,asAddr,Sem.run_bind,Sem.run_pure,Result.andThen_ok]
      exact hrun
    · cases b
      · simpa [ldv] using hrep
      · simpa [ldv] using hrep
theorem a0H {s:HSt} {t:Nat} {T oty:TypeId} {id gg sz n osz fl:Nat} {b:Bool} {f:Nat→Nat→HV} (h:tget s.tm t=some (.v (.pt id gg 0 0))) (ho:hget s.hp id=some ⟨gg,n,osz,oty,fl,f⟩) (hT:tyOf P T=some (b,sz)) (hs:b=false→sz=1) (hn:Nat.blt 0 n=true) (hz:Nat.ble sz osz=true):a6M P s (.cell t T) (ldv b sz (f 0) 0):=c2j h ho rfl hT hs hn hz
theorem a0S {α β γ:Type} {r:Result α} {f:α→World→Result β} {k:β→World→Result γ} {v:β} {w:World} (h:r.andThen f=.ok v w):(r.andThen fun a w'=>(f a w').andThen k)=k v w:=by
 cases r with
 | ok a w'=>simp only [Result.andThen] at h ⊢;rw [h]
 | halt x w'=>simp [Result.andThen] at h
@[reducible] def t2 (x1 x2:HV):HV:=.tup 2 (fun i=>match i with | 0=>x1 | _=>x2)
@[reducible] def t3 (x1 x2 x3:HV):HV:=.tup 3 (fun i=>match i with | 0=>x1 | 1=>x2 | _=>x3)
theorem a5z {sh:List (Nat×HObj)} {x1 x2 y1 y2:HV} (h1:Fz sh x1 y1) (h2:Fz sh x2 y2):Fz sh (t2 x1 x2) (t2 y1 y2):=.tup _ _ _ fun i hi=>by
 match i,hi with
 | 0,_=>exact h1
 | 1,_=>exact h2
theorem a2M {sh:List (Nat×HObj)} {x1 x2 x3 y1 y2 y3:HV} (h1:Fz sh x1 y1) (h2:Fz sh x2 y2) (h3:Fz sh x3 y3):Fz sh (t3 x1 x2 x3) (t3 y1 y2 y3):=.tup _ _ _ fun i hi=>by
 match i,hi with
 | 0,_=>exact h1
 | 1,_=>exact h2
 | 2,_=>exact h3
theorem a5q {w:World} {F:Addr→Prop} {fn:Func} {rv:ResultVar} {s:HSt} {x y:HV} (hres:fn.results=#[rv]) (hrv:a6M P s rv x) (sh:List (Nat×HObj)) (hd:a1u (sh.map (·.1))=true) (hsh:∀ p∈sh,hget s.hp p.1=some p.2) (hz:Fz sh x y) :
  HQ (Ctx.top w F) (bodyPost P fn (a1c w F y)) .ret s:=by
 intro a w' ⟨E,e0,r,hG,hsz,hdf,ht⟩
 obtain ⟨v,h1,h2⟩:=hrv (Ctx.top w F) a w' E r ht
 refine ⟨hdf,v,?_,a1c.of e0 r sh hd hsh hz h2⟩
 have:(results fn a.tmps).run P w'=.ok v w':=by
  unfold results
  rw [hres]
  cases rv with
  | tmp t=>simp at h1 ⊢;exact h1
  | cell p t=>simp [Sem.run_bind] at h1 ⊢;simp [h1]
 exact this
theorem a9F {w:World} {F:Addr→Prop} {fn:Func} {rv1 rv2:ResultVar} {s:HSt} {x1 x2 y:HV} (hres:fn.results=#[rv1,rv2]) (hrv1:a6M P s rv1 x1) (hrv2:a6M P s rv2 x2) (sh:List (Nat×HObj)) (hd:a1u (sh.map (·.1))=true) (hsh:∀ p∈sh,hget s.hp p.1=some p.2)
  (hz:Fz sh (t2 x1 x2) y):HQ (Ctx.top w F) (bodyPost P fn (a1c w F y)) .ret s:=by
 intro a w' ⟨E,e0,r,hG,hsz,hdf,ht⟩
 obtain ⟨v1,h1,g1⟩:=hrv1 (Ctx.top w F) a w' E r ht
 obtain ⟨v2,h2,g2⟩:=hrv2 (Ctx.top w F) a w' E r ht
 have hrep:Rep w' E (.tuple #[v1,v2]) (.tup 2 (fun i=>match i with | 0=>x1 | _=>x2)) :=
  .tup _ 2 _ (fun i=>match i with | 0=>v1 | _=>v2) rfl (fun i hi=>by match i,hi with | 0,_=>rfl | 1,_=>rfl) (fun i hi=>by match i,hi with | 0,_=>exact g1 | 1,_=>exact g2)
 refine ⟨hdf,_,?_,a1c.of e0 r sh hd hsh hz hrep⟩
 have:(results fn a.tmps).run P w'=.ok (.tuple #[v1,v2]) w':=by
  unfold results
  rw [hres]
  cases rv1 <;> cases rv2 <;> (simp [Sem.run_bind] at h1 h2 ⊢)
  all_goals first | done | (try (first | rw [a0S h1] | skip);try (first | rw [a0S h2] | skip);try simp [h1,h2])
 exact this
theorem b2Y {w:World} {F:Addr→Prop} {fn:Func} {rv1 rv2 rv3:ResultVar} {s:HSt} {x1 x2 x3 y:HV} (hres:fn.results=#[rv1,rv2,rv3]) (hrv1:a6M P s rv1 x1) (hrv2:a6M P s rv2 x2) (hrv3:a6M P s rv3 x3) (sh:List (Nat×HObj)) (hd:a1u (sh.map (·.1))=true) (hsh:∀ p∈sh,hget s.hp p.1=some p.2)
  (hz:Fz sh (t3 x1 x2 x3) y):HQ (Ctx.top w F) (bodyPost P fn (a1c w F y)) .ret s:=by
 intro a w' ⟨E,e0,r,hG,hsz,hdf,ht⟩
 obtain ⟨v1,h1,g1⟩:=hrv1 (Ctx.top w F) a w' E r ht
 obtain ⟨v2,h2,g2⟩:=hrv2 (Ctx.top w F) a w' E r ht
 obtain ⟨v3,h3,g3⟩:=hrv3 (Ctx.top w F) a w' E r ht
 have hrep:Rep w' E (.tuple #[v1,v2,v3]) (.tup 3 (fun i=>match i with | 0=>x1 | 1=>x2 | _=>x3)) :=
  .tup _ 3 _ (fun i=>match i with | 0=>v1 | 1=>v2 | _=>v3) rfl (fun i hi=>by match i,hi with | 0,_=>rfl | 1,_=>rfl | 2,_=>rfl) (fun i hi=>by match i,hi with | 0,_=>exact g1 | 1,_=>exact g2 | 2,_=>exact g3)
 refine ⟨hdf,_,?_,a1c.of e0 r sh hd hsh hz hrep⟩
 have:(results fn a.tmps).run P w'=.ok (.tuple #[v1,v2,v3]) w':=by
  unfold results
  rw [hres]
  cases rv1 <;> cases rv2 <;> cases rv3 <;> (simp [Sem.run_bind] at h1 h2 h3 ⊢)
  all_goals first | done | (try (first | rw [a0S h1] | skip);try (first | rw [a0S h2] | skip);try (first | rw [a0S h3] | skip);try simp [h1,h2,h3])
 exact this
theorem pre0 {hp:List (Nat×HObj)}:∀ p∈([]:List (Nat×HObj)),hget hp p.1=some p.2:=fun p h=>by cases h
theorem a0L {hp:List (Nat×HObj)} {id:Nat} {o:HObj} (h:hget hp id=some o):∀ p∈[(id,o)],hget hp p.1=some p.2:=fun p hp=>by
 rw [List.mem_singleton] at hp;subst hp;exact h
theorem a0h {hp:List (Nat×HObj)} {id:Nat} {o:HObj} {r:List (Nat×HObj)} (h:hget hp id=some o) (hr:∀ p∈r,hget hp p.1=some p.2):∀ p∈(id,o)::r,hget hp p.1=some p.2:=fun p hp=>by
 rcases List.mem_cons.1 hp with rfl | hp
 ·exact h
 ·exact hr p hp
def a0u (tm:List (Nat×TV)) (tm':List (Nat×TV)):Prop:=∀ t x',tget tm' t=some x'→∃ x y,x'=.v y∧tget tm t=some (.v x)∧Sb x y
theorem a0u.nil {tm:List (Nat×TV)}:a0u tm []:=fun t x h=>by cases h
theorem a0u.cons {tm r:List (Nat×TV)} {t:Nat} {x y:HV} (h:tget tm t=some (.v x)) (hs:Sb x y) (hr:a0u tm r):a0u tm ((t,.v y)::r):=fun t' x' h'=>by
 rw [a0x] at h'
 split at h'
 ·rename_i e;subst e;injection h' with h';exact ⟨x,y,h'.symm,h,hs⟩
 ·exact hr t' x' h'
def a0g (hp hp':List (Nat×HObj)):Prop:=∀ id o',hget hp' id=some o'→∃ o,hget hp id=some o∧a2m o o'
theorem a0g.nil {hp:List (Nat×HObj)}:a0g hp []:=fun t x h=>by cases h
theorem a0g.cons {hp r:List (Nat×HObj)} {id:Nat} {o o':HObj} (h:hget hp id=some o) (hs:a2m o o') (hr:a0g hp r):a0g hp ((id,o')::r):=fun t' x' h'=>by
 rw [a0o] at h'
 unfold a2I at h'
 split at h'
 ·rename_i e;subst e;injection h' with h';subst h';exact ⟨o,h,hs⟩
 ·exact hr t' x' h'
theorem a0g.refl (hp:List (Nat×HObj)):a0g hp hp:=fun id o h=>⟨o,h,.refl o⟩
theorem a0b {C:Ctx} {s s':HSt} (hn:s.n=s'.n) (hc:s.clk≤s'.clk) (ht:a0u s.tm s'.tm) (hh:a0g s.hp s'.hp):a4D C s s':=by
 intro a w ⟨E,e0,r,hG,hsz,hdf,htm⟩
 refine ⟨E,e0,{ r with obj:=fun id o ho=>?_,inj:=fun id id' o o' l l' b ho ho' hl hl' hb hb'=>?_ },fun g hg=>Nat.lt_of_lt_of_le (hG g hg) hc,hsz.trans hn,hdf,fun t x hx=>?_⟩
 ·obtain ⟨o1,ho1,hs⟩:=hh id o ho
  obtain ⟨l,hl,a1⟩:=r.obj id o1 ho1
  exact ⟨l,hl,hs.at_ a1⟩
 ·obtain ⟨o1,ho1,_⟩:=hh id o ho
  obtain ⟨o2,ho2,_⟩:=hh id' o' ho'
  exact r.inj id id' o1 o2 l l' b ho1 ho2 hl hl' hb hb'
 ·obtain ⟨y,z,rfl,hy,hs⟩:=ht t x hx
  exact hs.sound (htm t _ hy)
theorem a4D.refl (C:Ctx) (s:HSt):a4D C s s:=fun _ _ h=>h
theorem a0l {C:Ctx} {P:Program} {Q:Exit→Act→World→Prop} {n:Nat} {tm0:List (Nat×TV)} {hp0:List (Nat×HObj)} {c0:Nat} {α:Type} {body:Code} (st:α→Nat→HSt) (I:α→Prop) (m:α→Nat) (x0:α) (h0:I x0) (hs0:a4D C ⟨n,tm0,hp0,c0⟩ (st x0 c0))
  (round:∀ x c,I x→∀ N:Act→World→Prop,(∀ y c' s',I y→m y < m x→a4D C s' (st y c')→HQ C (Exit.then N Q) .normal s')→HWp C P body (st x c) (Exit.then N Q)):HWp C P (.loop body) ⟨n,tm0,hp0,c0⟩ Q :=
 c7w (α:=α×Nat) (fun p=>st p.1 p.2) (fun p=>I p.1) (fun p=>m p.1) (x0,c0) h0 hs0 (fun p hp N hN=>round p.1 p.2 hp N (fun y c' s' h1 h2 h3=>hN (y,c') s' h1 h2 h3))
def b5K (C:Ctx) (P:Program) (c:Code) (k:Nat) (s:HSt) (Q:Exit→Act→World→Prop):Prop:=∀ a w,Sat C s a w→Code.roundsIn (b9y C.rd) 0 P c Q k a w
theorem a5X {C:Ctx} {P:Program} {Q:Exit→Act→World→Prop} {s:HSt} {c:Code} (k:Nat) (h:b5K C P c k s Q):HWp C P (.loop c) s Q:=fun a w hs=>wpIn_loop_rounds k (h a w hs)
theorem a3t {C:Ctx} {P:Program} {Q:Exit→Act→World→Prop} {s:HSt} {c:Code} {k:Nat} (h:∀ N:Act→World→Prop,(∀ s',b5K C P c k s' Q→HQ C (Exit.then N Q) .normal s')→HWp C P c s (Exit.then N Q)):b5K C P c (k+1) s Q :=
 fun a w hs=>h _ (fun s' hr a w hs=>hr a w hs) a w hs
section
variable {K:Nat→Prop} {w0 w w':World} {F0:Addr→Prop} {E E':Env} {h h':Nat→Option HObj}
theorem R.newNil (r:R K w0 F0 E h w) (id g sz:Nat) (ty:TypeId) (f:Nat→Nat→HV) (hg:¬ E.G g) (hsz:0 < sz) :
  Ext w E w (E.place id ⟨g,none,0,sz⟩)∧R K w0 F0 (E.place id ⟨g,none,0,sz⟩) (a2I h id ⟨g,0,sz,ty,0,f⟩) w:=by
 have e:Ext w E w (E.place id ⟨g,none,0,sz⟩):=⟨Nat.le_refl _,fun a ha=>⟨ha,rfl⟩,fun _ hg=>.inl hg,fun k l hl hG=>by
  by_cases hk:k=id
  ·subst hk;rw [Env.place_L] at hl;injection hl with hl;subst hl;exact absurd hG hg
  ·rwa [Env.place_Lne _ _ hk] at hl,fun _ h=>h⟩
 refine ⟨e,r.os,r.tape,r.output,r.size,r.keep,r.frz,r.fnew,r.klib,r.lib,r.bks,fun k o ho=>?_,fun k k' o o' l l' b ho ho' hl hl' hb1 hb2=>?_⟩
 ·by_cases hk:k=id
  ·subst hk
   rw [a0v] at ho;injection ho with ho;subst ho
   exact ⟨_,Env.place_L _ _ _,rfl,.inr rfl,rfl,hsz,.inl ⟨rfl,rfl,rfl,Nat.le_refl _⟩⟩
  ·rw [a0s _ _ hk] at ho
   obtain ⟨l,hl,a⟩:=r.obj k o ho
   exact ⟨l,by rw [Env.place_Lne _ _ hk];exact hl,a.ext e (fun _ _=>rfl) (fun _ _ _ hF=>hF)⟩
 ·by_cases hk:k=id
  ·subst hk;rw [Env.place_L] at hl;injection hl with hl;subst hl;cases hb1
  ·by_cases hk':k'=id
   ·subst hk';rw [Env.place_L] at hl';injection hl' with hl';subst hl';cases hb2
   ·rw [a0s _ _ hk] at ho
    rw [a0s _ _ hk'] at ho'
    rw [Env.place_Lne _ _ hk] at hl
    rw [Env.place_Lne _ _ hk'] at hl'
    exact r.inj k k' o o' l l' b ho ho' hl hl' hb1 hb2
end
theorem c4s {C:Ctx} {s:HSt} (t id sz:Nat) (ty:TypeId) (f:Nat→Nat→HV) (ht:tget s.tm t=some (.v (.imm (.slice none 0 0)))) (hsz:0 < sz) (hk:a0O s.tm t=true) :
  a4D C s ⟨s.n,(t,.v (.os id s.clk 0 0))::s.tm,(id,⟨s.clk,0,sz,ty,0,f⟩)::s.hp,s.clk+1⟩:=by
 intro a w ⟨E,e0,r,hG,hsz',hdf,htm⟩
 have hg:¬ E.G s.clk:=fun h=>absurd (hG _ h) (Nat.lt_irrefl _)
 obtain ⟨e,r'⟩:=r.newNil id s.clk sz ty f hg hsz
 refine ⟨_,e0.trans e,by simp only [a0o];exact r',fun g hg=>?_,hsz',hdf.ext e,fun t' x hx=>?_⟩
 ·rcases hg with hg | hg
  ·exact Nat.lt_succ_of_lt (hG g hg)
  ·rw [hg];exact Nat.lt_succ_self _
 ·simp only [a0x] at hx
  split at hx
  ·rename_i e1;subst e1;injection hx with hx;subst hx
   have:=Rep.imm_inv (htm t' _ ht)
   show Rep w _ (a.tmps.getD t' undef) _
   rw [this]
   refine .os none 0 0 id s.clk 0 (.inr rfl) lrf (Nat.zero_le _) (fun h=>absurd h (Nat.lt_irrefl _)) (fun l hl _=>?_)
   rw [Env.place_L] at hl;injection hl with hl;subst hl
   exact ⟨rfl,fun _=>rfl⟩
  ·exact (htm t' x hx).ext e
end
def d3x (tm tm':List (Nat×TV)):Prop:=∀ t x,tget tm' t=some x→tget tm t=some x
theorem d3x.nil {tm:List (Nat×TV)}:d3x tm []:=fun t x h=>by cases h
def a5H:List (Nat×TV)→List (Nat×TV)→List (Nat×TV)
 | [],_=>[]
 | (k,.v x)::r,seen=>(k,.v x)::a5H r seen
 | (_,.un _ _ _)::r,seen=>a5H r seen
def a8L:List (Nat×TV)→Bool
 | []=>true
 | (k,.un _ _ _)::r=>(match tget r k with | none=>true | some _=>false)&&a8L r
 | (_,.v _)::r=>a8L r
theorem a6j:∀ {tm:List (Nat×TV)},a8L tm=true→∀ t x,tget (a5H tm []) t=some x→tget tm t=some x
  | [],_,t,x,h=>h
  | (k, .v y) :: r, hu, t, x, h => by
    simp only [a5H] at h
    rw [a0x] at h ⊢
    split
    · rename_i e;rw [if_pos e] at h;exact h
    · rename_i e;rw [if_neg e] at h;exact a6j (by simpa [a8L] using hu) t x h
  | (k, .un j b y) :: r, hu, t, x, h => by
    simp only [a5H] at h
    simp only [a8L,Bool.and_eq_true] at hu
    have:=a6j hu.2 t x h
    rw [a0x]
    split
    · rename_i e
      subst e
      have h1:=hu.1
      rw [this] at h1
      cases h1
    · exact this
theorem b9Q {C:Ctx} {P:Program} {ops:Array Oper} {Q:Exit→Act→World→Prop} {n clk:Nat} {tm tm':List (Nat×TV)} {hp:List (Nat×HObj)} (hu:a8L tm=true) (ht:a5H tm []=tm') (h:HQ C Q .normal ⟨n,tm',hp,clk⟩):HSeq C P ops [] ⟨n,tm,hp,clk⟩ Q :=
 a2H fun a w ⟨E,e0,r,hG,hsz,hdf,htm⟩=>h a w ⟨E,e0,r,hG,hsz,hdf,fun t x hx=>htm t x (a6j hu t x (by rw [ht];exact hx))⟩
theorem a4D.trans {C:Ctx} {s s' s'':HSt} (h:a4D C s s') (k:a4D C s' s''):a4D C s s'':=fun a w hs=>k a w (h a w hs)
theorem a9J {C:Ctx} {P:Program} {Q:Exit→Act→World→Prop} {n clk:Nat} {tm:List (Nat×TV)} {hp:List (Nat×HObj)} {cd:Code} (t id sz:Nat) (ty:TypeId) (f:Nat→Nat→HV) (ht:tget tm t=some (.v (.imm (.slice none 0 0)))) (hsz:0 < sz) (hk:a0O tm t=true) {c':Nat} (hc:clk+1=c')
  (h:HWp C P cd ⟨n,(t,.v (.os id clk 0 0))::tm,(id,⟨clk,0,sz,ty,0,f⟩)::hp,c'⟩ Q):HWp C P cd ⟨n,tm,hp,clk⟩ Q:=by
 subst hc
 exact (c4s (s:=⟨n,tm,hp,clk⟩) t id sz ty f ht hsz hk).wp h
section
variable {C:Ctx} {P:Program} {ops:Array Oper} {Q:Exit→Act→World→Prop} {n clk:Nat} {tm:List (Nat×TV)} {hp:List (Nat×HObj)} {o:Oper} {rest:List Oper} {pre post:List (Nat×HObj)} {v:HV}
theorem hq_ (d:Nat) (hop:HOp P o (a0F (tget tm)) clk pre v []) (hd:o.dst=some d) (hg:o.guard=none) (hpre:∀ p∈pre,hget hp p.1=some p.2) (hlt:Nat.blt d n=true) (hk:a0O tm d=true) (h:HSeq C P ops rest ⟨n,(d,.v v)::tm,hp,clk⟩ Q):HSeq C P ops (o::rest) ⟨n,tm,hp,clk⟩ Q :=
 a2W (s:=⟨n,tm,hp,clk⟩) d _ hd rfl (a2L hg hop) hpre hlt hk h (fun j b x h=>by cases h)
theorem st0 {d:Nat} {op:Op} {ty:TypeId} {pos:String} {af:Array Edge} (hop:HOp P ⟨some d,op,ty,pos,af,none⟩ (a0F (tget tm)) clk [] v []) (hlt:Nat.blt d n=true) (hk:a0O tm d=true) (h:HSeq C P ops rest ⟨n,(d,.v v)::tm,hp,clk⟩ Q):HSeq C P ops (⟨some d,op,ty,pos,af,none⟩::rest) ⟨n,tm,hp,clk⟩ Q:=hq_ d hop rfl rfl (fun p hp=>by cases hp) hlt hk h
theorem st1 {d:Nat} {op:Op} {ty:TypeId} {pos:String} {af:Array Edge} {id:Nat} {ob:HObj} (hop:HOp P ⟨some d,op,ty,pos,af,none⟩ (a0F (tget tm)) clk [(id,ob)] v []) (hid:hget hp id=some ob) (hlt:Nat.blt d n=true) (hk:a0O tm d=true) (h:HSeq C P ops rest ⟨n,(d,.v v)::tm,hp,clk⟩ Q):HSeq C P ops (⟨some d,op,ty,pos,af,none⟩::rest) ⟨n,tm,hp,clk⟩ Q:=hq_ d hop rfl rfl (fun p hp=>by rw [List.mem_singleton] at hp;subst hp;exact hid) hlt hk h
theorem stm {d:Nat} {x:Operand} {ty:TypeId} {pos:String} {af:Array Edge} (hx:ovl (a0F (tget tm)) x=some v) (hlt:Nat.blt d n=true) (hk:a0O tm d=true) (h:HSeq C P ops rest ⟨n,(d,.v v)::tm,hp,clk⟩ Q):HSeq C P ops (⟨some d,.move x,ty,pos,af,none⟩::rest) ⟨n,tm,hp,clk⟩ Q:=st0 (a1p hx) hlt hk h
theorem sta {d:Nat} {x:Operand} {ty:TypeId} {pos:String} {af:Array Edge} (hx:ovl (a0F (tget tm)) x=some v) (hlt:Nat.blt d n=true) (hk:a0O tm d=true) (h:HSeq C P ops rest ⟨n,(d,.v v)::tm,hp,clk⟩ Q):HSeq C P ops (⟨some d,.assign x,ty,pos,af,none⟩::rest) ⟨n,tm,hp,clk⟩ Q:=st0 (b0Y hx) hlt hk h
theorem b4a (d gi j:Nat) (b c:Bool) (hop:c=b→HOp P o (a1T (tget tm) j b) clk pre v []) (hd:o.dst=some d) (hg:o.guard=some (gi,b)) (hgi:(ops[gi]?).bind (·.dst)=some j) (hc:tget tm j=some (.v (.imm (.bool c)))) (hpre:∀ p∈pre,hget hp p.1=some p.2) (hlt:Nat.blt d n=true) (hk:a0O tm d=true) (hjd:Nat.beq j d=false)
  (h:HSeq C P ops rest ⟨n,(d,.un j b v)::tm,hp,clk⟩ Q):HSeq C P ops (o::rest) ⟨n,tm,hp,clk⟩ Q :=
 a2W (s:=⟨n,tm,hp,clk⟩) d _ hd rfl (a6J gi j b c hg hgi (.inl hc) hop) hpre hlt hk h (fun j' b' x h=>by injection h with h1 h2 h3;subst h1;rw [←Bool.not_eq_true,Nat.beq_eq] at hjd;exact hjd)
theorem b6r (d gi j j2:Nat) (b2 b c:Bool) (hop:c=b→HOp P o (a1T (tget tm) j b) clk pre v []) (hd:o.dst=some d) (hg:o.guard=some (gi,b)) (hgi:(ops[gi]?).bind (·.dst)=some j) (hc:tget tm j=some (.un j2 b2 (.imm (.bool c)))) (hpre:∀ p∈pre,hget hp p.1=some p.2) (hlt:Nat.blt d n=true) (hk:a0O tm d=true) (hjd:Nat.beq j d=false)
  (h:HSeq C P ops rest ⟨n,(d,.un j b v)::tm,hp,clk⟩ Q):HSeq C P ops (o::rest) ⟨n,tm,hp,clk⟩ Q :=
 a2W (s:=⟨n,tm,hp,clk⟩) d _ hd rfl (a6J gi j b c hg hgi (.inr ⟨j2,b2,hc⟩) hop) hpre hlt hk h (fun j' b' x h=>by injection h with h1 h2 h3;subst h1;rw [←Bool.not_eq_true,Nat.beq_eq] at hjd;exact hjd)
theorem stg {d gi:Nat} {b:Bool} {op:Op} {ty:TypeId} {pos:String} {af:Array Edge} (j:Nat) {c:Bool} (hop:c=b→HOp P ⟨some d,op,ty,pos,af,some (gi,b)⟩ (a1T (tget tm) j b) clk [] v []) (hgi:(ops[gi]?).bind (·.dst)=some j) (hc:tget tm j=some (.v (.imm (.bool c)))) (hlt:Nat.blt d n=true) (hk:a0O tm d=true) (hjd:Nat.beq j d=false)
  (h:HSeq C P ops rest ⟨n,(d,.un j b v)::tm,hp,clk⟩ Q):HSeq C P ops (⟨some d,op,ty,pos,af,some (gi,b)⟩::rest) ⟨n,tm,hp,clk⟩ Q:=b4a d gi j b c hop rfl rfl hgi hc (fun p hp=>by cases hp) hlt hk hjd h
theorem sth {d gi:Nat} {b:Bool} {op:Op} {ty:TypeId} {pos:String} {af:Array Edge} (j:Nat) {j2:Nat} {b2 c:Bool} (hop:c=b→HOp P ⟨some d,op,ty,pos,af,some (gi,b)⟩ (a1T (tget tm) j b) clk [] v []) (hgi:(ops[gi]?).bind (·.dst)=some j) (hc:tget tm j=some (.un j2 b2 (.imm (.bool c)))) (hlt:Nat.blt d n=true) (hk:a0O tm d=true) (hjd:Nat.beq j d=false)
  (h:HSeq C P ops rest ⟨n,(d,.un j b v)::tm,hp,clk⟩ Q):HSeq C P ops (⟨some d,op,ty,pos,af,some (gi,b)⟩::rest) ⟨n,tm,hp,clk⟩ Q:=b6r d gi j j2 b2 b c hop rfl rfl hgi hc (fun p hp=>by cases hp) hlt hk hjd h
theorem hm_ (d:Nat) (hop:HOp P o (a0F (tget tm)) clk pre v post) (hd:o.dst=some d) (hg:o.guard=none) (hpre:∀ p∈pre,hget hp p.1=some p.2) (hlt:Nat.blt d n=true) (hk:a0O tm d=true) {c':Nat} (hc:clk+1=c') (h:HSeq C P ops rest ⟨n,(d,.v v)::tm,post++hp,c'⟩ Q):HSeq C P ops (o::rest) ⟨n,tm,hp,clk⟩ Q:=by
 subst hc;exact b3p (s:=⟨n,tm,hp,clk⟩) d _ hd (a2L hg hop) hpre hlt hk h (fun j b x h=>by cases h)
theorem a0y (d:Nat) {id:Nat} {ob:HObj} (hop:HOp P o (a0F (tget tm)) clk pre v [(id,ob)]) (hd:o.dst=some d) (hg:o.guard=none) (hpre:∀ p∈pre,hget hp p.1=some p.2) (hlt:Nat.blt d n=true) (hk:a0O tm d=true) {c':Nat} (hc:clk+1=c') (h:HSeq C P ops rest ⟨n,(d,.v v)::tm,(id,ob)::hp,c'⟩ Q):HSeq C P ops (o::rest) ⟨n,tm,hp,clk⟩ Q:=by
 subst hc;exact hm_ d hop hd hg hpre hlt hk rfl h
theorem d0D {id:Nat} {ob:HObj} (hop:HOp P o (a0F (tget tm)) clk pre v [(id,ob)]) (hd:o.dst=none) (hg:o.guard=none) (hpre:∀ p∈pre,hget hp p.1=some p.2) {c':Nat} (hc:clk+1=c') (h:HSeq C P ops rest ⟨n,tm,(id,ob)::hp,c'⟩ Q):HSeq C P ops (o::rest) ⟨n,tm,hp,clk⟩ Q:=by
 subst hc;exact b8p (s:=⟨n,tm,hp,clk⟩) _ hd (a2L hg hop) hpre h
theorem d4b (d:Nat) {need:List Nat} (hst:HStep P ops o (tget tm) clk ⟨.v v,need,[],[]⟩) (hd:o.dst=some d) (hlt:Nat.blt d n=true) (hk:a0O tm d=true) (h:HSeq C P ops rest ⟨n,(d,.v v)::tm,hp,clk⟩ Q):HSeq C P ops (o::rest) ⟨n,tm,hp,clk⟩ Q :=
 a2W (s:=⟨n,tm,hp,clk⟩) d _ hd rfl hst pre0 hlt hk h (fun j b x h=>by cases h)
end
end
end Go.Proofs.YtkeakpcieokhhaaGreatDoor
