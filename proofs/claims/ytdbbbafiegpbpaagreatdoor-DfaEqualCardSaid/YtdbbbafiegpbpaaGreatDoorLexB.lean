/-
  The statement 'for .. := range f { .. }', in the reader's words. Plain lemmas, no program in sight.
-/
import Derived.Test.YtdbbbafiegpbpaaGreatDoorHq
import Derived.Test.YtdbbbafiegpbpaaGreatDoorHc
import Derived.Deep.AppendSrc
import Derived.Shelf.LaysM
import Derived.Shelf.Strconv.Itoa3
import Derived.Shelf.LaysC
import Derived.Shelf.Strconv.AtoiAll
import Derived.Shelf.Strconv.ErrVarAll
import Derived.Test.YtdbbbafiegpbpaaGreatDoorProg
import Derived.Lib.ItoaNum
import Derived.Lib.AtoiAll
import Derived.WalkKit
import Derived.BigCall
import Derived.BigGuard
import Derived.Lib.Strings
import Derived.Lib.AtoiErrMem
import Derived.Laws.IdiomStrings
import Derived.Lib.SmallJoins
import Derived.Lib.Bytealg
import Derived.Test.YtdbbbafiegpbpaaGreatDoorChecked
import Derived.Shelf.Lays
import Derived.Shelf.Strings.BuilderK
import Derived.Shelf.Strings.BuilderF
import Derived.Shelf.Strings.Builder1
import Derived.Lib.OthersKept
import Derived.Deep.WholeRow
import Derived.Laws.Tables
import Derived.Lib.ItoaLen
import Derived.Shelf.Small.Strs
import Derived.Lib.AppendStr
namespace Go.Proofs.YtdbbbafiegpbpaaGreatDoor
set_option linter.unusedSimpArgs false
set_option linter.unusedVariables false
open Go.RowKit
structure KeepsO (O:Nat→Prop) (W W1:World):Prop where
 size:W.heap.size≤W1.heap.size
 block:∀ k,k < W.heap.size→¬ O k→W1.heap[k]?=W.heap[k]?
 lib:LibW W1
def b9S (P:Program) (f:FuncId) (caps:List HV) (N:Nat) (ys:Nat→List HV):Prop:=c7J P f ∧
  ∀ (l : Nat) (W : World) (F : Addr → Prop) (cvs : List Value) (J : Nat → (Nat → Prop) → World → Prop) (Jx : Nat → World → Prop) (O0 : Nat → Prop), (∀ a, F a → a.spot = none ∧ (W.cell? a).isSome = true) → (∀ a, F a → ¬ O0 a.block) → RepAll W (Env.just F) cvs caps → LibW W →
    (∀ i O W1 W2,J i O W1→Below W1.heap.size W1 W2→J i O W2)→(∀ i W1 W2,Jx i W1→Below W1.heap.size W1 W2→Jx i W2)→(∀ i O W1,J i O W1→∀ k,O k→k < W1.heap.size) →
    (∀ i O W1 F' vs,i < N→J i O W1→(∀ a,F' a→a.spot=none∧(W1.cell? a).isSome=true)→(∀ a,F' a→¬ O a.block)→(∀ a,F' a→F a∨W.heap.size≤a.block)→RepAll W1 (Env.just F') vs (ys i) →
      YieldAt Fence.wide 0 P l vs.toArray W1 fun e W'=>KeepsO O W1 W'∧((e=.returned (.bool true)∧∃ O',J (i+1) O' W'∧∀ k,O' k→O k∨W1.heap.size≤k)∨(e=.returned (.bool false)∧Jx (i+1) W'))) →
    J 0 O0 W→Calls P f (#[.func (.yield l) #[] #[]]++cvs.toArray) W fun e W'=>(∃ v,e=.returned v)∧((∃ O,J N O W')∨∃ i,i < N∧Jx (i+1) W')
def psl:List Tmp→List HV→List (Nat×TV)→List (Nat×TV)
 | p::ps,y::ys,tm=>psl ps ys ((p,.v y)::tm)
 | _,_,tm=>tm
theorem b7N {w:World} {E:Env}:∀ (ps:List Tmp) (vs:List Value) (ys:List HV) (tm:List (Nat×TV)) (tmps:Array Value),RepAll w E vs ys→ps.length=ys.length→ps.all (fun p=>Nat.blt p tmps.size)=true→b6L tm=true →
    (∀ t x,tget tm t=some x→∀ ds,TVRep w E ⟨tmps,ds⟩ (tmps.getD t undef) x)→b6L (psl ps ys tm)=true∧∀ t x,tget (psl ps ys tm) t=some x→∀ ds,TVRep w E ⟨(ps.zip vs).foldl (fun t p=>t.setIfInBounds p.1 p.2) tmps,ds⟩ (((ps.zip vs).foldl (fun t p=>t.setIfInBounds p.1 p.2) tmps).getD t undef) x
  | [],[],[],tm,tmps,_,_,_,hV,h=>⟨hV,h⟩
  | p :: ps, v :: vs, y :: ys, tm, tmps, hr, hl, hb, hV, h => by
    rw [List.all_cons,Bool.and_eq_true] at hb
    have hp:p < tmps.size:=by simpa [Nat.blt_eq] using hb.1
    refine b7N ps vs ys ((p,.v y)::tm) (tmps.setIfInBounds p v) hr.2 (by simpa using hl) (by simpa using hb.2) hV (fun t x hx ds=>?_)
    rw [a0B] at hx
    split at hx
    · rename_i e;subst e;injection hx with hx;subst hx
      have:(tmps.setIfInBounds t v).getD t undef=v:=by simp [hp]
      rw [this];exact hr.1
    · rename_i e
      have:(tmps.setIfInBounds p v).getD t undef=tmps.getD t undef:=by simp [Array.getElem?_setIfInBounds,Ne.symm e]
      rw [this]
      obtain ⟨z,rfl⟩:=a4p hV t x hx
      exact h t _ hx ds
  | [],_::_,_::_,_,_,_,hl,_,_,_=>by simp at hl
  | [],[],_::_,_,_,hr,_,_,_,_=>hr.elim
  | [],_::_,[],_,_,hr,_,_,_,_=>hr.elim
  | _::_,[],[],_,_,_,hl,_,_,_=>by simp at hl
  | _::_,[],_::_,_,_,hr,_,_,_,_=>hr.elim
  | _::_,_::_,[],_,_,hr,_,_,_,_=>hr.elim
def c6A (C:Ctx) (l:Nat):Prop:=C.rd=some l∧C.ds=[]∧C.mks=none∧l < C.w0.heap.size∧C.K l∧∃ r,C.w0.heap[l]?=some (.loop r)
def RB (C:Ctx) (hp:List (Nat×HObj)) (c:Nat) (w:World):Prop:=∃ E,Ext C.w0 C.E0 w E∧R C.K C.w0 C.E0.F E (hget hp) w∧∀ g,E.G g→g < c
def RQ (C:Ctx) (NI:List (Nat×HObj)→Nat→Prop) (X:Exit→List (Nat×HObj)→Nat→Prop):Exit→Act→World→Prop
 | .normal,_,w=>∃ hp c,NI hp c∧RB C hp c w
 | .ret,_,w=>∃ hp c,X .ret hp c∧RB C hp c w
 | .exit id,_,w=>∃ hp c,X (.exit id) hp c∧RB C hp c w
 | _,_,_=>False
theorem Sat.rb {C:Ctx} {s:HSt} {a:Act} {w:World} (h:Sat C s a w):RB C s.hp s.clk w:=let ⟨E,e0,r,hG,_⟩:=h;⟨E,e0,r,hG⟩
section
variable {C:Ctx} {NI:List (Nat×HObj)→Nat→Prop} {X:Exit→List (Nat×HObj)→Nat→Prop} {s:HSt}
theorem a4e (h:NI s.hp s.clk):HQ C (RQ C NI X) .normal s:=fun a w hs=>⟨_,_,h,hs.rb⟩
end
def c0A (P:Program) (assign body:Code) (s:HSt) (QB:Ctx→Exit→Act→World→Prop):Prop :=
 ∀ C1 l,c6A C1 l→∀ N1:Act→World→Prop,(∀ s1,(∀ C2,c6A C2 l→HWp C2 P body s1 (QB C2))→∀ a w,Sat C1 s1 a w→N1 a w)→HWp C1 P assign s (Exit.then N1 (fun _ _ _=>False))
def Env.mark (E:Env) (D:Nat):Env:=⟨E.F,E.L,E.G,fun b=>E.M b∨b=D⟩
section
variable {K:Nat→Prop} {w0 w w':World} {F0:Addr→Prop} {E E':Env} {h h':Nat→Option HObj}
theorem Ext.mark (w:World) (E:Env) (D:Nat):Ext w E w (E.mark D):=⟨Nat.le_refl _,fun a h=>⟨h,rfl⟩,fun _ h=>h,fun _ _ h _=>h,fun _ h=>.inl h⟩
theorem R.mark (r:R K w0 F0 E h w) {D:Nat} (hD:w.heap[D]?=some (.deferred (some []))):R K w0 F0 (E.mark D) h w :=
 ⟨r.os,r.tape,r.output,r.size,r.keep,r.frz,r.fnew,r.klib,r.lib,fun b hb=>by rcases hb with hb | rfl;exact r.bks b hb;exact hD,fun id o ho=>by
  obtain ⟨l,hl,a⟩:=r.obj id o ho
  exact ⟨l,hl,a.ext (Ext.mark w E D) (fun _ _=>rfl) (fun _ _ _ h=>h)⟩,r.inj⟩
theorem R.noFl (r:R K w0 F0 E h w) (hfl:∀ id o,h id=some o→o.fl=0∨o.n < o.fl):∀ a,E.F a→KH E h a.block:=fun a ha id o l ho hl hA=>by
 obtain ⟨l2,hl2,ao⟩:=r.obj id o ho
 rw [hl] at hl2;injection hl2 with hl2;subst hl2
 obtain ⟨b,k,sp⟩:=a
 have hs:=(r.frz _ ha).1
 have hcell:=(r.frz _ ha).2
 simp only at hs hA
 subst hs
 rcases ao.at_ with ⟨h0,_⟩ | ⟨b',cs,h1,_,_,_,_,_,_,h9,h10⟩ | ⟨b',ob,h1,h2,h3,_⟩
 ·rw [h0] at hA;cases hA
 ·rw [h1] at hA;injection hA with hA;subst hA
  have:=h9 k ha
  rcases hfl id o ho with h11 | h11
  ·rw [h11,Nat.zero_mul] at this;omega
  ·omega
 ·rw [h1] at hA;injection hA with hA;subst hA
  cases h3 <;> simp [World.cell?,h2] at hcell
theorem R.notM (r:R K w0 F0 E h w) {b:Nat} {lp:Loop} (hb:w.heap[b]?=some (.loop lp)):¬ E.M b:=fun hm=>by
 rw [r.bks b hm] at hb;injection hb with hb;cases hb
end
section
variable {α:Type} {P:Program} {C:Ctx} {Q:Exit→Act→World→Prop} {n clk:Nat} {tm:List (Nat×TV)} {hp:List (Nat×HObj)} {ps:Array Tmp} {assign body:Code} {N:Nat} {ys:Nat→List HV}
def Jn (C:Ctx) (B:World) (E1:Env) (l:Nat) (rec:LoopState→Option Code→Loop) (st:α→List (Nat×HObj)) (idx:α→Nat) (I:α→Prop) (i:Nat) (O:Nat→Prop) (W:World):Prop :=
 ∃ x c Ei,idx x=i∧I x∧Ext B E1 W Ei∧R C.K C.w0 C.E0.F Ei (hget (st x)) W∧(∀ g,Ei.G g→g < c)∧W.heap[l]?=some (.loop (rec .ready none))∧∀ b,O b↔(¬ KH Ei (hget (st x)) b∨b=l)
def Jxn (C:Ctx) (B:World) (E1:Env) (l:Nat) (rec:LoopState→Option Code→Loop) (X:Exit→List (Nat×HObj)→Nat→Prop) (W:World):Prop :=
 ∃ cj hp' c Ei,((cj=Code.ret∧X .ret hp' c)∨∃ id,cj=Code.exit id∧X (.exit id) hp' c)∧Ext B E1 W Ei∧R C.K C.w0 C.E0.F Ei (hget hp') W∧(∀ g,Ei.G g→g < c)∧W.heap[l]?=some (.loop (rec .done (some cj)))
theorem b6u {B:World} {E1:Env} {l:Nat} {rec:LoopState→Option Code→Loop} {st:α→List (Nat×HObj)} {idx:α→Nat} {I:α→Prop} {i:Nat} {O:Nat→Prop} {W W2:World} (h:Jn C B E1 l rec st idx I i O W) (hb:Below W.heap.size W W2):Jn C B E1 l rec st idx I i O W2:=by
 obtain ⟨x,c,Ei,h1,h2,h3,h4,h5,h6,h7⟩:=h
 exact ⟨x,c,Ei,h1,h2,h3.trans (h4.extBelow hb),h4.growSame hb,h5,(hb.block l (a1e h6)).trans h6,h7⟩
theorem c3Y {B:World} {E1:Env} {l:Nat} {rec:LoopState→Option Code→Loop} {st:α→List (Nat×HObj)} {idx:α→Nat} {I:α→Prop} {i:Nat} {O:Nat→Prop} {W:World} (h:Jn C B E1 l rec st idx I i O W):∀ k,O k→k < W.heap.size:=by
 obtain ⟨x,c,Ei,h1,h2,h3,h4,h5,h6,h7⟩:=h
 intro k hk
 rcases (h7 k).1 hk with hk | rfl
 ·unfold KH at hk
  simp only [Classical.not_forall,ne_eq,Classical.not_not] at hk
  obtain ⟨id,o,lo,q1,q2,q3⟩:=hk
  obtain ⟨lo',q4,ao⟩:=h4.obj id o q1
  rw [q2] at q4;injection q4 with q4;subst q4
  exact ao.lt q3
 ·exact a1e h6
theorem b3m {B:World} {E1:Env} {l:Nat} {rec:LoopState→Option Code→Loop} {X:Exit→List (Nat×HObj)→Nat→Prop} {W W2:World} (h:Jxn C B E1 l rec X W) (hb:Below W.heap.size W W2):Jxn C B E1 l rec X W2:=by
 obtain ⟨cj,hp',c,Ei,h1,h3,h4,h5,h6⟩:=h
 exact ⟨cj,hp',c,Ei,h1,h3.trans (h4.extBelow hb),h4.growSame hb,h5,(hb.block l (a1e h6)).trans h6⟩
theorem a8R {B:World} {E1:Env} {l:Nat} {fn:FuncId} {tmps:Array Value} {dfs:Nat} {rec:LoopState→Option Code→Loop} (hrec:rec=fun s p=>{ state:=s,pending:=p,fn,tmps:=tmps,params:=ps,assign,body,defers:=dfs })
    {st:α→List (Nat×HObj)} {idx:α→Nat} {I:α→Prop} (hl0:C.w0.heap.size≤l) (hsz:tmps.size=n) (hV:b6L tm=true) (htm:∀ t x,tget tm t=some x→∀ ds,TVRep B E1 ⟨tmps,ds⟩ (tmps.getD t undef) x) (hps:∀ i,(ys i).length=ps.size) (hpb:ps.toList.all (fun p=>Nat.blt p n)=true)
    (round:∀ x c,I x→idx x < N→c0A P assign body ⟨n,psl ps.toList (ys (idx x)) tm,st x,c⟩ (fun C2=>RQ C2 (fun hp' _=>∃ y,I y∧idx y=idx x+1∧a0e hp' (st y)) (fun e hp' c'=>HQ C Q e ⟨n,tm,hp',c'⟩)))
    (hB0:C.w0.heap.size≤B.heap.size) (i:Nat) (O:Nat→Prop) (W:World) (F':Addr→Prop) (vs:List Value) (hi:i < N) (hJ:Jn C B E1 l rec st idx I i O W) (hF1:∀ a,F' a→a.spot=none∧(W.cell? a).isSome=true) (hF2:∀ a,F' a→¬ O a.block) (hF3:∀ a,F' a→E1.F a∨B.heap.size≤a.block) (hv:RepAll W (Env.just F') vs (ys i)) :
    YieldAt Fence.wide 0 P l vs.toArray W fun e W'=>KeepsO O W W'∧((e=.returned (.bool true)∧∃ O',Jn C B E1 l rec st idx I (i+1) O' W'∧∀ k,O' k→O k∨W.heap.size≤k)∨(e=.returned (.bool false)∧Jxn C B E1 l rec (fun e hp' c'=>HQ C Q e ⟨n,tm,hp',c'⟩) W')):=by
  obtain ⟨x,c,Ei0,rfl,hI,eB0,rW0,hG,hl,hO⟩:=hJ
  obtain ⟨Ei,hEi⟩:∃ Ei:Env,Ei=⟨fun a=>Ei0.F a∨F' a,Ei0.L,Ei0.G,Ei0.M⟩:=⟨_,rfl⟩
  have hEF:∀ a,F' a→Ei.F a:=fun a ha=>by rw [hEi];exact .inr ha
  have hKH:KH Ei (hget (st x))=KH Ei0 (hget (st x)):=by rw [hEi];rfl
  have e01:Ext W Ei0 W Ei:=by rw [hEi];exact ⟨Nat.le_refl _,fun a h=>⟨.inl h,rfl⟩,fun _ h=>h,fun _ _ h _=>h,fun _ h=>h⟩
  have rW:R C.K C.w0 C.E0.F Ei (hget (st x)) W:=by
    have hfrz:∀ a,Ei.F a→a.spot=none∧(W.cell? a).isSome=true:=fun a ha=>by
      rw [hEi] at ha;rcases ha with ha | ha;exact rW0.frz a ha;exact hF1 a ha
    have hnew:∀ a,Ei.F a→C.E0.F a∨C.w0.heap.size≤a.block∨¬ C.K a.block:=fun a ha=>by
      rw [hEi] at ha
      rcases ha with ha | ha
      · exact rW0.fnew a ha
      · rcases hF3 a ha with h | h
        · exact rW0.fnew a (eB0.F a h).1
        · exact .inr (.inl (Nat.le_trans hB0 h))
    refine ⟨rW0.os,rW0.tape,rW0.output,rW0.size,rW0.keep,hfrz,hnew,rW0.klib,rW0.lib,fun b hb=>rW0.bks b (by rw [hEi] at hb;exact hb),fun id o ho=>?_,fun id id' o o' l l' b ho ho' hl hl'=>rW0.inj id id' o o' l l' b ho ho' (by rw [hEi] at hl;exact hl) (by rw [hEi] at hl';exact hl')⟩
    obtain ⟨lo,hlo,ao⟩:=rW0.obj id o ho
    refine ⟨lo,by rw [hEi];exact hlo,ao.ext e01 (fun _ _=>rfl) (fun b k hA hF=>?_)⟩
    rw [hEi] at hF
    rcases hF with hF | hF
    · exact hF
    · exact absurd ((hO b).2 (.inl (fun hk=>hk id o lo ho hlo hA))) (hF2 _ hF)
  have eB:Ext B E1 W Ei:=eB0.trans e01
  have hvl:vs.length=(ys (idx x)).length:=(hv.get).1
  have hsz':vs.toArray.size=(rec .ready none).params.size:=by rw [hrec];simp [hvl,hps]
  have hy:=run_yield (P:=P) (args:=vs.toArray) hl hsz'
  refine ⟨_,_,_,_,hy,roundIn_of_wpIn trivial ?_⟩
  have hps2:(rec .ready none).params=ps:=by rw [hrec]
  have hts2:(rec .ready none).tmps=tmps:=by rw [hrec]
  have has2:(rec .ready none).assign=assign:=by rw [hrec]
  have hbd2:(rec .ready none).body=body:=by rw [hrec]
  rw [hps2,hts2,has2,hbd2]
  have hlW:=a1e hl
  have nb:=rW.notBk hl rfl
  have hfold:(ps.zip vs.toArray).foldl (fun tmps (x:Tmp×Value)=>tmps.setIfInBounds x.1 x.2) tmps=(ps.toList.zip vs).foldl (fun t p=>t.setIfInBounds p.1 p.2) tmps:=by
    rw [←Array.foldl_toList];simp
  have hfold':(Array.foldl (fun (t:Array Value) (x:Tmp×Value)=>match x with | (p,v)=>t.setIfInBounds p v) tmps (ps.zip vs.toArray))=(ps.toList.zip vs).foldl (fun t p=>t.setIfInBounds p.1 p.2) tmps:=hfold
  rw [hfold']
  have hzs:∀ (q:List (Tmp×Value)) (t:Array Value),(q.foldl (fun t p=>t.setIfInBounds p.1 p.2) t).size=t.size:=by
    intro q
    induction q with
    | nil=>intro t;rfl
    | cons z q ih=>intro t;rw [List.foldl_cons,ih];simp
  have hjust:Ext W (Env.just F') W Ei:=Ext.just hEF
  have libA:∀ W',R C.K C.w0 C.E0.F Ei (hget (st x)) W'→LibW W':=fun _ r=>r.libw
  obtain ⟨hV0,hslots⟩:=b7N (w:=W) (E:=Ei) ps.toList vs (ys (idx x)) tm tmps (hv.ext hjust) (by simp [hps]) (by rw [hsz];exact hpb) hV (fun t y hy ds=>(htm t y hy ds).ext eB)
  have sat0:Sat ⟨KH Ei (hget (st x)),W,Ei,[],some l,none⟩ ⟨n,psl ps.toList (ys (idx x)) tm,st x,c⟩ ⟨(ps.toList.zip vs).foldl (fun t p=>t.setIfInBounds p.1 p.2) tmps,[]⟩ W :=
    ⟨Ei,Ext.refl _ _,rW.reb,(by rw [hEi];exact hG),by rw [hzs,hsz],rfl,fun t y hy=>hslots t y hy []⟩
  refine round x c hI hi ⟨KH Ei (hget (st x)),W,Ei,[],some l,none⟩ l ⟨rfl,rfl,rfl,hlW,nb.2,_,hl⟩ _ (fun s1 hb a1 Wa hsat=>?_) _ W sat0
  obtain ⟨Ea,ea,ra,hGa,hsza,hdfa,hta⟩:=hsat
  have rA:=rW.unreb ra
  have hla:Wa.heap[l]?=some (.loop (rec .ready none)):=(ra.keep l hlW nb.2).trans hl
  have hlaW:=a1e hla
  have hst:(rec .ready none).state=.ready:=by rw [hrec]
  refine ⟨_,run_beginRound hla hst,?_⟩
  obtain ⟨e2,r2⟩:=rA.book hla rfl hl0 (rA.notM hla) (Bk.put Wa l (.loop { rec .ready none with state:=.busy }))
  have hl2:(Wa.putObj l (.loop { rec .ready none with state:=.busy })).heap[l]?=some (.loop { rec .ready none with state:=.busy }):=World.putObj_heap_same hlaW
  have nb2:=r2.notBk hl2 rfl
  have hl2W:=a1e hl2
  have hda:a1.defers=[]:=hdfa
  have sat2:Sat ⟨KH Ea (hget s1.hp),Wa.putObj l (.loop { rec .ready none with state:=.busy }),Ea,[],some l,none⟩ s1 a1 (Wa.putObj l (.loop { rec .ready none with state:=.busy })) :=
    ⟨Ea,Ext.refl _ _,r2.reb,hGa,hsza,hda,fun t y hy=>(hta t y hy).ext e2⟩
  refine wpIn_mono (hb ⟨KH Ea (hget s1.hp),_,Ea,[],some l,none⟩ ⟨rfl,rfl,rfl,hl2W,nb2.2,_,hl2⟩ a1 _ sat2) (fun e a' W3 hq=>?_)
  have fin:∀ (jump:Option Code) (hp':List (Nat×HObj)) (c':Nat),RB ⟨KH Ea (hget s1.hp),Wa.putObj l (.loop { rec .ready none with state:=.busy }),Ea,[],some l,none⟩ hp' c' W3 →
      ∃ W4 E3,(Instr.endRound l jump).run P W3=.ok (.bool jump.isNone) W4∧KeepsO O W W4∧(∀ k,¬ KH E3 (hget hp') k→O k∨W.heap.size≤k)∧Ext B E1 W4 E3∧R C.K C.w0 C.E0.F E3 (hget hp') W4∧(∀ g,E3.G g→g < c')∧W4.heap[l]?=some (.loop (rec (if jump.isNone then .ready else .done) jump)):=by
    intro jump hp' c' ⟨E3,e3,r3,hG3⟩
    have hl3:W3.heap[l]?=some (.loop { rec .ready none with state:=.busy }):=(r3.keep l hl2W nb2.2).trans hl2
    have r3':=r2.unreb r3
    obtain ⟨e4,r4⟩:=r3'.book hl3 rfl hl0 (r3'.notM hl3) (Bk.put W3 l (.loop { ({ rec .ready none with state:=.busy }:Loop) with state:=if jump.isNone then .ready else .done,pending:=jump }))
    have own2:∀ k,k < W.heap.size→¬ O k→KH Ea (hget s1.hp) k:=fun k hk hno=>Classical.byContradiction fun hn=>by
      unfold KH at hn
      simp only [Classical.not_forall,ne_eq,Classical.not_not] at hn
      obtain ⟨id,o,lo,q1,q2,q3⟩:=hn
      obtain ⟨lo',q4,ao⟩:=ra.obj id o q1
      rw [q2] at q4;injection q4 with q4;subst q4
      have:=ao.notK q3 hk
      rw [hKH] at this
      exact hno ((hO k).2 (.inl this))
    refine ⟨_,E3,run_endRound jump hl3,⟨?_,fun k hk hno=>?_,r4.libw⟩,fun k hk=>?_,eB.trans (ea.trans (e2.trans (e3.trans e4))),r4,hG3,?_⟩
    · exact Nat.le_trans ea.sz (Nat.le_trans e2.sz (Nat.le_trans e3.sz e4.sz))
    · have hkl:k≠l:=fun e=>hno ((hO k).2 (.inr e))
      have hk1:KH Ei (hget (st x)) k:=by rw [hKH];exact Classical.byContradiction fun h=>hno ((hO k).2 (.inl h))
      have hka:k < Wa.heap.size:=Nat.lt_of_lt_of_le hk ea.sz
      have hk2:k < (Wa.putObj l (.loop { rec .ready none with state:=.busy })).heap.size:=by rw [World.putObj_size];exact hka
      rw [World.putObj_heap_other hkl,r3.keep k hk2 (own2 k hk hno),World.putObj_heap_other hkl]
      exact ra.keep k hk hk1
    · rcases Nat.lt_or_ge k W.heap.size with h | h
      · left
        refine Classical.byContradiction fun hno=>hk (fun id o lo q1 q2 q3=>?_)
        obtain ⟨lo',q4,ao⟩:=r3.obj id o q1
        rw [q2] at q4;injection q4 with q4;subst q4
        have hk2:k < (Wa.putObj l (.loop { rec .ready none with state:=.busy })).heap.size:=by rw [World.putObj_size];exact Nat.lt_of_lt_of_le h ea.sz
        exact ao.notK q3 hk2 (own2 k h hno)
      · exact .inr h
    · rw [World.putObj_heap_same (a1e hl3),hrec]
  cases e with
  | normal =>
    obtain ⟨hp',c',⟨y,hy1,hy2,hy3⟩,hrb⟩:=hq
    obtain ⟨W4,E3,h1,hk,ho,h2,h3,h4,h5⟩:=fin none hp' c' hrb
    refine ⟨_,W4,h1,hk,.inl ⟨rfl,_,⟨y,c',E3,hy2,hy1,h2,h3.weak hy3,h4,h5,fun b=>Iff.rfl⟩,fun k hk'=>?_⟩⟩
    rcases hk' with hk' | rfl
    · refine ho k (fun hK=>hk' (fun id o' lo q1 q2=>?_))
      obtain ⟨o,q3,_⟩:=hy3 id o' q1
      exact hK id o lo q3 q2
    · exact .inl ((hO k).2 (.inr rfl))
  | ret =>
    obtain ⟨hp',c',hX,hrb⟩:=hq
    obtain ⟨W4,E3,h1,hk,_,h2,h3,h4,h5⟩:=fin (some .ret) hp' c' hrb
    exact ⟨_,W4,h1,hk,.inr ⟨rfl,.ret,hp',c',E3,.inl ⟨rfl,hX⟩,h2,h3,h4,h5⟩⟩
  | exit id =>
    obtain ⟨hp',c',hX,hrb⟩:=hq
    obtain ⟨W4,E3,h1,hk,_,h2,h3,h4,h5⟩:=fin (some (.exit id)) hp' c' hrb
    exact ⟨_,W4,h1,hk,.inr ⟨rfl,.exit id,hp',c',E3,.inr ⟨id,rfl,hX⟩,h2,h3,h4,h5⟩⟩
  | goto t=>exact hq.elim
  | panic ch=>exact hq.elim
  | outgrown=>exact hq.elim
end
section
variable {α:Type} {P:Program} {C:Ctx} {Q:Exit→Act→World→Prop} {n clk:Nat} {tm:List (Nat×TV)} {hp:List (Nat×HObj)} {ps:Array Tmp} {assign body:Code} {N:Nat} {ys:Nat→List HV}
theorem a5s (w:World) (E:Env):a9Z w E []:=fun _ _ h=>by cases h
theorem a8Y {B:World} {E1:Env} {l:Nat} {fn:FuncId} {tmps:Array Value} {dfs:Nat} {rec:LoopState→Option Code→Loop} (hrec:rec=fun s p=>{ state:=s,pending:=p,fn,tmps:=tmps,params:=ps,assign,body,defers:=dfs })
  {st:α→List (Nat×HObj)} {idx:α→Nat} {I:α→Prop} (hl0:C.w0.heap.size≤l) (a':Act) (sat:∀ (hp':List (Nat×HObj)) (c':Nat) (Ei:Env) (W:World),Ext B E1 W Ei→R C.K C.w0 C.E0.F Ei (hget hp') W→(∀ g,Ei.G g→g < c')→Sat C ⟨n,tm,hp',c'⟩ a' W)
  (done:∀ x c,I x→idx x=N→HQ C Q .normal ⟨n,tm,st x,c⟩) (W:World)
  (h:(∃ O,Jn C B E1 l rec st idx I N O W)∨∃ i,i < N∧Jxn C B E1 l rec (fun e hp' c'=>HQ C Q e ⟨n,tm,hp',c'⟩) W) :
  ∃ jump W2,(Instr.endLoop l).run P W=.ok jump W2∧(match jump with | none=>Q .normal a' W2 | some c=>c.wpIn (b7J C.rd) 0 P Q a' W2):=by
 rcases h with ⟨_,x,c,Ei,h1,h2,h3,h4,h5,h6,_⟩ | ⟨i,_,cj,hp',c,Ei,h1,h3,h4,h5,h6⟩
 ·obtain ⟨e2,r2⟩:=h4.book h6 rfl hl0 (h4.notM h6) (Bk.put W l (.loop { rec .ready none with state:=.exhausted }))
  refine ⟨none,_,?_,done x c h2 h1 a' _ (sat _ _ Ei _ (h3.trans e2) r2 h5)⟩
  have:=run_endLoop (P:=P) h6 (by rw [hrec];simp)
  rw [hrec] at this ⊢
  exact this
 ·obtain ⟨e2,r2⟩:=h4.book h6 rfl hl0 (h4.notM h6) (Bk.put W l (.loop { rec .done (some cj) with state:=.exhausted }))
  refine ⟨some cj,W.putObj l (.loop { rec .done (some cj) with state:=.exhausted }),?_,?_⟩
  ·have:=run_endLoop (P:=P) h6 (by rw [hrec];simp)
   rw [hrec] at this ⊢
   exact this
  ·have hs:=sat _ _ Ei _ (h3.trans e2) r2 h5
   rcases h1 with ⟨rfl,hX⟩ | ⟨id,rfl,hX⟩
   ·exact wpIn_ret (hX a' _ hs)
   ·exact wpIn_exit (hX a' _ hs)
theorem a8l {t:Nat} {f:FuncId} {m:Nat} {cfs:Nat→HV} {cs caps:List HV} (hC:C.rd=none∧C.ds=[]∧C.mks=some C.w0.heap.size)
    (hit:b9S P f caps N ys) (ht:tget tm t=some (.v (.fn (.func f) m cfs))) (hcs:cs.length=m) (hci:∀ i,i < m→cs[i]?=some (cfs i)) (hz:FzAll [] cs caps)
    (hV:b6L tm=true) (hps:∀ i,(ys i).length=ps.size) (hpb:ps.toList.all (fun p=>Nat.blt p n)=true)
    (st:α→List (Nat×HObj)) (idx:α→Nat) (I:α→Prop) (x0:α) (h0:I x0) (hi0:idx x0=0) (hs0:a0e hp (st x0)) (hfl:((st x0).all fun p=>p.2.fl == 0||Nat.blt p.2.n p.2.fl)=true)
    (round:∀ x c,I x→idx x < N→c0A P assign body ⟨n,psl ps.toList (ys (idx x)) tm,st x,c⟩ (fun C2=>RQ C2 (fun hp' _=>∃ y,I y∧idx y=idx x+1∧a0e hp' (st y)) (fun e hp' c'=>HQ C Q e ⟨n,tm,hp',c'⟩)))
    (done:∀ x c,I x→idx x=N→HQ C Q .normal ⟨n,tm,st x,c⟩):HWp C P (.rangeFunc (.tmp t) ps assign body) ⟨n,tm,hp,clk⟩ Q:=by
  intro a w ⟨E,e0,r,hG,hsz,hdf,htm⟩
  have hfn:Rep w E (a.eval (.tmp t)) (.fn (.func f) m cfs):=htm t _ ht
  rw [hC.1]
  refine wpIn_rangeFunc fun fn _=>?_
  generalize hρ:a.eval (.tmp t)=u at hfn
  cases hfn with
  | fn _ vcs _ _ vs hn hv hr =>
    have hcap:=b0A hn hv hr hcs hci
    obtain ⟨rec,hrec⟩:∃ rec:LoopState→Option Code→Loop,rec=fun s p=>{ state:=s,pending:=p,fn,tmps:=a.tmps,params:=ps,assign,body,defers:=w.heap.size }:=⟨_,rfl⟩
    obtain ⟨W1,hW1⟩:∃ W1,(w.alloc (.deferred (some []))).alloc (.loop (rec .ready none))=W1:=⟨_,rfl⟩
    have hbel:Below w.heap.size w W1:=by rw [←hW1];exact (((Below.refl _ w).alloc (Nat.le_refl _) _).alloc (by simp) _)
    have hD1:W1.heap[w.heap.size]?=some (.deferred (some [])):=by
      rw [←hW1];exact (Below.heap_alloc _ _ _ (by simp)).trans (World.alloc_heap_new w _)
    have hL1:W1.heap[w.heap.size+1]?=some (.loop (rec .ready none)):=by
      rw [←hW1];have:=World.alloc_heap_new (w.alloc (.deferred (some []))) (.loop (rec .ready none));rwa [World.size_alloc] at this
    have e1:Ext w E W1 (E.mark w.heap.size):=(r.extBelow hbel).trans (Ext.mark _ _ _)
    have r1:R C.K C.w0 C.E0.F (E.mark w.heap.size) (hget hp) W1:=(r.growSame hbel).mark hD1
    have hw0:C.w0.heap.size≤w.heap.size+1:=Nat.le_succ_of_le r.size
    refine ⟨w.heap.size+1,[{ target:=.collected w.heap.size,args:=#[] }],W1,{ target:=.fn (.func f) vcs,args:=#[.func (.yield (w.heap.size+1)) #[] #[]] },W1,f,
      #[.func (.yield (w.heap.size+1)) #[] #[]]++vcs,W1,?_,?_,fun _ _=>trivial,?_,a5h,?_⟩
    · rw [←hW1,hrec];exact run_enterLoop_outer _ _ _ _ _
    · simp only [resolve,hρ]
      simp [go_sem]
    · have:=a0R hit.1 (#[.func (.yield (w.heap.size+1)) #[] #[]]++vcs) W1
      simp only [invoke]
      exact this
    · refine a7E (r:=none) ?_
      have hfr:∀ p,E.F p→p.spot=none∧(W1.cell? p).isSome=true:=fun p hp=>by
        have:=r.frz p hp
        exact ⟨this.1,by rw [(e1.F p hp).2];exact this.2⟩
      have hcap1:RepAll W1 (Env.just E.F) vcs.toList caps:=by
        have:=hz.sound (a5s W1 (E.mark w.heap.size)) (hcap.ext e1)
        exact this
      have hfo:∀ p,E.F p→¬ (¬ KH (E.mark w.heap.size) (hget (st x0)) p.block∨p.block=w.heap.size+1):=fun p hp=>by
        rintro (h | h)
        · exact h ((r1.weak hs0).noFl (fun id o ho=>by have:=List.all_eq_true.1 hfl _ (a1D ho);simpa [Nat.blt_eq] using this) p hp)
        · exact ((r1.weak hs0).notBk hL1 rfl).1 p hp h
      have hslots:∀ t x,tget tm t=some x→∀ ds,TVRep W1 (E.mark w.heap.size) ⟨a.tmps,ds⟩ (a.tmps.getD t undef) x:=fun t x hx ds=>by
        obtain ⟨z,rfl⟩:=a4p hV t x hx
        exact (htm t _ hx).ext e1
      have hc:=hit.2 (w.heap.size+1) W1 E.F vcs.toList (Jn C W1 (E.mark w.heap.size) (w.heap.size+1) rec st idx I) (fun _=>Jxn C W1 (E.mark w.heap.size) (w.heap.size+1) rec (fun e hp' c'=>HQ C Q e ⟨n,tm,hp',c'⟩))
        _ hfr hfo hcap1 r1.libw (fun i O W2 W3 h hb=>b6u h hb) (fun i W2 W3 h hb=>b3m h hb) (fun i O W2 h=>c3Y h)
        (fun i O W2 F' vs2 hi hJ q1 q2 q3 hv2=>a8R hrec hw0 hsz hV hslots hps hpb round (Nat.le_trans r.size hbel.size) i O W2 F' vs2 hi hJ q1 q2 q3 hv2)
        ⟨x0,clk,E.mark w.heap.size,hi0,h0,Ext.refl _ _,r1.weak hs0,hG,hL1,fun b=>Iff.rfl⟩
      have harr:#[Value.func (.yield (w.heap.size+1)) #[] #[]]++vcs.toList.toArray=#[.func (.yield (w.heap.size+1)) #[] #[]]++vcs:=by simp
      rw [harr] at hc
      refine Calls.mono hc (fun e W2 ⟨⟨v,he⟩,hj⟩=>?_)
      subst he
      have hsat:∀ (hp':List (Nat×HObj)) (c':Nat) (Ei:Env) (W:World),Ext W1 (E.mark w.heap.size) W Ei→R C.K C.w0 C.E0.F Ei (hget hp') W→(∀ g,Ei.G g→g < c')→Sat C ⟨n,tm,hp',c'⟩ { a with defers:=[⟨.collected w.heap.size,#[]⟩]++a.defers } W:=by
        intro hp' c' Ei W e2 r2 hG2
        refine ⟨Ei,e0.trans (e1.trans e2),r2,hG2,hsz,?_,fun t x hx=>?_⟩
        · rw [hC.2.1,hC.2.2] at hdf ⊢
          obtain ⟨Ds,h1,h2,h3⟩:=hdf
          refine ⟨w.heap.size::Ds,by rw [h1];rfl,List.nodup_cons.2 ⟨fun hm=>?_,h2⟩,fun D hD=>?_⟩
          · exact absurd (a1e (r.bks _ (h3 _ hm).1)) (Nat.lt_irrefl _)
          · rcases List.mem_cons.1 hD with rfl | hD
            · exact ⟨e2.M _ (.inr rfl),r.size⟩
            · exact ⟨e2.M _ (e1.M _ (h3 D hD).1),(h3 D hD).2⟩
        · obtain ⟨z,rfl⟩:=a4p hV t x hx
          exact (htm t _ hx).ext (e1.trans e2)
      obtain ⟨jump,W3,h1,h2⟩:=a8Y hrec hw0 _ hsat done W2 hj
      rw [hC.1] at h2
      exact ⟨jump,W3,h1,h2⟩
theorem b9i {t l0:Nat} {f:FuncId} {m:Nat} {cfs:Nat→HV} {cs caps:List HV} (hC:c6A C l0)
    (hit:b9S P f caps N ys) (ht:tget tm t=some (.v (.fn (.func f) m cfs))) (hcs:cs.length=m) (hci:∀ i,i < m→cs[i]?=some (cfs i)) (hz:FzAll [] cs caps)
    (hV:b6L tm=true) (hps:∀ i,(ys i).length=ps.size) (hpb:ps.toList.all (fun p=>Nat.blt p n)=true)
    (st:α→List (Nat×HObj)) (idx:α→Nat) (I:α→Prop) (x0:α) (h0:I x0) (hi0:idx x0=0) (hs0:a0e hp (st x0)) (hfl:((st x0).all fun p=>p.2.fl == 0||Nat.blt p.2.n p.2.fl)=true)
    (round:∀ x c,I x→idx x < N→c0A P assign body ⟨n,psl ps.toList (ys (idx x)) tm,st x,c⟩ (fun C2=>RQ C2 (fun hp' _=>∃ y,I y∧idx y=idx x+1∧a0e hp' (st y)) (fun e hp' c'=>HQ C Q e ⟨n,tm,hp',c'⟩)))
    (done:∀ x c,I x→idx x=N→HQ C Q .normal ⟨n,tm,st x,c⟩):HWp C P (.rangeFunc (.tmp t) ps assign body) ⟨n,tm,hp,clk⟩ Q:=by
  intro a w ⟨E,e0,r,hG,hsz,hdf,htm⟩
  obtain ⟨hr1,hr2,hr3,hr4,hr5,r0,hr6⟩:=hC
  have hfn:Rep w E (a.eval (.tmp t)) (.fn (.func f) m cfs):=htm t _ ht
  have hl0:w.heap[l0]?=some (.loop r0):=(r.keep l0 hr4 hr5).trans hr6
  rw [hr1]
  refine wpIn_rangeFunc fun fn _=>?_
  generalize hρ:a.eval (.tmp t)=u at hfn
  cases hfn with
  | fn _ vcs _ _ vs hn hv hr =>
    have hcap:=b0A hn hv hr hcs hci
    obtain ⟨rec,hrec⟩:∃ rec:LoopState→Option Code→Loop,rec=fun s p=>{ state:=s,pending:=p,fn,tmps:=a.tmps,params:=ps,assign,body,defers:=r0.defers }:=⟨_,rfl⟩
    obtain ⟨W1,hW1⟩:∃ W1,w.alloc (.loop (rec .ready none))=W1:=⟨_,rfl⟩
    have hbel:Below w.heap.size w W1:=by rw [←hW1];exact ((Below.refl _ w).alloc (Nat.le_refl _) _)
    have hL1:W1.heap[w.heap.size]?=some (.loop (rec .ready none)):=by rw [←hW1];exact World.alloc_heap_new w _
    have e1:Ext w E W1 E:=r.extBelow hbel
    have r1:R C.K C.w0 C.E0.F E (hget hp) W1:=r.growSame hbel
    refine ⟨w.heap.size,[],W1,{ target:=.fn (.func f) vcs,args:=#[.func (.yield w.heap.size) #[] #[]] },W1,f,
      #[.func (.yield w.heap.size) #[] #[]]++vcs,W1,?_,?_,fun _ _=>trivial,?_,a5h,?_⟩
    · rw [←hW1,hrec];exact run_enterLoop_inner hl0 _ _ _ _ _
    · simp only [resolve,hρ]
      simp [go_sem]
    · have:=a0R hit.1 (#[.func (.yield w.heap.size) #[] #[]]++vcs) W1
      simp only [invoke]
      exact this
    · refine a7E (r:=some l0) ?_
      have hfr:∀ p,E.F p→p.spot=none∧(W1.cell? p).isSome=true:=fun p hp=>by
        have:=r.frz p hp
        exact ⟨this.1,by rw [(e1.F p hp).2];exact this.2⟩
      have hcap1:RepAll W1 (Env.just E.F) vcs.toList caps:=hz.sound (a5s W1 E) (hcap.ext e1)
      have hfo:∀ p,E.F p→¬ (¬ KH E (hget (st x0)) p.block∨p.block=w.heap.size):=fun p hp=>by
        rintro (h | h)
        · exact h ((r1.weak hs0).noFl (fun id o ho=>by have:=List.all_eq_true.1 hfl _ (a1D ho);simpa [Nat.blt_eq] using this) p hp)
        · exact ((r1.weak hs0).notBk hL1 rfl).1 p hp h
      have hslots:∀ t x,tget tm t=some x→∀ ds,TVRep W1 E ⟨a.tmps,ds⟩ (a.tmps.getD t undef) x:=fun t x hx ds=>by
        obtain ⟨z,rfl⟩:=a4p hV t x hx
        exact (htm t _ hx).ext e1
      have hc:=hit.2 w.heap.size W1 E.F vcs.toList (Jn C W1 E w.heap.size rec st idx I) (fun _=>Jxn C W1 E w.heap.size rec (fun e hp' c'=>HQ C Q e ⟨n,tm,hp',c'⟩))
        _ hfr hfo hcap1 r1.libw (fun i O W2 W3 h hb=>b6u h hb) (fun i W2 W3 h hb=>b3m h hb) (fun i O W2 h=>c3Y h)
        (fun i O W2 F' vs2 hi hJ q1 q2 q3 hv2=>a8R hrec r.size hsz hV hslots hps hpb round (Nat.le_trans r.size hbel.size) i O W2 F' vs2 hi hJ q1 q2 q3 hv2)
        ⟨x0,clk,E,hi0,h0,Ext.refl _ _,r1.weak hs0,hG,hL1,fun b=>Iff.rfl⟩
      have harr:#[Value.func (.yield w.heap.size) #[] #[]]++vcs.toList.toArray=#[.func (.yield w.heap.size) #[] #[]]++vcs:=by simp
      rw [harr] at hc
      refine Calls.mono hc (fun e W2 ⟨⟨v,he⟩,hj⟩=>?_)
      subst he
      have hsat:∀ (hp':List (Nat×HObj)) (c':Nat) (Ei:Env) (W:World),Ext W1 E W Ei→R C.K C.w0 C.E0.F Ei (hget hp') W→(∀ g,Ei.G g→g < c')→Sat C ⟨n,tm,hp',c'⟩ { a with defers:=[]++a.defers } W:=by
        intro hp' c' Ei W e2 r2 hG2
        refine ⟨Ei,e0.trans (e1.trans e2),r2,hG2,hsz,?_,fun t x hx=>?_⟩
        · exact hdf.ext (e1.trans e2)
        · obtain ⟨z,rfl⟩:=a4p hV t x hx
          exact (htm t _ hx).ext (e1.trans e2)
      obtain ⟨jump,W3,h1,h2⟩:=a8Y hrec r.size _ hsat done W2 hj
      rw [hr1] at h2
      exact ⟨jump,W3,h1,h2⟩
end
section
variable {P:Program} {Post:HEnd→List (Nat×HObj)→Nat→Prop}
theorem b2M {f:FuncId} {fn:Func} {c:Code} (hf:P.funcs[f]?=some fn) (hb:fn.body=some c) (hn:(fn.name == "runtime.NumGoroutine")=false) (args:List HV) (r:HV) (tm:List (Nat×TV)) (htm:a7q 0 args=tm) (n:Nat) (hnt:fn.ntmps=n) (hlen:Nat.ble args.length n=true)
  (h:∀ w F,HWp (Ctx.topM w F) P c ⟨n,tm,[],0⟩ (bodyPostM Fence.wide 0 P fn (a1a w F r))):HPure P f args r:=by
 refine ⟨⟨fn,c,hf,hb,hn⟩,fun w F vs hF hr hw=>callsIn_wide.1 (callsIn_of_wp_marks (F:=Fence.wide) (n:=0) hf hb trivial (h w F _ w ?_))⟩
 obtain ⟨hl,hg⟩:=hr.get
 have hlen:args.length≤n:=by simpa using hlen
 refine ⟨Env.just F,Ext.refl _ _,⟨rfl,rfl,rfl,Nat.le_refl _,fun _ _ _=>rfl,hF,fun a ha=>.inl ha,fun _ _=>trivial,hw,(fun b hb=>hb.elim),(fun id o ho=>by cases ho),(fun id id' o o' l l' b ho=>by cases ho)⟩,fun g hg=>hg.elim,?_,⟨[],rfl,List.nodup_nil,fun D hD=>by cases hD⟩,fun t x hx=>?_⟩
 ·simp [hl,hnt];omega
 ·rw [←htm] at hx
  obtain ⟨i,y,rfl,h2,rfl⟩:=a2h args 0 t x hx
  obtain ⟨v,hv,hrep⟩:=hg i y h2
  have hi:i < vs.length:=by
   rcases Nat.lt_or_ge i vs.length with h | h
   ·exact h
   ·rw [List.getElem?_eq_none h] at hv;cases hv
  have:(vs.toArray++Array.replicate (fn.ntmps - vs.toArray.size) undef).getD (0+i) undef=v:=by
   rw [Nat.zero_add]
   simp only [Array.getD_eq_getD_getElem?]
   rw [Array.getElem?_append_left (by simpa using hi)]
   simp [hv]
  show Rep w _ _ y
  rw [this]
  exact hrep
theorem b0Z {f:FuncId} {fn:Func} {c:Code} (hf:P.funcs[f]?=some fn) (hb:fn.body=some c) (hn:(fn.name == "runtime.NumGoroutine")=false) (clk:Nat) (args:List HV) (pre:List (Nat×HObj)) (tm:List (Nat×TV)) (htm:a7q 0 args=tm) (n:Nat) (hnt:fn.ntmps=n) (hlen:Nat.ble args.length n=true)
  (h:∀ X:Clr,X.Ok→X.pre=pre→(∀ b,X.E.M b→b < X.w.heap.size)→HWp X.ctxM P c ⟨n,tm,pre,clk⟩ (bodyPostM Fence.wide 0 P fn (a1u X Post))):a4n P f clk args pre Post:=by
 refine ⟨⟨fn,c,hf,hb,hn⟩,fun X vs ok hX hr hG=>callsIn_wide.1 (callsIn_of_wp_marks (F:=Fence.wide) (n:=0) hf hb trivial (h X ok hX (fun b hb=>a1e (ok.r.bks b hb)) _ X.w ?_))⟩
 obtain ⟨hl,hg⟩:=hr.get
 have hlen:args.length≤n:=by simpa using hlen
 have rs:=ok.start
 rw [hX] at rs
 refine ⟨X.E,Ext.refl _ _,rs,hG,?_,⟨[],rfl,List.nodup_nil,fun D hD=>by cases hD⟩,fun t x hx=>?_⟩
 ·simp [hl,hnt];omega
 ·rw [←htm] at hx
  obtain ⟨i,y,rfl,h2,rfl⟩:=a2h args 0 t x hx
  obtain ⟨v,hv,hrep⟩:=hg i y h2
  have hi:i < vs.length:=by
   rcases Nat.lt_or_ge i vs.length with h | h
   ·exact h
   ·rw [List.getElem?_eq_none h] at hv;cases hv
  have:(vs.toArray++Array.replicate (fn.ntmps - vs.toArray.size) undef).getD (0+i) undef=v:=by
   rw [Nat.zero_add]
   simp only [Array.getD_eq_getD_getElem?]
   rw [Array.getElem?_append_left (by simpa using hi)]
   simp [hv]
  show Rep X.w _ _ y
  rw [this]
  exact hrep
theorem a9u {w:World} {F:Addr→Prop} {fn:Func} {Rp:Ending→World→Prop} {s:HSt} (h:HQ (Ctx.top w F) (bodyPost P fn Rp) .ret s):HQ (Ctx.topM w F) (bodyPostM Fence.wide 0 P fn Rp) .ret s:=c0w ⟨rfl,rfl,fun b hb=>hb.elim⟩ h
theorem b3X {X:Clr} {fn:Func} {Rp:Ending→World→Prop} {s:HSt} (hM:∀ b,X.E.M b→b < X.w.heap.size) (h:HQ X.ctx (bodyPost P fn Rp) .ret s):HQ X.ctxM (bodyPostM Fence.wide 0 P fn Rp) .ret s:=c0w ⟨rfl,rfl,hM⟩ h
end
structure ItX (P:Program) where
 l:Nat
 W0:World
 F0:Addr→Prop
 J:Nat→(Nat→Prop)→World→Prop
 Jx:Nat→World→Prop
 N:Nat
 ys:Nat→List HV
 jb:∀ i O W1 W2,J i O W1→Below W1.heap.size W1 W2→J i O W2
 ob:∀ i O W1,J i O W1→∀ k,O k→k < W1.heap.size
 jxb:∀ i W1 W2,Jx i W1→Below W1.heap.size W1 W2→Jx i W2
 yl:∀ i O W1 F' vs,i < N→J i O W1→(∀ a,F' a→a.spot=none∧(W1.cell? a).isSome=true)→(∀ a,F' a→¬ O a.block)→(∀ a,F' a→F0 a∨W0.heap.size≤a.block)→RepAll W1 (Env.just F') vs (ys i) →
   YieldAt Fence.wide 0 P l vs.toArray W1 fun e W'=>KeepsO O W1 W'∧((e=.returned (.bool true)∧∃ O',J (i+1) O' W'∧∀ k,O' k→O k∨W1.heap.size≤k)∨(e=.returned (.bool false)∧Jx (i+1) W'))
structure FrOk (P:Program) (X:ItX P) (W:World) (F:Addr→Prop):Prop where
 frz:∀ a,F a→a.spot=none∧(W.cell? a).isSome=true
 new:∀ a,F a→X.F0 a∨X.W0.heap.size≤a.block
 size:X.W0.heap.size≤W.heap.size
 lib:LibW W
structure GoodW (P:Program) (X:ItX P) (i:Nat) (O:Nat→Prop) (W:World) (F:Addr→Prop):Prop where
 j:X.J i O W
 fr:FrOk P X W F
 own:∀ a,F a→¬ O a.block
def c3D (P:Program) (X:ItX P) (e:Ending) (w:World):Prop:=(∃ v,e=.returned v)∧((∃ O,X.J X.N O w)∨∃ i,i < X.N∧X.Jx (i+1) w)
section
variable {P:Program} {X:ItX P} {fn:Func} {Q:Exit→Act→World→Prop} {n clk:Nat} {tm:List (Nat×TV)} {hp:List (Nat×HObj)}
theorem b2j {W w:World} {F0:Addr→Prop} {E:Env} {h:Nat→Option HObj} (r:R (fun _=>True) W F0 E h w):Below W.heap.size W w :=
 ⟨r.os,r.tape,r.output,r.size,fun k hk=>r.keep k hk trivial⟩
def b2e (tm tm':List (Nat×TV)):Prop:=∀ t x,tget tm' t=some x→∃ y z,x=.v z∧tget tm t=some (.v y)∧Fz [] y z
theorem b2e.nil {tm:List (Nat×TV)}:b2e tm []:=fun t x h=>by cases h
theorem b2e.cons {tm r:List (Nat×TV)} {t:Nat} {y z:HV} (h:tget tm t=some (.v y)) (hz:Fz [] y z) (hr:b2e tm r):b2e tm ((t,.v z)::r):=fun t' x h'=>by
 rw [a0B] at h'
 split at h'
 ·rename_i e;subst e;injection h' with h';subst h';exact ⟨y,z,rfl,h,hz⟩
 ·exact hr t' x h'
theorem b5K {f:FuncId} {c:Code} (hf:P.funcs[f]?=some fn) (hb:fn.body=some c) (hn:(fn.name == "runtime.NumGoroutine")=false) (caps:List HV) (N:Nat) (ys:Nat→List HV) (tm:List (Nat×TV)) (htm:a7q 1 caps=tm) (n:Nat) (hnt:fn.ntmps=n) (hlen:Nat.ble (caps.length+1) n=true)
  (h:∀ X:ItX P,X.N=N→X.ys=ys→∀ O W F,GoodW P X 0 O W F→HWp (Ctx.top W F) P c ⟨n,(0,.v (.fn (.yield X.l) 0 fun _=>default))::tm,[],0⟩ (bodyPost P fn (c3D P X))):b9S P f caps N ys:=by
 refine ⟨⟨fn,c,hf,hb,hn⟩,fun l W F cvs J Jx O0 hF hFO hr hw hjb hjxb hob hyl hj=>?_⟩
 have key:=h ⟨l,W,F,J,Jx,N,ys,hjb,hob,hjxb,hyl⟩ rfl rfl O0 W F ⟨hj,⟨hF,fun a ha=>.inl ha,Nat.le_refl _,hw⟩,hFO⟩
 refine calls_of_wp hf hb (a6K.1 (key _ W ?_))
 obtain ⟨hl,hg⟩:=hr.get
 have hlen:caps.length+1≤n:=by simpa using hlen
 refine ⟨Env.just F,Ext.refl _ _,⟨rfl,rfl,rfl,Nat.le_refl _,fun _ _ _=>rfl,hF,fun a ha=>.inl ha,fun _ _=>trivial,hw,(fun b hb=>hb.elim),(fun id o ho=>by cases ho),(fun id id' o o' l l' b ho=>by cases ho)⟩,fun g hg=>hg.elim,?_,rfl,fun t x hx=>?_⟩
 ·simp [hl,hnt];omega
 ·rw [a0B] at hx
  split at hx
  ·rename_i e;subst e;injection hx with hx;subst hx
   have:((#[Value.func (.yield l) #[] #[]]++cvs.toArray)++Array.replicate (fn.ntmps - (#[Value.func (.yield l) #[] #[]]++cvs.toArray).size) undef).getD 0 undef=.func (.yield l) #[] #[]:=by
    simp only [Array.getD_eq_getD_getElem?]
    rw [Array.getElem?_append_left (by simp),Array.getElem?_append_left (by simp)]
    rfl
   show Rep W _ _ _
   rw [this]
   exact .fn _ _ _ _ (fun _=>undef) rfl (fun i hi=>absurd hi (Nat.not_lt_zero _)) (fun i hi=>absurd hi (Nat.not_lt_zero _))
  ·rw [←htm] at hx
   obtain ⟨i,y,rfl,h2,rfl⟩:=a2h caps 1 t x hx
   obtain ⟨v,hv,hrep⟩:=hg i y h2
   have hi:i < cvs.length:=by
    rcases Nat.lt_or_ge i cvs.length with h | h
    ·exact h
    ·rw [List.getElem?_eq_none h] at hv;cases hv
   have:((#[Value.func (.yield l) #[] #[]]++cvs.toArray)++Array.replicate (fn.ntmps - (#[Value.func (.yield l) #[] #[]]++cvs.toArray).size) undef).getD (1+i) undef=v:=by
    simp only [Array.getD_eq_getD_getElem?]
    rw [Array.getElem?_append_left (by simp;omega),Array.getElem?_append_right (by simp)]
    simp [hv]
   show Rep W _ _ y
   rw [this]
   exact hrep
theorem b0S {W:World} {F:Addr→Prop} {s:HSt} (hres:fn.results=#[]) (hg:(∃ O,X.J X.N O W)∨∃ i,i < X.N∧X.Jx (i+1) W):HQ (Ctx.top W F) (bodyPost P fn (c3D P X)) .ret s:=by
 intro a w ⟨E,e0,r,hG,hsz,hdf,ht⟩
 have hb:Below W.heap.size W w:=b2j r
 refine ⟨hdf,.tuple #[],?_,⟨_,rfl⟩,?_⟩
 ·simp [results,hres,go_sem]
 ·rcases hg with ⟨O,h⟩ | ⟨i,hi,h⟩
  ·exact .inl ⟨O,X.jb _ _ _ _ h hb⟩
  ·exact .inr ⟨i,hi,X.jxb _ _ _ h hb⟩
theorem b5f {ops:Array Oper} {rest:List Oper} {ty:TypeId} {pos:String} {af:Array Edge} {W:World} {F:Addr→Prop} {i:Nat} {O:Nat→Prop} (hg:GoodW P X i O W F) (hi:i < X.N) {t d:Nat} {y0:Nat→HV} {args:List Operand} {at_:Array TypeId} {xs:List HV} (tm':List (Nat×TV))
    (h0:tget tm t=some (.v (.fn (.yield X.l) 0 y0))) (hx:a2m (a0I (tget tm)) args xs) (hz:FzAll [] xs (X.ys i)) (htm:b2e tm tm') (hlt:Nat.blt d n=true)
    (hyes:∀ O' W' F',GoodW P X (i+1) O' W' F'→HSeq (Ctx.top W' F') P ops rest ⟨n,(d,.v (.imm (.bool true)))::tm',[],0⟩ Q)
    (hno:∀ W' F',FrOk P X W' F'→X.Jx (i+1) W'→HSeq (Ctx.top W' F') P ops rest ⟨n,(d,.v (.imm (.bool false)))::tm',[],0⟩ Q) :
    HSeq (Ctx.top W F) P ops (⟨some d,.call ⟨.value (.tmp t),args.toArray,at_⟩,ty,pos,af,none⟩::rest) ⟨n,tm,hp,clk⟩ Q:=by
  intro a w ⟨E,e0,r,hG,hsz,hdf,ht⟩
  have hlt:d < n:=by simpa [Nat.blt_eq] using hlt
  have hb:Below W.heap.size W w:=b2j r
  unfold a8B
  rw [if_pos (by simp [Region.wanted])]
  right
  have hrep:=a5p ht hx
  have hfn:Rep w E (a.eval (.tmp t)) (.fn (.yield X.l) 0 y0):=ht t _ h0
  refine ⟨fun _ _=>trivial,?_⟩
  rw [show ∀ o:Oper,o.semAt Fence.wide.round a.eval=execOp a.eval o from fun o=>Oper.semAt_none _ _]
  have hargs:args.toArray.map a.eval=(args.map a.eval).toArray:=by simp
  have hfrz:RepAll w (Env.just E.F) (args.map a.eval) (X.ys i):=hz.sound (a5s w E) hrep
  have hown:∀ p,E.F p→¬ O p.block:=fun p hp=>by
    rcases r.fnew p hp with h1 | h1 | h1
    · exact hg.own p h1
    · intro hO
      have:=X.ob _ _ _ hg.j _ hO
      exact absurd h1 (by show ¬ W.heap.size≤_;omega)
    · exact absurd trivial h1
  obtain ⟨fn',tmps',as',bd',hy,hround⟩:=X.yl i O w E.F (args.map a.eval) hi (X.jb _ _ _ _ hg.j hb) r.frz hown (fun p hp=>by
    rcases r.fnew p hp with h1 | h1 | h1
    · exact hg.fr.new p h1
    · exact .inr (Nat.le_trans hg.fr.size h1)
    · exact absurd trivial h1) hfrz
  unfold execOp
  generalize hρ:a.eval (.tmp t)=u at hfn
  cases hfn with
  | fn _ vcs _ _ vs hn hv hr =>
    have hvc:vcs=#[]:=Array.eq_empty_of_size_eq_zero hn
    subst hvc
    simp only [resolve,hρ,Deferred.ofValue,invoke,Sem.run_bind,Sem.run_pure,Result.andThen_ok,Array.empty_append,Array.append_empty]
    rw [hargs,hy]
    refine ⟨a5h,RoundIn.mono hround (fun e W' he=>?_)⟩
    obtain ⟨hk,he⟩:=he
    have hfr':FrOk P X W' E.F:=⟨fun p hp=>⟨(r.frz p hp).1,by rw [World.cell?_of_block (hk.block _ (a1p (r.frz p hp).2) (hown p hp))];exact (r.frz p hp).2⟩,fun p hp=>by
      rcases r.fnew p hp with h1 | h1 | h1
      · exact hg.fr.new p h1
      · exact .inr (Nat.le_trans hg.fr.size h1)
      · exact absurd trivial h1,Nat.le_trans hg.fr.size (Nat.le_trans r.size hk.size),hk.lib⟩
    have eK:Ext w (Env.just E.F) W' (Env.just E.F):=⟨hk.size,fun p hp=>⟨hp,World.cell?_of_block (hk.block _ (a1p (r.frz p hp).2) (hown p hp))⟩,fun _ h=>h,fun _ _ h _=>h,fun _ h=>h⟩
    have hsat:∀ b:Bool,Sat (Ctx.top W' E.F) ⟨n,(d,.v (.imm (.bool b)))::tm',[],0⟩ (a.put (some d) (.bool b)) W':=fun b=>by
      refine ⟨Env.just E.F,Ext.refl _ _,⟨rfl,rfl,rfl,Nat.le_refl _,fun _ _ _=>rfl,hfr'.frz,fun a ha=>.inl ha,fun _ _=>trivial,hfr'.lib,(fun b hb=>hb.elim),(fun id o ho=>by cases ho),(fun id id' o o' l l' b ho=>by cases ho)⟩,fun g hg=>hg.elim,by simp [Act.put,hsz],hdf,fun t' x hx=>?_⟩
      rw [a0B] at hx
      split at hx
      · rename_i e;subst e;injection hx with hx;subst hx
        rw [a0W (by rw [hsz];exact hlt)]
        exact .imm _
      · rename_i e
        obtain ⟨y,z,rfl,h1,h2⟩:=htm t' x hx
        rw [a0y e]
        exact (h2.sound (a5s w E) (ht t' _ h1)).ext eK
    rcases he with ⟨rfl,O',hj,ho⟩ | ⟨rfl,hj⟩
    · refine hyes O' W' E.F ⟨hj,hfr',fun p hp hO=>?_⟩ _ W' (hsat true)
      rcases ho _ hO with h1 | h1
      · exact hown p hp h1
      · have:=a1p (r.frz p hp).2;omega
    · exact hno W' E.F hfr' hj _ W' (hsat false)
theorem b1k {α:Type} {body:Code} {W:World} {F:Addr→Prop} {O:Nat→Prop} {tm0:List (Nat×TV)} {hp0:List (Nat×HObj)} {c0:Nat} (st:α→List (Nat×TV)) (I:α→Prop) (idx:α→Nat) (m:α→Nat) (x0:α) (h0:I x0) (hg0:GoodW P X (idx x0) O W F) (hs0:a4w (Ctx.top W F) ⟨n,tm0,hp0,c0⟩ ⟨n,st x0,[],c0⟩)
  (round:∀ x O W F c,I x→GoodW P X (idx x) O W F→∀ N:Act→World→Prop,(∀ y O' W' F' c' s',I y→m y < m x→GoodW P X (idx y) O' W' F'→a4w (Ctx.top W' F') s' ⟨n,st y,[],c'⟩→HQ (Ctx.top W' F') (Exit.then N Q) .normal s')→HWp (Ctx.top W F) P body ⟨n,st x,[],c⟩ (Exit.then N Q)) :
  HWp (Ctx.top W F) P (.loop body) ⟨n,tm0,hp0,c0⟩ Q:=by
 intro a w hs
 refine a5N (fun k a w=>∃ x O W F c,m x=k∧I x∧GoodW P X (idx x) O W F∧Sat (Ctx.top W F) ⟨n,st x,[],c⟩ a w) (m x0) ⟨x0,O,W,F,c0,rfl,h0,hg0,hs0 a w hs⟩ ?_
 rintro k a w ⟨x,O,W,F,c,rfl,hx,hg,hs⟩
 exact round x O W F c hx hg (fun a' w'=>∃ j,j < m x∧∃ y O W F c,m y=j∧I y∧GoodW P X (idx y) O W F∧Sat (Ctx.top W F) ⟨n,st y,[],c⟩ a' w') (fun y O' W' F' c' s' hy hlt hg' hsub a w hs=>⟨m y,hlt,y,O',W',F',c',rfl,hy,hg',hsub a w hs⟩) a w hs
end
set_option maxRecDepth 100000
@[reducible] def Th (P:Program) (rd:Option Nat) (y:Code) (Q:Exit→Act→World→Prop):Exit→Act→World→Prop:=Exit.then (fun a w=>Code.wpR rd P y Q a w) Q
def c9c:List (Nat×TV)→Bool
 | []=>true
 | (_,.un _ _ _)::_=>false
 | (_,.v _)::r=>c9c r
structure Run (n:Nat) (G' G:Prop):Prop where h:G'→G
structure WSeq (C:Ctx) (P:Program) (ops:Array Oper) (l:List Oper) (s:HSt) (Q:Exit→Act→World→Prop):Prop where h:HSeq C P ops l s Q
structure WWp (C:Ctx) (P:Program) (c:Code) (s:HSt) (Q:Exit→Act→World→Prop):Prop where h:HWp C P c s Q
structure WQ (C:Ctx) (Q:Exit→Act→World→Prop) (e:Exit) (s:HSt):Prop where h:HQ C Q e s
structure WDr (P:Program) (n clk:Nat) (tm0:List (Nat×TV)) (hp0:List (Nat×HObj)) (L dn:List Oper) (ss:List HSpec) (rest:List Oper) (k:Nat) (tm:List (Nat×TV)) (hp:List (Nat×HObj)) (Fin:Prop):Prop where h:HDr P n clk tm0 hp0 L dn ss rest k tm hp Fin
theorem rg {n:Nat} {G' G G1:Prop} (h:G1→G) (k:Run n G' G1):Run (n+1) G' G:=⟨fun x=>h (k.h x)⟩
theorem rq_ {p q:Prop} (h:p→q:=by (intro h;first | rfl | cases h)):p→q:=h
theorem omg {p:Prop} (h:p:=by (first | exact Nat.le_of_ble_eq_true rfl | omega | (dsimp only;omega) | (simp only [hcs] at *;omega) | (simp <;> omega))):p:=h
theorem ckk {a b:Nat} (h:a=b:=by ((try simp only [Nat.add_assoc,Nat.reduceAdd]);exact rfl)):a=b:=h
section
variable {P:Program} {T:TypeId} {b:Bool} {s fo k n e:Nat} {z:List Value} {l:List (Nat×Nat)}
theorem iEl (h:ElI P T e s:=by infer_instance):elOf P T=some (e,s):=h.h
theorem iTy (h:TyI P T b s:=by infer_instance):tyOf P T=some (b,s):=h.h
theorem iFd (h:FdI P T k fo:=by infer_instance):fdOf P T k=some fo:=h.h
theorem iAl (h:AlI P T n s:=by infer_instance):arL P T=some (n,s):=h.h
theorem iSt (h:StI P T z l:=by infer_instance):stOf P T=some (z,l):=h.h
end
section
variable {ov:Nat→Option HV} {pl:List (Nat×Nat)} {sz i o s k:Nat} {x:Operand} {ps:List (Nat×Operand)} {hs:List (Nat×Nat×HV)} {h:HV} {l:List HV}
theorem po0:a3D ov pl sz [] []:=trivial
theorem po1 (h1:ovl ov x=some h) (h2:pl[i]?=some (o,s)) (h3:h.flat=true) (h4:h.wid=s) (h5:Nat.ble (o+s) sz=true) (r:a3D ov pl sz ps hs):a3D ov pl sz ((i,x)::ps) ((o,s,h)::hs):=⟨h1,h2,h3,h4,h5,r⟩
theorem poo (h:a3D ov pl sz ps hs:=by repeat (first | exact po0 | apply po1 rfl rfl rfl rfl rfl)):a3D ov pl sz ps hs:=h
theorem lo0:a4T ov sz k [] []:=trivial
theorem lo1 (h2:ovl ov x=some h) (h3:h.flat=true) (h4:h.wid=sz) (r:a4T ov sz (k+1) ps l):a4T ov sz k ((k,x)::ps) (h::l):=⟨rfl,h2,h3,h4,r⟩
theorem loo (h:a4T ov sz k ps l:=by repeat (first | exact lo0 | apply lo1 rfl rfl rfl)):a4T ov sz k ps l:=h
theorem oa0:a2m ov [] []:=trivial
theorem oa1 {xs:List Operand} (h1:ovl ov x=some h) (r:a2m ov xs l):a2m ov (x::xs) (h::l):=⟨h1,r⟩
theorem oaa {xs:List Operand} (h:a2m ov xs l:=by repeat (first | exact oa0 | apply oa1 rfl)):a2m ov xs l:=h
theorem lhh {z:Option Operand} {a d:Int} (h:z=none∧a=d∨∃ k y,z=some y∧ovl ov y=some (.imm (.int k a)):=by first | exact .inl ⟨rfl,rfl⟩ | exact .inr ⟨_,_,rfl,rfl⟩ | fail):z=none∧a=d∨∃ k y,z=some y∧ovl ov y=some (.imm (.int k a)):=h
end
section
variable {P:Program} {ov:Nat→Option HV} {g:Nat} {d:Option Tmp} {ty T:TypeId} {pos:String} {af:Array Edge} {gd:Option (Nat×Bool)} {x:Operand} {n s:Nat} {e:TypeId}
theorem c1T {l:List UInt8} (hE:P.underlying T=some .string) (h1:ovl ov x=some (strV l)):HOp P ⟨d,.call ⟨.builtin .len,#[x],#[T]⟩,ty,pos,af,gd⟩ ov g [] (intV (l.length:Int)) []:=b1Y rfl hE h1
theorem c7I {f:Nat→Nat→HV} (h1:ovl ov x=some (.sl s n f)) (hE:elOf P T=some (e,s)):HOp P ⟨d,.call ⟨.builtin .len,#[x],#[T]⟩,ty,pos,af,gd⟩ ov g [] (intV (n:Int)) []:=a2I rfl (a0L hE).1 h1
theorem c8c {id gg lo:Nat} (h1:ovl ov x=some (.os id gg lo n)) (hE:elOf P T=some (e,s)):HOp P ⟨d,.call ⟨.builtin .len,#[x],#[T]⟩,ty,pos,af,gd⟩ ov g [] (intV (n:Int)) []:=a3s rfl (a0L hE).1 h1
theorem c6y {A:Option Addr} {c:Nat} (h1:ovl ov x=some (.imm (.slice A n c))) (hE:elOf P T=some (e,s)):HOp P ⟨d,.call ⟨.builtin .len,#[x],#[T]⟩,ty,pos,af,gd⟩ ov g [] (intV (n:Int)) []:=a2z rfl (a0L hE).1 h1
end
section
variable {P:Program} {ov:Nat→Option HV} {g:Nat} {d:Option Tmp} {ty T yT:TypeId} {pos:String} {af:Array Edge} {gd:Option (Nat×Bool)} {x:Operand} {k k':IntKind} {lo hi a:Int}
theorem ik_ (h:IkI P T k:=by infer_instance):IkI P T k:=h
theorem d0B (h:WOk k lo hi:=by first | exact c6w | exact c0Q | exact b4E | exact c5q | exact b4x | exact c6D | fail):WOk k lo hi:=h
theorem c9i (hT:IkI P yT k') (w:WOk k' lo hi) (h1:ovl ov x=some (.imm (.int k a))) (hl:lo≤a) (hh:a≤hi) (hS:IkI P T k):HOp P ⟨d,.convert T yT x,ty,pos,af,gd⟩ ov g [] (.imm (.int k' a)) []:=c0o w hT.h (by rw [hS.h];rfl) h1 hl hh
theorem c9G (hT:IkI P yT k') (h1:ovl ov x=some (.imm (.int k a))) (hS:IkI P T k):HOp P ⟨d,.convert T yT x,ty,pos,af,gd⟩ ov g [] (.imm (.int k' (k'.wrap a))) []:=b6q hT.h (by rw [hS.h];rfl) h1
end
theorem hpA {P:Program} {o:Oper} {ov:Nat→Option HV} {g:Nat} {v:HV} (h:HOp P o ov g [] v []:=by first
 | (apply a3M;exact rfl)
 | (apply b0i;exact rfl)
 | (apply a9q;(iterate 2 exact rfl))
 | (apply b4F;(iterate 2 exact rfl))
 | (apply c5L;(iterate 2 exact rfl))
 | (apply c5s;(iterate 2 exact rfl))
 | (apply c4A;(iterate 2 exact rfl))
 | (apply c4z;(iterate 2 exact rfl))
 | (apply c5J;(iterate 2 exact rfl))
 | (apply c1C;(iterate 3 exact rfl);(iterate 2 exact omg))
 | (apply a4I;(iterate 3 exact rfl);(iterate 2 exact omg))
 | (apply c1I;(iterate 3 exact rfl);(iterate 2 exact omg))
 | (apply c5w;exact rfl)
 | (apply a6t;exact iEl;(iterate 2 exact rfl);(iterate 3 exact omg))
 | (apply a0r;exact iTy;exact rfl;exact omg;exact rq_)
 | (apply a9b;exact iFd;exact rfl;exact omg)
 | (apply b5m;exact iFd;exact rfl)
 | (apply a9v;exact rfl)
 | (apply a9A;exact rfl)
 | (apply c1T;exact kr;exact rfl)
 | (apply c7I;exact rfl;exact iEl)
 | (apply c8c;exact rfl;exact iEl)
 | (apply c6y;exact rfl;exact iEl)
 | (apply b3T;exact kr;(iterate 2 exact rfl);(iterate 2 exact omg))
 | (apply b2E;exact kr;exact rfl;(iterate 2 exact lhh);(iterate 3 exact omg))
 | (apply b0g;exact iEl;exact rfl;(iterate 2 exact lhh);(iterate 3 exact omg))
 | (apply b9s;(iterate 2 exact rfl))
 | (apply b8c;(iterate 2 exact rfl))
 | (apply c2V;(iterate 2 exact rfl);exact omg)
 | (apply c5h;exact (fun w=>kr);(iterate 2 exact rfl))
 | (apply c6n;exact (fun w=>kr);(iterate 2 exact rfl))
 | (apply c5l;(iterate 2 exact rfl))
 | (apply c4p;(iterate 2 exact rfl))
 | (apply b1D;exact c0Q;(iterate 3 exact rfl);(iterate 2 exact omg))
 | (apply b1D;exact b4x;(iterate 3 exact rfl);(iterate 2 exact omg))
 | (apply b1D;exact b4E;(iterate 3 exact rfl);(iterate 2 exact omg))
 | (apply b1R;exact c0Q;(iterate 3 exact rfl);(iterate 2 exact omg))
 | (apply b1R;exact b4x;(iterate 3 exact rfl);(iterate 2 exact omg))
 | (apply b1R;exact b4E;(iterate 3 exact rfl);(iterate 2 exact omg))
 | (apply c1j;(iterate 2 exact rfl))
 | (apply c6h;(iterate 2 exact rfl))
 | (apply c4I;(iterate 2 exact rfl);exact omg)
 | (apply c6b;(iterate 2 exact rfl);exact omg)
 | (apply c9i;exact ik_;exact d0B;exact rfl;(iterate 2 exact omg);exact ik_)
 | (apply c9G;exact ik_;exact rfl;exact ik_)
 | (apply b6S;exact iAl;(iterate 2 exact rfl);(iterate 2 exact omg))
 | (apply b7m;exact iAl;(iterate 2 exact rfl);(iterate 3 exact omg))
 | (apply c0M;exact iSt;(iterate 2 exact rfl);exact poo)
 | (apply b2A;exact oaa)
 | (apply b0B;exact rfl)
 | (apply b4m;exact kr;(iterate 2 exact rfl))
 | (apply a9p;exact kr;(iterate 2 exact rfl))
 | (apply a8N;exact kr;(iterate 2 exact rfl))
 | (apply b4z;exact kr;(iterate 2 exact rfl))
 | (apply b3Y;exact kr;(iterate 2 exact rfl))
 | (apply b4T;exact kr;(iterate 2 exact rfl))
 | (apply b9p;exact kr;exact rfl)
 | (apply a9J;exact kr;exact rfl)
 | (apply a9F;exact kr;exact rfl)
 | fail):HOp P o ov g [] v []:=h
section
variable {qq:Nat} {GG:Prop} {C:Ctx} {P:Program} {ops:Array Oper} {Q:Exit→Act→World→Prop} {n clk c':Nat} {tm:List (Nat×TV)} {hp:List (Nat×HObj)} {rest:List Oper} {v:HV} {d gi j:Nat} {op:Op} {ty T:TypeId} {pos:String} {af:Array Edge} {x y:Operand} {b c:Bool} {id gg i off s m sz fl lo:Nat} {oty:TypeId} {f:Nat→Nat→HV}
theorem cr_ {id:Nat} {l:List Oper} {s:HSt} (nd:C.rd=none∨l.all Oper.calm=true) (h:Run qq GG (WSeq C P l.toArray l s Q)):Run (qq+1) GG (WWp C P (.region id l.toArray false) s Q):=rg (fun h=>⟨c0q h.h nd⟩) h
theorem cu_ {tm':List (Nat×TV)} (hu:a7P tm=true) (ht:a5g tm []=tm') (h:Run qq GG (WQ C Q .normal ⟨n,tm',hp,clk⟩)):Run (qq+1) GG (WSeq C P ops [] ⟨n,tm,hp,clk⟩ Q):=rg (fun h=>⟨c0F hu ht h.h⟩) h
theorem zm (hx:ovl (a0I (tget tm)) x=some v) (hlt:Nat.blt d n=true) (hk:a0V tm d=true) (h:Run qq GG (WSeq C P ops rest ⟨n,(d,.v v)::tm,hp,clk⟩ Q)):Run (qq+1) GG (WSeq C P ops (⟨some d,.move x,ty,pos,af,none⟩::rest) ⟨n,tm,hp,clk⟩ Q):=rg (fun h=>⟨stm hx hlt hk h.h⟩) h
theorem za (hx:ovl (a0I (tget tm)) x=some v) (hlt:Nat.blt d n=true) (hk:a0V tm d=true) (h:Run qq GG (WSeq C P ops rest ⟨n,(d,.v v)::tm,hp,clk⟩ Q)):Run (qq+1) GG (WSeq C P ops (⟨some d,.assign x,ty,pos,af,none⟩::rest) ⟨n,tm,hp,clk⟩ Q):=rg (fun h=>⟨sta hx hlt hk h.h⟩) h
theorem cs_ {x y:Code} {s:HSt} (h:Run qq GG (WWp C P x s (Th P C.rd y Q))):Run (qq+1) GG (WWp C P (.seq x y) s Q):=rg (fun h=>⟨fun a w hs=>wpIn_seq (h.h a w hs)⟩) h
theorem ct_ {rd:Option Nat} {y:Code} {s:HSt} (hr:rd=C.rd) (h:Run qq GG (WWp C P y s Q)):Run (qq+1) GG (WQ C (Th P rd y Q) .normal s):=rg (fun h=>⟨by subst hr;exact h.h⟩) h
theorem cn_ {Q:Exit→Act→World→Prop} (hu:c9c tm=true) (h:Run qq GG (WQ C Q .normal ⟨n,tm,hp,clk⟩)):Run (qq+1) GG (WSeq C P ops [] ⟨n,tm,hp,clk⟩ Q):=rg (fun h=>⟨a3S h.h⟩) h
theorem wdc {s:HSt} {t:Nat} {cx cy:Code} {b:Bool} {p q:Prop} (h1:b=true→p→HWp C P cx s Q) (h2:b=false→q→HWp C P cy s Q) (hb:tget s.tm t=some (.v (.imm (.bool b))):=by exact rfl) (hp:(b=true)=p:=by (try simp only [hcs,Int.reduceToNat]);exact rfl) (hq:(b=false)=q:=by (try simp only [hcs,Int.reduceToNat]);exact rfl):HWp C P (.cond (.tmp t) cx cy) s Q :=
 c5Q b hb (fun h=>h1 h (hp▸h)) (fun h=>h2 h (hq▸h))
theorem zf {fo k:Nat} (hT:FdI P T k fo) (h1:ovl (a0I (tget tm)) x=some (.pt id gg i off)) (hlt:Nat.blt d n=true) (hk:a0V tm d=true) (h:Run qq GG (WSeq C P ops rest ⟨n,(d,.v (.pt id gg i (off+fo)))::tm,hp,clk⟩ Q)):Run (qq+1) GG (WSeq C P ops (⟨some d,.fieldAddr T x k,ty,pos,af,none⟩::rest) ⟨n,tm,hp,clk⟩ Q):=rg (fun h=>⟨sf hT.h h.h h1 hlt hk⟩) h
theorem zl (hT:TyI P T b s) (h1:ovl (a0I (tget tm)) x=some (.pt id gg i off)) (hid:hget hp id=some ⟨gg,m,sz,oty,fl,f⟩) (hi:i < m) (hoff:off+s≤sz) (hs:(b||Nat.beq s 1)=true) (hlt:Nat.blt d n=true) (hk:a0V tm d=true) (h:Run qq GG (WSeq C P ops rest ⟨n,(d,.v (ldv b s (f i) off))::tm,hp,clk⟩ Q)):Run (qq+1) GG (WSeq C P ops (⟨some d,.load T x,ty,pos,af,none⟩::rest) ⟨n,tm,hp,clk⟩ Q):=rg (fun h=>⟨st1 (a0D hT.h h1 hi hoff (fun e=>by subst e;simpa using hs)) hid hlt hk h.h⟩) h
theorem zw {hv:HV} (hT:TyI P T b s) (h1:ovl (a0I (tget tm)) x=some (.pt id gg 0 0)) (h2:ovl (a0I (tget tm)) y=some hv) (hf:hv.flat=true) (hw:hv.wid=s) (hid:hget hp id=some ⟨gg,1,s,oty,0,f⟩) (hc:clk+1=c') (h:Run qq GG (WSeq C P ops rest ⟨n,tm,(id,⟨gg,1,s,oty,0,fun _ j=>hv.cell j⟩)::hp,c'⟩ Q)):Run (qq+1) GG (WSeq C P ops (⟨none,.store T x y,ty,pos,af,none⟩::rest) ⟨n,tm,hp,clk⟩ Q):=rg (fun h=>⟨c1b (b0a hT.h h1 h2 hf hw) rfl rfl (a0P hid) hc h.h⟩) h
theorem zs {hv:HV} (hT:TyI P T b s) (h1:ovl (a0I (tget tm)) x=some (.pt id gg i off)) (h2:ovl (a0I (tget tm)) y=some hv) (hf:hv.flat=true) (hw:hv.wid=s) (hid:hget hp id=some ⟨gg,m,sz,oty,fl,f⟩) (hi:i < m) (hfl:fl≤i) (hoff:off+s≤sz) (hc:clk+1=c') (h:Run qq GG (WSeq C P ops rest ⟨n,tm,(id,⟨gg,m,sz,oty,fl,upd f i off s (fun j=>hv.cell j)⟩)::hp,c'⟩ Q)):Run (qq+1) GG (WSeq C P ops (⟨none,.store T x y,ty,pos,af,none⟩::rest) ⟨n,tm,hp,clk⟩ Q):=rg (fun h=>⟨c1b (b2V hT.h h1 h2 hf hw hi hfl hoff) rfl rfl (a0P hid) hc h.h⟩) h
theorem zi {e:TypeId} {k:IntKind} {a:Int} (hT:ElI P T e s) (h1:ovl (a0I (tget tm)) x=some (.os id gg lo i)) (h2:ovl (a0I (tget tm)) y=some (.imm (.int k a))) (hid:hget hp id=some ⟨gg,m,s,oty,fl,f⟩) (ha:0≤a) (hi:a < i) (hlt:Nat.blt d n=true) (hk:a0V tm d=true) (h:Run qq GG (WSeq C P ops rest ⟨n,(d,.v (.pt id gg (lo+a.toNat) 0))::tm,hp,clk⟩ Q)):Run (qq+1) GG (WSeq C P ops (⟨some d,.indexAddr T x y,ty,pos,af,none⟩::rest) ⟨n,tm,hp,clk⟩ Q):=rg (fun h=>⟨st1 (a4l hT.h h1 h2 ha hi) hid hlt hk h.h⟩) h
theorem zc {e:TypeId} {z w:Option Operand} {a t:Int} (hT:ElI P T e s) (h1:ovl (a0I (tget tm)) x=some (.os id gg lo i)) (hid:hget hp id=some ⟨gg,m,s,oty,fl,f⟩) (hl:z=none∧a=0∨∃ k q,z=some q∧ovl (a0I (tget tm)) q=some (.imm (.int k a))) (hh:w=none∧t=i∨∃ k q,w=some q∧ovl (a0I (tget tm)) q=some (.imm (.int k t))) (h0:0≤a) (hlh:a≤t) (hn:t≤i) (hlt:Nat.blt d n=true) (hk:a0V tm d=true) (h:Run qq GG (WSeq C P ops rest ⟨n,(d,.v (.os id gg (lo+a.toNat) (t - a).toNat))::tm,hp,clk⟩ Q)):Run (qq+1) GG (WSeq C P ops (⟨some d,.slice T x z w none,ty,pos,af,none⟩::rest) ⟨n,tm,hp,clk⟩ Q):=rg (fun h=>⟨st1 (a9X hT.h h1 hl hh h0 hlh hn) hid hlt hk h.h⟩) h
theorem zA {e:TypeId} {r k t q:Nat} {fn:Nat→Nat→HV} (hT:EiI P T e s r) (h1:ovl (a0I (tget tm)) x=some (.os id gg 0 m)) (h2:ovl (a0I (tget tm)) y=some (.sl s k fn)) (hid:hget hp id=some ⟨gg,t,s,e,fl,f⟩) (hr:r≤1000) (hm:m≤t) (hfl:fl≤m) (hk:m+k≤2000000000) (hq:m+k=q) (hlt:Nat.blt d n=true) (hn:a0V tm d=true) (hc:clk+1=c') (h:Run qq GG (WSeq C P ops rest ⟨n,(d,.v (.os id clk 0 q))::tm,(id,⟨clk,q,s,e,fl,cat m f fn⟩)::hp,c'⟩ Q)):Run (qq+1) GG (WSeq C P ops (⟨some d,.call ⟨.builtin .append,#[x,y],#[T,T]⟩,ty,pos,af,none⟩::rest) ⟨n,tm,hp,clk⟩ Q):=rg (fun h=>⟨a0u d (a0a hT.h hr h1 hm hfl (a0O h2) hk hq) rfl rfl (a0i hid a0g) hlt hn hc h.h⟩) h
theorem zB {e:TypeId} {r k t q g2 m2 sz2 fl2 id2:Nat} {oty2:TypeId} {fn:Nat→Nat→HV} (hT:EiI P T e s r) (h1:ovl (a0I (tget tm)) x=some (.os id gg 0 m)) (h2:ovl (a0I (tget tm)) y=some (.os id2 g2 0 k)) (hid:hget hp id=some ⟨gg,t,s,e,fl,f⟩) (hid2:hget hp id2=some ⟨g2,m2,s,oty2,fl2,fn⟩) (hr:r≤1000) (hm:m≤t) (hfl:fl≤m) (hm2:k≤m2) (hk:m+k≤2000000000) (hq:m+k=q) (hlt:Nat.blt d n=true) (hn:a0V tm d=true) (hc:clk+1=c') (h:Run qq GG (WSeq C P ops rest ⟨n,(d,.v (.os id clk 0 q))::tm,(id,⟨clk,q,s,e,fl,cat m f fn⟩)::hp,c'⟩ Q)):Run (qq+1) GG (WSeq C P ops (⟨some d,.call ⟨.builtin .append,#[x,y],#[T,T]⟩,ty,pos,af,none⟩::rest) ⟨n,tm,hp,clk⟩ Q):=rg (fun h=>⟨a0u d (a0a hT.h hr h1 hm hfl (a0x h2 hm2) hk hq) rfl rfl (a0i hid (a0P hid2)) hlt hn hc h.h⟩) h
theorem zb {hv:HV} (hT:TyI P T b sz) (h1:ovl (a0I (tget tm)) x=some hv) (hf:hv.flat=true) (hw:hv.wid=sz) (hp0:0 < sz) (hm:sz≤1000000) (hlt:Nat.blt d n=true) (hk:a0V tm d=true) (hc:clk+1=c') (h:Run qq GG (WSeq C P ops rest ⟨n,(d,.v (.pt d clk 0 0))::tm,(d,⟨clk,1,sz,T,0,fun _ j=>hv.cell j⟩)::hp,c'⟩ Q)):Run (qq+1) GG (WSeq C P ops (⟨some d,.box T x,ty,pos,af,none⟩::rest) ⟨n,tm,hp,clk⟩ Q):=rg (fun h=>⟨a0u d (a6k h1 hf hw hp0 hm) rfl rfl a0g hlt hk hc h.h⟩) h
theorem zo {cs:List Value} (hT:ZcI P T cs) (hY:TyI P T b sz) (hsz:cs.length=sz) (h1:cs.all (·.oneCell')=true) (hp0:0 < sz) (hm:sz≤1000000) (hlt:Nat.blt d n=true) (hk:a0V tm d=true) (hc:clk+1=c') (h:Run qq GG (WSeq C P ops rest ⟨n,(d,.v (.pt d clk 0 0))::tm,(d,⟨clk,1,sz,T,0,fun _ j=>.imm (cs.getD j undef)⟩)::hp,c'⟩ Q)):Run (qq+1) GG (WSeq C P ops (⟨some d,.alloc T,ty,pos,af,none⟩::rest) ⟨n,tm,hp,clk⟩ Q):=rg (fun h=>⟨a0u d (a0T hT.h hsz h1 hp0 hm) rfl rfl a0g hlt hk hc h.h⟩) h
theorem zv {e:TypeId} {r t:Nat} {ps:List (Nat×Operand)} {hs:List HV} (hT:EiI P T e s r) (hps:a4T (a0I (tget tm)) s 0 ps hs) (hs0:0 < s) (hn:hs.length=t) (hsm:t * s≤16777216) (hlt:Nat.blt d n=true) (hk:a0V tm d=true) (hc:clk+1=c') (h:Run qq GG (WSeq C P ops rest ⟨n,(d,.v (.os d clk 0 t))::tm,(d,⟨clk,t,s,e,0,bsf hs⟩)::hp,c'⟩ Q)):Run (qq+1) GG (WSeq C P ops (⟨some d,.buildSlice T t ps.toArray,ty,pos,af,none⟩::rest) ⟨n,tm,hp,clk⟩ Q):=rg (fun h=>⟨a0u d (a0b hT.h hs0 hn hsm hps) rfl rfl a0g hlt hk hc h.h⟩) h
theorem z0 (hop:HOp P ⟨some d,op,ty,pos,af,none⟩ (a0I (tget tm)) clk [] v []) (hlt:Nat.blt d n=true) (hk:a0V tm d=true) (h:Run qq GG (WSeq C P ops rest ⟨n,(d,.v v)::tm,hp,clk⟩ Q)):Run (qq+1) GG (WSeq C P ops (⟨some d,op,ty,pos,af,none⟩::rest) ⟨n,tm,hp,clk⟩ Q):=rg (fun h=>⟨st0 hop hlt hk h.h⟩) h
theorem zp {need:List Nat} {z:Operand} (hst:HStep P ops ⟨some d,.pick x y z,ty,pos,af,none⟩ (tget tm) clk ⟨.v v,need,[],[]⟩) (hlt:Nat.blt d n=true) (hk:a0V tm d=true) (h:Run qq GG (WSeq C P ops rest ⟨n,(d,.v v)::tm,hp,clk⟩ Q)):Run (qq+1) GG (WSeq C P ops (⟨some d,.pick x y z,ty,pos,af,none⟩::rest) ⟨n,tm,hp,clk⟩ Q):=rg (fun h=>⟨d0s d hst rfl hlt hk h.h⟩) h
theorem ym (hgi:(ops[gi]?).bind (·.dst)=some j) (hc:tget tm j=some (.v (.imm (.bool c)))) (hx:ovl (a1L (tget tm) j b) x=some v) (hlt:Nat.blt d n=true) (hk:a0V tm d=true) (hjd:Nat.beq j d=false) (h:Run qq GG (WSeq C P ops rest ⟨n,(d,.un j b v)::tm,hp,clk⟩ Q)):Run (qq+1) GG (WSeq C P ops (⟨some d,.move x,ty,pos,af,some (gi,b)⟩::rest) ⟨n,tm,hp,clk⟩ Q):=rg (fun h=>⟨gm j h.h hx hgi hc hlt hk hjd⟩) h
theorem y0 (hgi:(ops[gi]?).bind (·.dst)=some j) (hc:tget tm j=some (.v (.imm (.bool c)))) (hop:c=b→HOp P ⟨some d,op,ty,pos,af,some (gi,b)⟩ (a1L (tget tm) j b) clk [] v []) (hlt:Nat.blt d n=true) (hk:a0V tm d=true) (hjd:Nat.beq j d=false) (h:Run qq GG (WSeq C P ops rest ⟨n,(d,.un j b v)::tm,hp,clk⟩ Q)):Run (qq+1) GG (WSeq C P ops (⟨some d,op,ty,pos,af,some (gi,b)⟩::rest) ⟨n,tm,hp,clk⟩ Q):=rg (fun h=>⟨stg j hop hgi hc hlt hk hjd h.h⟩) h
theorem y3 {j2:Nat} {b2 c2:Bool} (hgi:(ops[gi]?).bind (·.dst)=some j) (hc:tget tm j=some (.un j2 b2 (.imm (.bool c)))) (hc2:tget tm j2=some (.v (.imm (.bool c2)))) (hop:c=b→c2=b2→HOp P ⟨some d,op,ty,pos,af,some (gi,b)⟩ (a1L (tget tm) j b) clk [] v []) (hlt:Nat.blt d n=true) (hk:a0V tm d=true) (hjd:Nat.beq j d=false) (h:Run qq GG (WSeq C P ops rest ⟨n,(d,.un j b v)::tm,hp,clk⟩ Q)):Run (qq+1) GG (WSeq C P ops (⟨some d,op,ty,pos,af,some (gi,b)⟩::rest) ⟨n,tm,hp,clk⟩ Q):=rg (fun h=>⟨a4P d gi j j2 b2 b c c2 hop rfl rfl hgi hc hc2 a0g hlt hk hjd h.h⟩) h
theorem y2 {j2:Nat} {b2:Bool} (hgi:(ops[gi]?).bind (·.dst)=some j) (hc:tget tm j=some (.un j2 b2 (.imm (.bool c)))) (hop:c=b→HOp P ⟨some d,op,ty,pos,af,some (gi,b)⟩ (a1L (tget tm) j b) clk [] v []) (hlt:Nat.blt d n=true) (hk:a0V tm d=true) (hjd:Nat.beq j d=false) (h:Run qq GG (WSeq C P ops rest ⟨n,(d,.un j b v)::tm,hp,clk⟩ Q)):Run (qq+1) GG (WSeq C P ops (⟨some d,op,ty,pos,af,some (gi,b)⟩::rest) ⟨n,tm,hp,clk⟩ Q):=rg (fun h=>⟨sth j hop hgi hc hlt hk hjd h.h⟩) h
theorem yl {b2:Bool} (hT:TyI P T b s) (hgi:(ops[gi]?).bind (·.dst)=some j) (hc:tget tm j=some (.v (.imm (.bool c)))) (h1:ovl (a1L (tget tm) j b2) x=some (.pt id gg i off)) (hid:hget hp id=some ⟨gg,m,sz,oty,fl,f⟩) (hi:c=b2→i < m) (hoff:off+s≤sz) (hs:(b||Nat.beq s 1)=true) (hlt:Nat.blt d n=true) (hk:a0V tm d=true) (hjd:Nat.beq j d=false) (h:Run qq GG (WSeq C P ops rest ⟨n,(d,.un j b2 (ldv b s (f i) off))::tm,hp,clk⟩ Q)):Run (qq+1) GG (WSeq C P ops (⟨some d,.load T x,ty,pos,af,some (gi,b2)⟩::rest) ⟨n,tm,hp,clk⟩ Q):=rg (fun h=>⟨c3o d gi j b2 c (fun hb=>a0D hT.h h1 (hi hb) hoff (fun e=>by subst e;simpa using hs)) rfl rfl hgi hc (a0P hid) hlt hk hjd h.h⟩) h
theorem yi {e:TypeId} {k:IntKind} {a:Int} (hT:ElI P T e s) (hgi:(ops[gi]?).bind (·.dst)=some j) (hc:tget tm j=some (.v (.imm (.bool c)))) (h1:ovl (a1L (tget tm) j b) x=some (.os id gg lo i)) (h2:ovl (a1L (tget tm) j b) y=some (.imm (.int k a))) (hid:hget hp id=some ⟨gg,m,s,oty,fl,f⟩) (ha:c=b→0≤a∧a < i) (hlt:Nat.blt d n=true) (hk:a0V tm d=true) (hjd:Nat.beq j d=false) (h:Run qq GG (WSeq C P ops rest ⟨n,(d,.un j b (.pt id gg (lo+a.toNat) 0))::tm,hp,clk⟩ Q)):Run (qq+1) GG (WSeq C P ops (⟨some d,.indexAddr T x y,ty,pos,af,some (gi,b)⟩::rest) ⟨n,tm,hp,clk⟩ Q):=rg (fun h=>⟨c3o d gi j b c (fun hb=>a4l hT.h h1 h2 (ha hb).1 (ha hb).2) rfl rfl hgi hc (a0P hid) hlt hk hjd h.h⟩) h
theorem yl3 {j2:Nat} {b2 b3 c2:Bool} (hT:TyI P T b s) (hgi:(ops[gi]?).bind (·.dst)=some j) (hc:tget tm j=some (.un j2 b3 (.imm (.bool c)))) (hc2:tget tm j2=some (.v (.imm (.bool c2)))) (h1:ovl (a1L (tget tm) j b2) x=some (.pt id gg i off)) (hid:hget hp id=some ⟨gg,m,sz,oty,fl,f⟩) (hi:c=b2→c2=b3→i < m) (hoff:off+s≤sz) (hs:(b||Nat.beq s 1)=true) (hlt:Nat.blt d n=true) (hk:a0V tm d=true) (hjd:Nat.beq j d=false) (h:Run qq GG (WSeq C P ops rest ⟨n,(d,.un j b2 (ldv b s (f i) off))::tm,hp,clk⟩ Q)):Run (qq+1) GG (WSeq C P ops (⟨some d,.load T x,ty,pos,af,some (gi,b2)⟩::rest) ⟨n,tm,hp,clk⟩ Q):=rg (fun h=>⟨a4P d gi j j2 b3 b2 c c2 (fun hb hb2=>a0D hT.h h1 (hi hb hb2) hoff (fun e=>by subst e;simpa using hs)) rfl rfl hgi hc hc2 (a0P hid) hlt hk hjd h.h⟩) h
theorem yp {need:List Nat} {z:Operand} (hgi:(ops[gi]?).bind (·.dst)=some j) (hst:HStep P ops ⟨some d,.pick x y z,ty,pos,af,some (gi,b)⟩ (tget tm) clk ⟨.un j b v,need,[],[]⟩) (hlt:Nat.blt d n=true) (hk:a0V tm d=true) (hjd:Nat.beq j d=false) (h:Run qq GG (WSeq C P ops rest ⟨n,(d,.un j b v)::tm,hp,clk⟩ Q)):Run (qq+1) GG (WSeq C P ops (⟨some d,.pick x y z,ty,pos,af,some (gi,b)⟩::rest) ⟨n,tm,hp,clk⟩ Q):=rg (fun h=>⟨c9X d hst rfl hlt hk hjd h.h⟩) h
theorem ch_ {s:HSt} {N:Act→World→Prop} {id:Nat} (h:Run qq GG (WQ C Q (.exit id) s)):Run (qq+1) GG (WQ C (Exit.then N Q) (.exit id) s):=rg (fun h=>⟨h.h⟩) h
theorem cq_ {s:HSt} {N:Act→World→Prop} (h:Run qq GG (WQ C Q .ret s)):Run (qq+1) GG (WQ C (Exit.then N Q) .ret s):=rg (fun h=>⟨h.h⟩) h
theorem cb_ {s:HSt} {id:Nat} (h:Run qq GG (WQ C Q .normal s)):Run (qq+1) GG (WQ C (Exit.inBlock id Q) .normal s):=rg (fun h=>⟨h.h⟩) h
theorem cv_ {s:HSt} {id:Nat} (h:Run qq GG (WQ C Q .ret s)):Run (qq+1) GG (WQ C (Exit.inBlock id Q) .ret s):=rg (fun h=>⟨h.h⟩) h
theorem ci_ {s:HSt} {id:Nat} (h:Run qq GG (WQ C Q .normal s)):Run (qq+1) GG (WQ C (Exit.inBlock id Q) (.exit id) s):=rg (fun h=>⟨b1t h.h⟩) h
theorem co_ {s:HSt} {id id':Nat} (hne:Nat.beq id' id=false) (h:Run qq GG (WQ C Q (.exit id') s)):Run (qq+1) GG (WQ C (Exit.inBlock id Q) (.exit id') s):=rg (fun h=>⟨b3N hne h.h⟩) h
theorem ck_ {s:HSt} (h:Run qq GG (WQ C Q .normal s)):Run (qq+1) GG (WWp C P .skip s Q):=rg (fun h=>⟨c5r h.h⟩) h
theorem ce_ {s:HSt} {id:Nat} (h:Run qq GG (WQ C Q (.exit id) s)):Run (qq+1) GG (WWp C P (.exit id) s Q):=rg (fun h=>⟨c4H h.h⟩) h
theorem cw_ {s:HSt} (h:Run qq GG (WQ C Q .ret s)):Run (qq+1) GG (WWp C P .ret s Q):=rg (fun h=>⟨c7K h.h⟩) h
theorem cl_ {s:HSt} {id:Nat} {c:Code} (h:Run qq GG (WWp C P c s (Exit.inBlock id Q))):Run (qq+1) GG (WWp C P (.block id c) s Q):=rg (fun h=>⟨c1d h.h⟩) h
theorem cd_ {l:List Oper} {id:Nat} (h:Run qq GG (WDr P n clk tm hp l [] [] l 0 tm hp (HWp C P (.region id l.toArray true) ⟨n,tm,hp,clk⟩ Q))):Run (qq+1) GG (WWp C P (.region id l.toArray true) ⟨n,tm,hp,clk⟩ Q):=rg (fun h=>⟨c1t h.h⟩) h
theorem e1 {m:Nat} {G:Prop} {l:List Oper} {s:HSt} (h:Run m G (WSeq C P ops l s Q)):Run m G (HSeq C P ops l s Q):=⟨fun x=>(h.h x).h⟩
theorem e2 {m:Nat} {G:Prop} {c:Code} {s:HSt} (h:Run m G (WWp C P c s Q)):Run m G (HWp C P c s Q):=⟨fun x=>(h.h x).h⟩
theorem e3 {m:Nat} {G:Prop} {e:Exit} {s:HSt} (h:Run m G (WQ C Q e s)):Run m G (HQ C Q e s):=⟨fun x=>(h.h x).h⟩
theorem f1 {l:List Oper} {s:HSt}:Run 0 (HSeq C P ops l s Q) (WSeq C P ops l s Q):=⟨fun x=>⟨x⟩⟩
theorem f2 {c:Code} {s:HSt}:Run 0 (HWp C P c s Q) (WWp C P c s Q):=⟨fun x=>⟨x⟩⟩
theorem f3 {e:Exit} {s:HSt}:Run 0 (HQ C Q e s) (WQ C Q e s):=⟨fun x=>⟨x⟩⟩
end
section
variable {qq:Nat} {GG:Prop} {C:Ctx} {P:Program} {Q:Exit→Act→World→Prop} {n clk k k' c':Nat} {tm0 tm:List (Nat×TV)} {hp0 hp:List (Nat×HObj)} {ss:List HSpec} {Fin:Prop} {rest dn L:List Oper} {v:HV} {d gi j:Nat} {op:Op} {ty T:TypeId} {pos:String} {af:Array Edge} {x y:Operand} {b c:Bool} {id gg i off s m sz fl lo:Nat} {oty:TypeId} {f:Nat→Nat→HV}
theorem xm (hx:ovl (a0I (tget tm)) x=some v) (hlt:Nat.blt d n=true) (hk':k+1=k') (h:Run qq GG (WDr P n clk tm0 hp0 L (dn++[⟨some d,.move x,ty,pos,af,none⟩]) (ss++[⟨.v v,a0C ⟨some d,.move x,ty,pos,af,none⟩,[],[]⟩]) rest k' ((d,.v v)::tm) hp Fin)):Run (qq+1) GG (WDr P n clk tm0 hp0 L dn ss (⟨some d,.move x,ty,pos,af,none⟩::rest) k tm hp Fin):=rg (fun h=>⟨dm k' h.h hx hlt hk'⟩) h
theorem xl (hT:TyI P T b s) (h1:ovl (a0I (tget tm)) x=some (.pt id gg i off)) (hid:hget hp id=some ⟨gg,m,sz,oty,fl,f⟩) (hi:i < m) (hoff:off+s≤sz) (hs:(b||Nat.beq s 1)=true) (hlt:Nat.blt d n=true) (hk':k+1=k') (h:Run qq GG (WDr P n clk tm0 hp0 L (dn++[⟨some d,.load T x,ty,pos,af,none⟩]) (ss++[⟨.v (ldv b s (f i) off),a0C ⟨some d,.load T x,ty,pos,af,none⟩,[(id,⟨gg,m,sz,oty,fl,f⟩)],[]⟩]) rest k' ((d,.v (ldv b s (f i) off))::tm) hp Fin)):Run (qq+1) GG (WDr P n clk tm0 hp0 L dn ss (⟨some d,.load T x,ty,pos,af,none⟩::rest) k tm hp Fin):=rg (fun h=>⟨a3I d (a0D hT.h h1 hi hoff (fun e=>by subst e;simpa using hs)) rfl rfl (a0P hid) hlt rfl hk' h.h⟩) h
theorem xi {e:TypeId} {q:IntKind} {a:Int} (hT:ElI P T e s) (h1:ovl (a0I (tget tm)) x=some (.os id gg lo i)) (h2:ovl (a0I (tget tm)) y=some (.imm (.int q a))) (hid:hget hp id=some ⟨gg,m,s,oty,fl,f⟩) (ha:0≤a) (hi:a < i) (hlt:Nat.blt d n=true) (hk':k+1=k') (h:Run qq GG (WDr P n clk tm0 hp0 L (dn++[⟨some d,.indexAddr T x y,ty,pos,af,none⟩]) (ss++[⟨.v (.pt id gg (lo+a.toNat) 0),a0C ⟨some d,.indexAddr T x y,ty,pos,af,none⟩,[(id,⟨gg,m,s,oty,fl,f⟩)],[]⟩]) rest k' ((d,.v (.pt id gg (lo+a.toNat) 0))::tm) hp Fin)):Run (qq+1) GG (WDr P n clk tm0 hp0 L dn ss (⟨some d,.indexAddr T x y,ty,pos,af,none⟩::rest) k tm hp Fin):=rg (fun h=>⟨a3I d (a4l hT.h h1 h2 ha hi) rfl rfl (a0P hid) hlt rfl hk' h.h⟩) h
theorem xw {hv:HV} (hT:TyI P T b s) (h1:ovl (a0I (tget tm)) x=some (.pt id gg 0 0)) (h2:ovl (a0I (tget tm)) y=some hv) (hf:hv.flat=true) (hw:hv.wid=s) (hid:hget hp id=some ⟨gg,1,s,oty,0,f⟩) (hk':k+1=k') (h:Run qq GG (WDr P n clk tm0 hp0 L (dn++[⟨none,.store T x y,ty,pos,af,none⟩]) (ss++[⟨.v (.imm undef),a0C ⟨none,.store T x y,ty,pos,af,none⟩,[(id,⟨gg,1,s,oty,0,f⟩)],[(id,⟨gg,1,s,oty,0,fun _ j=>hv.cell j⟩)]⟩]) rest k' tm ((id,⟨gg,1,s,oty,0,fun _ j=>hv.cell j⟩)::hp) Fin)):Run (qq+1) GG (WDr P n clk tm0 hp0 L dn ss (⟨none,.store T x y,ty,pos,af,none⟩::rest) k tm hp Fin):=rg (fun h=>⟨c5t (b0a hT.h h1 h2 hf hw) rfl rfl (a0P hid) hk' h.h⟩) h
theorem xs {hv:HV} (hT:TyI P T b s) (h1:ovl (a0I (tget tm)) x=some (.pt id gg i off)) (h2:ovl (a0I (tget tm)) y=some hv) (hf:hv.flat=true) (hw:hv.wid=s) (hid:hget hp id=some ⟨gg,m,sz,oty,fl,f⟩) (hi:i < m) (hfl:fl≤i) (hoff:off+s≤sz) (hk':k+1=k') (h:Run qq GG (WDr P n clk tm0 hp0 L (dn++[⟨none,.store T x y,ty,pos,af,none⟩]) (ss++[⟨.v (.imm undef),a0C ⟨none,.store T x y,ty,pos,af,none⟩,[(id,⟨gg,m,sz,oty,fl,f⟩)],[(id,⟨gg,m,sz,oty,fl,upd f i off s (fun j=>hv.cell j)⟩)]⟩]) rest k' tm ((id,⟨gg,m,sz,oty,fl,upd f i off s (fun j=>hv.cell j)⟩)::hp) Fin)):Run (qq+1) GG (WDr P n clk tm0 hp0 L dn ss (⟨none,.store T x y,ty,pos,af,none⟩::rest) k tm hp Fin):=rg (fun h=>⟨c5t (b2V hT.h h1 h2 hf hw hi hfl hoff) rfl rfl (a0P hid) hk' h.h⟩) h
theorem x0 (hop:HOp P ⟨some d,op,ty,pos,af,none⟩ (a0I (tget tm)) (clk+k) [] v []) (hlt:Nat.blt d n=true) (hk':k+1=k') (h:Run qq GG (WDr P n clk tm0 hp0 L (dn++[⟨some d,op,ty,pos,af,none⟩]) (ss++[⟨.v v,a0C ⟨some d,op,ty,pos,af,none⟩,[],[]⟩]) rest k' ((d,.v v)::tm) hp Fin)):Run (qq+1) GG (WDr P n clk tm0 hp0 L dn ss (⟨some d,op,ty,pos,af,none⟩::rest) k tm hp Fin):=rg (fun h=>⟨d0 k' hop h.h hlt hk'⟩) h
theorem xp {need:List Nat} {z:Operand} (hst:HStep P L.toArray ⟨some d,.pick x y z,ty,pos,af,none⟩ (tget tm) (clk+k) ⟨.v v,need,[],[]⟩) (hlt:Nat.blt d n=true) (hk':k+1=k') (h:Run qq GG (WDr P n clk tm0 hp0 L (dn++[⟨some d,.pick x y z,ty,pos,af,none⟩]) (ss++[⟨.v v,need,[],[]⟩]) rest k' ((d,.v v)::tm) hp Fin)):Run (qq+1) GG (WDr P n clk tm0 hp0 L dn ss (⟨some d,.pick x y z,ty,pos,af,none⟩::rest) k tm hp Fin):=rg (fun h=>⟨d0C d hst rfl hlt rfl hk' h.h⟩) h
theorem xg (hgi:(L.toArray[gi]?).bind (·.dst)=some j) (hc:tget tm j=some (.v (.imm (.bool c)))) (hop:c=b→HOp P ⟨some d,op,ty,pos,af,some (gi,b)⟩ (a1L (tget tm) j b) (clk+k) [] v []) (hlt:Nat.blt d n=true) (hk':k+1=k') (h:Run qq GG (WDr P n clk tm0 hp0 L (dn++[⟨some d,op,ty,pos,af,some (gi,b)⟩]) (ss++[⟨.un j b v,j::a0C ⟨some d,op,ty,pos,af,some (gi,b)⟩,[],[]⟩]) rest k' ((d,.un j b v)::tm) hp Fin)):Run (qq+1) GG (WDr P n clk tm0 hp0 L dn ss (⟨some d,op,ty,pos,af,some (gi,b)⟩::rest) k tm hp Fin):=rg (fun h=>⟨a8b d gi j b c hop rfl rfl hgi hc a0g hlt rfl rfl hk' h.h⟩) h
theorem xn {id:Nat} {l:List Oper} (hu:c9c tm=true) (hm:P.follows .mixedOrders=true) (hc:c5M l ss tm0=true) (hc':clk+k=c') (nd:C.rd=none∨l.all Oper.calm=true) (h:Run qq GG (WQ C Q .normal ⟨n,tm,hp,c'⟩)):Run (qq+1) GG (WDr P n clk tm0 hp0 l dn ss [] k tm hp (HWp C P (.region id l.toArray true) ⟨n,tm0,hp0,clk⟩ Q)):=rg (fun h=>⟨a8K hm hc hc' h.h nd⟩) h
theorem e4 {m:Nat} {G:Prop} (h:Run m G (WDr P n clk tm0 hp0 L dn ss rest k tm hp Fin)):Run m G (HDr P n clk tm0 hp0 L dn ss rest k tm hp Fin):=⟨fun x=>(h.h x).h⟩
theorem f4:Run 0 (HDr P n clk tm0 hp0 L dn ss rest k tm hp Fin) (WDr P n clk tm0 hp0 L dn ss rest k tm hp Fin):=⟨fun x=>⟨x⟩⟩
end
theorem ru (n:Nat) {G' G:Prop} (k:G') (h:Run n G' G:=by ((with_reducible first | apply e1 | apply e2 | apply e3 | apply e4);repeat (first
 | exact f1
 | exact f2
 | exact f3
 | exact f4
 | (apply zm;(iterate 3 exact rfl))
 | (apply za;(iterate 3 exact rfl))
 | apply cs_
 | (apply cr_;(first | exact .inr rfl | exact .inl rfl | exact .inl (by assumption)))
 | (apply cn_;exact rfl)
 | (apply cu_;exact rfl;(simp only [a5g,a7q];exact rfl))
 | (apply ct_;exact rfl)
 | apply ck_
 | apply ce_
 | apply cw_
 | apply cl_
 | apply ch_
 | apply cq_
 | apply cb_
 | apply cv_
 | apply ci_
 | (apply co_;exact rfl)
 | apply cd_
 | (apply zf;infer_instance;(iterate 3 exact rfl))
 | (apply zl;infer_instance;(iterate 2 exact rfl);(iterate 2 exact omg);(iterate 3 exact rfl))
 | (apply zw;infer_instance;(iterate 5 exact rfl);exact ckk)
 | (apply zs;infer_instance;(iterate 5 exact rfl);(iterate 3 exact omg);exact ckk)
 | (apply zi;infer_instance;(iterate 3 exact rfl);(iterate 2 exact omg);(iterate 2 exact rfl))
 | (apply zc;infer_instance;(iterate 2 exact rfl);(iterate 2 exact lhh);(iterate 3 exact omg);(iterate 2 exact rfl))
 | (apply zA;infer_instance;(iterate 3 exact rfl);exact nb rfl;(iterate 3 exact omg);(iterate 3 exact rfl);exact ckk)
 | (apply zB;infer_instance;(iterate 4 exact rfl);exact nb rfl;(iterate 4 exact omg);(iterate 3 exact rfl);exact ckk)
 | (apply zb;infer_instance;(iterate 3 exact rfl);(iterate 2 exact nb rfl);(iterate 2 exact rfl);exact ckk)
 | (apply zo;(iterate 2 infer_instance);(iterate 2 exact rfl);(iterate 2 exact nb rfl);(iterate 2 exact rfl);exact ckk)
 | (apply zv;infer_instance;exact loo;exact nb rfl;exact rfl;exact nb rfl;(iterate 2 exact rfl);exact ckk)
 | (apply zp;(first | exact b3t _ _ rfl rfl rfl | exact b5G _ _ rfl rfl rfl | exact a5x _ _ _ _ rfl rfl rfl (fun _=>.refl _) (fun _=>.refl _) | fail);(iterate 2 exact rfl))
 | (apply z0;exact hpA;(iterate 2 exact rfl))
 | (apply ym;(iterate 6 exact rfl))
 | (apply yl;infer_instance;(iterate 4 exact rfl);(intro hb;exact omg);exact omg;(iterate 4 exact rfl))
 | (apply yl3;infer_instance;(iterate 5 exact rfl);(intro hb hb2;exact omg);exact omg;(iterate 4 exact rfl))
 | (apply yi;infer_instance;(iterate 5 exact rfl);(intro hb;exact ⟨omg,omg⟩);(iterate 3 exact rfl))
 | (apply yp;exact rfl;(first | exact b0m _ _ rfl rfl rfl rfl | exact b2B _ _ rfl rfl rfl rfl | exact a4C _ _ _ _ rfl rfl rfl rfl (fun _=>.refl _) (fun _=>.refl _) | fail);(iterate 3 exact rfl))
 | (apply y0;(iterate 2 exact rfl);(intro hb;exact hpA);(iterate 3 exact rfl))
 | (apply y3;(iterate 3 exact rfl);(intro hb hb2;exact hpA);(iterate 3 exact rfl))
 | (apply y2;(iterate 2 exact rfl);(intro hb;exact hpA);(iterate 3 exact rfl))
 | (apply xm;(iterate 2 exact rfl);exact ckk)
 | (apply xl;infer_instance;(iterate 2 exact rfl);(iterate 2 exact omg);(iterate 2 exact rfl);exact ckk)
 | (apply xi;infer_instance;(iterate 3 exact rfl);(iterate 2 exact omg);exact rfl;exact ckk)
 | (apply xw;infer_instance;(iterate 5 exact rfl);exact ckk)
 | (apply xs;infer_instance;(iterate 5 exact rfl);(iterate 3 exact omg);exact ckk)
 | (apply xp;(first | exact b3t _ _ rfl rfl rfl | exact b5G _ _ rfl rfl rfl | exact a5x _ _ _ _ rfl rfl rfl (fun _=>.refl _) (fun _=>.refl _) | fail);exact rfl;exact ckk)
 | (apply x0;exact hpA;exact rfl;exact ckk)
 | (apply xg;(iterate 2 exact rfl);(intro hb;exact hpA);exact rfl;exact ckk)
 | (apply xn;exact rfl;(iterate 2 kernel_rfl);exact ckk;(first | exact .inr rfl | exact .inl rfl | exact .inl (by assumption)))
 | fail))):G:=h.h k
section
variable {C:Ctx} {P:Program} {ops:Array Oper} {Q:Exit→Act→World→Prop} {n clk:Nat} {tm:List (Nat×TV)} {hp:List (Nat×HObj)} {rest:List Oper} {v v':HV} {d gi j j2:Nat} {ty:TypeId} {pos:String} {af:Array Edge} {b b2 c c2:Bool}
theorem rvl (v':HV) (e:v=v') (h:HSeq C P ops rest ⟨n,(d,.v v')::tm,hp,clk⟩ Q):HSeq C P ops rest ⟨n,(d,.v v)::tm,hp,clk⟩ Q:=by subst e;exact h
theorem ryx (v':HV) {p:Prop} (e:p→v=v') (hp':∀ w E (a:Act),(∀ t x,tget tm t=some x→t≠d→TVRep w E a (a.tmps.getD t undef) x)→a.tmps.getD j undef=.bool b→p) (h:HSeq C P ops rest ⟨n,(d,.un j b v')::tm,hp,clk⟩ Q):HSeq C P ops rest ⟨n,(d,.un j b v)::tm,hp,clk⟩ Q:=fun a w ⟨E,e0,r,hG,hsz,hdf,ht⟩ =>
  h a w ⟨E, e0, r, hG, hsz, hdf, fun t x hx => by
    rw [a0B] at hx
    split at hx
    · rename_i ht'
      injection hx with hx;subst hx;subst ht'
      have h0:=ht t (.un j b v) (by rw [a0B,if_pos rfl])
      refine ⟨fun hj=>?_,h0.2⟩
      have:=e (hp' w E a (fun t' x hx hne=>ht t' x (by rw [a0B,if_neg hne];exact hx)) hj)
      subst this;exact h0.1 hj
    · rename_i hne;exact ht t x (by rw [a0B,if_neg hne];exact hx)⟩
theorem ry (v':HV) (hc:tget tm j=some (.v (.imm (.bool c)))) (e:c=b→v=v') (h:HSeq C P ops rest ⟨n,(d,.un j b v')::tm,hp,clk⟩ Q) (hjd:Nat.beq j d=false:=by exact rfl):HSeq C P ops rest ⟨n,(d,.un j b v)::tm,hp,clk⟩ Q :=
 ryx v' e (fun w E a ht hj=>by
  have:=Rep.imm_inv (ht j _ hc (fun h=>by subst h;simp at hjd));rw [hj] at this;injection this with this;exact this.symm) h
theorem ry3 (v':HV) (hc:tget tm j=some (.un j2 b2 (.imm (.bool c)))) (hc2:tget tm j2=some (.v (.imm (.bool c2)))) (e:c=b→c2=b2→v=v') (h:HSeq C P ops rest ⟨n,(d,.un j b v')::tm,hp,clk⟩ Q) (hjd:Nat.beq j d=false:=by exact rfl) (hjd2:Nat.beq j2 d=false:=by exact rfl):HSeq C P ops rest ⟨n,(d,.un j b v)::tm,hp,clk⟩ Q :=
 ryx (p:=c=b∧c2=b2) v' (fun h=>e h.1 h.2) (fun w E a ht hj=>by
  have h1:=ht j _ hc (fun h=>by subst h;simp at hjd)
  have h2:=Rep.imm_inv (ht j2 _ hc2 (fun h=>by subst h;simp at hjd2))
  have h3:a.tmps.getD j2 undef=.bool b2:=Classical.byContradiction fun h=>by have:=h1.2 h;rw [hj] at this;exact absurd this (by simp [undef])
  have h4:=Rep.imm_inv (h1.1 h3)
  rw [hj] at h4;rw [h3] at h2;injection h4 with h4;injection h2 with h2;exact ⟨h4.symm,h2.symm⟩) h
theorem fz0 {sh:List (Nat×HObj)}:FzAll sh [] []:=trivial
theorem fz1 {sh:List (Nat×HObj)} {x y:HV} {xs ys:List HV} (h:Fz sh x y) (r:FzAll sh xs ys):FzAll sh (x::xs) (y::ys):=⟨h,r⟩
theorem fzz {sh:List (Nat×HObj)} {xs ys:List HV} (h:FzAll sh xs ys:=by repeat (first | exact fz0 | (apply fz1;(first | exact fe | exact fzc | fail)))):FzAll sh xs ys:=h
theorem cll {f:FuncId} {args:List Operand} {at_:Array TypeId} {xs ys:List HV} (hp':HPure P f ys v) (h:HSeq C P ops rest ⟨n,(d,.v v)::tm,hp,clk⟩ Q) (hx:a2m (a0I (tget tm)) args xs:=by exact oaa) (hz:FzAll [] xs ys:=by exact fzz) (hlt:Nat.blt d n=true:=by exact rfl) (hk:a0V tm d=true:=by exact rfl):HSeq C P ops (⟨some d,.call ⟨.value (.func f),args.toArray,at_⟩,ty,pos,af,none⟩::rest) ⟨n,tm,hp,clk⟩ Q:=st0 (a0f hp' hx hz) hlt hk h
theorem clx {k k':Nat} {tm0:List (Nat×TV)} {hp0:List (Nat×HObj)} {ss:List HSpec} {Fin:Prop} {dn L:List Oper} {f:FuncId} {args:List Operand} {at_:Array TypeId} {xs ys:List HV} (hp':HPure P f ys v) (h:HDr P n clk tm0 hp0 L (dn++[⟨some d,.call ⟨.value (.func f),args.toArray,at_⟩,ty,pos,af,none⟩]) (ss++[⟨.v v,a0C ⟨some d,.call ⟨.value (.func f),args.toArray,at_⟩,ty,pos,af,none⟩,[],[]⟩]) rest k' ((d,.v v)::tm) hp Fin) (hx:a2m (a0I (tget tm)) args xs:=by exact oaa) (hz:FzAll [] xs ys:=by exact fzz) (hlt:Nat.blt d n=true:=by exact rfl) (hk':k+1=k':=by exact ckk):HDr P n clk tm0 hp0 L dn ss (⟨some d,.call ⟨.value (.func f),args.toArray,at_⟩,ty,pos,af,none⟩::rest) k tm hp Fin:=d0 k' (a0f hp' hx hz) h hlt hk'
theorem rvc {s:HSt} {t:Nat} {T oty:TypeId} {id gg sz n osz fl:Nat} {b:Bool} {f:Nat→Nat→HV} {x:HV} (h:tget s.tm t=some (.v (.pt id gg 0 0))) (ho:hget s.hp id=some ⟨gg,n,osz,oty,fl,f⟩) (hT:TyI P T b sz) (hs:b=false→sz=1) (hn:Nat.blt 0 n=true) (hz:Nat.ble sz osz=true) (hx:ldv b sz (f 0) 0=x):a6h P s (.cell t T) x:=hx▸a0J h ho hT.h hs hn hz
theorem rvx {s:HSt} {r:ResultVar} {x:HV} (h:a6h P s r x:=by first | exact a0h rfl | (apply rvc;exact rfl;exact rfl;infer_instance;exact rq_;exact rfl;exact rfl;exact rfl) | fail):a6h P s r x:=h
def RV1 (P:Program) (fn:Func) (s:HSt) (x:HV):Prop:=∃ r,fn.results=#[r]∧a6h P s r x
theorem rw1 {fn:Func} {s:HSt} {x:HV} (h:RV1 P fn s x:=by (refine ⟨_,rfl,?_⟩;exact rvx)):RV1 P fn s x:=h
end
section
variable {P:Program} {w:World} {F:Addr→Prop} {fn:Func} {r1 r2 r3:ResultVar} {s:HSt} {x1 x2 x3 y:HV}
theorem rt1 (hz:Fz [] x1 y) (hres:fn.results=#[r1]:=by exact rfl) (h1:a6h P s r1 x1:=by exact rvx):HQ (Ctx.top w F) (bodyPost P fn (a1a w F y)) .ret s:=a5l hres h1 [] rfl a0g hz
theorem rt2 (hz:Fz [] (t2 x1 x2) y) (hres:fn.results=#[r1,r2]:=by exact rfl) (h1:a6h P s r1 x1:=by exact rvx) (h2:a6h P s r2 x2:=by exact rvx):HQ (Ctx.top w F) (bodyPost P fn (a1a w F y)) .ret s:=a9k hres h1 h2 [] rfl a0g hz
theorem rt3 (hz:Fz [] (t3 x1 x2 x3) y) (hres:fn.results=#[r1,r2,r3]:=by exact rfl) (h1:a6h P s r1 x1:=by exact rvx) (h2:a6h P s r2 x2:=by exact rvx) (h3:a6h P s r3 x3:=by exact rvx):HQ (Ctx.top w F) (bodyPost P fn (a1a w F y)) .ret s:=b0J hres h1 h2 h3 [] rfl a0g hz
variable {α:Type} {I:α→Nat→Prop} {r:α→HV} {kpf:α→List (Nat×HObj)} {X:Clr} {pre:List (Nat×HObj)}
theorem fr1 (ok:X.Ok) (hX:X.pre=pre) (h1:RV1 P fn s x1) (x:α) (hI:I x s.clk) (hz:Kz (kpf x) [] x1 (r x)) (hkp:b4B (kpf x) [] s.hp (kpf x)) (hpk:(pre.all fun p=>(hget (kpf x) p.1).isSome)=true:=by exact rfl) (hks:((kpf x).all fun p=>!(([]:List (Nat×HObj)).map (·.1)).any (Nat.beq p.1))=true:=by exact rfl):HQ X.ctx (bodyPost P fn (a1u X (a9C I r kpf))) .ret s:=by obtain ⟨_,a,b⟩:=h1;exact a1t ok hX a3g.one a b [] rfl a0g x hI hpk hks hz hkp
end
set_option maxHeartbeats 1000000
def tbF (R:List (List Int)) (A:List Bool) (i j:Nat):HV:=match Nat.blt j 32 with
 | true=>intV ((R.getD i []).getD j 0)
 | false=>boolV (A.getD i false)
@[reducible] def tabP (R:List (List Int)) (A:List Bool):HV:=.fp 1 (fun _=>.sl 33 R.length (tbF R A))
theorem a2s {R:List (List Int)} {A:List Bool} {i j:Nat} (h:j < 32):tbF R A i j=intV ((R.getD i []).getD j 0):=by
 unfold tbF;rw [show Nat.blt j 32=true from by simpa [Nat.blt_eq] using h]
theorem b4R {R:List (List Int)} {A:List Bool} {i:Nat}:tbF R A i 32=boolV (A.getD i false):=rfl
theorem b2s {sh:List (Nat×HObj)} (R:List (List Int)) (A:List Bool) (i j:Nat):Fz sh (tbF R A i j) (tbF R A i j):=by unfold tbF;split <;> exact .imm _
instance (R:List (List Int)) (A:List Bool) (i j:Nat):Frz (tbF R A i j):=⟨b2s R A i j⟩
@[reducible] def c3A (R:List (List Int)) (at_:Int):Bool:=decide (at_≥0)&&decide (at_ < (R.length:Int))
def nxT (R:List (List Int)) (at_ s:Int):Int:=if (0≤at_∧at_ < R.length)∧0≤s∧s < 32 then (R.getD at_.toNat []).getD s.toNat 0 else -1
theorem b5a (R:List (List Int)) (A:List Bool):HPure Tryz.prog 13 [tabP R A] (intV (R.length:Int)):=by
 refine a0k Tryz.func13 rfl kr _ _ _ rfl 10 rfl rfl (fun w F=>?_)
 refine ru 12 ?_
 refine wdc (fun hr0 hc0=>?_) (fun hr0 hc0=>?_)
 ·skip
  exfalso;simp at hr0
 refine ru 13 ?_
 refine rt1 ?_
 exact Frz.fz
theorem c3N (R:List (List Int)) (A:List Bool) (at_:Int):HPure Tryz.prog 36 [tabP R A,intV at_] (boolV (c3A R at_)):=by
 refine a0k Tryz.func36 rfl kr _ _ _ rfl 20 rfl rfl (fun w F=>?_)
 refine ru 26 ?_
 refine rt1 ?_
 exact .imm _
theorem c3r (R:List (List Int)) (A:List Bool) (at_:Int):HPure Tryz.prog 14 [tabP R A,intV at_] (boolV (c3A R at_&&A.getD at_.toNat false)):=by
 refine a0k Tryz.func14 rfl kr _ _ _ rfl 18 rfl rfl (fun w F=>?_)
 refine ru 9 ?_
 refine cll (c3N R A at_) ?_
 refine ru 9 ?_
 refine ry (boolV (A.getD at_.toNat false)) rfl (fun hb=>rfl) ?_
 refine ru 5 ?_
 refine rt1 ?_
 exact .imm _
theorem c4k (R:List (List Int)) (A:List Bool) (at_ s:Int):HPure Tryz.prog 11 [tabP R A,intV at_,intV s] (t2 (intV (if nxT R at_ s=-1 then 0 else nxT R at_ s)) (boolV (nxT R at_ s != -1))):=by
 refine a0k Tryz.func11 rfl kr _ _ _ rfl 43 rfl rfl (fun w F=>?_)
 refine ru 11 ?_
 refine cll (c3N R A at_) ?_
 refine ru 20 ?_
 refine ry (intV ((R.getD at_.toNat []).getD s.toNat 0)) rfl (fun hb=>(by simp at hb;show tbF R A at_.toNat (0+(s.toNat * 1+0))=_;rw [show 0+(s.toNat * 1+0)=s.toNat by omega];exact a2s om)) ?_
 refine ru 4 ?_
 refine wdc (fun hr0 hc0=>?_) (fun hr0 hc0=>?_)
 ·skip
  have hx:nxT R at_ s=-1:=(by unfold nxT;split;(rename_i hq;obtain ⟨⟨a1,a2⟩,a3,a4⟩:=hq;have h9:=hr0;simp only [c3A,ge_iff_le,decide_eq_true a1,decide_eq_true a2,Bool.and_self,Bool.not_true,Bool.false_or,Bool.or_eq_true,decide_eq_true_eq,beq_iff_eq] at h9;omega);rfl)
  refine ru 8 ?_
  refine rt2 ?_
  rw [hx];exact a5K (.imm _) (.imm _)
 have hin:((0≤at_∧at_ < R.length)∧0≤s∧s < 32)∧(R.getD at_.toNat []).getD s.toNat 0≠-1:=(by have h9:=hr0;simp only [Bool.or_eq_false_iff,Bool.not_eq_false',Bool.and_eq_true,decide_eq_true_eq,decide_eq_false_iff_not,beq_eq_false_iff_ne,ne_eq,ge_iff_le] at h9;obtain ⟨⟨⟨⟨b1,b2⟩,b3⟩,b4⟩,b5⟩:=h9;exact ⟨⟨⟨b1,b2⟩,by omega,by omega⟩,b5⟩);have hx:nxT R at_ s=(R.getD at_.toNat []).getD s.toNat 0:=(by unfold nxT;rw [if_pos hin.1])
 refine ru 14 ?_
 refine rvl (intV ((R.getD at_.toNat []).getD s.toNat 0)) ((by show tbF R A at_.toNat (0+(s.toNat * 1+0))=_;rw [show 0+(s.toNat * 1+0)=s.toNat by omega];exact a2s om)) ?_
 refine ru 5 ?_
 refine rt2 ?_
 rw [hx,if_neg hin.2];exact a5K (.imm _) (Fz.eq (by rw [show ((R.getD at_.toNat []).getD s.toNat 0 != -1)=true from bne_iff_ne.2 hin.2]))
theorem c4l (R:List (List Int)) (A:List Bool) (at_ s:Int):HPure Tryz.prog 28 [tabP R A,intV at_,intV s] (intV (nxT R at_ s)):=by
 refine a0k Tryz.func28 rfl kr _ _ _ rfl 18 rfl rfl (fun w F=>?_)
 refine ru 11 ?_
 refine cll (c4k R A at_ s) ?_
 refine ru 12 ?_
 refine wdc (fun hr0 hc0=>?_) (fun hr0 hc0=>?_)
 ·skip
  have hx:nxT R at_ s≠-1:=(by simpa using hr0)
  refine ru 8 ?_
  refine rt1 ?_
  exact Fz.eq (by show intV (if nxT R at_ s=-1 then 0 else nxT R at_ s)=_;rw [if_neg hx])
 have hx:nxT R at_ s=-1:=(by simpa using hr0)
 refine ru 8 ?_
 refine rt1 ?_
 rw [hx];exact .imm _
set_option linter.unusedSectionVars false
@[reducible] def a9L (g:Nat) (l:List (Value×Value)):HObj:=⟨g,0,2,0,1,fun _ _=>.imm (.tuple (l.map fun p=>Value.tuple #[p.1,p.2]).toArray)⟩
theorem c2a {o:HObj} {ob:Obj} {g:Nat} {l:List (Value×Value)} (h:RawIs o ob) (ho:o=a9L g l):∃ es,ob=.map es es.size∧es.toList.map (fun e=>(e.key,e.val))=l∧∀ (i:Nat) (e:MapEntry),es[i]?=some e→e.born=i:=by
  cases h with
  | iter g' ty' s' p'=>injection ho with _ _ hs;cases hs
  | map g' ty' es c hc hb =>
    subst hc
    injection ho with _ _ _ _ _ hf
    have h0:=congrFun (congrFun hf 0) 0
    injection h0 with h0
    injection h0 with h0
    refine ⟨es,rfl,?_,hb⟩
    have h1:=congrArg Array.toList h0
    simp only [Array.toList_map] at h1
    have h2:(es.toList.map fun e=>(e.key,e.val)).map (fun p=>Value.tuple #[p.1,p.2])=l.map fun p=>Value.tuple #[p.1,p.2]:=by
      rw [List.map_map];exact h1
    refine (List.map_inj_right (fun p q hpq=>?_)).1 h2
    injection hpq with hpq
    have a1:p.1=q.1:=by have:=congrArg (fun a=>a[0]?) hpq;simpa using this
    have a2:p.2=q.2:=by have:=congrArg (fun a=>a[1]?) hpq;simpa using this
    exact Prod.ext a1 a2
theorem c0y (g:Nat) (es:Array MapEntry) (l:List (Value×Value)) (h:es.toList.map (fun e=>(e.key,e.val))=l) (hb:∀ (i:Nat) (e:MapEntry),es[i]?=some e→e.born=i):RawIs (a9L g l) (.map es es.size):=by
 have e:a9L g l=⟨g,0,2,0,1,fun _ _=>.imm (.tuple (es.map fun e=>.tuple #[e.key,e.val]))⟩:=by
  unfold a9L
  congr 1
  funext i j
  congr 2
  subst h
  rw [List.map_map]
  apply Array.ext'
  simp
 rw [e];exact .map g 0 es _ rfl hb
section
variable {K:Nat→Prop} {w0 w w':World} {F0:Addr→Prop} {E E':Env} {h h':Nat→Option HObj}
theorem R.mapAt (r:R K w0 F0 E h w) {id g:Nat} {l:List (Value×Value)} (ho:h id=some (a9L g l)):∃ lc b es,E.L id=some lc∧lc.g=g∧lc.A=some b∧w.heap[b]?=some (.map es es.size)∧es.toList.map (fun e=>(e.key,e.val))=l∧∀ (i:Nat) (e:MapEntry),es[i]?=some e→e.born=i:=by
 obtain ⟨lc,hl,a⟩:=r.obj id _ ho
 rcases a.at_ with ⟨h0,h1,h2,h3⟩ | ⟨b,cs,h1,h2,h3,h4,h5,h6,h8,h9⟩ | ⟨b,ob,h1,h2,h3,h4⟩
 ·exact absurd h3 (by show ¬ (1≤0);omega)
 ·exact absurd h9.2 (by show ¬ (1≤0);omega)
 ·obtain ⟨es,rfl,e,hb⟩:=c2a h3 rfl
  exact ⟨lc,b,es,hl,a.g,h1,h2,e,hb⟩
theorem R.setMap (r:R K w0 F0 E h w) {id g:Nat} {l l':List (Value×Value)} {lc:Loc} {b:Nat} {es es':Array MapEntry} {c:Nat} (ho:h id=some (a9L g l)) (hl:E.L id=some lc) (hb:lc.A=some b) (hw:w.heap[b]?=some (.map es c)) (he:es'.toList.map (fun e=>(e.key,e.val))=l') (hbn:∀ (i:Nat) (e:MapEntry),es'[i]?=some e→e.born=i) :
  Ext w E { w with heap:=w.heap.setIfInBounds b (.map es' es'.size) } E∧R K w0 F0 E (a2K h id (a9L g l')) { w with heap:=w.heap.setIfInBounds b (.map es' es'.size) }:=by
 obtain ⟨l2,hl',a⟩:=r.obj id _ ho
 rw [hl] at hl';injection hl' with hl';subst hl'
 have hlt:=a.lt hb
 refine r.write id _ _ lc b ho hl hb rfl rfl rfl (by simp) (fun k hk=>?_) (fun k hk=>?_) (fun e=>⟨a.g,a.G,a.sz,a.pos,.inr (.inr ⟨b,_,hb,?_,c0y g es' l' he hbn,a.notK hb⟩)⟩)
 ·show (w.heap.setIfInBounds b _)[k]?=_
  rw [Array.getElem?_setIfInBounds_ne (Ne.symm hk)]
 ·have:=(r.frz _ hk).2
  simp [World.cell?,hw] at this
 ·show (w.heap.setIfInBounds b _)[b]?=_
  rw [Array.getElem?_setIfInBounds_self_of_lt hlt]
end
def mfind {α:Type} [DecidableEq α] (a:α):List (α×Value)→Nat→Option (Nat×Value)
 | [],_=>none
 | p::r,i=>if a=p.1 then some (i,p.2) else mfind a r (i+1)
def c3k {α:Type} [DecidableEq α] (l:List (α×Value)) (a:α):Option Value:=(mfind a l 0).map (·.2)
def c3p {α:Type} [DecidableEq α] (l:List (α×Value)) (a:α) (v:Value):List (α×Value):=match mfind a l 0 with | some (i,_)=>l.set i (a,v) | none=>l++[(a,v)]
@[reducible] def encL {α:Type} (enc:α→Value) (l:List (α×Value)):List (Value×Value):=l.map fun p=>(enc p.1,p.2)
structure KeyOk (P:Program) (T:TypeId) (α:Type) [DecidableEq α] (enc:α→Value) (zero:Value):Prop where
 all:∃ kt et,P.underlying T=some (.map kt et)∧(∀ w,(zeroValue et).run P w=.ok zero w)∧(∀ b a w,(Instr.checkKey b 10000 kt (enc a)).run P w=.ok () w) ∧
  (∀ a (es:List MapEntry) (l:List (α×Value)),es.map (fun e=>(e.key,e.val))=encL enc l→∀ w,(Instr.findKey kt (enc a) es).run P w=.ok (mfind a l 0) w)
 stay:∀ a,Instr.sameBits 10000 (enc a) (enc a)=true
theorem b1V {α:Type} [DecidableEq α] {a:α}:∀ {l:List (α×Value)} {i n:Nat} {v:Value},mfind a l i=some (n,v)→∃ k,n=i+k∧l[k]?=some (a,v)
  | [],i,n,v,h=>by cases h
  | p :: r, i, n, v, h => by
    unfold mfind at h
    split at h
    · rename_i e;injection h with h;injection h with h1 h2
      exact ⟨0,by omega,by rw [e,←h2];rfl⟩
    · obtain ⟨k,h1,h2⟩:=b1V h
      exact ⟨k+1,by omega,by simpa using h2⟩
section
variable {P:Program} {ov:Nat→Option HV} {g:Nat} {d:Option Tmp} {ty:TypeId} {pos:String} {af:Array Edge} {gd:Option (Nat×Bool)} {T yT:TypeId} {x y z:Operand}
theorem a8I {id:Nat}:HOp P ⟨d,.makeMap T none,ty,pos,af,gd⟩ ov g [] (.mp id g) [(id,a9L g [])]:=by
 refine ⟨?_⟩;intro K w0 F0 E hh a w Q N r ht hG hBd hpre hN
 have hnew:=r.newRaw id (a9L g []) (.map #[] 0) (c0y g #[] [] rfl (fun i e h=>by simp at h)) hG (by show 0 < 2;omega)
 refine a3e (v:=.map (some w.heap.size)) (w':=w.alloc (.map #[] 0)) ?_ (hN _ _ _ hnew.1 hnew.2 (fun g' hg'=>hg'.imp (fun h=>h) fun h=>⟨by simp,h⟩) ?_)
 ·simp only [execOp,Instr.makeMap,Option.map_none,Sem.run_bind,Sem.run_pure,Result.andThen_ok];rfl
 ·refine .mp w.heap.size id g (.inr rfl) (fun l hl _=>?_)
  rw [Env.new_L] at hl;injection hl with hl;subst hl
  rfl
section
variable {α:Type} [DecidableEq α] {enc:α→Value} {zero:Value}
def lkV (ok:Bool) (r:Option Value) (zero:Value):HV:=match ok with | true=>t2 (.imm (r.getD zero)) (.imm (.bool r.isSome)) | false=>.imm (r.getD zero)
def lkW (ok:Bool) (r:Option Value) (zero:Value):Value:=match ok with | true=>.tuple #[r.getD zero,.bool r.isSome] | false=>r.getD zero
theorem c7F {w:World} {E:Env} (ok:Bool) (r:Option Value) (zero:Value):Rep w E (lkW ok r zero) (lkV ok r zero):=by
 cases ok with
 | true=>exact .tup _ 2 _ (fun i=>match i with | 0=>r.getD zero | _=>.bool r.isSome) rfl (fun i hi=>by match i,hi with | 0,_=>rfl | 1,_=>rfl) (fun i hi=>by match i,hi with | 0,_=>exact .imm _ | 1,_=>exact .imm _)
 | false=>exact .imm _
theorem b6A (hK:KeyOk P T α enc zero) (w:World) (b:Nat) (es:Array MapEntry) (c:Nat) (hb:w.heap[b]?=some (.map es c)) (l:List (α×Value)) (he:es.toList.map (fun e=>(e.key,e.val))=encL enc l) (a:α) (ok:Bool) :
  (Instr.lookup T (.map (some b)) (enc a) ok).run P w=.ok (lkW ok (c3k l a) zero) w:=by
 obtain ⟨kt,et,h1,h2,h3,h4⟩:=hK.all
 unfold Instr.lookup
 have hg:(getObj b).run P w=.ok (.map es c) w:=by simp [getObj,Sem.run,hb]
 simp only [Sem.run_bind,run_underlying h1,Result.andThen_ok,hg,Sem.run_pure,h3,h4 a es.toList l he]
 unfold c3k lkW
 cases mfind a l 0 with
 | none=>simp only [Sem.run_bind,h2,Result.andThen_ok,Sem.run_pure,Option.map_none,Option.getD_none,Option.isSome_none];cases ok <;> rfl
 | some p=>obtain ⟨i,v⟩:=p;simp only [Sem.run_pure,Result.andThen_ok,Option.map_some,Option.getD_some,Option.isSome_some];cases ok <;> rfl
def b4C (hv:HV) (v:Value):Prop:=∀ (w:World) (E:Env) (u:Value),Rep w E u hv→u=v
theorem b4C.imm (v:Value):b4C (.imm v) v:=fun _ _ _ h=>h.imm_inv
theorem b0c (hK:KeyOk P T α enc zero) {id gg:Nat} {l:List (α×Value)} {a:α} {ok:Bool} {hk:HV} (h1:ovl ov x=some (.mp id gg)) (h2:ovl ov y=some hk) (h3:b4C hk (enc a)) :
    HOp P ⟨d,.lookup T x y ok,ty,pos,af,gd⟩ ov g [(id,a9L gg (encL enc l))] (lkV ok (c3k l a) zero) []:=by
  refine ⟨?_⟩;intro K w0 F0 E hh ac w Q N r ht hG hBd hpre hN
  have ho:=hpre _ (List.mem_cons_self ..)
  obtain ⟨lc,b,es,hl,hlg,hlA,hwb,he,hbn⟩:=r.mapAt ho
  have hX:=ht x _ (by simp [Op.operands]) h1
  have e2:=h3 _ _ _ (ht y _ (by simp [Op.operands]) h2)
  generalize hρ:ac.eval x=u at hX
  cases hX with
  | mp b' _ _ hgg hh' =>
    have h4:=hh' lc hl hlg
    rw [hlA] at h4;injection h4 with h4;subst h4
    refine a3e (v:=lkW ok (c3k l a) zero) ?_ (hN _ _ _ (Ext.refl _ _) r (fun g' hg'=>.inl hg') (c7F ok _ zero))
    simp only [execOp,hρ,e2,Sem.run_bind,b6A hK w b es es.size hwb l he a ok,Result.andThen_ok,Sem.run_pure]
theorem c0v {es:Array MapEntry} (h:∀ (i:Nat) (e:MapEntry),es[i]?=some e→e.born=i) (k v:Value):∀ (i:Nat) (e:MapEntry),(es.push ⟨k,v,es.size⟩)[i]?=some e→e.born=i:=fun i e he=>by
 rw [Array.getElem?_push] at he
 split at he
 ·rename_i e1;injection he with he;subst he;exact e1.symm
 ·exact h i e he
theorem b3B {es:Array MapEntry} (h:∀ (i:Nat) (e:MapEntry),es[i]?=some e→e.born=i) (k:Nat) (f:MapEntry→MapEntry) (hf:∀ e,(f e).born=e.born):∀ (i:Nat) (e:MapEntry),(es.modify k f)[i]?=some e→e.born=i:=fun i e he=>by
  rw [Array.getElem?_modify] at he
  split at he
  · cases hq : es[i]? with
    | none=>rw [hq] at he;cases he
    | some e0=>rw [hq] at he;injection he with he;subst he;rw [hf];exact h i e0 hq
  · exact h i e he
theorem a6y (hK:KeyOk P T α enc zero) (w:World) (b:Nat) (es:Array MapEntry) (hb:w.heap[b]?=some (.map es es.size)) (hbn:∀ (i:Nat) (e:MapEntry),es[i]?=some e→e.born=i) (l:List (α×Value)) (he:es.toList.map (fun e=>(e.key,e.val))=encL enc l) (a:α) (v:Value) :
    ∃ es',(Instr.mapUpdate T (.map (some b)) (enc a) v).run P w=.ok () { w with heap:=w.heap.setIfInBounds b (.map es' es'.size) }∧es'.toList.map (fun e=>(e.key,e.val))=encL enc (c3p l a v)∧∀ (i:Nat) (e:MapEntry),es'[i]?=some e→e.born=i:=by
  obtain ⟨kt,et,h1,h2,h3,h4⟩:=hK.all
  have hg:(getObj b).run P w=.ok (.map es es.size) w:=by simp [getObj,Sem.run,hb]
  have hs:∀ o,(setObj b o).run P w=.ok () { w with heap:=w.heap.setIfInBounds b o }:=fun o=>by simp [setObj,Sem.run,hb]
  unfold c3p
  cases hm:mfind a l 0 with
  | none =>
    refine ⟨es.push { key:=enc a,val:=v,born:=es.size },?_,?_,c0v hbn _ _⟩
    · unfold Instr.mapUpdate
      simp only [Sem.run_bind,run_underlying h1,Result.andThen_ok,hg,h3,h4 a es.toList l he,hm,hs,Array.size_push]
    · simp [he,encL]
  | some p =>
    obtain ⟨i,u⟩:=p
    obtain ⟨k,rfl,hk⟩:=b1V hm
    rw [Nat.zero_add] at *
    have hkey:∃ e,es[k]?=some e∧e.key=enc a:=by
      have:=congrArg (fun q=>q[k]?) he
      simp only [encL,List.getElem?_map,hk,Option.map_some] at this
      cases hq:es[k]? with
      | none=>rw [←Array.getElem?_toList] at hq;rw [hq] at this;cases this
      | some e=>rw [←Array.getElem?_toList] at hq;rw [hq] at this;injection this with this;injection this with t1 t2;exact ⟨e,rfl,t1⟩
    obtain ⟨e,hek,hea⟩:=hkey
    have hst:(Instr.keyThatStays (((es[k]?).map (·.key)).getD (enc a)) (enc a)).run P w=.ok (enc a) w:=by
      unfold Instr.keyThatStays
      rw [hek]
      simp [hea,hK.stay a]
    refine ⟨es.modify k fun e=>{ e with key:=enc a,val:=v },?_,?_,b3B hbn k _ (fun _=>rfl)⟩
    · unfold Instr.mapUpdate
      simp only [Sem.run_bind,run_underlying h1,Result.andThen_ok,hg,h3,h4 a es.toList l he,hm,hst,hs,Array.size_modify]
    · rw [Array.toList_modify]
      apply List.ext_getElem?
      intro j
      have hj:=congrArg (fun q=>q[j]?) he
      simp only [encL,List.getElem?_map] at hj
      simp only [encL,List.getElem?_map,List.getElem?_modify,List.getElem?_set]
      have hkl:k < l.length:=by
        rcases Nat.lt_or_ge k l.length with h | h
        · exact h
        · rw [List.getElem?_eq_none h] at hk;cases hk
      by_cases e:k=j
      · subst e
        rw [if_pos rfl,if_pos hkl]
        rw [←Array.getElem?_toList] at hek
        rw [hek];simp
      · rw [if_neg e,←hj]
        simp [e]
theorem a6l (hK:KeyOk P T α enc zero) {id gg:Nat} {l:List (α×Value)} {a:α} {v:Value} {hk:HV} (h1:ovl ov x=some (.mp id gg)) (h2:ovl ov y=some hk) (h3:b4C hk (enc a)) (h4:ovl ov z=some (.imm v)) :
    HOp P ⟨d,.mapUpdate T x y z,ty,pos,af,gd⟩ ov g [(id,a9L gg (encL enc l))] (.imm undef) [(id,a9L gg (encL enc (c3p l a v)))]:=by
  refine ⟨?_⟩;intro K w0 F0 E hh ac w Q N r ht hG hBd hpre hN
  have ho:=hpre _ (List.mem_cons_self ..)
  obtain ⟨lc,b,es,hl,hlg,hlA,hwb,he,hbn⟩:=r.mapAt ho
  have hX:=ht x _ (by simp [Op.operands]) h1
  have e2:=h3 _ _ _ (ht y _ (by simp [Op.operands]) h2)
  have e3:=Rep.imm_inv (ht z _ (by simp [Op.operands]) h4)
  generalize hρ:ac.eval x=u at hX
  cases hX with
  | mp b' _ _ hgg hh' =>
    have h4:=hh' lc hl hlg
    rw [hlA] at h4;injection h4 with h4;subst h4
    obtain ⟨es',hrun,he',hbn'⟩:=a6y hK w b es hwb hbn l he a v
    have a2K:=r.setMap ho hl hlA hwb he' hbn'
    refine b9K (w':={ w with heap:=w.heap.setIfInBounds b (.map es' es'.size) }) ?_ (hN _ _ _ a2K.1 a2K.2 (fun g' hg'=>.inl hg') (.imm _))
    simp only [execOp,hρ,e2,e3,Sem.run_bind,hrun,Result.andThen_ok,Sem.run_pure]
theorem b6K (hK:KeyOk P T α enc zero) {id gg:Nat} {l:List (α×Value)} {a:α} {v:Value} {hk:HV} (h1:ovl ov x=some (.mp id gg)) (h2:ovl ov y=some hk) (h3:b4C hk (enc a)) (h4:ovl ov z=some (.imm v)) :
    HOp P ⟨d,.insert T x y z,ty,pos,af,gd⟩ ov g [(id,a9L gg (encL enc l))] (.imm undef) [(id,a9L gg (encL enc (c3p l a v)))]:=by
  refine ⟨?_⟩;intro K w0 F0 E hh ac w Q N r ht hG hBd hpre hN
  have ho:=hpre _ (List.mem_cons_self ..)
  obtain ⟨lc,b,es,hl,hlg,hlA,hwb,he,hbn⟩:=r.mapAt ho
  have hX:=ht x _ (by simp [Op.operands]) h1
  have e2:=h3 _ _ _ (ht y _ (by simp [Op.operands]) h2)
  have e3:=Rep.imm_inv (ht z _ (by simp [Op.operands]) h4)
  generalize hρ:ac.eval x=u at hX
  cases hX with
  | mp b' _ _ hgg hh' =>
    have h4:=hh' lc hl hlg
    rw [hlA] at h4;injection h4 with h4;subst h4
    obtain ⟨es',hrun,he',hbn'⟩:=a6y hK w b es hwb hbn l he a v
    have a2K:=r.setMap ho hl hlA hwb he' hbn'
    refine b9K (w':={ w with heap:=w.heap.setIfInBounds b (.map es' es'.size) }) ?_ (hN _ _ _ a2K.1 a2K.2 (fun g' hg'=>.inl hg') (.imm _))
    simp only [execOp,hρ,e2,e3,Sem.run_bind,hrun,Result.andThen_ok,Sem.run_pure]
end
end
section
variable {P:Program} {α:Type} [DecidableEq α] {enc:α→Value}
theorem a5M {kt:TypeId} (heq:∀ a b w,(Op.equal kt (enc a) (enc b)).run P w=.ok (decide (a=b)) w) (a:α) (w:World) :
    ∀ (es:List MapEntry) (l:List (α×Value)) (i:Nat),es.map (fun e=>(e.key,e.val))=encL enc l→(Instr.findAsking kt (enc a) es i).run P w=.ok (mfind a l i) w
  | [],[],i,_=>rfl
  | [],p::l,i,h=>by simp [encL] at h
  | e::es,[],i,h=>by simp [encL] at h
  | e :: es, p :: l, i, h => by
    simp only [encL,List.map_cons,List.cons.injEq,Prod.mk.injEq] at h
    obtain ⟨⟨h1,h2⟩,h3⟩:=h
    unfold Instr.findAsking
    rw [Sem.run_bind,h1,heq]
    simp only [Result.andThen_ok]
    by_cases ha:a=p.1
    · rw [decide_eq_true ha,mfind,if_pos ha,h2];rfl
    · rw [decide_eq_false ha,mfind,if_neg ha];exact a5M heq a w es l (i+1) h3
theorem a7M {T kt et:TypeId} {zero:Value} {fs:Array Field} (h1:P.underlying T=some (.map kt et)) (h2:P.underlying kt=some (.struct fs)) (h3:∀ w,(zeroValue et).run P w=.ok zero w)
    (hck:∀ b a w,(Instr.checkKey b 10000 kt (enc a)).run P w=.ok () w) (heq:∀ a b w,(Op.equal kt (enc a) (enc b)).run P w=.ok (decide (a=b)) w) (hst:∀ a,Instr.sameBits 10000 (enc a) (enc a)=true):KeyOk P T α enc zero where
  all:=⟨kt,et,h1,h3,hck,fun a es l h w=>by
    unfold Instr.findKey
    rw [Sem.run_bind,run_underlying h2]
    simp only [Result.andThen_ok]
    cases es with
    | nil => cases l with
      | nil=>rfl
      | cons p l=>simp [encL] at h
    | cons e es =>
      have hn:Instr.findNow (.struct fs) (enc a) (e::es) 0=none:=by
        unfold Instr.findNow Instr.sameNow
        cases enc a <;> cases e.key <;> rfl
      rw [hn]
      exact a5M heq a w (e::es) l 0 h⟩
  stay:=hst
theorem a6C {n:Nat} {f:Nat→HV} {cs:List Value} (hn:cs.length=n) (h:∀ i,i < n→∃ v,f i=.imm v∧cs[i]?=some v):b4C (.agg n f) (.agg cs.toArray):=fun w E u hr=>by
  cases hr with
  | agg cs' _ _ vs hn' hv h' =>
    congr 1
    apply Array.ext
    · rw [hn'];simp [hn]
    · intro i hi hi2
      have hin:i < n:=by omega
      obtain ⟨v,h1,h2⟩:=h i hin
      have h3:=h' i hin
      rw [h1] at h3
      have h4:=h3.imm_inv
      have h5:=(hv i hin).1
      rw [Array.getElem?_eq_getElem hi] at h5
      injection h5 with h5
      rw [h5,h4]
      rw [List.getElem?_eq_getElem (by omega)] at h2
      injection h2 with h2
      rw [←h2];simp
end
end Go.Proofs.YtdbbbafiegpbpaaGreatDoor
namespace Go.Proofs.YtdbbbafiegpbpaaGreatDoor
set_option linter.unusedSimpArgs false
set_option linter.unusedVariables false
section
variable {β:Type} [DecidableEq β]
def a9B (Q:List β) (q:β):List β:=if q∈Q then Q else Q++[q]
def b5I (f:Nat→β) (Q:List β):Nat→List β
 | 0=>Q
 | k+1=>a9B (b5I f Q k) (f k)
def c5i (bad:β→Bool) (f:β→Nat→β) (d:β):Nat→Nat→List β→Bool
 | 0,i,Q=>true
 | n+1,i,Q=>if i < Q.length then (if bad (Q.getD i d)=true then false else c5i bad f d n (i+1) (b5I (f (Q.getD i d)) Q 32)) else true
theorem c2t (Q:List β) (q:β):Q.length≤(a9B Q q).length∧(a9B Q q).length≤Q.length+1:=by
 unfold a9B
 split
 ·exact ⟨Nat.le_refl _,Nat.le_succ _⟩
 ·simp
theorem b6U {Q:List β} (h:Q.Nodup) (q:β):(a9B Q q).Nodup:=by
 unfold a9B
 split
 ·exact h
 ·rename_i hq
  rw [List.nodup_append]
  exact ⟨h,by simp,fun a ha b hb=>by simp at hb;subst hb;exact fun e=>hq (e▸ha)⟩
theorem c1M {Q:List β} {q x:β}:x∈a9B Q q↔x∈Q∨x=q:=by
 unfold a9B
 split
 ·rename_i hq;exact ⟨.inl,fun h=>h.elim id (fun e=>e▸hq)⟩
 ·simp
theorem b1a (f:Nat→β) (Q:List β):∀ k,Q.length≤(b5I f Q k).length∧(b5I f Q k).length≤Q.length+k
 | 0=>⟨Nat.le_refl _,Nat.le_refl _⟩
 | k+1=>by have:=b1a f Q k;have:=c2t (b5I f Q k) (f k);unfold b5I;omega
theorem a4k {f:Nat→β} {Q:List β} (h:Q.Nodup):∀ k,(b5I f Q k).Nodup
 | 0=>h
 | k+1=>b6U (a4k h k) _
theorem a5A {f:Nat→β} {Q:List β} {p:β→Prop} (hQ:∀ x∈Q,p x) (hf:∀ k,p (f k)):∀ k,∀ x∈b5I f Q k,p x
 | 0=>hQ
 | k+1=>fun x hx=>(c1M.1 hx).elim (a5A hQ hf k x) (fun e=>e▸hf k)
theorem a7Z {Q U:List β} (h:Q.Nodup) (hs:∀ x∈Q,x∈U):Q.length≤U.length:=by
  induction Q generalizing U with
  | nil=>exact Nat.zero_le _
  | cons a r ih =>
    rw [List.nodup_cons] at h
    have ha:a∈U:=hs a (List.mem_cons_self ..)
    have:=ih (U:=U.erase a) h.2 (fun x hx=>by
      have hx2:=hs x (List.mem_cons_of_mem _ hx)
      exact (List.mem_erase_of_ne (fun e=>h.1 (by rw [←e];exact hx))).2 hx2)
    rw [List.length_erase_of_mem ha] at this
    have:0 < U.length:=List.length_pos_of_mem ha
    simp only [List.length_cons]
    omega
def goQ (bad:β→Bool) (f:β→Nat→β) (d:β) (N i:Nat) (Q:List β):Bool:=c5i bad f d (N - i) i Q
theorem b9m {bad:β→Bool} {f:β→Nat→β} {d:β} {N i:Nat} {Q:List β} (h:Q.length≤i):goQ bad f d N i Q=true:=by
 unfold goQ
 cases N - i with
 | zero=>rfl
 | succ n=>unfold c5i;rw [if_neg (by omega)]
theorem b9L {bad:β→Bool} {f:β→Nat→β} {d:β} {N i:Nat} {Q:List β} (h:i < Q.length) (hN:Q.length≤N) (hb:bad (Q.getD i d)=true):goQ bad f d N i Q=false:=by
 unfold goQ
 rw [show N - i=(N - (i+1))+1 by omega,c5i,if_pos h,if_pos hb]
theorem c4i {bad:β→Bool} {f:β→Nat→β} {d:β} {N i:Nat} {Q:List β} (h:i < Q.length) (hN:Q.length≤N) (hb:¬ bad (Q.getD i d)=true):goQ bad f d N i Q=goQ bad f d N (i+1) (b5I (f (Q.getD i d)) Q 32):=by
 unfold goQ
 rw [show N - i=(N - (i+1))+1 by omega,c5i,if_pos h,if_neg hb]
end
end Go.Proofs.YtdbbbafiegpbpaaGreatDoor
namespace Go.Proofs.YtdbbbafiegpbpaaGreatDoor
set_option linter.unusedSimpArgs false
set_option linter.unusedVariables false
set_option maxRecDepth 100000
set_option maxHeartbeats 1000000
open Go.RowKit
@[reducible] def a6s (p:Int×Int):Value:=.agg #[.int .i64 p.1,.int .i64 p.2]
theorem c4t (p q:Int×Int) (w:World):(Op.equal 76 (a6s p) (a6s q)).run Tryz.prog w=.ok (p.1 == q.1&&p.2 == q.2) w:=by
 obtain ⟨a,b⟩:=p
 obtain ⟨c,d⟩:=q
 have e:Op.equal 76 (a6s (a,b)) (a6s (c,d))=Op.equalIn (Op.maxDepth - 1+1) 76 (a6s (a,b)) (a6s (c,d)):=rfl
 have hp:∀ (x y:Int) (w:World),(part 3 #[.int .i64 x,.int .i64 y] 0).run Tryz.prog w=.ok (.int .i64 x) w:=fun x y w=>by kernel_rfl
 have hq:∀ (x y:Int) (w:World),(part 3 #[.int .i64 x,.int .i64 y] 1).run Tryz.prog w=.ok (.int .i64 y) w:=fun x y w=>by kernel_rfl
 have hi:∀ (x y:Int) (w:World),(Op.equalIn (Op.maxDepth - 1) 3 (.int .i64 x) (.int .i64 y)).run Tryz.prog w=.ok (x == y) w:=fun x y w=>by kernel_rfl
 cases e1:(a == c) <;> cases e2:(b == d) <;> simp [e,Op.equalIn,run_underlying Tryz.underlying76,Sem.run_bind,hp,hq,hi,e1,e2]
theorem b3J:KeyOk Tryz.prog 77 (Int×Int) a6s (.bool false) :=
 a7M (et:=4) (by kernel_rfl) Tryz.underlying76 (fun w=>by kernel_rfl) (fun b a w=>by obtain ⟨x,y⟩:=a;kernel_rfl) (fun p q w=>by
  rw [c4t]
  congr 1
  obtain ⟨a,b⟩:=p
  obtain ⟨c,d⟩:=q
  rw [Bool.eq_iff_iff]
  simp) (fun a=>by simp [Instr.sameBits])
def c9Y (n k lo0:Nat) (f0 fn:Nat→Nat→HV) (q:Nat×(Nat→Nat→HV)):Prop:=q.1≤lo0∧∀ i j,(i < n→q.2 (q.1+i) j=f0 (lo0+i) j)∧(i < k→q.2 (q.1+n+i) j=fn i j)
section
variable {P:Program} {ops:Array Oper} {C:Ctx} {Q:Exit→Act→World→Prop}
theorem c1V {ι:Type} {ok:ι→Prop} {x:ι→HV} {post:ι→List (Nat×HObj)} {pre:List (Nat×HObj)} {o:Oper} {rest:List Oper} {n clk:Nat} {tm:List (Nat×TV)} {hp:List (Nat×HObj)} (d:Nat)
    (hd:o.dst=some d) (hg:o.guard=none)
    (hst:∀ K w0 F0 E h (a:Act) w Q (N:Act→World→Prop),R K w0 F0 E h w→OpRep w E a.eval o (a0I (tget tm))→¬ E.G clk→(∃ c,∀ g',E.G g'→g' < c)→(∀ p∈pre,h p.1=some p.2) →
      (∀ q,ok q→∀ val w' E',Ext w E w' E'→R K w0 F0 E' (hupd h (post q)) w'→(∀ g',E'.G g'→E.G g'∨g'=clk)→Rep w' E' val (x q)→N (a.put o.dst val) w')→o.wp P a w N Q)
    (hpre:∀ p∈pre,hget hp p.1=some p.2) (hlt:Nat.blt d n=true) (hk:a0V tm d=true)
    (h:∀ q,ok q→HSeq C P ops rest ⟨n,(d,.v (x q))::tm,post q++hp,clk+1⟩ Q):HSeq C P ops (o::rest) ⟨n,tm,hp,clk⟩ Q:=by
  intro a w hs
  obtain ⟨E,e0,r,hG,hsz,hdf,ht⟩:=hs
  have hlt':d < n:=by simpa [Nat.blt_eq] using hlt
  unfold a8B
  refine c1D ?_
  rw [if_pos (by simp [Region.wanted,hg])]
  refine hst C.K C.w0 C.E0.F E (hget hp) a w Q _ r (fun y hv hx ho=>?_) (fun hg=>absurd (hG _ hg) (Nat.lt_irrefl _)) ⟨_,hG⟩ hpre (fun q hq val w' E' e r' hG' hv=>?_)
  · cases y with
    | tmp t =>
      simp only [ovl,a0I] at ho
      split at ho
      · rename_i y hy
        injection ho with ho
        subst ho
        exact ht t _ hy
      · cases ho
    | const v=>exact a4u w E _ v _ ho
    | global k=>injection ho with ho;subst ho;exact .imm _
    | func f=>injection ho with ho;subst ho;exact .fn (.func f) #[] 0 _ (fun _=>undef) rfl (fun i hi=>absurd hi (Nat.not_lt_zero _)) (fun i hi=>absurd hi (Nat.not_lt_zero _))
  · rw [hd]
    refine h q hq _ w' ⟨E',e0.trans e,by simp only [a0Q];exact r',fun g hg=>?_,by simp [Act.put,hsz],hdf.ext e,fun t y hy=>?_⟩
    · rcases hG' g hg with h1 | h1
      · exact Nat.lt_succ_of_lt (hG g h1)
      · rw [h1];exact Nat.lt_succ_self _
    · simp only [a0B] at hy
      have same':∀ (u:Value) (y:TV),(∀ j b z,y=.un j b z→j≠d)→TVRep w' E' a u y→TVRep w' E' (a.put (some d) val) u y:=by
        intro u y hy h
        cases y with
        | v z=>exact h
        | un j b z=>simp only [TVRep,a0y (hy j b z rfl)];exact h
      split at hy
      · rename_i htd
        subst htd
        injection hy with hy
        subst hy
        rw [a0W (by rw [hsz];exact hlt')]
        exact hv
      · rename_i htd
        rw [a0y htd]
        exact same' _ _ (fun j b z hz=>a2f hk t j b z (by rw [hy,hz])) ((ht t y hy).ext e)
theorem b3F {id gg lo n k s by_ m':Nat} {e:TypeId} {f fn:Nat→Nat→HV} {pre:List (Nat×HObj)} {x y:Operand} {T ty:TypeId} {pos:String} {af:Array Edge} {rest:List Oper} {n0 clk c':Nat} {tm:List (Nat×TV)} {hp:List (Nat×HObj)} (d:Nat)
    (hT:elInfo P T=some (e,s,by_,true)) (hby:by_≤1000) (h1:ovl (a0I (tget tm)) x=some (.os id gg lo n)) (hobj:hget hp id=some ⟨gg,lo+n,s,e,0,f⟩)
    (hsrc:b3h (a0I (tget tm)) y s k pre fn) (hpre:∀ p∈pre,hget hp p.1=some p.2) (hk0:0 < k) (hk:lo+n+k≤2000000000) (hlt:Nat.blt d n0=true) (hkk:a0V tm d=true) (hm':n+k=m') (hc':clk+1=c')
    (h:∀ q,c9Y n k lo f fn q→HSeq C P ops rest ⟨n0,(d,.v (.os id clk q.1 m'))::tm,(id,⟨clk,q.1+m',s,e,0,q.2⟩)::hp,c'⟩ Q) :
    HSeq C P ops (⟨some d,.call ⟨.builtin .append,#[x,y],#[T,T]⟩,ty,pos,af,none⟩::rest) ⟨n0,tm,hp,clk⟩ Q:=by
  subst hm';subst hc'
  refine c1V (pre:=(id,⟨gg,lo+n,s,e,0,f⟩)::pre) (ok:=c9Y n k lo f fn) (x:=fun q=>.os id clk q.1 (n+k)) (post:=fun q=>[(id,⟨clk,q.1+(n+k),s,e,0,q.2⟩)]) d rfl rfl ?_ (fun p hp=>?_) hlt hkk h
  · intro K w0 F0 E hh a w Q N r ht hG hBd hpre hN
    have ho:=hpre _ (List.mem_cons_self ..)
    simp only at ho
    have hX:=ht x _ (by simp [Op.operands,Call.operands]) h1
    obtain ⟨A,c,news,hy,hrd,hone,hnew⟩:=hsrc K w0 F0 E hh w (a.eval y) r (fun p hp=>hpre p (List.mem_cons_of_mem _ hp)) (fun hv h=>ht y hv (by simp [Op.operands,Call.operands]) h)
    obtain ⟨hu,i,z,hi,hz,his,hib,hzs,_⟩:=a4E hT
    obtain ⟨l,xs,hl,hown,hcap,hxs⟩:=r.owns ho (lo+n) (Nat.le_refl _) (Nat.zero_le _)
    obtain ⟨l0,hl0,at_⟩:=r.obj id _ ho
    rw [hl] at hl0;injection hl0 with hl0;subst hl0
    have hs0:0 < s:=at_.pos
    obtain ⟨ad,hA,hadB,hcells⟩:=hrd.2 hk0
    subst hA
    have hS:Src P i.size T (.slice (some ad) k c) k news w:=Src.ofSlice w hu ad k c news (by rw [his];exact hrd.1) hcells hone
    have hb:(lo+n+k) * by_≤140737488355328:=by have:=Nat.mul_le_mul hk hby;omega
    obtain ⟨v',w',hrun,h2,h3,h4⟩:=a5R (P:=P) w T ty e i z s by_ hu hi hz his hib hzs hs0 _ (lo+n) xs hown w.heap.size (some ad) k c news hrd hone (by unfold maxLen;omega) hb
    generalize hρ:a.eval x=u at hX
    cases hX with
    | os A1 _ c1 _ _ _ hgg hc hmm hA hz0 =>
      obtain ⟨hc1,hA1⟩:=hz0 l hl at_.g
      by_cases hroom:n+k≤c1
      · have hA1:=hA1 (.inr (by omega))
        rcases at_.at_ with ⟨hn0,hn1,_⟩ | ⟨b,cs,hb1,hb2,hb3,hb4,_⟩ | ⟨_,_,_,_,hr3,_⟩
        · omega
        · have hls:l.sz=s:=at_.sz
          rw [hb1] at hA1 hrun hown h3 h4
          rw [hls] at hA1
          simp only [Option.map_some] at hA1 hrun hown h3 h4
          simp only at hb2 hb3 hb4
          have hin:∀ j,j < news.length→(lo+n) * s+j < cs.size:=by
            intro j hj
            have h5:(lo+n+k) * s≤l.cap * s:=Nat.mul_le_mul_right s (by omega)
            rw [Nat.add_mul _ k] at h5
            rw [hrd.1] at hj
            rw [hb3];omega
          have hcc:∀ j,j < news.length→(w.cell? ⟨b,0+(lo+n) * i.size+j,none⟩).isSome=true:=by
            intro j hj;rw [hb2.cell,Nat.zero_add,his];simp [hin j hj]
          have hff:∀ j,j < news.length→w.frozen? ⟨b,0+(lo+n) * i.size+j,none⟩=false:=fun j _=>hb2.frozen _
          have e1:lo * s+n * i.size=0+(lo+n) * i.size:=by rw [his,Nat.add_mul,Nat.zero_add]
          have hr1:=run_append_room_src (P:=P) w T T ty e i hu hi b 0 (lo+n) l.cap _ k news hS (by omega) hcc hff
          rw [hr1] at hrun
          injection hrun with hv hw
          subst hv;subst hw
          obtain ⟨E',e',r',hg',hrep⟩:=r.append id _ l ho hl (lo+n) k clk (Nat.le_refl _) (Nat.zero_le _) hG fn xs news (by rw [hb1];exact hown) hxs hrd.1 hnew hone hcap _ h2 (by rw [hb1];exact h3) (by rw [hb1];exact h4)
          have r2:=r'
          simp only [Nat.add_assoc] at r2
          have hr2:=run_append_room_src (P:=P) w T T ty e i hu hi b (lo * s) n c1 _ k news hS hroom (by simpa only [e1] using hcc) (by simpa only [e1] using hff)
          rw [e1] at hr2
          refine a3e (v:=.slice (some ⟨b,lo * s,none⟩) (n+k) c1) (w':=w.setCells b (0+(lo+n) * i.size) news) ?_ (hN (lo,cat (lo+n) f fn) ⟨Nat.le_refl _,fun i j=>⟨fun hi=>a5S (by omega),fun _=>by show cat (lo+n) f fn (lo+n+i) j=_;rw [a5n (by omega),show lo+n+i - (lo+n)=i by omega]⟩⟩ _ _ E' e' r2 hg' ?_)
          · simp only [execOp,resolve,invoke,builtin,Sem.run_bind,Sem.run_pure,Result.andThen_ok,List.map_toArray,List.map_cons,List.map_nil,hρ,hy,hA1,hr2]
          · cases hrep with
            | os _ _ _ _ _ _ hg2 hc2 hm2 hA2 hz2 =>
              have hAA:∀ l2,E'.L id=some l2→l2.g=clk→l2.A=some b∧l2.cap=l.cap∧l2.sz=s:=by
                intro l2 hl2 hlg
                obtain ⟨b',k',hb',hh2⟩:=hA2 (by omega)
                injection hb' with hb';injection hb' with hb' hk';
                obtain ⟨lo2,hlo2,a2⟩:=r'.obj id _ (a0v ..)
                rw [hl2] at hlo2;injection hlo2 with hlo2;subst hlo2
                have:=(hz2 l2 hl2 hlg).1
                have hsz2:l2.sz=s:=a2.sz
                exact ⟨by rw [(hh2 l2 hl2 hlg).1,←hb'],by omega,hsz2⟩
              refine .os _ _ _ _ _ _ hg2 hroom (by omega) (fun _=>⟨b,lo * s,rfl,fun l2 hl2 hlg=>?_⟩) (fun l2 hl2 hlg=>?_)
              · obtain ⟨q1,q2,q3⟩:=hAA l2 hl2 hlg
                exact ⟨q1,by rw [q3]⟩
              · obtain ⟨q1,q2,q3⟩:=hAA l2 hl2 hlg
                exact ⟨by omega,fun _=>by rw [q1,q3];rfl⟩
        · have:=hr3.n;have:=hr3.fl;have h0:(0:Nat)=1:=this;omega
      ·
        have hold:∃ olds:List Value,olds.length=n * s∧(∀ i j,i < n→j < s→∃ u,olds[i * s+j]?=some u∧u.oneCell'=true∧Rep w E u (f (lo+i) j))∧(∀ u∈olds,u.oneCell'=true)∧∀ w2:World,(∀ b,b < w.heap.size→w2.heap[b]?=w.heap[b]?)→(Builtin.firstCells i.size n (.slice A1 n c1)).run P w2=.ok olds.toArray w2:=by
          rcases Nat.eq_zero_or_pos n with hn0 | hn0
          · subst hn0
            refine ⟨[],by simp,fun i j hi=>absurd hi (Nat.not_lt_zero _),(fun u hu=>by cases hu),fun w2 _=>?_⟩
            cases A1 with
            | none=>exact run_firstCells_none ..
            | some ad1=>exact run_firstCells_some w2 i.size 0 ad1 0 c1 [] (by simp) (fun j v hv=>by cases hv)
          · obtain ⟨b1,k1,hA2,hh2⟩:=hA hn0
            obtain ⟨hlA,hk1⟩:=hh2 l hl at_.g
            subst hA2;subst hk1
            rcases at_.at_ with ⟨hn1,_,hn2,_⟩ | ⟨b,cs,hb1,hb2,hb3,hb4,_,_,⟨vs,h8⟩,_⟩ | ⟨_,_,_,_,hr3,_⟩
            · rw [hn1] at hlA;cases hlA
            · rw [hlA] at hb1;injection hb1 with hb1;subst hb1
              simp only at hb2 hb3 hb4 h8
              have hls:l.sz=s:=at_.sz
              refine ⟨b1K s n (fun i j=>vs (lo+i) j),a2l ..,fun i j hi hj=>⟨_,a5b hi hj,(h8 _ _ (by omega) hj).2⟩,fun u hu=>?_,fun w2 hw2=>?_⟩
              · obtain ⟨p,hp,rfl⟩:=List.mem_map.1 hu
                rw [List.mem_range] at hp
                exact (h8 _ _ (Nat.add_lt_add_left (Nat.div_lt_of_lt_mul (by rw [Nat.mul_comm];exact hp)) lo) (Nat.mod_lt _ hs0)).2.1
              · refine run_firstCells_some w2 i.size n ⟨b1,lo * l.sz,none⟩ n c1 _ (by rw [his];exact a2l ..) (fun j v hv=>?_)
                have hjl:j < n * s:=by
                  rcases Nat.lt_or_ge j (n * s) with g | g
                  · exact g
                  · rw [List.getElem?_eq_none (by rw [a2l];exact g)] at hv;cases hv
                have hd1:j / s < n:=Nat.div_lt_of_lt_mul (by rw [Nat.mul_comm];exact hjl)
                have hmd:j / s * s+j % s=j:=Nat.div_add_mod' j s
                have hg:=a5b (vs:=fun i j=>vs (lo+i) j) hd1 (Nat.mod_lt j hs0)
                rw [hmd,hv] at hg
                injection hg with hg
                rw [hg,Addr.add_lit,World.cell?_of_block (a:=⟨b1,lo * l.sz+j,none⟩) (hw2 b1 hb2.lt),hb2.cell,hls,←(h8 (lo+j / s) (j % s) (by omega) (Nat.mod_lt _ hs0)).1]
                congr 1
                rw [Nat.add_mul];omega
            · have h0:lo+n=0:=hr3.n;omega
        obtain ⟨olds,ho1,ho2,ho3,ho4⟩:=hold
        have hgr:=run_append_grow_src (P:=P) w T T ty e i z hu hi hz A1 n c1 olds (ho4 w.drew (fun _ _=>rfl)) _ k news hS (by omega) (by unfold maxLen at *;omega) (growslice_fits (by omega) (by rw [hib];have:(n+k) * by_≤(lo+n+k) * by_:=Nat.mul_le_mul_right _ (by omega);omega))
        have hlen:(olds++news).length=(n+k) * s:=by rw [List.length_append,ho1,hrd.1,Nat.add_mul]
        have hge:=grownCap_ge w (n+k) c1 e
        have hcm:grownCap w (n+k) c1 e≤maxLen:=grownCap_le_maxLen w (n+k) c1 e (by unfold maxLen;omega)
        obtain ⟨l9,xs9,hl9,hown9,hcap9,hxs9⟩:=r.owns ho 0 (Nat.zero_le _) (Nat.le_refl _)
        rw [hl] at hl9;injection hl9 with hl9;subst hl9
        have hx9:xs9=[]:=List.eq_nil_of_length_eq_zero (by simpa using hown9.1)
        subst hx9
        have hgb:∀ row,w.grownBy (w.drew.alloc (.cells ((olds++news).toArray++Builtin.zeroCells z.cells (grownCap w (n+k) c1 e - (n+k))) e)) row:=fun row=>⟨rfl,rfl,rfl,by simp,fun k1 hk1 _=>heap_alloc_old w.drew _ hk1⟩
        have a1:∀ i j,i < n+k→j < s→∃ u,(olds++news)[i * s+j]?=some u∧Rep w E u (cat n (fun i j=>f (lo+i) j) fn i j):=by
          intro i j hi hj
          by_cases hin:i < n
          · obtain ⟨u,q1,_,q3⟩:=ho2 i j hin hj
            refine ⟨u,?_,by rw [a5S hin];exact q3⟩
            rw [List.getElem?_append_left (by rw [ho1];exact a6L hin hj)]
            exact q1
          · obtain ⟨u,q1,q2⟩:=hnew (i - n) j (by omega) hj
            refine ⟨u,?_,by rw [a5n (by omega)];exact q2⟩
            have e1:i * s=n * s+(i - n) * s:=by rw [←Nat.add_mul];congr 1;omega
            rw [List.getElem?_append_right (by rw [ho1];omega),ho1,show i * s+j - n * s=(i - n) * s+j from by omega]
            exact q1
        have a2:((olds++news).toArray++Builtin.zeroCells z.cells (grownCap w (n+k) c1 e - (n+k))).size=grownCap w (n+k) c1 e * s:=by
          simp only [Array.size_append,List.size_toArray,size_zeroCells,hzs,hlen,←Nat.add_mul]
          congr 1
          omega
        have a3:((olds++news).toArray++Builtin.zeroCells z.cells (grownCap w (n+k) c1 e - (n+k))).toList.take ((0+(n+k)) * s)=[]++(olds++news):=by
          simp only [Array.toList_append,List.nil_append,Nat.zero_add]
          rw [←hlen]
          exact List.take_left
        obtain ⟨E',e',r',hg',hrep⟩:=r.append id _ l ho hl 0 (n+k) clk (Nat.zero_le _) (Nat.le_refl _) hG (cat n (fun i j=>f (lo+i) j) fn) [] (olds++news) hown9 hxs9 hlen a1 (fun u hu=>(List.mem_append.1 hu).elim (ho3 u) (hone u)) hcap
          (.slice (some ⟨w.heap.size,0,none⟩) (n+k) (grownCap w (n+k) c1 e)) (w':=w.drew.alloc (.cells ((olds++news).toArray++Builtin.zeroCells z.cells (grownCap w (n+k) c1 e - (n+k))) e))
          ⟨by simpa using hlen,.inr ⟨w.heap.size,_,_,by rw [Nat.zero_add],Nat.zero_le _,heap_alloc_new w.drew _,by simpa using hge,hcm,a2,a3⟩⟩ (hgb _) (.inr ⟨rfl,hgb none⟩)
        have hcat0:cat 0 f (cat n (fun i j=>f (lo+i) j) fn)=cat n (fun i j=>f (lo+i) j) fn:=by
          funext i j;rw [a5n (Nat.zero_le _),Nat.sub_zero]
        simp only [Nat.zero_add,hcat0] at r' hrep
        refine a3e (v:=.slice (some ⟨w.heap.size,0,none⟩) (n+k) (grownCap w (n+k) c1 e)) ?_ (hN (0,cat n (fun i j=>f (lo+i) j) fn) ⟨Nat.zero_le _,fun i j=>⟨fun hi=>by show cat n (fun i j=>f (lo+i) j) fn (0+i) j=_;rw [Nat.zero_add,a5S hi],fun _=>by show cat n (fun i j=>f (lo+i) j) fn (0+n+i) j=_;rw [Nat.zero_add,a5n (by omega),show n+i - n=i by omega]⟩⟩ _ _ E' e' (by show R K w0 F0 E' (a2K hh id _) _;rw [show (0,cat n (fun i j=>f (lo+i) j) fn).1+(n+k)=n+k from Nat.zero_add _];exact r') hg' hrep)
        simp only [execOp,resolve,invoke,builtin,Sem.run_bind,Sem.run_pure,Result.andThen_ok,List.map_toArray,List.map_cons,List.map_nil,hρ,hy,hgr]
  · rcases List.mem_cons.1 hp with rfl | hp
    · exact hobj
    · exact hpre p hp
end
end Go.Proofs.YtdbbbafiegpbpaaGreatDoor
namespace Go.Proofs.YtdbbbafiegpbpaaGreatDoor
set_option linter.unusedSimpArgs false
set_option linter.unusedVariables false
section
variable {α:Type} [DecidableEq α]
def ixA (b:α):List α→Nat→Option Nat
 | [],_=>none
 | x::r,i=>if x=b then some i else ixA b r (i+1)
def idA (S:List α) (b:α):Option Nat:=ixA b (S.drop 1) 1
theorem b6b {b:α}:∀ {S:List α} {i n:Nat},ixA b S i=some n→∃ k,n=i+k∧S[k]?=some b
  | [],i,n,h=>by cases h
  | x :: r, i, n, h => by
    unfold ixA at h
    split at h
    · rename_i e;injection h with h;exact ⟨0,by omega,by rw [e];rfl⟩
    · obtain ⟨k,h1,h2⟩:=b6b h
      exact ⟨k+1,by omega,by simpa using h2⟩
theorem b5Q {b:α}:∀ {S:List α} {i:Nat},ixA b S i=none↔b∉S
  | [],i=>by simp [ixA]
  | x :: r, i => by
    unfold ixA
    by_cases e:x=b
    · rw [if_pos e];simp [e]
    · rw [if_neg e,b5Q,List.mem_cons,not_or];exact ⟨fun h=>⟨fun h'=>e h'.symm,h⟩,fun h=>h.2⟩
theorem c8F {S:List α} {b:α} {n:Nat} (h:idA S b=some n):1≤n∧n < S.length∧S[n]?=some b:=by
 obtain ⟨k,h1,h2⟩:=b6b h
 rw [List.getElem?_drop] at h2
 subst h1
 have:1+k < S.length:=by
  rcases Nat.lt_or_ge (1+k) S.length with g | g
  ·exact g
  ·rw [List.getElem?_eq_none g] at h2;cases h2
 exact ⟨by omega,this,h2⟩
def a4a (z:α) (S:List α) (b:α):List α×Int:=if b=z then (S,-1) else match idA S b with
 | some n=>(S,(n:Int))
 | none=>(S++[b],(S.length:Int))
def a1z (z:α) (g:Nat→α) (S:List α):Nat→List α×List Int
 | 0=>(S,[])
 | k+1=>((a4a z (a1z z g S k).1 (g k)).1,(a1z z g S k).2++[(a4a z (a1z z g S k).1 (g k)).2])
theorem b1j (z:α) (S:List α) (b:α):S.length≤(a4a z S b).1.length∧(a4a z S b).1.length≤S.length+1:=by
 unfold a4a
 split
 ·exact ⟨Nat.le_refl _,Nat.le_succ _⟩
 ·split
  ·exact ⟨Nat.le_refl _,Nat.le_succ _⟩
  ·simp
theorem a3O (z:α) (g:Nat→α) (S:List α):∀ k,S.length≤(a1z z g S k).1.length∧(a1z z g S k).1.length≤S.length+k∧(a1z z g S k).2.length=k
  | 0=>⟨Nat.le_refl _,Nat.le_refl _,rfl⟩
  | k + 1 => by
    have ih:=a3O z g S k
    have hp:=b1j z (a1z z g S k).1 (g k)
    unfold a1z
    simp only [List.length_append,List.length_cons,List.length_nil]
    omega
theorem c5S (z:α) (S:List α) (hS:0 < S.length) (b:α):-1≤(a4a z S b).2∧(a4a z S b).2 < (a4a z S b).1.length∧(a4a z S b).2≠0:=by
 unfold a4a
 split
 ·exact ⟨Int.le_refl _,by show (-1:Int) < (S.length:Int);omega,by show (-1:Int)≠0;decide⟩
 ·split
  ·rename_i n hn
   have:=c8F hn
   exact ⟨by show (-1:Int)≤(n:Int);omega,by show (n:Int) < (S.length:Int);omega,by show (n:Int)≠0;omega⟩
  ·refine ⟨by show (-1:Int)≤(S.length:Int);omega,?_,by show (S.length:Int)≠0;omega⟩
   show (S.length:Int) < ((S++[b]).length:Int)
   rw [List.length_append];show (S.length:Int) < ((S.length+1:Nat):Int);omega
theorem b8B (z:α) (g:Nat→α) (S:List α) (hS:0 < S.length):∀ k,∀ x∈(a1z z g S k).2,-1≤x∧x < (a1z z g S k).1.length∧x≠0
  | 0=>fun x h=>by cases h
  | k + 1 => fun x h => by
    have hl:=a3O z g S k
    have hp:=b1j z (a1z z g S k).1 (g k)
    have ht:=c5S z (a1z z g S k).1 (by omega) (g k)
    unfold a1z at h ⊢
    rcases List.mem_append.1 h with h | h
    · have:=b8B z g S hS k x h
      exact ⟨this.1,by show x < ((a4a z (a1z z g S k).1 (g k)).1.length:Int);omega,this.2.2⟩
    · simp only [List.mem_cons,List.not_mem_nil,or_false] at h
      subst h
      exact ht
def c3F (z:α) (g:List α→Nat→Nat→α):Nat→Nat→List α→List (List Int)→Option (List α×List (List Int))
 | 0,at_,S,R=>some (S,R)
 | n+1,at_,S,R=>if at_ < S.length then (if 200 < (a1z z (g S at_) S 32).1.length then none else c3F z g n (at_+1) (a1z z (g S at_) S 32).1 (R++[(a1z z (g S at_) S 32).2])) else some (S,R)
def goA (z:α) (g:List α→Nat→Nat→α) (at_:Nat) (S:List α) (R:List (List Int)):Option (List α×List (List Int)):=c3F z g (200 - at_) at_ S R
theorem b8f {z:α} {g:List α→Nat→Nat→α} {at_:Nat} {S:List α} {R:List (List Int)} (h:S.length≤at_):goA z g at_ S R=some (S,R):=by
 unfold goA
 cases 200 - at_ with
 | zero=>rfl
 | succ n=>unfold c3F;rw [if_neg (by omega)]
theorem c6B {z:α} {g:List α→Nat→Nat→α} {at_:Nat} {S:List α} {R:List (List Int)} (h:at_ < S.length) (hS:S.length≤200) (h3:200 < (a1z z (g S at_) S 32).1.length):goA z g at_ S R=none:=by
 unfold goA
 rw [show 200 - at_=(200 - (at_+1))+1 by omega,c3F,if_pos h,if_pos h3]
theorem c7V {z:α} {g:List α→Nat→Nat→α} {at_:Nat} {S:List α} {R:List (List Int)} (h:at_ < S.length) (hS:S.length≤200) (h3:¬ 200 < (a1z z (g S at_) S 32).1.length):goA z g at_ S R=goA z g (at_+1) (a1z z (g S at_) S 32).1 (R++[(a1z z (g S at_) S 32).2]):=by
 unfold goA
 rw [show 200 - at_=(200 - (at_+1))+1 by omega,c3F,if_pos h,if_neg h3]
end
end Go.Proofs.YtdbbbafiegpbpaaGreatDoor
namespace Go.Proofs.YtdbbbafiegpbpaaGreatDoor
set_option linter.unusedSimpArgs false
set_option linter.unusedVariables false
open Go.RowKit
theorem b8s {α:Type} {w:World} {E:Env} {v:Value} (sz:Nat) (enc:α→List Value) (henc:∀ x,(enc x).length=sz) (encF:α→Nat→HV) (hF:∀ x j,j < sz→encF x j=.imm ((enc x).getD j undef)) (d:α) (l:List α)
    (h:Rep w E v (.sl sz l.length (fun i=>encF (l.getD i d)))):∃ A c,v=.slice A l.length c∧l.length≤c∧c≤maxLen∧Sl w w.heap.size sz enc A l:=by
  cases h with
  | sl A _ c _ _ vs hc hm hA h =>
    refine ⟨A,c,rfl,hc,hm,henc,a3E henc l,fun hn=>?_⟩
    obtain ⟨b,o,rfl,hlt,hcell⟩:=hA hn
    refine ⟨_,rfl,hlt,fun p u hu=>?_⟩
    have hp:p < l.length * sz:=by
      rcases Nat.lt_or_ge p (l.flatMap enc).length with h1 | h1
      · rwa [a3E henc] at h1
      · rw [List.getElem?_eq_none h1] at hu;cases hu
    have hs:0 < sz:=Nat.pos_of_ne_zero (fun h0=>by subst h0;simp at hp)
    have hi:p / sz < l.length:=(Nat.div_lt_iff_lt_mul hs).2 hp
    have hj:p % sz < sz:=Nat.mod_lt _ hs
    have e1:p=p / sz * sz+p % sz:=by rw [Nat.mul_comm];exact (Nat.div_add_mod p sz).symm
    rw [a3c,e1,(hcell _ _ hi hj).2.1]
    rw [e1,a1S henc l _ _ hi hj] at hu
    have hr:Rep w E (vs (p / sz) (p % sz)) (encF (l.getD (p / sz) d) (p % sz)):=h _ _ hi hj
    rw [hF _ _ hj] at hr
    have hv:=hr.imm_inv
    rw [hv]
    have hg:l.getD (p / sz) d=l[p / sz]:=by simp [List.getD,List.getElem?_eq_getElem hi]
    rw [hg]
    have:(enc l[p / sz]).getD (p % sz) undef=u:=by simp [List.getD,hu]
    rw [this]
theorem a8c {w w':World} {F:Addr→Prop} {u:Value} (hF:∀ a,F a→a.spot=none∧(w.cell? a).isSome=true) (hb:Below w.heap.size w w'):a1a w F (.imm u) (.returned u) w' :=
 ⟨hb,u,F,rfl,fun _ h=>h,fun _ h=>.inl h,fun a ha=>⟨(hF a ha).1,by rw [World.cell?_of_block (hb.block _ (a1p (hF a ha).2))];exact (hF a ha).2⟩,.imm u⟩
theorem b4u {w:World} {n:Nat}:Below w.heap.size w (w.drewN n):=a8X (Below.refl _ _) n
theorem b6Z {α:Type} {w w':World} {F:Addr→Prop} (hF:∀ a,F a→a.spot=none∧(w.cell? a).isSome=true) {e:TypeId} {sz:Nat} {enc:α→List Value} (encF:α→Nat→HV) (hFe:∀ x j,j < sz→encF x j=.imm ((enc x).getD j undef)) (h1:∀ x,∀ u∈enc x,u.oneCell'=true) (d:α) {l:List α} {en:Ending}
  (h:a8T e sz enc w l en w'):a1a w F (.sl sz l.length (fun i=>encF (l.getD i d))) en w':=by
 obtain ⟨A,c,rfl,hown,hb⟩:=h
 have henc:=hown.1
 have hFk:∀ a,F a→(w'.cell? a)=w.cell? a:=fun a ha=>World.cell?_of_block (hb.block _ (a1p (hF a ha).2))
 rcases hown.2.2 with ⟨hv,hn⟩ | ⟨b,cap,cur,hv,hbase,hblk,hn,hcap,hsz,htake⟩
 ·injection hv with hA _ hc
  subst hA;subst hc
  have hl:l=[]:=List.eq_nil_of_length_eq_zero hn
  subst hl
  refine ⟨hb,_,F,rfl,fun _ h=>h,fun _ h=>.inl h,fun a ha=>⟨(hF a ha).1,by rw [hFk a ha];exact (hF a ha).2⟩,?_⟩
  exact .sl _ 0 0 sz _ (fun _ _=>undef) (Nat.le_refl _) (Nat.zero_le _) (fun h=>absurd h (Nat.lt_irrefl _)) (fun i j hi=>absurd hi (Nat.not_lt_zero _))
 ·injection hv with hA _ hc
  subst hA;subst hc
  have hB:Blk w' b e cur:=hblk
  have hcell:∀ i j,i < l.length→j < sz→w'.cell? ⟨b,i * sz+j,none⟩=some ((enc (l.getD i d)).getD j undef):=by
   intro i j hi hj
   have hlt:=a6L (sz:=sz) hi hj
   have hg:l.getD i d=l[i]:=by simp [List.getD,List.getElem?_eq_getElem hi]
   have hj':j < (enc l[i]).length:=by rw [henc];exact hj
   have hg2:(enc l[i]).getD j undef=(enc l[i])[j]:=by simp [List.getD,List.getElem?_eq_getElem hj']
   rw [hB.cell,hg,hg2,←Array.getElem?_toList]
   have:=a1S henc l i j hi hj
   rw [←htake,List.getElem?_take,if_pos hlt] at this
   rw [this,List.getElem?_eq_getElem hj']
  refine ⟨hb,_,fun a=>F a∨(a.block=b∧a.spot=none∧a.off < l.length * sz),rfl,fun _ h=>.inl h,fun a ha=>?_,fun a ha=>?_,?_⟩
  ·rcases ha with ha | ⟨ha,_⟩
   ·exact .inl ha
   ·exact .inr (by rw [ha];exact hbase)
  ·rcases ha with ha | ⟨ha,hs,ho⟩
   ·exact ⟨(hF a ha).1,by rw [hFk a ha];exact (hF a ha).2⟩
   ·obtain ⟨ab,ao,asp⟩:=a
    simp only at ha hs ho
    subst ha;subst hs
    refine ⟨rfl,?_⟩
    have:ao < cur.size:=by rw [hsz];exact Nat.lt_of_lt_of_le ho (Nat.mul_le_mul_right _ hn)
    rw [hB.cell,Array.getElem?_eq_getElem this];rfl
  ·refine .sl _ _ _ sz _ (fun i j=>(enc (l.getD i d)).getD j undef) hn hcap (fun hp=>⟨b,0,rfl,hB.lt,fun i j hi hj=>?_⟩) (fun i j hi hj=>by show Rep _ _ _ (encF _ _);rw [hFe _ _ hj];exact .imm _)
   rw [Nat.zero_add]
   refine ⟨.inr ⟨rfl,rfl,a6L hi hj⟩,hcell i j hi hj,?_⟩
   have hj':j < (enc (l.getD i d)).length:=by rw [henc];exact hj
   have hg2:(enc (l.getD i d)).getD j undef=(enc (l.getD i d))[j]:=by rw [List.getD_eq_getElem?_getD,List.getElem?_eq_getElem hj'];rfl
   rw [hg2]
   exact h1 _ _ (List.getElem_mem hj')
theorem c8Y {w:World} {E:Env} {vs:List Value} {x:HV} (h:RepAll w E vs [x]):∃ v,vs=[v]∧Rep w E v x:=by
 match vs,h with
 | [v],h=>exact ⟨v,rfl,h.1⟩
theorem c6P {w:World} {E:Env} {vs:List Value} {x y:HV} (h:RepAll w E vs [x,y]):∃ u v,vs=[u,v]∧Rep w E u x∧Rep w E v y:=by
 match vs,h with
 | [u,v],h=>exact ⟨u,v,rfl,h.1,h.2.1⟩
def c6Q (w:World) (a:Addr):Prop:=a.spot=none∧(w.cell? a).isSome=true
theorem c3q {α:Type} {w:World} {B:Nat} {A:Option Addr} {c:Nat} (sz:Nat) (hs:0 < sz) (enc:α→List Value) (enc1:∀ x,∀ u∈enc x,u.oneCell'=true) (encF:α→Nat→HV) (d:α) (l:List α) (hc:l.length≤c) (hm:c≤maxLen) (h:Sl w B sz enc A l)
  (hr:∀ i j,i < l.length→j < sz→Rep w (Env.just (c6Q w)) ((enc (l.getD i d)).getD j undef) (encF (l.getD i d) j)):Rep w (Env.just (c6Q w)) (.slice A l.length c) (.sl sz l.length (fun i=>encF (l.getD i d))):=by
 refine .sl A l.length c sz _ (fun i j=>(enc (l.getD i d)).getD j undef) hc hm (fun hn=>?_) hr
 obtain ⟨b,o,rfl,hb⟩:=h.addr hn hs
 have cell:∀ i j,i < l.length→j < sz→w.cell? ⟨b,o+(i * sz+j),none⟩=some ((enc (l.getD i d)).getD j undef)∧((enc (l.getD i d)).getD j undef).oneCell'=true:=by
  intro i j hi hj
  have:=h.cell_ hi j hj
  have hg:l.getD i d=l[i]:=by rw [List.getD_eq_getElem?_getD,List.getElem?_eq_getElem hi];rfl
  have hj':j < (enc l[i]).length:=by rw [h.1];exact hj
  have hg2:(enc l[i]).getD j undef=(enc l[i])[j]:=by rw [List.getD_eq_getElem?_getD,List.getElem?_eq_getElem hj'];rfl
  rw [hg,hg2,show o+(i * sz+j)=o+i * sz+j from by omega,this,List.getElem?_eq_getElem hj']
  exact ⟨rfl,enc1 _ _ (List.getElem_mem hj')⟩
 have hlt:b < w.heap.size:=by
  have:=(cell 0 0 hn hs).1
  exact World.block_lt_of_cell? w _ this
 exact ⟨b,o,rfl,hlt,fun i j hi hj=>⟨⟨rfl,by rw [(cell i j hi hj).1];rfl⟩,(cell i j hi hj).1,(cell i j hi hj).2⟩⟩
theorem c1a {P:Program} {f:FuncId} {xs:List HV} (h:HPure P f xs (boolV true)) (w:World) (vs:List Value) (hr:RepAll w (Env.just (c6Q w)) vs xs) (hw:LibW w):Calls P f vs.toArray w fun e w'=>e=.returned (.bool true)∧Below w.heap.size w w':=by
 refine (h.2 w (c6Q w) vs (fun a h=>h) hr hw).mono ?_
 rintro e w' ⟨hb,v,F',rfl,_,_,_,hv⟩
 rw [hv.imm_inv]
 exact ⟨rfl,hb⟩
end Go.Proofs.YtdbbbafiegpbpaaGreatDoor
namespace Go.Proofs
open Go.Shelf
def Tryz.laysC172_ren:Go.Shelf.Ren:=⟨fun | 172=>117 | 244=>118 | 245=>119 | 247=>120 | 279=>121 | 280=>122 | 281=>123 | 282=>124 | 287=>125 | 316=>126 | 171=>128 | 205=>127 | 321=>129 | 322=>130 | 243=>131 | 246=>132 | 283=>133 | 284=>134 | 285=>135 | 286=>136 | 129=>138 | 317=>137 | 318=>139 | 319=>140 | 320=>141 | 337=>142 | 338=>60 | n=>n,fun | 9=>9 | 3=>3 | 75=>192 | 76=>193 | 4=>4 | 5=>5 | 167=>196 | 37=>197 | 0=>0 | 85=>198 | 2=>2 | 168=>200 | 53=>44 | 175=>203 | 46=>136 | 210=>207 | 127=>211 | 145=>214 | 143=>212 | 21=>21 | 171=>216 | 173=>218 | 212=>221 | 51=>222 | 20=>20 | 213=>223 | 232=>226 | 233=>171 | 80=>227 | n=>n,fun | 15=>2 | 16=>3 | 17=>4 | 18=>5 | 19=>0 | n=>n⟩
theorem Tryz.laysC172:Go.Proofs.LaysC.n172 Tryz.prog Tryz.laysC172_ren:={
 mixed:=by kernel_rfl
 f129:=Tryz.func138.trans (congrArg some (by kernel_rfl))
 f171:=Tryz.func128.trans (congrArg some (by kernel_rfl))
 f172:=Tryz.func117.trans (congrArg some (by kernel_rfl))
 f205:=Tryz.func127.trans (congrArg some (by kernel_rfl))
 f243:=Tryz.func131.trans (congrArg some (by kernel_rfl))
 f244:=Tryz.func118.trans (congrArg some (by kernel_rfl))
 f245:=Tryz.func119.trans (congrArg some (by kernel_rfl))
 f246:=Tryz.func132.trans (congrArg some (by kernel_rfl))
 f247:=Tryz.func120.trans (congrArg some (by kernel_rfl))
 f279:=Tryz.func121.trans (congrArg some (by kernel_rfl))
 f280:=Tryz.func122.trans (congrArg some (by kernel_rfl))
 f281:=Tryz.func123.trans (congrArg some (by kernel_rfl))
 f282:=Tryz.func124.trans (congrArg some (by kernel_rfl))
 f283:=Tryz.func133.trans (congrArg some (by kernel_rfl))
 f284:=Tryz.func134.trans (congrArg some (by kernel_rfl))
 f285:=Tryz.func135.trans (congrArg some (by kernel_rfl))
 f286:=Tryz.func136.trans (congrArg some (by kernel_rfl))
 f287:=Tryz.func125.trans (congrArg some (by kernel_rfl))
 f316:=Tryz.func126.trans (congrArg some (by kernel_rfl))
 f317:=Tryz.func137.trans (congrArg some (by kernel_rfl))
 f318:=Tryz.func139.trans (congrArg some (by kernel_rfl))
 f319:=Tryz.func140.trans (congrArg some (by kernel_rfl))
 f320:=Tryz.func141.trans (congrArg some (by kernel_rfl))
 f321:=Tryz.func129.trans (congrArg some (by kernel_rfl))
 f322:=Tryz.func130.trans (congrArg some (by kernel_rfl))
 f337:=Tryz.func142.trans (congrArg some (by kernel_rfl))
 f338:=Tryz.func60.trans (congrArg some (by kernel_rfl))
 t0:=Tryz.underlying0
 a0:=Tryz.isAgg0
 z0:=Tryz.sizeOf0
 v0:=Tryz.zeroValue0
 t2:=Tryz.underlying2
 a2:=Tryz.isAgg2
 z2:=Tryz.sizeOf2
 v2:=Tryz.zeroValue2
 t3:=Tryz.underlying3
 a3:=Tryz.isAgg3
 z3:=Tryz.sizeOf3
 v3:=Tryz.zeroValue3
 t4:=Tryz.underlying4
 a4:=Tryz.isAgg4
 z4:=Tryz.sizeOf4
 v4:=Tryz.zeroValue4
 t5:=Tryz.underlying5
 a5:=Tryz.isAgg5
 z5:=Tryz.sizeOf5
 v5:=Tryz.zeroValue5
 t9:=Tryz.underlying9
 a9:=Tryz.isAgg9
 z9:=Tryz.sizeOf9
 v9:=Tryz.zeroValue9
 t20:=Tryz.underlying20
 a20:=Tryz.isAgg20
 z20:=Tryz.sizeOf20
 v20:=Tryz.zeroValue20
 t21:=Tryz.underlying21
 a21:=Tryz.isAgg21
 z21:=Tryz.sizeOf21
 v21:=Tryz.zeroValue21
 t37:=Tryz.underlying197
 a37:=Tryz.isAgg197
 z37:=Tryz.sizeOf197
 v37:=Tryz.zeroValue197
 t46:=Tryz.underlying136
 a46:=Tryz.isAgg136
 z46:=Tryz.sizeOf136
 v46:=Tryz.zeroValue136
 t51:=Tryz.underlying222
 a51:=Tryz.isAgg222
 z51:=Tryz.sizeOf222
 v51:=Tryz.zeroValue222
 t53:=Tryz.underlying44
 a53:=Tryz.isAgg44
 z53:=Tryz.sizeOf44
 v53:=Tryz.zeroValue44
 t75:=Tryz.underlying192
 a75:=Tryz.isAgg192
 z75:=Tryz.sizeOf192
 v75:=Tryz.zeroValue192
 t76:=Tryz.underlying193
 a76:=Tryz.isAgg193
 z76:=Tryz.sizeOf193
 v76:=Tryz.zeroValue193
 t85:=Tryz.underlying198
 a85:=Tryz.isAgg198
 z85:=Tryz.sizeOf198
 v85:=Tryz.zeroValue198
 t127:=Tryz.underlying211
 a127:=Tryz.isAgg211
 z127:=Tryz.sizeOf211
 v127:=Tryz.zeroValue211
 t143:=Tryz.underlying212
 a143:=Tryz.isAgg212
 z143:=Tryz.sizeOf212
 v143:=Tryz.zeroValue212
 t145:=Tryz.underlying214
 a145:=Tryz.isAgg214
 z145:=Tryz.sizeOf214
 v145:=Tryz.zeroValue214
 t167:=Tryz.underlying196
 a167:=Tryz.isAgg196
 z167:=Tryz.sizeOf196
 v167:=Tryz.zeroValue196
 t168:=Tryz.underlying200
 a168:=Tryz.isAgg200
 z168:=Tryz.sizeOf200
 v168:=Tryz.zeroValue200
 t171:=Tryz.underlying216
 a171:=Tryz.isAgg216
 z171:=Tryz.sizeOf216
 v171:=Tryz.zeroValue216
 t173:=Tryz.underlying218
 a173:=Tryz.isAgg218
 z173:=Tryz.sizeOf218
 v173:=Tryz.zeroValue218
 t175:=Tryz.underlying203
 a175:=Tryz.isAgg203
 z175:=Tryz.sizeOf203
 v175:=Tryz.zeroValue203
 t210:=Tryz.underlying207
 a210:=Tryz.isAgg207
 z210:=Tryz.sizeOf207
 v210:=Tryz.zeroValue207
 t212:=Tryz.underlying221
 a212:=Tryz.isAgg221
 z212:=Tryz.sizeOf221
 v212:=Tryz.zeroValue221
 t213:=Tryz.underlying223
 a213:=Tryz.isAgg223
 z213:=Tryz.sizeOf223
 t232:=Tryz.underlying226
 a232:=Tryz.isAgg226
 z232:=Tryz.sizeOf226
 v232:=Tryz.zeroValue226
 t233:=Tryz.underlying171
 a233:=Tryz.isAgg171
 z233:=Tryz.sizeOf171
 v233:=Tryz.zeroValue171
 g15:=by kernel_rfl
 g16:=by kernel_rfl
 g17:=by kernel_rfl
 g18:=by kernel_rfl
 g19:=by kernel_rfl
 t80:=Tryz.underlying227
 a80:=Tryz.isAgg227
 z80:=Tryz.sizeOf227
 v80:=Tryz.zeroValue227
 i0:=by kernel_rfl
 i2:=by kernel_rfl
 i3:=by kernel_rfl
 i4:=by kernel_rfl
 i5:=by kernel_rfl
 i9:=by kernel_rfl
 i20:=by kernel_rfl
 i21:=by kernel_rfl
 i37:=by kernel_rfl
 i46:=by kernel_rfl
 i51:=by kernel_rfl
 i53:=by kernel_rfl
 i75:=by kernel_rfl
 i76:=by kernel_rfl
 i80:=by kernel_rfl
 i85:=by kernel_rfl
 i127:=by kernel_rfl
 i143:=by kernel_rfl
 i145:=by kernel_rfl
 i167:=by kernel_rfl
 i168:=by kernel_rfl
 i171:=by kernel_rfl
 i173:=by kernel_rfl
 i175:=by kernel_rfl
 i210:=by kernel_rfl
 i212:=by kernel_rfl
 i232:=by kernel_rfl
 i233:=by kernel_rfl
 m15:=by kernel_rfl
 m16:=by kernel_rfl
 m17:=by kernel_rfl
 m18:=by kernel_rfl
 m19:=by kernel_rfl
 c0:=by kernel_rfl
 c2:=by kernel_rfl
 c3:=by kernel_rfl
 c4:=by kernel_rfl
 c5:=by kernel_rfl
 c9:=by kernel_rfl
 c20:=by kernel_rfl
 c21:=by kernel_rfl
 c37:=by kernel_rfl
 c46:=by kernel_rfl
 c51:=by kernel_rfl
 c53:=by kernel_rfl
 c75:=by kernel_rfl
 c76:=by kernel_rfl
 c80:=by kernel_rfl
 c85:=by kernel_rfl
 c127:=by kernel_rfl
 c143:=by kernel_rfl
 c145:=by kernel_rfl
 c167:=by kernel_rfl
 c168:=by kernel_rfl
 c171:=by kernel_rfl
 c173:=by kernel_rfl
 c175:=by kernel_rfl
 c210:=by kernel_rfl
 c212:=by kernel_rfl
 c213:=by kernel_rfl
 c232:=by kernel_rfl
 c233:=by kernel_rfl }
open Go.RowKit in
theorem Tryz.strconv_Atoi_ok (s:ByteArray) (hmax:s.size≤9223372036854775806) (v:Int) (h:Lib.atoiAll s.data.toList=.ok v) (w:World) :
  Calls Tryz.prog 117 #[.string s] w fun e w'=>e=.returned (.tuple #[.int .i64 v,.nilIface])∧(w'=w∨∃ t,w'=Lib.bytesWorld w 5 t):=Any.strconv_Atoi_ok Tryz.laysC172 s hmax v h w
end Go.Proofs
namespace Go.Proofs.YtdbbbafiegpbpaaGreatDoor
set_option linter.unusedSimpArgs false
set_option linter.unusedVariables false
open Go.Lib Go.RowKit
end Go.Proofs.YtdbbbafiegpbpaaGreatDoor
namespace Go.Proofs.YtdbbbafiegpbpaaGreatDoor
set_option linter.unusedSimpArgs false
set_option linter.unusedVariables false
open Go.RowKit
open Go.Lib hiding intOf
theorem a9d {P:Program} {w w':World} {name:String} {x:Array Value} (h:w.var? P name=some x) (b:Below w.heap.size w w'):w'.var? P name=some x:=by
  unfold World.var? at *
  cases hg:P.globalNamed name with
  | none=>rw [hg] at h;cases h
  | some g =>
    rw [hg] at h
    simp only [Option.bind_some] at h ⊢
    cases hh:w.heap[g]? with
    | none=>rw [hh] at h;cases h
    | some o =>
      have hlt:g < w.heap.size:=by
        rcases Nat.lt_or_ge g w.heap.size with h1 | h1
        · exact h1
        · rw [Array.getElem?_eq_none h1] at hh;cases hh
      rw [b.block g hlt]
      exact h
structure LibAt (w:World):Prop where
 tab:Lib.TabIs Tryz.prog w "internal/strconv.uint64pow10" .u64 Lib.pow10Tab
 syn:∃ tp p,w.var? Tryz.prog "strconv.ErrSyntax" = some #[.iface tp p]
 rng:∃ tp p,w.var? Tryz.prog "strconv.ErrRange" = some #[.iface tp p]
theorem LibAt.below {w w':World} (h:LibAt w) (b:Below w.heap.size w w'):LibAt w' :=
 ⟨a9d h.tab b,h.syn.imp fun _ h=>h.imp fun _ h=>a9d h b,h.rng.imp fun _ h=>h.imp fun _ h=>a9d h b⟩
theorem c1U {w W:World} {t:Nat} (h:W=w∨∃ s,W=Lib.bytesWorld w t s):Below w.heap.size w W:=by
 rcases h with rfl | ⟨s,rfl⟩
 ·exact Below.refl _ _
 ·exact Lib.bytesWorld_below _ _ _
end Go.Proofs.YtdbbbafiegpbpaaGreatDoor
namespace Go.Proofs.YtdbbbafiegpbpaaGreatDoor
set_option linter.unusedSimpArgs false
set_option linter.unusedVariables false
def bz (s:List UInt8) (i:Nat):Int:=if i < s.length then ((s.getD i 0).toNat:Int) else 0
def smallZ (x:Int):Bool:=decide (97≤x)&&decide (x≤122)
def a0S (x:Int):Bool:=decide (48≤x)&&decide (x≤57)
theorem a3F {s:List UInt8} {i:Nat} (h:i < s.length):bz s i=((s.getD i 0).toNat:Int):=by unfold bz;rw [if_pos h]
theorem a6T {s:List UInt8} {i:Nat} (h:s.length≤i):bz s i=0:=by unfold bz;rw [if_neg (by omega)]
theorem a4f {s:List UInt8} {i:Nat} (h:bz s i≠0):i < s.length:=by
 rcases Nat.lt_or_ge i s.length with h1 | h1
 ·exact h1
 ·exact absurd (a6T h1) h
theorem a1Q {x:Int}:a0S x=true↔48≤x∧x≤57:=by simp [a0S]
theorem c0E {x:Int}:smallZ x=true↔97≤x∧x≤122:=by simp [smallZ]
theorem a2a {s:List UInt8} {i:Nat} (h:a0S (bz s i)=true):i < s.length:=a4f (by have:=a1Q.1 h;omega)
theorem a8d {s:List UInt8} {i:Nat} (h:smallZ (bz s i)=true):i < s.length:=a4f (by have:=c0E.1 h;omega)
def a4M (s:List UInt8) (i:Nat):Option Int×Nat :=
 if a0S (bz s i)=true then
  if a0S (bz s (i+1))=true then
   if bz s i=48 then (none,i+1)
   else if a0S (bz s (i+2))=true then (none,i+2)
   else (some (10 * (bz s i - 48)+(bz s (i+1) - 48)),i+2)
  else (some (bz s i - 48),i+1)
 else (none,i)
def a1s (s:List UInt8) (p:Nat):Int×Int:=if s.length≤p then ((s.length:Int),5) else ((p:Int),2)
theorem b5l {s:List UInt8} {p:Nat} (h:p < s.length):a1s s p=((p:Int),2):=by unfold a1s;rw [if_neg (by omega)]
def numR (s:List UInt8) (i:Nat) (low:Int):Except (Int×Int) (Int×Nat) :=
 match a4M s i with
 | (none,p)=>.error (a1s s p)
 | (some n,q)=>if n < low∨20 < n then .error ((i:Int),3) else .ok (n,q)
structure Sg where
 kind:Int
 at_:Int
 low:Int
 high:Int
 name:List UInt8
 deriving DecidableEq
def a2u (s:List UInt8) (i:Nat):Except (Int×Int) (Sg×Nat) :=
  match numR s (i+1) 0 with
  | .error e=>.error e
  | .ok (n, p) =>
    if bz s p=44 then
      if bz s (p+1)=125 then .ok (⟨5,i,n,-1,[]⟩,p+2)
      else match numR s (p+1) (if 1 > n then 1 else n) with
        | .error e=>.error e
        | .ok (m,q)=>if bz s q=125 then .ok (⟨5,i,n,m,[]⟩,q+1) else .error (a1s s q)
    else if bz s p=125 then (if n=0 then .error (((i+1:Nat):Int),3) else .ok (⟨5,i,n,n,[]⟩,p+1))
    else .error (a1s s p)
def alnumZ (x:Int):Bool:=smallZ x||a0S x
def a7V (s:List UInt8) (i:Nat):Nat→Nat
 | 0=>0
 | f+1=>if alnumZ (bz s i)=true then a7V s (i+1) f+1 else 0
def b1z (s:List UInt8) (i:Nat):Except (Int×Int) (Sg×Nat) :=
 if a7V s i 13=13 then .error (((i+12:Nat):Int),2) else .ok (⟨1,i,0,0,(s.drop i).take (a7V s i 13)⟩,i+a7V s i 13)
def a3L (s:List UInt8) (i:Nat):Except (Int×Int) (Sg×Nat) :=
 if smallZ (bz s i)=true then b1z s i
 else if bz s i=123 then a2u s i
 else if bz s i=40 then .ok (⟨2,i,0,0,[]⟩,i+1)
 else if bz s i=41 then .ok (⟨3,i,0,0,[]⟩,i+1)
 else if bz s i=124 then .ok (⟨4,i,0,0,[]⟩,i+1)
 else if bz s i=42 then .ok (⟨5,i,0,-1,[]⟩,i+1)
 else if bz s i=43 then .ok (⟨5,i,1,-1,[]⟩,i+1)
 else if bz s i=63 then .ok (⟨5,i,0,1,[]⟩,i+1)
 else .error (a1s s i)
def a4K (x:Int):Bool:=smallZ x||decide (x=40)||decide (x=41)||decide (x=124)||decide (x=42)||decide (x=43)||decide (x=63)||decide (x=123)
def b3x (s:List UInt8):Nat→Nat→List Sg→Except (Int×Int) (List Sg)
  | 0,_,out=>.ok out
  | f + 1, i, out =>
    if s.length≤i then .ok out
    else if bz s i=32 then b3x s f (i+1) out
    else if out.length=200 then (if a4K (bz s i)=true then .error ((i:Int),4) else .error (a1s s i))
    else match a3L s i with
      | .error e=>.error e
      | .ok (x,q)=>b3x s f q (out++[x])
def lexV (s:List UInt8):Except (Int×Int) (List Sg):=b3x s s.length 0 []
theorem c9Q:∀ n:Fin 10,(match Go.Lib.atoiAll [UInt8.ofNat (48+n.val)] with | .ok v=>v == (n.val:Int) | _=>false)=true:=by decide +kernel
theorem c9m:∀ n m:Fin 10,(match Go.Lib.atoiAll [UInt8.ofNat (48+n.val),UInt8.ofNat (48+m.val)] with | .ok v=>v == (10 * n.val+m.val:Int) | _=>false)=true:=by decide +kernel
theorem c1P {a:UInt8} (h:a0S (a.toNat:Int)=true):Go.Lib.atoiAll [a]=.ok ((a.toNat:Int) - 48):=by
 have hd:=a1Q.1 h
 have e:a=UInt8.ofNat (48+(a.toNat - 48)):=by
  rw [show 48+(a.toNat - 48)=a.toNat by omega];simp
 have:=c9Q ⟨a.toNat - 48,by omega⟩
 simp only [←e] at this
 split at this
 ·rename_i v hv
  rw [hv];simp at this;rw [this];congr 1;omega
 ·cases this
theorem c1S {a b:UInt8} (h:a0S (a.toNat:Int)=true) (h':a0S (b.toNat:Int)=true):Go.Lib.atoiAll [a,b]=.ok (10 * ((a.toNat:Int) - 48)+((b.toNat:Int) - 48)):=by
 have hd:=a1Q.1 h
 have hd':=a1Q.1 h'
 have e:a=UInt8.ofNat (48+(a.toNat - 48)):=by
  rw [show 48+(a.toNat - 48)=a.toNat by omega];simp
 have e':b=UInt8.ofNat (48+(b.toNat - 48)):=by
  rw [show 48+(b.toNat - 48)=b.toNat by omega];simp
 have:=c9m ⟨a.toNat - 48,by omega⟩ ⟨b.toNat - 48,by omega⟩
 simp only [←e,←e'] at this
 split at this
 ·rename_i v hv
  rw [hv];simp at this;rw [this];congr 1;omega
 ·cases this
theorem c5a {s:List UInt8} {i:Nat} (h:i < s.length):(s.drop i).take 1=[s.getD i 0]:=by
 rw [List.getD_eq_getElem?_getD,List.getElem?_eq_getElem h,List.drop_eq_getElem_cons h]
 rfl
theorem c6l {s:List UInt8} {i:Nat} (h:i+1 < s.length):(s.drop i).take 2=[s.getD i 0,s.getD (i+1) 0]:=by
 rw [List.getD_eq_getElem?_getD,List.getD_eq_getElem?_getD,List.getElem?_eq_getElem h,List.getElem?_eq_getElem (by omega:i < s.length),List.drop_eq_getElem_cons (by omega:i < s.length),List.drop_eq_getElem_cons h]
 rfl
theorem c2M {s:List UInt8} {i k:Nat} (hk:k≤2) (h0:0 < k→a0S (bz s i)=true) (h1:1 < k→a0S (bz s (i+1))=true∧bz s i≠48) (hd:a0S (bz s (i+k))=true) (hc:k=2∨(0 < k∧bz s i=48)):a4M s i=(none,i+k):=by
  unfold a4M
  match k,hk,h0,h1,hd,hc with
  | 0,_,_,_,_,hc=>omega
  | 1, _, h0, _, hd, hc =>
    rw [if_pos (h0 (by omega)),if_pos hd,if_pos (by omega)]
  | 2, _, h0, h1, hd, hc =>
    rw [if_pos (h0 (by omega)),if_pos (h1 (by omega)).1,if_neg (h1 (by omega)).2,if_pos hd]
theorem b0R {s:List UInt8} {i:Nat} (hd:a0S (bz s i)=false):a4M s i=(none,i):=by
 unfold a4M
 rw [if_neg (by rw [hd];decide)]
theorem c4T {s:List UInt8} {i k:Nat} (hk:k≤2) (hk0:k≠0) (h0:0 < k→a0S (bz s i)=true) (h1:1 < k→a0S (bz s (i+1))=true∧bz s i≠48) (hd:a0S (bz s (i+k))=false) :
    ∃ v,Go.Lib.atoiAll ((s.drop i).take (i+k - i))=.ok v∧a4M s i=(some v,i+k)∧0≤v∧v≤99:=by
  have hd':¬ a0S (bz s (i+k))=true:=by rw [hd];decide
  match k,hk,hk0,h0,h1,hd' with
  | 1, _, _, h0, _, hd' =>
    have h:=h0 (by omega)
    have hlt:=a2a h
    have hdi:=a1Q.1 h
    refine ⟨bz s i - 48,?_,?_,by omega,by omega⟩
    · rw [show i+1 - i=1 by omega,c5a hlt]
      rw [a3F hlt] at h ⊢
      exact c1P h
    · unfold a4M
      rw [if_pos h,if_neg hd']
  | 2, _, _, h0, h1, hd' =>
    have h:=h0 (by omega)
    have h2:=h1 (by omega)
    have hlt:=a2a h2.1
    have hdi:=a1Q.1 h
    have hdj:=a1Q.1 h2.1
    refine ⟨10 * (bz s i - 48)+(bz s (i+1) - 48),?_,?_,by omega,by omega⟩
    · rw [show i+2 - i=2 by omega,c6l hlt]
      rw [a3F (by omega)] at h ⊢
      have h3:=h2.1
      rw [a3F hlt] at h3 ⊢
      exact c1S h h3
    · unfold a4M
      rw [if_pos h,if_pos h2.1,if_neg h2.2,if_neg hd']
theorem a7Y {s:List UInt8} {i p:Nat} {low:Int} (h:a4M s i=(none,p)):numR s i low=.error (a1s s p):=by unfold numR;rw [h]
theorem a7z {s:List UInt8} {i q:Nat} {low v:Int} (h:a4M s i=(some v,q)) (hv:v < low∨20 < v):numR s i low=.error ((i:Int),3):=by unfold numR;rw [h];simp only;rw [if_pos hv]
theorem a8u {s:List UInt8} {i q:Nat} {low v:Int} (h:a4M s i=(some v,q)) (hv:¬ (v < low∨20 < v)):numR s i low=.ok (v,q):=by unfold numR;rw [h];simp only;rw [if_neg hv]
theorem a6f {s:List UInt8} {i q:Nat} {o:Option Int} (hi:i≤s.length) (h:a4M s i=(o,q)):q≤s.length∧i≤q∧(∀ v,o=some v→i < q∧0≤v):=by
 unfold a4M at h
 split at h
 ·rename_i h1
  have:=a2a h1
  have d1:=a1Q.1 h1
  split at h
  ·rename_i h2
   have:=a2a h2
   have d2:=a1Q.1 h2
   split at h
   ·injection h with h h';subst h;subst h';exact ⟨by omega,by omega,fun v hv=>by cases hv⟩
   ·split at h
    ·rename_i h3
     have:=a2a h3
     injection h with h h';subst h;subst h';exact ⟨by omega,by omega,fun v hv=>by cases hv⟩
    ·injection h with h h';subst h;subst h';exact ⟨by omega,by omega,fun v hv=>by injection hv with hv;omega⟩
  ·injection h with h h';subst h;subst h';exact ⟨by omega,by omega,fun v hv=>by injection hv with hv;omega⟩
 ·injection h with h h';subst h;subst h';exact ⟨by omega,by omega,fun v hv=>by cases hv⟩
theorem b0z {s:List UInt8} {i q:Nat} {low v:Int} (hi:i≤s.length) (h:numR s i low=.ok (v,q)):q≤s.length∧i < q∧low≤v∧v≤20:=by
 unfold numR at h
 split at h
 ·cases h
 ·rename_i n q' hn
  split at h
  ·cases h
  ·rename_i hv
   injection h with h;injection h with h1 h2;subst h1;subst h2
   have:=a6f hi hn
   have h3:=this.2.2 _ rfl
   refine ⟨this.1,h3.1,?_,?_⟩ <;> omega
theorem c1R {s:List UInt8} {i k:Nat} (hk:k≤2) (h0:0 < k→a0S (bz s i)=true) (h1:1 < k→a0S (bz s (i+1))=true∧bz s i≠48) (hd:a0S (bz s (i+k))=true) (hc:¬ (k=2∨(0 < k∧bz s i=48))) :
  k+1≤2∧i+(k+1)≤s.length∧(0 < k+1→a0S (bz s i)=true)∧(1 < k+1→a0S (bz s (i+1))=true∧bz s i≠48):=by
 have:=a2a hd
 have hk2:k < 2:=by omega
 match k,hk2,h0,h1,hd,hc with
 | 0,_,h0,h1,hd,hc=>exact ⟨by omega,by omega,fun _=>hd,fun h=>absurd h (by omega)⟩
 | 1,_,h0,h1,hd,hc=>exact ⟨by omega,by omega,fun _=>h0 (by omega),fun _=>⟨hd,fun h=>hc (.inr ⟨by omega,h⟩)⟩⟩
theorem b2q {s:List UInt8}:∀ {f i k:Nat},k≤f→(∀ j,j < k→alnumZ (bz s (i+j))=true)→(k < f→alnumZ (bz s (i+k))=false)→a7V s i f=k
  | 0,i,k,hk,_,_=>by simp [a7V];omega
  | f + 1, i, 0, _, _, h2 => by
    have:=h2 (by omega)
    rw [Nat.add_zero] at this
    simp [a7V,this]
  | f + 1, i, k + 1, hk, h1, h2 => by
    have h0:=h1 0 (by omega)
    rw [Nat.add_zero] at h0
    have:=b2q (s:=s) (f:=f) (i:=i+1) (k:=k) (by omega) (fun j hj=>by rw [show i+1+j=i+(j+1) by omega];exact h1 (j+1) (by omega)) (fun hkf=>by rw [show i+1+k=i+(k+1) by omega];exact h2 (by omega))
    simp [a7V,h0,this]
theorem b7V {s:List UInt8} {i:Nat} (h:∀ j,j < 13→alnumZ (bz s (i+j))=true):b1z s i=.error (((i+12:Nat):Int),2):=by
 unfold b1z
 rw [if_pos (b2q (Nat.le_refl _) h (fun h=>absurd h (by omega)))]
theorem b8O {s:List UInt8} {i k:Nat} (hk:k≤12) (h:∀ j,j < k→alnumZ (bz s (i+j))=true) (h2:alnumZ (bz s (i+k))=false):b1z s i=.ok (⟨1,i,0,0,(s.drop i).take (i+k - i)⟩,i+k):=by
 unfold b1z
 have:=b2q (f:=13) (by omega) h (fun _=>h2)
 rw [this,if_neg (by omega),show i+k - i=k by omega]
def b7I (k:Nat):Int:=match k with | 0=>40 | 1=>41 | 2=>124 | 3=>42 | 4=>43 | _=>63
theorem b7X (k:Nat):40≤b7I k∧b7I k≤124:=by
 unfold b7I;split <;> omega
theorem c2X {s:List UInt8} {i:Nat} (h0:smallZ (bz s i)=false) (h1:bz s i≠123) (h:∀ j,j < 6→bz s i≠b7I j):a3L s i=.error (a1s s i):=by
 unfold a3L
 rw [if_neg (by rw [h0];decide),if_neg h1,if_neg (show ¬ bz s i=40 from h 0 (by omega)),if_neg (show ¬ bz s i=41 from h 1 (by omega)),if_neg (show ¬ bz s i=124 from h 2 (by omega)),if_neg (show ¬ bz s i=42 from h 3 (by omega)),if_neg (show ¬ bz s i=43 from h 4 (by omega)),if_neg (show ¬ bz s i=63 from h 5 (by omega))]
theorem c8K {s:List UInt8} {i:Nat} (h:bz s i=42):a3L s i=.ok (⟨5,i,0,-1,[]⟩,i+1):=by
 unfold a3L;rw [h];rfl
theorem c7Z {s:List UInt8} {i:Nat} (h:bz s i=43):a3L s i=.ok (⟨5,i,1,-1,[]⟩,i+1):=by
 unfold a3L;rw [h];rfl
theorem c8D {s:List UInt8} {i:Nat} (h:bz s i=63):a3L s i=.ok (⟨5,i,0,1,[]⟩,i+1):=by
 unfold a3L;rw [h];rfl
theorem c6G {s:List UInt8} {i k:Nat} (hk:k < 6) (h:bz s i=b7I k) (h1:b7I k≠42) (h2:b7I k≠43) (h3:b7I k≠63):a3L s i=.ok (⟨2+k,i,0,0,[]⟩,i+1):=by
 match k,hk,h,h1,h2,h3 with
 | 0,_,h,_,_,_=>unfold a3L;rw [h];rfl
 | 1,_,h,_,_,_=>unfold a3L;rw [h];rfl
 | 2,_,h,_,_,_=>unfold a3L;rw [h];rfl
 | 3,_,_,h,_,_=>exact absurd rfl h
 | 4,_,_,_,h,_=>exact absurd rfl h
 | 5,_,_,_,_,h=>exact absurd rfl h
theorem b4o {s:List UInt8}:∀ {f i:Nat},i≤s.length→i+a7V s i f≤s.length
  | 0,i,h=>by simp [a7V];exact h
  | f + 1, i, h => by
    unfold a7V
    split
    · rename_i ha
      have hlt:i < s.length:=a4f (fun h0=>by rw [h0] at ha;exact absurd ha (by decide))
      have:=b4o (s:=s) (f:=f) (i:=i+1) hlt
      omega
    · omega
theorem a7b {s:List UInt8} {i q:Nat} {x:Sg} (h:a3L s i=.ok (x,q)):i < q∧q≤s.length:=by
 have key:∀ {c:Int} {y:Sg},bz s i=c→c≠0→(Except.ok (y,i+1):Except (Int×Int) (Sg×Nat))=.ok (x,q)→i < q∧q≤s.length:=by
  intro c y h1 h2 h3
  injection h3 with h3;injection h3 with _ h3
  have:=a4f (s:=s) (i:=i) (by rw [h1];exact h2)
  omega
 unfold a3L at h
 split at h
 ·rename_i hs
  have hlt:=a8d hs
  unfold b1z at h
  split at h
  ·cases h
  ·injection h with h;injection h with _ h
   have h1:0 < a7V s i 13:=by
    have:alnumZ (bz s i)=true:=by unfold alnumZ;rw [hs];rfl
    unfold a7V;rw [if_pos this];omega
   have:=b4o (s:=s) (f:=13) (i:=i) (by omega)
   omega
 split at h
 ·rename_i hc
  have hlt:=a4f (s:=s) (i:=i) (by omega)
  unfold a2u at h
  split at h
  ·cases h
  ·rename_i n p hn
   have hp:=b0z (by omega) hn
   split at h
   ·rename_i h44
    have hl2:=a4f (s:=s) (i:=p) (by omega)
    split at h
    ·rename_i h125
     have:=a4f (s:=s) (i:=p+1) (by omega)
     injection h with h;injection h with _ h;omega
    ·split at h
     ·cases h
     ·rename_i m q' hm
      have hq:=b0z (by omega) hm
      split at h
      ·rename_i h125
       have:=a4f (s:=s) (i:=q') (by omega)
       injection h with h;injection h with _ h;omega
      ·cases h
   ·split at h
    ·rename_i h125
     have:=a4f (s:=s) (i:=p) (by omega)
     split at h
     ·cases h
     ·injection h with h;injection h with _ h;omega
    ·cases h
 split at h
 ·rename_i hc;exact key hc (by decide) h
 split at h
 ·rename_i hc;exact key hc (by decide) h
 split at h
 ·rename_i hc;exact key hc (by decide) h
 split at h
 ·rename_i hc;exact key hc (by decide) h
 split at h
 ·rename_i hc;exact key hc (by decide) h
 split at h
 ·rename_i hc;exact key hc (by decide) h
 cases h
theorem a6X {s:List UInt8}:∀ {f f' i:Nat} {out:List Sg},s.length - i≤f→s.length - i≤f'→b3x s f i out=b3x s f' i out
  | 0,0,_,_,_,_=>rfl
  | 0,f'+1,i,out,h,h'=>by simp only [b3x];rw [if_pos (by omega)]
  | f+1,0,i,out,h,h'=>by simp only [b3x];rw [if_pos (by omega)]
  | f + 1, f' + 1, i, out, h, h' => by
    simp only [b3x]
    by_cases h1:s.length≤i
    · rw [if_pos h1,if_pos h1]
    · rw [if_neg h1,if_neg h1]
      by_cases h2:bz s i=32
      · rw [if_pos h2,if_pos h2];exact a6X (by omega) (by omega)
      · rw [if_neg h2,if_neg h2]
        by_cases h3:out.length=200
        · rw [if_pos h3,if_pos h3]
        · rw [if_neg h3,if_neg h3]
          cases hx:a3L s i with
          | error e=>rfl
          | ok y =>
            obtain ⟨x,q⟩:=y
            have:=a7b hx
            exact a6X (by omega) (by omega)
def a4z (s:List UInt8) (i:Nat) (out:List Sg):Except (Int×Int) (List Sg):=b3x s (s.length - i) i out
theorem b3S (s:List UInt8):a4z s 0 []=lexV s:=rfl
theorem a9r {s:List UInt8} {i:Nat} {out:List Sg} (h:s.length≤i):a4z s i out=.ok out:=by
 unfold a4z;rw [show s.length - i=0 by omega];rfl
theorem a4o {s:List UInt8} {i:Nat} {out:List Sg} (h:i < s.length):a4z s i out=if bz s i=32 then a4z s (i+1) out
    else if out.length=200 then (if a4K (bz s i)=true then .error ((i:Int),4) else .error (a1s s i))
    else match a3L s i with
      | .error e=>.error e
      | .ok (x,q)=>a4z s q (out++[x]):=by
  unfold a4z
  rw [show s.length - i=(s.length - i - 1)+1 by omega]
  simp only [b3x]
  rw [if_neg (by omega)]
  by_cases h2:bz s i=32
  · rw [if_pos h2,if_pos h2];exact a6X (by omega) (by omega)
  · rw [if_neg h2,if_neg h2]
    by_cases h3:out.length=200
    · rw [if_pos h3,if_pos h3]
    · rw [if_neg h3,if_neg h3]
      cases hx:a3L s i with
      | error e=>rfl
      | ok y =>
        obtain ⟨x,q⟩:=y
        have:=a7b hx
        exact a6X (by omega) (by omega)
theorem b8J:∀ n:Fin 256,(decide (Go.Lib.indexByte [40,41,124,42,43,63,123] (UInt8.ofNat n.val) < 0))=!(decide ((n.val:Int)=40)||decide ((n.val:Int)=41)||decide ((n.val:Int)=124)||decide ((n.val:Int)=42)||decide ((n.val:Int)=43)||decide ((n.val:Int)=63)||decide ((n.val:Int)=123)):=by decide +kernel
theorem b2G (c:UInt8):(!smallZ (c.toNat:Int)&&decide (Go.Lib.indexByte [40,41,124,42,43,63,123] c < 0))=!a4K (c.toNat:Int):=by
 have:=b8J ⟨c.toNat,c.toNat_lt⟩
 simp only [UInt8.ofNat_toNat] at this
 rw [this]
 unfold a4K
 simp only [Bool.not_or,Bool.and_assoc]
theorem b1q {s:List UInt8} {i:Nat} {out:List Sg} (h:i < s.length) (h0:bz s i=32):a4z s i out=a4z s (i+1) out:=by
 rw [a4o h,if_pos h0]
theorem b3j {s:List UInt8} {i:Nat} {out:List Sg} (h:i < s.length) (h0:¬ bz s i=32) (h1:out.length=200) (h2:a4K (bz s i)=false):a4z s i out=.error (a1s s i):=by
 rw [a4o h,if_neg h0,if_pos h1,if_neg (by rw [h2];decide)]
theorem b0b {s:List UInt8} {i:Nat} {out:List Sg} (h:i < s.length) (h0:¬ bz s i=32) (h1:out.length=200) (h2:a4K (bz s i)=true):a4z s i out=.error ((i:Int),4):=by
 rw [a4o h,if_neg h0,if_pos h1,if_pos h2]
theorem b3o {s:List UInt8} {i:Nat} {out:List Sg} {e:Int×Int} (h:i < s.length) (h0:¬ bz s i=32) (h1:¬ out.length=200) (h2:a3L s i=.error e):a4z s i out=.error e:=by
 rw [a4o h,if_neg h0,if_neg h1,h2]
theorem b1E {s:List UInt8} {i q:Nat} {x:Sg} {out:List Sg} (h:i < s.length) (h0:¬ bz s i=32) (h1:¬ out.length=200) (h2:a3L s i=.ok (x,q)):a4z s i out=a4z s q (out++[x]):=by
 rw [a4o h,if_neg h0,if_neg h1,h2]
theorem b3d (s:List UInt8) (i:Nat):a0S (bz s i)=(decide ((i:Int) < s.length)&&a0S ((s.getD i 0).toNat:Int)):=by
 rcases Nat.lt_or_ge i s.length with h | h
 ·rw [a3F h,show decide ((i:Int) < s.length)=true from decide_eq_true (by omega),Bool.true_and]
 ·rw [a6T h,show decide ((i:Int) < s.length)=false from decide_eq_false (by omega),Bool.false_and];decide
theorem c2U (s:List UInt8) (i:Nat):smallZ (bz s i)=(decide ((i:Int) < s.length)&&smallZ ((s.getD i 0).toNat:Int)):=by
 rcases Nat.lt_or_ge i s.length with h | h
 ·rw [a3F h,show decide ((i:Int) < s.length)=true from decide_eq_true (by omega),Bool.true_and]
 ·rw [a6T h,show decide ((i:Int) < s.length)=false from decide_eq_false (by omega),Bool.false_and];decide
theorem b8Q (s:List UInt8) (i:Nat):(decide ((s.length:Int)≤i)||!a0S ((s.getD i 0).toNat:Int))=!a0S (bz s i):=by
 rcases Nat.lt_or_ge i s.length with h | h
 ·rw [a3F h,show decide ((s.length:Int)≤i)=false from decide_eq_false (by omega),Bool.false_or]
 ·rw [a6T h,show decide ((s.length:Int)≤i)=true from decide_eq_true (by omega),Bool.true_or];decide
theorem c0j (s:List UInt8) (i:Nat) {c:Int} (hc:c≠0):(decide ((i:Int) < s.length)&&((s.getD i 0).toNat:Int) == c)=decide (bz s i=c):=by
 rcases Nat.lt_or_ge i s.length with h | h
 ·rw [a3F h,show decide ((i:Int) < s.length)=true from decide_eq_true (by omega),Bool.true_and];rfl
 ·rw [a6T h,show decide ((i:Int) < s.length)=false from decide_eq_false (by omega),Bool.false_and]
  exact (decide_eq_false (fun h=>hc h.symm)).symm
theorem a8M (s:List UInt8) (i:Nat) {c:Int} (hc:c≠0):(decide ((s.length:Int)≤i)||((s.getD i 0).toNat:Int) != c)=!decide (bz s i=c):=by
 rcases Nat.lt_or_ge i s.length with h | h
 ·rw [a3F h,show decide ((s.length:Int)≤i)=false from decide_eq_false (by omega),Bool.false_or];rfl
 ·rw [a6T h,show decide ((s.length:Int)≤i)=true from decide_eq_true (by omega),Bool.true_or]
  rw [decide_eq_false (fun h=>hc h.symm)];rfl
def a1M (s:List UInt8) (i:Nat):Sg×Int×Int :=
  match a4M s (i+1) with
  | (none,p)=>(⟨5,i,0,0,[]⟩,a1s s p)
  | (some n, p) =>
    if 20 < n∨(n=0∧bz s p=125) then (⟨5,i,0,0,[]⟩,((i+1:Nat):Int),3)
    else if bz s p=44 then
      if bz s (p+1)=125 then (⟨5,i,n,-1,[]⟩,((p+2:Nat):Int),0)
      else match a4M s (p+1) with
        | (none,q)=>(⟨5,i,n,-1,[]⟩,a1s s q)
        | (some m, q) => if m < 1 ∨ 20 < m ∨ m < n then (⟨5, i, n, -1, []⟩, ((p + 1 : Nat) : Int), 3)
          else if bz s q=125 then (⟨5,i,n,m,[]⟩,((q+1:Nat):Int),0) else (⟨5,i,n,m,[]⟩,a1s s q)
    else if bz s p=125 then (⟨5,i,n,n,[]⟩,((p+1:Nat):Int),0)
    else (⟨5,i,n,n,[]⟩,a1s s p)
def sgZ:Sg:=⟨0,0,0,0,[]⟩
def c1p (s:List UInt8) (i:Nat):Sg×Int×Int :=
 if a7V s i 13=13 then (sgZ,((i+12:Nat):Int),2) else (⟨1,i,0,0,(s.drop i).take (a7V s i 13)⟩,((i+a7V s i 13:Nat):Int),0)
def a7S (s:List UInt8) (i:Nat):Sg×Int×Int :=
 if smallZ (bz s i)=true then c1p s i
 else if bz s i=40 then (⟨2,i,0,0,[]⟩,((i+1:Nat):Int),0)
 else if bz s i=41 then (⟨3,i,0,0,[]⟩,((i+1:Nat):Int),0)
 else if bz s i=124 then (⟨4,i,0,0,[]⟩,((i+1:Nat):Int),0)
 else if bz s i=42 then (⟨5,i,0,-1,[]⟩,((i+1:Nat):Int),0)
 else if bz s i=43 then (⟨5,i,1,-1,[]⟩,((i+1:Nat):Int),0)
 else if bz s i=63 then (⟨5,i,0,1,[]⟩,((i+1:Nat):Int),0)
 else if bz s i=123 then a1M s i
 else (sgZ,(i:Int),2)
def c7D (r:Except (Int×Int) (Sg×Nat)) (f:Sg×Int×Int):Prop:=match r with
 | .ok (x,q)=>f=(x,(q:Int),0)
 | .error e=>f.2=e∧e.2≠0
theorem a6x (s:List UInt8) (p:Nat):(a1s s p).2≠0:=by unfold a1s;split <;> simp
theorem b7l (s:List UInt8) (i:Nat) (hi:i < s.length):c7D (a2u s i) (a1M s i):=by
  unfold a2u a1M
  cases hn:a4M s (i+1) with
  | mk o p =>
    cases o with
    | none=>rw [a7Y hn];exact ⟨rfl,a6x s p⟩
    | some n =>
      have h0:=(a6f (by omega) hn).2.2 n rfl
      by_cases h20:20 < n
      · rw [a7z hn (.inr h20)]
        simp only
        rw [if_pos (.inl h20)]
        exact ⟨rfl,by simp⟩
      · rw [a8u hn (by omega)]
        simp only
        by_cases h44:bz s p=44
        · rw [if_pos h44,if_neg (show ¬ (20 < n∨n=0∧bz s p=125) by omega),if_pos h44]
          by_cases h125:bz s (p+1)=125
          · rw [if_pos h125,if_pos h125];rfl
          · rw [if_neg h125,if_neg h125]
            have hlt:=a4f (s:=s) (i:=p) (by omega)
            cases hm:a4M s (p+1) with
            | mk o2 q =>
              cases o2 with
              | none=>rw [a7Y hm];exact ⟨rfl,a6x s q⟩
              | some m =>
                simp only
                by_cases hr:m < (if 1 > n then 1 else n)∨20 < m
                · rw [a7z hm hr]
                  rw [if_pos (show m < 1∨20 < m∨m < n by split at hr <;> omega)]
                  exact ⟨rfl,by simp⟩
                · rw [a8u hm hr]
                  rw [if_neg (show ¬ (m < 1∨20 < m∨m < n) by split at hr <;> omega)]
                  simp only
                  by_cases h5:bz s q=125
                  · rw [if_pos h5,if_pos h5];rfl
                  · rw [if_neg h5,if_neg h5];exact ⟨rfl,a6x s q⟩
        · rw [if_neg h44]
          by_cases h125:bz s p=125
          · by_cases hz:n=0
            · rw [if_pos h125,if_pos hz,if_pos (.inr ⟨hz,h125⟩)];exact ⟨rfl,by simp⟩
            · rw [if_pos h125,if_neg hz,if_neg (show ¬ (20 < n∨n=0∧bz s p=125) by omega),if_neg h44,if_pos h125];rfl
          · rw [if_neg h125,if_neg (show ¬ (20 < n∨n=0∧bz s p=125) by omega),if_neg h44,if_neg h125];exact ⟨rfl,a6x s p⟩
theorem b5t (s:List UInt8) (i:Nat) (hi:i < s.length):c7D (a3L s i) (a7S s i):=by
 unfold a3L a7S
 by_cases h:smallZ (bz s i)=true
 ·rw [if_pos h,if_pos h]
  unfold b1z c1p
  split
  ·exact ⟨rfl,by simp⟩
  ·rfl
 rw [if_neg h,if_neg h]
 by_cases h1:bz s i=123
 ·rw [if_pos h1,if_neg (show ¬ bz s i=40 by omega),if_neg (show ¬ bz s i=41 by omega),if_neg (show ¬ bz s i=124 by omega),if_neg (show ¬ bz s i=42 by omega),if_neg (show ¬ bz s i=43 by omega),if_neg (show ¬ bz s i=63 by omega),if_pos h1]
  exact b7l s i hi
 rw [if_neg h1]
 by_cases h2:bz s i=40
 ·rw [if_pos h2,if_pos h2];rfl
 rw [if_neg h2,if_neg h2]
 by_cases h3:bz s i=41
 ·rw [if_pos h3,if_pos h3];rfl
 rw [if_neg h3,if_neg h3]
 by_cases h4:bz s i=124
 ·rw [if_pos h4,if_pos h4];rfl
 rw [if_neg h4,if_neg h4]
 by_cases h5:bz s i=42
 ·rw [if_pos h5,if_pos h5];rfl
 rw [if_neg h5,if_neg h5]
 by_cases h6:bz s i=43
 ·rw [if_pos h6,if_pos h6];rfl
 rw [if_neg h6,if_neg h6]
 by_cases h7:bz s i=63
 ·rw [if_pos h7,if_pos h7];rfl
 rw [if_neg h7,if_neg h7,if_neg h1]
 rw [b5l hi]
 exact ⟨rfl,by simp⟩
theorem c0f (s:List UInt8) (p:Nat) (n:Int):(decide (20 < n)||((n == 0&&decide ((p:Int) < s.length))&&((s.getD p 0).toNat:Int) == 125))=decide (20 < n∨(n=0∧bz s p=125)):=by
 rw [Bool.and_assoc,c0j s p (by decide),Bool.decide_or,Bool.decide_and]
 rfl
theorem b5T (s:List UInt8) (i:Nat):(decide ((i:Int) < s.length)&&(smallZ ((s.getD i 0).toNat:Int)||a0S ((s.getD i 0).toNat:Int)))=alnumZ (bz s i):=by
 unfold alnumZ
 rw [c2U,b3d,Bool.and_or_distrib_left]
theorem a8H {s:List UInt8} {i:Nat} (h:a4K (bz s i)=false):a3L s i=.error (a1s s i):=by
 unfold a4K at h
 simp only [Bool.or_eq_false_iff,decide_eq_false_iff_not] at h
 obtain ⟨⟨⟨⟨⟨⟨⟨h0,h1⟩,h2⟩,h3⟩,h4⟩,h5⟩,h6⟩,h7⟩:=h
 unfold a3L
 rw [if_neg (by rw [h0];decide),if_neg h7,if_neg h1,if_neg h2,if_neg h3,if_neg h4,if_neg h5,if_neg h6]
end Go.Proofs.YtdbbbafiegpbpaaGreatDoor
namespace Go.Proofs.YtdbbbafiegpbpaaGreatDoor
set_option linter.unusedSimpArgs false
set_option linter.unusedVariables false
set_option maxRecDepth 100000
open Go.RowKit
@[reducible] def rdF (s:List UInt8) (i:Nat):Nat→Nat→HV:=fun _ j=>match j with | 0=>strV s | _=>intV i
@[reducible] def rdO (g:Nat) (s:List UInt8) (i:Nat):HObj:=⟨g,1,2,158,0,rdF s i⟩
@[reducible] def c6X (e:Int×Int):Nat→HV:=fun j=>match j with | 0=>intV e.1 | _=>intV e.2
@[reducible] def a6z (e:Int×Int):HV:=.ifc 154 (.agg 2 (c6X e))
theorem b8I {sh:List (Nat×HObj)} {f f':Nat→HV} (h0:Fz sh (f 0) (f' 0)) (h1:Fz sh (f 1) (f' 1)):Fz sh (.agg 2 f) (.agg 2 f'):=.agg _ _ _ fun i hi=>by
 match i,hi with
 | 0,_=>exact h0
 | 1,_=>exact h1
theorem a0Z {sh:List (Nat×HObj)} {f f':Nat→HV} (h0:Fz sh (f 0) (f' 0)) (h1:Fz sh (f 1) (f' 1)) (h2:Fz sh (f 2) (f' 2)) (h3:Fz sh (f 3) (f' 3)) (h4:Fz sh (f 4) (f' 4)):Fz sh (.agg 5 f) (.agg 5 f'):=.agg _ _ _ fun i hi=>by
 match i,hi with
 | 0,_=>exact h0
 | 1,_=>exact h1
 | 2,_=>exact h2
 | 3,_=>exact h3
 | 4,_=>exact h4
instance frz_fault (e:Int×Int):Frz (a6z e):=⟨.ifc _ _ _ (b8I (.imm _) (.imm _))⟩
theorem a1C {kp sh:List (Nat×HObj)} (e:Int×Int):Kz kp sh (a6z e) (a6z e):=.fz _ _ Frz.fz
theorem a4q {kp sh:List (Nat×HObj)} {g i:Nat} {s:List UInt8}:OKz kp sh (rdO g s i) (rdO g s i):=b9j (.fz _ _ (.imm _)) (.fz _ _ (.imm _))
theorem b4j (x:Int):HPure Tryz.prog 76 [.imm (.int .u8 x)] (boolV (smallZ x)):=by
 refine a0k Tryz.func76 rfl kr _ _ _ rfl 9 rfl rfl (fun w F=>?_)
 refine ru 17 ?_
 refine rt1 ?_
 exact Frz.fz
theorem b0M (x:Int):HPure Tryz.prog 112 [.imm (.int .u8 x)] (boolV (a0S x)):=by
 refine a0k Tryz.func112 rfl kr _ _ _ rfl 9 rfl rfl (fun w F=>?_)
 refine ru 17 ?_
 refine rt1 ?_
 exact Frz.fz
theorem a3G (g:Nat) (s:List UInt8) (i:Nat) (hs:s.length≤1000000) (hi:i≤s.length):a4Q Tryz.prog 75 [.pt 9001 g 0 0] [(9001,rdO g s i)] (.imm (.int .u8 (bz s i))) [(9001,rdO g s i)]:=by
 intro c
 refine a0w Tryz.func75 rfl kr _ _ _ _ rfl 22 rfl rfl (fun X ok hX=>?_)
 refine ru 20 ?_
 refine wdc (fun hr0 hc0=>?_) (fun hr0 hc0=>?_)
 ·refine ru 16 ?_
  refine fr1 ok hX rw1 (()) (trivial) (by rw [a3F (by simpa using hc0)];exact kza) ?_
  exact ⟨⟨_,rfl,b9j kza kza⟩,trivial⟩
 refine ru 8 ?_
 refine fr1 ok hX rw1 (()) (trivial) (by rw [a6T (by simpa using hc0)];exact kza) ?_
 exact ⟨⟨_,rfl,b9j kza kza⟩,trivial⟩
theorem b3l (c g:Nat) (s:List UInt8) (i:Nat) (p e:Int):a4n Tryz.prog 79 c [.pt 9001 g 0 0,intV p,intV e] [(9001,rdO g s i)] (c7w (fun (y:Int×Int) _=>y=(p,e)) a6z (fun _=>[(9001,rdO g s i)])):=by
 refine a0w Tryz.func79 rfl kr _ _ _ _ rfl 10 rfl rfl (fun X ok hX=>?_)
 refine ru 5 ?_
 refine b7a rfl ?_
 exact b4S ok hX (p,e) rfl rfl (.ifc _ _ _ (.fz _ _ (b8I (.imm _) (.imm _)))) ⟨⟨_,rfl,b9j (.fz _ _ (.imm _)) (.fz _ _ (.imm _))⟩,trivial⟩
theorem b4f (c g:Nat) (s:List UInt8) (i:Nat) (hs:s.length≤1000000) (hi:i≤s.length):a4n Tryz.prog 78 c [.pt 9001 g 0 0] [(9001,rdO g s i)] (c7w (fun (y:Int×Int) _=>y=a1s s i) a6z (fun _=>[(9001,rdO g s i)])):=by
 refine a0w Tryz.func78 rfl kr _ _ _ _ rfl 24 rfl rfl (fun X ok hX=>?_)
 refine ru 15 ?_
 refine wdc (fun hr0 hc0=>?_) (fun hr0 hc0=>?_)
 ·refine ru 6 ?_
  refine a2b (xs:=[_,_,_]) (pre:=[(9001,_)]) (b3l _ _ _ _ _ _) ⟨rfl,⟨rfl,⟨rfl,trivial⟩⟩⟩ (a0i rfl a0g) (fun y c1 hy=>?_)
  refine (a0H ?_)
  exact b4S ok hX y (by rw [hy];unfold a1s;rw [if_pos om,hc0]) rfl (a1C _) ⟨⟨_,rfl,a4q⟩,trivial⟩
 refine ru 8 ?_
 refine a2b (xs:=[_,_,_]) (pre:=[(9001,_)]) (b3l _ _ _ _ _ _) ⟨rfl,⟨rfl,⟨rfl,trivial⟩⟩⟩ (a0i rfl a0g) (fun y c2 hy=>?_)
 refine ?_
 exact b4S ok hX y (by rw [hy];unfold a1s;rw [if_neg om]) rfl (a1C _) ⟨⟨_,rfl,a4q⟩,trivial⟩
theorem a0F {a b:Int} (h:a=b):Sb (intV a) (intV b):=by subst h;exact .refl _
theorem b1o {g ty fl:Nat} {f f':Nat→Nat→HV} (h0:Sb (f 0 0) (f' 0 0)) (h1:Sb (f 0 1) (f' 0 1)) (hfn:fl≤1:=by exact Nat.zero_le _):a2J ⟨g,1,2,ty,fl,f⟩ ⟨g,1,2,ty,fl,f'⟩:=.of (hfn:=hfn) fun i j hi hj=>by
 obtain rfl:i=0:=by omega
 match j,hj with | 0,_=>exact h0 | 1,_=>exact h1
theorem a6v {kp sh:List (Nat×HObj)} {a b:Int} (h:a=b):Kz kp sh (intV a) (intV b):=by subst h;exact .fz _ _ (.imm _)
theorem c7c (l:List UInt8) (v:Int) (hl:l.length≤1000000) (h:Lib.atoiAll l=.ok v):HPure Tryz.prog 117 [strV l] (t2 (intV v) (.imm .nilIface)):=by
 refine ⟨⟨_,_,Tryz.func117,rfl,by kernel_rfl⟩,fun w F vs hF hr hw=>?_⟩
 obtain ⟨u,rfl,hu⟩:=c8Y hr
 rw [hu.imm_inv]
 refine (Tryz.strconv_Atoi_ok ⟨l.toArray⟩ (by rw [a6b];omega) v h w).mono ?_
 rintro e w' ⟨rfl,hb⟩
 have hb:=c1U hb
 exact ⟨hb,_,F,rfl,fun _ h=>h,fun _ h=>.inl h,fun a ha=>⟨(hF a ha).1,by rw [World.cell?_of_block (hb.block _ (a1p (hF a ha).2))];exact (hF a ha).2⟩,
  .tup _ 2 _ (fun i=>match i with | 0=>.int .i64 v | _=>.nilIface) rfl (fun i hi=>by match i,hi with | 0,_=>rfl | 1,_=>rfl) (fun i hi=>by match i,hi with | 0,_=>exact .imm _ | 1,_=>exact .imm _)⟩
@[reducible] def d0w (g:Nat) (s:List UInt8) (i:Nat) (low:Int):HEnd→List (Nat×HObj)→Nat→Prop :=
 RoP (fun (x:Int×Nat) _=>numR s i low=.ok x) (fun x=>intV x.1) (fun x=>[(9001,rdO g s x.2)]) (fun (y:(Int×Int)×Nat) _=>numR s i low=.error y.1) (fun y=>a6z y.1) (fun y=>[(9001,rdO g s y.2)])
theorem b5O (c g:Nat) (s:List UInt8) (i:Nat) (low:Int) (hs:s.length≤1000000) (hi:i≤s.length):a4n Tryz.prog 113 c [.pt 9001 g 0 0,intV low] [(9001,rdO g s i)] (d0w g s i low):=by
 refine a0w Tryz.func113 rfl kr _ _ _ _ rfl 81 rfl rfl (fun X ok hX=>?_)
 refine ru 16 ?_
 refine a0l (α:=Nat) (fun x c=>⟨81,[(0,.v (.pt 9001 g 0 0)),(1,.v (intV low)),(4,.v (intV 0)),(5,.v (intV i))],[(9001,rdO g s (i+x))],c⟩) (fun x=>x≤2∧i+x≤s.length∧(0 < x→a0S (bz s i)=true)∧(1 < x→a0S (bz s (i+1))=true∧bz s i≠48)) (fun x=>3 - x) (0) (by exact ⟨by omega,by omega,fun h=>absurd h om,fun h=>absurd h om⟩) (a0c rfl (Nat.le_refl _) tsa hsa) (fun k c hx NhL1 hL1=>?_)
 (try dsimp only at hx hL1 ⊢)
 obtain ⟨hk,hik,hk0,hk1⟩:=hx
 refine ru 4 ?_
 refine hq_ 13 (a0E (xs:=[_]) (pre:=[(9001,_)]) (a3G g s (i+k) hs hik) ⟨rfl,trivial⟩) rfl rfl (a0i rfl a0g) rfl rfl ?_
 refine cll (b0M _) ?_
 refine ru 2 ?_
 refine wdc (fun hr0 hc0=>?_) (fun hr0 hc0=>?_)
 ·skip
  have hlt:=a2a hc0
  refine ru 32 ?_
  refine wdc (fun hr1 hc1=>?_) (fun hr1 hc1=>?_)
  ·refine ru 2 ?_
   refine a2b (xs:=[_]) (pre:=[(9001,_)]) (b4f _ g s (i+k) hs hik) ⟨rfl,trivial⟩ (a0i rfl a0g) (fun y c1 hy=>?_)
   refine (a0H (a1T (a0H (a1T (a0H ?_)))))
   exact a2C ok hX (y,i+k) (by rw [hy];exact a7Y (c2M hk hk0 hk1 hc0 (by rw [a3F (show i < s.length by omega)];omega))) rfl (a1C _) ⟨⟨_,rfl,a4q⟩,trivial⟩
  refine ru 13 ?_
  exact hL1 (k+1) _ _ (by (try dsimp only);exact c1R hk hk0 hk1 hc0 (by rw [a3F (show i < s.length by omega)];simp only [Bool.and_eq_false_iff,decide_eq_false_iff_not,beq_eq_false_iff_ne] at hc1;omega)) (by (try dsimp only);omega) (a0c rfl (Nat.le_refl _) tsa (a0e.cons rfl (b1o (.refl _) (a0F om)) a0e.nil))
 refine ru 2 ?_
 refine a0d ?_
 refine ru 13 ?_
 refine wdc (fun hr2 hc2=>?_) (fun hr2 hc2=>?_)
 ·refine ru 2 ?_
  refine a2b (xs:=[_]) (pre:=[(9001,_)]) (b4f _ g s (i+k) hs hik) ⟨rfl,trivial⟩ (a0i rfl a0g) (fun y c2 hy=>?_)
  refine (a0H ?_)
  obtain rfl:k=0:=om;exact a2C ok hX (y,i+0) (by rw [hy];exact a7Y (b0R hc0)) rfl (a1C _) ⟨⟨_,rfl,a4q⟩,trivial⟩
 obtain ⟨v,hv,hnum,hv0,hv1⟩:=c4T hk om hk0 hk1 hc0
 refine ru 14 ?_
 refine clx (c7c _ v (by simp;omega) hv) ?_
 refine ru 19 ?_
 refine wdc (fun hr3 hc3=>?_) (fun hr3 hc3=>?_)
 ·refine ru 3 ?_
  refine a2b (xs:=[_,_,_]) (pre:=[(9001,_)]) (b3l _ _ _ _ _ _) ⟨rfl,⟨rfl,⟨rfl,trivial⟩⟩⟩ (a0i rfl a0g) (fun y c3 hy=>?_)
  refine (a0H ?_)
  exact a2C ok hX (y,i+k) (by rw [hy];exact a7z hnum (by simpa using hc3)) rfl (a1C _) ⟨⟨_,rfl,a4q⟩,trivial⟩
 refine ru 9 ?_
 refine a1t ok hX a3g.two rfl (a0h rfl) [] rfl a0g ((v,i+k)) (a8u hnum (by simpa using hc3)) (by rfl) (by rfl) (kza) ?_
 exact ⟨⟨_,rfl,a4q⟩,trivial⟩
@[reducible] def sgF (x:Sg):Nat→HV:=fun j=>match j with | 0=>intV x.kind | 1=>intV x.at_ | 2=>intV x.low | 3=>intV x.high | _=>strV x.name
@[reducible] def sgH (x:Sg):HV:=.agg 5 (sgF x)
@[reducible] def SgP (R:Except (Int×Int) (Sg×Nat)) (g:Nat) (s:List UInt8):HEnd→List (Nat×HObj)→Nat→Prop :=
 RoP (fun (x:Sg×Nat) _=>R=.ok x) (fun x=>sgH x.1) (fun x=>[(9001,rdO g s x.2)]) (fun (y:(Int×Int)×Nat) _=>R=.error y.1) (fun y=>a6z y.1) (fun y=>[(9001,rdO g s y.2)])
theorem a3A {kp sh:List (Nat×HObj)} {f f':Nat→HV} (h0:Kz kp sh (f 0) (f' 0)) (h1:Kz kp sh (f 1) (f' 1)) (h2:Kz kp sh (f 2) (f' 2)) (h3:Kz kp sh (f 3) (f' 3)) (h4:Kz kp sh (f 4) (f' 4)):Kz kp sh (.agg 5 f) (.agg 5 f'):=.agg _ _ _ fun i hi=>by
 match i,hi with
 | 0,_=>exact h0
 | 1,_=>exact h1
 | 2,_=>exact h2
 | 3,_=>exact h3
 | 4,_=>exact h4
theorem a0z {kp sh:List (Nat×HObj)} {v:Value}:Kz kp sh (.imm v) (.imm v):=.fz _ _ (.imm _)
theorem c4q (c g:Nat) (s:List UInt8) (i:Nat) (hs:s.length≤1000000) (hi:i < s.length):a4n Tryz.prog 100 c [.pt 9001 g 0 0] [(9001,rdO g s i)] (SgP (a2u s i) g s):=by
 refine a0w Tryz.func100 rfl kr _ _ _ _ rfl 71 rfl rfl (fun X ok hX=>?_)
 refine ru 29 ?_
 refine (a1b 9001 (rdO g s (i+1)) rfl (by exact b1o (.refl _) (a0F om))).wp ?_
 refine ru 11 ?_
 refine b2u 22 (xs:=[_,_]) (pre:=[(9001,_)]) (b5O _ g s (i+1) 0 hs om) ⟨rfl,⟨rfl,trivial⟩⟩ (a0i rfl a0g) rfl rfl (fun y c1 hy=>(a0H (a2C ok hX y (by unfold a2u;rw [hy]) rfl (a1C _) ⟨⟨_,rfl,a4q⟩,trivial⟩))) (fun x1 c1 hn=>?_)
 obtain ⟨n,p⟩:=x1
 (try dsimp only)
 refine ru 5 ?_
 have hnp:=b0z om hn
 refine ru 11 ?_
 refine hq_ 28 (a0E (xs:=[_]) (pre:=[(9001,_)]) (a3G g s p hs hnp.1) ⟨rfl,trivial⟩) rfl rfl (a0i rfl a0g) rfl rfl ?_
 refine ru 3 ?_
 refine wdc (fun hr0 hc0=>?_) (fun hr0 hc0=>?_)
 ·skip
  have hlt:=a4f (s:=s) (i:=p) om
  refine ru 19 ?_
  refine (a1b 9001 (rdO g s (p+1)) rfl (by exact b1o (.refl _) (a0F om))).wp ?_
  refine ru 2 ?_
  refine hq_ 39 (a0E (xs:=[_]) (pre:=[(9001,_)]) (a3G g s (p+1) hs hlt) ⟨rfl,trivial⟩) rfl rfl (a0i rfl a0g) rfl rfl ?_
  refine ru 3 ?_
  refine wdc (fun hr1 hc1=>?_) (fun hr1 hc1=>?_)
  ·refine ru 5 ?_
   refine b2u 45 (xs:=[_,_]) (pre:=[(9001,_)]) (b5O _ g s (p+1) (if 1 > n then 1 else n) hs hlt) ⟨rfl,⟨rfl,trivial⟩⟩ (a0i rfl a0g) rfl rfl (fun y c2 hy=>(a0H (a2C ok hX y (by unfold a2u;rw [hn];simp only;rw [if_pos hc0,if_neg hc1,hy]) rfl (a1C _) ⟨⟨_,rfl,a4q⟩,trivial⟩))) (fun x2 c2 hm=>?_)
   obtain ⟨m,q⟩:=x2
   (try dsimp only)
   refine ru 6 ?_
   have hmq:=b0z hlt hm
   refine ru 2 ?_
   refine hq_ 59 (a0E (xs:=[_]) (pre:=[(9001,_)]) (a3G g s q hs hmq.1) ⟨rfl,trivial⟩) rfl rfl (a0i rfl a0g) rfl rfl ?_
   refine ru 3 ?_
   refine wdc (fun hr3 hc3=>?_) (fun hr3 hc3=>?_)
   ·refine ru 2 ?_
    refine a2b (xs:=[_]) (pre:=[(9001,_)]) (b4f _ g s q hs hmq.1) ⟨rfl,trivial⟩ (a0i rfl a0g) (fun y c3 hy=>?_)
    refine (a0H ?_)
    exact a2C ok hX (y,q) (by rw [hy];unfold a2u;rw [hn];simp only;rw [if_pos hc0,if_neg hc1,hm];simp only;rw [if_neg hc3]) rfl (a1C _) ⟨⟨_,rfl,a4q⟩,trivial⟩
   refine ru 21 ?_
   refine a1t ok hX a3g.two rfl (a0J rfl rfl ty_120.h rqc rfl rfl) [] rfl a0g ((⟨5,i,n,m,[]⟩,q+1)) (by unfold a2u;rw [hn];simp only;rw [if_pos hc0,if_neg hc1,hm];simp only;rw [if_pos hc3]) (by rfl) (by rfl) (a3A a0z a0z a0z a0z a0z) ?_
   exact ⟨⟨_,rfl,b9j kza (a6v om)⟩,trivial⟩
  refine ru 6 ?_
  refine hq_ 59 (a0E (xs:=[_]) (pre:=[(9001,_)]) (a3G g s (p+1) hs hlt) ⟨rfl,trivial⟩) rfl rfl (a0i rfl a0g) rfl rfl ?_
  refine ru 3 ?_
  refine wdc (fun hr3 hc3=>?_) (fun hr3 hc3=>?_)
  ·skip
   exfalso;exact hc3 hc1
  refine ru 21 ?_
  refine a1t ok hX a3g.two rfl (a0J rfl rfl ty_120.h rqc rfl rfl) [] rfl a0g ((⟨5,i,n,-1,[]⟩,p+2)) (by unfold a2u;rw [hn];simp only;rw [if_pos hc0,if_pos hc1]) (by rfl) (by rfl) (a3A a0z a0z a0z a0z a0z) ?_
  exact ⟨⟨_,rfl,b9j kza (a6v om)⟩,trivial⟩
 refine ru 3 ?_
 refine hq_ 48 (a0E (xs:=[_]) (pre:=[(9001,_)]) (a3G g s p hs hnp.1) ⟨rfl,trivial⟩) rfl rfl (a0i rfl a0g) rfl rfl ?_
 refine ru 8 ?_
 refine wdc (fun hr2 hc2=>?_) (fun hr2 hc2=>?_)
 ·refine ru 3 ?_
  refine a2b (xs:=[_,_,_]) (pre:=[(9001,_)]) (b3l _ _ _ _ _ _) ⟨rfl,⟨rfl,⟨rfl,trivial⟩⟩⟩ (a0i rfl a0g) (fun y c4 hy=>?_)
  refine (a0H ?_)
  exact a2C ok hX (y,p) (by rw [hy];unfold a2u;rw [hn];simp only;rw [if_neg hc0,if_pos hc2.1,if_pos hc2.2]) rfl (a1C _) ⟨⟨_,rfl,a4q⟩,trivial⟩
 refine ru 6 ?_
 refine hq_ 59 (a0E (xs:=[_]) (pre:=[(9001,_)]) (a3G g s p hs hnp.1) ⟨rfl,trivial⟩) rfl rfl (a0i rfl a0g) rfl rfl ?_
 refine ru 3 ?_
 refine wdc (fun hr3 hc3=>?_) (fun hr3 hc3=>?_)
 ·refine ru 2 ?_
  refine a2b (xs:=[_]) (pre:=[(9001,_)]) (b4f _ g s p hs hnp.1) ⟨rfl,trivial⟩ (a0i rfl a0g) (fun y c5 hy=>?_)
  refine (a0H ?_)
  exact a2C ok hX (y,p) (by rw [hy];unfold a2u;rw [hn];simp only;rw [if_neg hc0,if_neg hc3]) rfl (a1C _) ⟨⟨_,rfl,a4q⟩,trivial⟩
 refine ru 21 ?_
 refine a1t ok hX a3g.two rfl (a0J rfl rfl ty_120.h rqc rfl rfl) [] rfl a0g ((⟨5,i,n,n,[]⟩,p+1)) (by unfold a2u;rw [hn];simp only;rw [if_neg hc0,if_pos hc3,if_neg (fun h0=>by rw [hc3,h0] at hr2;exact absurd hr2 (by decide))]) (by rfl) (by rfl) (a3A a0z a0z a0z a0z a0z) ?_
 exact ⟨⟨_,rfl,b9j kza (a6v om)⟩,trivial⟩
@[reducible] def sg0:Nat→Nat→HV:=fun _ j=>.imm (([.int .i64 0,.int .i64 0,.int .i64 0,.int .i64 0,.string ByteArray.empty]:List Value).getD j undef)
theorem c7N (c0 g:Nat) (s:List UInt8) (i:Nat) (hs:s.length≤1000000) (hi:smallZ (bz s i)=true):a4n Tryz.prog 99 c0 [.pt 9001 g 0 0] [(9001,rdO g s i)] (SgP (b1z s i) g s):=by
 have hil:=a8d hi
 refine a0w Tryz.func99 rfl kr _ _ _ _ rfl 52 rfl rfl (fun X ok hX=>?_)
 refine ru 16 ?_
 refine a0l (α:=Nat) (fun x c=>⟨52,[(0,.v (.pt 9001 g 0 0)),(2,.v (.pt 2 c0 0 0)),(3,.v (intV i))],[(9001,rdO g s (i+x)),(2,⟨c0,1,5,120,0,sg0⟩)],c⟩) (fun x=>x≤12∧i+x≤s.length∧(∀ j,j < x→alnumZ (bz s (i+j))=true)) (fun x=>12 - x) (0) (by exact ⟨by omega,by omega,fun j h=>absurd h om⟩) (a0c rfl (Nat.le_refl _) tsa hsa) (fun k c hx NhL1 hL1=>?_)
 (try dsimp only at hx hL1 ⊢)
 obtain ⟨hk,hik,hal⟩:=hx
 refine ru 4 ?_
 refine hq_ 9 (a0E (xs:=[_]) (pre:=[(9001,_)]) (a3G g s (i+k) hs hik) ⟨rfl,trivial⟩) rfl rfl (a0i rfl a0g) rfl rfl ?_
 refine cll (b4j _) ?_
 refine ru 9 ?_
 first
 | refine c3o 20 10 18 true _ (fun hb=>a0E (xs:=[_]) (pre:=[(9001,_)]) (a3G g s (i+k) hs hik) ⟨rfl,trivial⟩) rfl rfl rfl rfl (a0i rfl a0g) rfl rfl rfl ?_
 | refine a4P 20 10 18 11 false true _ _ (fun hb hb2=>a0E (xs:=[_]) (pre:=[(9001,_)]) (a3G g s (i+k) hs hik) ⟨rfl,trivial⟩) rfl rfl rfl rfl rfl (a0i rfl a0g) rfl rfl rfl ?_
 | refine b7o 20 10 18 _ _ true _ (fun hb=>a0E (xs:=[_]) (pre:=[(9001,_)]) (a3G g s (i+k) hs hik) ⟨rfl,trivial⟩) rfl rfl rfl rfl (a0i rfl a0g) rfl rfl rfl ?_
 first
 | refine stg 18 (fun hb=>a0f (xs:=[_]) (b0M _) ⟨rfl,trivial⟩ ⟨(Fz.eq rfl),trivial⟩) rfl rfl rfl rfl rfl ?_
 | refine a4P 21 10 18 11 false true _ _ (fun hb hb2=>a0f (xs:=[_]) (b0M _) ⟨rfl,trivial⟩ ⟨(Fz.eq rfl),trivial⟩) rfl rfl rfl rfl rfl a0g rfl rfl rfl ?_
 | refine sth 18 (fun hb=>a0f (xs:=[_]) (b0M _) ⟨rfl,trivial⟩ ⟨(Fz.eq rfl),trivial⟩) rfl rfl rfl rfl rfl ?_
 refine ru 4 ?_
 refine wdc (fun hr0 hc0=>?_) (fun hr0 hc0=>?_)
 ·skip
  have hall:alnumZ (bz s (i+k))=true:=(by unfold alnumZ;rw [Bool.or_eq_true];rcases hc0 with h | h;exact .inl h;exact .inr h.2);have hlt:i+k < s.length:=a4f (fun h=>by rw [h] at hall;exact absurd hall (by decide))
  refine ru 15 ?_
  refine wdc (fun hr1 hc1=>?_) (fun hr1 hc1=>?_)
  ·refine ru 2 ?_
   refine a2b (xs:=[_]) (pre:=[(9001,_)]) (b4f _ g s (i+k) hs hik) ⟨rfl,trivial⟩ (a0i rfl a0g) (fun y c1 hy=>?_)
   refine (a0H (a1T (a0H (a1T (a0H ?_)))))
   obtain rfl:k=12:=om;exact a2C ok hX (y,i+12) (by rw [hy,b5l hlt];exact b7V (fun j hj=>by rcases Nat.lt_or_ge j 12 with h | h;exact hal j h;obtain rfl:j=12:=om;exact hall)) rfl (a1C _) ⟨⟨_,rfl,a4q⟩,trivial⟩
  refine ru 13 ?_
  exact hL1 (k+1) _ _ (by (try dsimp only);exact ⟨by omega,by omega,fun j hj=>by rcases Nat.lt_or_ge j k with h | h;exact hal j h;obtain rfl:j=k:=om;exact hall⟩) (by (try dsimp only);omega) (a0c rfl (Nat.le_refl _) tsa (a0e.cons rfl (b1o (.refl _) (a0F om)) hsa))
 have hno:alnumZ (bz s (i+k))=false:=(by unfold alnumZ;rw [hc0.1,Bool.false_or];have h2:=hc0.2;rcases Nat.eq_zero_or_pos k with h | h;subst h;rw [Nat.add_zero] at hc0;rw [hi] at hc0;exact absurd hc0.1 (by decide);rw [show decide ((i:Int) < ((i+k:Nat):Int))=true from decide_eq_true om,Bool.true_and] at h2;exact h2)
 refine ru 2 ?_
 refine a0d ?_
 refine ru 20 ?_
 refine a1t ok hX a3g.two rfl (a0J rfl rfl ty_120.h rqc rfl rfl) [] rfl a0g ((⟨1,i,0,0,(s.drop i).take (i+k - i)⟩,i+k)) (b8O hk hal hno) (by rfl) (by rfl) (a3A a0z a0z a0z a0z a0z) ?_
 exact ⟨⟨_,rfl,a4q⟩,trivial⟩
theorem b9c:∀ k:Fin 6,(((⟨#[40,41,124,42,43,63]⟩:ByteArray)[k.val]'k.isLt).toNat < 128)∧((((⟨#[40,41,124,42,43,63]⟩:ByteArray)[k.val]'k.isLt).toNat:Int)=b7I k.val):=by decide +kernel
theorem b9A {k:Nat} (h:k < 6):((⟨#[40,41,124,42,43,63]⟩:ByteArray)[k]'h).toNat < 128:=(b9c ⟨k,h⟩).1
theorem c7d {k:Nat} (h:k < 6):(((⟨#[40,41,124,42,43,63]⟩:ByteArray)[k]'h).toNat:Int)=b7I k:=(b9c ⟨k,h⟩).2
theorem c6C (c0 g:Nat) (s:List UInt8) (i:Nat) (hs:s.length≤1000000) (hi:i≤s.length) (hi0:smallZ (bz s i)=false) (hi1:bz s i≠123):a4n Tryz.prog 98 c0 [.pt 9001 g 0 0] [(9001,rdO g s i)] (SgP (a3L s i) g s):=by
 refine a0w Tryz.func98 rfl kr _ _ _ _ rfl 56 rfl rfl (fun X ok hX=>?_)
 refine ru 8 ?_
 refine a0u 6 (b3Z (id:=6) kr rfl) rfl rfl a0g rfl rfl (c':=c0+2) rfl ?_
 refine ru 3 ?_
 refine a0l (α:=Nat) (fun x c=>⟨56,[(0,.v (.pt 9001 g 0 0)),(2,.v (.pt 2 c0 0 0)),(6,.v (.pt 6 (c0+1) 0 0))],[(6,a7W (c0+1) ⟨#[40,41,124,42,43,63]⟩ x),(9001,rdO g s i),(2,⟨c0,1,5,120,0,sg0⟩)],c⟩) (fun x=>x≤6∧(∀ j,j < x→bz s i≠b7I j)) (fun x=>6 - x) (0) (by exact ⟨by omega,fun j h=>absurd h om⟩) (a0c rfl (Nat.le_refl _) tsa hsa) (fun k c hx NhL1 hL1=>?_)
 (try dsimp only at hx hL1 ⊢)
 obtain ⟨hk,hno⟩:=hx
 refine ru 1 ?_
 rcases Nat.lt_or_ge k 6 with hk6 | hk6
 ·refine ru 1 ?_
  refine a0u 7 (b7g (c:=b7I k) rfl hk6 (b9A hk6) (c7d hk6)) rfl rfl (a0P rfl) rfl rfl (c':=c+1) rfl ?_
  refine ru 4 ?_
  refine wdc (fun hr0 hc0=>?_) (fun hr0 hc0=>?_)
  ·skip
   have hck:=b7X k
   refine ru 15 ?_
   refine hq_ 12 (a0E (xs:=[_]) (pre:=[(9001,_)]) (a3G g s i hs hi) ⟨rfl,trivial⟩) rfl rfl (a0i rfl a0g) rfl rfl ?_
   refine ru 5 ?_
   refine wdc (fun hr1 hc1=>?_) (fun hr1 hc1=>?_)
   ·refine ru 3 ?_
    exact hL1 (k+1) _ _ (by (try dsimp only);exact ⟨by omega,fun j hj=>by rcases Nat.lt_or_ge j k with h | h;exact hno j h;obtain rfl:j=k:=om;exact hc1⟩) (by (try dsimp only);omega) (a0c rfl (Nat.le_refl _) tsa hsa)
   refine ru 28 ?_
   refine wdc (fun hr2 hc2=>?_) (fun hr2 hc2=>?_)
   ·refine ru 30 ?_
    refine a0o ?_
    refine ru 2 ?_
    refine a1t ok hX a3g.two rfl (a0J rfl rfl ty_120.h rqc rfl rfl) [] rfl a0g ((⟨5,i,0,-1,[]⟩,i+1)) (c8K (hc1.trans hc2)) (by rfl) (by rfl) (a3A a0z a0z a0z a0z a0z) ?_
    exact ⟨⟨_,rfl,b9j kza (a6v om)⟩,trivial⟩
   refine ru 6 ?_
   refine wdc (fun hr3 hc3=>?_) (fun hr3 hc3=>?_)
   ·refine ru 30 ?_
    refine a0o ?_
    refine ru 2 ?_
    refine a1t ok hX a3g.two rfl (a0J rfl rfl ty_120.h rqc rfl rfl) [] rfl a0g ((⟨5,i,1,-1,[]⟩,i+1)) (c7Z (hc1.trans hc3)) (by rfl) (by rfl) (a3A a0z a0z a0z a0z a0z) ?_
    exact ⟨⟨_,rfl,b9j kza (a6v om)⟩,trivial⟩
   refine ru 6 ?_
   refine wdc (fun hr4 hc4=>?_) (fun hr4 hc4=>?_)
   ·refine ru 30 ?_
    refine a0o ?_
    refine ru 2 ?_
    refine a1t ok hX a3g.two rfl (a0J rfl rfl ty_120.h rqc rfl rfl) [] rfl a0g ((⟨5,i,0,1,[]⟩,i+1)) (c8D (hc1.trans hc4)) (by rfl) (by rfl) (a3A a0z a0z a0z a0z a0z) ?_
    exact ⟨⟨_,rfl,b9j kza (a6v om)⟩,trivial⟩
   refine ru 23 ?_
   refine a0o ?_
   refine ru 2 ?_
   refine a1t ok hX a3g.two rfl (a0J rfl rfl ty_120.h rqc rfl rfl) [] rfl a0g ((⟨2+k,i,0,0,[]⟩,i+1)) (c6G hk6 hc1 hc2 hc3 hc4) (by rfl) (by rfl) (a3A a0z a0z a0z a0z a0z) ?_
   exact ⟨⟨_,rfl,b9j kza (a6v om)⟩,trivial⟩
  exfalso;cases hr0
 ·refine ru 1 ?_
  refine st1 (b2b rfl (by show ¬ k < 6;omega)) rfl rfl rfl ?_
  refine ru 4 ?_
  refine wdc (fun hr0 hc0=>?_) (fun hr0 hc0=>?_)
  ·skip
   exfalso;cases hr0
  refine ru 2 ?_
  refine a0d ?_
  refine ru 5 ?_
  refine a2b (xs:=[_]) (pre:=[(9001,_)]) (b4f _ g s i hs hi) ⟨rfl,trivial⟩ (a0i rfl a0g) (fun y c1 hy=>?_)
  refine (a0H ?_)
  exact a2C ok hX (y,i) (by rw [hy];exact c2X hi0 hi1 (fun j hj=>hno j om)) rfl (a1C _) ⟨⟨_,rfl,a4q⟩,trivial⟩
theorem c3w (c0 g:Nat) (s:List UInt8) (i:Nat) (hs:s.length≤1000000) (hi:i≤s.length):a4n Tryz.prog 80 c0 [.pt 9001 g 0 0] [(9001,rdO g s i)] (SgP (a3L s i) g s):=by
 refine a0w Tryz.func80 rfl kr _ _ _ _ rfl 21 rfl rfl (fun X ok hX=>?_)
 refine ru 16 ?_
 refine hq_ 8 (a0E (xs:=[_]) (pre:=[(9001,_)]) (a3G g s i hs hi) ⟨rfl,trivial⟩) rfl rfl (a0i rfl a0g) rfl rfl ?_
 refine ru 7 ?_
 refine cll (b4j _) ?_
 refine ru 3 ?_
 refine wdc (fun hr0 hc0=>?_) (fun hr0 hc0=>?_)
 ·refine ru 10 ?_
  refine a7v 20 (xs:=[]) (pre:=[(9001,_)]) (c7N _ g s i hs hc0) rfl trivial (a0i rfl a0g) rfl rfl (fun y c1 hy=>(a0H (a2C ok hX y (by unfold a3L;rw [if_pos hc0,hy]) rfl (a1C _) ⟨⟨_,rfl,a4q⟩,trivial⟩))) (fun x1 c1 hx=>?_)
  obtain ⟨x,q⟩:=x1
  (try dsimp only)
  refine ru 4 ?_
  refine a1t ok hX a3g.two rfl (a0J rfl rfl ty_120.h rqc rfl rfl) [] rfl a0g ((x,q)) (by unfold a3L;rw [if_pos hc0,hx]) (by rfl) (by rfl) (a3A a0z a0z a0z a0z a0z) ?_
  exact ⟨⟨_,rfl,a4q⟩,trivial⟩
 refine ru 7 ?_
 refine wdc (fun hr1 hc1=>?_) (fun hr1 hc1=>?_)
 ·refine ru 10 ?_
  refine a7v 20 (xs:=[]) (pre:=[(9001,_)]) (c4q _ g s i hs (a4f om)) rfl trivial (a0i rfl a0g) rfl rfl (fun y c2 hy=>(a0H (a2C ok hX y (by unfold a3L;rw [if_neg (by rw [hc0];decide),if_pos hc1,hy]) rfl (a1C _) ⟨⟨_,rfl,a4q⟩,trivial⟩))) (fun x2 c2 hx=>?_)
  obtain ⟨x,q⟩:=x2
  (try dsimp only)
  refine ru 4 ?_
  refine a1t ok hX a3g.two rfl (a0J rfl rfl ty_120.h rqc rfl rfl) [] rfl a0g ((x,q)) (by unfold a3L;rw [if_neg (by rw [hc0];decide),if_pos hc1,hx]) (by rfl) (by rfl) (a3A a0z a0z a0z a0z a0z) ?_
  exact ⟨⟨_,rfl,a4q⟩,trivial⟩
 refine ru 6 ?_
 refine a7v 20 (xs:=[]) (pre:=[(9001,_)]) (c6C _ g s i hs hi hc0 hc1) rfl trivial (a0i rfl a0g) rfl rfl (fun y c3 hy=>(a0H (a2C ok hX y hy rfl (a1C _) ⟨⟨_,rfl,a4q⟩,trivial⟩))) (fun x3 c3 hx=>?_)
 obtain ⟨x,q⟩:=x3
 (try dsimp only)
 refine ru 4 ?_
 refine a1t ok hX a3g.two rfl (a0J rfl rfl ty_120.h rqc rfl rfl) [] rfl a0g ((x,q)) (hx) (by rfl) (by rfl) (a3A a0z a0z a0z a0z a0z) ?_
 exact ⟨⟨_,rfl,a4q⟩,trivial⟩
end Go.Proofs.YtdbbbafiegpbpaaGreatDoor
namespace Go.Proofs.YtdbbbafiegpbpaaGreatDoor
set_option linter.unusedSimpArgs false
set_option linter.unusedVariables false
open Go.RowKit
open Go.Lib hiding intOf
end Go.Proofs.YtdbbbafiegpbpaaGreatDoor
namespace Go.Proofs
open Go.Shelf
set_option maxRecDepth 100000
end Go.Proofs
namespace Go.Proofs.YtdbbbafiegpbpaaGreatDoor
set_option linter.unusedSimpArgs false
set_option linter.unusedVariables false
open Go.RowKit
open Go.Lib hiding intOf
def d0d (n:Nat):UInt8:=if n < 10 then UInt8.ofNat (48+n) else UInt8.ofNat (87+n)
def c7B (c:UInt8):Bool:=decide (32 < c.toNat)&&!decide (c.toNat=127)
def c9d (c:UInt8):List UInt8 :=
 if c.toNat=92 then [92,92] else if c.toNat=32 then [92,115] else if c.toNat=10 then [92,110] else if c7B c then [c] else [92,120,d0d (c.toNat / 16),d0d (c.toNat % 16)]
def c9W (l:List UInt8):List UInt8:=l.flatMap c9d
set_option maxRecDepth 100000
end Go.Proofs.YtdbbbafiegpbpaaGreatDoor
namespace Go.Proofs.YtdbbbafiegpbpaaGreatDoor
set_option linter.unusedSimpArgs false
set_option linter.unusedVariables false
open Classical in
noncomputable def d0u (l:List UInt8):Option (List UInt8):=if h:∃ b,c9W b=l then some h.choose else none
end Go.Proofs.YtdbbbafiegpbpaaGreatDoor
namespace Go.Proofs
open Go.Shelf
def Tryz.lays137_ren:Go.Shelf.Ren:=⟨fun | 137=>77 | 217=>97 | 266=>111 | n=>n,fun | 9=>9 | 5=>5 | 3=>3 | n=>n,fun | n=>n⟩
theorem Tryz.lays137:Go.Proofs.Lays.n137 Tryz.prog Tryz.lays137_ren:={
 mixed:=by kernel_rfl
 f137:=Tryz.func77.trans (congrArg some (by kernel_rfl))
 f217:=Tryz.func97.trans (congrArg some (by kernel_rfl))
 f266:=Tryz.func111.trans (congrArg some (by kernel_rfl))
 t3:=Tryz.underlying3
 a3:=Tryz.isAgg3
 z3:=Tryz.sizeOf3
 v3:=Tryz.zeroValue3
 t5:=Tryz.underlying5
 a5:=Tryz.isAgg5
 z5:=Tryz.sizeOf5
 v5:=Tryz.zeroValue5
 t9:=Tryz.underlying9
 a9:=Tryz.isAgg9
 z9:=Tryz.sizeOf9
 v9:=Tryz.zeroValue9 }
open Go.RowKit in
theorem Tryz.strings_IndexByte (s:ByteArray) (c:Int) (w:World) :
  Calls Tryz.prog 77 #[.string s,.int .u8 c] w fun e w'=>e=.returned (.int .i64 (Lib.indexByte s.data.toList c.toNat.toUInt8))∧w'=w:=Any.strings_IndexByte Tryz.lays137 s c w
end Go.Proofs
namespace Go.Proofs.YtdbbbafiegpbpaaGreatDoor
set_option linter.unusedSimpArgs false
set_option linter.unusedVariables false
set_option maxRecDepth 100000
open Go.RowKit
theorem c4V (c:UInt8):((c.toNat:Int)).toNat.toUInt8=c:=by simp
theorem a8y (l:List UInt8) (c:UInt8):HPure Tryz.prog 77 [strV l,u8V c] (intV (Lib.indexByte l c)):=by
 refine ⟨⟨_,_,Tryz.func77,rfl,by kernel_rfl⟩,fun w F vs hF hr hw=>?_⟩
 obtain ⟨u,v,rfl,hu,hv⟩:=c6P hr
 rw [hu.imm_inv,hv.imm_inv]
 refine (Tryz.strings_IndexByte ⟨l.toArray⟩ c.toNat w).mono ?_
 rintro e w' ⟨rfl,rfl⟩
 rw [c4V]
 exact a8c hF (Below.refl _ _)
instance:Inhabited Sg:=⟨⟨0,0,0,0,[]⟩⟩
@[reducible] def c3H (l:List Sg):Nat→Nat→HV:=fun i j=>sgF (l.getD i default) j
@[reducible] def a4t (l:List Sg):HV:=.sl 5 l.length (c3H l)
def b7K (r:Except (Int×Int) (List Sg)):List Sg×Int×Int:=match r with | .ok l=>(l,0,0) | .error e=>([],e.1,e.2)
@[reducible] def c3G (r:List Sg×Int×Int):HV:=t3 (a4t r.1) (intV r.2.1) (intV r.2.2)
@[reducible] def cell1 (g ty:Nat) (x:HV):HObj:=⟨g,1,1,ty,0,fun _ _=>x⟩
theorem a5H {kp sh:List (Nat×HObj)} {g ty:Nat} {f:Nat→Nat→HV} {y:HV} (h:Kz kp sh (f 0 0) y):OKz kp sh ⟨g,1,1,ty,0,f⟩ (cell1 g ty y):=c6T h
theorem c8e (c ga gb gd gl n:Nat) (F:Nat→Nat→HV) (hF:∀ i j,∃ v,F i j=.imm v) (va ve:Int):c6M Tryz.prog 74 a9G a9G c [.pt 2 ga 0 0,.pt 3 gb 0 0,.pt 4 gd 0 0] (.imm .nilIface)
  [(2,cell1 ga 111 (.os 54 gl 0 n)),(3,cell1 gb 3 (intV va)),(4,cell1 gd 29 (intV ve)),(54,⟨gl,n,5,120,0,F⟩)]
  (a9C (fun (_:Unit) _=>True) (fun _=>.tup 0 fun _=>default) (fun _=>[(2,cell1 ga 111 (.os 54 gl 0 n)),(3,cell1 gb 3 (intV va)),(4,cell1 gd 29 (intV ve)),(54,⟨gl,n,5,120,0,F⟩)])):=by
 refine b9B _ _ _ d0y Tryz.func74 rfl kr _ _ _ rfl 21 rfl rfl rfl rfl rfl rfl (by decide) (fun X ok hX=>?_)
 refine ru 6 ?_
 refine wdc (fun hr0 hc0=>?_) (fun hr0 hc0=>?_)
 ·skip
  exfalso;cases hr0
 refine ru 1 ?_
 refine a1W ?_
 refine a1w ok hX a3g.one rfl  [] rfl a0g (()) (trivial) (by rfl) (by rfl) (kza) ?_
 exact ⟨⟨_,rfl,a5H kza⟩,⟨⟨_,rfl,a5H kza⟩,⟨⟨_,rfl,a5H kza⟩,⟨⟨_,rfl,.of (fun i j hi hj=>by obtain ⟨v,hv⟩:=hF i j;rw [hv];exact a0z)⟩,trivial⟩⟩⟩⟩
theorem c7p (c ga gb gd:Nat) (x:HV) (va ve:Int) (e:Int×Int):c6M Tryz.prog 74 c0d b3i c [.pt 2 ga 0 0,.pt 3 gb 0 0,.pt 4 gd 0 0] (a6z e)
  [(2,cell1 ga 111 x),(3,cell1 gb 3 (intV va)),(4,cell1 gd 29 (intV ve))]
  (a9C (fun (_:Unit) _=>True) (fun _=>.tup 0 fun _=>default) (fun _=>[(2,cell1 ga 111 (.imm (.slice none 0 0))),(3,cell1 gb 3 (intV e.1)),(4,cell1 gd 29 (intV e.2))])):=by
 refine b9B _ _ _ (d0l _) Tryz.func74 rfl kr _ _ _ rfl 21 rfl rfl rfl rfl rfl rfl (by decide) (fun X ok hX=>?_)
 refine ru 6 ?_
 refine wdc (fun hr0 hc0=>?_) (fun hr0 hc0=>?_)
 ·refine ru 3 ?_
  refine s0 (b0P kr rfl) ?_
  refine ru 3 ?_
  refine a0u 4 (a0T (id:=104) (sz:=2) zc_154.h rfl rfl omx omx) rfl rfl a0g rfl rfl (c':=c+1) rfl ?_
  refine ru 11 ?_
  refine wdc (fun hr1 hc1=>?_) (fun hr1 hc1=>?_)
  ·skip
   exfalso;cases hr1
  refine ru 11 ?_
  refine a1W ?_
  refine a1w ok hX a3g.one rfl  [] rfl a0g (()) (trivial) (by rfl) (by rfl) (kza) ?_
  exact ⟨⟨_,rfl,a5H kza⟩,⟨⟨_,rfl,a5H kza⟩,⟨⟨_,rfl,a5H kza⟩,trivial⟩⟩⟩
 exfalso;cases hr0
section
variable {P:Program}
end
section
variable {P:Program} {ov:Nat→Option HV} {g:Nat} {d:Option Tmp} {ty T U:TypeId} {pos:String} {af:Array Edge} {gd:Option (Nat×Bool)} {x y:Operand}
end
section
variable {K:Nat→Prop} {w0 w:World} {F0:Addr→Prop} {E:Env} {h:Nat→Option HObj}
end
end Go.Proofs.YtdbbbafiegpbpaaGreatDoor
namespace Go.Proofs.YtdbbbafiegpbpaaGreatDoor
set_option linter.unusedSimpArgs false
set_option linter.unusedVariables false
set_option maxRecDepth 100000
open Go.RowKit
open Go.Lib hiding intOf
def a4j (a b:Int):List UInt8 :=
 if a=0∧b=-1 then [42]
 else if a=1∧b=-1 then [43]
 else if a=0∧b=1 then [63]
 else if a=b then [123]++itoa a++[125]
 else if b=-1 then [123]++itoa a++[44,125]
 else [123]++itoa a++[44]++itoa b++[125]
@[reducible] def I64 (n:Int):Prop:=-9223372036854775808≤n∧n≤9223372036854775807
def a3V (x:Sg):List UInt8 :=
 if x.kind=1 then x.name else if x.kind=2 then [40] else if x.kind=3 then [41] else if x.kind=4 then [124] else if x.kind=5 then a4j x.low x.high else []
def c8U (f:Bool) (x:Sg):List UInt8:=if f=false∧x.kind≠5 then [32] else []
def a9M:Bool→List Sg→List UInt8
 | _,[]=>[]
 | f,x::r=>c8U f x++a3V x++a9M false r
structure SgOk (x:Sg):Prop where
 name:x.name.length≤100
 low:I64 x.low
 high:I64 x.high
end Go.Proofs.YtdbbbafiegpbpaaGreatDoor
namespace Go.Proofs.YtdbbbafiegpbpaaGreatDoor
set_option linter.unusedSimpArgs false
set_option linter.unusedVariables false
set_option maxRecDepth 100000
open Go.Lib hiding intOf
theorem a5m (p u:List UInt8) (k:Nat):bz (p++u) (p.length+k)=bz u k:=by
 unfold bz
 simp only [List.length_append]
 by_cases h:k < u.length
 ·rw [if_pos (by omega),if_pos h]
  congr 2
  rw [List.getD_eq_getElem?_getD,List.getD_eq_getElem?_getD,List.getElem?_append_right (by omega),show p.length+k - p.length=k by omega]
 ·rw [if_neg (by omega),if_neg h]
theorem b0U (p u:List UInt8):bz (p++u) p.length=bz u 0:=a5m p u 0
theorem a2g {v:List UInt8} (w:List UInt8) {k:Nat} (h:k < v.length):bz (v++w) k=bz v k:=by
 unfold bz
 rw [if_pos (by rw [List.length_append];omega),if_pos h]
 congr 2
 rw [List.getD_eq_getElem?_getD,List.getD_eq_getElem?_getD,List.getElem?_append_left h]
theorem b7f (p u:List UInt8) (k:Nat):a4M (p++u) (p.length+k)=((a4M u k).1,p.length+(a4M u k).2):=by
 unfold a4M
 rw [show p.length+k+1=p.length+(k+1) by omega,show p.length+k+2=p.length+(k+2) by omega]
 simp only [a5m]
 repeat' split
 all_goals rfl
theorem c1H {v:List UInt8} (w:List UInt8) {k q:Nat} {o:Option Int} (h:a4M v k=(o,q)) (hq:q < v.length):a4M (v++w) k=(o,q):=by
 unfold a4M at h ⊢
 by_cases h0:a0S (bz v k)=true
 ·have l0:=a2a h0
  rw [a2g w l0,if_pos h0]
  rw [if_pos h0] at h
  by_cases h1:a0S (bz v (k+1))=true
  ·have l1:=a2a h1
   rw [if_pos h1] at h
   rw [a2g w l1,if_pos h1]
   by_cases h2:bz v k=48
   ·rw [if_pos h2] at h ⊢;exact h
   ·rw [if_neg h2] at h ⊢
    have l2:k+2 < v.length:=by
     by_cases h3:a0S (bz v (k+2))=true
     ·exact a2a h3
     ·rw [if_neg h3] at h;injection h with _ h;omega
    rw [a2g w l2];exact h
  ·have l1:k+1 < v.length:=by
    rw [if_neg h1] at h;injection h with _ h;omega
   rw [a2g w l1,if_neg h1]
   rw [if_neg h1] at h
   exact h
 ·rw [if_neg h0] at h
  have:k < v.length:=by injection h with _ h;omega
  rw [a2g w this,if_neg h0];exact h
theorem a4G {s:List UInt8} {i q:Nat} {low v:Int} (h:numR s i low=.ok (v,q)):a4M s i=(some v,q)∧¬ (v < low∨20 < v):=by
 unfold numR at h
 split at h
 ·cases h
 ·rename_i n q' hn
  split at h
  ·cases h
  ·rename_i hv
   injection h with h;injection h with h1 h2;subst h1;subst h2
   exact ⟨hn,hv⟩
theorem a8k {v:List UInt8} (w:List UInt8) {i q:Nat} {low n:Int} (h:numR v i low=.ok (n,q)) (hq:q < v.length):numR (v++w) i low=.ok (n,q):=by
 have:=a4G h
 exact a8u (c1H w this.1 hq) this.2
theorem a5y {p u:List UInt8} {k q:Nat} {low n:Int} (h:numR u k low=.ok (n,q)):numR (p++u) (p.length+k) low=.ok (n,p.length+q):=by
 have:=a4G h
 refine a8u ?_ this.2
 rw [b7f,this.1]
inductive CountIs (s:List UInt8) (i:Nat) (n m:Int) (q:Nat):Prop
 | from_ (p:Nat):numR s (i+1) 0=.ok (n,p)→bz s p=44→bz s (p+1)=125→m=-1→q=p+2→CountIs s i n m q
 | both (p r:Nat):numR s (i+1) 0=.ok (n,p)→bz s p=44→¬ bz s (p+1)=125→numR s (p+1) (if 1 > n then 1 else n)=.ok (m,r)→bz s r=125→q=r+1→CountIs s i n m q
 | one (p:Nat):numR s (i+1) 0=.ok (n,p)→bz s p=125→n≠0→m=n→q=p+1→CountIs s i n m q
theorem b0n {s:List UInt8} {i q:Nat} {n m:Int} (h:CountIs s i n m q):a2u s i=.ok (⟨5,i,n,m,[]⟩,q):=by
 cases h with
 | from_ p h h1 h2 hm hq=>subst hm;subst hq;unfold a2u;rw [h];simp only;rw [if_pos h1,if_pos h2]
 | both p r h h1 h2 h3 h4 hq=>subst hq;unfold a2u;rw [h];simp only;rw [if_pos h1,if_neg h2,h3];simp only;rw [if_pos h4]
 | one p h h1 h2 hm hq=>subst hm;subst hq;unfold a2u;rw [h];simp only;rw [if_neg (by omega),if_pos h1,if_neg h2]
theorem a7c {s:List UInt8} {i q:Nat} {x:Sg} (h:a2u s i=.ok (x,q)):x=⟨5,i,x.low,x.high,[]⟩∧CountIs s i x.low x.high q:=by
 unfold a2u at h
 split at h
 ·cases h
 ·rename_i n p hn
  split at h
  ·rename_i h44
   split at h
   ·rename_i h125
    injection h with h;injection h with h1 h2;subst h1;subst h2
    exact ⟨rfl,.from_ p hn h44 h125 rfl rfl⟩
   ·rename_i h125
    split at h
    ·cases h
    ·rename_i m q' hm
     split at h
     ·rename_i h6
      injection h with h;injection h with h1 h2;subst h1;subst h2
      exact ⟨rfl,.both p q' hn h44 h125 hm h6 rfl⟩
     ·cases h
  ·split at h
   ·rename_i h125
    split at h
    ·cases h
    ·rename_i h0
     injection h with h;injection h with h1 h2;subst h1;subst h2
     exact ⟨rfl,.one p hn h125 h0 rfl rfl⟩
   ·cases h
theorem b1f {s:List UInt8} {i q:Nat} {low n:Int} (h:numR s i low=.ok (n,q)):i < q∧q≤s.length∧0≤n:=by
 have a:=a4G h
 by_cases hi:i≤s.length
 ·have b:=a6f hi a.1
  have c:=b.2.2 _ rfl
  omega
 ·have:a4M s i=(none,i):=b0R (by rw [a6T (by omega)];decide)
  rw [this] at a;cases a.1
theorem b3A {v:List UInt8} (w:List UInt8) {i q:Nat} {n m:Int} (h:CountIs v i n m q):CountIs (v++w) i n m q:=by
  cases h with
  | from_ p h h1 h2 hm hq =>
    have l2:=a4f (s:=v) (i:=p+1) (by omega)
    exact .from_ p (a8k w h (by omega)) (by rw [a2g w (by omega)];exact h1) (by rw [a2g w l2];exact h2) hm hq
  | both p r h h1 h2 h3 h4 hq =>
    have l4:=a4f (s:=v) (i:=r) (by omega)
    have l1:=a4f (s:=v) (i:=p) (by omega)
    have l2:=b1f h3
    exact .both p r (a8k w h l1) (by rw [a2g w l1];exact h1) (by rw [a2g w (by omega)];exact h2) (a8k w h3 l4) (by rw [a2g w l4];exact h4) hq
  | one p h h1 h2 hm hq =>
    have l1:=a4f (s:=v) (i:=p) (by omega)
    exact .one p (a8k w h l1) (by rw [a2g w l1];exact h1) h2 hm hq
theorem b0O {p u:List UInt8} {k q:Nat} {n m:Int} (h:CountIs u k n m q):CountIs (p++u) (p.length+k) n m (p.length+q):=by
  cases h with
  | from_ a h h1 h2 hm hq =>
    refine .from_ (p.length+a) ?_ (by rw [a5m];exact h1) (by rw [Nat.add_assoc,a5m];exact h2) hm (by omega)
    rw [Nat.add_assoc];exact a5y h
  | both a r h h1 h2 h3 h4 hq =>
    refine .both (p.length+a) (p.length+r) ?_ (by rw [a5m];exact h1) (by rw [Nat.add_assoc,a5m];exact h2) ?_ (by rw [a5m];exact h4) (by omega)
    · rw [Nat.add_assoc];exact a5y h
    · rw [Nat.add_assoc];exact a5y h3
  | one a h h1 h2 hm hq =>
    refine .one (p.length+a) ?_ (by rw [a5m];exact h1) h2 hm (by omega)
    rw [Nat.add_assoc];exact a5y h
@[reducible] def TimesOk (a b:Int):Prop:=(0≤a∧a≤20)∧(b=-1∨(1≤b∧a≤b∧b≤20))
inductive SgW:Sg→Prop
 | name {p:Int} {n:List UInt8}:n.length≤12→smallZ (bz n 0)=true→(∀ j,j < n.length→alnumZ (bz n j)=true)→SgW ⟨1,p,0,0,n⟩
 | open_ {p:Int}:SgW ⟨2,p,0,0,[]⟩
 | shut {p:Int}:SgW ⟨3,p,0,0,[]⟩
 | or_ {p:Int}:SgW ⟨4,p,0,0,[]⟩
 | times {p a b:Int}:TimesOk a b→SgW ⟨5,p,a,b,[]⟩
theorem b7W {s:List UInt8}:∀ {f i j:Nat},j < a7V s i f→alnumZ (bz s (i+j))=true
  | 0,i,j,h=>by simp [a7V] at h
  | f + 1, i, j, h => by
    unfold a7V at h
    split at h
    · rename_i ha
      cases j with
      | zero=>exact ha
      | succ j=>rw [show i+(j+1)=i+1+j by omega];exact b7W (f:=f) (by omega)
    · omega
theorem c3K {s:List UInt8}:∀ {f i:Nat},a7V s i f≤f
  | 0,i=>by simp [a7V]
  | f + 1, i => by
    unfold a7V
    split
    · have:=c3K (s:=s) (f:=f) (i:=i+1);omega
    · omega
theorem c3y {s:List UInt8} {i k j:Nat} (h:j < k) (hk:i+k≤s.length):bz ((s.drop i).take k) j=bz s (i+j):=by
 unfold bz
 rw [if_pos (by rw [List.length_take,List.length_drop];omega),if_pos (by omega)]
 congr 2
 rw [List.getD_eq_getElem?_getD,List.getD_eq_getElem?_getD,List.getElem?_take,if_pos h,List.getElem?_drop]
theorem c8Q {s:List UInt8} {i q:Nat} {x:Sg} (h:a3L s i=.ok (x,q)):SgW x:=by
  unfold a3L at h
  split at h
  · rename_i hs
    have hlt:=a8d hs
    unfold b1z at h
    split at h
    · cases h
    · rename_i h13
      injection h with h;injection h with h _;subst h
      have h1:=c3K (s:=s) (f:=13) (i:=i)
      have h2:=b4o (s:=s) (f:=13) (i:=i) (by omega)
      have h0:0 < a7V s i 13:=by
        have:alnumZ (bz s i)=true:=by unfold alnumZ;rw [hs];rfl
        unfold a7V;rw [if_pos this];omega
      refine .name (by rw [List.length_take];omega) ?_ (fun j hj=>?_)
      · rw [c3y h0 h2];exact hs
      · have:j < a7V s i 13:=by rw [List.length_take] at hj;omega
        rw [c3y this h2];exact b7W this
  split at h
  · have hc:=a7c h
    rw [hc.1]
    refine .times ?_
    cases hc.2 with
    | from_ p h1 _ _ hm _ =>
      have a:=a4G h1
      have b:=b1f h1
      exact ⟨⟨b.2.2,by omega⟩,.inl hm⟩
    | both p r h1 _ _ h2 _ _ =>
      have a:=a4G h1
      have b:=b1f h1
      have c:=(a4G h2).2
      refine ⟨⟨b.2.2,by omega⟩,.inr ?_⟩
      split at c <;> omega
    | one p h1 _ h3 hm _ =>
      have a:=a4G h1
      have b:=b1f h1
      exact ⟨⟨b.2.2,by omega⟩,.inr ⟨by omega,by omega,by omega⟩⟩
  split at h
  · injection h with h;injection h with h _;subst h;exact .open_
  split at h
  · injection h with h;injection h with h _;subst h;exact .shut
  split at h
  · injection h with h;injection h with h _;subst h;exact .or_
  split at h
  · injection h with h;injection h with h _;subst h;exact .times (by decide)
  split at h
  · injection h with h;injection h with h _;subst h;exact .times (by decide)
  split at h
  · injection h with h;injection h with h _;subst h;exact .times (by decide)
  cases h
theorem b8k {s:List UInt8}:∀ {f i:Nat} {out l:List Sg},(∀ x∈out,SgW x)→b3x s f i out=.ok l→∀ x∈l,SgW x
  | 0,i,out,l,h,e=>by injection e with e;subst e;exact h
  | f + 1, i, out, l, h, e => by
    simp only [b3x] at e
    split at e
    · injection e with e;subst e;exact h
    split at e
    · exact b8k h e
    split at e
    · split at e <;> cases e
    · split at e
      · cases e
      · rename_i x q hx
        refine b8k ?_ e
        intro y hy
        rcases List.mem_append.1 hy with hy | hy
        · exact h y hy
        · rw [List.mem_singleton] at hy;subst hy;exact c8Q hx
theorem b2r {s:List UInt8} {l:List Sg} (h:lexV s=.ok l):∀ x∈l,SgW x:=b8k (fun x h=>by cases h) h
theorem b2Q:I64 0:=by constructor <;> decide
theorem c3v {n:Int} (h:-1≤n) (h2:n≤20):I64 n:=by constructor <;> omega
theorem SgW.ok {x:Sg} (h:SgW x):SgOk x:=by
 cases h with
 | name h1 _ _=>exact ⟨Nat.le_trans h1 (by decide),b2Q,b2Q⟩
 | open_=>exact ⟨Nat.zero_le _,b2Q,b2Q⟩
 | shut=>exact ⟨Nat.zero_le _,b2Q,b2Q⟩
 | or_=>exact ⟨Nat.zero_le _,b2Q,b2Q⟩
 | @times p a b h=>exact ⟨Nat.zero_le _,c3v (n:=a) (by omega) (by omega),c3v (n:=b) (by omega) (by omega)⟩
def b1I (a b:Int):Bool:=match a3L (a4j a b) 0 with
 | .ok (x,q)=>decide (x=⟨5,0,a,b,[]⟩)&&decide (q=(a4j a b).length)
 | _=>false
theorem c5c:∀ a:Fin 21,b1I a.val (-1)=true:=by decide +kernel
theorem c4X:∀ a b:Fin 21,(decide (1≤b.val)&&decide (a.val≤b.val))=true→b1I a.val b.val=true:=by decide +kernel
theorem c1r {a b:Int} (h:TimesOk a b):a3L (a4j a b) 0=.ok (⟨5,0,a,b,[]⟩,(a4j a b).length):=by
 have:b1I a b=true:=by
  obtain ⟨⟨h0,h1⟩,h2⟩:=h
  rcases h2 with h2 | ⟨h2,h3,h4⟩
  ·subst h2
   have:=c5c ⟨a.toNat,by omega⟩
   simpa [Int.toNat_of_nonneg h0] using this
  ·have:=c4X ⟨a.toNat,by omega⟩ ⟨b.toNat,by omega⟩ (by simp;omega)
   simpa [Int.toNat_of_nonneg h0,Int.toNat_of_nonneg (show 0≤b by omega)] using this
 unfold b1I at this
 split at this
 ·rename_i x q hx
  rw [hx]
  simp only [Bool.and_eq_true,decide_eq_true_eq] at this
  rw [this.1,this.2]
 ·cases this
theorem a6S {p u:List UInt8} {x:Sg} {q:Nat} (h:a3L u 0=.ok (x,q)) (hs:smallZ (bz u 0)=false):a3L (p++u) p.length=.ok ({ x with at_:=(p.length:Int) },p.length+q):=by
 unfold a3L at h ⊢
 rw [b0U]
 rw [hs] at h ⊢
 rw [if_neg (by decide)] at h ⊢
 split at h
 ·rename_i h1
  rw [if_pos h1]
  have hc:=a7c h
  have:=b0n (b0O (p:=p) hc.2)
  rw [Nat.add_zero] at this
  rw [this,hc.1]
 ·rename_i h1
  rw [if_neg h1]
  repeat' split at h
  all_goals first
   | (cases h;done)
   | (injection h with h;injection h with h2 h3;subst h2;subst h3;rename_i h4;simp only [h4];rfl)
theorem b1J {v:List UInt8} (w:List UInt8) {x:Sg} {q:Nat} (h:a3L v 0=.ok (x,q)) (hs:smallZ (bz v 0)=false):a3L (v++w) 0=.ok (x,q):=by
 have hl:=a7b h
 unfold a3L at h ⊢
 rw [a2g w (by omega)]
 rw [hs] at h ⊢
 rw [if_neg (by decide)] at h ⊢
 split at h
 ·rename_i h1
  rw [if_pos h1]
  have hc:=a7c h
  rw [b0n (b3A w hc.2),hc.1]
 ·rename_i h1
  rw [if_neg h1]
  repeat' split at h
  all_goals first
   | (cases h;done)
   | (rename_i h4;simp only [h4];exact h)
def Sep (w:List UInt8):Prop:=alnumZ (bz w 0)=false
theorem b6x {x:Sg} (h:SgW x) (p w:List UInt8) (hw:x.kind=1→Sep w):a3L (p++(a3V x++w)) p.length=.ok ({ x with at_:=(p.length:Int) },p.length+(a3V x).length):=by
  cases h with
  | @name a n h1 h2 h3 =>
    have hn:a3V ⟨1,a,0,0,n⟩=n:=rfl
    rw [hn]
    have h0:0 < n.length:=by
      rcases Nat.eq_zero_or_pos n.length with h | h
      · rw [a6T (by omega)] at h2;exact absurd h2 (by decide)
      · exact h
    have hs:smallZ (bz (p++(n++w)) p.length)=true:=by rw [b0U,a2g w h0];exact h2
    unfold a3L
    rw [if_pos hs]
    rw [b8O (k:=n.length) (by omega) (fun j hj=>by rw [a5m,a2g w hj];exact h3 j hj) (by rw [a5m];have:=a5m n w 0;rw [Nat.add_zero] at this;rw [this];exact hw rfl)]
    rw [show p.length+n.length - p.length=n.length by omega,List.drop_left,List.take_left]
  | @open_ a=>exact a6S (p:=p) (u:=[40]++w) (x:=⟨2,0,0,0,[]⟩) (q:=1) (b1J w rfl (by decide)) (by rw [a2g w (by decide)];decide)
  | @shut a=>exact a6S (p:=p) (u:=[41]++w) (x:=⟨3,0,0,0,[]⟩) (q:=1) (b1J w rfl (by decide)) (by rw [a2g w (by decide)];decide)
  | @or_ a=>exact a6S (p:=p) (u:=[124]++w) (x:=⟨4,0,0,0,[]⟩) (q:=1) (b1J w rfl (by decide)) (by rw [a2g w (by decide)];decide)
  | @times c a b h =>
    have hn:a3V ⟨5,c,a,b,[]⟩=a4j a b:=rfl
    rw [hn]
    have ht:=c1r h
    have h0:smallZ (bz (a4j a b) 0)=false:=by
      unfold a4j
      repeat' split
      all_goals rfl
    have hl:=a7b ht
    exact a6S (p:=p) (x:=⟨5,0,a,b,[]⟩) (b1J w ht h0) (by rw [a2g w (by omega)];exact h0)
theorem a7e (a b:Int):alnumZ (bz (a4j a b) 0)=false∧bz (a4j a b) 0≠32∧0 < (a4j a b).length:=by
 unfold a4j
 repeat' split
 all_goals first
  | exact ⟨by decide,by decide,by decide⟩
  | (simp only [List.cons_append,List.nil_append,List.append_assoc];exact ⟨rfl,by show (123:Int)≠32;decide,Nat.succ_pos _⟩)
theorem b6M {x:Sg} (h:SgW x):bz (a3V x) 0≠32∧0 < (a3V x).length:=by
  cases h with
  | @name a n h1 h2 h3 =>
    have hn:a3V ⟨1,a,0,0,n⟩=n:=rfl
    rw [hn]
    exact ⟨fun h=>by rw [h] at h2;exact absurd h2 (by decide),by have:=a8d h2;omega⟩
  | open_=>exact ⟨show bz [40] 0≠32 by decide,show 0 < [40].length by decide⟩
  | shut=>exact ⟨show bz [41] 0≠32 by decide,show 0 < [41].length by decide⟩
  | or_=>exact ⟨show bz [124] 0≠32 by decide,show 0 < [124].length by decide⟩
  | @times c a b h=>exact (a7e a b).2
theorem c2v:∀ {l:List Sg},(∀ x∈l,SgW x)→Sep (a9M false l)
  | [],_=>by show alnumZ (bz [] 0)=false;decide
  | x :: r, h => by
    have hx:=h x (List.mem_cons_self ..)
    unfold Sep a9M c8U
    by_cases h5:x.kind=5
    · rw [if_neg (by simp [h5]),List.nil_append]
      cases hx with
      | @times c a b h =>
        have hn:a3V ⟨5,c,a,b,[]⟩=a4j a b:=rfl
        rw [hn,a2g _ (a7e a b).2.2]
        exact (a7e a b).1
      | name _ _ _=>exact absurd h5 (by show ¬ (1:Int)=5;decide)
      | open_=>exact absurd h5 (by show ¬ (2:Int)=5;decide)
      | shut=>exact absurd h5 (by show ¬ (3:Int)=5;decide)
      | or_=>exact absurd h5 (by show ¬ (4:Int)=5;decide)
    · rw [if_pos ⟨rfl,h5⟩]
      rfl
def b4c:List Sg→List Sg→Prop
 | [],[]=>True
 | x::a,y::b=>y={ x with at_:=y.at_ }∧b4c a b
 | _,_=>False
theorem b5Y:∀ {l:List Sg} {f:Bool} {p:List UInt8} {out:List Sg},(∀ x∈l,SgW x)→out.length+l.length≤200 →
    ∃ l',a4z (p++a9M f l) p.length out=.ok (out++l')∧b4c l l'
  | [],f,p,out,_,_=>⟨[],by rw [a9r (by simp [a9M]),List.append_nil],trivial⟩
  | x :: r, f, p, out, h, hl => by
    have hx:=h x (List.mem_cons_self ..)
    have hr:∀ y∈r,SgW y:=fun y hy=>h y (List.mem_cons_of_mem _ hy)
    have hp:=b6M hx
    rw [List.length_cons] at hl
    have key:∀ q:List UInt8,∃ l',a4z (q++(a3V x++a9M false r)) q.length out=.ok (out++l')∧b4c (x::r) l':=by
      intro q
      have h0:bz (q++(a3V x++a9M false r)) q.length=bz (a3V x) 0:=by rw [b0U,a2g _ hp.2]
      rw [b1E (by simp only [List.length_append];omega) (by rw [h0];exact hp.1) (by omega) (b6x hx q (a9M false r) (fun _=>c2v hr))]
      obtain ⟨l',e,hs⟩:=b5Y (l:=r) (f:=false) (p:=q++a3V x) (out:=out++[{ x with at_:=(q.length:Int) }]) hr (by rw [List.length_append];show out.length+1+_≤_;omega)
      rw [List.length_append,List.append_assoc] at e
      exact ⟨{ x with at_:=(q.length:Int) }::l',by rw [e,List.append_assoc];rfl,rfl,hs⟩
    unfold a9M c8U
    by_cases h5:f=false∧x.kind≠5
    · rw [if_pos h5]
      obtain ⟨l',e,hs⟩:=key (p++[32])
      refine ⟨l',?_,hs⟩
      rw [b1q (by simp) (by rw [b0U];rfl),←e]
      simp [List.append_assoc]
    · rw [if_neg h5]
      exact key p
end Go.Proofs.YtdbbbafiegpbpaaGreatDoor
