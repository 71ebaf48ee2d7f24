/-
  The statement 'for .. := range f { .. }', in the reader's words. Plain lemmas, no program in sight.
-/
import Derived.Test.YtkeakpcieokhhaaGreatDoorHq
import Derived.Test.YtkeakpcieokhhaaGreatDoorHc
import Derived.Shelf.LaysM
import Derived.Shelf.Strconv.Itoa3
import Derived.Shelf.LaysC
import Derived.Shelf.Strconv.AtoiAll
import Derived.Shelf.Strconv.ErrVarAll
import Derived.Ground.Names2Prog
import Derived.Ground.SlgnProg
import Derived.Test.YtkeakpcieokhhaaGreatDoorProg
import Derived.Lib.ItoaNum
import Derived.Lib.AtoiAll
import Derived.WalkKit
import Derived.BigCall
import Derived.BigGuard
import Derived.Lib.Strings
import Derived.Lib.AtoiErrMem
import Derived.Laws.IdiomStrings
import Derived.Lib.SmallJoins
import Derived.Lib.Bytealg
import Derived.Test.YtkeakpcieokhhaaGreatDoorChecked
import Derived.Shelf.Lays
import Derived.Shelf.Strings.BuilderK
import Derived.Shelf.Strings.BuilderF
import Derived.Shelf.Strings.Builder1
import Derived.Lib.OthersKept
import Derived.Deep.WholeRow
import Derived.Laws.Tables
import Derived.Lib.ItoaLen
import Derived.Shelf.Small.Strs
import Derived.Lib.AppendStr
set_option linter.unusedSectionVars false
set_option linter.unusedSimpArgs false
set_option linter.unusedVariables false
namespace Go.Proofs.YtkeakpcieokhhaaGreatDoor
section
open Go.RowKit
structure KeepsO (O:Nat→Prop) (W W1:World):Prop where
 size:W.heap.size≤W1.heap.size
 block:∀ k,k < W.heap.size→¬ O k→W1.heap[k]?=W.heap[k]?
 lib:LibW W1
def c1t (P:Program) (f:FuncId) (caps:List HV) (N:Nat) (ys:Nat→List HV):Prop:=c6n P f ∧
  ∀ (l : Nat) (W : World) (F : Addr → Prop) (cvs : List Value) (J : Nat → (Nat → Prop) → World → Prop) (Jx : Nat → World → Prop) (O0 : Nat → Prop), (∀ a, F a → a.spot = none ∧ (W.cell? a).isSome = true) → (∀ a, F a → ¬ O0 a.block) → RepAll W (Env.just F) cvs caps → LibW W →
    (∀ i O W1 W2,J i O W1→Below W1.heap.size W1 W2→J i O W2)→(∀ i W1 W2,Jx i W1→Below W1.heap.size W1 W2→Jx i W2)→(∀ i O W1,J i O W1→∀ k,O k→k < W1.heap.size) →
    (∀ i O W1 F' vs,i < N→J i O W1→(∀ a,F' a→a.spot=none∧(W1.cell? a).isSome=true)→(∀ a,F' a→¬ O a.block)→(∀ a,F' a→F a∨W.heap.size≤a.block)→RepAll W1 (Env.just F') vs (ys i) →
      YieldAt Fence.wide 0 P l vs.toArray W1 fun e W'=>KeepsO O W1 W'∧((e=.returned (.bool true)∧∃ O',J (i+1) O' W'∧∀ k,O' k→O k∨W1.heap.size≤k)∨(e=.returned (.bool false)∧Jx (i+1) W'))) →
    J 0 O0 W→Calls P f (#[.func (.yield l) #[] #[]]++cvs.toArray) W fun e W'=>(∃ v,e=.returned v)∧((∃ O,J N O W')∨∃ i,i < N∧Jx (i+1) W')
def psl:List Tmp→List HV→List (Nat×TV)→List (Nat×TV)
 | p::ps,y::ys,tm=>psl ps ys ((p,.v y)::tm)
 | _,_,tm=>tm
theorem b9J {w:World} {E:Env}:∀ (ps:List Tmp) (vs:List Value) (ys:List HV) (tm:List (Nat×TV)) (tmps:Array Value),RepAll w E vs ys→ps.length=ys.length→ps.all (fun p=>Nat.blt p tmps.size)=true→b8x tm=true →
    (∀ t x,tget tm t=some x→∀ ds,TVRep w E ⟨tmps,ds⟩ (tmps.getD t undef) x)→b8x (psl ps ys tm)=true∧∀ t x,tget (psl ps ys tm) t=some x→∀ ds,TVRep w E ⟨(ps.zip vs).foldl (fun t p=>t.setIfInBounds p.1 p.2) tmps,ds⟩ (((ps.zip vs).foldl (fun t p=>t.setIfInBounds p.1 p.2) tmps).getD t undef) x
  | [],[],[],tm,tmps,_,_,_,hV,h=>⟨hV,h⟩
  | p :: ps, v :: vs, y :: ys, tm, tmps, hr, hl, hb, hV, h => by
    rw [List.all_cons,Bool.and_eq_true] at hb
    have hp:p < tmps.size:=by simpa [Nat.blt_eq] using hb.1
    refine b9J ps vs ys ((p,.v y)::tm) (tmps.setIfInBounds p v) hr.2 (by simpa using hl) (by simpa using hb.2) hV (fun t x hx ds=>?_)
    rw [a0x] at hx
    split at hx
    · rename_i e;subst e;injection hx with hx;subst hx
      have:(tmps.setIfInBounds t v).getD t undef=v:=by simp [hp]
      rw [this];exact hr.1
    · rename_i e
      have:(tmps.setIfInBounds p v).getD t undef=tmps.getD t undef:=by simp [Array.getElem?_setIfInBounds,Ne.symm e]
      rw [this]
      obtain ⟨z,rfl⟩:=a4I hV t x hx
      exact h t _ hx ds
  | [],_::_,_::_,_,_,_,hl,_,_,_=>by simp at hl
  | [],[],_::_,_,_,hr,_,_,_,_=>hr.elim
  | [],_::_,[],_,_,hr,_,_,_,_=>hr.elim
  | _::_,[],[],_,_,_,hl,_,_,_=>by simp at hl
  | _::_,[],_::_,_,_,hr,_,_,_,_=>hr.elim
  | _::_,_::_,[],_,_,hr,_,_,_,_=>hr.elim
def c7l (C:Ctx) (l:Nat):Prop:=C.rd=some l∧C.ds=[]∧C.mks=none∧l < C.w0.heap.size∧C.K l∧∃ r,C.w0.heap[l]?=some (.loop r)
def RB (C:Ctx) (hp:List (Nat×HObj)) (c:Nat) (w:World):Prop:=∃ E,Ext C.w0 C.E0 w E∧R C.K C.w0 C.E0.F E (hget hp) w∧∀ g,E.G g→g < c
def RQ (C:Ctx) (NI:List (Nat×HObj)→Nat→Prop) (X:Exit→List (Nat×HObj)→Nat→Prop):Exit→Act→World→Prop
 | .normal,_,w=>∃ hp c,NI hp c∧RB C hp c w
 | .ret,_,w=>∃ hp c,X .ret hp c∧RB C hp c w
 | .exit id,_,w=>∃ hp c,X (.exit id) hp c∧RB C hp c w
 | _,_,_=>False
theorem Sat.rb {C:Ctx} {s:HSt} {a:Act} {w:World} (h:Sat C s a w):RB C s.hp s.clk w:=let ⟨E,e0,r,hG,_⟩:=h;⟨E,e0,r,hG⟩
section
variable {C:Ctx} {NI:List (Nat×HObj)→Nat→Prop} {X:Exit→List (Nat×HObj)→Nat→Prop} {s:HSt}
theorem a2C (h:NI s.hp s.clk):HQ C (RQ C NI X) .normal s:=fun a w hs=>⟨_,_,h,hs.rb⟩
end
def c0t (P:Program) (assign body:Code) (s:HSt) (QB:Ctx→Exit→Act→World→Prop):Prop :=
 ∀ C1 l,c7l C1 l→∀ N1:Act→World→Prop,(∀ s1,(∀ C2,c7l C2 l→HWp C2 P body s1 (QB C2))→∀ a w,Sat C1 s1 a w→N1 a w)→HWp C1 P assign s (Exit.then N1 (fun _ _ _=>False))
def Env.mark (E:Env) (D:Nat):Env:=⟨E.F,E.L,E.G,fun b=>E.M b∨b=D⟩
section
variable {K:Nat→Prop} {w0 w w':World} {F0:Addr→Prop} {E E':Env} {h h':Nat→Option HObj}
theorem Ext.mark (w:World) (E:Env) (D:Nat):Ext w E w (E.mark D):=⟨Nat.le_refl _,fun a h=>⟨h,rfl⟩,fun _ h=>h,fun _ _ h _=>h,fun _ h=>.inl h⟩
theorem R.mark (r:R K w0 F0 E h w) {D:Nat} (hD:w.heap[D]?=some (.deferred (some []))):R K w0 F0 (E.mark D) h w :=
 ⟨r.os,r.tape,r.output,r.size,r.keep,r.frz,r.fnew,r.klib,r.lib,fun b hb=>by rcases hb with hb | rfl;exact r.bks b hb;exact hD,fun id o ho=>by
  obtain ⟨l,hl,a⟩:=r.obj id o ho
  exact ⟨l,hl,a.ext (Ext.mark w E D) (fun _ _=>rfl) (fun _ _ _ h=>h)⟩,r.inj⟩
theorem R.noFl (r:R K w0 F0 E h w) (hfl:∀ id o,h id=some o→o.fl=0∨o.n < o.fl):∀ a,E.F a→KH E h a.block:=fun a ha id o l ho hl hA=>by
 obtain ⟨l2,hl2,ao⟩:=r.obj id o ho
 rw [hl] at hl2;injection hl2 with hl2;subst hl2
 obtain ⟨b,k,sp⟩:=a
 have hs:=(r.frz _ ha).1
 have hcell:=(r.frz _ ha).2
 simp only at hs hA
 subst hs
 rcases ao.at_ with ⟨h0,_⟩ | ⟨b',cs,h1,_,_,_,_,_,_,h9,h10⟩ | ⟨b',ob,h1,h2,h3,_⟩
 ·rw [h0] at hA;cases hA
 ·rw [h1] at hA;injection hA with hA;subst hA
  have:=h9 k ha
  rcases hfl id o ho with h11 | h11
  ·rw [h11,Nat.zero_mul] at this;omega
  ·omega
 ·rw [h1] at hA;injection hA with hA;subst hA
  cases h3 <;> simp [World.cell?,h2] at hcell
theorem R.notM (r:R K w0 F0 E h w) {b:Nat} {lp:Loop} (hb:w.heap[b]?=some (.loop lp)):¬ E.M b:=fun hm=>by
 rw [r.bks b hm] at hb;injection hb with hb;cases hb
end
section
variable {α:Type} {P:Program} {C:Ctx} {Q:Exit→Act→World→Prop} {n clk:Nat} {tm:List (Nat×TV)} {hp:List (Nat×HObj)} {ps:Array Tmp} {assign body:Code} {N:Nat} {ys:Nat→List HV}
def Jn (C:Ctx) (B:World) (E1:Env) (l:Nat) (rec:LoopState→Option Code→Loop) (st:α→List (Nat×HObj)) (idx:α→Nat) (I:α→Prop) (i:Nat) (O:Nat→Prop) (W:World):Prop :=
 ∃ x c Ei,idx x=i∧I x∧Ext B E1 W Ei∧R C.K C.w0 C.E0.F Ei (hget (st x)) W∧(∀ g,Ei.G g→g < c)∧W.heap[l]?=some (.loop (rec .ready none))∧∀ b,O b↔(¬ KH Ei (hget (st x)) b∨b=l)
def Jxn (C:Ctx) (B:World) (E1:Env) (l:Nat) (rec:LoopState→Option Code→Loop) (X:Exit→List (Nat×HObj)→Nat→Prop) (W:World):Prop :=
 ∃ cj hp' c Ei,((cj=Code.ret∧X .ret hp' c)∨∃ id,cj=Code.exit id∧X (.exit id) hp' c)∧Ext B E1 W Ei∧R C.K C.w0 C.E0.F Ei (hget hp') W∧(∀ g,Ei.G g→g < c)∧W.heap[l]?=some (.loop (rec .done (some cj)))
theorem b6B {B:World} {E1:Env} {l:Nat} {rec:LoopState→Option Code→Loop} {st:α→List (Nat×HObj)} {idx:α→Nat} {I:α→Prop} {i:Nat} {O:Nat→Prop} {W W2:World} (h:Jn C B E1 l rec st idx I i O W) (hb:Below W.heap.size W W2):Jn C B E1 l rec st idx I i O W2:=by
 obtain ⟨x,c,Ei,h1,h2,h3,h4,h5,h6,h7⟩:=h
 exact ⟨x,c,Ei,h1,h2,h3.trans (h4.extBelow hb),h4.growSame hb,h5,(hb.block l (a0Z h6)).trans h6,h7⟩
theorem c5X {B:World} {E1:Env} {l:Nat} {rec:LoopState→Option Code→Loop} {st:α→List (Nat×HObj)} {idx:α→Nat} {I:α→Prop} {i:Nat} {O:Nat→Prop} {W:World} (h:Jn C B E1 l rec st idx I i O W):∀ k,O k→k < W.heap.size:=by
 obtain ⟨x,c,Ei,h1,h2,h3,h4,h5,h6,h7⟩:=h
 intro k hk
 rcases (h7 k).1 hk with hk | rfl
 ·unfold KH at hk
  simp only [Classical.not_forall,ne_eq,Classical.not_not] at hk
  obtain ⟨id,o,lo,q1,q2,q3⟩:=hk
  obtain ⟨lo',q4,ao⟩:=h4.obj id o q1
  rw [q2] at q4;injection q4 with q4;subst q4
  exact ao.lt q3
 ·exact a0Z h6
theorem b3Q {B:World} {E1:Env} {l:Nat} {rec:LoopState→Option Code→Loop} {X:Exit→List (Nat×HObj)→Nat→Prop} {W W2:World} (h:Jxn C B E1 l rec X W) (hb:Below W.heap.size W W2):Jxn C B E1 l rec X W2:=by
 obtain ⟨cj,hp',c,Ei,h1,h3,h4,h5,h6⟩:=h
 exact ⟨cj,hp',c,Ei,h1,h3.trans (h4.extBelow hb),h4.growSame hb,h5,(hb.block l (a0Z h6)).trans h6⟩
theorem a9T {B:World} {E1:Env} {l:Nat} {fn:FuncId} {tmps:Array Value} {dfs:Nat} {rec:LoopState→Option Code→Loop} (hrec:rec=fun s p=>{ state:=s,pending:=p,fn,tmps:=tmps,params:=ps,assign,body,defers:=dfs })
    {st:α→List (Nat×HObj)} {idx:α→Nat} {I:α→Prop} (hl0:C.w0.heap.size≤l) (hsz:tmps.size=n) (hV:b8x tm=true) (htm:∀ t x,tget tm t=some x→∀ ds,TVRep B E1 ⟨tmps,ds⟩ (tmps.getD t undef) x) (hps:∀ i,(ys i).length=ps.size) (hpb:ps.toList.all (fun p=>Nat.blt p n)=true)
    (round:∀ x c,I x→idx x < N→c0t P assign body ⟨n,psl ps.toList (ys (idx x)) tm,st x,c⟩ (fun C2=>RQ C2 (fun hp' _=>∃ y,I y∧idx y=idx x+1∧a0g hp' (st y)) (fun e hp' c'=>HQ C Q e ⟨n,tm,hp',c'⟩)))
    (hB0:C.w0.heap.size≤B.heap.size) (i:Nat) (O:Nat→Prop) (W:World) (F':Addr→Prop) (vs:List Value) (hi:i < N) (hJ:Jn C B E1 l rec st idx I i O W) (hF1:∀ a,F' a→a.spot=none∧(W.cell? a).isSome=true) (hF2:∀ a,F' a→¬ O a.block) (hF3:∀ a,F' a→E1.F a∨B.heap.size≤a.block) (hv:RepAll W (Env.just F') vs (ys i)) :
    YieldAt Fence.wide 0 P l vs.toArray W fun e W'=>KeepsO O W W'∧((e=.returned (.bool true)∧∃ O',Jn C B E1 l rec st idx I (i+1) O' W'∧∀ k,O' k→O k∨W.heap.size≤k)∨(e=.returned (.bool false)∧Jxn C B E1 l rec (fun e hp' c'=>HQ C Q e ⟨n,tm,hp',c'⟩) W')):=by
  obtain ⟨x,c,Ei0,rfl,hI,eB0,rW0,hG,hl,hO⟩:=hJ
  obtain ⟨Ei,hEi⟩:∃ Ei:Env,Ei=⟨fun a=>Ei0.F a∨F' a,Ei0.L,Ei0.G,Ei0.M⟩:=⟨_,rfl⟩
  have hEF:∀ a,F' a→Ei.F a:=fun a ha=>by rw [hEi];exact .inr ha
  have hKH:KH Ei (hget (st x))=KH Ei0 (hget (st x)):=by rw [hEi];rfl
  have e01:Ext W Ei0 W Ei:=by rw [hEi];exact ⟨Nat.le_refl _,fun a h=>⟨.inl h,rfl⟩,fun _ h=>h,fun _ _ h _=>h,fun _ h=>h⟩
  have rW:R C.K C.w0 C.E0.F Ei (hget (st x)) W:=by
    have hfrz:∀ a,Ei.F a→a.spot=none∧(W.cell? a).isSome=true:=fun a ha=>by
      rw [hEi] at ha;rcases ha with ha | ha;exact rW0.frz a ha;exact hF1 a ha
    have hnew:∀ a,Ei.F a→C.E0.F a∨C.w0.heap.size≤a.block∨¬ C.K a.block:=fun a ha=>by
      rw [hEi] at ha
      rcases ha with ha | ha
      · exact rW0.fnew a ha
      · rcases hF3 a ha with h | h
        · exact rW0.fnew a (eB0.F a h).1
        · exact .inr (.inl (Nat.le_trans hB0 h))
    refine ⟨rW0.os,rW0.tape,rW0.output,rW0.size,rW0.keep,hfrz,hnew,rW0.klib,rW0.lib,fun b hb=>rW0.bks b (by rw [hEi] at hb;exact hb),fun id o ho=>?_,fun id id' o o' l l' b ho ho' hl hl'=>rW0.inj id id' o o' l l' b ho ho' (by rw [hEi] at hl;exact hl) (by rw [hEi] at hl';exact hl')⟩
    obtain ⟨lo,hlo,ao⟩:=rW0.obj id o ho
    refine ⟨lo,by rw [hEi];exact hlo,ao.ext e01 (fun _ _=>rfl) (fun b k hA hF=>?_)⟩
    rw [hEi] at hF
    rcases hF with hF | hF
    · exact hF
    · exact absurd ((hO b).2 (.inl (fun hk=>hk id o lo ho hlo hA))) (hF2 _ hF)
  have eB:Ext B E1 W Ei:=eB0.trans e01
  have hvl:vs.length=(ys (idx x)).length:=(hv.get).1
  have hsz':vs.toArray.size=(rec .ready none).params.size:=by rw [hrec];simp [hvl,hps]
  have hy:=run_yield (P:=P) (args:=vs.toArray) hl hsz'
  refine ⟨_,_,_,_,hy,roundIn_of_wpIn trivial ?_⟩
  have hps2:(rec .ready none).params=ps:=by rw [hrec]
  have hts2:(rec .ready none).tmps=tmps:=by rw [hrec]
  have has2:(rec .ready none).assign=assign:=by rw [hrec]
  have hbd2:(rec .ready none).body=body:=by rw [hrec]
  rw [hps2,hts2,has2,hbd2]
  have hlW:=a0Z hl
  have nb:=rW.notBk hl rfl
  have hfold:(ps.zip vs.toArray).foldl (fun tmps (x:Tmp×Value)=>tmps.setIfInBounds x.1 x.2) tmps=(ps.toList.zip vs).foldl (fun t p=>t.setIfInBounds p.1 p.2) tmps:=by
    rw [←Array.foldl_toList];simp
  have hfold':(Array.foldl (fun (t:Array Value) (x:Tmp×Value)=>match x with | (p,v)=>t.setIfInBounds p v) tmps (ps.zip vs.toArray))=(ps.toList.zip vs).foldl (fun t p=>t.setIfInBounds p.1 p.2) tmps:=hfold
  rw [hfold']
  have hzs:∀ (q:List (Tmp×Value)) (t:Array Value),(q.foldl (fun t p=>t.setIfInBounds p.1 p.2) t).size=t.size:=by
    intro q
    induction q with
    | nil=>intro t;rfl
    | cons z q ih=>intro t;rw [List.foldl_cons,ih];simp
  have hjust:Ext W (Env.just F') W Ei:=Ext.just hEF
  have libA:∀ W',R C.K C.w0 C.E0.F Ei (hget (st x)) W'→LibW W':=fun _ r=>r.libw
  obtain ⟨hV0,hslots⟩:=b9J (w:=W) (E:=Ei) ps.toList vs (ys (idx x)) tm tmps (hv.ext hjust) (by simp [hps]) (by rw [hsz];exact hpb) hV (fun t y hy ds=>(htm t y hy ds).ext eB)
  have sat0:Sat ⟨KH Ei (hget (st x)),W,Ei,[],some l,none⟩ ⟨n,psl ps.toList (ys (idx x)) tm,st x,c⟩ ⟨(ps.toList.zip vs).foldl (fun t p=>t.setIfInBounds p.1 p.2) tmps,[]⟩ W :=
    ⟨Ei,Ext.refl _ _,rW.reb,(by rw [hEi];exact hG),by rw [hzs,hsz],rfl,fun t y hy=>hslots t y hy []⟩
  refine round x c hI hi ⟨KH Ei (hget (st x)),W,Ei,[],some l,none⟩ l ⟨rfl,rfl,rfl,hlW,nb.2,_,hl⟩ _ (fun s1 hb a1 Wa hsat=>?_) _ W sat0
  obtain ⟨Ea,ea,ra,hGa,hsza,hdfa,hta⟩:=hsat
  have rA:=rW.unreb ra
  have hla:Wa.heap[l]?=some (.loop (rec .ready none)):=(ra.keep l hlW nb.2).trans hl
  have hlaW:=a0Z hla
  have hst:(rec .ready none).state=.ready:=by rw [hrec]
  refine ⟨_,run_beginRound hla hst,?_⟩
  obtain ⟨e2,r2⟩:=rA.book hla rfl hl0 (rA.notM hla) (Bk.put Wa l (.loop { rec .ready none with state:=.busy }))
  have hl2:(Wa.putObj l (.loop { rec .ready none with state:=.busy })).heap[l]?=some (.loop { rec .ready none with state:=.busy }):=World.putObj_heap_same hlaW
  have nb2:=r2.notBk hl2 rfl
  have hl2W:=a0Z hl2
  have hda:a1.defers=[]:=hdfa
  have sat2:Sat ⟨KH Ea (hget s1.hp),Wa.putObj l (.loop { rec .ready none with state:=.busy }),Ea,[],some l,none⟩ s1 a1 (Wa.putObj l (.loop { rec .ready none with state:=.busy })) :=
    ⟨Ea,Ext.refl _ _,r2.reb,hGa,hsza,hda,fun t y hy=>(hta t y hy).ext e2⟩
  refine wpIn_mono (hb ⟨KH Ea (hget s1.hp),_,Ea,[],some l,none⟩ ⟨rfl,rfl,rfl,hl2W,nb2.2,_,hl2⟩ a1 _ sat2) (fun e a' W3 hq=>?_)
  have fin:∀ (jump:Option Code) (hp':List (Nat×HObj)) (c':Nat),RB ⟨KH Ea (hget s1.hp),Wa.putObj l (.loop { rec .ready none with state:=.busy }),Ea,[],some l,none⟩ hp' c' W3 →
      ∃ W4 E3,(Instr.endRound l jump).run P W3=.ok (.bool jump.isNone) W4∧KeepsO O W W4∧(∀ k,¬ KH E3 (hget hp') k→O k∨W.heap.size≤k)∧Ext B E1 W4 E3∧R C.K C.w0 C.E0.F E3 (hget hp') W4∧(∀ g,E3.G g→g < c')∧W4.heap[l]?=some (.loop (rec (if jump.isNone then .ready else .done) jump)):=by
    intro jump hp' c' ⟨E3,e3,r3,hG3⟩
    have hl3:W3.heap[l]?=some (.loop { rec .ready none with state:=.busy }):=(r3.keep l hl2W nb2.2).trans hl2
    have r3':=r2.unreb r3
    obtain ⟨e4,r4⟩:=r3'.book hl3 rfl hl0 (r3'.notM hl3) (Bk.put W3 l (.loop { ({ rec .ready none with state:=.busy }:Loop) with state:=if jump.isNone then .ready else .done,pending:=jump }))
    have own2:∀ k,k < W.heap.size→¬ O k→KH Ea (hget s1.hp) k:=fun k hk hno=>Classical.byContradiction fun hn=>by
      unfold KH at hn
      simp only [Classical.not_forall,ne_eq,Classical.not_not] at hn
      obtain ⟨id,o,lo,q1,q2,q3⟩:=hn
      obtain ⟨lo',q4,ao⟩:=ra.obj id o q1
      rw [q2] at q4;injection q4 with q4;subst q4
      have:=ao.notK q3 hk
      rw [hKH] at this
      exact hno ((hO k).2 (.inl this))
    refine ⟨_,E3,run_endRound jump hl3,⟨?_,fun k hk hno=>?_,r4.libw⟩,fun k hk=>?_,eB.trans (ea.trans (e2.trans (e3.trans e4))),r4,hG3,?_⟩
    · exact Nat.le_trans ea.sz (Nat.le_trans e2.sz (Nat.le_trans e3.sz e4.sz))
    · have hkl:k≠l:=fun e=>hno ((hO k).2 (.inr e))
      have hk1:KH Ei (hget (st x)) k:=by rw [hKH];exact Classical.byContradiction fun h=>hno ((hO k).2 (.inl h))
      have hka:k < Wa.heap.size:=Nat.lt_of_lt_of_le hk ea.sz
      have hk2:k < (Wa.putObj l (.loop { rec .ready none with state:=.busy })).heap.size:=by rw [World.putObj_size];exact hka
      rw [World.putObj_heap_other hkl,r3.keep k hk2 (own2 k hk hno),World.putObj_heap_other hkl]
      exact ra.keep k hk hk1
    · rcases Nat.lt_or_ge k W.heap.size with h | h
      · left
        refine Classical.byContradiction fun hno=>hk (fun id o lo q1 q2 q3=>?_)
        obtain ⟨lo',q4,ao⟩:=r3.obj id o q1
        rw [q2] at q4;injection q4 with q4;subst q4
        have hk2:k < (Wa.putObj l (.loop { rec .ready none with state:=.busy })).heap.size:=by rw [World.putObj_size];exact Nat.lt_of_lt_of_le h ea.sz
        exact ao.notK q3 hk2 (own2 k h hno)
      · exact .inr h
    · rw [World.putObj_heap_same (a0Z hl3),hrec]
  cases e with
  | normal =>
    obtain ⟨hp',c',⟨y,hy1,hy2,hy3⟩,hrb⟩:=hq
    obtain ⟨W4,E3,h1,hk,ho,h2,h3,h4,h5⟩:=fin none hp' c' hrb
    refine ⟨_,W4,h1,hk,.inl ⟨rfl,_,⟨y,c',E3,hy2,hy1,h2,h3.weak hy3,h4,h5,fun b=>Iff.rfl⟩,fun k hk'=>?_⟩⟩
    rcases hk' with hk' | rfl
    · refine ho k (fun hK=>hk' (fun id o' lo q1 q2=>?_))
      obtain ⟨o,q3,_⟩:=hy3 id o' q1
      exact hK id o lo q3 q2
    · exact .inl ((hO k).2 (.inr rfl))
  | ret =>
    obtain ⟨hp',c',hX,hrb⟩:=hq
    obtain ⟨W4,E3,h1,hk,_,h2,h3,h4,h5⟩:=fin (some .ret) hp' c' hrb
    exact ⟨_,W4,h1,hk,.inr ⟨rfl,.ret,hp',c',E3,.inl ⟨rfl,hX⟩,h2,h3,h4,h5⟩⟩
  | exit id =>
    obtain ⟨hp',c',hX,hrb⟩:=hq
    obtain ⟨W4,E3,h1,hk,_,h2,h3,h4,h5⟩:=fin (some (.exit id)) hp' c' hrb
    exact ⟨_,W4,h1,hk,.inr ⟨rfl,.exit id,hp',c',E3,.inr ⟨id,rfl,hX⟩,h2,h3,h4,h5⟩⟩
  | goto t=>exact hq.elim
  | panic ch=>exact hq.elim
  | outgrown=>exact hq.elim
end
section
variable {α:Type} {P:Program} {C:Ctx} {Q:Exit→Act→World→Prop} {n clk:Nat} {tm:List (Nat×TV)} {hp:List (Nat×HObj)} {ps:Array Tmp} {assign body:Code} {N:Nat} {ys:Nat→List HV}
theorem a6o (w:World) (E:Env):b1h w E []:=fun _ _ h=>by cases h
theorem b0b {B:World} {E1:Env} {l:Nat} {fn:FuncId} {tmps:Array Value} {dfs:Nat} {rec:LoopState→Option Code→Loop} (hrec:rec=fun s p=>{ state:=s,pending:=p,fn,tmps:=tmps,params:=ps,assign,body,defers:=dfs })
  {st:α→List (Nat×HObj)} {idx:α→Nat} {I:α→Prop} (hl0:C.w0.heap.size≤l) (a':Act) (sat:∀ (hp':List (Nat×HObj)) (c':Nat) (Ei:Env) (W:World),Ext B E1 W Ei→R C.K C.w0 C.E0.F Ei (hget hp') W→(∀ g,Ei.G g→g < c')→Sat C ⟨n,tm,hp',c'⟩ a' W)
  (done:∀ x c,I x→idx x=N→HQ C Q .normal ⟨n,tm,st x,c⟩) (W:World)
  (h:(∃ O,Jn C B E1 l rec st idx I N O W)∨∃ i,i < N∧Jxn C B E1 l rec (fun e hp' c'=>HQ C Q e ⟨n,tm,hp',c'⟩) W) :
  ∃ jump W2,(Instr.endLoop l).run P W=.ok jump W2∧(match jump with | none=>Q .normal a' W2 | some c=>c.wpIn (b9y C.rd) 0 P Q a' W2):=by
 rcases h with ⟨_,x,c,Ei,h1,h2,h3,h4,h5,h6,_⟩ | ⟨i,_,cj,hp',c,Ei,h1,h3,h4,h5,h6⟩
 ·obtain ⟨e2,r2⟩:=h4.book h6 rfl hl0 (h4.notM h6) (Bk.put W l (.loop { rec .ready none with state:=.exhausted }))
  refine ⟨none,_,?_,done x c h2 h1 a' _ (sat _ _ Ei _ (h3.trans e2) r2 h5)⟩
  have:=run_endLoop (P:=P) h6 (by rw [hrec];simp)
  rw [hrec] at this ⊢
  exact this
 ·obtain ⟨e2,r2⟩:=h4.book h6 rfl hl0 (h4.notM h6) (Bk.put W l (.loop { rec .done (some cj) with state:=.exhausted }))
  refine ⟨some cj,W.putObj l (.loop { rec .done (some cj) with state:=.exhausted }),?_,?_⟩
  ·have:=run_endLoop (P:=P) h6 (by rw [hrec];simp)
   rw [hrec] at this ⊢
   exact this
  ·have hs:=sat _ _ Ei _ (h3.trans e2) r2 h5
   rcases h1 with ⟨rfl,hX⟩ | ⟨id,rfl,hX⟩
   ·exact wpIn_ret (hX a' _ hs)
   ·exact wpIn_exit (hX a' _ hs)
theorem a7M {t:Nat} {f:FuncId} {m:Nat} {cfs:Nat→HV} {cs caps:List HV} (hC:C.rd=none∧C.ds=[]∧C.mks=some C.w0.heap.size)
    (hit:c1t P f caps N ys) (ht:tget tm t=some (.v (.fn (.func f) m cfs))) (hcs:cs.length=m) (hci:∀ i,i < m→cs[i]?=some (cfs i)) (hz:FzAll [] cs caps)
    (hV:b8x tm=true) (hps:∀ i,(ys i).length=ps.size) (hpb:ps.toList.all (fun p=>Nat.blt p n)=true)
    (st:α→List (Nat×HObj)) (idx:α→Nat) (I:α→Prop) (x0:α) (h0:I x0) (hi0:idx x0=0) (hs0:a0g hp (st x0)) (hfl:((st x0).all fun p=>p.2.fl == 0||Nat.blt p.2.n p.2.fl)=true)
    (round:∀ x c,I x→idx x < N→c0t P assign body ⟨n,psl ps.toList (ys (idx x)) tm,st x,c⟩ (fun C2=>RQ C2 (fun hp' _=>∃ y,I y∧idx y=idx x+1∧a0g hp' (st y)) (fun e hp' c'=>HQ C Q e ⟨n,tm,hp',c'⟩)))
    (done:∀ x c,I x→idx x=N→HQ C Q .normal ⟨n,tm,st x,c⟩):HWp C P (.rangeFunc (.tmp t) ps assign body) ⟨n,tm,hp,clk⟩ Q:=by
  intro a w ⟨E,e0,r,hG,hsz,hdf,htm⟩
  have hfn:Rep w E (a.eval (.tmp t)) (.fn (.func f) m cfs):=htm t _ ht
  rw [hC.1]
  refine wpIn_rangeFunc fun fn _=>?_
  generalize hρ:a.eval (.tmp t)=u at hfn
  cases hfn with
  | fn _ vcs _ _ vs hn hv hr =>
    have hcap:=b1J hn hv hr hcs hci
    obtain ⟨rec,hrec⟩:∃ rec:LoopState→Option Code→Loop,rec=fun s p=>{ state:=s,pending:=p,fn,tmps:=a.tmps,params:=ps,assign,body,defers:=w.heap.size }:=⟨_,rfl⟩
    obtain ⟨W1,hW1⟩:∃ W1,(w.alloc (.deferred (some []))).alloc (.loop (rec .ready none))=W1:=⟨_,rfl⟩
    have hbel:Below w.heap.size w W1:=by rw [←hW1];exact (((Below.refl _ w).alloc lrf _).alloc sml _)
    have hD1:W1.heap[w.heap.size]?=some (.deferred (some [])):=by
      rw [←hW1];exact (Below.heap_alloc _ _ _ sml).trans (World.alloc_heap_new w _)
    have hL1:W1.heap[w.heap.size+1]?=some (.loop (rec .ready none)):=by
      rw [←hW1];have:=World.alloc_heap_new (w.alloc (.deferred (some []))) (.loop (rec .ready none));rwa [World.size_alloc] at this
    have e1:Ext w E W1 (E.mark w.heap.size):=(r.extBelow hbel).trans (Ext.mark _ _ _)
    have r1:R C.K C.w0 C.E0.F (E.mark w.heap.size) (hget hp) W1:=(r.growSame hbel).mark hD1
    have hw0:C.w0.heap.size≤w.heap.size+1:=Nat.le_succ_of_le r.size
    refine ⟨w.heap.size+1,[{ target:=.collected w.heap.size,args:=#[] }],W1,{ target:=.fn (.func f) vcs,args:=#[.func (.yield (w.heap.size+1)) #[] #[]] },W1,f,
      #[.func (.yield (w.heap.size+1)) #[] #[]]++vcs,W1,?_,?_,fun _ _=>trivial,?_,a5K,?_⟩
    · rw [←hW1,hrec];exact run_enterLoop_outer _ _ _ _ _
    · simp only [resolve,hρ]
      simp [go_sem]
    · have:=a0C hit.1 (#[.func (.yield (w.heap.size+1)) #[] #[]]++vcs) W1
      simp only [invoke]
      exact this
    · refine a7Y (r:=none) ?_
      have hfr:∀ p,E.F p→p.spot=none∧(W1.cell? p).isSome=true:=fun p hp=>by
        have:=r.frz p hp
        exact ⟨this.1,by rw [(e1.F p hp).2];exact this.2⟩
      have hcap1:RepAll W1 (Env.just E.F) vcs.toList caps:=by
        have:=hz.sound (a6o W1 (E.mark w.heap.size)) (hcap.ext e1)
        exact this
      have hfo:∀ p,E.F p→¬ (¬ KH (E.mark w.heap.size) (hget (st x0)) p.block∨p.block=w.heap.size+1):=fun p hp=>by
        rintro (h | h)
        · exact h ((r1.weak hs0).noFl (fun id o ho=>by have:=List.all_eq_true.1 hfl _ (a1z ho);simpa [Nat.blt_eq] using this) p hp)
        · exact ((r1.weak hs0).notBk hL1 rfl).1 p hp h
      have hslots:∀ t x,tget tm t=some x→∀ ds,TVRep W1 (E.mark w.heap.size) ⟨a.tmps,ds⟩ (a.tmps.getD t undef) x:=fun t x hx ds=>by
        obtain ⟨z,rfl⟩:=a4I hV t x hx
        exact (htm t _ hx).ext e1
      have hc:=hit.2 (w.heap.size+1) W1 E.F vcs.toList (Jn C W1 (E.mark w.heap.size) (w.heap.size+1) rec st idx I) (fun _=>Jxn C W1 (E.mark w.heap.size) (w.heap.size+1) rec (fun e hp' c'=>HQ C Q e ⟨n,tm,hp',c'⟩))
        _ hfr hfo hcap1 r1.libw (fun i O W2 W3 h hb=>b6B h hb) (fun i W2 W3 h hb=>b3Q h hb) (fun i O W2 h=>c5X h)
        (fun i O W2 F' vs2 hi hJ q1 q2 q3 hv2=>a9T hrec hw0 hsz hV hslots hps hpb round (Nat.le_trans r.size hbel.size) i O W2 F' vs2 hi hJ q1 q2 q3 hv2)
        ⟨x0,clk,E.mark w.heap.size,hi0,h0,Ext.refl _ _,r1.weak hs0,hG,hL1,fun b=>Iff.rfl⟩
      have harr:#[Value.func (.yield (w.heap.size+1)) #[] #[]]++vcs.toList.toArray=#[.func (.yield (w.heap.size+1)) #[] #[]]++vcs:=by simp
      rw [harr] at hc
      refine Calls.mono hc (fun e W2 ⟨⟨v,he⟩,hj⟩=>?_)
      subst he
      have hsat:∀ (hp':List (Nat×HObj)) (c':Nat) (Ei:Env) (W:World),Ext W1 (E.mark w.heap.size) W Ei→R C.K C.w0 C.E0.F Ei (hget hp') W→(∀ g,Ei.G g→g < c')→Sat C ⟨n,tm,hp',c'⟩ { a with defers:=[⟨.collected w.heap.size,#[]⟩]++a.defers } W:=by
        intro hp' c' Ei W e2 r2 hG2
        refine ⟨Ei,e0.trans (e1.trans e2),r2,hG2,hsz,?_,fun t x hx=>?_⟩
        · rw [hC.2.1,hC.2.2] at hdf ⊢
          obtain ⟨Ds,h1,h2,h3⟩:=hdf
          refine ⟨w.heap.size::Ds,by rw [h1];rfl,List.nodup_cons.2 ⟨fun hm=>?_,h2⟩,fun D hD=>?_⟩
          · exact absurd (a0Z (r.bks _ (h3 _ hm).1)) (Nat.lt_irrefl _)
          · rcases List.mem_cons.1 hD with rfl | hD
            · exact ⟨e2.M _ (.inr rfl),r.size⟩
            · exact ⟨e2.M _ (e1.M _ (h3 D hD).1),(h3 D hD).2⟩
        · obtain ⟨z,rfl⟩:=a4I hV t x hx
          exact (htm t _ hx).ext (e1.trans e2)
      obtain ⟨jump,W3,h1,h2⟩:=b0b hrec hw0 _ hsat done W2 hj
      rw [hC.1] at h2
      exact ⟨jump,W3,h1,h2⟩
theorem c1s {t l0:Nat} {f:FuncId} {m:Nat} {cfs:Nat→HV} {cs caps:List HV} (hC:c7l C l0)
    (hit:c1t P f caps N ys) (ht:tget tm t=some (.v (.fn (.func f) m cfs))) (hcs:cs.length=m) (hci:∀ i,i < m→cs[i]?=some (cfs i)) (hz:FzAll [] cs caps)
    (hV:b8x tm=true) (hps:∀ i,(ys i).length=ps.size) (hpb:ps.toList.all (fun p=>Nat.blt p n)=true)
    (st:α→List (Nat×HObj)) (idx:α→Nat) (I:α→Prop) (x0:α) (h0:I x0) (hi0:idx x0=0) (hs0:a0g hp (st x0)) (hfl:((st x0).all fun p=>p.2.fl == 0||Nat.blt p.2.n p.2.fl)=true)
    (round:∀ x c,I x→idx x < N→c0t P assign body ⟨n,psl ps.toList (ys (idx x)) tm,st x,c⟩ (fun C2=>RQ C2 (fun hp' _=>∃ y,I y∧idx y=idx x+1∧a0g hp' (st y)) (fun e hp' c'=>HQ C Q e ⟨n,tm,hp',c'⟩)))
    (done:∀ x c,I x→idx x=N→HQ C Q .normal ⟨n,tm,st x,c⟩):HWp C P (.rangeFunc (.tmp t) ps assign body) ⟨n,tm,hp,clk⟩ Q:=by
  intro a w ⟨E,e0,r,hG,hsz,hdf,htm⟩
  obtain ⟨hr1,hr2,hr3,hr4,hr5,r0,hr6⟩:=hC
  have hfn:Rep w E (a.eval (.tmp t)) (.fn (.func f) m cfs):=htm t _ ht
  have hl0:w.heap[l0]?=some (.loop r0):=(r.keep l0 hr4 hr5).trans hr6
  rw [hr1]
  refine wpIn_rangeFunc fun fn _=>?_
  generalize hρ:a.eval (.tmp t)=u at hfn
  cases hfn with
  | fn _ vcs _ _ vs hn hv hr =>
    have hcap:=b1J hn hv hr hcs hci
    obtain ⟨rec,hrec⟩:∃ rec:LoopState→Option Code→Loop,rec=fun s p=>{ state:=s,pending:=p,fn,tmps:=a.tmps,params:=ps,assign,body,defers:=r0.defers }:=⟨_,rfl⟩
    obtain ⟨W1,hW1⟩:∃ W1,w.alloc (.loop (rec .ready none))=W1:=⟨_,rfl⟩
    have hbel:Below w.heap.size w W1:=by rw [←hW1];exact ((Below.refl _ w).alloc lrf _)
    have hL1:W1.heap[w.heap.size]?=some (.loop (rec .ready none)):=by rw [←hW1];exact World.alloc_heap_new w _
    have e1:Ext w E W1 E:=r.extBelow hbel
    have r1:R C.K C.w0 C.E0.F E (hget hp) W1:=r.growSame hbel
    refine ⟨w.heap.size,[],W1,{ target:=.fn (.func f) vcs,args:=#[.func (.yield w.heap.size) #[] #[]] },W1,f,
      #[.func (.yield w.heap.size) #[] #[]]++vcs,W1,?_,?_,fun _ _=>trivial,?_,a5K,?_⟩
    · rw [←hW1,hrec];exact run_enterLoop_inner hl0 _ _ _ _ _
    · simp only [resolve,hρ]
      simp [go_sem]
    · have:=a0C hit.1 (#[.func (.yield w.heap.size) #[] #[]]++vcs) W1
      simp only [invoke]
      exact this
    · refine a7Y (r:=some l0) ?_
      have hfr:∀ p,E.F p→p.spot=none∧(W1.cell? p).isSome=true:=fun p hp=>by
        have:=r.frz p hp
        exact ⟨this.1,by rw [(e1.F p hp).2];exact this.2⟩
      have hcap1:RepAll W1 (Env.just E.F) vcs.toList caps:=hz.sound (a6o W1 E) (hcap.ext e1)
      have hfo:∀ p,E.F p→¬ (¬ KH E (hget (st x0)) p.block∨p.block=w.heap.size):=fun p hp=>by
        rintro (h | h)
        · exact h ((r1.weak hs0).noFl (fun id o ho=>by have:=List.all_eq_true.1 hfl _ (a1z ho);simpa [Nat.blt_eq] using this) p hp)
        · exact ((r1.weak hs0).notBk hL1 rfl).1 p hp h
      have hslots:∀ t x,tget tm t=some x→∀ ds,TVRep W1 E ⟨a.tmps,ds⟩ (a.tmps.getD t undef) x:=fun t x hx ds=>by
        obtain ⟨z,rfl⟩:=a4I hV t x hx
        exact (htm t _ hx).ext e1
      have hc:=hit.2 w.heap.size W1 E.F vcs.toList (Jn C W1 E w.heap.size rec st idx I) (fun _=>Jxn C W1 E w.heap.size rec (fun e hp' c'=>HQ C Q e ⟨n,tm,hp',c'⟩))
        _ hfr hfo hcap1 r1.libw (fun i O W2 W3 h hb=>b6B h hb) (fun i W2 W3 h hb=>b3Q h hb) (fun i O W2 h=>c5X h)
        (fun i O W2 F' vs2 hi hJ q1 q2 q3 hv2=>a9T hrec r.size hsz hV hslots hps hpb round (Nat.le_trans r.size hbel.size) i O W2 F' vs2 hi hJ q1 q2 q3 hv2)
        ⟨x0,clk,E,hi0,h0,Ext.refl _ _,r1.weak hs0,hG,hL1,fun b=>Iff.rfl⟩
      have harr:#[Value.func (.yield w.heap.size) #[] #[]]++vcs.toList.toArray=#[.func (.yield w.heap.size) #[] #[]]++vcs:=by simp
      rw [harr] at hc
      refine Calls.mono hc (fun e W2 ⟨⟨v,he⟩,hj⟩=>?_)
      subst he
      have hsat:∀ (hp':List (Nat×HObj)) (c':Nat) (Ei:Env) (W:World),Ext W1 E W Ei→R C.K C.w0 C.E0.F Ei (hget hp') W→(∀ g,Ei.G g→g < c')→Sat C ⟨n,tm,hp',c'⟩ { a with defers:=[]++a.defers } W:=by
        intro hp' c' Ei W e2 r2 hG2
        refine ⟨Ei,e0.trans (e1.trans e2),r2,hG2,hsz,?_,fun t x hx=>?_⟩
        · exact hdf.ext (e1.trans e2)
        · obtain ⟨z,rfl⟩:=a4I hV t x hx
          exact (htm t _ hx).ext (e1.trans e2)
      obtain ⟨jump,W3,h1,h2⟩:=b0b hrec r.size _ hsat done W2 hj
      rw [hr1] at h2
      exact ⟨jump,W3,h1,h2⟩
end
section
variable {P:Program} {Post:HEnd→List (Nat×HObj)→Nat→Prop}
theorem b4G {f:FuncId} {fn:Func} {c:Code} (hf:P.funcs[f]?=some fn) (hb:fn.body=some c) (hn:(fn.name == "runtime.NumGoroutine")=false) (args:List HV) (r:HV) (tm:List (Nat×TV)) (htm:a8o 0 args=tm) (n:Nat) (hnt:fn.ntmps=n) (hlen:Nat.ble args.length n=true)
  (h:∀ w F,HWp (Ctx.topM w F) P c ⟨n,tm,[],0⟩ (bodyPostM Fence.wide 0 P fn (a1c w F r))):HPure P f args r:=by
 refine ⟨⟨fn,c,hf,hb,hn⟩,fun w F vs hF hr hw=>callsIn_wide.1 (callsIn_of_wp_marks (F:=Fence.wide) (n:=0) hf hb trivial (h w F _ w ?_))⟩
 obtain ⟨hl,hg⟩:=hr.get
 have hlen:args.length≤n:=by simpa using hlen
 refine ⟨Env.just F,Ext.refl _ _,⟨rfl,rfl,rfl,Nat.le_refl _,fun _ _ _=>rfl,hF,fun a ha=>.inl ha,fun _ _=>trivial,hw,(fun b hb=>hb.elim),(fun id o ho=>by cases ho),(fun id id' o o' l l' b ho=>by cases ho)⟩,fun g hg=>hg.elim,?_,⟨[],rfl,List.nodup_nil,fun D hD=>by cases hD⟩,fun t x hx=>?_⟩
 ·simp [hl,hnt];omega
 ·rw [←htm] at hx
  obtain ⟨i,y,rfl,h2,rfl⟩:=a2w args 0 t x hx
  obtain ⟨v,hv,hrep⟩:=hg i y h2
  have hi:i < vs.length:=by
   rcases Nat.lt_or_ge i vs.length with h | h
   ·exact h
   ·rw [List.getElem?_eq_none h] at hv;cases hv
  have:(vs.toArray++Array.replicate (fn.ntmps - vs.toArray.size) undef).getD (0+i) undef=v:=by
   rw [Nat.zero_add]
   simp only [Array.getD_eq_getD_getElem?]
   rw [Array.getElem?_append_left (by simpa using hi)]
   simp [hv]
  show Rep w _ _ y
  rw [this]
  exact hrep
theorem a9h {f:FuncId} {fn:Func} {c:Code} (hf:P.funcs[f]?=some fn) (hb:fn.body=some c) (hn:(fn.name == "runtime.NumGoroutine")=false) (clk:Nat) (args:List HV) (pre:List (Nat×HObj)) (tm:List (Nat×TV)) (htm:a8o 0 args=tm) (n:Nat) (hnt:fn.ntmps=n) (hlen:Nat.ble args.length n=true)
  (h:∀ X:Clr,X.Ok→X.pre=pre→(∀ b,X.E.M b→b < X.w.heap.size)→HWp X.ctxM P c ⟨n,tm,pre,clk⟩ (bodyPostM Fence.wide 0 P fn (a1A X Post))):a2y P f clk args pre Post:=by
 refine ⟨⟨fn,c,hf,hb,hn⟩,fun X vs ok hX hr hG=>callsIn_wide.1 (callsIn_of_wp_marks (F:=Fence.wide) (n:=0) hf hb trivial (h X ok hX (fun b hb=>a0Z (ok.r.bks b hb)) _ X.w ?_))⟩
 obtain ⟨hl,hg⟩:=hr.get
 have hlen:args.length≤n:=by simpa using hlen
 have rs:=ok.start
 rw [hX] at rs
 refine ⟨X.E,Ext.refl _ _,rs,hG,?_,⟨[],rfl,List.nodup_nil,fun D hD=>by cases hD⟩,fun t x hx=>?_⟩
 ·simp [hl,hnt];omega
 ·rw [←htm] at hx
  obtain ⟨i,y,rfl,h2,rfl⟩:=a2w args 0 t x hx
  obtain ⟨v,hv,hrep⟩:=hg i y h2
  have hi:i < vs.length:=by
   rcases Nat.lt_or_ge i vs.length with h | h
   ·exact h
   ·rw [List.getElem?_eq_none h] at hv;cases hv
  have:(vs.toArray++Array.replicate (fn.ntmps - vs.toArray.size) undef).getD (0+i) undef=v:=by
   rw [Nat.zero_add]
   simp only [Array.getD_eq_getD_getElem?]
   rw [Array.getElem?_append_left (by simpa using hi)]
   simp [hv]
  show Rep X.w _ _ y
  rw [this]
  exact hrep
theorem b0d {w:World} {F:Addr→Prop} {fn:Func} {Rp:Ending→World→Prop} {s:HSt} (h:HQ (Ctx.top w F) (bodyPost P fn Rp) .ret s):HQ (Ctx.topM w F) (bodyPostM Fence.wide 0 P fn Rp) .ret s:=c2R ⟨rfl,rfl,fun b hb=>hb.elim⟩ h
theorem b2i {X:Clr} {fn:Func} {Rp:Ending→World→Prop} {s:HSt} (hM:∀ b,X.E.M b→b < X.w.heap.size) (h:HQ X.ctx (bodyPost P fn Rp) .ret s):HQ X.ctxM (bodyPostM Fence.wide 0 P fn Rp) .ret s:=c2R ⟨rfl,rfl,hM⟩ h
end
structure ItX (P:Program) where
 l:Nat
 W0:World
 F0:Addr→Prop
 J:Nat→(Nat→Prop)→World→Prop
 Jx:Nat→World→Prop
 N:Nat
 ys:Nat→List HV
 jb:∀ i O W1 W2,J i O W1→Below W1.heap.size W1 W2→J i O W2
 ob:∀ i O W1,J i O W1→∀ k,O k→k < W1.heap.size
 jxb:∀ i W1 W2,Jx i W1→Below W1.heap.size W1 W2→Jx i W2
 yl:∀ i O W1 F' vs,i < N→J i O W1→(∀ a,F' a→a.spot=none∧(W1.cell? a).isSome=true)→(∀ a,F' a→¬ O a.block)→(∀ a,F' a→F0 a∨W0.heap.size≤a.block)→RepAll W1 (Env.just F') vs (ys i) →
   YieldAt Fence.wide 0 P l vs.toArray W1 fun e W'=>KeepsO O W1 W'∧((e=.returned (.bool true)∧∃ O',J (i+1) O' W'∧∀ k,O' k→O k∨W1.heap.size≤k)∨(e=.returned (.bool false)∧Jx (i+1) W'))
structure FrOk (P:Program) (X:ItX P) (W:World) (F:Addr→Prop):Prop where
 frz:∀ a,F a→a.spot=none∧(W.cell? a).isSome=true
 new:∀ a,F a→X.F0 a∨X.W0.heap.size≤a.block
 size:X.W0.heap.size≤W.heap.size
 lib:LibW W
structure GoodW (P:Program) (X:ItX P) (i:Nat) (O:Nat→Prop) (W:World) (F:Addr→Prop):Prop where
 j:X.J i O W
 fr:FrOk P X W F
 own:∀ a,F a→¬ O a.block
def c5Y (P:Program) (X:ItX P) (e:Ending) (w:World):Prop:=(∃ v,e=.returned v)∧((∃ O,X.J X.N O w)∨∃ i,i < X.N∧X.Jx (i+1) w)
section
variable {P:Program} {X:ItX P} {fn:Func} {Q:Exit→Act→World→Prop} {n clk:Nat} {tm:List (Nat×TV)} {hp:List (Nat×HObj)}
theorem b4y {W w:World} {F0:Addr→Prop} {E:Env} {h:Nat→Option HObj} (r:R (fun _=>True) W F0 E h w):Below W.heap.size W w :=
 ⟨r.os,r.tape,r.output,r.size,fun k hk=>r.keep k hk trivial⟩
def b4c (tm tm':List (Nat×TV)):Prop:=∀ t x,tget tm' t=some x→∃ y z,x=.v z∧tget tm t=some (.v y)∧Fz [] y z
theorem b4c.nil {tm:List (Nat×TV)}:b4c tm []:=fun t x h=>by cases h
theorem b4c.cons {tm r:List (Nat×TV)} {t:Nat} {y z:HV} (h:tget tm t=some (.v y)) (hz:Fz [] y z) (hr:b4c tm r):b4c tm ((t,.v z)::r):=fun t' x h'=>by
 rw [a0x] at h'
 split at h'
 ·rename_i e;subst e;injection h' with h';subst h';exact ⟨y,z,rfl,h,hz⟩
 ·exact hr t' x h'
theorem b7J {f:FuncId} {c:Code} (hf:P.funcs[f]?=some fn) (hb:fn.body=some c) (hn:(fn.name == "runtime.NumGoroutine")=false) (caps:List HV) (N:Nat) (ys:Nat→List HV) (tm:List (Nat×TV)) (htm:a8o 1 caps=tm) (n:Nat) (hnt:fn.ntmps=n) (hlen:Nat.ble (caps.length+1) n=true)
  (h:∀ X:ItX P,X.N=N→X.ys=ys→∀ O W F,GoodW P X 0 O W F→HWp (Ctx.top W F) P c ⟨n,(0,.v (.fn (.yield X.l) 0 fun _=>default))::tm,[],0⟩ (bodyPost P fn (c5Y P X))):c1t P f caps N ys:=by
 refine ⟨⟨fn,c,hf,hb,hn⟩,fun l W F cvs J Jx O0 hF hFO hr hw hjb hjxb hob hyl hj=>?_⟩
 have key:=h ⟨l,W,F,J,Jx,N,ys,hjb,hob,hjxb,hyl⟩ rfl rfl O0 W F ⟨hj,⟨hF,fun a ha=>.inl ha,Nat.le_refl _,hw⟩,hFO⟩
 refine calls_of_wp hf hb (a7q.1 (key _ W ?_))
 obtain ⟨hl,hg⟩:=hr.get
 have hlen:caps.length+1≤n:=by simpa using hlen
 refine ⟨Env.just F,Ext.refl _ _,⟨rfl,rfl,rfl,Nat.le_refl _,fun _ _ _=>rfl,hF,fun a ha=>.inl ha,fun _ _=>trivial,hw,(fun b hb=>hb.elim),(fun id o ho=>by cases ho),(fun id id' o o' l l' b ho=>by cases ho)⟩,fun g hg=>hg.elim,?_,rfl,fun t x hx=>?_⟩
 ·simp [hl,hnt];omega
 ·rw [a0x] at hx
  split at hx
  ·rename_i e;subst e;injection hx with hx;subst hx
   have:((#[Value.func (.yield l) #[] #[]]++cvs.toArray)++Array.replicate (fn.ntmps - (#[Value.func (.yield l) #[] #[]]++cvs.toArray).size) undef).getD 0 undef=.func (.yield l) #[] #[]:=by
    simp only [Array.getD_eq_getD_getElem?]
    rw [Array.getElem?_append_left sml,Array.getElem?_append_left sml]
    rfl
   show Rep W _ _ _
   rw [this]
   exact .fn _ _ _ _ (fun _=>undef) rfl (fun i hi=>absurd hi (Nat.not_lt_zero _)) (fun i hi=>absurd hi (Nat.not_lt_zero _))
  ·rw [←htm] at hx
   obtain ⟨i,y,rfl,h2,rfl⟩:=a2w caps 1 t x hx
   obtain ⟨v,hv,hrep⟩:=hg i y h2
   have hi:i < cvs.length:=by
    rcases Nat.lt_or_ge i cvs.length with h | h
    ·exact h
    ·rw [List.getElem?_eq_none h] at hv;cases hv
   have:((#[Value.func (.yield l) #[] #[]]++cvs.toArray)++Array.replicate (fn.ntmps - (#[Value.func (.yield l) #[] #[]]++cvs.toArray).size) undef).getD (1+i) undef=v:=by
    simp only [Array.getD_eq_getD_getElem?]
    rw [Array.getElem?_append_left (by simp;omega),Array.getElem?_append_right sml]
    simp [hv]
   show Rep W _ _ y
   rw [this]
   exact hrep
theorem b1w {W:World} {F:Addr→Prop} {s:HSt} (hres:fn.results=#[]) (hg:(∃ O,X.J X.N O W)∨∃ i,i < X.N∧X.Jx (i+1) W):HQ (Ctx.top W F) (bodyPost P fn (c5Y P X)) .ret s:=by
 intro a w ⟨E,e0,r,hG,hsz,hdf,ht⟩
 have hb:Below W.heap.size W w:=b4y r
 refine ⟨hdf,.tuple #[],?_,⟨_,rfl⟩,?_⟩
 ·simp [results,hres,go_sem]
 ·rcases hg with ⟨O,h⟩ | ⟨i,hi,h⟩
  ·exact .inl ⟨O,X.jb _ _ _ _ h hb⟩
  ·exact .inr ⟨i,hi,X.jxb _ _ _ h hb⟩
theorem b7f {ops:Array Oper} {rest:List Oper} {ty:TypeId} {pos:String} {af:Array Edge} {W:World} {F:Addr→Prop} {i:Nat} {O:Nat→Prop} (hg:GoodW P X i O W F) (hi:i < X.N) {t d:Nat} {y0:Nat→HV} {args:List Operand} {at_:Array TypeId} {xs:List HV} (tm':List (Nat×TV))
    (h0:tget tm t=some (.v (.fn (.yield X.l) 0 y0))) (hx:a1L (a0F (tget tm)) args xs) (hz:FzAll [] xs (X.ys i)) (htm:b4c tm tm') (hlt:Nat.blt d n=true)
    (hyes:∀ O' W' F',GoodW P X (i+1) O' W' F'→HSeq (Ctx.top W' F') P ops rest ⟨n,(d,.v (.imm (.bool true)))::tm',[],0⟩ Q)
    (hno:∀ W' F',FrOk P X W' F'→X.Jx (i+1) W'→HSeq (Ctx.top W' F') P ops rest ⟨n,(d,.v (.imm (.bool false)))::tm',[],0⟩ Q) :
    HSeq (Ctx.top W F) P ops (⟨some d,.call ⟨.value (.tmp t),args.toArray,at_⟩,ty,pos,af,none⟩::rest) ⟨n,tm,hp,clk⟩ Q:=by
  intro a w ⟨E,e0,r,hG,hsz,hdf,ht⟩
  have hlt:d < n:=by simpa [Nat.blt_eq] using hlt
  have hb:Below W.heap.size W w:=b4y r
  unfold a8R
  rw [if_pos (by simp [Region.wanted])]
  right
  have hrep:=a3Y ht hx
  have hfn:Rep w E (a.eval (.tmp t)) (.fn (.yield X.l) 0 y0):=ht t _ h0
  refine ⟨fun _ _=>trivial,?_⟩
  rw [show ∀ o:Oper,o.semAt Fence.wide.round a.eval=execOp a.eval o from fun o=>Oper.semAt_none _ _]
  have hargs:args.toArray.map a.eval=(args.map a.eval).toArray:=by simp
  have hfrz:RepAll w (Env.just E.F) (args.map a.eval) (X.ys i):=hz.sound (a6o w E) hrep
  have hown:∀ p,E.F p→¬ O p.block:=fun p hp=>by
    rcases r.fnew p hp with h1 | h1 | h1
    · exact hg.own p h1
    · intro hO
      have:=X.ob _ _ _ hg.j _ hO
      exact absurd h1 (by show ¬ W.heap.size≤_;omega)
    · exact absurd trivial h1
  obtain ⟨fn',tmps',as',bd',hy,hround⟩:=X.yl i O w E.F (args.map a.eval) hi (X.jb _ _ _ _ hg.j hb) r.frz hown (fun p hp=>by
    rcases r.fnew p hp with h1 | h1 | h1
    · exact hg.fr.new p h1
    · exact .inr (Nat.le_trans hg.fr.size h1)
    · exact absurd trivial h1) hfrz
  unfold execOp
  generalize hρ:a.eval (.tmp t)=u at hfn
  cases hfn with
  | fn _ vcs _ _ vs hn hv hr =>
    have hvc:vcs=#[]:=Array.eq_empty_of_size_eq_zero hn
    subst hvc
    simp only [resolve,hρ,Deferred.ofValue,invoke,Sem.run_bind,Sem.run_pure,Result.andThen_ok,Array.empty_append,Array.append_empty]
    rw [hargs,hy]
    refine ⟨a5K,RoundIn.mono hround (fun e W' he=>?_)⟩
    obtain ⟨hk,he⟩:=he
    have hfr':FrOk P X W' E.F:=⟨fun p hp=>⟨(r.frz p hp).1,by rw [World.cell?_of_block (hk.block _ (a1m (r.frz p hp).2) (hown p hp))];exact (r.frz p hp).2⟩,fun p hp=>by
      rcases r.fnew p hp with h1 | h1 | h1
      · exact hg.fr.new p h1
      · exact .inr (Nat.le_trans hg.fr.size h1)
      · exact absurd trivial h1,Nat.le_trans hg.fr.size (Nat.le_trans r.size hk.size),hk.lib⟩
    have eK:Ext w (Env.just E.F) W' (Env.just E.F):=⟨hk.size,fun p hp=>⟨hp,World.cell?_of_block (hk.block _ (a1m (r.frz p hp).2) (hown p hp))⟩,fun _ h=>h,fun _ _ h _=>h,fun _ h=>h⟩
    have hsat:∀ b:Bool,Sat (Ctx.top W' E.F) ⟨n,(d,.v (.imm (.bool b)))::tm',[],0⟩ (a.put (some d) (.bool b)) W':=fun b=>by
      refine ⟨Env.just E.F,Ext.refl _ _,⟨rfl,rfl,rfl,Nat.le_refl _,fun _ _ _=>rfl,hfr'.frz,fun a ha=>.inl ha,fun _ _=>trivial,hfr'.lib,(fun b hb=>hb.elim),(fun id o ho=>by cases ho),(fun id id' o o' l l' b ho=>by cases ho)⟩,fun g hg=>hg.elim,by simp [Act.put,hsz],hdf,fun t' x hx=>?_⟩
      rw [a0x] at hx
      split at hx
      · rename_i e;subst e;injection hx with hx;subst hx
        rw [a0R (by rw [hsz];exact hlt)]
        exact .imm _
      · rename_i e
        obtain ⟨y,z,rfl,h1,h2⟩:=htm t' x hx
        rw [a0w e]
        exact (h2.sound (a6o w E) (ht t' _ h1)).ext eK
    rcases he with ⟨rfl,O',hj,ho⟩ | ⟨rfl,hj⟩
    · refine hyes O' W' E.F ⟨hj,hfr',fun p hp hO=>?_⟩ _ W' (hsat true)
      rcases ho _ hO with h1 | h1
      · exact hown p hp h1
      · have:=a1m (r.frz p hp).2;omega
    · exact hno W' E.F hfr' hj _ W' (hsat false)
theorem b2Q {α:Type} {body:Code} {W:World} {F:Addr→Prop} {O:Nat→Prop} {tm0:List (Nat×TV)} {hp0:List (Nat×HObj)} {c0:Nat} (st:α→List (Nat×TV)) (I:α→Prop) (idx:α→Nat) (m:α→Nat) (x0:α) (h0:I x0) (hg0:GoodW P X (idx x0) O W F) (hs0:a4D (Ctx.top W F) ⟨n,tm0,hp0,c0⟩ ⟨n,st x0,[],c0⟩)
  (round:∀ x O W F c,I x→GoodW P X (idx x) O W F→∀ N:Act→World→Prop,(∀ y O' W' F' c' s',I y→m y < m x→GoodW P X (idx y) O' W' F'→a4D (Ctx.top W' F') s' ⟨n,st y,[],c'⟩→HQ (Ctx.top W' F') (Exit.then N Q) .normal s')→HWp (Ctx.top W F) P body ⟨n,st x,[],c⟩ (Exit.then N Q)) :
  HWp (Ctx.top W F) P (.loop body) ⟨n,tm0,hp0,c0⟩ Q:=by
 intro a w hs
 refine a6E (fun k a w=>∃ x O W F c,m x=k∧I x∧GoodW P X (idx x) O W F∧Sat (Ctx.top W F) ⟨n,st x,[],c⟩ a w) (m x0) ⟨x0,O,W,F,c0,rfl,h0,hg0,hs0 a w hs⟩ ?_
 rintro k a w ⟨x,O,W,F,c,rfl,hx,hg,hs⟩
 exact round x O W F c hx hg (fun a' w'=>∃ j,j < m x∧∃ y O W F c,m y=j∧I y∧GoodW P X (idx y) O W F∧Sat (Ctx.top W F) ⟨n,st y,[],c⟩ a' w') (fun y O' W' F' c' s' hy hlt hg' hsub a w hs=>⟨m y,hlt,y,O',W',F',c',rfl,hy,hg',hsub a w hs⟩) a w hs
end
set_option maxRecDepth 100000
@[reducible] def Th (P:Program) (rd:Option Nat) (y:Code) (Q:Exit→Act→World→Prop):Exit→Act→World→Prop:=Exit.then (fun a w=>Code.wpR rd P y Q a w) Q
def d2E:List (Nat×TV)→Bool
 | []=>true
 | (_,.un _ _ _)::_=>false
 | (_,.v _)::r=>d2E r
structure Run (n:Nat) (G' G:Prop):Prop where h:G'→G
structure WSeq (C:Ctx) (P:Program) (ops:Array Oper) (l:List Oper) (s:HSt) (Q:Exit→Act→World→Prop):Prop where h:HSeq C P ops l s Q
structure WWp (C:Ctx) (P:Program) (c:Code) (s:HSt) (Q:Exit→Act→World→Prop):Prop where h:HWp C P c s Q
structure WQ (C:Ctx) (Q:Exit→Act→World→Prop) (e:Exit) (s:HSt):Prop where h:HQ C Q e s
structure WDr (P:Program) (n clk:Nat) (tm0:List (Nat×TV)) (hp0:List (Nat×HObj)) (L dn:List Oper) (ss:List HSpec) (rest:List Oper) (k:Nat) (tm:List (Nat×TV)) (hp:List (Nat×HObj)) (Fin:Prop):Prop where h:HDr P n clk tm0 hp0 L dn ss rest k tm hp Fin
theorem rg {n:Nat} {G' G G1:Prop} (h:G1→G) (k:Run n G' G1):Run (n+1) G' G:=⟨fun x=>h (k.h x)⟩
theorem rq_ {p q:Prop} (h:p→q:=by (intro h;first | rfl | cases h)):p→q:=h
theorem omg {p:Prop} (h:p:=by (first | exact Nat.le_of_ble_eq_true rfl | omega | (dsimp only;omega) | (simp only [hcs] at *;omega) | (simp <;> omega))):p:=h
theorem ckk {a b:Nat} (h:a=b:=by ((try simp only [Nat.add_assoc,Nat.reduceAdd]);exact rfl)):a=b:=h
section
variable {P:Program} {T:TypeId} {b:Bool} {s fo k n e:Nat} {z:List Value} {l:List (Nat×Nat)}
theorem iEl (h:ElI P T e s:=by infer_instance):elOf P T=some (e,s):=h.h
theorem iTy (h:TyI P T b s:=by infer_instance):tyOf P T=some (b,s):=h.h
theorem iFd (h:FdI P T k fo:=by infer_instance):fdOf P T k=some fo:=h.h
theorem iAl (h:AlI P T n s:=by infer_instance):arL P T=some (n,s):=h.h
theorem iSt (h:StI P T z l:=by infer_instance):stOf P T=some (z,l):=h.h
end
section
variable {ov:Nat→Option HV} {pl:List (Nat×Nat)} {sz i o s k:Nat} {x:Operand} {ps:List (Nat×Operand)} {hs:List (Nat×Nat×HV)} {h:HV} {l:List HV}
theorem po0:a3S ov pl sz [] []:=trivial
theorem po1 (h1:ovl ov x=some h) (h2:pl[i]?=some (o,s)) (h3:h.flat=true) (h4:h.wid=s) (h5:Nat.ble (o+s) sz=true) (r:a3S ov pl sz ps hs):a3S ov pl sz ((i,x)::ps) ((o,s,h)::hs):=⟨h1,h2,h3,h4,h5,r⟩
theorem poo (h:a3S ov pl sz ps hs:=by repeat (first | exact po0 | apply po1 rfl rfl rfl rfl rfl)):a3S ov pl sz ps hs:=h
theorem lo0:a5P ov sz k [] []:=trivial
theorem lo1 (h2:ovl ov x=some h) (h3:h.flat=true) (h4:h.wid=sz) (r:a5P ov sz (k+1) ps l):a5P ov sz k ((k,x)::ps) (h::l):=⟨rfl,h2,h3,h4,r⟩
theorem loo (h:a5P ov sz k ps l:=by repeat (first | exact lo0 | apply lo1 rfl rfl rfl)):a5P ov sz k ps l:=h
theorem oa0:a1L ov [] []:=trivial
theorem oa1 {xs:List Operand} (h1:ovl ov x=some h) (r:a1L ov xs l):a1L ov (x::xs) (h::l):=⟨h1,r⟩
theorem oaa {xs:List Operand} (h:a1L ov xs l:=by repeat (first | exact oa0 | apply oa1 rfl)):a1L ov xs l:=h
theorem lhh {z:Option Operand} {a d:Int} (h:z=none∧a=d∨∃ k y,z=some y∧ovl ov y=some (.imm (.int k a)):=by first | exact .inl ⟨rfl,rfl⟩ | exact .inr ⟨_,_,rfl,rfl⟩ | fail):z=none∧a=d∨∃ k y,z=some y∧ovl ov y=some (.imm (.int k a)):=h
end
section
variable {P:Program} {ov:Nat→Option HV} {g:Nat} {d:Option Tmp} {ty T:TypeId} {pos:String} {af:Array Edge} {gd:Option (Nat×Bool)} {x:Operand} {n s:Nat} {e:TypeId}
theorem c3Q {l:List UInt8} (hE:P.underlying T=some .string) (h1:ovl ov x=some (strV l)):HOp P ⟨d,.call ⟨.builtin .len,#[x],#[T]⟩,ty,pos,af,gd⟩ ov g [] (intV (l.length:Int)) []:=b4f rfl hE h1
theorem d0q {f:Nat→Nat→HV} (h1:ovl ov x=some (.sl s n f)) (hE:elOf P T=some (e,s)):HOp P ⟨d,.call ⟨.builtin .len,#[x],#[T]⟩,ty,pos,af,gd⟩ ov g [] (intV (n:Int)) []:=a3b rfl (a0Q hE).1 h1
theorem d0C {id gg lo:Nat} (h1:ovl ov x=some (.os id gg lo n)) (hE:elOf P T=some (e,s)):HOp P ⟨d,.call ⟨.builtin .len,#[x],#[T]⟩,ty,pos,af,gd⟩ ov g [] (intV (n:Int)) []:=a3N rfl (a0Q hE).1 h1
theorem c9G {A:Option Addr} {c:Nat} (h1:ovl ov x=some (.imm (.slice A n c))) (hE:elOf P T=some (e,s)):HOp P ⟨d,.call ⟨.builtin .len,#[x],#[T]⟩,ty,pos,af,gd⟩ ov g [] (intV (n:Int)) []:=a2X rfl (a0Q hE).1 h1
end
section
variable {P:Program} {ov:Nat→Option HV} {g:Nat} {d:Option Tmp} {ty T yT:TypeId} {pos:String} {af:Array Edge} {gd:Option (Nat×Bool)} {x:Operand} {k k':IntKind} {lo hi a:Int}
theorem ik_ (h:IkI P T k:=by infer_instance):IkI P T k:=h
theorem d3V (h:WOk k lo hi:=by first | exact b5s | exact c3e | exact b4S | exact c7z | exact b6f | exact c9A | fail):WOk k lo hi:=h
theorem d2D (hT:IkI P yT k') (w:WOk k' lo hi) (h1:ovl ov x=some (.imm (.int k a))) (hl:lo≤a) (hh:a≤hi) (hS:IkI P T k):HOp P ⟨d,.convert T yT x,ty,pos,af,gd⟩ ov g [] (.imm (.int k' a)) []:=c0G w hT.h (by rw [hS.h];rfl) h1 hl hh
theorem d2F (hT:IkI P yT k') (h1:ovl ov x=some (.imm (.int k a))) (hS:IkI P T k):HOp P ⟨d,.convert T yT x,ty,pos,af,gd⟩ ov g [] (.imm (.int k' (k'.wrap a))) []:=b7j hT.h (by rw [hS.h];rfl) h1
end
theorem hpA {P:Program} {o:Oper} {ov:Nat→Option HV} {g:Nat} {v:HV} (h:HOp P o ov g [] v []:=by first
 | (apply a1p;exact rfl)
 | (apply b0Y;exact rfl)
 | (apply b0D;(iterate 2 exact rfl))
 | (apply b6x;(iterate 2 exact rfl))
 | (apply c8G;(iterate 2 exact rfl))
 | (apply c7V;(iterate 2 exact rfl))
 | (apply c8L;(iterate 2 exact rfl))
 | (apply c0K;(iterate 2 exact rfl))
 | (apply c7g;(iterate 2 exact rfl))
 | (apply c3V;(iterate 3 exact rfl);(iterate 2 exact omg))
 | (apply a5l;(iterate 3 exact rfl);(iterate 2 exact omg))
 | (apply c3A;(iterate 3 exact rfl);(iterate 2 exact omg))
 | (apply b9O;exact rfl)
 | (apply a5T;exact iEl;(iterate 2 exact rfl);(iterate 3 exact omg))
 | (apply a0j;exact iTy;exact rfl;exact omg;exact rq_)
 | (apply b0E;exact iFd;exact rfl;exact omg)
 | (apply b7N;exact iFd;exact rfl)
 | (apply b0f;exact rfl)
 | (apply b0A;exact rfl)
 | (apply c3Q;exact kr;exact rfl)
 | (apply d0q;exact rfl;exact iEl)
 | (apply d0C;exact rfl;exact iEl)
 | (apply c9G;exact rfl;exact iEl)
 | (apply b5e;exact kr;(iterate 2 exact rfl);(iterate 2 exact omg))
 | (apply b3v;exact kr;exact rfl;(iterate 2 exact lhh);(iterate 3 exact omg))
 | (apply b1p;exact iEl;exact rfl;(iterate 2 exact lhh);(iterate 3 exact omg))
 | (apply c2W;(iterate 2 exact rfl))
 | (apply c1C;(iterate 2 exact rfl))
 | (apply c4u;(iterate 2 exact rfl);exact omg)
 | (apply c6X;exact (fun w=>kr);(iterate 2 exact rfl))
 | (apply c7B;exact (fun w=>kr);(iterate 2 exact rfl))
 | (apply c7s;(iterate 2 exact rfl))
 | (apply c8q;(iterate 2 exact rfl))
 | (apply b2d;exact c3e;(iterate 3 exact rfl);(iterate 2 exact omg))
 | (apply b2d;exact b6f;(iterate 3 exact rfl);(iterate 2 exact omg))
 | (apply b2d;exact b4S;(iterate 3 exact rfl);(iterate 2 exact omg))
 | (apply b1M;exact c3e;(iterate 3 exact rfl);(iterate 2 exact omg))
 | (apply b1M;exact b6f;(iterate 3 exact rfl);(iterate 2 exact omg))
 | (apply b1M;exact b4S;(iterate 3 exact rfl);(iterate 2 exact omg))
 | (apply c5j;(iterate 2 exact rfl))
 | (apply c7C;(iterate 2 exact rfl))
 | (apply c9m;(iterate 2 exact rfl);exact omg)
 | (apply c8K;(iterate 2 exact rfl);exact omg)
 | (apply d2D;exact ik_;exact d3V;exact rfl;(iterate 2 exact omg);exact ik_)
 | (apply d2F;exact ik_;exact rfl;exact ik_)
 | (apply b9h;exact iAl;(iterate 2 exact rfl);(iterate 2 exact omg))
 | (apply b8q;exact iAl;(iterate 2 exact rfl);(iterate 3 exact omg))
 | (apply c2y;exact iSt;(iterate 2 exact rfl);exact poo)
 | (apply b4q;exact oaa)
 | (apply b1Z;exact rfl)
 | (apply b6z;exact kr;(iterate 2 exact rfl))
 | (apply b5G;exact kr;(iterate 2 exact rfl))
 | (apply b5t;exact kr;(iterate 2 exact rfl))
 | (apply b5I;exact kr;(iterate 2 exact rfl))
 | (apply b6k;exact kr;(iterate 2 exact rfl))
 | (apply b6v;exact kr;(iterate 2 exact rfl))
 | (apply c2B;exact kr;exact rfl)
 | (apply b0T;exact kr;exact rfl)
 | (apply b0L;exact kr;exact rfl)
 | fail):HOp P o ov g [] v []:=h
section
variable {qq:Nat} {GG:Prop} {C:Ctx} {P:Program} {ops:Array Oper} {Q:Exit→Act→World→Prop} {n clk c':Nat} {tm:List (Nat×TV)} {hp:List (Nat×HObj)} {rest:List Oper} {v:HV} {d gi j:Nat} {op:Op} {ty T:TypeId} {pos:String} {af:Array Edge} {x y:Operand} {b c:Bool} {id gg i off s m sz fl lo:Nat} {oty:TypeId} {f:Nat→Nat→HV}
theorem cr_ {id:Nat} {l:List Oper} {s:HSt} (nd:C.rd=none∨l.all Oper.calm=true) (h:Run qq GG (WSeq C P l.toArray l s Q)):Run (qq+1) GG (WWp C P (.region id l.toArray false) s Q):=rg (fun h=>⟨b3i h.h nd⟩) h
theorem cu_ {tm':List (Nat×TV)} (hu:a8L tm=true) (ht:a5H tm []=tm') (h:Run qq GG (WQ C Q .normal ⟨n,tm',hp,clk⟩)):Run (qq+1) GG (WSeq C P ops [] ⟨n,tm,hp,clk⟩ Q):=rg (fun h=>⟨b9Q hu ht h.h⟩) h
theorem zm (hx:ovl (a0F (tget tm)) x=some v) (hlt:Nat.blt d n=true) (hk:a0O tm d=true) (h:Run qq GG (WSeq C P ops rest ⟨n,(d,.v v)::tm,hp,clk⟩ Q)):Run (qq+1) GG (WSeq C P ops (⟨some d,.move x,ty,pos,af,none⟩::rest) ⟨n,tm,hp,clk⟩ Q):=rg (fun h=>⟨stm hx hlt hk h.h⟩) h
theorem za (hx:ovl (a0F (tget tm)) x=some v) (hlt:Nat.blt d n=true) (hk:a0O tm d=true) (h:Run qq GG (WSeq C P ops rest ⟨n,(d,.v v)::tm,hp,clk⟩ Q)):Run (qq+1) GG (WSeq C P ops (⟨some d,.assign x,ty,pos,af,none⟩::rest) ⟨n,tm,hp,clk⟩ Q):=rg (fun h=>⟨sta hx hlt hk h.h⟩) h
theorem cs_ {x y:Code} {s:HSt} (h:Run qq GG (WWp C P x s (Th P C.rd y Q))):Run (qq+1) GG (WWp C P (.seq x y) s Q):=rg (fun h=>⟨fun a w hs=>wpIn_seq (h.h a w hs)⟩) h
theorem ct_ {rd:Option Nat} {y:Code} {s:HSt} (hr:rd=C.rd) (h:Run qq GG (WWp C P y s Q)):Run (qq+1) GG (WQ C (Th P rd y Q) .normal s):=rg (fun h=>⟨by subst hr;exact h.h⟩) h
theorem cn_ {Q:Exit→Act→World→Prop} (hu:d2E tm=true) (h:Run qq GG (WQ C Q .normal ⟨n,tm,hp,clk⟩)):Run (qq+1) GG (WSeq C P ops [] ⟨n,tm,hp,clk⟩ Q):=rg (fun h=>⟨a2H h.h⟩) h
theorem wdc {s:HSt} {t:Nat} {cx cy:Code} {b:Bool} {p q:Prop} (h1:b=true→p→HWp C P cx s Q) (h2:b=false→q→HWp C P cy s Q) (hb:tget s.tm t=some (.v (.imm (.bool b))):=by exact rfl) (hp:(b=true)=p:=by (try simp only [hcs,Int.reduceToNat]);exact rfl) (hq:(b=false)=q:=by (try simp only [hcs,Int.reduceToNat]);exact rfl):HWp C P (.cond (.tmp t) cx cy) s Q :=
 c7I b hb (fun h=>h1 h (hp▸h)) (fun h=>h2 h (hq▸h))
theorem zf {fo k:Nat} (hT:FdI P T k fo) (h1:ovl (a0F (tget tm)) x=some (.pt id gg i off)) (hlt:Nat.blt d n=true) (hk:a0O tm d=true) (h:Run qq GG (WSeq C P ops rest ⟨n,(d,.v (.pt id gg i (off+fo)))::tm,hp,clk⟩ Q)):Run (qq+1) GG (WSeq C P ops (⟨some d,.fieldAddr T x k,ty,pos,af,none⟩::rest) ⟨n,tm,hp,clk⟩ Q):=rg (fun h=>⟨sf hT.h h.h h1 hlt hk⟩) h
theorem zl (hT:TyI P T b s) (h1:ovl (a0F (tget tm)) x=some (.pt id gg i off)) (hid:hget hp id=some ⟨gg,m,sz,oty,fl,f⟩) (hi:i < m) (hoff:off+s≤sz) (hs:(b||Nat.beq s 1)=true) (hlt:Nat.blt d n=true) (hk:a0O tm d=true) (h:Run qq GG (WSeq C P ops rest ⟨n,(d,.v (ldv b s (f i) off))::tm,hp,clk⟩ Q)):Run (qq+1) GG (WSeq C P ops (⟨some d,.load T x,ty,pos,af,none⟩::rest) ⟨n,tm,hp,clk⟩ Q):=rg (fun h=>⟨st1 (a0r hT.h h1 hi hoff (fun e=>by subst e;simpa using hs)) hid hlt hk h.h⟩) h
theorem zw {hv:HV} (hT:TyI P T b s) (h1:ovl (a0F (tget tm)) x=some (.pt id gg 0 0)) (h2:ovl (a0F (tget tm)) y=some hv) (hf:hv.flat=true) (hw:hv.wid=s) (hid:hget hp id=some ⟨gg,1,s,oty,0,f⟩) (hc:clk+1=c') (h:Run qq GG (WSeq C P ops rest ⟨n,tm,(id,⟨gg,1,s,oty,0,fun _ j=>hv.cell j⟩)::hp,c'⟩ Q)):Run (qq+1) GG (WSeq C P ops (⟨none,.store T x y,ty,pos,af,none⟩::rest) ⟨n,tm,hp,clk⟩ Q):=rg (fun h=>⟨d0D (b1o hT.h h1 h2 hf hw) rfl rfl (a0L hid) hc h.h⟩) h
theorem zs {hv:HV} (hT:TyI P T b s) (h1:ovl (a0F (tget tm)) x=some (.pt id gg i off)) (h2:ovl (a0F (tget tm)) y=some hv) (hf:hv.flat=true) (hw:hv.wid=s) (hid:hget hp id=some ⟨gg,m,sz,oty,fl,f⟩) (hi:i < m) (hfl:fl≤i) (hoff:off+s≤sz) (hc:clk+1=c') (h:Run qq GG (WSeq C P ops rest ⟨n,tm,(id,⟨gg,m,sz,oty,fl,upd f i off s (fun j=>hv.cell j)⟩)::hp,c'⟩ Q)):Run (qq+1) GG (WSeq C P ops (⟨none,.store T x y,ty,pos,af,none⟩::rest) ⟨n,tm,hp,clk⟩ Q):=rg (fun h=>⟨d0D (b3s hT.h h1 h2 hf hw hi hfl hoff) rfl rfl (a0L hid) hc h.h⟩) h
theorem zi {e:TypeId} {k:IntKind} {a:Int} (hT:ElI P T e s) (h1:ovl (a0F (tget tm)) x=some (.os id gg lo i)) (h2:ovl (a0F (tget tm)) y=some (.imm (.int k a))) (hid:hget hp id=some ⟨gg,m,s,oty,fl,f⟩) (ha:0≤a) (hi:a < i) (hlt:Nat.blt d n=true) (hk:a0O tm d=true) (h:Run qq GG (WSeq C P ops rest ⟨n,(d,.v (.pt id gg (lo+a.toNat) 0))::tm,hp,clk⟩ Q)):Run (qq+1) GG (WSeq C P ops (⟨some d,.indexAddr T x y,ty,pos,af,none⟩::rest) ⟨n,tm,hp,clk⟩ Q):=rg (fun h=>⟨st1 (a4J hT.h h1 h2 ha hi) hid hlt hk h.h⟩) h
theorem zc {e:TypeId} {z w:Option Operand} {a t:Int} (hT:ElI P T e s) (h1:ovl (a0F (tget tm)) x=some (.os id gg lo i)) (hid:hget hp id=some ⟨gg,m,s,oty,fl,f⟩) (hl:z=none∧a=0∨∃ k q,z=some q∧ovl (a0F (tget tm)) q=some (.imm (.int k a))) (hh:w=none∧t=i∨∃ k q,w=some q∧ovl (a0F (tget tm)) q=some (.imm (.int k t))) (h0:0≤a) (hlh:a≤t) (hn:t≤i) (hlt:Nat.blt d n=true) (hk:a0O tm d=true) (h:Run qq GG (WSeq C P ops rest ⟨n,(d,.v (.os id gg (lo+a.toNat) (t - a).toNat))::tm,hp,clk⟩ Q)):Run (qq+1) GG (WSeq C P ops (⟨some d,.slice T x z w none,ty,pos,af,none⟩::rest) ⟨n,tm,hp,clk⟩ Q):=rg (fun h=>⟨st1 (b1e hT.h h1 hl hh h0 hlh hn) hid hlt hk h.h⟩) h
theorem zA {e:TypeId} {r k t q:Nat} {fn:Nat→Nat→HV} (hT:EiI P T e s r) (h1:ovl (a0F (tget tm)) x=some (.os id gg 0 m)) (h2:ovl (a0F (tget tm)) y=some (.sl s k fn)) (hid:hget hp id=some ⟨gg,t,s,e,fl,f⟩) (hr:r≤1000) (hm:m≤t) (hfl:fl≤m) (hk:m+k≤2000000000) (hq:m+k=q) (hlt:Nat.blt d n=true) (hn:a0O tm d=true) (hc:clk+1=c') (h:Run qq GG (WSeq C P ops rest ⟨n,(d,.v (.os id clk 0 q))::tm,(id,⟨clk,q,s,e,fl,cat m f fn⟩)::hp,c'⟩ Q)):Run (qq+1) GG (WSeq C P ops (⟨some d,.call ⟨.builtin .append,#[x,y],#[T,T]⟩,ty,pos,af,none⟩::rest) ⟨n,tm,hp,clk⟩ Q):=rg (fun h=>⟨a0y d (a0a hT.h hr h1 hm hfl (a0Y h2) hk hq) rfl rfl (a0h hid pre0) hlt hn hc h.h⟩) h
theorem zB {e:TypeId} {r k t q g2 m2 sz2 fl2 id2:Nat} {oty2:TypeId} {fn:Nat→Nat→HV} (hT:EiI P T e s r) (h1:ovl (a0F (tget tm)) x=some (.os id gg 0 m)) (h2:ovl (a0F (tget tm)) y=some (.os id2 g2 0 k)) (hid:hget hp id=some ⟨gg,t,s,e,fl,f⟩) (hid2:hget hp id2=some ⟨g2,m2,s,oty2,fl2,fn⟩) (hr:r≤1000) (hm:m≤t) (hfl:fl≤m) (hm2:k≤m2) (hk:m+k≤2000000000) (hq:m+k=q) (hlt:Nat.blt d n=true) (hn:a0O tm d=true) (hc:clk+1=c') (h:Run qq GG (WSeq C P ops rest ⟨n,(d,.v (.os id clk 0 q))::tm,(id,⟨clk,q,s,e,fl,cat m f fn⟩)::hp,c'⟩ Q)):Run (qq+1) GG (WSeq C P ops (⟨some d,.call ⟨.builtin .append,#[x,y],#[T,T]⟩,ty,pos,af,none⟩::rest) ⟨n,tm,hp,clk⟩ Q):=rg (fun h=>⟨a0y d (a0a hT.h hr h1 hm hfl (a0D h2 hm2) hk hq) rfl rfl (a0h hid (a0L hid2)) hlt hn hc h.h⟩) h
theorem zb {hv:HV} (hT:TyI P T b sz) (h1:ovl (a0F (tget tm)) x=some hv) (hf:hv.flat=true) (hw:hv.wid=sz) (hp0:0 < sz) (hm:sz≤1000000) (hlt:Nat.blt d n=true) (hk:a0O tm d=true) (hc:clk+1=c') (h:Run qq GG (WSeq C P ops rest ⟨n,(d,.v (.pt d clk 0 0))::tm,(d,⟨clk,1,sz,T,0,fun _ j=>hv.cell j⟩)::hp,c'⟩ Q)):Run (qq+1) GG (WSeq C P ops (⟨some d,.box T x,ty,pos,af,none⟩::rest) ⟨n,tm,hp,clk⟩ Q):=rg (fun h=>⟨a0y d (a6O h1 hf hw hp0 hm) rfl rfl pre0 hlt hk hc h.h⟩) h
theorem zo {cs:List Value} (hT:ZcI P T cs) (hY:TyI P T b sz) (hsz:cs.length=sz) (h1:cs.all (·.oneCell')=true) (hp0:0 < sz) (hm:sz≤1000000) (hlt:Nat.blt d n=true) (hk:a0O tm d=true) (hc:clk+1=c') (h:Run qq GG (WSeq C P ops rest ⟨n,(d,.v (.pt d clk 0 0))::tm,(d,⟨clk,1,sz,T,0,fun _ j=>.imm (cs.getD j undef)⟩)::hp,c'⟩ Q)):Run (qq+1) GG (WSeq C P ops (⟨some d,.alloc T,ty,pos,af,none⟩::rest) ⟨n,tm,hp,clk⟩ Q):=rg (fun h=>⟨a0y d (a0V hT.h hsz h1 hp0 hm) rfl rfl pre0 hlt hk hc h.h⟩) h
theorem zv {e:TypeId} {r t:Nat} {ps:List (Nat×Operand)} {hs:List HV} (hT:EiI P T e s r) (hps:a5P (a0F (tget tm)) s 0 ps hs) (hs0:0 < s) (hn:hs.length=t) (hsm:t * s≤16777216) (hlt:Nat.blt d n=true) (hk:a0O tm d=true) (hc:clk+1=c') (h:Run qq GG (WSeq C P ops rest ⟨n,(d,.v (.os d clk 0 t))::tm,(d,⟨clk,t,s,e,0,bsf hs⟩)::hp,c'⟩ Q)):Run (qq+1) GG (WSeq C P ops (⟨some d,.buildSlice T t ps.toArray,ty,pos,af,none⟩::rest) ⟨n,tm,hp,clk⟩ Q):=rg (fun h=>⟨a0y d (a0d hT.h hs0 hn hsm hps) rfl rfl pre0 hlt hk hc h.h⟩) h
theorem z0 (hop:HOp P ⟨some d,op,ty,pos,af,none⟩ (a0F (tget tm)) clk [] v []) (hlt:Nat.blt d n=true) (hk:a0O tm d=true) (h:Run qq GG (WSeq C P ops rest ⟨n,(d,.v v)::tm,hp,clk⟩ Q)):Run (qq+1) GG (WSeq C P ops (⟨some d,op,ty,pos,af,none⟩::rest) ⟨n,tm,hp,clk⟩ Q):=rg (fun h=>⟨st0 hop hlt hk h.h⟩) h
theorem zp {need:List Nat} {z:Operand} (hst:HStep P ops ⟨some d,.pick x y z,ty,pos,af,none⟩ (tget tm) clk ⟨.v v,need,[],[]⟩) (hlt:Nat.blt d n=true) (hk:a0O tm d=true) (h:Run qq GG (WSeq C P ops rest ⟨n,(d,.v v)::tm,hp,clk⟩ Q)):Run (qq+1) GG (WSeq C P ops (⟨some d,.pick x y z,ty,pos,af,none⟩::rest) ⟨n,tm,hp,clk⟩ Q):=rg (fun h=>⟨d4b d hst rfl hlt hk h.h⟩) h
theorem ym (hgi:(ops[gi]?).bind (·.dst)=some j) (hc:tget tm j=some (.v (.imm (.bool c)))) (hx:ovl (a1T (tget tm) j b) x=some v) (hlt:Nat.blt d n=true) (hk:a0O tm d=true) (hjd:Nat.beq j d=false) (h:Run qq GG (WSeq C P ops rest ⟨n,(d,.un j b v)::tm,hp,clk⟩ Q)):Run (qq+1) GG (WSeq C P ops (⟨some d,.move x,ty,pos,af,some (gi,b)⟩::rest) ⟨n,tm,hp,clk⟩ Q):=rg (fun h=>⟨gm j h.h hx hgi hc hlt hk hjd⟩) h
theorem y0 (hgi:(ops[gi]?).bind (·.dst)=some j) (hc:tget tm j=some (.v (.imm (.bool c)))) (hop:c=b→HOp P ⟨some d,op,ty,pos,af,some (gi,b)⟩ (a1T (tget tm) j b) clk [] v []) (hlt:Nat.blt d n=true) (hk:a0O tm d=true) (hjd:Nat.beq j d=false) (h:Run qq GG (WSeq C P ops rest ⟨n,(d,.un j b v)::tm,hp,clk⟩ Q)):Run (qq+1) GG (WSeq C P ops (⟨some d,op,ty,pos,af,some (gi,b)⟩::rest) ⟨n,tm,hp,clk⟩ Q):=rg (fun h=>⟨stg j hop hgi hc hlt hk hjd h.h⟩) h
theorem y3 {j2:Nat} {b2 c2:Bool} (hgi:(ops[gi]?).bind (·.dst)=some j) (hc:tget tm j=some (.un j2 b2 (.imm (.bool c)))) (hc2:tget tm j2=some (.v (.imm (.bool c2)))) (hop:c=b→c2=b2→HOp P ⟨some d,op,ty,pos,af,some (gi,b)⟩ (a1T (tget tm) j b) clk [] v []) (hlt:Nat.blt d n=true) (hk:a0O tm d=true) (hjd:Nat.beq j d=false) (h:Run qq GG (WSeq C P ops rest ⟨n,(d,.un j b v)::tm,hp,clk⟩ Q)):Run (qq+1) GG (WSeq C P ops (⟨some d,op,ty,pos,af,some (gi,b)⟩::rest) ⟨n,tm,hp,clk⟩ Q):=rg (fun h=>⟨a5y d gi j j2 b2 b c c2 hop rfl rfl hgi hc hc2 pre0 hlt hk hjd h.h⟩) h
theorem y2 {j2:Nat} {b2:Bool} (hgi:(ops[gi]?).bind (·.dst)=some j) (hc:tget tm j=some (.un j2 b2 (.imm (.bool c)))) (hop:c=b→HOp P ⟨some d,op,ty,pos,af,some (gi,b)⟩ (a1T (tget tm) j b) clk [] v []) (hlt:Nat.blt d n=true) (hk:a0O tm d=true) (hjd:Nat.beq j d=false) (h:Run qq GG (WSeq C P ops rest ⟨n,(d,.un j b v)::tm,hp,clk⟩ Q)):Run (qq+1) GG (WSeq C P ops (⟨some d,op,ty,pos,af,some (gi,b)⟩::rest) ⟨n,tm,hp,clk⟩ Q):=rg (fun h=>⟨sth j hop hgi hc hlt hk hjd h.h⟩) h
theorem yl {b2:Bool} (hT:TyI P T b s) (hgi:(ops[gi]?).bind (·.dst)=some j) (hc:tget tm j=some (.v (.imm (.bool c)))) (h1:ovl (a1T (tget tm) j b2) x=some (.pt id gg i off)) (hid:hget hp id=some ⟨gg,m,sz,oty,fl,f⟩) (hi:c=b2→i < m) (hoff:off+s≤sz) (hs:(b||Nat.beq s 1)=true) (hlt:Nat.blt d n=true) (hk:a0O tm d=true) (hjd:Nat.beq j d=false) (h:Run qq GG (WSeq C P ops rest ⟨n,(d,.un j b2 (ldv b s (f i) off))::tm,hp,clk⟩ Q)):Run (qq+1) GG (WSeq C P ops (⟨some d,.load T x,ty,pos,af,some (gi,b2)⟩::rest) ⟨n,tm,hp,clk⟩ Q):=rg (fun h=>⟨b4a d gi j b2 c (fun hb=>a0r hT.h h1 (hi hb) hoff (fun e=>by subst e;simpa using hs)) rfl rfl hgi hc (a0L hid) hlt hk hjd h.h⟩) h
theorem yi {e:TypeId} {k:IntKind} {a:Int} (hT:ElI P T e s) (hgi:(ops[gi]?).bind (·.dst)=some j) (hc:tget tm j=some (.v (.imm (.bool c)))) (h1:ovl (a1T (tget tm) j b) x=some (.os id gg lo i)) (h2:ovl (a1T (tget tm) j b) y=some (.imm (.int k a))) (hid:hget hp id=some ⟨gg,m,s,oty,fl,f⟩) (ha:c=b→0≤a∧a < i) (hlt:Nat.blt d n=true) (hk:a0O tm d=true) (hjd:Nat.beq j d=false) (h:Run qq GG (WSeq C P ops rest ⟨n,(d,.un j b (.pt id gg (lo+a.toNat) 0))::tm,hp,clk⟩ Q)):Run (qq+1) GG (WSeq C P ops (⟨some d,.indexAddr T x y,ty,pos,af,some (gi,b)⟩::rest) ⟨n,tm,hp,clk⟩ Q):=rg (fun h=>⟨b4a d gi j b c (fun hb=>a4J hT.h h1 h2 (ha hb).1 (ha hb).2) rfl rfl hgi hc (a0L hid) hlt hk hjd h.h⟩) h
theorem yl3 {j2:Nat} {b2 b3 c2:Bool} (hT:TyI P T b s) (hgi:(ops[gi]?).bind (·.dst)=some j) (hc:tget tm j=some (.un j2 b3 (.imm (.bool c)))) (hc2:tget tm j2=some (.v (.imm (.bool c2)))) (h1:ovl (a1T (tget tm) j b2) x=some (.pt id gg i off)) (hid:hget hp id=some ⟨gg,m,sz,oty,fl,f⟩) (hi:c=b2→c2=b3→i < m) (hoff:off+s≤sz) (hs:(b||Nat.beq s 1)=true) (hlt:Nat.blt d n=true) (hk:a0O tm d=true) (hjd:Nat.beq j d=false) (h:Run qq GG (WSeq C P ops rest ⟨n,(d,.un j b2 (ldv b s (f i) off))::tm,hp,clk⟩ Q)):Run (qq+1) GG (WSeq C P ops (⟨some d,.load T x,ty,pos,af,some (gi,b2)⟩::rest) ⟨n,tm,hp,clk⟩ Q):=rg (fun h=>⟨a5y d gi j j2 b3 b2 c c2 (fun hb hb2=>a0r hT.h h1 (hi hb hb2) hoff (fun e=>by subst e;simpa using hs)) rfl rfl hgi hc hc2 (a0L hid) hlt hk hjd h.h⟩) h
theorem yp {need:List Nat} {z:Operand} (hgi:(ops[gi]?).bind (·.dst)=some j) (hst:HStep P ops ⟨some d,.pick x y z,ty,pos,af,some (gi,b)⟩ (tget tm) clk ⟨.un j b v,need,[],[]⟩) (hlt:Nat.blt d n=true) (hk:a0O tm d=true) (hjd:Nat.beq j d=false) (h:Run qq GG (WSeq C P ops rest ⟨n,(d,.un j b v)::tm,hp,clk⟩ Q)):Run (qq+1) GG (WSeq C P ops (⟨some d,.pick x y z,ty,pos,af,some (gi,b)⟩::rest) ⟨n,tm,hp,clk⟩ Q):=rg (fun h=>⟨d2H d hst rfl hlt hk hjd h.h⟩) h
theorem ch_ {s:HSt} {N:Act→World→Prop} {id:Nat} (h:Run qq GG (WQ C Q (.exit id) s)):Run (qq+1) GG (WQ C (Exit.then N Q) (.exit id) s):=rg (fun h=>⟨h.h⟩) h
theorem cq_ {s:HSt} {N:Act→World→Prop} (h:Run qq GG (WQ C Q .ret s)):Run (qq+1) GG (WQ C (Exit.then N Q) .ret s):=rg (fun h=>⟨h.h⟩) h
theorem cb_ {s:HSt} {id:Nat} (h:Run qq GG (WQ C Q .normal s)):Run (qq+1) GG (WQ C (Exit.inBlock id Q) .normal s):=rg (fun h=>⟨h.h⟩) h
theorem cv_ {s:HSt} {id:Nat} (h:Run qq GG (WQ C Q .ret s)):Run (qq+1) GG (WQ C (Exit.inBlock id Q) .ret s):=rg (fun h=>⟨h.h⟩) h
theorem ci_ {s:HSt} {id:Nat} (h:Run qq GG (WQ C Q .normal s)):Run (qq+1) GG (WQ C (Exit.inBlock id Q) (.exit id) s):=rg (fun h=>⟨b2T h.h⟩) h
theorem co_ {s:HSt} {id id':Nat} (hne:Nat.beq id' id=false) (h:Run qq GG (WQ C Q (.exit id') s)):Run (qq+1) GG (WQ C (Exit.inBlock id Q) (.exit id') s):=rg (fun h=>⟨b5i hne h.h⟩) h
theorem ck_ {s:HSt} (h:Run qq GG (WQ C Q .normal s)):Run (qq+1) GG (WWp C P .skip s Q):=rg (fun h=>⟨c7Y h.h⟩) h
theorem ce_ {s:HSt} {id:Nat} (h:Run qq GG (WQ C Q (.exit id) s)):Run (qq+1) GG (WWp C P (.exit id) s Q):=rg (fun h=>⟨c8E h.h⟩) h
theorem cw_ {s:HSt} (h:Run qq GG (WQ C Q .ret s)):Run (qq+1) GG (WWp C P .ret s Q):=rg (fun h=>⟨c9Y h.h⟩) h
theorem cl_ {s:HSt} {id:Nat} {c:Code} (h:Run qq GG (WWp C P c s (Exit.inBlock id Q))):Run (qq+1) GG (WWp C P (.block id c) s Q):=rg (fun h=>⟨c4D h.h⟩) h
theorem cd_ {l:List Oper} {id:Nat} (h:Run qq GG (WDr P n clk tm hp l [] [] l 0 tm hp (HWp C P (.region id l.toArray true) ⟨n,tm,hp,clk⟩ Q))):Run (qq+1) GG (WWp C P (.region id l.toArray true) ⟨n,tm,hp,clk⟩ Q):=rg (fun h=>⟨c4H h.h⟩) h
theorem e1 {m:Nat} {G:Prop} {l:List Oper} {s:HSt} (h:Run m G (WSeq C P ops l s Q)):Run m G (HSeq C P ops l s Q):=⟨fun x=>(h.h x).h⟩
theorem e2 {m:Nat} {G:Prop} {c:Code} {s:HSt} (h:Run m G (WWp C P c s Q)):Run m G (HWp C P c s Q):=⟨fun x=>(h.h x).h⟩
theorem e3 {m:Nat} {G:Prop} {e:Exit} {s:HSt} (h:Run m G (WQ C Q e s)):Run m G (HQ C Q e s):=⟨fun x=>(h.h x).h⟩
theorem f1 {l:List Oper} {s:HSt}:Run 0 (HSeq C P ops l s Q) (WSeq C P ops l s Q):=⟨fun x=>⟨x⟩⟩
theorem f2 {c:Code} {s:HSt}:Run 0 (HWp C P c s Q) (WWp C P c s Q):=⟨fun x=>⟨x⟩⟩
theorem f3 {e:Exit} {s:HSt}:Run 0 (HQ C Q e s) (WQ C Q e s):=⟨fun x=>⟨x⟩⟩
end
section
variable {qq:Nat} {GG:Prop} {C:Ctx} {P:Program} {Q:Exit→Act→World→Prop} {n clk k k' c':Nat} {tm0 tm:List (Nat×TV)} {hp0 hp:List (Nat×HObj)} {ss:List HSpec} {Fin:Prop} {rest dn L:List Oper} {v:HV} {d gi j:Nat} {op:Op} {ty T:TypeId} {pos:String} {af:Array Edge} {x y:Operand} {b c:Bool} {id gg i off s m sz fl lo:Nat} {oty:TypeId} {f:Nat→Nat→HV}
theorem xm (hx:ovl (a0F (tget tm)) x=some v) (hlt:Nat.blt d n=true) (hk':k+1=k') (h:Run qq GG (WDr P n clk tm0 hp0 L (dn++[⟨some d,.move x,ty,pos,af,none⟩]) (ss++[⟨.v v,a0A ⟨some d,.move x,ty,pos,af,none⟩,[],[]⟩]) rest k' ((d,.v v)::tm) hp Fin)):Run (qq+1) GG (WDr P n clk tm0 hp0 L dn ss (⟨some d,.move x,ty,pos,af,none⟩::rest) k tm hp Fin):=rg (fun h=>⟨dm k' h.h hx hlt hk'⟩) h
theorem xl (hT:TyI P T b s) (h1:ovl (a0F (tget tm)) x=some (.pt id gg i off)) (hid:hget hp id=some ⟨gg,m,sz,oty,fl,f⟩) (hi:i < m) (hoff:off+s≤sz) (hs:(b||Nat.beq s 1)=true) (hlt:Nat.blt d n=true) (hk':k+1=k') (h:Run qq GG (WDr P n clk tm0 hp0 L (dn++[⟨some d,.load T x,ty,pos,af,none⟩]) (ss++[⟨.v (ldv b s (f i) off),a0A ⟨some d,.load T x,ty,pos,af,none⟩,[(id,⟨gg,m,sz,oty,fl,f⟩)],[]⟩]) rest k' ((d,.v (ldv b s (f i) off))::tm) hp Fin)):Run (qq+1) GG (WDr P n clk tm0 hp0 L dn ss (⟨some d,.load T x,ty,pos,af,none⟩::rest) k tm hp Fin):=rg (fun h=>⟨a3d d (a0r hT.h h1 hi hoff (fun e=>by subst e;simpa using hs)) rfl rfl (a0L hid) hlt rfl hk' h.h⟩) h
theorem xi {e:TypeId} {q:IntKind} {a:Int} (hT:ElI P T e s) (h1:ovl (a0F (tget tm)) x=some (.os id gg lo i)) (h2:ovl (a0F (tget tm)) y=some (.imm (.int q a))) (hid:hget hp id=some ⟨gg,m,s,oty,fl,f⟩) (ha:0≤a) (hi:a < i) (hlt:Nat.blt d n=true) (hk':k+1=k') (h:Run qq GG (WDr P n clk tm0 hp0 L (dn++[⟨some d,.indexAddr T x y,ty,pos,af,none⟩]) (ss++[⟨.v (.pt id gg (lo+a.toNat) 0),a0A ⟨some d,.indexAddr T x y,ty,pos,af,none⟩,[(id,⟨gg,m,s,oty,fl,f⟩)],[]⟩]) rest k' ((d,.v (.pt id gg (lo+a.toNat) 0))::tm) hp Fin)):Run (qq+1) GG (WDr P n clk tm0 hp0 L dn ss (⟨some d,.indexAddr T x y,ty,pos,af,none⟩::rest) k tm hp Fin):=rg (fun h=>⟨a3d d (a4J hT.h h1 h2 ha hi) rfl rfl (a0L hid) hlt rfl hk' h.h⟩) h
theorem xw {hv:HV} (hT:TyI P T b s) (h1:ovl (a0F (tget tm)) x=some (.pt id gg 0 0)) (h2:ovl (a0F (tget tm)) y=some hv) (hf:hv.flat=true) (hw:hv.wid=s) (hid:hget hp id=some ⟨gg,1,s,oty,0,f⟩) (hk':k+1=k') (h:Run qq GG (WDr P n clk tm0 hp0 L (dn++[⟨none,.store T x y,ty,pos,af,none⟩]) (ss++[⟨.v (.imm undef),a0A ⟨none,.store T x y,ty,pos,af,none⟩,[(id,⟨gg,1,s,oty,0,f⟩)],[(id,⟨gg,1,s,oty,0,fun _ j=>hv.cell j⟩)]⟩]) rest k' tm ((id,⟨gg,1,s,oty,0,fun _ j=>hv.cell j⟩)::hp) Fin)):Run (qq+1) GG (WDr P n clk tm0 hp0 L dn ss (⟨none,.store T x y,ty,pos,af,none⟩::rest) k tm hp Fin):=rg (fun h=>⟨c8h (b1o hT.h h1 h2 hf hw) rfl rfl (a0L hid) hk' h.h⟩) h
theorem xs {hv:HV} (hT:TyI P T b s) (h1:ovl (a0F (tget tm)) x=some (.pt id gg i off)) (h2:ovl (a0F (tget tm)) y=some hv) (hf:hv.flat=true) (hw:hv.wid=s) (hid:hget hp id=some ⟨gg,m,sz,oty,fl,f⟩) (hi:i < m) (hfl:fl≤i) (hoff:off+s≤sz) (hk':k+1=k') (h:Run qq GG (WDr P n clk tm0 hp0 L (dn++[⟨none,.store T x y,ty,pos,af,none⟩]) (ss++[⟨.v (.imm undef),a0A ⟨none,.store T x y,ty,pos,af,none⟩,[(id,⟨gg,m,sz,oty,fl,f⟩)],[(id,⟨gg,m,sz,oty,fl,upd f i off s (fun j=>hv.cell j)⟩)]⟩]) rest k' tm ((id,⟨gg,m,sz,oty,fl,upd f i off s (fun j=>hv.cell j)⟩)::hp) Fin)):Run (qq+1) GG (WDr P n clk tm0 hp0 L dn ss (⟨none,.store T x y,ty,pos,af,none⟩::rest) k tm hp Fin):=rg (fun h=>⟨c8h (b3s hT.h h1 h2 hf hw hi hfl hoff) rfl rfl (a0L hid) hk' h.h⟩) h
theorem x0 (hop:HOp P ⟨some d,op,ty,pos,af,none⟩ (a0F (tget tm)) (clk+k) [] v []) (hlt:Nat.blt d n=true) (hk':k+1=k') (h:Run qq GG (WDr P n clk tm0 hp0 L (dn++[⟨some d,op,ty,pos,af,none⟩]) (ss++[⟨.v v,a0A ⟨some d,op,ty,pos,af,none⟩,[],[]⟩]) rest k' ((d,.v v)::tm) hp Fin)):Run (qq+1) GG (WDr P n clk tm0 hp0 L dn ss (⟨some d,op,ty,pos,af,none⟩::rest) k tm hp Fin):=rg (fun h=>⟨d0 k' hop h.h hlt hk'⟩) h
theorem xp {need:List Nat} {z:Operand} (hst:HStep P L.toArray ⟨some d,.pick x y z,ty,pos,af,none⟩ (tget tm) (clk+k) ⟨.v v,need,[],[]⟩) (hlt:Nat.blt d n=true) (hk':k+1=k') (h:Run qq GG (WDr P n clk tm0 hp0 L (dn++[⟨some d,.pick x y z,ty,pos,af,none⟩]) (ss++[⟨.v v,need,[],[]⟩]) rest k' ((d,.v v)::tm) hp Fin)):Run (qq+1) GG (WDr P n clk tm0 hp0 L dn ss (⟨some d,.pick x y z,ty,pos,af,none⟩::rest) k tm hp Fin):=rg (fun h=>⟨d3X d hst rfl hlt rfl hk' h.h⟩) h
theorem xg (hgi:(L.toArray[gi]?).bind (·.dst)=some j) (hc:tget tm j=some (.v (.imm (.bool c)))) (hop:c=b→HOp P ⟨some d,op,ty,pos,af,some (gi,b)⟩ (a1T (tget tm) j b) (clk+k) [] v []) (hlt:Nat.blt d n=true) (hk':k+1=k') (h:Run qq GG (WDr P n clk tm0 hp0 L (dn++[⟨some d,op,ty,pos,af,some (gi,b)⟩]) (ss++[⟨.un j b v,j::a0A ⟨some d,op,ty,pos,af,some (gi,b)⟩,[],[]⟩]) rest k' ((d,.un j b v)::tm) hp Fin)):Run (qq+1) GG (WDr P n clk tm0 hp0 L dn ss (⟨some d,op,ty,pos,af,some (gi,b)⟩::rest) k tm hp Fin):=rg (fun h=>⟨a3C d gi j b c hop rfl rfl hgi hc pre0 hlt rfl rfl hk' h.h⟩) h
theorem xn {id:Nat} {l:List Oper} (hu:d2E tm=true) (hm:P.follows .mixedOrders=true) (hc:c8M l ss tm0=true) (hc':clk+k=c') (nd:C.rd=none∨l.all Oper.calm=true) (h:Run qq GG (WQ C Q .normal ⟨n,tm,hp,c'⟩)):Run (qq+1) GG (WDr P n clk tm0 hp0 l dn ss [] k tm hp (HWp C P (.region id l.toArray true) ⟨n,tm0,hp0,clk⟩ Q)):=rg (fun h=>⟨b0U hm hc hc' h.h nd⟩) h
theorem e4 {m:Nat} {G:Prop} (h:Run m G (WDr P n clk tm0 hp0 L dn ss rest k tm hp Fin)):Run m G (HDr P n clk tm0 hp0 L dn ss rest k tm hp Fin):=⟨fun x=>(h.h x).h⟩
theorem f4:Run 0 (HDr P n clk tm0 hp0 L dn ss rest k tm hp Fin) (WDr P n clk tm0 hp0 L dn ss rest k tm hp Fin):=⟨fun x=>⟨x⟩⟩
end
theorem ru (n:Nat) {G' G:Prop} (k:G') (h:Run n G' G:=by ((with_reducible first | apply e1 | apply e2 | apply e3 | apply e4);repeat (first
 | exact f1
 | exact f2
 | exact f3
 | exact f4
 | (apply zm;(iterate 3 exact rfl))
 | (apply za;(iterate 3 exact rfl))
 | apply cs_
 | (apply cr_;(first | exact .inr rfl | exact .inl rfl | exact .inl (by assumption)))
 | (apply cn_;exact rfl)
 | (apply cu_;exact rfl;(simp only [a5H,a8o];exact rfl))
 | (apply ct_;exact rfl)
 | apply ck_
 | apply ce_
 | apply cw_
 | apply cl_
 | apply ch_
 | apply cq_
 | apply cb_
 | apply cv_
 | apply ci_
 | (apply co_;exact rfl)
 | apply cd_
 | (apply zf;infer_instance;(iterate 3 exact rfl))
 | (apply zl;infer_instance;(iterate 2 exact rfl);(iterate 2 exact omg);(iterate 3 exact rfl))
 | (apply zw;infer_instance;(iterate 5 exact rfl);exact ckk)
 | (apply zs;infer_instance;(iterate 5 exact rfl);(iterate 3 exact omg);exact ckk)
 | (apply zi;infer_instance;(iterate 3 exact rfl);(iterate 2 exact omg);(iterate 2 exact rfl))
 | (apply zc;infer_instance;(iterate 2 exact rfl);(iterate 2 exact lhh);(iterate 3 exact omg);(iterate 2 exact rfl))
 | (apply zA;infer_instance;(iterate 3 exact rfl);exact nb rfl;(iterate 3 exact omg);(iterate 3 exact rfl);exact ckk)
 | (apply zB;infer_instance;(iterate 4 exact rfl);exact nb rfl;(iterate 4 exact omg);(iterate 3 exact rfl);exact ckk)
 | (apply zb;infer_instance;(iterate 3 exact rfl);(iterate 2 exact nb rfl);(iterate 2 exact rfl);exact ckk)
 | (apply zo;(iterate 2 infer_instance);(iterate 2 exact rfl);(iterate 2 exact nb rfl);(iterate 2 exact rfl);exact ckk)
 | (apply zv;infer_instance;exact loo;exact nb rfl;exact rfl;exact nb rfl;(iterate 2 exact rfl);exact ckk)
 | (apply zp;(first | exact b3f _ _ rfl rfl rfl | exact b6W _ _ rfl rfl rfl | exact a6n _ _ _ _ rfl rfl rfl (fun _=>.refl _) (fun _=>.refl _) | fail);(iterate 2 exact rfl))
 | (apply z0;exact hpA;(iterate 2 exact rfl))
 | (apply ym;(iterate 6 exact rfl))
 | (apply yl;infer_instance;(iterate 4 exact rfl);(intro hb;exact omg);exact omg;(iterate 4 exact rfl))
 | (apply yl3;infer_instance;(iterate 5 exact rfl);(intro hb hb2;exact omg);exact omg;(iterate 4 exact rfl))
 | (apply yi;infer_instance;(iterate 5 exact rfl);(intro hb;exact ⟨omg,omg⟩);(iterate 3 exact rfl))
 | (apply yp;exact rfl;(first | exact b1k _ _ rfl rfl rfl rfl | exact b4p _ _ rfl rfl rfl rfl | exact a5o _ _ _ _ rfl rfl rfl rfl (fun _=>.refl _) (fun _=>.refl _) | fail);(iterate 3 exact rfl))
 | (apply y0;(iterate 2 exact rfl);(intro hb;exact hpA);(iterate 3 exact rfl))
 | (apply y3;(iterate 3 exact rfl);(intro hb hb2;exact hpA);(iterate 3 exact rfl))
 | (apply y2;(iterate 2 exact rfl);(intro hb;exact hpA);(iterate 3 exact rfl))
 | (apply xm;(iterate 2 exact rfl);exact ckk)
 | (apply xl;infer_instance;(iterate 2 exact rfl);(iterate 2 exact omg);(iterate 2 exact rfl);exact ckk)
 | (apply xi;infer_instance;(iterate 3 exact rfl);(iterate 2 exact omg);exact rfl;exact ckk)
 | (apply xw;infer_instance;(iterate 5 exact rfl);exact ckk)
 | (apply xs;infer_instance;(iterate 5 exact rfl);(iterate 3 exact omg);exact ckk)
 | (apply xp;(first | exact b3f _ _ rfl rfl rfl | exact b6W _ _ rfl rfl rfl | exact a6n _ _ _ _ rfl rfl rfl (fun _=>.refl _) (fun _=>.refl _) | fail);exact rfl;exact ckk)
 | (apply x0;exact hpA;exact rfl;exact ckk)
 | (apply xg;(iterate 2 exact rfl);(intro hb;exact hpA);exact rfl;exact ckk)
 | (apply xn;exact rfl;(iterate 2 kernel_rfl);exact ckk;(first | exact .inr rfl | exact .inl rfl | exact .inl (by assumption)))
 | fail))):G:=h.h k
section
variable {C:Ctx} {P:Program} {ops:Array Oper} {Q:Exit→Act→World→Prop} {n clk:Nat} {tm:List (Nat×TV)} {hp:List (Nat×HObj)} {rest:List Oper} {v v':HV} {d gi j j2:Nat} {ty:TypeId} {pos:String} {af:Array Edge} {b b2 c c2:Bool}
theorem rvl (v':HV) (e:v=v') (h:HSeq C P ops rest ⟨n,(d,.v v')::tm,hp,clk⟩ Q):HSeq C P ops rest ⟨n,(d,.v v)::tm,hp,clk⟩ Q:=by subst e;exact h
theorem ryx (v':HV) {p:Prop} (e:p→v=v') (hp':∀ w E (a:Act),(∀ t x,tget tm t=some x→t≠d→TVRep w E a (a.tmps.getD t undef) x)→a.tmps.getD j undef=.bool b→p) (h:HSeq C P ops rest ⟨n,(d,.un j b v')::tm,hp,clk⟩ Q):HSeq C P ops rest ⟨n,(d,.un j b v)::tm,hp,clk⟩ Q:=fun a w ⟨E,e0,r,hG,hsz,hdf,ht⟩ =>
  h a w ⟨E, e0, r, hG, hsz, hdf, fun t x hx => by
    rw [a0x] at hx
    split at hx
    · rename_i ht'
      injection hx with hx;subst hx;subst ht'
      have h0:=ht t (.un j b v) (by rw [a0x,if_pos rfl])
      refine ⟨fun hj=>?_,h0.2⟩
      have:=e (hp' w E a (fun t' x hx hne=>ht t' x (by rw [a0x,if_neg hne];exact hx)) hj)
      subst this;exact h0.1 hj
    · rename_i hne;exact ht t x (by rw [a0x,if_neg hne];exact hx)⟩
theorem ry (v':HV) (hc:tget tm j=some (.v (.imm (.bool c)))) (e:c=b→v=v') (h:HSeq C P ops rest ⟨n,(d,.un j b v')::tm,hp,clk⟩ Q) (hjd:Nat.beq j d=false:=by exact rfl):HSeq C P ops rest ⟨n,(d,.un j b v)::tm,hp,clk⟩ Q :=
 ryx v' e (fun w E a ht hj=>by
  have:=Rep.imm_inv (ht j _ hc (fun h=>by subst h;simp at hjd));rw [hj] at this;injection this with this;exact this.symm) h
theorem ry3 (v':HV) (hc:tget tm j=some (.un j2 b2 (.imm (.bool c)))) (hc2:tget tm j2=some (.v (.imm (.bool c2)))) (e:c=b→c2=b2→v=v') (h:HSeq C P ops rest ⟨n,(d,.un j b v')::tm,hp,clk⟩ Q) (hjd:Nat.beq j d=false:=by exact rfl) (hjd2:Nat.beq j2 d=false:=by exact rfl):HSeq C P ops rest ⟨n,(d,.un j b v)::tm,hp,clk⟩ Q :=
 ryx (p:=c=b∧c2=b2) v' (fun h=>e h.1 h.2) (fun w E a ht hj=>by
  have h1:=ht j _ hc (fun h=>by subst h;simp at hjd)
  have h2:=Rep.imm_inv (ht j2 _ hc2 (fun h=>by subst h;simp at hjd2))
  have h3:a.tmps.getD j2 undef=.bool b2:=Classical.byContradiction fun h=>by have:=h1.2 h;rw [hj] at this;exact absurd this (by simp [undef])
  have h4:=Rep.imm_inv (h1.1 h3)
  rw [hj] at h4;rw [h3] at h2;injection h4 with h4;injection h2 with h2;exact ⟨h4.symm,h2.symm⟩) h
theorem fz0 {sh:List (Nat×HObj)}:FzAll sh [] []:=trivial
theorem fz1 {sh:List (Nat×HObj)} {x y:HV} {xs ys:List HV} (h:Fz sh x y) (r:FzAll sh xs ys):FzAll sh (x::xs) (y::ys):=⟨h,r⟩
theorem fzz {sh:List (Nat×HObj)} {xs ys:List HV} (h:FzAll sh xs ys:=by repeat (first | exact fz0 | (apply fz1;(first | exact fe | exact fzc | fail)))):FzAll sh xs ys:=h
theorem cll {f:FuncId} {args:List Operand} {at_:Array TypeId} {xs ys:List HV} (hp':HPure P f ys v) (h:HSeq C P ops rest ⟨n,(d,.v v)::tm,hp,clk⟩ Q) (hx:a1L (a0F (tget tm)) args xs:=by exact oaa) (hz:FzAll [] xs ys:=by exact fzz) (hlt:Nat.blt d n=true:=by exact rfl) (hk:a0O tm d=true:=by exact rfl):HSeq C P ops (⟨some d,.call ⟨.value (.func f),args.toArray,at_⟩,ty,pos,af,none⟩::rest) ⟨n,tm,hp,clk⟩ Q:=st0 (a0e hp' hx hz) hlt hk h
theorem clx {k k':Nat} {tm0:List (Nat×TV)} {hp0:List (Nat×HObj)} {ss:List HSpec} {Fin:Prop} {dn L:List Oper} {f:FuncId} {args:List Operand} {at_:Array TypeId} {xs ys:List HV} (hp':HPure P f ys v) (h:HDr P n clk tm0 hp0 L (dn++[⟨some d,.call ⟨.value (.func f),args.toArray,at_⟩,ty,pos,af,none⟩]) (ss++[⟨.v v,a0A ⟨some d,.call ⟨.value (.func f),args.toArray,at_⟩,ty,pos,af,none⟩,[],[]⟩]) rest k' ((d,.v v)::tm) hp Fin) (hx:a1L (a0F (tget tm)) args xs:=by exact oaa) (hz:FzAll [] xs ys:=by exact fzz) (hlt:Nat.blt d n=true:=by exact rfl) (hk':k+1=k':=by exact ckk):HDr P n clk tm0 hp0 L dn ss (⟨some d,.call ⟨.value (.func f),args.toArray,at_⟩,ty,pos,af,none⟩::rest) k tm hp Fin:=d0 k' (a0e hp' hx hz) h hlt hk'
theorem rvc {s:HSt} {t:Nat} {T oty:TypeId} {id gg sz n osz fl:Nat} {b:Bool} {f:Nat→Nat→HV} {x:HV} (h:tget s.tm t=some (.v (.pt id gg 0 0))) (ho:hget s.hp id=some ⟨gg,n,osz,oty,fl,f⟩) (hT:TyI P T b sz) (hs:b=false→sz=1) (hn:Nat.blt 0 n=true) (hz:Nat.ble sz osz=true) (hx:ldv b sz (f 0) 0=x):a6M P s (.cell t T) x:=hx▸a0H h ho hT.h hs hn hz
theorem rvx {s:HSt} {r:ResultVar} {x:HV} (h:a6M P s r x:=by first | exact a0f rfl | (apply rvc;exact rfl;exact rfl;infer_instance;exact rq_;exact rfl;exact rfl;exact rfl) | fail):a6M P s r x:=h
def RV1 (P:Program) (fn:Func) (s:HSt) (x:HV):Prop:=∃ r,fn.results=#[r]∧a6M P s r x
theorem rw1 {fn:Func} {s:HSt} {x:HV} (h:RV1 P fn s x:=by (refine ⟨_,rfl,?_⟩;exact rvx)):RV1 P fn s x:=h
end
section
variable {P:Program} {w:World} {F:Addr→Prop} {fn:Func} {r1 r2 r3:ResultVar} {s:HSt} {x1 x2 x3 y:HV}
theorem rt1 (hz:Fz [] x1 y) (hres:fn.results=#[r1]:=by exact rfl) (h1:a6M P s r1 x1:=by exact rvx):HQ (Ctx.top w F) (bodyPost P fn (a1c w F y)) .ret s:=a5q hres h1 [] rfl pre0 hz
theorem rt2 (hz:Fz [] (t2 x1 x2) y) (hres:fn.results=#[r1,r2]:=by exact rfl) (h1:a6M P s r1 x1:=by exact rvx) (h2:a6M P s r2 x2:=by exact rvx):HQ (Ctx.top w F) (bodyPost P fn (a1c w F y)) .ret s:=a9F hres h1 h2 [] rfl pre0 hz
theorem rt3 (hz:Fz [] (t3 x1 x2 x3) y) (hres:fn.results=#[r1,r2,r3]:=by exact rfl) (h1:a6M P s r1 x1:=by exact rvx) (h2:a6M P s r2 x2:=by exact rvx) (h3:a6M P s r3 x3:=by exact rvx):HQ (Ctx.top w F) (bodyPost P fn (a1c w F y)) .ret s:=b2Y hres h1 h2 h3 [] rfl pre0 hz
variable {α:Type} {I:α→Nat→Prop} {r:α→HV} {kpf:α→List (Nat×HObj)} {X:Clr} {pre:List (Nat×HObj)}
theorem fr1 (ok:X.Ok) (hX:X.pre=pre) (h1:RV1 P fn s x1) (x:α) (hI:I x s.clk) (hz:Kz (kpf x) [] x1 (r x)) (hkp:b6q (kpf x) [] s.hp (kpf x)) (hpk:(pre.all fun p=>(hget (kpf x) p.1).isSome)=true:=by exact rfl) (hks:((kpf x).all fun p=>!(([]:List (Nat×HObj)).map (·.1)).any (Nat.beq p.1))=true:=by exact rfl):HQ X.ctx (bodyPost P fn (a1A X (a4Q I r kpf))) .ret s:=by obtain ⟨_,a,b⟩:=h1;exact a1j ok hX a2j.one a b [] rfl pre0 x hI hpk hks hz hkp
end
set_option maxHeartbeats 1000000
def tbF (R:List (List Int)) (A:List Bool) (i j:Nat):HV:=match Nat.blt j 32 with
 | true=>intV ((R.getD i []).getD j 0)
 | false=>boolV (A.getD i false)
@[reducible] def tabP (R:List (List Int)) (A:List Bool):HV:=.fp 1 (fun _=>.sl 33 R.length (tbF R A))
theorem a2D {R:List (List Int)} {A:List Bool} {i j:Nat} (h:j < 32):tbF R A i j=intV ((R.getD i []).getD j 0):=by
 unfold tbF;rw [show Nat.blt j 32=true from by simpa [Nat.blt_eq] using h]
theorem b5S {R:List (List Int)} {A:List Bool} {i:Nat}:tbF R A i 32=boolV (A.getD i false):=rfl
theorem b4o {sh:List (Nat×HObj)} (R:List (List Int)) (A:List Bool) (i j:Nat):Fz sh (tbF R A i j) (tbF R A i j):=by unfold tbF;split <;> exact .imm _
instance (R:List (List Int)) (A:List Bool) (i j:Nat):Frz (tbF R A i j):=⟨b4o R A i j⟩
@[reducible] def c9R (R:List (List Int)) (at_:Int):Bool:=decide (at_≥0)&&decide (at_ < (R.length:Int))
def nxT (R:List (List Int)) (at_ s:Int):Int:=if (0≤at_∧at_ < R.length)∧0≤s∧s < 32 then (R.getD at_.toNat []).getD s.toNat 0 else -1
theorem a6g (R:List (List Int)) (A:List Bool):HPure Tryz.prog 25 [tabP R A] (intV (R.length:Int)):=by
 refine a0k Tryz.func25 rfl kr _ _ _ rfl 10 rfl rfl (fun w F=>?_)
 refine ru 12 ?_
 refine wdc (fun hr0 hc0=>?_) (fun hr0 hc0=>?_)
 ·skip
  exfalso;simp at hr0
 refine ru 13 ?_
 refine rt1 ?_
 exact Frz.fz
theorem c5I (R:List (List Int)) (A:List Bool) (at_:Int):HPure Tryz.prog 28 [tabP R A,intV at_] (boolV (c9R R at_)):=by
 refine a0k Tryz.func28 rfl kr _ _ _ rfl 20 rfl rfl (fun w F=>?_)
 refine ru 26 ?_
 refine rt1 ?_
 exact .imm _
theorem d1C (R:List (List Int)) (A:List Bool) (at_:Int):HPure Tryz.prog 9 [tabP R A,intV at_] (boolV (c9R R at_&&A.getD at_.toNat false)):=by
 refine a0k Tryz.func9 rfl kr _ _ _ rfl 18 rfl rfl (fun w F=>?_)
 refine ru 9 ?_
 refine cll (c5I R A at_) ?_
 refine ru 9 ?_
 refine ry (boolV (A.getD at_.toNat false)) rfl (fun hb=>rfl) ?_
 refine ru 5 ?_
 refine rt1 ?_
 exact .imm _
theorem c5P (R:List (List Int)) (A:List Bool) (at_ s:Int):HPure Tryz.prog 29 [tabP R A,intV at_,intV s] (t2 (intV (if nxT R at_ s=-1 then 0 else nxT R at_ s)) (boolV (nxT R at_ s != -1))):=by
 refine a0k Tryz.func29 rfl kr _ _ _ rfl 43 rfl rfl (fun w F=>?_)
 refine ru 11 ?_
 refine cll (c5I R A at_) ?_
 refine ru 20 ?_
 refine ry (intV ((R.getD at_.toNat []).getD s.toNat 0)) rfl (fun hb=>(by simp at hb;show tbF R A at_.toNat (0+(s.toNat * 1+0))=_;rw [show 0+(s.toNat * 1+0)=s.toNat by omega];exact a2D om)) ?_
 refine ru 4 ?_
 refine wdc (fun hr0 hc0=>?_) (fun hr0 hc0=>?_)
 ·skip
  have hx:nxT R at_ s=-1:=(by unfold nxT;split;(rename_i hq;obtain ⟨⟨a1,a2⟩,a3,a4⟩:=hq;have h9:=hr0;simp only [c9R,ge_iff_le,decide_eq_true a1,decide_eq_true a2,Bool.and_self,Bool.not_true,Bool.false_or,Bool.or_eq_true,decide_eq_true_eq,beq_iff_eq] at h9;omega);rfl)
  refine ru 8 ?_
  refine rt2 ?_
  rw [hx];exact a5z (.imm _) (.imm _)
 have hin:((0≤at_∧at_ < R.length)∧0≤s∧s < 32)∧(R.getD at_.toNat []).getD s.toNat 0≠-1:=(by have h9:=hr0;simp only [Bool.or_eq_false_iff,Bool.not_eq_false',Bool.and_eq_true,decide_eq_true_eq,decide_eq_false_iff_not,beq_eq_false_iff_ne,ne_eq,ge_iff_le] at h9;obtain ⟨⟨⟨⟨b1,b2⟩,b3⟩,b4⟩,b5⟩:=h9;exact ⟨⟨⟨b1,b2⟩,by omega,by omega⟩,b5⟩);have hx:nxT R at_ s=(R.getD at_.toNat []).getD s.toNat 0:=(by unfold nxT;rw [if_pos hin.1])
 refine ru 14 ?_
 refine rvl (intV ((R.getD at_.toNat []).getD s.toNat 0)) ((by show tbF R A at_.toNat (0+(s.toNat * 1+0))=_;rw [show 0+(s.toNat * 1+0)=s.toNat by omega];exact a2D om)) ?_
 refine ru 5 ?_
 refine rt2 ?_
 rw [hx,if_neg hin.2];exact a5z (.imm _) (Fz.eq (by rw [show ((R.getD at_.toNat []).getD s.toNat 0 != -1)=true from bne_iff_ne.2 hin.2]))
@[reducible] def b5z (g:Nat) (l:List (Value×Value)):HObj:=⟨g,0,2,0,1,fun _ _=>.imm (.tuple (l.map fun p=>Value.tuple #[p.1,p.2]).toArray)⟩
theorem c4c {o:HObj} {ob:Obj} {g:Nat} {l:List (Value×Value)} (h:RawIs o ob) (ho:o=b5z g l):∃ es,ob=.map es es.size∧es.toList.map (fun e=>(e.key,e.val))=l∧∀ (i:Nat) (e:MapEntry),es[i]?=some e→e.born=i:=by
  cases h with
  | iter g' ty' s' p'=>injection ho with _ _ hs;cases hs
  | map g' ty' es c hc hb =>
    subst hc
    injection ho with _ _ _ _ _ hf
    have h0:=congrFun (congrFun hf 0) 0
    injection h0 with h0
    injection h0 with h0
    refine ⟨es,rfl,?_,hb⟩
    have h1:=congrArg Array.toList h0
    simp only [Array.toList_map] at h1
    have h2:(es.toList.map fun e=>(e.key,e.val)).map (fun p=>Value.tuple #[p.1,p.2])=l.map fun p=>Value.tuple #[p.1,p.2]:=by
      rw [List.map_map];exact h1
    refine (List.map_inj_right (fun p q hpq=>?_)).1 h2
    injection hpq with hpq
    have a1:p.1=q.1:=by have:=congrArg (fun a=>a[0]?) hpq;simpa using this
    have a2:p.2=q.2:=by have:=congrArg (fun a=>a[1]?) hpq;simpa using this
    exact Prod.ext a1 a2
theorem b9G (g:Nat) (es:Array MapEntry) (l:List (Value×Value)) (h:es.toList.map (fun e=>(e.key,e.val))=l) (hb:∀ (i:Nat) (e:MapEntry),es[i]?=some e→e.born=i):RawIs (b5z g l) (.map es es.size):=by
 have e:b5z g l=⟨g,0,2,0,1,fun _ _=>.imm (.tuple (es.map fun e=>.tuple #[e.key,e.val]))⟩:=by
  unfold b5z
  congr 1
  funext i j
  congr 2
  subst h
  rw [List.map_map]
  apply Array.ext'
  simp
 rw [e];exact .map g 0 es _ rfl hb
section
variable {K:Nat→Prop} {w0 w w':World} {F0:Addr→Prop} {E E':Env} {h h':Nat→Option HObj}
theorem R.mapAt (r:R K w0 F0 E h w) {id g:Nat} {l:List (Value×Value)} (ho:h id=some (b5z g l)):∃ lc b es,E.L id=some lc∧lc.g=g∧lc.A=some b∧w.heap[b]?=some (.map es es.size)∧es.toList.map (fun e=>(e.key,e.val))=l∧∀ (i:Nat) (e:MapEntry),es[i]?=some e→e.born=i:=by
 obtain ⟨lc,hl,a⟩:=r.obj id _ ho
 rcases a.at_ with ⟨h0,h1,h2,h3⟩ | ⟨b,cs,h1,h2,h3,h4,h5,h6,h8,h9⟩ | ⟨b,ob,h1,h2,h3,h4⟩
 ·exact absurd h3 (by show ¬ (1≤0);omega)
 ·exact absurd h9.2 (by show ¬ (1≤0);omega)
 ·obtain ⟨es,rfl,e,hb⟩:=c4c h3 rfl
  exact ⟨lc,b,es,hl,a.g,h1,h2,e,hb⟩
theorem R.setMap (r:R K w0 F0 E h w) {id g:Nat} {l l':List (Value×Value)} {lc:Loc} {b:Nat} {es es':Array MapEntry} {c:Nat} (ho:h id=some (b5z g l)) (hl:E.L id=some lc) (hb:lc.A=some b) (hw:w.heap[b]?=some (.map es c)) (he:es'.toList.map (fun e=>(e.key,e.val))=l') (hbn:∀ (i:Nat) (e:MapEntry),es'[i]?=some e→e.born=i) :
  Ext w E { w with heap:=w.heap.setIfInBounds b (.map es' es'.size) } E∧R K w0 F0 E (a2I h id (b5z g l')) { w with heap:=w.heap.setIfInBounds b (.map es' es'.size) }:=by
 obtain ⟨l2,hl',a⟩:=r.obj id _ ho
 rw [hl] at hl';injection hl' with hl';subst hl'
 have hlt:=a.lt hb
 refine r.write id _ _ lc b ho hl hb rfl rfl rfl sml (fun k hk=>?_) (fun k hk=>?_) (fun e=>⟨a.g,a.G,a.sz,a.pos,.inr (.inr ⟨b,_,hb,?_,b9G g es' l' he hbn,a.notK hb⟩)⟩)
 ·show (w.heap.setIfInBounds b _)[k]?=_
  rw [Array.getElem?_setIfInBounds_ne (Ne.symm hk)]
 ·have:=(r.frz _ hk).2
  simp [World.cell?,hw] at this
 ·show (w.heap.setIfInBounds b _)[b]?=_
  rw [Array.getElem?_setIfInBounds_self_of_lt hlt]
end
def mfind {α:Type} [DecidableEq α] (a:α):List (α×Value)→Nat→Option (Nat×Value)
 | [],_=>none
 | p::r,i=>if a=p.1 then some (i,p.2) else mfind a r (i+1)
def c9N {α:Type} [DecidableEq α] (l:List (α×Value)) (a:α):Option Value:=(mfind a l 0).map (·.2)
def d0h {α:Type} [DecidableEq α] (l:List (α×Value)) (a:α) (v:Value):List (α×Value):=match mfind a l 0 with | some (i,_)=>l.set i (a,v) | none=>l++[(a,v)]
@[reducible] def encL {α:Type} (enc:α→Value) (l:List (α×Value)):List (Value×Value):=l.map fun p=>(enc p.1,p.2)
structure KeyOk (P:Program) (T:TypeId) (α:Type) [DecidableEq α] (enc:α→Value) (zero:Value):Prop where
 all:∃ kt et,P.underlying T=some (.map kt et)∧(∀ w,(zeroValue et).run P w=.ok zero w)∧(∀ b a w,(Instr.checkKey b 10000 kt (enc a)).run P w=.ok () w) ∧
  (∀ a (es:List MapEntry) (l:List (α×Value)),es.map (fun e=>(e.key,e.val))=encL enc l→∀ w,(Instr.findKey kt (enc a) es).run P w=.ok (mfind a l 0) w)
 stay:∀ a,Instr.sameBits 10000 (enc a) (enc a)=true
theorem b4w {α:Type} [DecidableEq α] {a:α}:∀ {l:List (α×Value)} {i n:Nat} {v:Value},mfind a l i=some (n,v)→∃ k,n=i+k∧l[k]?=some (a,v)
  | [],i,n,v,h=>by cases h
  | p :: r, i, n, v, h => by
    unfold mfind at h
    split at h
    · rename_i e;injection h with h;injection h with h1 h2
      exact ⟨0,by omega,by rw [e,←h2];rfl⟩
    · obtain ⟨k,h1,h2⟩:=b4w h
      exact ⟨k+1,by omega,by simpa using h2⟩
section
variable {P:Program} {ov:Nat→Option HV} {g:Nat} {d:Option Tmp} {ty:TypeId} {pos:String} {af:Array Edge} {gd:Option (Nat×Bool)} {T yT:TypeId} {x y z:Operand}
theorem b5n {id:Nat}:HOp P ⟨d,.makeMap T none,ty,pos,af,gd⟩ ov g [] (.mp id g) [(id,b5z g [])]:=by
 refine ⟨?_⟩;intro K w0 F0 E hh a w Q N r ht hG hBd hpre hN
 have hnew:=r.newRaw id (b5z g []) (.map #[] 0) (b9G g #[] [] rfl (fun i e h=>by simp at h)) hG (by show 0 < 2;omega)
 refine a4q (v:=.map (some w.heap.size)) (w':=w.alloc (.map #[] 0)) ?_ (hN _ _ _ hnew.1 hnew.2 (fun g' hg'=>hg'.imp (fun h=>h) fun h=>⟨by simp,h⟩) ?_)
 ·simp only [execOp,Instr.makeMap,Option.map_none,Sem.run_bind,Sem.run_pure,Result.andThen_ok];rfl
 ·refine .mp w.heap.size id g (.inr rfl) (fun l hl _=>?_)
  rw [Env.new_L] at hl;injection hl with hl;subst hl
  rfl
section
variable {α:Type} [DecidableEq α] {enc:α→Value} {zero:Value}
def lkV (ok:Bool) (r:Option Value) (zero:Value):HV:=match ok with | true=>t2 (.imm (r.getD zero)) (.imm (.bool r.isSome)) | false=>.imm (r.getD zero)
def lkW (ok:Bool) (r:Option Value) (zero:Value):Value:=match ok with | true=>.tuple #[r.getD zero,.bool r.isSome] | false=>r.getD zero
theorem d0j {w:World} {E:Env} (ok:Bool) (r:Option Value) (zero:Value):Rep w E (lkW ok r zero) (lkV ok r zero):=by
 cases ok with
 | true=>exact .tup _ 2 _ (fun i=>match i with | 0=>r.getD zero | _=>.bool r.isSome) rfl (fun i hi=>by match i,hi with | 0,_=>rfl | 1,_=>rfl) (fun i hi=>by match i,hi with | 0,_=>exact .imm _ | 1,_=>exact .imm _)
 | false=>exact .imm _
theorem b9n (hK:KeyOk P T α enc zero) (w:World) (b:Nat) (es:Array MapEntry) (c:Nat) (hb:w.heap[b]?=some (.map es c)) (l:List (α×Value)) (he:es.toList.map (fun e=>(e.key,e.val))=encL enc l) (a:α) (ok:Bool) :
  (Instr.lookup T (.map (some b)) (enc a) ok).run P w=.ok (lkW ok (c9N l a) zero) w:=by
 obtain ⟨kt,et,h1,h2,h3,h4⟩:=hK.all
 unfold Instr.lookup
 have hg:(getObj b).run P w=.ok (.map es c) w:=by simp [getObj,Sem.run,hb]
 simp only [Sem.run_bind,run_underlying h1,Result.andThen_ok,hg,Sem.run_pure,h3,h4 a es.toList l he]
 unfold c9N lkW
 cases mfind a l 0 with
 | none=>simp only [Sem.run_bind,h2,Result.andThen_ok,Sem.run_pure,Option.map_none,Option.getD_none,Option.isSome_none];cases ok <;> rfl
 | some p=>obtain ⟨i,v⟩:=p;simp only [Sem.run_pure,Result.andThen_ok,Option.map_some,Option.getD_some,Option.isSome_some];cases ok <;> rfl
def c3k (hv:HV) (v:Value):Prop:=∀ (w:World) (E:Env) (u:Value),Rep w E u hv→u=v
theorem c3k.imm (v:Value):c3k (.imm v) v:=fun _ _ _ h=>h.imm_inv
theorem b8M (hK:KeyOk P T α enc zero) {id gg:Nat} {l:List (α×Value)} {a:α} {ok:Bool} {hk:HV} (h1:ovl ov x=some (.mp id gg)) (h2:ovl ov y=some hk) (h3:c3k hk (enc a)) :
    HOp P ⟨d,.lookup T x y ok,ty,pos,af,gd⟩ ov g [(id,b5z gg (encL enc l))] (lkV ok (c9N l a) zero) []:=by
  refine ⟨?_⟩;intro K w0 F0 E hh ac w Q N r ht hG hBd hpre hN
  have ho:=hpre _ (List.mem_cons_self ..)
  obtain ⟨lc,b,es,hl,hlg,hlA,hwb,he,hbn⟩:=r.mapAt ho
  have hX:=ht x _ smo h1
  have e2:=h3 _ _ _ (ht y _ smo h2)
  generalize hρ:ac.eval x=u at hX
  cases hX with
  | mp b' _ _ hgg hh' =>
    have h4:=hh' lc hl hlg
    rw [hlA] at h4;injection h4 with h4;subst h4
    refine a4q (v:=lkW ok (c9N l a) zero) ?_ (hN _ _ _ (Ext.refl _ _) r (fun g' hg'=>.inl hg') (d0j ok _ zero))
    simp only [execOp,hρ,e2,Sem.run_bind,b9n hK w b es es.size hwb l he a ok,Result.andThen_ok,Sem.run_pure]
theorem c2K {es:Array MapEntry} (h:∀ (i:Nat) (e:MapEntry),es[i]?=some e→e.born=i) (k v:Value):∀ (i:Nat) (e:MapEntry),(es.push ⟨k,v,es.size⟩)[i]?=some e→e.born=i:=fun i e he=>by
 rw [Array.getElem?_push] at he
 split at he
 ·rename_i e1;injection he with he;subst he;exact e1.symm
 ·exact h i e he
theorem b5f {es:Array MapEntry} (h:∀ (i:Nat) (e:MapEntry),es[i]?=some e→e.born=i) (k:Nat) (f:MapEntry→MapEntry) (hf:∀ e,(f e).born=e.born):∀ (i:Nat) (e:MapEntry),(es.modify k f)[i]?=some e→e.born=i:=fun i e he=>by
  rw [Array.getElem?_modify] at he
  split at he
  · cases hq : es[i]? with
    | none=>rw [hq] at he;cases he
    | some e0=>rw [hq] at he;injection he with he;subst he;rw [hf];exact h i e0 hq
  · exact h i e he
theorem b2D (hK:KeyOk P T α enc zero) (w:World) (b:Nat) (es:Array MapEntry) (hb:w.heap[b]?=some (.map es es.size)) (hbn:∀ (i:Nat) (e:MapEntry),es[i]?=some e→e.born=i) (l:List (α×Value)) (he:es.toList.map (fun e=>(e.key,e.val))=encL enc l) (a:α) (v:Value) :
    ∃ es',(Instr.mapUpdate T (.map (some b)) (enc a) v).run P w=.ok () { w with heap:=w.heap.setIfInBounds b (.map es' es'.size) }∧es'.toList.map (fun e=>(e.key,e.val))=encL enc (d0h l a v)∧∀ (i:Nat) (e:MapEntry),es'[i]?=some e→e.born=i:=by
  obtain ⟨kt,et,h1,h2,h3,h4⟩:=hK.all
  have hg:(getObj b).run P w=.ok (.map es es.size) w:=by simp [getObj,Sem.run,hb]
  have hs:∀ o,(setObj b o).run P w=.ok () { w with heap:=w.heap.setIfInBounds b o }:=fun o=>by simp [setObj,Sem.run,hb]
  unfold d0h
  cases hm:mfind a l 0 with
  | none =>
    refine ⟨es.push { key:=enc a,val:=v,born:=es.size },?_,?_,c2K hbn _ _⟩
    · unfold Instr.mapUpdate
      simp only [Sem.run_bind,run_underlying h1,Result.andThen_ok,hg,h3,h4 a es.toList l he,hm,hs,Array.size_push]
    · simp [he,encL]
  | some p =>
    obtain ⟨i,u⟩:=p
    obtain ⟨k,rfl,hk⟩:=b4w hm
    rw [Nat.zero_add] at *
    have hkey:∃ e,es[k]?=some e∧e.key=enc a:=by
      have:=congrArg (fun q=>q[k]?) he
      simp only [encL,List.getElem?_map,hk,Option.map_some] at this
      cases hq:es[k]? with
      | none=>rw [←Array.getElem?_toList] at hq;rw [hq] at this;cases this
      | some e=>rw [←Array.getElem?_toList] at hq;rw [hq] at this;injection this with this;injection this with t1 t2;exact ⟨e,rfl,t1⟩
    obtain ⟨e,hek,hea⟩:=hkey
    have hst:(Instr.keyThatStays (((es[k]?).map (·.key)).getD (enc a)) (enc a)).run P w=.ok (enc a) w:=by
      unfold Instr.keyThatStays
      rw [hek]
      simp [hea,hK.stay a]
    refine ⟨es.modify k fun e=>{ e with key:=enc a,val:=v },?_,?_,b5f hbn k _ (fun _=>rfl)⟩
    · unfold Instr.mapUpdate
      simp only [Sem.run_bind,run_underlying h1,Result.andThen_ok,hg,h3,h4 a es.toList l he,hm,hst,hs,Array.size_modify]
    · rw [Array.toList_modify]
      apply List.ext_getElem?
      intro j
      have hj:=congrArg (fun q=>q[j]?) he
      simp only [encL,List.getElem?_map] at hj
      simp only [encL,List.getElem?_map,List.getElem?_modify,List.getElem?_set]
      have hkl:k < l.length:=by
        rcases Nat.lt_or_ge k l.length with h | h
        · exact h
        · rw [List.getElem?_eq_none h] at hk;cases hk
      by_cases e:k=j
      · subst e
        rw [if_pos rfl,if_pos hkl]
        rw [←Array.getElem?_toList] at hek
        rw [hek];simp
      · rw [if_neg e,←hj]
        simp [e]
theorem b1U (hK:KeyOk P T α enc zero) {id gg:Nat} {l:List (α×Value)} {a:α} {v:Value} {hk:HV} (h1:ovl ov x=some (.mp id gg)) (h2:ovl ov y=some hk) (h3:c3k hk (enc a)) (h4:ovl ov z=some (.imm v)) :
    HOp P ⟨d,.mapUpdate T x y z,ty,pos,af,gd⟩ ov g [(id,b5z gg (encL enc l))] (.imm undef) [(id,b5z gg (encL enc (d0h l a v)))]:=by
  refine ⟨?_⟩;intro K w0 F0 E hh ac w Q N r ht hG hBd hpre hN
  have ho:=hpre _ (List.mem_cons_self ..)
  obtain ⟨lc,b,es,hl,hlg,hlA,hwb,he,hbn⟩:=r.mapAt ho
  have hX:=ht x _ smo h1
  have e2:=h3 _ _ _ (ht y _ smo h2)
  have e3:=Rep.imm_inv (ht z _ smo h4)
  generalize hρ:ac.eval x=u at hX
  cases hX with
  | mp b' _ _ hgg hh' =>
    have h4:=hh' lc hl hlg
    rw [hlA] at h4;injection h4 with h4;subst h4
    obtain ⟨es',hrun,he',hbn'⟩:=b2D hK w b es hwb hbn l he a v
    have a2I:=r.setMap ho hl hlA hwb he' hbn'
    refine c6r (w':={ w with heap:=w.heap.setIfInBounds b (.map es' es'.size) }) ?_ (hN _ _ _ a2I.1 a2I.2 (fun g' hg'=>.inl hg') (.imm _))
    simp only [execOp,hρ,e2,e3,Sem.run_bind,hrun,Result.andThen_ok,Sem.run_pure]
end
end
section
variable {P:Program} {α:Type} [DecidableEq α] {enc:α→Value}
theorem a6F {kt:TypeId} (heq:∀ a b w,(Op.equal kt (enc a) (enc b)).run P w=.ok (decide (a=b)) w) (a:α) (w:World) :
    ∀ (es:List MapEntry) (l:List (α×Value)) (i:Nat),es.map (fun e=>(e.key,e.val))=encL enc l→(Instr.findAsking kt (enc a) es i).run P w=.ok (mfind a l i) w
  | [],[],i,_=>rfl
  | [],p::l,i,h=>by simp [encL] at h
  | e::es,[],i,h=>by simp [encL] at h
  | e :: es, p :: l, i, h => by
    simp only [encL,List.map_cons,List.cons.injEq,Prod.mk.injEq] at h
    obtain ⟨⟨h1,h2⟩,h3⟩:=h
    unfold Instr.findAsking
    rw [Sem.run_bind,h1,heq]
    simp only [Result.andThen_ok]
    by_cases ha:a=p.1
    · rw [decide_eq_true ha,mfind,if_pos ha,h2];rfl
    · rw [decide_eq_false ha,mfind,if_neg ha];exact a6F heq a w es l (i+1) h3
theorem b3e {T kt et:TypeId} {zero:Value} {fs:Array Field} (h1:P.underlying T=some (.map kt et)) (h2:P.underlying kt=some (.struct fs)) (h3:∀ w,(zeroValue et).run P w=.ok zero w)
    (hck:∀ b a w,(Instr.checkKey b 10000 kt (enc a)).run P w=.ok () w) (heq:∀ a b w,(Op.equal kt (enc a) (enc b)).run P w=.ok (decide (a=b)) w) (hst:∀ a,Instr.sameBits 10000 (enc a) (enc a)=true):KeyOk P T α enc zero where
  all:=⟨kt,et,h1,h3,hck,fun a es l h w=>by
    unfold Instr.findKey
    rw [Sem.run_bind,run_underlying h2]
    simp only [Result.andThen_ok]
    cases es with
    | nil => cases l with
      | nil=>rfl
      | cons p l=>simp [encL] at h
    | cons e es =>
      have hn:Instr.findNow (.struct fs) (enc a) (e::es) 0=none:=by
        unfold Instr.findNow Instr.sameNow
        cases enc a <;> cases e.key <;> rfl
      rw [hn]
      exact a6F heq a w (e::es) l 0 h⟩
  stay:=hst
end
end
section
section
variable {α:Type} [DecidableEq α]
def ixA (b:α):List α→Nat→Option Nat
 | [],_=>none
 | x::r,i=>if x=b then some i else ixA b r (i+1)
def idA (S:List α) (b:α):Option Nat:=ixA b (S.drop 1) 1
theorem b6M {b:α}:∀ {S:List α} {i n:Nat},ixA b S i=some n→∃ k,n=i+k∧S[k]?=some b
  | [],i,n,h=>by cases h
  | x :: r, i, n, h => by
    unfold ixA at h
    split at h
    · rename_i e;injection h with h;exact ⟨0,by omega,by rw [e];rfl⟩
    · obtain ⟨k,h1,h2⟩:=b6M h
      exact ⟨k+1,by omega,by simpa using h2⟩
theorem b7r {b:α}:∀ {S:List α} {i:Nat},ixA b S i=none↔b∉S
  | [],i=>by simp [ixA]
  | x :: r, i => by
    unfold ixA
    by_cases e:x=b
    · rw [if_pos e];simp [e]
    · rw [if_neg e,b7r,List.mem_cons,not_or];exact ⟨fun h=>⟨fun h'=>e h'.symm,h⟩,fun h=>h.2⟩
theorem d1K {S:List α} {b:α} {n:Nat} (h:idA S b=some n):1≤n∧n < S.length∧S[n]?=some b:=by
 obtain ⟨k,h1,h2⟩:=b6M h
 rw [List.getElem?_drop] at h2
 subst h1
 have:1+k < S.length:=by
  rcases Nat.lt_or_ge (1+k) S.length with g | g
  ·exact g
  ·rw [List.getElem?_eq_none g] at h2;cases h2
 exact ⟨by omega,this,h2⟩
def a4B (z:α) (S:List α) (b:α):List α×Int:=if b=z then (S,-1) else match idA S b with
 | some n=>(S,(n:Int))
 | none=>(S++[b],(S.length:Int))
def a1B (z:α) (g:Nat→α) (S:List α):Nat→List α×List Int
 | 0=>(S,[])
 | k+1=>((a4B z (a1B z g S k).1 (g k)).1,(a1B z g S k).2++[(a4B z (a1B z g S k).1 (g k)).2])
theorem b2A (z:α) (S:List α) (b:α):S.length≤(a4B z S b).1.length∧(a4B z S b).1.length≤S.length+1:=by
 unfold a4B
 split
 ·exact ⟨Nat.le_refl _,Nat.le_succ _⟩
 ·split
  ·exact ⟨Nat.le_refl _,Nat.le_succ _⟩
  ·simp
theorem a4m (z:α) (g:Nat→α) (S:List α):∀ k,S.length≤(a1B z g S k).1.length∧(a1B z g S k).1.length≤S.length+k∧(a1B z g S k).2.length=k
  | 0=>⟨Nat.le_refl _,Nat.le_refl _,rfl⟩
  | k + 1 => by
    have ih:=a4m z g S k
    have hp:=b2A z (a1B z g S k).1 (g k)
    unfold a1B
    simp only [List.length_append,List.length_cons,List.length_nil]
    omega
theorem c7Z (z:α) (S:List α) (hS:0 < S.length) (b:α):-1≤(a4B z S b).2∧(a4B z S b).2 < (a4B z S b).1.length∧(a4B z S b).2≠0:=by
 unfold a4B
 split
 ·exact ⟨Int.le_refl _,by show (-1:Int) < (S.length:Int);omega,by show (-1:Int)≠0;decide⟩
 ·split
  ·rename_i n hn
   have:=d1K hn
   exact ⟨by show (-1:Int)≤(n:Int);omega,by show (n:Int) < (S.length:Int);omega,by show (n:Int)≠0;omega⟩
  ·refine ⟨by show (-1:Int)≤(S.length:Int);omega,?_,by show (S.length:Int)≠0;omega⟩
   show (S.length:Int) < ((S++[b]).length:Int)
   rw [List.length_append];show (S.length:Int) < ((S.length+1:Nat):Int);omega
theorem c2l (z:α) (g:Nat→α) (S:List α) (hS:0 < S.length):∀ k,∀ x∈(a1B z g S k).2,-1≤x∧x < (a1B z g S k).1.length∧x≠0
  | 0=>fun x h=>by cases h
  | k + 1 => fun x h => by
    have hl:=a4m z g S k
    have hp:=b2A z (a1B z g S k).1 (g k)
    have ht:=c7Z z (a1B z g S k).1 (by omega) (g k)
    unfold a1B at h ⊢
    rcases List.mem_append.1 h with h | h
    · have:=c2l z g S hS k x h
      exact ⟨this.1,by show x < ((a4B z (a1B z g S k).1 (g k)).1.length:Int);omega,this.2.2⟩
    · simp only [List.mem_cons,List.not_mem_nil,or_false] at h
      subst h
      exact ht
def c5V (z:α) (g:List α→Nat→Nat→α):Nat→Nat→List α→List (List Int)→Option (List α×List (List Int))
 | 0,at_,S,R=>some (S,R)
 | n+1,at_,S,R=>if at_ < S.length then (if 200 < (a1B z (g S at_) S 32).1.length then none else c5V z g n (at_+1) (a1B z (g S at_) S 32).1 (R++[(a1B z (g S at_) S 32).2])) else some (S,R)
def goA (z:α) (g:List α→Nat→Nat→α) (at_:Nat) (S:List α) (R:List (List Int)):Option (List α×List (List Int)):=c5V z g (200 - at_) at_ S R
theorem c0c {z:α} {g:List α→Nat→Nat→α} {at_:Nat} {S:List α} {R:List (List Int)} (h:S.length≤at_):goA z g at_ S R=some (S,R):=by
 unfold goA
 cases 200 - at_ with
 | zero=>rfl
 | succ n=>unfold c5V;rw [if_neg (by omega)]
theorem c7U {z:α} {g:List α→Nat→Nat→α} {at_:Nat} {S:List α} {R:List (List Int)} (h:at_ < S.length) (hS:S.length≤200) (h3:200 < (a1B z (g S at_) S 32).1.length):goA z g at_ S R=none:=by
 unfold goA
 rw [show 200 - at_=(200 - (at_+1))+1 by omega,c5V,if_pos h,if_pos h3]
theorem c9W {z:α} {g:List α→Nat→Nat→α} {at_:Nat} {S:List α} {R:List (List Int)} (h:at_ < S.length) (hS:S.length≤200) (h3:¬ 200 < (a1B z (g S at_) S 32).1.length):goA z g at_ S R=goA z g (at_+1) (a1B z (g S at_) S 32).1 (R++[(a1B z (g S at_) S 32).2]):=by
 unfold goA
 rw [show 200 - at_=(200 - (at_+1))+1 by omega,c5V,if_pos h,if_neg h3]
end
end
section
open Go.RowKit
theorem b8C {α:Type} {w:World} {E:Env} {v:Value} (sz:Nat) (enc:α→List Value) (henc:∀ x,(enc x).length=sz) (encF:α→Nat→HV) (hF:∀ x j,j < sz→encF x j=.imm ((enc x).getD j undef)) (d:α) (l:List α)
    (h:Rep w E v (.sl sz l.length (fun i=>encF (l.getD i d)))):∃ A c,v=.slice A l.length c∧l.length≤c∧c≤maxLen∧Sl w w.heap.size sz enc A l:=by
  cases h with
  | sl A _ c _ _ vs hc hm hA h =>
    refine ⟨A,c,rfl,hc,hm,henc,a4c henc l,fun hn=>?_⟩
    obtain ⟨b,o,rfl,hlt,hcell⟩:=hA hn
    refine ⟨_,rfl,hlt,fun p u hu=>?_⟩
    have hp:p < l.length * sz:=by
      rcases Nat.lt_or_ge p (l.flatMap enc).length with h1 | h1
      · rwa [a4c henc] at h1
      · rw [List.getElem?_eq_none h1] at hu;cases hu
    have hs:0 < sz:=Nat.pos_of_ne_zero (fun h0=>by subst h0;simp at hp)
    have hi:p / sz < l.length:=(Nat.div_lt_iff_lt_mul hs).2 hp
    have hj:p % sz < sz:=Nat.mod_lt _ hs
    have e1:p=p / sz * sz+p % sz:=by rw [Nat.mul_comm];exact (Nat.div_add_mod p sz).symm
    rw [a3v,e1,(hcell _ _ hi hj).2.1]
    rw [e1,a1P henc l _ _ hi hj] at hu
    have hr:Rep w E (vs (p / sz) (p % sz)) (encF (l.getD (p / sz) d) (p % sz)):=h _ _ hi hj
    rw [hF _ _ hj] at hr
    have hv:=hr.imm_inv
    rw [hv]
    have hg:l.getD (p / sz) d=l[p / sz]:=by simp [List.getD,List.getElem?_eq_getElem hi]
    rw [hg]
    have:(enc l[p / sz]).getD (p % sz) undef=u:=by simp [List.getD,hu]
    rw [this]
theorem a7d {w w':World} {F:Addr→Prop} {u:Value} (hF:∀ a,F a→a.spot=none∧(w.cell? a).isSome=true) (hb:Below w.heap.size w w'):a1c w F (.imm u) (.returned u) w' :=
 ⟨hb,u,F,rfl,fun _ h=>h,fun _ h=>.inl h,fun a ha=>⟨(hF a ha).1,by rw [World.cell?_of_block (hb.block _ (a1m (hF a ha).2))];exact (hF a ha).2⟩,.imm u⟩
theorem b5Z {w:World} {n:Nat}:Below w.heap.size w (w.drewN n):=a9X (Below.refl _ _) n
theorem b8r {α:Type} {w w':World} {F:Addr→Prop} (hF:∀ a,F a→a.spot=none∧(w.cell? a).isSome=true) {e:TypeId} {sz:Nat} {enc:α→List Value} (encF:α→Nat→HV) (hFe:∀ x j,j < sz→encF x j=.imm ((enc x).getD j undef)) (h1:∀ x,∀ u∈enc x,u.oneCell'=true) (d:α) {l:List α} {en:Ending}
  (h:a3V e sz enc w l en w'):a1c w F (.sl sz l.length (fun i=>encF (l.getD i d))) en w':=by
 obtain ⟨A,c,rfl,hown,hb⟩:=h
 have henc:=hown.1
 have hFk:∀ a,F a→(w'.cell? a)=w.cell? a:=fun a ha=>World.cell?_of_block (hb.block _ (a1m (hF a ha).2))
 rcases hown.2.2 with ⟨hv,hn⟩ | ⟨b,cap,cur,hv,hbase,hblk,hn,hcap,hsz,htake⟩
 ·injection hv with hA _ hc
  subst hA;subst hc
  have hl:l=[]:=List.eq_nil_of_length_eq_zero hn
  subst hl
  refine ⟨hb,_,F,rfl,fun _ h=>h,fun _ h=>.inl h,fun a ha=>⟨(hF a ha).1,by rw [hFk a ha];exact (hF a ha).2⟩,?_⟩
  exact .sl _ 0 0 sz _ (fun _ _=>undef) lrf (Nat.zero_le _) (fun h=>absurd h (Nat.lt_irrefl _)) (fun i j hi=>absurd hi (Nat.not_lt_zero _))
 ·injection hv with hA _ hc
  subst hA;subst hc
  have hB:Blk w' b e cur:=hblk
  have hcell:∀ i j,i < l.length→j < sz→w'.cell? ⟨b,i * sz+j,none⟩=some ((enc (l.getD i d)).getD j undef):=by
   intro i j hi hj
   have hlt:=a7n (sz:=sz) hi hj
   have hg:l.getD i d=l[i]:=by simp [List.getD,List.getElem?_eq_getElem hi]
   have hj':j < (enc l[i]).length:=by rw [henc];exact hj
   have hg2:(enc l[i]).getD j undef=(enc l[i])[j]:=by simp [List.getD,List.getElem?_eq_getElem hj']
   rw [hB.cell,hg,hg2,←Array.getElem?_toList]
   have:=a1P henc l i j hi hj
   rw [←htake,List.getElem?_take,if_pos hlt] at this
   rw [this,List.getElem?_eq_getElem hj']
  refine ⟨hb,_,fun a=>F a∨(a.block=b∧a.spot=none∧a.off < l.length * sz),rfl,fun _ h=>.inl h,fun a ha=>?_,fun a ha=>?_,?_⟩
  ·rcases ha with ha | ⟨ha,_⟩
   ·exact .inl ha
   ·exact .inr (by rw [ha];exact hbase)
  ·rcases ha with ha | ⟨ha,hs,ho⟩
   ·exact ⟨(hF a ha).1,by rw [hFk a ha];exact (hF a ha).2⟩
   ·obtain ⟨ab,ao,asp⟩:=a
    simp only at ha hs ho
    subst ha;subst hs
    refine ⟨rfl,?_⟩
    have:ao < cur.size:=by rw [hsz];exact Nat.lt_of_lt_of_le ho (Nat.mul_le_mul_right _ hn)
    rw [hB.cell,Array.getElem?_eq_getElem this];rfl
  ·refine .sl _ _ _ sz _ (fun i j=>(enc (l.getD i d)).getD j undef) hn hcap (fun hp=>⟨b,0,rfl,hB.lt,fun i j hi hj=>?_⟩) (fun i j hi hj=>by show Rep _ _ _ (encF _ _);rw [hFe _ _ hj];exact .imm _)
   rw [Nat.zero_add]
   refine ⟨.inr ⟨rfl,rfl,a7n hi hj⟩,hcell i j hi hj,?_⟩
   have hj':j < (enc (l.getD i d)).length:=by rw [henc];exact hj
   have hg2:(enc (l.getD i d)).getD j undef=(enc (l.getD i d))[j]:=by rw [List.getD_eq_getElem?_getD,List.getElem?_eq_getElem hj'];rfl
   rw [hg2]
   exact h1 _ _ (List.getElem_mem hj')
theorem d0G {w:World} {E:Env} {vs:List Value} {x:HV} (h:RepAll w E vs [x]):∃ v,vs=[v]∧Rep w E v x:=by
 match vs,h with
 | [v],h=>exact ⟨v,rfl,h.1⟩
theorem c9f {w:World} {E:Env} {vs:List Value} {x y:HV} (h:RepAll w E vs [x,y]):∃ u v,vs=[u,v]∧Rep w E u x∧Rep w E v y:=by
 match vs,h with
 | [u,v],h=>exact ⟨u,v,rfl,h.1,h.2.1⟩
def c9K (w:World) (a:Addr):Prop:=a.spot=none∧(w.cell? a).isSome=true
theorem c5H {α:Type} {w:World} {B:Nat} {A:Option Addr} {c:Nat} (sz:Nat) (hs:0 < sz) (enc:α→List Value) (enc1:∀ x,∀ u∈enc x,u.oneCell'=true) (encF:α→Nat→HV) (d:α) (l:List α) (hc:l.length≤c) (hm:c≤maxLen) (h:Sl w B sz enc A l)
  (hr:∀ i j,i < l.length→j < sz→Rep w (Env.just (c9K w)) ((enc (l.getD i d)).getD j undef) (encF (l.getD i d) j)):Rep w (Env.just (c9K w)) (.slice A l.length c) (.sl sz l.length (fun i=>encF (l.getD i d))):=by
 refine .sl A l.length c sz _ (fun i j=>(enc (l.getD i d)).getD j undef) hc hm (fun hn=>?_) hr
 obtain ⟨b,o,rfl,hb⟩:=h.addr hn hs
 have cell:∀ i j,i < l.length→j < sz→w.cell? ⟨b,o+(i * sz+j),none⟩=some ((enc (l.getD i d)).getD j undef)∧((enc (l.getD i d)).getD j undef).oneCell'=true:=by
  intro i j hi hj
  have:=h.cell_ hi j hj
  have hg:l.getD i d=l[i]:=by rw [List.getD_eq_getElem?_getD,List.getElem?_eq_getElem hi];rfl
  have hj':j < (enc l[i]).length:=by rw [h.1];exact hj
  have hg2:(enc l[i]).getD j undef=(enc l[i])[j]:=by rw [List.getD_eq_getElem?_getD,List.getElem?_eq_getElem hj'];rfl
  rw [hg,hg2,show o+(i * sz+j)=o+i * sz+j from by omega,this,List.getElem?_eq_getElem hj']
  exact ⟨rfl,enc1 _ _ (List.getElem_mem hj')⟩
 have hlt:b < w.heap.size:=by
  have:=(cell 0 0 hn hs).1
  exact World.block_lt_of_cell? w _ this
 exact ⟨b,o,rfl,hlt,fun i j hi hj=>⟨⟨rfl,by rw [(cell i j hi hj).1];rfl⟩,(cell i j hi hj).1,(cell i j hi hj).2⟩⟩
theorem c4e {P:Program} {f:FuncId} {xs:List HV} (h:HPure P f xs (boolV true)) (w:World) (vs:List Value) (hr:RepAll w (Env.just (c9K w)) vs xs) (hw:LibW w):Calls P f vs.toArray w fun e w'=>e=.returned (.bool true)∧Below w.heap.size w w':=by
 refine (h.2 w (c9K w) vs (fun a h=>h) hr hw).mono ?_
 rintro e w' ⟨hb,v,F',rfl,_,_,_,hv⟩
 rw [hv.imm_inv]
 exact ⟨rfl,hb⟩
end
end Go.Proofs.YtkeakpcieokhhaaGreatDoor
namespace Go.Proofs
section
open Go.Shelf
def Tryz.laysC172_ren:Go.Shelf.Ren:=⟨fun | 172=>130 | 244=>131 | 245=>132 | 247=>133 | 279=>134 | 280=>135 | 281=>136 | 282=>137 | 287=>138 | 316=>139 | 171=>141 | 205=>140 | 321=>142 | 322=>143 | 243=>144 | 246=>145 | 283=>146 | 284=>147 | 285=>148 | 286=>149 | 129=>151 | 317=>150 | 318=>152 | 319=>153 | 320=>154 | 337=>155 | 338=>68 | n=>n,fun | 9=>9 | 3=>3 | 75=>221 | 76=>222 | 4=>4 | 5=>5 | 167=>225 | 37=>226 | 0=>0 | 85=>227 | 2=>2 | 168=>229 | 53=>69 | 175=>232 | 46=>182 | 210=>236 | 127=>240 | 145=>243 | 143=>241 | 21=>21 | 171=>245 | 173=>247 | 212=>250 | 51=>251 | 20=>20 | 213=>252 | 232=>255 | 233=>196 | 80=>256 | n=>n,fun | 15=>2 | 16=>3 | 17=>4 | 18=>5 | 19=>0 | n=>n⟩
theorem Tryz.laysC172:Go.Proofs.LaysC.n172 Tryz.prog Tryz.laysC172_ren:={
 mixed:=by kernel_rfl
 f129:=Tryz.func151.trans (congrArg some (by kernel_rfl))
 f171:=Tryz.func141.trans (congrArg some (by kernel_rfl))
 f172:=Tryz.func130.trans (congrArg some (by kernel_rfl))
 f205:=Tryz.func140.trans (congrArg some (by kernel_rfl))
 f243:=Tryz.func144.trans (congrArg some (by kernel_rfl))
 f244:=Tryz.func131.trans (congrArg some (by kernel_rfl))
 f245:=Tryz.func132.trans (congrArg some (by kernel_rfl))
 f246:=Tryz.func145.trans (congrArg some (by kernel_rfl))
 f247:=Tryz.func133.trans (congrArg some (by kernel_rfl))
 f279:=Tryz.func134.trans (congrArg some (by kernel_rfl))
 f280:=Tryz.func135.trans (congrArg some (by kernel_rfl))
 f281:=Tryz.func136.trans (congrArg some (by kernel_rfl))
 f282:=Tryz.func137.trans (congrArg some (by kernel_rfl))
 f283:=Tryz.func146.trans (congrArg some (by kernel_rfl))
 f284:=Tryz.func147.trans (congrArg some (by kernel_rfl))
 f285:=Tryz.func148.trans (congrArg some (by kernel_rfl))
 f286:=Tryz.func149.trans (congrArg some (by kernel_rfl))
 f287:=Tryz.func138.trans (congrArg some (by kernel_rfl))
 f316:=Tryz.func139.trans (congrArg some (by kernel_rfl))
 f317:=Tryz.func150.trans (congrArg some (by kernel_rfl))
 f318:=Tryz.func152.trans (congrArg some (by kernel_rfl))
 f319:=Tryz.func153.trans (congrArg some (by kernel_rfl))
 f320:=Tryz.func154.trans (congrArg some (by kernel_rfl))
 f321:=Tryz.func142.trans (congrArg some (by kernel_rfl))
 f322:=Tryz.func143.trans (congrArg some (by kernel_rfl))
 f337:=Tryz.func155.trans (congrArg some (by kernel_rfl))
 f338:=Tryz.func68.trans (congrArg some (by kernel_rfl))
 t0:=Tryz.underlying0
 a0:=Tryz.isAgg0
 z0:=Tryz.sizeOf0
 v0:=Tryz.zeroValue0
 t2:=Tryz.underlying2
 a2:=Tryz.isAgg2
 z2:=Tryz.sizeOf2
 v2:=Tryz.zeroValue2
 t3:=Tryz.underlying3
 a3:=Tryz.isAgg3
 z3:=Tryz.sizeOf3
 v3:=Tryz.zeroValue3
 t4:=Tryz.underlying4
 a4:=Tryz.isAgg4
 z4:=Tryz.sizeOf4
 v4:=Tryz.zeroValue4
 t5:=Tryz.underlying5
 a5:=Tryz.isAgg5
 z5:=Tryz.sizeOf5
 v5:=Tryz.zeroValue5
 t9:=Tryz.underlying9
 a9:=Tryz.isAgg9
 z9:=Tryz.sizeOf9
 v9:=Tryz.zeroValue9
 t20:=Tryz.underlying20
 a20:=Tryz.isAgg20
 z20:=Tryz.sizeOf20
 v20:=Tryz.zeroValue20
 t21:=Tryz.underlying21
 a21:=Tryz.isAgg21
 z21:=Tryz.sizeOf21
 v21:=Tryz.zeroValue21
 t37:=Tryz.underlying226
 a37:=Tryz.isAgg226
 z37:=Tryz.sizeOf226
 v37:=Tryz.zeroValue226
 t46:=Tryz.underlying182
 a46:=Tryz.isAgg182
 z46:=Tryz.sizeOf182
 v46:=Tryz.zeroValue182
 t51:=Tryz.underlying251
 a51:=Tryz.isAgg251
 z51:=Tryz.sizeOf251
 v51:=Tryz.zeroValue251
 t53:=Tryz.underlying69
 a53:=Tryz.isAgg69
 z53:=Tryz.sizeOf69
 v53:=Tryz.zeroValue69
 t75:=Tryz.underlying221
 a75:=Tryz.isAgg221
 z75:=Tryz.sizeOf221
 v75:=Tryz.zeroValue221
 t76:=Tryz.underlying222
 a76:=Tryz.isAgg222
 z76:=Tryz.sizeOf222
 v76:=Tryz.zeroValue222
 t85:=Tryz.underlying227
 a85:=Tryz.isAgg227
 z85:=Tryz.sizeOf227
 v85:=Tryz.zeroValue227
 t127:=Tryz.underlying240
 a127:=Tryz.isAgg240
 z127:=Tryz.sizeOf240
 v127:=Tryz.zeroValue240
 t143:=Tryz.underlying241
 a143:=Tryz.isAgg241
 z143:=Tryz.sizeOf241
 v143:=Tryz.zeroValue241
 t145:=Tryz.underlying243
 a145:=Tryz.isAgg243
 z145:=Tryz.sizeOf243
 v145:=Tryz.zeroValue243
 t167:=Tryz.underlying225
 a167:=Tryz.isAgg225
 z167:=Tryz.sizeOf225
 v167:=Tryz.zeroValue225
 t168:=Tryz.underlying229
 a168:=Tryz.isAgg229
 z168:=Tryz.sizeOf229
 v168:=Tryz.zeroValue229
 t171:=Tryz.underlying245
 a171:=Tryz.isAgg245
 z171:=Tryz.sizeOf245
 v171:=Tryz.zeroValue245
 t173:=Tryz.underlying247
 a173:=Tryz.isAgg247
 z173:=Tryz.sizeOf247
 v173:=Tryz.zeroValue247
 t175:=Tryz.underlying232
 a175:=Tryz.isAgg232
 z175:=Tryz.sizeOf232
 v175:=Tryz.zeroValue232
 t210:=Tryz.underlying236
 a210:=Tryz.isAgg236
 z210:=Tryz.sizeOf236
 v210:=Tryz.zeroValue236
 t212:=Tryz.underlying250
 a212:=Tryz.isAgg250
 z212:=Tryz.sizeOf250
 v212:=Tryz.zeroValue250
 t213:=Tryz.underlying252
 a213:=Tryz.isAgg252
 z213:=Tryz.sizeOf252
 t232:=Tryz.underlying255
 a232:=Tryz.isAgg255
 z232:=Tryz.sizeOf255
 v232:=Tryz.zeroValue255
 t233:=Tryz.underlying196
 a233:=Tryz.isAgg196
 z233:=Tryz.sizeOf196
 v233:=Tryz.zeroValue196
 g15:=by kernel_rfl
 g16:=by kernel_rfl
 g17:=by kernel_rfl
 g18:=by kernel_rfl
 g19:=by kernel_rfl
 t80:=Tryz.underlying256
 a80:=Tryz.isAgg256
 z80:=Tryz.sizeOf256
 v80:=Tryz.zeroValue256
 i0:=by kernel_rfl
 i2:=by kernel_rfl
 i3:=by kernel_rfl
 i4:=by kernel_rfl
 i5:=by kernel_rfl
 i9:=by kernel_rfl
 i20:=by kernel_rfl
 i21:=by kernel_rfl
 i37:=by kernel_rfl
 i46:=by kernel_rfl
 i51:=by kernel_rfl
 i53:=by kernel_rfl
 i75:=by kernel_rfl
 i76:=by kernel_rfl
 i80:=by kernel_rfl
 i85:=by kernel_rfl
 i127:=by kernel_rfl
 i143:=by kernel_rfl
 i145:=by kernel_rfl
 i167:=by kernel_rfl
 i168:=by kernel_rfl
 i171:=by kernel_rfl
 i173:=by kernel_rfl
 i175:=by kernel_rfl
 i210:=by kernel_rfl
 i212:=by kernel_rfl
 i232:=by kernel_rfl
 i233:=by kernel_rfl
 m15:=by kernel_rfl
 m16:=by kernel_rfl
 m17:=by kernel_rfl
 m18:=by kernel_rfl
 m19:=by kernel_rfl
 c0:=by kernel_rfl
 c2:=by kernel_rfl
 c3:=by kernel_rfl
 c4:=by kernel_rfl
 c5:=by kernel_rfl
 c9:=by kernel_rfl
 c20:=by kernel_rfl
 c21:=by kernel_rfl
 c37:=by kernel_rfl
 c46:=by kernel_rfl
 c51:=by kernel_rfl
 c53:=by kernel_rfl
 c75:=by kernel_rfl
 c76:=by kernel_rfl
 c80:=by kernel_rfl
 c85:=by kernel_rfl
 c127:=by kernel_rfl
 c143:=by kernel_rfl
 c145:=by kernel_rfl
 c167:=by kernel_rfl
 c168:=by kernel_rfl
 c171:=by kernel_rfl
 c173:=by kernel_rfl
 c175:=by kernel_rfl
 c210:=by kernel_rfl
 c212:=by kernel_rfl
 c213:=by kernel_rfl
 c232:=by kernel_rfl
 c233:=by kernel_rfl }
open Go.RowKit in
theorem Tryz.strconv_Atoi_ok (s:ByteArray) (hmax:s.size≤9223372036854775806) (v:Int) (h:Lib.atoiAll s.data.toList=.ok v) (w:World) :
  Calls Tryz.prog 130 #[.string s] w fun e w'=>e=.returned (.tuple #[.int .i64 v,.nilIface])∧(w'=w∨∃ t,w'=Lib.bytesWorld w 5 t):=Any.strconv_Atoi_ok Tryz.laysC172 s hmax v h w
end
end Go.Proofs
namespace Go.Proofs.YtkeakpcieokhhaaGreatDoor
section
open Go.Lib Go.RowKit
end
section
open Go.Lib hiding intOf
open Go.RowKit
theorem a9G {P:Program} {w w':World} {name:String} {x:Array Value} (h:w.var? P name=some x) (b:Below w.heap.size w w'):w'.var? P name=some x:=by
  unfold World.var? at *
  cases hg:P.globalNamed name with
  | none=>rw [hg] at h;cases h
  | some g =>
    rw [hg] at h
    simp only [Option.bind_some] at h ⊢
    cases hh:w.heap[g]? with
    | none=>rw [hh] at h;cases h
    | some o =>
      have hlt:g < w.heap.size:=by
        rcases Nat.lt_or_ge g w.heap.size with h1 | h1
        · exact h1
        · rw [Array.getElem?_eq_none h1] at hh;cases hh
      rw [b.block g hlt]
      exact h
structure LibAt (w:World):Prop where
 tab:Lib.TabIs Tryz.prog w "internal/strconv.uint64pow10" .u64 Lib.pow10Tab
 syn:∃ tp p,w.var? Tryz.prog "strconv.ErrSyntax" = some #[.iface tp p]
 rng:∃ tp p,w.var? Tryz.prog "strconv.ErrRange" = some #[.iface tp p]
theorem LibAt.below {w w':World} (h:LibAt w) (b:Below w.heap.size w w'):LibAt w' :=
 ⟨a9G h.tab b,h.syn.imp fun _ h=>h.imp fun _ h=>a9G h b,h.rng.imp fun _ h=>h.imp fun _ h=>a9G h b⟩
theorem c4a {w W:World} {t:Nat} (h:W=w∨∃ s,W=Lib.bytesWorld w t s):Below w.heap.size w W:=by
 rcases h with rfl | ⟨s,rfl⟩
 ·exact Below.refl _ _
 ·exact Lib.bytesWorld_below _ _ _
end
section
def bz (s:List UInt8) (i:Nat):Int:=if i < s.length then ((s.getD i 0).toNat:Int) else 0
def smallZ (x:Int):Bool:=decide (97≤x)&&decide (x≤122)
def a0T (x:Int):Bool:=decide (48≤x)&&decide (x≤57)
theorem a3R {s:List UInt8} {i:Nat} (h:i < s.length):bz s i=((s.getD i 0).toNat:Int):=by unfold bz;rw [if_pos h]
theorem a7C {s:List UInt8} {i:Nat} (h:s.length≤i):bz s i=0:=by unfold bz;rw [if_neg omo]
theorem a4P {s:List UInt8} {i:Nat} (h:bz s i≠0):i < s.length:=by
 rcases Nat.lt_or_ge i s.length with h1 | h1
 ·exact h1
 ·exact absurd (a7C h1) h
theorem a1W {x:Int}:a0T x=true↔48≤x∧x≤57:=by simp [a0T]
theorem c2h {x:Int}:smallZ x=true↔97≤x∧x≤122:=by simp [smallZ]
theorem a2l {s:List UInt8} {i:Nat} (h:a0T (bz s i)=true):i < s.length:=a4P (by have:=a1W.1 h;omega)
theorem a9i {s:List UInt8} {i:Nat} (h:smallZ (bz s i)=true):i < s.length:=a4P (by have:=c2h.1 h;omega)
def a5v (s:List UInt8) (i:Nat):Option Int×Nat :=
 if a0T (bz s i)=true then
  if a0T (bz s (i+1))=true then
   if bz s i=48 then (none,i+1)
   else if a0T (bz s (i+2))=true then (none,i+2)
   else (some (10 * (bz s i - 48)+(bz s (i+1) - 48)),i+2)
  else (some (bz s i - 48),i+1)
 else (none,i)
def a1x (s:List UInt8) (p:Nat):Int×Int:=if s.length≤p then ((s.length:Int),5) else ((p:Int),2)
theorem b7u {s:List UInt8} {p:Nat} (h:p < s.length):a1x s p=((p:Int),2):=by unfold a1x;rw [if_neg omo]
def numR (s:List UInt8) (i:Nat) (low:Int):Except (Int×Int) (Int×Nat) :=
 match a5v s i with
 | (none,p)=>.error (a1x s p)
 | (some n,q)=>if n < low∨20 < n then .error ((i:Int),3) else .ok (n,q)
structure Sg where
 kind:Int
 at_:Int
 low:Int
 high:Int
 name:List UInt8
 deriving DecidableEq
def a2G (s:List UInt8) (i:Nat):Except (Int×Int) (Sg×Nat) :=
  match numR s (i+1) 0 with
  | .error e=>.error e
  | .ok (n, p) =>
    if bz s p=44 then
      if bz s (p+1)=125 then .ok (⟨5,i,n,-1,[]⟩,p+2)
      else match numR s (p+1) (if 1 > n then 1 else n) with
        | .error e=>.error e
        | .ok (m,q)=>if bz s q=125 then .ok (⟨5,i,n,m,[]⟩,q+1) else .error (a1x s q)
    else if bz s p=125 then (if n=0 then .error (((i+1:Nat):Int),3) else .ok (⟨5,i,n,n,[]⟩,p+1))
    else .error (a1x s p)
def alnumZ (x:Int):Bool:=smallZ x||a0T x
def a8Q (s:List UInt8) (i:Nat):Nat→Nat
 | 0=>0
 | f+1=>if alnumZ (bz s i)=true then a8Q s (i+1) f+1 else 0
def b2F (s:List UInt8) (i:Nat):Except (Int×Int) (Sg×Nat) :=
 if a8Q s i 13=13 then .error (((i+12:Nat):Int),2) else .ok (⟨1,i,0,0,(s.drop i).take (a8Q s i 13)⟩,i+a8Q s i 13)
def a4j (s:List UInt8) (i:Nat):Except (Int×Int) (Sg×Nat) :=
 if smallZ (bz s i)=true then b2F s i
 else if bz s i=123 then a2G s i
 else if bz s i=40 then .ok (⟨2,i,0,0,[]⟩,i+1)
 else if bz s i=41 then .ok (⟨3,i,0,0,[]⟩,i+1)
 else if bz s i=124 then .ok (⟨4,i,0,0,[]⟩,i+1)
 else if bz s i=42 then .ok (⟨5,i,0,-1,[]⟩,i+1)
 else if bz s i=43 then .ok (⟨5,i,1,-1,[]⟩,i+1)
 else if bz s i=63 then .ok (⟨5,i,0,1,[]⟩,i+1)
 else .error (a1x s i)
def a5t (x:Int):Bool:=smallZ x||decide (x=40)||decide (x=41)||decide (x=124)||decide (x=42)||decide (x=43)||decide (x=63)||decide (x=123)
def b4O (s:List UInt8):Nat→Nat→List Sg→Except (Int×Int) (List Sg)
  | 0,_,out=>.ok out
  | f + 1, i, out =>
    if s.length≤i then .ok out
    else if bz s i=32 then b4O s f (i+1) out
    else if out.length=200 then (if a5t (bz s i)=true then .error ((i:Int),4) else .error (a1x s i))
    else match a4j s i with
      | .error e=>.error e
      | .ok (x,q)=>b4O s f q (out++[x])
def lexV (s:List UInt8):Except (Int×Int) (List Sg):=b4O s s.length 0 []
theorem d2Z:∀ n:Fin 10,(match Go.Lib.atoiAll [UInt8.ofNat (48+n.val)] with | .ok v=>v == (n.val:Int) | _=>false)=true:=by decide +kernel
theorem d2v:∀ n m:Fin 10,(match Go.Lib.atoiAll [UInt8.ofNat (48+n.val),UInt8.ofNat (48+m.val)] with | .ok v=>v == (10 * n.val+m.val:Int) | _=>false)=true:=by decide +kernel
theorem c5h {a:UInt8} (h:a0T (a.toNat:Int)=true):Go.Lib.atoiAll [a]=.ok ((a.toNat:Int) - 48):=by
 have hd:=a1W.1 h
 have e:a=UInt8.ofNat (48+(a.toNat - 48)):=by
  rw [show 48+(a.toNat - 48)=a.toNat by omega];simp
 have:=d2Z ⟨a.toNat - 48,by omega⟩
 simp only [←e] at this
 split at this
 ·rename_i v hv
  rw [hv];simp at this;rw [this];congr 1;omega
 ·cases this
theorem c4d {a b:UInt8} (h:a0T (a.toNat:Int)=true) (h':a0T (b.toNat:Int)=true):Go.Lib.atoiAll [a,b]=.ok (10 * ((a.toNat:Int) - 48)+((b.toNat:Int) - 48)):=by
 have hd:=a1W.1 h
 have hd':=a1W.1 h'
 have e:a=UInt8.ofNat (48+(a.toNat - 48)):=by
  rw [show 48+(a.toNat - 48)=a.toNat by omega];simp
 have e':b=UInt8.ofNat (48+(b.toNat - 48)):=by
  rw [show 48+(b.toNat - 48)=b.toNat by omega];simp
 have:=d2v ⟨a.toNat - 48,by omega⟩ ⟨b.toNat - 48,by omega⟩
 simp only [←e,←e'] at this
 split at this
 ·rename_i v hv
  rw [hv];simp at this;rw [this];congr 1;omega
 ·cases this
theorem c7A {s:List UInt8} {i:Nat} (h:i < s.length):(s.drop i).take 1=[s.getD i 0]:=by
 rw [List.getD_eq_getElem?_getD,List.getElem?_eq_getElem h,List.drop_eq_getElem_cons h]
 rfl
theorem c6Z {s:List UInt8} {i:Nat} (h:i+1 < s.length):(s.drop i).take 2=[s.getD i 0,s.getD (i+1) 0]:=by
 rw [List.getD_eq_getElem?_getD,List.getD_eq_getElem?_getD,List.getElem?_eq_getElem h,List.getElem?_eq_getElem (by omega:i < s.length),List.drop_eq_getElem_cons (by omega:i < s.length),List.drop_eq_getElem_cons h]
 rfl
theorem c4q {s:List UInt8} {i k:Nat} (hk:k≤2) (h0:0 < k→a0T (bz s i)=true) (h1:1 < k→a0T (bz s (i+1))=true∧bz s i≠48) (hd:a0T (bz s (i+k))=true) (hc:k=2∨(0 < k∧bz s i=48)):a5v s i=(none,i+k):=by
  unfold a5v
  match k,hk,h0,h1,hd,hc with
  | 0,_,_,_,_,hc=>omega
  | 1, _, h0, _, hd, hc =>
    rw [if_pos (h0 omo),if_pos hd,if_pos omo]
  | 2, _, h0, h1, hd, hc =>
    rw [if_pos (h0 omo),if_pos (h1 omo).1,if_neg (h1 omo).2,if_pos hd]
theorem b2H {s:List UInt8} {i:Nat} (hd:a0T (bz s i)=false):a5v s i=(none,i):=by
 unfold a5v
 rw [if_neg (by rw [hd];decide)]
theorem c9e {s:List UInt8} {i k:Nat} (hk:k≤2) (hk0:k≠0) (h0:0 < k→a0T (bz s i)=true) (h1:1 < k→a0T (bz s (i+1))=true∧bz s i≠48) (hd:a0T (bz s (i+k))=false) :
    ∃ v,Go.Lib.atoiAll ((s.drop i).take (i+k - i))=.ok v∧a5v s i=(some v,i+k)∧0≤v∧v≤99:=by
  have hd':¬ a0T (bz s (i+k))=true:=by rw [hd];decide
  match k,hk,hk0,h0,h1,hd' with
  | 1, _, _, h0, _, hd' =>
    have h:=h0 omo
    have hlt:=a2l h
    have hdi:=a1W.1 h
    refine ⟨bz s i - 48,?_,?_,by omega,by omega⟩
    · rw [show i+1 - i=1 by omega,c7A hlt]
      rw [a3R hlt] at h ⊢
      exact c5h h
    · unfold a5v
      rw [if_pos h,if_neg hd']
  | 2, _, _, h0, h1, hd' =>
    have h:=h0 omo
    have h2:=h1 omo
    have hlt:=a2l h2.1
    have hdi:=a1W.1 h
    have hdj:=a1W.1 h2.1
    refine ⟨10 * (bz s i - 48)+(bz s (i+1) - 48),?_,?_,by omega,by omega⟩
    · rw [show i+2 - i=2 by omega,c6Z hlt]
      rw [a3R omo] at h ⊢
      have h3:=h2.1
      rw [a3R hlt] at h3 ⊢
      exact c4d h h3
    · unfold a5v
      rw [if_pos h,if_pos h2.1,if_neg h2.2,if_neg hd']
theorem a9g {s:List UInt8} {i p:Nat} {low:Int} (h:a5v s i=(none,p)):numR s i low=.error (a1x s p):=by unfold numR;rw [h]
theorem a8c {s:List UInt8} {i q:Nat} {low v:Int} (h:a5v s i=(some v,q)) (hv:v < low∨20 < v):numR s i low=.error ((i:Int),3):=by unfold numR;rw [h];simp only;rw [if_pos hv]
theorem b0p {s:List UInt8} {i q:Nat} {low v:Int} (h:a5v s i=(some v,q)) (hv:¬ (v < low∨20 < v)):numR s i low=.ok (v,q):=by unfold numR;rw [h];simp only;rw [if_neg hv]
theorem a6K {s:List UInt8} {i q:Nat} {o:Option Int} (hi:i≤s.length) (h:a5v s i=(o,q)):q≤s.length∧i≤q∧(∀ v,o=some v→i < q∧0≤v):=by
 unfold a5v at h
 split at h
 ·rename_i h1
  have:=a2l h1
  have d1:=a1W.1 h1
  split at h
  ·rename_i h2
   have:=a2l h2
   have d2:=a1W.1 h2
   split at h
   ·injection h with h h';subst h;subst h';exact ⟨by omega,by omega,fun v hv=>by cases hv⟩
   ·split at h
    ·rename_i h3
     have:=a2l h3
     injection h with h h';subst h;subst h';exact ⟨by omega,by omega,fun v hv=>by cases hv⟩
    ·injection h with h h';subst h;subst h';exact ⟨by omega,by omega,fun v hv=>by injection hv with hv;omega⟩
  ·injection h with h h';subst h;subst h';exact ⟨by omega,by omega,fun v hv=>by injection hv with hv;omega⟩
 ·injection h with h h';subst h;subst h';exact ⟨by omega,by omega,fun v hv=>by cases hv⟩
theorem b2I {s:List UInt8} {i q:Nat} {low v:Int} (hi:i≤s.length) (h:numR s i low=.ok (v,q)):q≤s.length∧i < q∧low≤v∧v≤20:=by
 unfold numR at h
 split at h
 ·cases h
 ·rename_i n q' hn
  split at h
  ·cases h
  ·rename_i hv
   injection h with h;injection h with h1 h2;subst h1;subst h2
   have:=a6K hi hn
   have h3:=this.2.2 _ rfl
   refine ⟨this.1,h3.1,?_,?_⟩ <;> omega
theorem c4g {s:List UInt8} {i k:Nat} (hk:k≤2) (h0:0 < k→a0T (bz s i)=true) (h1:1 < k→a0T (bz s (i+1))=true∧bz s i≠48) (hd:a0T (bz s (i+k))=true) (hc:¬ (k=2∨(0 < k∧bz s i=48))) :
  k+1≤2∧i+(k+1)≤s.length∧(0 < k+1→a0T (bz s i)=true)∧(1 < k+1→a0T (bz s (i+1))=true∧bz s i≠48):=by
 have:=a2l hd
 have hk2:k < 2:=by omega
 match k,hk2,h0,h1,hd,hc with
 | 0,_,h0,h1,hd,hc=>exact ⟨by omega,by omega,fun _=>hd,fun h=>absurd h omo⟩
 | 1,_,h0,h1,hd,hc=>exact ⟨by omega,by omega,fun _=>h0 omo,fun _=>⟨hd,fun h=>hc (.inr ⟨by omega,h⟩)⟩⟩
theorem b3E {s:List UInt8}:∀ {f i k:Nat},k≤f→(∀ j,j < k→alnumZ (bz s (i+j))=true)→(k < f→alnumZ (bz s (i+k))=false)→a8Q s i f=k
  | 0,i,k,hk,_,_=>by simp [a8Q];omega
  | f + 1, i, 0, _, _, h2 => by
    have:=h2 omo
    rw [Nat.add_zero] at this
    simp [a8Q,this]
  | f + 1, i, k + 1, hk, h1, h2 => by
    have h0:=h1 0 omo
    rw [Nat.add_zero] at h0
    have:=b3E (s:=s) (f:=f) (i:=i+1) (k:=k) omo (fun j hj=>by rw [show i+1+j=i+(j+1) by omega];exact h1 (j+1) omo) (fun hkf=>by rw [show i+1+k=i+(k+1) by omega];exact h2 omo)
    simp [a8Q,h0,this]
theorem c2s {s:List UInt8} {i:Nat} (h:∀ j,j < 13→alnumZ (bz s (i+j))=true):b2F s i=.error (((i+12:Nat):Int),2):=by
 unfold b2F
 rw [if_pos (b3E lrf h (fun h=>absurd h omo))]
theorem c2L {s:List UInt8} {i k:Nat} (hk:k≤12) (h:∀ j,j < k→alnumZ (bz s (i+j))=true) (h2:alnumZ (bz s (i+k))=false):b2F s i=.ok (⟨1,i,0,0,(s.drop i).take (i+k - i)⟩,i+k):=by
 unfold b2F
 have:=b3E (f:=13) omo h (fun _=>h2)
 rw [this,if_neg omo,show i+k - i=k by omega]
def b9v (k:Nat):Int:=match k with | 0=>40 | 1=>41 | 2=>124 | 3=>42 | 4=>43 | _=>63
theorem c2I (k:Nat):40≤b9v k∧b9v k≤124:=by
 unfold b9v;split <;> omega
theorem c3x {s:List UInt8} {i:Nat} (h0:smallZ (bz s i)=false) (h1:bz s i≠123) (h:∀ j,j < 6→bz s i≠b9v j):a4j s i=.error (a1x s i):=by
 unfold a4j
 rw [if_neg (by rw [h0];decide),if_neg h1,if_neg (show ¬ bz s i=40 from h 0 omo),if_neg (show ¬ bz s i=41 from h 1 omo),if_neg (show ¬ bz s i=124 from h 2 omo),if_neg (show ¬ bz s i=42 from h 3 omo),if_neg (show ¬ bz s i=43 from h 4 omo),if_neg (show ¬ bz s i=63 from h 5 omo)]
theorem d0y {s:List UInt8} {i:Nat} (h:bz s i=42):a4j s i=.ok (⟨5,i,0,-1,[]⟩,i+1):=by
 unfold a4j;rw [h];rfl
theorem d1j {s:List UInt8} {i:Nat} (h:bz s i=43):a4j s i=.ok (⟨5,i,1,-1,[]⟩,i+1):=by
 unfold a4j;rw [h];rfl
theorem d2k {s:List UInt8} {i:Nat} (h:bz s i=63):a4j s i=.ok (⟨5,i,0,1,[]⟩,i+1):=by
 unfold a4j;rw [h];rfl
theorem c7e {s:List UInt8} {i k:Nat} (hk:k < 6) (h:bz s i=b9v k) (h1:b9v k≠42) (h2:b9v k≠43) (h3:b9v k≠63):a4j s i=.ok (⟨2+k,i,0,0,[]⟩,i+1):=by
 match k,hk,h,h1,h2,h3 with
 | 0,_,h,_,_,_=>unfold a4j;rw [h];rfl
 | 1,_,h,_,_,_=>unfold a4j;rw [h];rfl
 | 2,_,h,_,_,_=>unfold a4j;rw [h];rfl
 | 3,_,_,h,_,_=>exact absurd rfl h
 | 4,_,_,_,h,_=>exact absurd rfl h
 | 5,_,_,_,_,h=>exact absurd rfl h
theorem b6m {s:List UInt8}:∀ {f i:Nat},i≤s.length→i+a8Q s i f≤s.length
  | 0,i,h=>by simp [a8Q];exact h
  | f + 1, i, h => by
    unfold a8Q
    split
    · rename_i ha
      have hlt:i < s.length:=a4P (fun h0=>by rw [h0] at ha;exact absurd ha dcd)
      have:=b6m (s:=s) (f:=f) (i:=i+1) hlt
      omega
    · omega
theorem a8B {s:List UInt8} {i q:Nat} {x:Sg} (h:a4j s i=.ok (x,q)):i < q∧q≤s.length:=by
 have key:∀ {c:Int} {y:Sg},bz s i=c→c≠0→(Except.ok (y,i+1):Except (Int×Int) (Sg×Nat))=.ok (x,q)→i < q∧q≤s.length:=by
  intro c y h1 h2 h3
  injection h3 with h3;injection h3 with _ h3
  have:=a4P (s:=s) (i:=i) (by rw [h1];exact h2)
  omega
 unfold a4j at h
 split at h
 ·rename_i hs
  have hlt:=a9i hs
  unfold b2F at h
  split at h
  ·cases h
  ·injection h with h;injection h with _ h
   have h1:0 < a8Q s i 13:=by
    have:alnumZ (bz s i)=true:=by unfold alnumZ;rw [hs];rfl
    unfold a8Q;rw [if_pos this];omega
   have:=b6m (s:=s) (f:=13) (i:=i) omo
   omega
 split at h
 ·rename_i hc
  have hlt:=a4P (s:=s) (i:=i) omo
  unfold a2G at h
  split at h
  ·cases h
  ·rename_i n p hn
   have hp:=b2I omo hn
   split at h
   ·rename_i h44
    have hl2:=a4P (s:=s) (i:=p) omo
    split at h
    ·rename_i h125
     have:=a4P (s:=s) (i:=p+1) omo
     injection h with h;injection h with _ h;omega
    ·split at h
     ·cases h
     ·rename_i m q' hm
      have hq:=b2I omo hm
      split at h
      ·rename_i h125
       have:=a4P (s:=s) (i:=q') omo
       injection h with h;injection h with _ h;omega
      ·cases h
   ·split at h
    ·rename_i h125
     have:=a4P (s:=s) (i:=p) omo
     split at h
     ·cases h
     ·injection h with h;injection h with _ h;omega
    ·cases h
 split at h
 ·rename_i hc;exact key hc dcd h
 split at h
 ·rename_i hc;exact key hc dcd h
 split at h
 ·rename_i hc;exact key hc dcd h
 split at h
 ·rename_i hc;exact key hc dcd h
 split at h
 ·rename_i hc;exact key hc dcd h
 split at h
 ·rename_i hc;exact key hc dcd h
 cases h
theorem a6X {s:List UInt8}:∀ {f f' i:Nat} {out:List Sg},s.length - i≤f→s.length - i≤f'→b4O s f i out=b4O s f' i out
  | 0,0,_,_,_,_=>rfl
  | 0,f'+1,i,out,h,h'=>by simp only [b4O];rw [if_pos omo]
  | f+1,0,i,out,h,h'=>by simp only [b4O];rw [if_pos omo]
  | f + 1, f' + 1, i, out, h, h' => by
    simp only [b4O]
    by_cases h1:s.length≤i
    · rw [if_pos h1,if_pos h1]
    · rw [if_neg h1,if_neg h1]
      by_cases h2:bz s i=32
      · rw [if_pos h2,if_pos h2];exact a6X omo omo
      · rw [if_neg h2,if_neg h2]
        by_cases h3:out.length=200
        · rw [if_pos h3,if_pos h3]
        · rw [if_neg h3,if_neg h3]
          cases hx:a4j s i with
          | error e=>rfl
          | ok y =>
            obtain ⟨x,q⟩:=y
            have:=a8B hx
            exact a6X omo omo
def a5f (s:List UInt8) (i:Nat) (out:List Sg):Except (Int×Int) (List Sg):=b4O s (s.length - i) i out
theorem b5F (s:List UInt8):a5f s 0 []=lexV s:=rfl
theorem b0g {s:List UInt8} {i:Nat} {out:List Sg} (h:s.length≤i):a5f s i out=.ok out:=by
 unfold a5f;rw [show s.length - i=0 by omega];rfl
theorem a4L {s:List UInt8} {i:Nat} {out:List Sg} (h:i < s.length):a5f s i out=if bz s i=32 then a5f s (i+1) out
    else if out.length=200 then (if a5t (bz s i)=true then .error ((i:Int),4) else .error (a1x s i))
    else match a4j s i with
      | .error e=>.error e
      | .ok (x,q)=>a5f s q (out++[x]):=by
  unfold a5f
  rw [show s.length - i=(s.length - i - 1)+1 by omega]
  simp only [b4O]
  rw [if_neg omo]
  by_cases h2:bz s i=32
  · rw [if_pos h2,if_pos h2];exact a6X omo omo
  · rw [if_neg h2,if_neg h2]
    by_cases h3:out.length=200
    · rw [if_pos h3,if_pos h3]
    · rw [if_neg h3,if_neg h3]
      cases hx:a4j s i with
      | error e=>rfl
      | ok y =>
        obtain ⟨x,q⟩:=y
        have:=a8B hx
        exact a6X omo omo
theorem b9K:∀ n:Fin 256,(decide (Go.Lib.indexByte [40,41,124,42,43,63,123] (UInt8.ofNat n.val) < 0))=!(decide ((n.val:Int)=40)||decide ((n.val:Int)=41)||decide ((n.val:Int)=124)||decide ((n.val:Int)=42)||decide ((n.val:Int)=43)||decide ((n.val:Int)=63)||decide ((n.val:Int)=123)):=by decide +kernel
theorem b3C (c:UInt8):(!smallZ (c.toNat:Int)&&decide (Go.Lib.indexByte [40,41,124,42,43,63,123] c < 0))=!a5t (c.toNat:Int):=by
 have:=b9K ⟨c.toNat,c.toNat_lt⟩
 simp only [UInt8.ofNat_toNat] at this
 rw [this]
 unfold a5t
 simp only [Bool.not_or,Bool.and_assoc]
theorem b2n {s:List UInt8} {i:Nat} {out:List Sg} (h:i < s.length) (h0:bz s i=32):a5f s i out=a5f s (i+1) out:=by
 rw [a4L h,if_pos h0]
theorem b3S {s:List UInt8} {i:Nat} {out:List Sg} (h:i < s.length) (h0:¬ bz s i=32) (h1:out.length=200) (h2:a5t (bz s i)=false):a5f s i out=.error (a1x s i):=by
 rw [a4L h,if_neg h0,if_pos h1,if_neg (by rw [h2];decide)]
theorem b0V {s:List UInt8} {i:Nat} {out:List Sg} (h:i < s.length) (h0:¬ bz s i=32) (h1:out.length=200) (h2:a5t (bz s i)=true):a5f s i out=.error ((i:Int),4):=by
 rw [a4L h,if_neg h0,if_pos h1,if_pos h2]
theorem b3Z {s:List UInt8} {i:Nat} {out:List Sg} {e:Int×Int} (h:i < s.length) (h0:¬ bz s i=32) (h1:¬ out.length=200) (h2:a4j s i=.error e):a5f s i out=.error e:=by
 rw [a4L h,if_neg h0,if_neg h1,h2]
theorem b2h {s:List UInt8} {i q:Nat} {x:Sg} {out:List Sg} (h:i < s.length) (h0:¬ bz s i=32) (h1:¬ out.length=200) (h2:a4j s i=.ok (x,q)):a5f s i out=a5f s q (out++[x]):=by
 rw [a4L h,if_neg h0,if_neg h1,h2]
theorem b4M (s:List UInt8) (i:Nat):a0T (bz s i)=(decide ((i:Int) < s.length)&&a0T ((s.getD i 0).toNat:Int)):=by
 rcases Nat.lt_or_ge i s.length with h | h
 ·rw [a3R h,show decide ((i:Int) < s.length)=true from decide_eq_true omo,Bool.true_and]
 ·rw [a7C h,show decide ((i:Int) < s.length)=false from decide_eq_false omo,Bool.false_and];decide
theorem c3O (s:List UInt8) (i:Nat):smallZ (bz s i)=(decide ((i:Int) < s.length)&&smallZ ((s.getD i 0).toNat:Int)):=by
 rcases Nat.lt_or_ge i s.length with h | h
 ·rw [a3R h,show decide ((i:Int) < s.length)=true from decide_eq_true omo,Bool.true_and]
 ·rw [a7C h,show decide ((i:Int) < s.length)=false from decide_eq_false omo,Bool.false_and];decide
theorem b9R (s:List UInt8) (i:Nat):(decide ((s.length:Int)≤i)||!a0T ((s.getD i 0).toNat:Int))=!a0T (bz s i):=by
 rcases Nat.lt_or_ge i s.length with h | h
 ·rw [a3R h,show decide ((s.length:Int)≤i)=false from decide_eq_false omo,Bool.false_or]
 ·rw [a7C h,show decide ((s.length:Int)≤i)=true from decide_eq_true omo,Bool.true_or];decide
theorem c0T (s:List UInt8) (i:Nat) {c:Int} (hc:c≠0):(decide ((i:Int) < s.length)&&((s.getD i 0).toNat:Int) == c)=decide (bz s i=c):=by
 rcases Nat.lt_or_ge i s.length with h | h
 ·rw [a3R h,show decide ((i:Int) < s.length)=true from decide_eq_true omo,Bool.true_and];rfl
 ·rw [a7C h,show decide ((i:Int) < s.length)=false from decide_eq_false omo,Bool.false_and]
  exact (decide_eq_false (fun h=>hc h.symm)).symm
theorem b0e (s:List UInt8) (i:Nat) {c:Int} (hc:c≠0):(decide ((s.length:Int)≤i)||((s.getD i 0).toNat:Int) != c)=!decide (bz s i=c):=by
 rcases Nat.lt_or_ge i s.length with h | h
 ·rw [a3R h,show decide ((s.length:Int)≤i)=false from decide_eq_false omo,Bool.false_or];rfl
 ·rw [a7C h,show decide ((s.length:Int)≤i)=true from decide_eq_true omo,Bool.true_or]
  rw [decide_eq_false (fun h=>hc h.symm)];rfl
def a1V (s:List UInt8) (i:Nat):Sg×Int×Int :=
  match a5v s (i+1) with
  | (none,p)=>(⟨5,i,0,0,[]⟩,a1x s p)
  | (some n, p) =>
    if 20 < n∨(n=0∧bz s p=125) then (⟨5,i,0,0,[]⟩,((i+1:Nat):Int),3)
    else if bz s p=44 then
      if bz s (p+1)=125 then (⟨5,i,n,-1,[]⟩,((p+2:Nat):Int),0)
      else match a5v s (p+1) with
        | (none,q)=>(⟨5,i,n,-1,[]⟩,a1x s q)
        | (some m, q) => if m < 1 ∨ 20 < m ∨ m < n then (⟨5, i, n, -1, []⟩, ((p + 1 : Nat) : Int), 3)
          else if bz s q=125 then (⟨5,i,n,m,[]⟩,((q+1:Nat):Int),0) else (⟨5,i,n,m,[]⟩,a1x s q)
    else if bz s p=125 then (⟨5,i,n,n,[]⟩,((p+1:Nat):Int),0)
    else (⟨5,i,n,n,[]⟩,a1x s p)
def sgZ:Sg:=⟨0,0,0,0,[]⟩
def c4z (s:List UInt8) (i:Nat):Sg×Int×Int :=
 if a8Q s i 13=13 then (sgZ,((i+12:Nat):Int),2) else (⟨1,i,0,0,(s.drop i).take (a8Q s i 13)⟩,((i+a8Q s i 13:Nat):Int),0)
def a8D (s:List UInt8) (i:Nat):Sg×Int×Int :=
 if smallZ (bz s i)=true then c4z s i
 else if bz s i=40 then (⟨2,i,0,0,[]⟩,((i+1:Nat):Int),0)
 else if bz s i=41 then (⟨3,i,0,0,[]⟩,((i+1:Nat):Int),0)
 else if bz s i=124 then (⟨4,i,0,0,[]⟩,((i+1:Nat):Int),0)
 else if bz s i=42 then (⟨5,i,0,-1,[]⟩,((i+1:Nat):Int),0)
 else if bz s i=43 then (⟨5,i,1,-1,[]⟩,((i+1:Nat):Int),0)
 else if bz s i=63 then (⟨5,i,0,1,[]⟩,((i+1:Nat):Int),0)
 else if bz s i=123 then a1V s i
 else (sgZ,(i:Int),2)
def d0J (r:Except (Int×Int) (Sg×Nat)) (f:Sg×Int×Int):Prop:=match r with
 | .ok (x,q)=>f=(x,(q:Int),0)
 | .error e=>f.2=e∧e.2≠0
theorem a7k (s:List UInt8) (p:Nat):(a1x s p).2≠0:=by unfold a1x;split <;> simp
theorem b8m (s:List UInt8) (i:Nat) (hi:i < s.length):d0J (a2G s i) (a1V s i):=by
  unfold a2G a1V
  cases hn:a5v s (i+1) with
  | mk o p =>
    cases o with
    | none=>rw [a9g hn];exact ⟨rfl,a7k s p⟩
    | some n =>
      have h0:=(a6K omo hn).2.2 n rfl
      by_cases h20:20 < n
      · rw [a8c hn (.inr h20)]
        simp only
        rw [if_pos (.inl h20)]
        exact ⟨rfl,by simp⟩
      · rw [b0p hn omo]
        simp only
        by_cases h44:bz s p=44
        · rw [if_pos h44,if_neg (show ¬ (20 < n∨n=0∧bz s p=125) by omega),if_pos h44]
          by_cases h125:bz s (p+1)=125
          · rw [if_pos h125,if_pos h125];rfl
          · rw [if_neg h125,if_neg h125]
            have hlt:=a4P (s:=s) (i:=p) omo
            cases hm:a5v s (p+1) with
            | mk o2 q =>
              cases o2 with
              | none=>rw [a9g hm];exact ⟨rfl,a7k s q⟩
              | some m =>
                simp only
                by_cases hr:m < (if 1 > n then 1 else n)∨20 < m
                · rw [a8c hm hr]
                  rw [if_pos (show m < 1∨20 < m∨m < n by split at hr <;> omega)]
                  exact ⟨rfl,by simp⟩
                · rw [b0p hm hr]
                  rw [if_neg (show ¬ (m < 1∨20 < m∨m < n) by split at hr <;> omega)]
                  simp only
                  by_cases h5:bz s q=125
                  · rw [if_pos h5,if_pos h5];rfl
                  · rw [if_neg h5,if_neg h5];exact ⟨rfl,a7k s q⟩
        · rw [if_neg h44]
          by_cases h125:bz s p=125
          · by_cases hz:n=0
            · rw [if_pos h125,if_pos hz,if_pos (.inr ⟨hz,h125⟩)];exact ⟨rfl,by simp⟩
            · rw [if_pos h125,if_neg hz,if_neg (show ¬ (20 < n∨n=0∧bz s p=125) by omega),if_neg h44,if_pos h125];rfl
          · rw [if_neg h125,if_neg (show ¬ (20 < n∨n=0∧bz s p=125) by omega),if_neg h44,if_neg h125];exact ⟨rfl,a7k s p⟩
theorem b7Z (s:List UInt8) (i:Nat) (hi:i < s.length):d0J (a4j s i) (a8D s i):=by
 unfold a4j a8D
 by_cases h:smallZ (bz s i)=true
 ·rw [if_pos h,if_pos h]
  unfold b2F c4z
  split
  ·exact ⟨rfl,by simp⟩
  ·rfl
 rw [if_neg h,if_neg h]
 by_cases h1:bz s i=123
 ·rw [if_pos h1,if_neg (show ¬ bz s i=40 by omega),if_neg (show ¬ bz s i=41 by omega),if_neg (show ¬ bz s i=124 by omega),if_neg (show ¬ bz s i=42 by omega),if_neg (show ¬ bz s i=43 by omega),if_neg (show ¬ bz s i=63 by omega),if_pos h1]
  exact b8m s i hi
 rw [if_neg h1]
 by_cases h2:bz s i=40
 ·rw [if_pos h2,if_pos h2];rfl
 rw [if_neg h2,if_neg h2]
 by_cases h3:bz s i=41
 ·rw [if_pos h3,if_pos h3];rfl
 rw [if_neg h3,if_neg h3]
 by_cases h4:bz s i=124
 ·rw [if_pos h4,if_pos h4];rfl
 rw [if_neg h4,if_neg h4]
 by_cases h5:bz s i=42
 ·rw [if_pos h5,if_pos h5];rfl
 rw [if_neg h5,if_neg h5]
 by_cases h6:bz s i=43
 ·rw [if_pos h6,if_pos h6];rfl
 rw [if_neg h6,if_neg h6]
 by_cases h7:bz s i=63
 ·rw [if_pos h7,if_pos h7];rfl
 rw [if_neg h7,if_neg h7,if_neg h1]
 rw [b7u hi]
 exact ⟨rfl,by simp⟩
theorem c0L (s:List UInt8) (p:Nat) (n:Int):(decide (20 < n)||((n == 0&&decide ((p:Int) < s.length))&&((s.getD p 0).toNat:Int) == 125))=decide (20 < n∨(n=0∧bz s p=125)):=by
 rw [Bool.and_assoc,c0T s p dcd,Bool.decide_or,Bool.decide_and]
 rfl
theorem b7p (s:List UInt8) (i:Nat):(decide ((i:Int) < s.length)&&(smallZ ((s.getD i 0).toNat:Int)||a0T ((s.getD i 0).toNat:Int)))=alnumZ (bz s i):=by
 unfold alnumZ
 rw [c3O,b4M,Bool.and_or_distrib_left]
theorem a9v {s:List UInt8} {i:Nat} (h:a5t (bz s i)=false):a4j s i=.error (a1x s i):=by
 unfold a5t at h
 simp only [Bool.or_eq_false_iff,decide_eq_false_iff_not] at h
 obtain ⟨⟨⟨⟨⟨⟨⟨h0,h1⟩,h2⟩,h3⟩,h4⟩,h5⟩,h6⟩,h7⟩:=h
 unfold a4j
 rw [if_neg (by rw [h0];decide),if_neg h7,if_neg h1,if_neg h2,if_neg h3,if_neg h4,if_neg h5,if_neg h6]
end
section
open Go.RowKit
set_option maxRecDepth 100000
@[reducible] def rdF (s:List UInt8) (i:Nat):Nat→Nat→HV:=fun _ j=>match j with | 0=>strV s | _=>intV i
@[reducible] def rdO (g:Nat) (s:List UInt8) (i:Nat):HObj:=⟨g,1,2,168,0,rdF s i⟩
@[reducible] def d0o (e:Int×Int):Nat→HV:=fun j=>match j with | 0=>intV e.1 | _=>intV e.2
@[reducible] def a7v (e:Int×Int):HV:=.ifc 164 (.agg 2 (d0o e))
theorem c2X {sh:List (Nat×HObj)} {f f':Nat→HV} (h0:Fz sh (f 0) (f' 0)) (h1:Fz sh (f 1) (f' 1)):Fz sh (.agg 2 f) (.agg 2 f'):=.agg _ _ _ fun i hi=>by
 match i,hi with
 | 0,_=>exact h0
 | 1,_=>exact h1
theorem a1f {sh:List (Nat×HObj)} {f f':Nat→HV} (h0:Fz sh (f 0) (f' 0)) (h1:Fz sh (f 1) (f' 1)) (h2:Fz sh (f 2) (f' 2)) (h3:Fz sh (f 3) (f' 3)) (h4:Fz sh (f 4) (f' 4)):Fz sh (.agg 5 f) (.agg 5 f'):=.agg _ _ _ fun i hi=>by
 match i,hi with
 | 0,_=>exact h0
 | 1,_=>exact h1
 | 2,_=>exact h2
 | 3,_=>exact h3
 | 4,_=>exact h4
instance frz_fault (e:Int×Int):Frz (a7v e):=⟨.ifc _ _ _ (c2X (.imm _) (.imm _))⟩
theorem a1F {kp sh:List (Nat×HObj)} (e:Int×Int):Kz kp sh (a7v e) (a7v e):=.fz _ _ Frz.fz
theorem a4T {kp sh:List (Nat×HObj)} {g i:Nat} {s:List UInt8}:OKz kp sh (rdO g s i) (rdO g s i):=c1f (.fz _ _ (.imm _)) (.fz _ _ (.imm _))
theorem b5W (x:Int):HPure Tryz.prog 77 [.imm (.int .u8 x)] (boolV (smallZ x)):=by
 refine a0k Tryz.func77 rfl kr _ _ _ rfl 9 rfl rfl (fun w F=>?_)
 refine ru 17 ?_
 refine rt1 ?_
 exact Frz.fz
theorem b2O (x:Int):HPure Tryz.prog 125 [.imm (.int .u8 x)] (boolV (a0T x)):=by
 refine a0k Tryz.func125 rfl kr _ _ _ rfl 9 rfl rfl (fun w F=>?_)
 refine ru 17 ?_
 refine rt1 ?_
 exact Frz.fz
theorem a3W (g:Nat) (s:List UInt8) (i:Nat) (hs:s.length≤1000000) (hi:i≤s.length):a3K Tryz.prog 76 [.pt 9001 g 0 0] [(9001,rdO g s i)] (.imm (.int .u8 (bz s i))) [(9001,rdO g s i)]:=by
 intro c
 refine a0p Tryz.func76 rfl kr _ _ _ _ rfl 22 rfl rfl (fun X ok hX=>?_)
 refine ru 20 ?_
 refine wdc (fun hr0 hc0=>?_) (fun hr0 hc0=>?_)
 ·refine ru 16 ?_
  refine fr1 ok hX rw1 (()) (trivial) (by rw [a3R (by simpa using hc0)];exact kza) ?_
  exact ⟨⟨_,rfl,c1f kza kza⟩,trivial⟩
 refine ru 8 ?_
 refine fr1 ok hX rw1 (()) (trivial) (by rw [a7C (by simpa using hc0)];exact kza) ?_
 exact ⟨⟨_,rfl,c1f kza kza⟩,trivial⟩
theorem b4u (c g:Nat) (s:List UInt8) (i:Nat) (p e:Int):a2y Tryz.prog 80 c [.pt 9001 g 0 0,intV p,intV e] [(9001,rdO g s i)] (d2e (fun (y:Int×Int) _=>y=(p,e)) a7v (fun _=>[(9001,rdO g s i)])):=by
 refine a0p Tryz.func80 rfl kr _ _ _ _ rfl 10 rfl rfl (fun X ok hX=>?_)
 refine ru 5 ?_
 refine b8D rfl ?_
 exact b6j ok hX (p,e) rfl rfl (.ifc _ _ _ (.fz _ _ (c2X (.imm _) (.imm _)))) ⟨⟨_,rfl,c1f (.fz _ _ (.imm _)) (.fz _ _ (.imm _))⟩,trivial⟩
theorem b5u (c g:Nat) (s:List UInt8) (i:Nat) (hs:s.length≤1000000) (hi:i≤s.length):a2y Tryz.prog 79 c [.pt 9001 g 0 0] [(9001,rdO g s i)] (d2e (fun (y:Int×Int) _=>y=a1x s i) a7v (fun _=>[(9001,rdO g s i)])):=by
 refine a0p Tryz.func79 rfl kr _ _ _ _ rfl 24 rfl rfl (fun X ok hX=>?_)
 refine ru 15 ?_
 refine wdc (fun hr0 hc0=>?_) (fun hr0 hc0=>?_)
 ·refine ru 6 ?_
  refine a2n (xs:=[_,_,_]) (pre:=[(9001,_)]) (b4u _ _ _ _ _ _) ⟨rfl,⟨rfl,⟨rfl,trivial⟩⟩⟩ (a0h rfl pre0) (fun y c1 hy=>?_)
  refine (a0E ?_)
  exact b6j ok hX y (by rw [hy];unfold a1x;rw [if_pos om,hc0]) rfl (a1F _) ⟨⟨_,rfl,a4T⟩,trivial⟩
 refine ru 8 ?_
 refine a2n (xs:=[_,_,_]) (pre:=[(9001,_)]) (b4u _ _ _ _ _ _) ⟨rfl,⟨rfl,⟨rfl,trivial⟩⟩⟩ (a0h rfl pre0) (fun y c2 hy=>?_)
 refine ?_
 exact b6j ok hX y (by rw [hy];unfold a1x;rw [if_neg om]) rfl (a1F _) ⟨⟨_,rfl,a4T⟩,trivial⟩
theorem a0K {a b:Int} (h:a=b):Sb (intV a) (intV b):=by subst h;exact .refl _
theorem b8H {g ty fl:Nat} {f f':Nat→Nat→HV} (h0:Sb (f 0 0) (f' 0 0)) (h1:Sb (f 0 1) (f' 0 1)) (hfn:fl≤1:=by exact Nat.zero_le _):a2m ⟨g,1,2,ty,fl,f⟩ ⟨g,1,2,ty,fl,f'⟩:=.of (hfn:=hfn) fun i j hi hj=>by
 obtain rfl:i=0:=by omega
 match j,hj with | 0,_=>exact h0 | 1,_=>exact h1
theorem a7F {kp sh:List (Nat×HObj)} {a b:Int} (h:a=b):Kz kp sh (intV a) (intV b):=by subst h;exact .fz _ _ (.imm _)
theorem d1t (l:List UInt8) (v:Int) (hl:l.length≤1000000) (h:Lib.atoiAll l=.ok v):HPure Tryz.prog 130 [strV l] (t2 (intV v) (.imm .nilIface)):=by
 refine ⟨⟨_,_,Tryz.func130,rfl,by kernel_rfl⟩,fun w F vs hF hr hw=>?_⟩
 obtain ⟨u,rfl,hu⟩:=d0G hr
 rw [hu.imm_inv]
 refine (Tryz.strconv_Atoi_ok ⟨l.toArray⟩ (by rw [a6T];omega) v h w).mono ?_
 rintro e w' ⟨rfl,hb⟩
 have hb:=c4a hb
 exact ⟨hb,_,F,rfl,fun _ h=>h,fun _ h=>.inl h,fun a ha=>⟨(hF a ha).1,by rw [World.cell?_of_block (hb.block _ (a1m (hF a ha).2))];exact (hF a ha).2⟩,
  .tup _ 2 _ (fun i=>match i with | 0=>.int .i64 v | _=>.nilIface) rfl (fun i hi=>by match i,hi with | 0,_=>rfl | 1,_=>rfl) (fun i hi=>by match i,hi with | 0,_=>exact .imm _ | 1,_=>exact .imm _)⟩
@[reducible] def d3N (g:Nat) (s:List UInt8) (i:Nat) (low:Int):HEnd→List (Nat×HObj)→Nat→Prop :=
 RoP (fun (x:Int×Nat) _=>numR s i low=.ok x) (fun x=>intV x.1) (fun x=>[(9001,rdO g s x.2)]) (fun (y:(Int×Int)×Nat) _=>numR s i low=.error y.1) (fun y=>a7v y.1) (fun y=>[(9001,rdO g s y.2)])
theorem b6G (c g:Nat) (s:List UInt8) (i:Nat) (low:Int) (hs:s.length≤1000000) (hi:i≤s.length):a2y Tryz.prog 126 c [.pt 9001 g 0 0,intV low] [(9001,rdO g s i)] (d3N g s i low):=by
 refine a0p Tryz.func126 rfl kr _ _ _ _ rfl 81 rfl rfl (fun X ok hX=>?_)
 refine ru 16 ?_
 refine a0l (α:=Nat) (fun x c=>⟨81,[(0,.v (.pt 9001 g 0 0)),(1,.v (intV low)),(4,.v (intV 0)),(5,.v (intV i))],[(9001,rdO g s (i+x))],c⟩) (fun x=>x≤2∧i+x≤s.length∧(0 < x→a0T (bz s i)=true)∧(1 < x→a0T (bz s (i+1))=true∧bz s i≠48)) (fun x=>3 - x) (0) (by exact ⟨by omega,by omega,fun h=>absurd h om,fun h=>absurd h om⟩) (a0b rfl lrf tsa hsa) (fun k c hx NhL1 hL1=>?_)
 (try dsimp only at hx hL1 ⊢)
 obtain ⟨hk,hik,hk0,hk1⟩:=hx
 refine ru 4 ?_
 refine hq_ 13 (a0B (xs:=[_]) (pre:=[(9001,_)]) (a3W g s (i+k) hs hik) ⟨rfl,trivial⟩) rfl rfl (a0h rfl pre0) rfl rfl ?_
 refine cll (b2O _) ?_
 refine ru 2 ?_
 refine wdc (fun hr0 hc0=>?_) (fun hr0 hc0=>?_)
 ·skip
  have hlt:=a2l hc0
  refine ru 32 ?_
  refine wdc (fun hr1 hc1=>?_) (fun hr1 hc1=>?_)
  ·refine ru 2 ?_
   refine a2n (xs:=[_]) (pre:=[(9001,_)]) (b5u _ g s (i+k) hs hik) ⟨rfl,trivial⟩ (a0h rfl pre0) (fun y c1 hy=>?_)
   refine (a0E (a2c (a0E (a2c (a0E ?_)))))
   exact a2Q ok hX (y,i+k) (by rw [hy];exact a9g (c4q hk hk0 hk1 hc0 (by rw [a3R (show i < s.length by omega)];omega))) rfl (a1F _) ⟨⟨_,rfl,a4T⟩,trivial⟩
  refine ru 13 ?_
  exact hL1 (k+1) _ _ (by (try dsimp only);exact c4g hk hk0 hk1 hc0 (by rw [a3R (show i < s.length by omega)];simp only [Bool.and_eq_false_iff,decide_eq_false_iff_not,beq_eq_false_iff_ne] at hc1;omega)) omd (a0b rfl lrf tsa (a0g.cons rfl (b8H (.refl _) (a0K om)) a0g.nil))
 refine ru 2 ?_
 refine a0c ?_
 refine ru 13 ?_
 refine wdc (fun hr2 hc2=>?_) (fun hr2 hc2=>?_)
 ·refine ru 2 ?_
  refine a2n (xs:=[_]) (pre:=[(9001,_)]) (b5u _ g s (i+k) hs hik) ⟨rfl,trivial⟩ (a0h rfl pre0) (fun y c2 hy=>?_)
  refine (a0E ?_)
  obtain rfl:k=0:=om;exact a2Q ok hX (y,i+0) (by rw [hy];exact a9g (b2H hc0)) rfl (a1F _) ⟨⟨_,rfl,a4T⟩,trivial⟩
 obtain ⟨v,hv,hnum,hv0,hv1⟩:=c9e hk om hk0 hk1 hc0
 refine ru 14 ?_
 refine clx (d1t _ v (by simp;omega) hv) ?_
 refine ru 19 ?_
 refine wdc (fun hr3 hc3=>?_) (fun hr3 hc3=>?_)
 ·refine ru 3 ?_
  refine a2n (xs:=[_,_,_]) (pre:=[(9001,_)]) (b4u _ _ _ _ _ _) ⟨rfl,⟨rfl,⟨rfl,trivial⟩⟩⟩ (a0h rfl pre0) (fun y c3 hy=>?_)
  refine (a0E ?_)
  exact a2Q ok hX (y,i+k) (by rw [hy];exact a8c hnum (by simpa using hc3)) rfl (a1F _) ⟨⟨_,rfl,a4T⟩,trivial⟩
 refine ru 9 ?_
 refine a1j ok hX a2j.two rfl (a0f rfl) [] rfl pre0 ((v,i+k)) (b0p hnum (by simpa using hc3)) (by rfl) (by rfl) (kza) ?_
 exact ⟨⟨_,rfl,a4T⟩,trivial⟩
@[reducible] def sgF (x:Sg):Nat→HV:=fun j=>match j with | 0=>intV x.kind | 1=>intV x.at_ | 2=>intV x.low | 3=>intV x.high | _=>strV x.name
@[reducible] def sgH (x:Sg):HV:=.agg 5 (sgF x)
@[reducible] def SgP (R:Except (Int×Int) (Sg×Nat)) (g:Nat) (s:List UInt8):HEnd→List (Nat×HObj)→Nat→Prop :=
 RoP (fun (x:Sg×Nat) _=>R=.ok x) (fun x=>sgH x.1) (fun x=>[(9001,rdO g s x.2)]) (fun (y:(Int×Int)×Nat) _=>R=.error y.1) (fun y=>a7v y.1) (fun y=>[(9001,rdO g s y.2)])
theorem a4a {kp sh:List (Nat×HObj)} {f f':Nat→HV} (h0:Kz kp sh (f 0) (f' 0)) (h1:Kz kp sh (f 1) (f' 1)) (h2:Kz kp sh (f 2) (f' 2)) (h3:Kz kp sh (f 3) (f' 3)) (h4:Kz kp sh (f 4) (f' 4)):Kz kp sh (.agg 5 f) (.agg 5 f'):=.agg _ _ _ fun i hi=>by
 match i,hi with
 | 0,_=>exact h0
 | 1,_=>exact h1
 | 2,_=>exact h2
 | 3,_=>exact h3
 | 4,_=>exact h4
theorem a0z {kp sh:List (Nat×HObj)} {v:Value}:Kz kp sh (.imm v) (.imm v):=.fz _ _ (.imm _)
theorem c9k (c g:Nat) (s:List UInt8) (i:Nat) (hs:s.length≤1000000) (hi:i < s.length):a2y Tryz.prog 109 c [.pt 9001 g 0 0] [(9001,rdO g s i)] (SgP (a2G s i) g s):=by
 refine a0p Tryz.func109 rfl kr _ _ _ _ rfl 71 rfl rfl (fun X ok hX=>?_)
 refine ru 29 ?_
 refine (a0W 9001 (rdO g s (i+1)) rfl (by exact b8H (.refl _) (a0K om))).wp ?_
 refine ru 11 ?_
 refine b3D 22 (xs:=[_,_]) (pre:=[(9001,_)]) (b6G _ g s (i+1) 0 hs om) ⟨rfl,⟨rfl,trivial⟩⟩ (a0h rfl pre0) rfl rfl (fun y c1 hy=>(a0E (a2Q ok hX y (by unfold a2G;rw [hy]) rfl (a1F _) ⟨⟨_,rfl,a4T⟩,trivial⟩))) (fun x1 c1 hn=>?_)
 obtain ⟨n,p⟩:=x1
 (try dsimp only)
 refine ru 5 ?_
 have hnp:=b2I om hn
 refine ru 11 ?_
 refine hq_ 28 (a0B (xs:=[_]) (pre:=[(9001,_)]) (a3W g s p hs hnp.1) ⟨rfl,trivial⟩) rfl rfl (a0h rfl pre0) rfl rfl ?_
 refine ru 3 ?_
 refine wdc (fun hr0 hc0=>?_) (fun hr0 hc0=>?_)
 ·skip
  have hlt:=a4P (s:=s) (i:=p) om
  refine ru 19 ?_
  refine (a0W 9001 (rdO g s (p+1)) rfl (by exact b8H (.refl _) (a0K om))).wp ?_
  refine ru 2 ?_
  refine hq_ 39 (a0B (xs:=[_]) (pre:=[(9001,_)]) (a3W g s (p+1) hs hlt) ⟨rfl,trivial⟩) rfl rfl (a0h rfl pre0) rfl rfl ?_
  refine ru 3 ?_
  refine wdc (fun hr1 hc1=>?_) (fun hr1 hc1=>?_)
  ·refine ru 5 ?_
   refine b3D 45 (xs:=[_,_]) (pre:=[(9001,_)]) (b6G _ g s (p+1) (if 1 > n then 1 else n) hs hlt) ⟨rfl,⟨rfl,trivial⟩⟩ (a0h rfl pre0) rfl rfl (fun y c2 hy=>(a0E (a2Q ok hX y (by unfold a2G;rw [hn];simp only;rw [if_pos hc0,if_neg hc1,hy]) rfl (a1F _) ⟨⟨_,rfl,a4T⟩,trivial⟩))) (fun x2 c2 hm=>?_)
   obtain ⟨m,q⟩:=x2
   (try dsimp only)
   refine ru 6 ?_
   have hmq:=b2I hlt hm
   refine ru 2 ?_
   refine hq_ 59 (a0B (xs:=[_]) (pre:=[(9001,_)]) (a3W g s q hs hmq.1) ⟨rfl,trivial⟩) rfl rfl (a0h rfl pre0) rfl rfl ?_
   refine ru 3 ?_
   refine wdc (fun hr3 hc3=>?_) (fun hr3 hc3=>?_)
   ·refine ru 2 ?_
    refine a2n (xs:=[_]) (pre:=[(9001,_)]) (b5u _ g s q hs hmq.1) ⟨rfl,trivial⟩ (a0h rfl pre0) (fun y c3 hy=>?_)
    refine (a0E ?_)
    exact a2Q ok hX (y,q) (by rw [hy];unfold a2G;rw [hn];simp only;rw [if_pos hc0,if_neg hc1,hm];simp only;rw [if_neg hc3]) rfl (a1F _) ⟨⟨_,rfl,a4T⟩,trivial⟩
   refine ru 21 ?_
   refine a1j ok hX a2j.two rfl (a0H rfl rfl ty_118.h rqc rfl rfl) [] rfl pre0 ((⟨5,i,n,m,[]⟩,q+1)) (by unfold a2G;rw [hn];simp only;rw [if_pos hc0,if_neg hc1,hm];simp only;rw [if_pos hc3]) (by rfl) (by rfl) (a4a a0z a0z a0z a0z a0z) ?_
   exact ⟨⟨_,rfl,c1f kza (a7F om)⟩,trivial⟩
  refine ru 6 ?_
  refine hq_ 59 (a0B (xs:=[_]) (pre:=[(9001,_)]) (a3W g s (p+1) hs hlt) ⟨rfl,trivial⟩) rfl rfl (a0h rfl pre0) rfl rfl ?_
  refine ru 3 ?_
  refine wdc (fun hr3 hc3=>?_) (fun hr3 hc3=>?_)
  ·skip
   exfalso;exact hc3 hc1
  refine ru 21 ?_
  refine a1j ok hX a2j.two rfl (a0H rfl rfl ty_118.h rqc rfl rfl) [] rfl pre0 ((⟨5,i,n,-1,[]⟩,p+2)) (by unfold a2G;rw [hn];simp only;rw [if_pos hc0,if_pos hc1]) (by rfl) (by rfl) (a4a a0z a0z a0z a0z a0z) ?_
  exact ⟨⟨_,rfl,c1f kza (a7F om)⟩,trivial⟩
 refine ru 3 ?_
 refine hq_ 48 (a0B (xs:=[_]) (pre:=[(9001,_)]) (a3W g s p hs hnp.1) ⟨rfl,trivial⟩) rfl rfl (a0h rfl pre0) rfl rfl ?_
 refine ru 8 ?_
 refine wdc (fun hr2 hc2=>?_) (fun hr2 hc2=>?_)
 ·refine ru 3 ?_
  refine a2n (xs:=[_,_,_]) (pre:=[(9001,_)]) (b4u _ _ _ _ _ _) ⟨rfl,⟨rfl,⟨rfl,trivial⟩⟩⟩ (a0h rfl pre0) (fun y c4 hy=>?_)
  refine (a0E ?_)
  exact a2Q ok hX (y,p) (by rw [hy];unfold a2G;rw [hn];simp only;rw [if_neg hc0,if_pos hc2.1,if_pos hc2.2]) rfl (a1F _) ⟨⟨_,rfl,a4T⟩,trivial⟩
 refine ru 6 ?_
 refine hq_ 59 (a0B (xs:=[_]) (pre:=[(9001,_)]) (a3W g s p hs hnp.1) ⟨rfl,trivial⟩) rfl rfl (a0h rfl pre0) rfl rfl ?_
 refine ru 3 ?_
 refine wdc (fun hr3 hc3=>?_) (fun hr3 hc3=>?_)
 ·refine ru 2 ?_
  refine a2n (xs:=[_]) (pre:=[(9001,_)]) (b5u _ g s p hs hnp.1) ⟨rfl,trivial⟩ (a0h rfl pre0) (fun y c5 hy=>?_)
  refine (a0E ?_)
  exact a2Q ok hX (y,p) (by rw [hy];unfold a2G;rw [hn];simp only;rw [if_neg hc0,if_neg hc3]) rfl (a1F _) ⟨⟨_,rfl,a4T⟩,trivial⟩
 refine ru 21 ?_
 refine a1j ok hX a2j.two rfl (a0H rfl rfl ty_118.h rqc rfl rfl) [] rfl pre0 ((⟨5,i,n,n,[]⟩,p+1)) (by unfold a2G;rw [hn];simp only;rw [if_neg hc0,if_pos hc3,if_neg (fun h0=>by rw [hc3,h0] at hr2;exact absurd hr2 dcd)]) (by rfl) (by rfl) (a4a a0z a0z a0z a0z a0z) ?_
 exact ⟨⟨_,rfl,c1f kza (a7F om)⟩,trivial⟩
@[reducible] def sg0:Nat→Nat→HV:=fun _ j=>.imm (([.int .i64 0,.int .i64 0,.int .i64 0,.int .i64 0,.string ByteArray.empty]:List Value).getD j undef)
theorem d0X (c0 g:Nat) (s:List UInt8) (i:Nat) (hs:s.length≤1000000) (hi:smallZ (bz s i)=true):a2y Tryz.prog 108 c0 [.pt 9001 g 0 0] [(9001,rdO g s i)] (SgP (b2F s i) g s):=by
 have hil:=a9i hi
 refine a0p Tryz.func108 rfl kr _ _ _ _ rfl 52 rfl rfl (fun X ok hX=>?_)
 refine ru 16 ?_
 refine a0l (α:=Nat) (fun x c=>⟨52,[(0,.v (.pt 9001 g 0 0)),(2,.v (.pt 2 c0 0 0)),(3,.v (intV i))],[(9001,rdO g s (i+x)),(2,⟨c0,1,5,118,0,sg0⟩)],c⟩) (fun x=>x≤12∧i+x≤s.length∧(∀ j,j < x→alnumZ (bz s (i+j))=true)) (fun x=>12 - x) (0) (by exact ⟨by omega,by omega,fun j h=>absurd h om⟩) (a0b rfl lrf tsa hsa) (fun k c hx NhL1 hL1=>?_)
 (try dsimp only at hx hL1 ⊢)
 obtain ⟨hk,hik,hal⟩:=hx
 refine ru 4 ?_
 refine hq_ 9 (a0B (xs:=[_]) (pre:=[(9001,_)]) (a3W g s (i+k) hs hik) ⟨rfl,trivial⟩) rfl rfl (a0h rfl pre0) rfl rfl ?_
 refine cll (b5W _) ?_
 refine ru 9 ?_
 first
 | refine b4a 20 10 18 true _ (fun hb=>a0B (xs:=[_]) (pre:=[(9001,_)]) (a3W g s (i+k) hs hik) ⟨rfl,trivial⟩) rfl rfl rfl rfl (a0h rfl pre0) rfl rfl rfl ?_
 | refine a5y 20 10 18 11 false true _ _ (fun hb hb2=>a0B (xs:=[_]) (pre:=[(9001,_)]) (a3W g s (i+k) hs hik) ⟨rfl,trivial⟩) rfl rfl rfl rfl rfl (a0h rfl pre0) rfl rfl rfl ?_
 | refine b6r 20 10 18 _ _ true _ (fun hb=>a0B (xs:=[_]) (pre:=[(9001,_)]) (a3W g s (i+k) hs hik) ⟨rfl,trivial⟩) rfl rfl rfl rfl (a0h rfl pre0) rfl rfl rfl ?_
 first
 | refine stg 18 (fun hb=>a0e (xs:=[_]) (b2O _) ⟨rfl,trivial⟩ ⟨(Fz.eq rfl),trivial⟩) rfl rfl rfl rfl rfl ?_
 | refine a5y 21 10 18 11 false true _ _ (fun hb hb2=>a0e (xs:=[_]) (b2O _) ⟨rfl,trivial⟩ ⟨(Fz.eq rfl),trivial⟩) rfl rfl rfl rfl rfl pre0 rfl rfl rfl ?_
 | refine sth 18 (fun hb=>a0e (xs:=[_]) (b2O _) ⟨rfl,trivial⟩ ⟨(Fz.eq rfl),trivial⟩) rfl rfl rfl rfl rfl ?_
 refine ru 4 ?_
 refine wdc (fun hr0 hc0=>?_) (fun hr0 hc0=>?_)
 ·skip
  have hall:alnumZ (bz s (i+k))=true:=(by unfold alnumZ;rw [Bool.or_eq_true];rcases hc0 with h | h;exact .inl h;exact .inr h.2);have hlt:i+k < s.length:=a4P (fun h=>by rw [h] at hall;exact absurd hall dcd)
  refine ru 15 ?_
  refine wdc (fun hr1 hc1=>?_) (fun hr1 hc1=>?_)
  ·refine ru 2 ?_
   refine a2n (xs:=[_]) (pre:=[(9001,_)]) (b5u _ g s (i+k) hs hik) ⟨rfl,trivial⟩ (a0h rfl pre0) (fun y c1 hy=>?_)
   refine (a0E (a2c (a0E (a2c (a0E ?_)))))
   obtain rfl:k=12:=om;exact a2Q ok hX (y,i+12) (by rw [hy,b7u hlt];exact c2s (fun j hj=>by rcases Nat.lt_or_ge j 12 with h | h;exact hal j h;obtain rfl:j=12:=om;exact hall)) rfl (a1F _) ⟨⟨_,rfl,a4T⟩,trivial⟩
  refine ru 13 ?_
  exact hL1 (k+1) _ _ (by (try dsimp only);exact ⟨by omega,by omega,fun j hj=>by rcases Nat.lt_or_ge j k with h | h;exact hal j h;obtain rfl:j=k:=om;exact hall⟩) omd (a0b rfl lrf tsa (a0g.cons rfl (b8H (.refl _) (a0K om)) hsa))
 have hno:alnumZ (bz s (i+k))=false:=(by unfold alnumZ;rw [hc0.1,Bool.false_or];have h2:=hc0.2;rcases Nat.eq_zero_or_pos k with h | h;subst h;rw [Nat.add_zero] at hc0;rw [hi] at hc0;exact absurd hc0.1 dcd;rw [show decide ((i:Int) < ((i+k:Nat):Int))=true from decide_eq_true om,Bool.true_and] at h2;exact h2)
 refine ru 2 ?_
 refine a0c ?_
 refine ru 20 ?_
 refine a1j ok hX a2j.two rfl (a0H rfl rfl ty_118.h rqc rfl rfl) [] rfl pre0 ((⟨1,i,0,0,(s.drop i).take (i+k - i)⟩,i+k)) (c2L hk hal hno) (by rfl) (by rfl) (a4a a0z a0z a0z a0z a0z) ?_
 exact ⟨⟨_,rfl,a4T⟩,trivial⟩
theorem c1z:∀ k:Fin 6,(((⟨#[40,41,124,42,43,63]⟩:ByteArray)[k.val]'k.isLt).toNat < 128)∧((((⟨#[40,41,124,42,43,63]⟩:ByteArray)[k.val]'k.isLt).toNat:Int)=b9v k.val):=by decide +kernel
theorem c2w {k:Nat} (h:k < 6):((⟨#[40,41,124,42,43,63]⟩:ByteArray)[k]'h).toNat < 128:=(c1z ⟨k,h⟩).1
theorem d1d {k:Nat} (h:k < 6):(((⟨#[40,41,124,42,43,63]⟩:ByteArray)[k]'h).toNat:Int)=b9v k:=(c1z ⟨k,h⟩).2
theorem c9H (c0 g:Nat) (s:List UInt8) (i:Nat) (hs:s.length≤1000000) (hi:i≤s.length) (hi0:smallZ (bz s i)=false) (hi1:bz s i≠123):a2y Tryz.prog 107 c0 [.pt 9001 g 0 0] [(9001,rdO g s i)] (SgP (a4j s i) g s):=by
 refine a0p Tryz.func107 rfl kr _ _ _ _ rfl 56 rfl rfl (fun X ok hX=>?_)
 refine ru 8 ?_
 refine a0y 6 (b6c (id:=6) kr rfl) rfl rfl pre0 rfl rfl (c':=c0+2) rfl ?_
 refine ru 3 ?_
 refine a0l (α:=Nat) (fun x c=>⟨56,[(0,.v (.pt 9001 g 0 0)),(2,.v (.pt 2 c0 0 0)),(6,.v (.pt 6 (c0+1) 0 0))],[(6,a8P (c0+1) ⟨#[40,41,124,42,43,63]⟩ x),(9001,rdO g s i),(2,⟨c0,1,5,118,0,sg0⟩)],c⟩) (fun x=>x≤6∧(∀ j,j < x→bz s i≠b9v j)) (fun x=>6 - x) (0) (by exact ⟨by omega,fun j h=>absurd h om⟩) (a0b rfl lrf tsa hsa) (fun k c hx NhL1 hL1=>?_)
 (try dsimp only at hx hL1 ⊢)
 obtain ⟨hk,hno⟩:=hx
 refine ru 1 ?_
 rcases Nat.lt_or_ge k 6 with hk6 | hk6
 ·refine ru 1 ?_
  refine a0y 7 (b8O (c:=b9v k) rfl hk6 (c2w hk6) (d1d hk6)) rfl rfl (a0L rfl) rfl rfl (c':=c+1) rfl ?_
  refine ru 4 ?_
  refine wdc (fun hr0 hc0=>?_) (fun hr0 hc0=>?_)
  ·skip
   have hck:=c2I k
   refine ru 15 ?_
   refine hq_ 12 (a0B (xs:=[_]) (pre:=[(9001,_)]) (a3W g s i hs hi) ⟨rfl,trivial⟩) rfl rfl (a0h rfl pre0) rfl rfl ?_
   refine ru 5 ?_
   refine wdc (fun hr1 hc1=>?_) (fun hr1 hc1=>?_)
   ·refine ru 3 ?_
    exact hL1 (k+1) _ _ (by (try dsimp only);exact ⟨by omega,fun j hj=>by rcases Nat.lt_or_ge j k with h | h;exact hno j h;obtain rfl:j=k:=om;exact hc1⟩) omd (a0b rfl lrf tsa hsa)
   refine ru 28 ?_
   refine wdc (fun hr2 hc2=>?_) (fun hr2 hc2=>?_)
   ·refine ru 30 ?_
    refine a0q ?_
    refine ru 2 ?_
    refine a1j ok hX a2j.two rfl (a0H rfl rfl ty_118.h rqc rfl rfl) [] rfl pre0 ((⟨5,i,0,-1,[]⟩,i+1)) (d0y (hc1.trans hc2)) (by rfl) (by rfl) (a4a a0z a0z a0z a0z a0z) ?_
    exact ⟨⟨_,rfl,c1f kza (a7F om)⟩,trivial⟩
   refine ru 6 ?_
   refine wdc (fun hr3 hc3=>?_) (fun hr3 hc3=>?_)
   ·refine ru 30 ?_
    refine a0q ?_
    refine ru 2 ?_
    refine a1j ok hX a2j.two rfl (a0H rfl rfl ty_118.h rqc rfl rfl) [] rfl pre0 ((⟨5,i,1,-1,[]⟩,i+1)) (d1j (hc1.trans hc3)) (by rfl) (by rfl) (a4a a0z a0z a0z a0z a0z) ?_
    exact ⟨⟨_,rfl,c1f kza (a7F om)⟩,trivial⟩
   refine ru 6 ?_
   refine wdc (fun hr4 hc4=>?_) (fun hr4 hc4=>?_)
   ·refine ru 30 ?_
    refine a0q ?_
    refine ru 2 ?_
    refine a1j ok hX a2j.two rfl (a0H rfl rfl ty_118.h rqc rfl rfl) [] rfl pre0 ((⟨5,i,0,1,[]⟩,i+1)) (d2k (hc1.trans hc4)) (by rfl) (by rfl) (a4a a0z a0z a0z a0z a0z) ?_
    exact ⟨⟨_,rfl,c1f kza (a7F om)⟩,trivial⟩
   refine ru 23 ?_
   refine a0q ?_
   refine ru 2 ?_
   refine a1j ok hX a2j.two rfl (a0H rfl rfl ty_118.h rqc rfl rfl) [] rfl pre0 ((⟨2+k,i,0,0,[]⟩,i+1)) (c7e hk6 hc1 hc2 hc3 hc4) (by rfl) (by rfl) (a4a a0z a0z a0z a0z a0z) ?_
   exact ⟨⟨_,rfl,c1f kza (a7F om)⟩,trivial⟩
  exfalso;cases hr0
 ·refine ru 1 ?_
  refine st1 (b4A rfl (by show ¬ k < 6;omega)) rfl rfl rfl ?_
  refine ru 4 ?_
  refine wdc (fun hr0 hc0=>?_) (fun hr0 hc0=>?_)
  ·skip
   exfalso;cases hr0
  refine ru 2 ?_
  refine a0c ?_
  refine ru 5 ?_
  refine a2n (xs:=[_]) (pre:=[(9001,_)]) (b5u _ g s i hs hi) ⟨rfl,trivial⟩ (a0h rfl pre0) (fun y c1 hy=>?_)
  refine (a0E ?_)
  exact a2Q ok hX (y,i) (by rw [hy];exact c3x hi0 hi1 (fun j hj=>hno j om)) rfl (a1F _) ⟨⟨_,rfl,a4T⟩,trivial⟩
theorem c5B (c0 g:Nat) (s:List UInt8) (i:Nat) (hs:s.length≤1000000) (hi:i≤s.length):a2y Tryz.prog 81 c0 [.pt 9001 g 0 0] [(9001,rdO g s i)] (SgP (a4j s i) g s):=by
 refine a0p Tryz.func81 rfl kr _ _ _ _ rfl 21 rfl rfl (fun X ok hX=>?_)
 refine ru 16 ?_
 refine hq_ 8 (a0B (xs:=[_]) (pre:=[(9001,_)]) (a3W g s i hs hi) ⟨rfl,trivial⟩) rfl rfl (a0h rfl pre0) rfl rfl ?_
 refine ru 7 ?_
 refine cll (b5W _) ?_
 refine ru 3 ?_
 refine wdc (fun hr0 hc0=>?_) (fun hr0 hc0=>?_)
 ·refine ru 10 ?_
  refine a7T 20 (xs:=[]) (pre:=[(9001,_)]) (d0X _ g s i hs hc0) rfl trivial (a0h rfl pre0) rfl rfl (fun y c1 hy=>(a0E (a2Q ok hX y (by unfold a4j;rw [if_pos hc0,hy]) rfl (a1F _) ⟨⟨_,rfl,a4T⟩,trivial⟩))) (fun x1 c1 hx=>?_)
  obtain ⟨x,q⟩:=x1
  (try dsimp only)
  refine ru 4 ?_
  refine a1j ok hX a2j.two rfl (a0H rfl rfl ty_118.h rqc rfl rfl) [] rfl pre0 ((x,q)) (by unfold a4j;rw [if_pos hc0,hx]) (by rfl) (by rfl) (a4a a0z a0z a0z a0z a0z) ?_
  exact ⟨⟨_,rfl,a4T⟩,trivial⟩
 refine ru 7 ?_
 refine wdc (fun hr1 hc1=>?_) (fun hr1 hc1=>?_)
 ·refine ru 10 ?_
  refine a7T 20 (xs:=[]) (pre:=[(9001,_)]) (c9k _ g s i hs (a4P om)) rfl trivial (a0h rfl pre0) rfl rfl (fun y c2 hy=>(a0E (a2Q ok hX y (by unfold a4j;rw [if_neg (by rw [hc0];decide),if_pos hc1,hy]) rfl (a1F _) ⟨⟨_,rfl,a4T⟩,trivial⟩))) (fun x2 c2 hx=>?_)
  obtain ⟨x,q⟩:=x2
  (try dsimp only)
  refine ru 4 ?_
  refine a1j ok hX a2j.two rfl (a0H rfl rfl ty_118.h rqc rfl rfl) [] rfl pre0 ((x,q)) (by unfold a4j;rw [if_neg (by rw [hc0];decide),if_pos hc1,hx]) (by rfl) (by rfl) (a4a a0z a0z a0z a0z a0z) ?_
  exact ⟨⟨_,rfl,a4T⟩,trivial⟩
 refine ru 6 ?_
 refine a7T 20 (xs:=[]) (pre:=[(9001,_)]) (c9H _ g s i hs hi hc0 hc1) rfl trivial (a0h rfl pre0) rfl rfl (fun y c3 hy=>(a0E (a2Q ok hX y hy rfl (a1F _) ⟨⟨_,rfl,a4T⟩,trivial⟩))) (fun x3 c3 hx=>?_)
 obtain ⟨x,q⟩:=x3
 (try dsimp only)
 refine ru 4 ?_
 refine a1j ok hX a2j.two rfl (a0H rfl rfl ty_118.h rqc rfl rfl) [] rfl pre0 ((x,q)) (hx) (by rfl) (by rfl) (a4a a0z a0z a0z a0z a0z) ?_
 exact ⟨⟨_,rfl,a4T⟩,trivial⟩
end
section
open Go.Lib hiding intOf
open Go.RowKit
end
end Go.Proofs.YtkeakpcieokhhaaGreatDoor
namespace Go.Proofs
section
open Go.Shelf
set_option maxRecDepth 100000
end
end Go.Proofs
namespace Go.Proofs.YtkeakpcieokhhaaGreatDoor
section
open Go.Lib hiding intOf
open Go.RowKit
def d3H (n:Nat):UInt8:=if n < 10 then UInt8.ofNat (48+n) else UInt8.ofNat (87+n)
def d0W (c:UInt8):Bool:=decide (32 < c.toNat)&&!decide (c.toNat=127)
def d3a (c:UInt8):List UInt8 :=
 if c.toNat=92 then [92,92] else if c.toNat=32 then [92,115] else if c.toNat=10 then [92,110] else if d0W c then [c] else [92,120,d3H (c.toNat / 16),d3H (c.toNat % 16)]
def d3l (l:List UInt8):List UInt8:=l.flatMap d3a
set_option maxRecDepth 100000
end
section
open Classical in
noncomputable def d3L (l:List UInt8):Option (List UInt8):=if h:∃ b,d3l b=l then some h.choose else none
end
end Go.Proofs.YtkeakpcieokhhaaGreatDoor
namespace Go.Proofs
section
open Go.Shelf
def Tryz.lays137_ren:Go.Shelf.Ren:=⟨fun | 137=>78 | 217=>106 | 266=>124 | n=>n,fun | 9=>9 | 5=>5 | 3=>3 | n=>n,fun | n=>n⟩
theorem Tryz.lays137:Go.Proofs.Lays.n137 Tryz.prog Tryz.lays137_ren:={
 mixed:=by kernel_rfl
 f137:=Tryz.func78.trans (congrArg some (by kernel_rfl))
 f217:=Tryz.func106.trans (congrArg some (by kernel_rfl))
 f266:=Tryz.func124.trans (congrArg some (by kernel_rfl))
 t3:=Tryz.underlying3
 a3:=Tryz.isAgg3
 z3:=Tryz.sizeOf3
 v3:=Tryz.zeroValue3
 t5:=Tryz.underlying5
 a5:=Tryz.isAgg5
 z5:=Tryz.sizeOf5
 v5:=Tryz.zeroValue5
 t9:=Tryz.underlying9
 a9:=Tryz.isAgg9
 z9:=Tryz.sizeOf9
 v9:=Tryz.zeroValue9 }
open Go.RowKit in
theorem Tryz.strings_IndexByte (s:ByteArray) (c:Int) (w:World) :
  Calls Tryz.prog 78 #[.string s,.int .u8 c] w fun e w'=>e=.returned (.int .i64 (Lib.indexByte s.data.toList c.toNat.toUInt8))∧w'=w:=Any.strings_IndexByte Tryz.lays137 s c w
end
end Go.Proofs
namespace Go.Proofs.YtkeakpcieokhhaaGreatDoor
section
open Go.RowKit
set_option maxRecDepth 100000
theorem c7Q (c:UInt8):((c.toNat:Int)).toNat.toUInt8=c:=by simp
theorem b0w (l:List UInt8) (c:UInt8):HPure Tryz.prog 78 [strV l,u8V c] (intV (Lib.indexByte l c)):=by
 refine ⟨⟨_,_,Tryz.func78,rfl,by kernel_rfl⟩,fun w F vs hF hr hw=>?_⟩
 obtain ⟨u,v,rfl,hu,hv⟩:=c9f hr
 rw [hu.imm_inv,hv.imm_inv]
 refine (Tryz.strings_IndexByte ⟨l.toArray⟩ c.toNat w).mono ?_
 rintro e w' ⟨rfl,rfl⟩
 rw [c7Q]
 exact a7d hF (Below.refl _ _)
instance:Inhabited Sg:=⟨⟨0,0,0,0,[]⟩⟩
@[reducible] def c6x (l:List Sg):Nat→Nat→HV:=fun i j=>sgF (l.getD i default) j
@[reducible] def a7Q (l:List Sg):HV:=.sl 5 l.length (c6x l)
def b9u (r:Except (Int×Int) (List Sg)):List Sg×Int×Int:=match r with | .ok l=>(l,0,0) | .error e=>([],e.1,e.2)
@[reducible] def c5Z (r:List Sg×Int×Int):HV:=t3 (a7Q r.1) (intV r.2.1) (intV r.2.2)
@[reducible] def cell1 (g ty:Nat) (x:HV):HObj:=⟨g,1,1,ty,0,fun _ _=>x⟩
theorem a6d {kp sh:List (Nat×HObj)} {g ty:Nat} {f:Nat→Nat→HV} {y:HV} (h:Kz kp sh (f 0 0) y):OKz kp sh ⟨g,1,1,ty,0,f⟩ (cell1 g ty y):=c9Q h
theorem d0A (c ga gb gd gl n:Nat) (F:Nat→Nat→HV) (hF:∀ i j,∃ v,F i j=.imm v) (va ve:Int):c9J Tryz.prog 75 b0J b0J c [.pt 2 ga 0 0,.pt 3 gb 0 0,.pt 4 gd 0 0] (.imm .nilIface)
  [(2,cell1 ga 109 (.os 54 gl 0 n)),(3,cell1 gb 3 (intV va)),(4,cell1 gd 30 (intV ve)),(54,⟨gl,n,5,118,0,F⟩)]
  (a4Q (fun (_:Unit) _=>True) (fun _=>.tup 0 fun _=>default) (fun _=>[(2,cell1 ga 109 (.os 54 gl 0 n)),(3,cell1 gb 3 (intV va)),(4,cell1 gd 30 (intV ve)),(54,⟨gl,n,5,118,0,F⟩)])):=by
 refine b9E _ _ _ d3Z Tryz.func75 rfl kr _ _ _ rfl 21 rfl rfl rfl rfl rfl rfl dcd (fun X ok hX=>?_)
 refine ru 6 ?_
 refine wdc (fun hr0 hc0=>?_) (fun hr0 hc0=>?_)
 ·skip
  exfalso;cases hr0
 refine ru 1 ?_
 refine a1t ?_
 refine a0X ok hX a2j.one rfl  [] rfl pre0 (()) (trivial) (by rfl) (by rfl) (kza) ?_
 exact ⟨⟨_,rfl,a6d kza⟩,⟨⟨_,rfl,a6d kza⟩,⟨⟨_,rfl,a6d kza⟩,⟨⟨_,rfl,.of (fun i j hi hj=>by obtain ⟨v,hv⟩:=hF i j;rw [hv];exact a0z)⟩,trivial⟩⟩⟩⟩
theorem d0l (c ga gb gd:Nat) (x:HV) (va ve:Int) (e:Int×Int):c9J Tryz.prog 75 c3b b3l c [.pt 2 ga 0 0,.pt 3 gb 0 0,.pt 4 gd 0 0] (a7v e)
  [(2,cell1 ga 109 x),(3,cell1 gb 3 (intV va)),(4,cell1 gd 30 (intV ve))]
  (a4Q (fun (_:Unit) _=>True) (fun _=>.tup 0 fun _=>default) (fun _=>[(2,cell1 ga 109 (.imm (.slice none 0 0))),(3,cell1 gb 3 (intV e.1)),(4,cell1 gd 30 (intV e.2))])):=by
 refine b9E _ _ _ (d3W _) Tryz.func75 rfl kr _ _ _ rfl 21 rfl rfl rfl rfl rfl rfl dcd (fun X ok hX=>?_)
 refine ru 6 ?_
 refine wdc (fun hr0 hc0=>?_) (fun hr0 hc0=>?_)
 ·refine ru 3 ?_
  refine s0 (a5h kr rfl) ?_
  refine ru 3 ?_
  refine a0y 4 (a0V (id:=104) (sz:=2) zc_164.h rfl rfl omx omx) rfl rfl pre0 rfl rfl (c':=c+1) rfl ?_
  refine ru 11 ?_
  refine wdc (fun hr1 hc1=>?_) (fun hr1 hc1=>?_)
  ·skip
   exfalso;cases hr1
  refine ru 11 ?_
  refine a1t ?_
  refine a0X ok hX a2j.one rfl  [] rfl pre0 (()) (trivial) (by rfl) (by rfl) (kza) ?_
  exact ⟨⟨_,rfl,a6d kza⟩,⟨⟨_,rfl,a6d kza⟩,⟨⟨_,rfl,a6d kza⟩,trivial⟩⟩⟩
 exfalso;cases hr0
section
variable {P:Program}
end
section
variable {P:Program} {ov:Nat→Option HV} {g:Nat} {d:Option Tmp} {ty T U:TypeId} {pos:String} {af:Array Edge} {gd:Option (Nat×Bool)} {x y:Operand}
end
section
variable {K:Nat→Prop} {w0 w:World} {F0:Addr→Prop} {E:Env} {h:Nat→Option HObj}
end
end
section
open Go.Lib hiding intOf
open Go.RowKit
set_option maxRecDepth 100000
def a4K (a b:Int):List UInt8 :=
 if a=0∧b=-1 then [42]
 else if a=1∧b=-1 then [43]
 else if a=0∧b=1 then [63]
 else if a=b then [123]++itoa a++[125]
 else if b=-1 then [123]++itoa a++[44,125]
 else [123]++itoa a++[44]++itoa b++[125]
@[reducible] def I64 (n:Int):Prop:=-9223372036854775808≤n∧n≤9223372036854775807
def a4p (x:Sg):List UInt8 :=
 if x.kind=1 then x.name else if x.kind=2 then [40] else if x.kind=3 then [41] else if x.kind=4 then [124] else if x.kind=5 then a4K x.low x.high else []
def d2s (f:Bool) (x:Sg):List UInt8:=if f=false∧x.kind≠5 then [32] else []
def b0N:Bool→List Sg→List UInt8
 | _,[]=>[]
 | f,x::r=>d2s f x++a4p x++b0N false r
structure SgOk (x:Sg):Prop where
 name:x.name.length≤100
 low:I64 x.low
 high:I64 x.high
end
section
open Go.Lib hiding intOf
set_option maxRecDepth 100000
theorem a5Y (p u:List UInt8) (k:Nat):bz (p++u) (p.length+k)=bz u k:=by
 unfold bz
 simp only [List.length_append]
 by_cases h:k < u.length
 ·rw [if_pos omo,if_pos h]
  congr 2
  rw [List.getD_eq_getElem?_getD,List.getD_eq_getElem?_getD,List.getElem?_append_right omo,show p.length+k - p.length=k by omega]
 ·rw [if_neg omo,if_neg h]
theorem b1T (p u:List UInt8):bz (p++u) p.length=bz u 0:=a5Y p u 0
theorem a2q {v:List UInt8} (w:List UInt8) {k:Nat} (h:k < v.length):bz (v++w) k=bz v k:=by
 unfold bz
 rw [if_pos (by rw [List.length_append];omega),if_pos h]
 congr 2
 rw [List.getD_eq_getElem?_getD,List.getD_eq_getElem?_getD,List.getElem?_append_left h]
theorem b9i (p u:List UInt8) (k:Nat):a5v (p++u) (p.length+k)=((a5v u k).1,p.length+(a5v u k).2):=by
 unfold a5v
 rw [show p.length+k+1=p.length+(k+1) by omega,show p.length+k+2=p.length+(k+2) by omega]
 simp only [a5Y]
 repeat' split
 all_goals rfl
theorem c4C {v:List UInt8} (w:List UInt8) {k q:Nat} {o:Option Int} (h:a5v v k=(o,q)) (hq:q < v.length):a5v (v++w) k=(o,q):=by
 unfold a5v at h ⊢
 by_cases h0:a0T (bz v k)=true
 ·have l0:=a2l h0
  rw [a2q w l0,if_pos h0]
  rw [if_pos h0] at h
  by_cases h1:a0T (bz v (k+1))=true
  ·have l1:=a2l h1
   rw [if_pos h1] at h
   rw [a2q w l1,if_pos h1]
   by_cases h2:bz v k=48
   ·rw [if_pos h2] at h ⊢;exact h
   ·rw [if_neg h2] at h ⊢
    have l2:k+2 < v.length:=by
     by_cases h3:a0T (bz v (k+2))=true
     ·exact a2l h3
     ·rw [if_neg h3] at h;injection h with _ h;omega
    rw [a2q w l2];exact h
  ·have l1:k+1 < v.length:=by
    rw [if_neg h1] at h;injection h with _ h;omega
   rw [a2q w l1,if_neg h1]
   rw [if_neg h1] at h
   exact h
 ·rw [if_neg h0] at h
  have:k < v.length:=by injection h with _ h;omega
  rw [a2q w this,if_neg h0];exact h
theorem a5k {s:List UInt8} {i q:Nat} {low v:Int} (h:numR s i low=.ok (v,q)):a5v s i=(some v,q)∧¬ (v < low∨20 < v):=by
 unfold numR at h
 split at h
 ·cases h
 ·rename_i n q' hn
  split at h
  ·cases h
  ·rename_i hv
   injection h with h;injection h with h1 h2;subst h1;subst h2
   exact ⟨hn,hv⟩
theorem a9a {v:List UInt8} (w:List UInt8) {i q:Nat} {low n:Int} (h:numR v i low=.ok (n,q)) (hq:q < v.length):numR (v++w) i low=.ok (n,q):=by
 have:=a5k h
 exact b0p (c4C w this.1 hq) this.2
theorem a6p {p u:List UInt8} {k q:Nat} {low n:Int} (h:numR u k low=.ok (n,q)):numR (p++u) (p.length+k) low=.ok (n,p.length+q):=by
 have:=a5k h
 refine b0p ?_ this.2
 rw [b9i,this.1]
inductive CountIs (s:List UInt8) (i:Nat) (n m:Int) (q:Nat):Prop
 | from_ (p:Nat):numR s (i+1) 0=.ok (n,p)→bz s p=44→bz s (p+1)=125→m=-1→q=p+2→CountIs s i n m q
 | both (p r:Nat):numR s (i+1) 0=.ok (n,p)→bz s p=44→¬ bz s (p+1)=125→numR s (p+1) (if 1 > n then 1 else n)=.ok (m,r)→bz s r=125→q=r+1→CountIs s i n m q
 | one (p:Nat):numR s (i+1) 0=.ok (n,p)→bz s p=125→n≠0→m=n→q=p+1→CountIs s i n m q
theorem b1n {s:List UInt8} {i q:Nat} {n m:Int} (h:CountIs s i n m q):a2G s i=.ok (⟨5,i,n,m,[]⟩,q):=by
 cases h with
 | from_ p h h1 h2 hm hq=>subst hm;subst hq;unfold a2G;rw [h];simp only;rw [if_pos h1,if_pos h2]
 | both p r h h1 h2 h3 h4 hq=>subst hq;unfold a2G;rw [h];simp only;rw [if_pos h1,if_neg h2,h3];simp only;rw [if_pos h4]
 | one p h h1 h2 hm hq=>subst hm;subst hq;unfold a2G;rw [h];simp only;rw [if_neg omo,if_pos h1,if_neg h2]
theorem a8C {s:List UInt8} {i q:Nat} {x:Sg} (h:a2G s i=.ok (x,q)):x=⟨5,i,x.low,x.high,[]⟩∧CountIs s i x.low x.high q:=by
 unfold a2G at h
 split at h
 ·cases h
 ·rename_i n p hn
  split at h
  ·rename_i h44
   split at h
   ·rename_i h125
    injection h with h;injection h with h1 h2;subst h1;subst h2
    exact ⟨rfl,.from_ p hn h44 h125 rfl rfl⟩
   ·rename_i h125
    split at h
    ·cases h
    ·rename_i m q' hm
     split at h
     ·rename_i h6
      injection h with h;injection h with h1 h2;subst h1;subst h2
      exact ⟨rfl,.both p q' hn h44 h125 hm h6 rfl⟩
     ·cases h
  ·split at h
   ·rename_i h125
    split at h
    ·cases h
    ·rename_i h0
     injection h with h;injection h with h1 h2;subst h1;subst h2
     exact ⟨rfl,.one p hn h125 h0 rfl rfl⟩
   ·cases h
theorem b2s {s:List UInt8} {i q:Nat} {low n:Int} (h:numR s i low=.ok (n,q)):i < q∧q≤s.length∧0≤n:=by
 have a:=a5k h
 by_cases hi:i≤s.length
 ·have b:=a6K hi a.1
  have c:=b.2.2 _ rfl
  omega
 ·have:a5v s i=(none,i):=b2H (by rw [a7C omo];decide)
  rw [this] at a;cases a.1
theorem b6g {v:List UInt8} (w:List UInt8) {i q:Nat} {n m:Int} (h:CountIs v i n m q):CountIs (v++w) i n m q:=by
  cases h with
  | from_ p h h1 h2 hm hq =>
    have l2:=a4P (s:=v) (i:=p+1) omo
    exact .from_ p (a9a w h omo) (by rw [a2q w omo];exact h1) (by rw [a2q w l2];exact h2) hm hq
  | both p r h h1 h2 h3 h4 hq =>
    have l4:=a4P (s:=v) (i:=r) omo
    have l1:=a4P (s:=v) (i:=p) omo
    have l2:=b2s h3
    exact .both p r (a9a w h l1) (by rw [a2q w l1];exact h1) (by rw [a2q w omo];exact h2) (a9a w h3 l4) (by rw [a2q w l4];exact h4) hq
  | one p h h1 h2 hm hq =>
    have l1:=a4P (s:=v) (i:=p) omo
    exact .one p (a9a w h l1) (by rw [a2q w l1];exact h1) h2 hm hq
theorem b2e {p u:List UInt8} {k q:Nat} {n m:Int} (h:CountIs u k n m q):CountIs (p++u) (p.length+k) n m (p.length+q):=by
  cases h with
  | from_ a h h1 h2 hm hq =>
    refine .from_ (p.length+a) ?_ (by rw [a5Y];exact h1) (by rw [Nat.add_assoc,a5Y];exact h2) hm omo
    rw [Nat.add_assoc];exact a6p h
  | both a r h h1 h2 h3 h4 hq =>
    refine .both (p.length+a) (p.length+r) ?_ (by rw [a5Y];exact h1) (by rw [Nat.add_assoc,a5Y];exact h2) ?_ (by rw [a5Y];exact h4) omo
    · rw [Nat.add_assoc];exact a6p h
    · rw [Nat.add_assoc];exact a6p h3
  | one a h h1 h2 hm hq =>
    refine .one (p.length+a) ?_ (by rw [a5Y];exact h1) h2 hm omo
    rw [Nat.add_assoc];exact a6p h
@[reducible] def TimesOk (a b:Int):Prop:=(0≤a∧a≤20)∧(b=-1∨(1≤b∧a≤b∧b≤20))
inductive SgW:Sg→Prop
 | name {p:Int} {n:List UInt8}:n.length≤12→smallZ (bz n 0)=true→(∀ j,j < n.length→alnumZ (bz n j)=true)→SgW ⟨1,p,0,0,n⟩
 | open_ {p:Int}:SgW ⟨2,p,0,0,[]⟩
 | shut {p:Int}:SgW ⟨3,p,0,0,[]⟩
 | or_ {p:Int}:SgW ⟨4,p,0,0,[]⟩
 | times {p a b:Int}:TimesOk a b→SgW ⟨5,p,a,b,[]⟩
theorem c1k {s:List UInt8}:∀ {f i j:Nat},j < a8Q s i f→alnumZ (bz s (i+j))=true
  | 0,i,j,h=>by simp [a8Q] at h
  | f + 1, i, j, h => by
    unfold a8Q at h
    split at h
    · rename_i ha
      cases j with
      | zero=>exact ha
      | succ j=>rw [show i+(j+1)=i+1+j by omega];exact c1k (f:=f) omo
    · omega
theorem c6L {s:List UInt8}:∀ {f i:Nat},a8Q s i f≤f
  | 0,i=>by simp [a8Q]
  | f + 1, i => by
    unfold a8Q
    split
    · have:=c6L (s:=s) (f:=f) (i:=i+1);omega
    · omega
theorem c5Q {s:List UInt8} {i k j:Nat} (h:j < k) (hk:i+k≤s.length):bz ((s.drop i).take k) j=bz s (i+j):=by
 unfold bz
 rw [if_pos (by rw [List.length_take,List.length_drop];omega),if_pos omo]
 congr 2
 rw [List.getD_eq_getElem?_getD,List.getD_eq_getElem?_getD,List.getElem?_take,if_pos h,List.getElem?_drop]
theorem d1E {s:List UInt8} {i q:Nat} {x:Sg} (h:a4j s i=.ok (x,q)):SgW x:=by
  unfold a4j at h
  split at h
  · rename_i hs
    have hlt:=a9i hs
    unfold b2F at h
    split at h
    · cases h
    · rename_i h13
      injection h with h;injection h with h _;subst h
      have h1:=c6L (s:=s) (f:=13) (i:=i)
      have h2:=b6m (s:=s) (f:=13) (i:=i) omo
      have h0:0 < a8Q s i 13:=by
        have:alnumZ (bz s i)=true:=by unfold alnumZ;rw [hs];rfl
        unfold a8Q;rw [if_pos this];omega
      refine .name (by rw [List.length_take];omega) ?_ (fun j hj=>?_)
      · rw [c5Q h0 h2];exact hs
      · have:j < a8Q s i 13:=by rw [List.length_take] at hj;omega
        rw [c5Q this h2];exact c1k this
  split at h
  · have hc:=a8C h
    rw [hc.1]
    refine .times ?_
    cases hc.2 with
    | from_ p h1 _ _ hm _ =>
      have a:=a5k h1
      have b:=b2s h1
      exact ⟨⟨b.2.2,by omega⟩,.inl hm⟩
    | both p r h1 _ _ h2 _ _ =>
      have a:=a5k h1
      have b:=b2s h1
      have c:=(a5k h2).2
      refine ⟨⟨b.2.2,by omega⟩,.inr ?_⟩
      split at c <;> omega
    | one p h1 _ h3 hm _ =>
      have a:=a5k h1
      have b:=b2s h1
      exact ⟨⟨b.2.2,by omega⟩,.inr ⟨by omega,by omega,by omega⟩⟩
  split at h
  · injection h with h;injection h with h _;subst h;exact .open_
  split at h
  · injection h with h;injection h with h _;subst h;exact .shut
  split at h
  · injection h with h;injection h with h _;subst h;exact .or_
  split at h
  · injection h with h;injection h with h _;subst h;exact .times dcd
  split at h
  · injection h with h;injection h with h _;subst h;exact .times dcd
  split at h
  · injection h with h;injection h with h _;subst h;exact .times dcd
  cases h
theorem c2p {s:List UInt8}:∀ {f i:Nat} {out l:List Sg},(∀ x∈out,SgW x)→b4O s f i out=.ok l→∀ x∈l,SgW x
  | 0,i,out,l,h,e=>by injection e with e;subst e;exact h
  | f + 1, i, out, l, h, e => by
    simp only [b4O] at e
    split at e
    · injection e with e;subst e;exact h
    split at e
    · exact c2p h e
    split at e
    · split at e <;> cases e
    · split at e
      · cases e
      · rename_i x q hx
        refine c2p ?_ e
        intro y hy
        rcases List.mem_append.1 hy with hy | hy
        · exact h y hy
        · rw [List.mem_singleton] at hy;subst hy;exact d1E hx
theorem b3B {s:List UInt8} {l:List Sg} (h:lexV s=.ok l):∀ x∈l,SgW x:=c2p (fun x h=>by cases h) h
theorem b3o:I64 0:=by constructor <;> decide
theorem c6f {n:Int} (h:-1≤n) (h2:n≤20):I64 n:=by constructor <;> omega
theorem SgW.ok {x:Sg} (h:SgW x):SgOk x:=by
 cases h with
 | name h1 _ _=>exact ⟨Nat.le_trans h1 dcd,b3o,b3o⟩
 | open_=>exact ⟨Nat.zero_le _,b3o,b3o⟩
 | shut=>exact ⟨Nat.zero_le _,b3o,b3o⟩
 | or_=>exact ⟨Nat.zero_le _,b3o,b3o⟩
 | @times p a b h=>exact ⟨Nat.zero_le _,c6f (n:=a) omo omo,c6f (n:=b) omo omo⟩
def b2b (a b:Int):Bool:=match a4j (a4K a b) 0 with
 | .ok (x,q)=>decide (x=⟨5,0,a,b,[]⟩)&&decide (q=(a4K a b).length)
 | _=>false
theorem c6S:∀ a:Fin 21,b2b a.val (-1)=true:=by decide +kernel
theorem c9j:∀ a b:Fin 21,(decide (1≤b.val)&&decide (a.val≤b.val))=true→b2b a.val b.val=true:=by decide +kernel
theorem c5i {a b:Int} (h:TimesOk a b):a4j (a4K a b) 0=.ok (⟨5,0,a,b,[]⟩,(a4K a b).length):=by
 have:b2b a b=true:=by
  obtain ⟨⟨h0,h1⟩,h2⟩:=h
  rcases h2 with h2 | ⟨h2,h3,h4⟩
  ·subst h2
   have:=c6S ⟨a.toNat,by omega⟩
   simpa [Int.toNat_of_nonneg h0] using this
  ·have:=c9j ⟨a.toNat,by omega⟩ ⟨b.toNat,by omega⟩ (by simp;omega)
   simpa [Int.toNat_of_nonneg h0,Int.toNat_of_nonneg (show 0≤b by omega)] using this
 unfold b2b at this
 split at this
 ·rename_i x q hx
  rw [hx]
  simp only [Bool.and_eq_true,decide_eq_true_eq] at this
  rw [this.1,this.2]
 ·cases this
theorem a7D {p u:List UInt8} {x:Sg} {q:Nat} (h:a4j u 0=.ok (x,q)) (hs:smallZ (bz u 0)=false):a4j (p++u) p.length=.ok ({ x with at_:=(p.length:Int) },p.length+q):=by
 unfold a4j at h ⊢
 rw [b1T]
 rw [hs] at h ⊢
 rw [if_neg dcd] at h ⊢
 split at h
 ·rename_i h1
  rw [if_pos h1]
  have hc:=a8C h
  have:=b1n (b2e (p:=p) hc.2)
  rw [Nat.add_zero] at this
  rw [this,hc.1]
 ·rename_i h1
  rw [if_neg h1]
  repeat' split at h
  all_goals first
   | (cases h;done)
   | (injection h with h;injection h with h2 h3;subst h2;subst h3;rename_i h4;simp only [h4];rfl)
theorem b2m {v:List UInt8} (w:List UInt8) {x:Sg} {q:Nat} (h:a4j v 0=.ok (x,q)) (hs:smallZ (bz v 0)=false):a4j (v++w) 0=.ok (x,q):=by
 have hl:=a8B h
 unfold a4j at h ⊢
 rw [a2q w omo]
 rw [hs] at h ⊢
 rw [if_neg dcd] at h ⊢
 split at h
 ·rename_i h1
  rw [if_pos h1]
  have hc:=a8C h
  rw [b1n (b6g w hc.2),hc.1]
 ·rename_i h1
  rw [if_neg h1]
  repeat' split at h
  all_goals first
   | (cases h;done)
   | (rename_i h4;simp only [h4];exact h)
def Sep (w:List UInt8):Prop:=alnumZ (bz w 0)=false
theorem b8F {x:Sg} (h:SgW x) (p w:List UInt8) (hw:x.kind=1→Sep w):a4j (p++(a4p x++w)) p.length=.ok ({ x with at_:=(p.length:Int) },p.length+(a4p x).length):=by
  cases h with
  | @name a n h1 h2 h3 =>
    have hn:a4p ⟨1,a,0,0,n⟩=n:=rfl
    rw [hn]
    have h0:0 < n.length:=by
      rcases Nat.eq_zero_or_pos n.length with h | h
      · rw [a7C omo] at h2;exact absurd h2 dcd
      · exact h
    have hs:smallZ (bz (p++(n++w)) p.length)=true:=by rw [b1T,a2q w h0];exact h2
    unfold a4j
    rw [if_pos hs]
    rw [c2L (k:=n.length) omo (fun j hj=>by rw [a5Y,a2q w hj];exact h3 j hj) (by rw [a5Y];have:=a5Y n w 0;rw [Nat.add_zero] at this;rw [this];exact hw rfl)]
    rw [show p.length+n.length - p.length=n.length by omega,List.drop_left,List.take_left]
  | @open_ a=>exact a7D (p:=p) (u:=[40]++w) (x:=⟨2,0,0,0,[]⟩) (q:=1) (b2m w rfl dcd) (by rw [a2q w dcd];decide)
  | @shut a=>exact a7D (p:=p) (u:=[41]++w) (x:=⟨3,0,0,0,[]⟩) (q:=1) (b2m w rfl dcd) (by rw [a2q w dcd];decide)
  | @or_ a=>exact a7D (p:=p) (u:=[124]++w) (x:=⟨4,0,0,0,[]⟩) (q:=1) (b2m w rfl dcd) (by rw [a2q w dcd];decide)
  | @times c a b h =>
    have hn:a4p ⟨5,c,a,b,[]⟩=a4K a b:=rfl
    rw [hn]
    have ht:=c5i h
    have h0:smallZ (bz (a4K a b) 0)=false:=by
      unfold a4K
      repeat' split
      all_goals rfl
    have hl:=a8B ht
    exact a7D (p:=p) (x:=⟨5,0,a,b,[]⟩) (b2m w ht h0) (by rw [a2q w omo];exact h0)
theorem a8k (a b:Int):alnumZ (bz (a4K a b) 0)=false∧bz (a4K a b) 0≠32∧0 < (a4K a b).length:=by
 unfold a4K
 repeat' split
 all_goals first
  | exact ⟨by decide,by decide,by decide⟩
  | (simp only [List.cons_append,List.nil_append,List.append_assoc];exact ⟨rfl,by show (123:Int)≠32;decide,Nat.succ_pos _⟩)
theorem b8i {x:Sg} (h:SgW x):bz (a4p x) 0≠32∧0 < (a4p x).length:=by
  cases h with
  | @name a n h1 h2 h3 =>
    have hn:a4p ⟨1,a,0,0,n⟩=n:=rfl
    rw [hn]
    exact ⟨fun h=>by rw [h] at h2;exact absurd h2 dcd,by have:=a9i h2;omega⟩
  | open_=>exact ⟨show bz [40] 0≠32 by decide,show 0 < [40].length by decide⟩
  | shut=>exact ⟨show bz [41] 0≠32 by decide,show 0 < [41].length by decide⟩
  | or_=>exact ⟨show bz [124] 0≠32 by decide,show 0 < [124].length by decide⟩
  | @times c a b h=>exact (a8k a b).2
theorem c4N:∀ {l:List Sg},(∀ x∈l,SgW x)→Sep (b0N false l)
  | [],_=>by show alnumZ (bz [] 0)=false;decide
  | x :: r, h => by
    have hx:=h x (List.mem_cons_self ..)
    unfold Sep b0N d2s
    by_cases h5:x.kind=5
    · rw [if_neg (by simp [h5]),List.nil_append]
      cases hx with
      | @times c a b h =>
        have hn:a4p ⟨5,c,a,b,[]⟩=a4K a b:=rfl
        rw [hn,a2q _ (a8k a b).2.2]
        exact (a8k a b).1
      | name _ _ _=>exact absurd h5 (by show ¬ (1:Int)=5;decide)
      | open_=>exact absurd h5 (by show ¬ (2:Int)=5;decide)
      | shut=>exact absurd h5 (by show ¬ (3:Int)=5;decide)
      | or_=>exact absurd h5 (by show ¬ (4:Int)=5;decide)
    · rw [if_pos ⟨rfl,h5⟩]
      rfl
def b5h:List Sg→List Sg→Prop
 | [],[]=>True
 | x::a,y::b=>y={ x with at_:=y.at_ }∧b5h a b
 | _,_=>False
theorem b7x:∀ {l:List Sg} {f:Bool} {p:List UInt8} {out:List Sg},(∀ x∈l,SgW x)→out.length+l.length≤200 →
    ∃ l',a5f (p++b0N f l) p.length out=.ok (out++l')∧b5h l l'
  | [],f,p,out,_,_=>⟨[],by rw [b0g (by simp [b0N]),List.append_nil],trivial⟩
  | x :: r, f, p, out, h, hl => by
    have hx:=h x (List.mem_cons_self ..)
    have hr:∀ y∈r,SgW y:=fun y hy=>h y (List.mem_cons_of_mem _ hy)
    have hp:=b8i hx
    rw [List.length_cons] at hl
    have key:∀ q:List UInt8,∃ l',a5f (q++(a4p x++b0N false r)) q.length out=.ok (out++l')∧b5h (x::r) l':=by
      intro q
      have h0:bz (q++(a4p x++b0N false r)) q.length=bz (a4p x) 0:=by rw [b1T,a2q _ hp.2]
      rw [b2h (by simp only [List.length_append];omega) (by rw [h0];exact hp.1) omo (b8F hx q (b0N false r) (fun _=>c4N hr))]
      obtain ⟨l',e,hs⟩:=b7x (l:=r) (f:=false) (p:=q++a4p x) (out:=out++[{ x with at_:=(q.length:Int) }]) hr (by rw [List.length_append];show out.length+1+_≤_;omega)
      rw [List.length_append,List.append_assoc] at e
      exact ⟨{ x with at_:=(q.length:Int) }::l',by rw [e,List.append_assoc];rfl,rfl,hs⟩
    unfold b0N d2s
    by_cases h5:f=false∧x.kind≠5
    · rw [if_pos h5]
      obtain ⟨l',e,hs⟩:=key (p++[32])
      refine ⟨l',?_,hs⟩
      rw [b2n sml (by rw [b1T];rfl),←e]
      simp [List.append_assoc]
    · rw [if_neg h5]
      exact key p
end
section
structure Pt where
 kind:Int
 low:Int
 high:Int
 name:List UInt8
 kids:List Int
 deriving DecidableEq
instance:Inhabited Pt:=⟨⟨0,0,0,[],[]⟩⟩
inductive T where
 | name (s:List UInt8)
 | times (lo hi:Int) (t:T)
 | many (k:Int) (ts:List T)
instance:Inhabited T:=⟨.name []⟩
mutual
def T.size:T→Nat
 | .name _=>1
 | .times _ _ t=>T.size t+1
 | .many _ ts=>T.sizeL ts+1
def T.sizeL:List T→Nat
 | []=>0
 | t::ts=>T.size t+T.sizeL ts
end
def rootsL (b:Nat):List T→List Int
 | []=>[]
 | t::ts=>(((b+t.size:Nat):Int) - 1)::rootsL (b+t.size) ts
mutual
def T.flat (b:Nat):T→List Pt
 | .name s=>[⟨1,0,0,s,[]⟩]
 | .times lo hi t=>T.flat b t++[⟨4,lo,hi,[],[((b+t.size:Nat):Int) - 1]⟩]
 | .many k ts=>T.flatL b ts++[⟨k,0,0,[],rootsL b ts⟩]
def T.flatL (b:Nat):List T→List Pt
 | []=>[]
 | t::ts=>T.flat b t++T.flatL (b+t.size) ts
end
def T.root (b:Nat) (t:T):Int:=((b+t.size:Nat):Int) - 1
theorem T.size_pos (t:T):0 < t.size:=by cases t <;> simp [T.size]
mutual
theorem T.flat_len (b:Nat):∀ t:T,(T.flat b t).length=t.size
 | .name s=>by simp [T.flat,T.size]
 | .times lo hi t=>by simp [T.flat,T.size,T.flat_len b t]
 | .many k ts=>by simp [T.flat,T.size,T.flatL_len b ts]
theorem T.flatL_len (b:Nat):∀ ts:List T,(T.flatL b ts).length=T.sizeL ts
 | []=>by simp [T.flatL,T.sizeL]
 | t::ts=>by simp [T.flatL,T.sizeL,T.flat_len b t,T.flatL_len (b+t.size) ts]
end
theorem T.sizeL_snoc:∀ (ts:List T) (t:T),T.sizeL (ts++[t])=T.sizeL ts+t.size
 | [],t=>by simp [T.sizeL]
 | x::ts,t=>by simp [T.sizeL,T.sizeL_snoc ts t,Nat.add_assoc]
theorem T.flatL_snoc:∀ (ts:List T) (b:Nat) (t:T),T.flatL b (ts++[t])=T.flatL b ts++T.flat (b+T.sizeL ts) t
 | [],b,t=>by simp [T.flatL,T.sizeL]
 | x::ts,b,t=>by simp [T.flatL,T.sizeL,T.flatL_snoc ts,Nat.add_assoc]
theorem a4f:∀ (ts:List T) (b:Nat) (t:T),rootsL b (ts++[t])=rootsL b ts++[T.root (b+T.sizeL ts) t]
 | [],b,t=>by simp [rootsL,T.sizeL,T.root]
 | x::ts,b,t=>by simp [rootsL,T.sizeL,a4f ts,Nat.add_assoc]
theorem a0M:∀ (ts:List T) (b:Nat),(rootsL b ts).length=ts.length
 | [],b=>rfl
 | x::ts,b=>by simp [rootsL,a0M ts]
def kd (l:List Sg) (i:Nat):Int:=if i < l.length then (l.getD i default).kind else 0
theorem b0K {l:List Sg} {i:Nat} (h:i < l.length):kd l i=(l.getD i default).kind:=by unfold kd;rw [if_pos h]
theorem b3K {l:List Sg} {i:Nat} (h:l.length≤i):kd l i=0:=by unfold kd;rw [if_neg omo]
theorem a2Z {l:List Sg} {i:Nat} (h:kd l i≠0):i < l.length:=by
 rcases Nat.lt_or_ge i l.length with h1 | h1
 ·exact h1
 ·exact absurd (b3K h1) h
inductive Seg (l:List Sg):Nat→Nat→Nat→T→Prop
 | name (p:Nat):kd l p=1→Seg l 0 p (p+1) (.name (l.getD p default).name)
 | group (p q:Nat) (t:T):kd l p=2→Seg l 3 (p+1) q t→kd l q=3→Seg l 0 p (q+1) t
 | item (p q:Nat) (t:T):Seg l 0 p q t→kd l q≠5→Seg l 1 p q t
 | times (p q:Nat) (t:T):Seg l 0 p q t→kd l q=5→Seg l 1 p (q+1) (.times (l.getD q default).low (l.getD q default).high t)
 | row1 (p q:Nat) (t:T):Seg l 1 p q t→Seg l 2 p q t
 | row (p q:Nat) (ts:List T) (c:Nat→Nat):2≤ts.length→c 0=p→c ts.length=q→(∀ i,i < ts.length→Seg l 1 (c i) (c (i+1)) (ts.getD i default))→Seg l 2 p q (.many 2 ts)
 | choice1 (p q:Nat) (t:T):Seg l 2 p q t→Seg l 3 p q t
 | choice (p q:Nat) (ts:List T) (c e:Nat→Nat):2≤ts.length→c 0=p→e (ts.length - 1)=q→(∀ i,i < ts.length→Seg l 2 (c i) (e i) (ts.getD i default))→(∀ i,i+1 < ts.length→kd l (e i)=4∧c (i+1)=e i+1)→Seg l 3 p q (.many 3 ts)
def d3z (l:List Sg):Nat→Nat→Nat→Bool→Bool→Int×Bool
  | 0,_,d,it,_=>(-1,decide (0 < l.length)&&(it||decide (0 < d)))
  | f + 1, i, d, it, ct =>
    if (it=true∧kd l i≠1∧kd l i≠2)∨(kd l i=3∧d=0)∨(kd l i=5∧ct=true) then ((i:Int),false)
    else d3z l f (i+1) (if kd l i=2 then d+1 else if kd l i=3 then d - 1 else d) (decide (kd l i=2)||decide (kd l i=4)) (!decide (kd l i=1)&&!decide (kd l i=3))
def chk (l:List Sg) (i d:Nat) (it ct:Bool):Int×Bool:=d3z l (l.length - i) i d it ct
theorem a8u {l:List Sg} {i d:Nat} {it ct:Bool} (h:l.length≤i):chk l i d it ct=(-1,decide (0 < l.length)&&(it||decide (0 < d))):=by
 unfold chk;rw [show l.length - i=0 by omega];rfl
theorem a3H {l:List Sg} {i d:Nat} {it ct:Bool} (h:i < l.length):chk l i d it ct =
  if (it=true∧kd l i≠1∧kd l i≠2)∨(kd l i=3∧d=0)∨(kd l i=5∧ct=true) then ((i:Int),false)
  else chk l (i+1) (if kd l i=2 then d+1 else if kd l i=3 then d - 1 else d) (decide (kd l i=2)||decide (kd l i=4)) (!decide (kd l i=1)&&!decide (kd l i=3)):=by
 unfold chk
 rw [show l.length - i=(l.length - (i+1))+1 by omega]
 rfl
theorem a9O {l:List Sg} {i d:Nat} {it ct:Bool} (h:i < l.length) (hb:(it=true∧kd l i≠1∧kd l i≠2)∨(kd l i=3∧d=0)∨(kd l i=5∧ct=true)):chk l i d it ct=((i:Int),false):=by
 rw [a3H h,if_pos hb]
theorem c8Z {l:List Sg} {i d:Nat} {it ct:Bool} (h:kd l i=1):chk l i d it ct=chk l (i+1) d false false:=by
 rw [a3H (a2Z (by rw [h];decide)),if_neg (by rw [h];simp),h];rfl
theorem b9Z {l:List Sg} {i d:Nat} {it ct:Bool} (h:kd l i=2):chk l i d it ct=chk l (i+1) (d+1) true true:=by
 rw [a3H (a2Z (by rw [h];decide)),if_neg (by rw [h];simp),h];rfl
theorem d2L {l:List Sg} {i d:Nat} {ct:Bool} (h:kd l i=3):chk l i (d+1) false ct=chk l (i+1) d false false:=by
 rw [a3H (a2Z (by rw [h];decide)),if_neg (by rw [h];simp),h];rfl
theorem d0w {l:List Sg} {i d:Nat} {ct:Bool} (h:kd l i=4):chk l i d false ct=chk l (i+1) d true true:=by
 rw [a3H (a2Z (by rw [h];decide)),if_neg (by rw [h];simp),h];rfl
theorem d2t {l:List Sg} {i d:Nat} (h:kd l i=5):chk l i d false false=chk l (i+1) d false true:=by
 rw [a3H (a2Z (by rw [h];decide)),if_neg (by rw [h];simp),h];rfl
theorem c5S {l:List Sg} {i d:Nat} {it ct it' ct':Bool} (h:kd l i=1∨kd l i=2):chk l i d it ct=chk l i d it' ct':=by
 rcases h with h | h
 ·rw [c8Z h,c8Z h]
 ·rw [b9Z h,b9Z h]
theorem a5S {l:List Sg} {v p q:Nat} {t:T} (h:Seg l v p q t):kd l p=1∨kd l p=2:=by
 induction h with
 | name p h=>exact .inl h
 | group p q t h _ _ _=>exact .inr h
 | item p q t _ _ ih=>exact ih
 | times p q t _ _ ih=>exact ih
 | row1 p q t _ ih=>exact ih
 | row p q ts c h2 h0 _ _ ih=>rw [←h0];exact ih 0 omo
 | choice1 p q t _ ih=>exact ih
 | choice p q ts c e h2 h0 _ _ _ ih=>rw [←h0];exact ih 0 omo
theorem a1h {l:List Sg} {v p q:Nat} {t:T} (h:Seg l v p q t):p < q∧q≤l.length:=by
  induction h with
  | name p h=>have:=a2Z (l:=l) (i:=p) (by rw [h];decide);omega
  | group p q t h _ h3 ih=>have:=a2Z (l:=l) (i:=q) (by rw [h3];decide);omega
  | item p q t _ _ ih=>exact ih
  | times p q t _ h5 ih=>have:=a2Z (l:=l) (i:=q) (by rw [h5];decide);omega
  | row1 p q t _ ih=>exact ih
  | row p q ts c h2 h0 he _ ih =>
    have mono:∀ i,i < ts.length→c 0 < c (i+1)∧c (i+1)≤l.length:=by
      intro i
      induction i with
      | zero=>intro hi;exact ih 0 hi
      | succ i ihi=>intro hi;have a:=ihi omo;have b:=ih (i+1) hi;omega
    have:=mono (ts.length - 1) omo
    rw [show ts.length - 1+1=ts.length by omega,h0,he] at this
    exact this
  | choice1 p q t _ ih=>exact ih
  | choice p q ts c e h2 h0 he _ hs ih =>
    have mono:∀ i,i < ts.length→c 0 < e i∧e i≤l.length:=by
      intro i
      induction i with
      | zero=>intro hi;exact ih 0 hi
      | succ i ihi=>intro hi;have a:=ihi omo;have b:=ih (i+1) hi;have c:=hs i hi;omega
    have:=mono (ts.length - 1) omo
    rw [h0,he] at this
    exact this
theorem c9l {n:Nat} {c:Nat→Nat} (h:∀ i,i < n→c i < c (i+1)):∀ i j,i≤j→j≤n→c i+(j - i)≤c j:=by
  intro i j
  induction j with
  | zero => intro h1 h2; have : i = 0 := by omega
            subst this;simp
  | succ j ih =>
    intro h1 h2
    by_cases e:i=j+1
    · subst e;simp
    · have:=ih omo omo;have:=h j omo;omega
theorem a1C:∀ (ts:List T) (i:Nat),i < ts.length→T.sizeL (ts.take (i+1))=T.sizeL (ts.take i)+(ts.getD i default).size
  | t::ts,0,_=>by simp [T.sizeL]
  | t :: ts, i + 1, h => by
    have:=a1C ts i (by simpa using h)
    simp only [List.take_succ_cons,T.sizeL,this,List.getD_cons_succ,Nat.add_assoc]
theorem b0j (ts:List T):T.sizeL (ts.take 0)=0:=by rw [List.take_zero];rfl
theorem a3E {l:List Sg} {v p q:Nat} {t:T} (h:Seg l v p q t):t.size+1+2 * p≤2 * q:=by
  induction h with
  | name p h=>simp only [T.size];omega
  | group p q t h _ h3 ih=>omega
  | item p q t _ _ ih=>exact ih
  | times p q t _ h5 ih=>simp only [T.size];omega
  | row1 p q t _ ih=>exact ih
  | row p q ts c h2 h0 he _ ih =>
    have key:∀ i,i≤ts.length→T.sizeL (ts.take i)+i+2 * c 0≤2 * c i:=by
      intro i
      induction i with
      | zero=>intro _;simp [T.sizeL]
      | succ i ihi=>intro hi;have a:=ihi omo;have b:=ih i hi;rw [a1C ts i hi];omega
    have:=key ts.length lrf
    rw [List.take_length,h0,he] at this
    simp only [T.size];omega
  | choice1 p q t _ ih=>exact ih
  | choice p q ts c e h2 h0 he _ hs ih =>
    have key:∀ i,i < ts.length→T.sizeL (ts.take (i+1))+1+2 * i+2 * c 0≤2 * e i:=by
      intro i
      induction i with
      | zero=>intro hi;have b:=ih 0 hi;rw [a1C ts 0 hi,b0j];omega
      | succ i ihi=>intro hi;have a:=ihi omo;have b:=ih (i+1) hi;have c:=hs i hi;rw [a1C ts (i+1) hi];omega
    have:=key (ts.length - 1) omo
    rw [show ts.length - 1+1=ts.length by omega,List.take_length,h0,he] at this
    simp only [T.size];omega
theorem a6V {l:List Sg} {v p q:Nat} {t:T} (h:Seg l v p q t):∀ d ct,∃ ct',chk l p d true ct=chk l q d false ct'∧(v=0→ct'=false)∧(v≠0→kd l q=5→ct'=true):=by
  induction h with
  | name p h=>intro d ct;exact ⟨false,c8Z h,fun _=>rfl,fun h=>absurd rfl h⟩
  | group p q t h hs h3 ih =>
    intro d ct
    obtain ⟨ct',e,_,_⟩:=ih (d+1) true
    exact ⟨false,by rw [b9Z h,e,d2L h3],fun _=>rfl,fun h=>absurd rfl h⟩
  | item p q t _ h5 ih =>
    intro d ct
    obtain ⟨ct',e,_,_⟩:=ih d ct
    exact ⟨ct',e,fun h=>omo,fun _ h=>absurd h h5⟩
  | times p q t _ h5 ih =>
    intro d ct
    obtain ⟨ct',e,h0,_⟩:=ih d ct
    exact ⟨true,by rw [e,h0 rfl,d2t h5],fun h=>omo,fun _ _=>rfl⟩
  | row1 p q t _ ih =>
    intro d ct
    obtain ⟨ct',e,_,h1⟩:=ih d ct
    exact ⟨ct',e,fun h=>omo,fun _=>h1 dcd⟩
  | row p q ts c h2 h0 he hs ih =>
    intro d ct
    have key:∀ i,i < ts.length→∃ ct',chk l (c 0) d true ct=chk l (c (i+1)) d false ct'∧(kd l (c (i+1))=5→ct'=true):=by
      intro i
      induction i with
      | zero=>intro hi;obtain ⟨ct',e,_,h1⟩:=ih 0 hi d ct;exact ⟨ct',e,h1 dcd⟩
      | succ i ihi =>
        intro hi
        obtain ⟨c1,e1,_⟩:=ihi omo
        obtain ⟨c2,e2,_,h1⟩:=ih (i+1) hi d true
        exact ⟨c2,by rw [e1,←e2];exact c5S (a5S (hs (i+1) hi)),h1 dcd⟩
    obtain ⟨ct',e,h1⟩:=key (ts.length - 1) omo
    rw [show ts.length - 1+1=ts.length by omega,h0,he] at e
    rw [show ts.length - 1+1=ts.length by omega,he] at h1
    exact ⟨ct',e,fun h=>omo,fun _=>h1⟩
  | choice1 p q t _ ih =>
    intro d ct
    obtain ⟨ct',e,_,h1⟩:=ih d ct
    exact ⟨ct',e,fun h=>omo,fun _=>h1 dcd⟩
  | choice p q ts c e h2 h0 he _ hs ih =>
    intro d ct
    have key:∀ i,i < ts.length→∃ ct',chk l (c 0) d true ct=chk l (e i) d false ct'∧(kd l (e i)=5→ct'=true):=by
      intro i
      induction i with
      | zero=>intro hi;obtain ⟨ct',e,_,h1⟩:=ih 0 hi d ct;exact ⟨ct',e,h1 dcd⟩
      | succ i ihi =>
        intro hi
        obtain ⟨c1,e1,_⟩:=ihi omo
        obtain ⟨c2,e2,_,h1⟩:=ih (i+1) hi d true
        have hh:=hs i hi
        exact ⟨c2,by rw [e1,←e2,d0w hh.1,hh.2],h1 dcd⟩
    obtain ⟨ct',e',h1⟩:=key (ts.length - 1) omo
    rw [h0,he] at e'
    rw [he] at h1
    exact ⟨ct',e',fun h=>omo,fun _=>h1⟩
def badAt (l:List Sg) (q:Nat):Int×Bool:=if q < l.length then ((q:Int),false) else (-1,true)
structure BadS (l:List Sg) (p q:Nat):Prop where
 le:p≤q
 len:q≤l.length
 bad:∀ d ct,chk l p d true ct=badAt l q
def b9x (l:List Sg):Prop:=∀ x∈l,1≤x.kind∧x.kind≤5
theorem d0I {l:List Sg} (h:b9x l) (i:Nat):(i < l.length∧1≤kd l i∧kd l i≤5)∨(l.length≤i∧kd l i=0):=by
 rcases Nat.lt_or_ge i l.length with h1 | h1
 ·left
  rw [b0K h1,List.getD_eq_getElem?_getD,List.getElem?_eq_getElem h1]
  exact ⟨h1,h _ (List.getElem_mem h1)⟩
 ·exact .inr ⟨h1,b3K h1⟩
theorem b2u {l:List Sg} {q:Nat} (h:q < l.length):badAt l q=((q:Int),false):=if_pos h
theorem a9U {l:List Sg} {q:Nat} (h:l.length≤q):badAt l q=(-1,true):=if_neg omo
theorem b4v {l:List Sg} {p:Nat} (hl:l≠[]) (hp:p≤l.length) (h1:kd l p≠1) (h2:kd l p≠2):BadS l p p :=
 ⟨Nat.le_refl _,hp,fun d ct=>by
  rcases Nat.lt_or_ge p l.length with h | h
  ·rw [b2u h];exact a9O h (.inl ⟨rfl,h1,h2⟩)
  ·rw [a9U h,a8u h,decide_eq_true (List.length_pos_iff.2 hl)];rfl⟩
theorem b9I {l:List Sg} {p q:Nat} (h:kd l p=2) (hb:BadS l (p+1) q):BadS l p q :=
 ⟨by have:=hb.le;omega,hb.len,fun d ct=>by rw [b9Z h];exact hb.bad _ _⟩
theorem c5a {l:List Sg} {p q:Nat} {t:T} (hk:b9x l) (h:kd l p=2) (hs:Seg l 3 (p+1) q t) (h1:kd l q≠1) (h2:kd l q≠2) (h3:kd l q≠3) (h4:kd l q≠4):BadS l p q:=by
 have hlt:=a1h hs
 refine ⟨by omega,hlt.2,fun d ct=>?_⟩
 obtain ⟨ct',e,_,h5⟩:=a6V hs (d+1) true
 rw [b9Z h,e]
 rcases d0I hk q with ⟨hq,ha,hb⟩ | ⟨hq,_⟩
 ·rw [b2u hq]
  have k5:kd l q=5:=by omega
  exact a9O hq (.inr (.inr ⟨k5,h5 dcd k5⟩))
 ·rw [a9U hq,a8u hq,decide_eq_true omo,decide_eq_true omo];rfl
def b2j (l:List Sg) (p q:Nat) (ts:List T):Prop:=1≤ts.length∧∃ c:Nat→Nat,c 0=p∧c ts.length=q∧∀ i,i < ts.length→Seg l 1 (c i) (c (i+1)) (ts.getD i default)
theorem c1v {l:List Sg} {p q:Nat} {t:T} (h:Seg l 1 p q t):b2j l p q [t] :=
 ⟨Nat.le_refl _,fun i=>if i=0 then p else q,rfl,rfl,fun i hi=>by
  have:i=0:=by simpa using hi
  subst this;exact h⟩
theorem a2z {α:Type} (l:List α) (x d:α):(l++[x]).getD l.length d=x:=by
 rw [List.getD_eq_getElem?_getD,List.getElem?_append_right lrf];simp
theorem a5a {α:Type} {l k:List α} {i:Nat} {d:α} (h:i < l.length):(l++k).getD i d=l.getD i d:=by
 rw [List.getD_eq_getElem?_getD,List.getElem?_append_left h,←List.getD_eq_getElem?_getD]
theorem b8N {l:List Sg} {p q r:Nat} {ts:List T} {t:T} (h:b2j l p q ts) (h2:Seg l 1 q r t):b2j l p r (ts++[t]):=by
 obtain ⟨h1,c,h0,he,hs⟩:=h
 refine ⟨by simp,fun i=>if i≤ts.length then c i else r,by simp [h0],by simp only [List.length_append,List.length_singleton];rw [if_neg omo],fun i hi=>?_⟩
 rw [List.length_append,List.length_singleton] at hi
 by_cases e:i=ts.length
 ·subst e
  rw [a2z]
  simp only [Nat.le_refl,if_true,if_neg (show ¬ ts.length+1≤ts.length by omega),he]
  exact h2
 ·have hi':i < ts.length:=by omega
  rw [a5a hi']
  simp only [if_pos (show i≤ts.length by omega),if_pos (show i+1≤ts.length by omega)]
  exact hs i hi'
theorem b3m {l:List Sg} {p q:Nat} {ts:List T} (h:b2j l p q ts) (h2:2≤ts.length):Seg l 2 p q (.many 2 ts):=by
 obtain ⟨h1,c,h0,he,hs⟩:=h
 exact .row p q ts c h2 h0 he hs
theorem b1r {l:List Sg} {p q:Nat} {t:T} (h:b2j l p q [t]):Seg l 2 p q t:=by
 obtain ⟨h1,c,h0,he,hs⟩:=h
 have:=hs 0 sml
 rw [h0,show 0+1=[t].length from rfl,he] at this
 exact .row1 p q t this
theorem b1W {l:List Sg} {p q:Nat} {ts:List T} (h:b2j l p q ts):p < q∧q≤l.length∧T.sizeL ts+ts.length+2 * p≤2 * q:=by
  obtain ⟨h1,c,h0,he,hs⟩:=h
  have key:∀ i,i < ts.length→c 0 < c (i+1)∧c (i+1)≤l.length∧T.sizeL (ts.take (i+1))+(i+1)+2 * c 0≤2 * c (i+1):=by
    intro i
    induction i with
    | zero =>
      intro hi
      have a:=a1h (hs 0 hi);have b:=a3E (hs 0 hi)
      rw [a1C ts 0 hi,b0j];omega
    | succ i ih =>
      intro hi
      have a:=a1h (hs (i+1) hi);have b:=a3E (hs (i+1) hi);have c:=ih omo
      rw [a1C ts (i+1) hi];omega
  have:=key (ts.length - 1) omo
  rw [show ts.length - 1+1=ts.length by omega,List.take_length,h0,he] at this
  exact this
theorem c2m {l:List Sg} {p q:Nat} {ts:List T} (h:b2j l p q ts) (d:Nat) (ct:Bool):∃ ct',chk l p d true ct=chk l q d false ct':=by
  by_cases h2:2≤ts.length
  · obtain ⟨ct',e,_⟩:=a6V (b3m h h2) d ct;exact ⟨ct',e⟩
  · match ts, h, h2 with
    | [t],h,_=>obtain ⟨ct',e,_⟩:=a6V (b1r h) d ct;exact ⟨ct',e⟩
    | [],h,_=>exact absurd h.1 sml
    | _::_::_,_,h2=>exact absurd sml h2
theorem c2M {l:List Sg} {p q r:Nat} {ts:List T} (h:b2j l p q ts) (hk:kd l q=1∨kd l q=2) (hb:BadS l q r):BadS l p r:=by
 have:=b1W h
 refine ⟨by have:=hb.le;omega,hb.len,fun d ct=>?_⟩
 obtain ⟨ct',e⟩:=c2m h d ct
 rw [e,c5S hk];exact hb.bad d ct
def b2o (l:List Sg) (p q:Nat) (ts:List T):Prop:=1≤ts.length∧∃ c e:Nat→Nat,c 0=p∧e (ts.length - 1)=q∧(∀ i,i < ts.length→Seg l 2 (c i) (e i) (ts.getD i default))∧∀ i,i+1 < ts.length→kd l (e i)=4∧c (i+1)=e i+1
theorem c4A {l:List Sg} {p q:Nat} {t:T} (h:Seg l 2 p q t):b2o l p q [t] :=
 ⟨Nat.le_refl _,fun _=>p,fun _=>q,rfl,rfl,fun i hi=>by
  have:i=0:=by simpa using hi
  subst this;exact h,fun i hi=>by simp at hi⟩
theorem c2d {l:List Sg} {p q r:Nat} {ts:List T} {t:T} (h:b2o l p q ts) (h4:kd l q=4) (h2:Seg l 2 (q+1) r t):b2o l p r (ts++[t]):=by
 obtain ⟨h1,c,e,h0,he,hs,hg⟩:=h
 refine ⟨by simp,fun i=>if i < ts.length then c i else q+1,fun i=>if i < ts.length then e i else r,by simp only;rw [if_pos omo];exact h0,by simp,fun i hi=>?_,fun i hi=>?_⟩
 ·rw [List.length_append,List.length_singleton] at hi
  by_cases e':i=ts.length
  ·subst e'
   rw [a2z]
   simp only [Nat.lt_irrefl,if_false]
   exact h2
  ·have hi':i < ts.length:=by omega
   rw [a5a hi']
   simp only [if_pos hi']
   exact hs i hi'
 ·rw [List.length_append,List.length_singleton] at hi
  simp only
  rw [if_pos (show i < ts.length by omega)]
  by_cases e':i+1=ts.length
  ·rw [if_neg omo,show i=ts.length - 1 by omega,he];exact ⟨h4,rfl⟩
  ·rw [if_pos omo];exact hg i omo
theorem a9P {l:List Sg} {p q:Nat} {ts:List T} (h:b2o l p q ts) (h2:2≤ts.length):Seg l 3 p q (.many 3 ts):=by
 obtain ⟨h1,c,e,h0,he,hs,hg⟩:=h
 exact .choice p q ts c e h2 h0 he hs hg
theorem a8E {l:List Sg} {p q:Nat} {t:T} (h:b2o l p q [t]):Seg l 3 p q t:=by
 obtain ⟨h1,c,e,h0,he,hs,hg⟩:=h
 have:=hs 0 sml
 rw [h0,show 0=[t].length - 1 from rfl,he] at this
 exact .choice1 p q t this
theorem b5J {l:List Sg} {p q:Nat} {ts:List T} (h:b2o l p q ts):p < q∧q≤l.length∧T.sizeL ts+ts.length+2 * p≤2 * q:=by
  obtain ⟨h1,c,e,h0,he,hs,hg⟩:=h
  have key:∀ i,i < ts.length→c 0 < e i∧e i≤l.length∧T.sizeL (ts.take (i+1))+(i+1)+2 * c 0≤2 * e i:=by
    intro i
    induction i with
    | zero =>
      intro hi
      have a:=a1h (hs 0 hi);have b:=a3E (hs 0 hi)
      rw [a1C ts 0 hi,b0j];omega
    | succ i ih =>
      intro hi
      have a:=a1h (hs (i+1) hi);have b:=a3E (hs (i+1) hi);have c:=ih omo;have d:=hg i hi
      rw [a1C ts (i+1) hi];omega
  have:=key (ts.length - 1) omo
  rw [show ts.length - 1+1=ts.length by omega,List.take_length,h0,he] at this
  exact this
theorem c4K {l:List Sg} {p q:Nat} {ts:List T} (h:b2o l p q ts) (d:Nat) (ct:Bool):∃ ct',chk l p d true ct=chk l q d false ct':=by
  by_cases h2:2≤ts.length
  · obtain ⟨ct',e,_⟩:=a6V (a9P h h2) d ct;exact ⟨ct',e⟩
  · match ts, h, h2 with
    | [t],h,_=>obtain ⟨ct',e,_⟩:=a6V (a8E h) d ct;exact ⟨ct',e⟩
    | [],h,_=>exact absurd h.1 sml
    | _::_::_,_,h2=>exact absurd sml h2
theorem c4Q {l:List Sg} {p q r:Nat} {ts:List T} (h:b2o l p q ts) (h4:kd l q=4) (hb:BadS l (q+1) r):BadS l p r:=by
 have:=b5J h
 refine ⟨by have:=hb.le;omega,hb.len,fun d ct=>?_⟩
 obtain ⟨ct',e⟩:=c4K h d ct
 rw [e,d0w h4];exact hb.bad d true
theorem c4G {l:List Sg} {q:Nat} {t:T} (hk:b9x l) (hs:Seg l 3 0 q t) (hq:q < l.length) (h1:kd l q≠1) (h2:kd l q≠2) (h4:kd l q≠4):chk l 0 0 true true=((q:Int),false):=by
 obtain ⟨ct',e,_,h5⟩:=a6V hs 0 true
 rw [e]
 have:=d0I hk q
 rcases Int.lt_or_le (kd l q) 4 with h | h
 ·exact a9O hq (.inr (.inl ⟨by omega,rfl⟩))
 ·have k5:kd l q=5:=by omega
  exact a9O hq (.inr (.inr ⟨k5,h5 dcd k5⟩))
theorem b2l {l:List Sg} {t:T} (hs:Seg l 3 0 l.length t):chk l 0 0 true true=(-1,false):=by
 obtain ⟨ct',e,_,h5⟩:=a6V hs 0 true
 rw [e,a8u lrf]
 simp
end
end Go.Proofs.YtkeakpcieokhhaaGreatDoor
