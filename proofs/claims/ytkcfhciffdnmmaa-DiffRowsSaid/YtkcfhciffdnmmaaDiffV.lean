/-
  How a function begins and ends; what a state may forget. Plain lemmas, no program in sight.
-/
import Derived.Test.YtkcfhciffdnmmaaHk
import Derived.LoopN
import Derived.Test.YtkcfhciffdnmmaaChecked
import Derived.Laws.IdiomStrings
import Derived.Recover
import Derived.Laws.RangeString
namespace Go.Proofs.Ytkcfhciffdnmmaa
set_option linter.unusedSimpArgs false
set_option linter.unusedVariables false
open Go.RowKit
def Ctx.top (w:World) (F:Addr→Prop):Ctx:=⟨fun _=>True,w,Env.just F,[],none,none⟩
def slots:Nat→List HV→List (Nat×TV)
 | _,[]=>[]
 | k,x::r=>(k,.v x)::slots (k+1) r
theorem tget_slots:∀ (l:List HV) (k t:Nat) (x:TV),tget (slots k l) t=some x→∃ i h,t=k+i∧l[i]?=some h∧x=.v h
  | [],_,_,_,h=>by cases h
  | a :: l, k, t, x, h => by
    rw [slots,tget_cons] at h
    split at h
    · rename_i e
      injection h with h
      exact ⟨0,a,by omega,rfl,h.symm⟩
    · obtain ⟨i,y,h1,h2,h3⟩:=tget_slots l (k+1) t x h
      exact ⟨i+1,y,by omega,by simpa using h2,h3⟩
theorem RepAll.get {w:World} {E:Env}:∀ {vs:List Value} {xs:List HV},RepAll w E vs xs→vs.length=xs.length∧∀ (i:Nat) (x:HV),xs[i]?=some x→∃ v,vs[i]?=some v∧Rep w E v x
  | [],[],_=>⟨rfl,fun i x h=>by simp at h⟩
  | v :: vs, x :: xs, h => by
    obtain ⟨h1,h2⟩:=RepAll.get h.2
    refine ⟨by simp [h1],fun i y hy=>?_⟩
    cases i with
    | zero=>simp at hy;subst hy;exact ⟨v,rfl,h.1⟩
    | succ i=>exact h2 i y (by simpa using hy)
  | [],_::_,h=>h.elim
  | _::_,[],h=>h.elim
section
variable {P:Program}
theorem hpure_of {f:FuncId} {fn:Func} {c:Code} (hf:P.funcs[f]?=some fn) (hb:fn.body=some c) (hn:(fn.name == "runtime.NumGoroutine")=false) (args:List HV) (r:HV) (tm:List (Nat×TV)) (htm:slots 0 args=tm) (n:Nat) (hnt:fn.ntmps=n) (hlen:Nat.ble args.length n=true)
  (h:∀ w F,HWp (Ctx.top w F) P c ⟨n,tm,[],0⟩ (bodyPost P fn (PurePost w F r))):HPure P f args r:=by
 refine ⟨⟨fn,c,hf,hb,hn⟩,fun w F vs hF hr hw=>calls_of_wp hf hb (wpR_none.1 (h w F _ w ?_))⟩
 obtain ⟨hl,hg⟩:=hr.get
 have hlen:args.length≤n:=by simpa using hlen
 refine ⟨Env.just F,Ext.refl _ _,⟨rfl,rfl,rfl,Nat.le_refl _,fun _ _ _=>rfl,hF,fun a ha=>.inl ha,fun _ _=>trivial,hw,(fun b hb=>hb.elim),(fun id o ho=>by cases ho),(fun id id' o o' l l' b ho=>by cases ho)⟩,fun g hg=>hg.elim,?_,rfl,fun t x hx=>?_⟩
 ·simp [hl,hnt];omega
 ·rw [←htm] at hx
  obtain ⟨i,y,rfl,h2,rfl⟩:=tget_slots args 0 t x hx
  obtain ⟨v,hv,hrep⟩:=hg i y h2
  have hi:i < vs.length:=by
   rcases Nat.lt_or_ge i vs.length with h | h
   ·exact h
   ·rw [List.getElem?_eq_none h] at hv;cases hv
  have:({ tmps:=vs.toArray++Array.replicate (fn.ntmps - vs.toArray.size) undef,defers:=[] }:Act).tmps.getD (0+i) undef=v:=by
   rw [Nat.zero_add]
   simp only [Array.getD_eq_getD_getElem?]
   rw [Array.getElem?_append_left (by simpa using hi)]
   simp [hv]
  rw [this]
  exact hrep
theorem PurePost.of {w:World} {F:Addr→Prop} {E:Env} {s:HSt} {w':World} (e0:Ext w (Env.just F) w' E) (r:R (fun _=>True) w F E (hget s.hp) w') (sh:List (Nat×HObj)) (hd:dupfree (sh.map (·.1))=true) (hsh:∀ p∈sh,hget s.hp p.1=some p.2) {x y:HV} {v:Value} (hz:Fz sh x y) (hv:Rep w' E v x) :
  PurePost w F y (.returned v) w':=by
 obtain ⟨E1,e1,hL,hG,hs1,r1⟩:=r.shareAll sh hd hsh
 refine ⟨⟨r.os,r.tape,r.output,r.size,fun k hk=>r.keep k hk trivial⟩,v,E1.F,rfl,fun a ha=>(e1.F a (e0.F a ha).1).1,fun a ha=>?_,r1.frz,hz.sound hs1 (hv.ext e1)⟩
 rcases r1.fnew a ha with h | h | h
 ·exact .inl h
 ·exact .inr h
 ·exact absurd trivial h
def RVal (P:Program) (s:HSt) (rv:ResultVar) (x:HV):Prop:=∀ (C:Ctx) (a:Act) (w:World) (E:Env),R C.K C.w0 C.E0.F E (hget s.hp) w→(∀ t x,tget s.tm t=some x→TVRep w E a (a.tmps.getD t undef) x) →
 ∃ v,(match rv with | .tmp t=>pure (a.tmps.getD t undef) | .cell p t=>do loadVar t (←asAddr (a.tmps.getD p undef)):Sem Value).run P w=.ok v w∧Rep w E v x
theorem rval_tmp {s:HSt} {t:Nat} {x:HV} (h:tget s.tm t=some (.v x)):RVal P s (.tmp t) x:=fun C a w E r ht=>⟨_,rfl,ht t _ h⟩
theorem rval_cell {s:HSt} {t:Nat} {T:TypeId} {id sz:Nat} {gg:Nat} {b:Bool} {o:HObj} (h:tget s.tm t=some (.v (.pt id gg 0 0))) (ho:hget s.hp id=some o) (hg:o.g=gg) (hT:tyOf P T=some (b,sz)) (hs:b=false→sz=1) (hn:Nat.blt 0 o.n=true) (hz:Nat.ble sz o.sz=true):RVal P s (.cell t T) (ldv b sz (o.f 0) 0):=fun C a w E r ht=>by
  subst hg
  have hn:0 < o.n:=by simpa [Nat.blt_eq] using hn
  have hz:sz≤o.sz:=by simpa using hz
  have hv:=ht t _ h
  obtain ⟨l,bl,cs,hl,hlg,hlsz,hA,hB,hcs,hnc,hm,vs,hvs⟩:=r.objAt ho hn
  generalize hq:a.tmps.getD t undef=u at hv
  cases hv with
  | pt b' k' _ _ _ _ hg hh =>
    obtain ⟨hb',rfl⟩:=hh l hl hlg
    rw [hA] at hb';injection hb' with hb';subst hb'
    obtain ⟨v,hrun,hrep⟩:=run_loadVar_cells hT hs w E bl (0 * l.sz+0) (fun j=>vs 0 (0+j)) (fun j=>o.f 0 (0+j)) (fun j hj=>by
      have hlt:0+j < o.sz:=by omega
      rw [hB.cell,show 0 * l.sz+0+j=0 * o.sz+(0+j) from by simp]
      exact hvs 0 (0+j) hn hlt)
    refine ⟨v,?_,?_⟩
    · simp only [hq,asAddr,Sem.run_bind,Sem.run_pure,Result.andThen_ok]
      exact hrun
    · cases b
      · simpa [ldv] using hrep
      · simpa [ldv] using hrep
theorem rvl_cell {s:HSt} {t:Nat} {T oty:TypeId} {id gg sz n osz fl:Nat} {b:Bool} {f:Nat→Nat→HV} (h:tget s.tm t=some (.v (.pt id gg 0 0))) (ho:hget s.hp id=some ⟨gg,n,osz,oty,fl,f⟩) (hT:tyOf P T=some (b,sz)) (hs:b=false→sz=1) (hn:Nat.blt 0 n=true) (hz:Nat.ble sz osz=true):RVal P s (.cell t T) (ldv b sz (f 0) 0):=rval_cell h ho rfl hT hs hn hz
theorem andThen_chain {α β γ:Type} {r:Result α} {f:α→World→Result β} {k:β→World→Result γ} {v:β} {w:World} (h:r.andThen f=.ok v w):(r.andThen fun a w'=>(f a w').andThen k)=k v w:=by
 cases r with
 | ok a w'=>simp only [Result.andThen] at h ⊢;rw [h]
 | halt x w'=>simp [Result.andThen] at h
@[reducible] def t2 (x1 x2:HV):HV:=.tup 2 (fun i=>match i with | 0=>x1 | _=>x2)
theorem fz_t2 {sh:List (Nat×HObj)} {x1 x2 y1 y2:HV} (h1:Fz sh x1 y1) (h2:Fz sh x2 y2):Fz sh (t2 x1 x2) (t2 y1 y2):=.tup _ _ _ fun i hi=>by
 match i,hi with
 | 0,_=>exact h1
 | 1,_=>exact h2
theorem hq_ret1 {w:World} {F:Addr→Prop} {fn:Func} {rv:ResultVar} {s:HSt} {x y:HV} (hres:fn.results=#[rv]) (hrv:RVal P s rv x) (sh:List (Nat×HObj)) (hd:dupfree (sh.map (·.1))=true) (hsh:∀ p∈sh,hget s.hp p.1=some p.2) (hz:Fz sh x y) :
  HQ (Ctx.top w F) (bodyPost P fn (PurePost w F y)) .ret s:=by
 intro a w' ⟨E,e0,r,hG,hsz,hdf,ht⟩
 obtain ⟨v,h1,h2⟩:=hrv (Ctx.top w F) a w' E r ht
 refine ⟨hdf,v,?_,PurePost.of e0 r sh hd hsh hz h2⟩
 have:(results fn a.tmps).run P w'=.ok v w':=by
  unfold results
  rw [hres]
  cases rv with
  | tmp t=>simp at h1 ⊢;exact h1
  | cell p t=>simp [Sem.run_bind] at h1 ⊢;simp [h1]
 exact this
theorem hq_ret2 {w:World} {F:Addr→Prop} {fn:Func} {rv1 rv2:ResultVar} {s:HSt} {x1 x2 y:HV} (hres:fn.results=#[rv1,rv2]) (hrv1:RVal P s rv1 x1) (hrv2:RVal P s rv2 x2) (sh:List (Nat×HObj)) (hd:dupfree (sh.map (·.1))=true) (hsh:∀ p∈sh,hget s.hp p.1=some p.2)
  (hz:Fz sh (t2 x1 x2) y):HQ (Ctx.top w F) (bodyPost P fn (PurePost w F y)) .ret s:=by
 intro a w' ⟨E,e0,r,hG,hsz,hdf,ht⟩
 obtain ⟨v1,h1,g1⟩:=hrv1 (Ctx.top w F) a w' E r ht
 obtain ⟨v2,h2,g2⟩:=hrv2 (Ctx.top w F) a w' E r ht
 have hrep:Rep w' E (.tuple #[v1,v2]) (.tup 2 (fun i=>match i with | 0=>x1 | _=>x2)) :=
  .tup _ 2 _ (fun i=>match i with | 0=>v1 | _=>v2) rfl (fun i hi=>by match i,hi with | 0,_=>rfl | 1,_=>rfl) (fun i hi=>by match i,hi with | 0,_=>exact g1 | 1,_=>exact g2)
 refine ⟨hdf,_,?_,PurePost.of e0 r sh hd hsh hz hrep⟩
 have:(results fn a.tmps).run P w'=.ok (.tuple #[v1,v2]) w':=by
  unfold results
  rw [hres]
  cases rv1 <;> cases rv2 <;> (simp [Sem.run_bind] at h1 h2 ⊢)
  all_goals first | done | (try (first | rw [andThen_chain h1] | skip);try (first | rw [andThen_chain h2] | skip);try simp [h1,h2])
 exact this
theorem pre0 {hp:List (Nat×HObj)}:∀ p∈([]:List (Nat×HObj)),hget hp p.1=some p.2:=fun p h=>by cases h
theorem pre1 {hp:List (Nat×HObj)} {id:Nat} {o:HObj} (h:hget hp id=some o):∀ p∈[(id,o)],hget hp p.1=some p.2:=fun p hp=>by
 rw [List.mem_singleton] at hp;subst hp;exact h
theorem preC {hp:List (Nat×HObj)} {id:Nat} {o:HObj} {r:List (Nat×HObj)} (h:hget hp id=some o) (hr:∀ p∈r,hget hp p.1=some p.2):∀ p∈(id,o)::r,hget hp p.1=some p.2:=fun p hp=>by
 rcases List.mem_cons.1 hp with rfl | hp
 ·exact h
 ·exact hr p hp
def TmSub (tm:List (Nat×TV)) (tm':List (Nat×TV)):Prop:=∀ t x',tget tm' t=some x'→∃ x y,x'=.v y∧tget tm t=some (.v x)∧Sb x y
theorem TmSub.nil {tm:List (Nat×TV)}:TmSub tm []:=fun t x h=>by cases h
theorem TmSub.cons {tm r:List (Nat×TV)} {t:Nat} {x y:HV} (h:tget tm t=some (.v x)) (hs:Sb x y) (hr:TmSub tm r):TmSub tm ((t,.v y)::r):=fun t' x' h'=>by
 rw [tget_cons] at h'
 split at h'
 ·rename_i e;subst e;injection h' with h';exact ⟨x,y,h'.symm,h,hs⟩
 ·exact hr t' x' h'
def HpSub (hp hp':List (Nat×HObj)):Prop:=∀ id o',hget hp' id=some o'→∃ o,hget hp id=some o∧OSub o o'
theorem HpSub.nil {hp:List (Nat×HObj)}:HpSub hp []:=fun t x h=>by cases h
theorem HpSub.cons {hp r:List (Nat×HObj)} {id:Nat} {o o':HObj} (h:hget hp id=some o) (hs:OSub o o') (hr:HpSub hp r):HpSub hp ((id,o')::r):=fun t' x' h'=>by
 rw [hget_cons] at h'
 unfold hset at h'
 split at h'
 ·rename_i e;subst e;injection h' with h';subst h';exact ⟨o,h,hs⟩
 ·exact hr t' x' h'
theorem HpSub.refl (hp:List (Nat×HObj)):HpSub hp hp:=fun id o h=>⟨o,h,.refl o⟩
theorem hsub_of {C:Ctx} {s s':HSt} (hn:s.n=s'.n) (hc:s.clk≤s'.clk) (ht:TmSub s.tm s'.tm) (hh:HpSub s.hp s'.hp):HSub C s s':=by
 intro a w ⟨E,e0,r,hG,hsz,hdf,htm⟩
 refine ⟨E,e0,{ r with obj:=fun id o ho=>?_,inj:=fun id id' o o' l l' b ho ho' hl hl' hb hb'=>?_ },fun g hg=>Nat.lt_of_lt_of_le (hG g hg) hc,hsz.trans hn,hdf,fun t x hx=>?_⟩
 ·obtain ⟨o1,ho1,hs⟩:=hh id o ho
  obtain ⟨l,hl,a1⟩:=r.obj id o1 ho1
  exact ⟨l,hl,hs.at_ a1⟩
 ·obtain ⟨o1,ho1,_⟩:=hh id o ho
  obtain ⟨o2,ho2,_⟩:=hh id' o' ho'
  exact r.inj id id' o1 o2 l l' b ho1 ho2 hl hl' hb hb'
 ·obtain ⟨y,z,rfl,hy,hs⟩:=ht t x hx
  exact hs.sound (htm t _ hy)
theorem HSub.refl (C:Ctx) (s:HSt):HSub C s s:=fun _ _ h=>h
theorem hw_loopc {C:Ctx} {P:Program} {Q:Exit→Act→World→Prop} {n:Nat} {tm0:List (Nat×TV)} {hp0:List (Nat×HObj)} {c0:Nat} {α:Type} {body:Code} (st:α→Nat→HSt) (I:α→Prop) (m:α→Nat) (x0:α) (h0:I x0) (hs0:HSub C ⟨n,tm0,hp0,c0⟩ (st x0 c0))
  (round:∀ x c,I x→∀ N:Act→World→Prop,(∀ y c' s',I y→m y < m x→HSub C s' (st y c')→HQ C (Exit.then N Q) .normal s')→HWp C P body (st x c) (Exit.then N Q)):HWp C P (.loop body) ⟨n,tm0,hp0,c0⟩ Q :=
 hw_loop (α:=α×Nat) (fun p=>st p.1 p.2) (fun p=>I p.1) (fun p=>m p.1) (x0,c0) h0 hs0 (fun p hp N hN=>round p.1 p.2 hp N (fun y c' s' h1 h2 h3=>hN (y,c') s' h1 h2 h3))
section
variable {K:Nat→Prop} {w0 w w':World} {F0:Addr→Prop} {E E':Env} {h h':Nat→Option HObj}
theorem R.newNil (r:R K w0 F0 E h w) (id g sz:Nat) (ty:TypeId) (f:Nat→Nat→HV) (hg:¬ E.G g) (hsz:0 < sz) :
  Ext w E w (E.place id ⟨g,none,0,sz⟩)∧R K w0 F0 (E.place id ⟨g,none,0,sz⟩) (hset h id ⟨g,0,sz,ty,0,f⟩) w:=by
 have e:Ext w E w (E.place id ⟨g,none,0,sz⟩):=⟨Nat.le_refl _,fun a ha=>⟨ha,rfl⟩,fun _ hg=>.inl hg,fun k l hl hG=>by
  by_cases hk:k=id
  ·subst hk;rw [Env.place_L] at hl;injection hl with hl;subst hl;exact absurd hG hg
  ·rwa [Env.place_Lne _ _ hk] at hl,fun _ h=>h⟩
 refine ⟨e,r.os,r.tape,r.output,r.size,r.keep,r.frz,r.fnew,r.klib,r.lib,r.bks,fun k o ho=>?_,fun k k' o o' l l' b ho ho' hl hl' hb1 hb2=>?_⟩
 ·by_cases hk:k=id
  ·subst hk
   rw [hset_same] at ho;injection ho with ho;subst ho
   exact ⟨_,Env.place_L _ _ _,rfl,.inr rfl,rfl,hsz,.inl ⟨rfl,rfl,rfl,Nat.le_refl _⟩⟩
  ·rw [hset_ne _ _ hk] at ho
   obtain ⟨l,hl,a⟩:=r.obj k o ho
   exact ⟨l,by rw [Env.place_Lne _ _ hk];exact hl,a.ext e (fun _ _=>rfl) (fun _ _ _ hF=>hF)⟩
 ·by_cases hk:k=id
  ·subst hk;rw [Env.place_L] at hl;injection hl with hl;subst hl;cases hb1
  ·by_cases hk':k'=id
   ·subst hk';rw [Env.place_L] at hl';injection hl' with hl';subst hl';cases hb2
   ·rw [hset_ne _ _ hk] at ho
    rw [hset_ne _ _ hk'] at ho'
    rw [Env.place_Lne _ _ hk] at hl
    rw [Env.place_Lne _ _ hk'] at hl'
    exact r.inj k k' o o' l l' b ho ho' hl hl' hb1 hb2
end
theorem hsub_own {C:Ctx} {s:HSt} (t id sz:Nat) (ty:TypeId) (f:Nat→Nat→HV) (ht:tget s.tm t=some (.v (.imm (.slice none 0 0)))) (hsz:0 < sz) (hk:nokey s.tm t=true) :
  HSub C s ⟨s.n,(t,.v (.os id s.clk 0 0))::s.tm,(id,⟨s.clk,0,sz,ty,0,f⟩)::s.hp,s.clk+1⟩:=by
 intro a w ⟨E,e0,r,hG,hsz',hdf,htm⟩
 have hg:¬ E.G s.clk:=fun h=>absurd (hG _ h) (Nat.lt_irrefl _)
 obtain ⟨e,r'⟩:=r.newNil id s.clk sz ty f hg hsz
 refine ⟨_,e0.trans e,by simp only [hget_cons];exact r',fun g hg=>?_,hsz',hdf.ext e,fun t' x hx=>?_⟩
 ·rcases hg with hg | hg
  ·exact Nat.lt_succ_of_lt (hG g hg)
  ·rw [hg];exact Nat.lt_succ_self _
 ·simp only [tget_cons] at hx
  split at hx
  ·rename_i e1;subst e1;injection hx with hx;subst hx
   have:=Rep.imm_inv (htm t' _ ht)
   show Rep w _ (a.tmps.getD t' undef) _
   rw [this]
   refine .os none 0 0 id s.clk 0 (.inr rfl) (Nat.le_refl _) (Nat.zero_le _) (fun h=>absurd h (Nat.lt_irrefl _)) (fun l hl _ _=>?_)
   rw [Env.place_L] at hl;injection hl with hl;subst hl
   exact ⟨rfl,rfl⟩
  ·exact (htm t' x hx).ext e
end
def TmEq (tm tm':List (Nat×TV)):Prop:=∀ t x,tget tm' t=some x→tget tm t=some x
theorem TmEq.nil {tm:List (Nat×TV)}:TmEq tm []:=fun t x h=>by cases h
def dropUn:List (Nat×TV)→List (Nat×TV)→List (Nat×TV)
 | [],_=>[]
 | (k,.v x)::r,seen=>(k,.v x)::dropUn r seen
 | (_,.un _ _ _)::r,seen=>dropUn r seen
def unOnce:List (Nat×TV)→Bool
 | []=>true
 | (k,.un _ _ _)::r=>(match tget r k with | none=>true | some _=>false)&&unOnce r
 | (_,.v _)::r=>unOnce r
theorem dropUn_sub:∀ {tm:List (Nat×TV)},unOnce tm=true→∀ t x,tget (dropUn tm []) t=some x→tget tm t=some x
  | [],_,t,x,h=>h
  | (k, .v y) :: r, hu, t, x, h => by
    simp only [dropUn] at h
    rw [tget_cons] at h ⊢
    split
    · rename_i e;rw [if_pos e] at h;exact h
    · rename_i e;rw [if_neg e] at h;exact dropUn_sub (by simpa [unOnce] using hu) t x h
  | (k, .un j b y) :: r, hu, t, x, h => by
    simp only [dropUn] at h
    simp only [unOnce,Bool.and_eq_true] at hu
    have:=dropUn_sub hu.2 t x h
    rw [tget_cons]
    split
    · rename_i e
      subst e
      have h1:=hu.1
      rw [this] at h1
      cases h1
    · exact this
theorem hseq_nilU {C:Ctx} {P:Program} {ops:Array Oper} {Q:Exit→Act→World→Prop} {n clk:Nat} {tm tm':List (Nat×TV)} {hp:List (Nat×HObj)} (hu:unOnce tm=true) (ht:dropUn tm []=tm') (h:HQ C Q .normal ⟨n,tm',hp,clk⟩):HSeq C P ops [] ⟨n,tm,hp,clk⟩ Q :=
 hseq_nil fun a w ⟨E,e0,r,hG,hsz,hdf,htm⟩=>h a w ⟨E,e0,r,hG,hsz,hdf,fun t x hx=>htm t x (dropUn_sub hu t x (by rw [ht];exact hx))⟩
theorem hsub_ren {C:Ctx} {n clk:Nat} {tm:List (Nat×TV)} {hp:List (Nat×HObj)} (t id id':Nat) (hp':List (Nat×HObj)) {g lo m on sz fl:Nat} {oty:TypeId} {f:Nat→Nat→HV} (ht:tget tm t=some (.v (.os id g lo m))) (ho:hget hp id=some ⟨g,on,sz,oty,fl,f⟩) (hk:nokey tm t=true)
    (hh:∀ k o,hget hp' k=some o→k≠id∧k≠id'∧hget hp k=some o) {c':Nat} (hc:clk+1=c'):HSub C ⟨n,tm,hp,clk⟩ ⟨n,(t,.v (.os id' clk lo m))::tm,(id',⟨clk,on,sz,oty,fl,f⟩)::hp',c'⟩:=by
  subst hc
  intro a w ⟨E,e0,r,hG,hsz,hdf,htm⟩
  have hg:¬ E.G clk:=fun h=>absurd (hG _ h) (Nat.lt_irrefl _)
  obtain ⟨l,hl,at_⟩:=r.obj id _ ho
  have e:Ext w E w (E.place id' ⟨clk,l.A,l.cap,l.sz⟩):=⟨Nat.le_refl _,fun a ha=>⟨ha,rfl⟩,fun _ hg=>.inl hg,fun k l' hl' hG'=>by
    by_cases hk:k=id'
    · subst hk;rw [Env.place_L] at hl';injection hl' with hl';subst hl';exact absurd hG' hg
    · rwa [Env.place_Lne _ _ hk] at hl',fun _ h=>h⟩
  have oth:∀ k o,hget hp' k=some o→∃ l',(E.place id' ⟨clk,l.A,l.cap,l.sz⟩).L k=some l'∧E.L k=some l'∧hget hp k=some o∧k≠id∧k≠id':=by
    intro k o hko
    obtain ⟨h1,h2,h3⟩:=hh k o hko
    obtain ⟨l',hl',_⟩:=r.obj k o h3
    exact ⟨l',by rw [Env.place_Lne _ _ h2];exact hl',hl',h3,h1,h2⟩
  refine ⟨E.place id' ⟨clk,l.A,l.cap,l.sz⟩,e0.trans e,⟨r.os,r.tape,r.output,r.size,r.keep,r.frz,r.fnew,r.klib,r.lib,r.bks,fun k o hko=>?_,fun k k' o o' l1 l2 b ho1 ho2 hl1 hl2 hb1 hb2=>?_⟩,fun g' hg'=>?_,hsz,hdf.ext e,fun t' x hx=>?_⟩
  · simp only [hget_cons] at hko
    by_cases hk:k=id'
    · subst hk
      rw [hset_same] at hko;injection hko with hko;subst hko
      refine ⟨_,Env.place_L _ _ _,rfl,.inr rfl,at_.sz,at_.pos,?_⟩
      rcases at_.at_ with h0 | ⟨b,cs,g1,g2,g3,g4,g5,g6,⟨vs,g8⟩,g9⟩ | ⟨b,ob,g1,g2,h3,g4⟩
      rotate_right
      · exact .inr (.inr ⟨b,ob,g1,g2,by cases h3;exact .iter ..,g4⟩)
      · exact .inl h0
      · exact .inr (.inl ⟨b,cs,g1,g2,g3,g4,g5,g6,⟨vs,fun i j hi hj=>⟨(g8 i j hi hj).1,(g8 i j hi hj).2.1,(g8 i j hi hj).2.2.ext e⟩⟩,g9⟩)
    · rw [hset_ne _ _ hk] at hko
      obtain ⟨h1,h2,h3⟩:=hh k o hko
      obtain ⟨l',hl',a'⟩:=r.obj k o h3
      exact ⟨l',by rw [Env.place_Lne _ _ h2];exact hl',a'.ext e (fun _ _=>rfl) (fun _ _ _ hF=>hF)⟩
  · simp only [hget_cons] at ho1 ho2
    have key:∀ k o l1,hset (hget hp') id' ⟨clk,on,sz,oty,fl,f⟩ k=some o→(E.place id' ⟨clk,l.A,l.cap,l.sz⟩).L k=some l1→∃ k2 o2 l2,hget hp k2=some o2∧E.L k2=some l2∧l2.A=l1.A∧((k=id'∧k2=id)∨(k≠id'∧k2=k∧k≠id)):=by
      intro k o l1 hko hkl
      by_cases hk:k=id'
      · subst hk
        rw [Env.place_L] at hkl;injection hkl with hkl;subst hkl
        exact ⟨id,_,l,ho,hl,rfl,.inl ⟨rfl,rfl⟩⟩
      · rw [hset_ne _ _ hk] at hko
        rw [Env.place_Lne _ _ hk] at hkl
        obtain ⟨h1,h2,h3⟩:=hh k o hko
        exact ⟨k,o,l1,h3,hkl,rfl,.inr ⟨hk,rfl,h1⟩⟩
    obtain ⟨p1,q1,m1,a1,a2,a3,a4⟩:=key k o l1 ho1 hl1
    obtain ⟨p2,q2,m2,c1,c2,c3,c4⟩:=key k' o' l2 ho2 hl2
    have:=r.inj p1 p2 q1 q2 m1 m2 b a1 c1 a2 c2 (a3.trans hb1) (c3.trans hb2)
    rcases a4 with ⟨e1,e2⟩ | ⟨e1,e2,e3⟩ <;> rcases c4 with ⟨f1,f2⟩ | ⟨f1,f2,f3⟩
    · rw [e1,f1]
    · exact absurd (by rw [←f2,←this,e2]) f3
    · exact absurd (by rw [←e2,this,f2]) e3
    · rw [←e2,←f2,this]
  · rcases hg' with hg' | hg'
    · exact Nat.lt_succ_of_lt (hG g' hg')
    · rw [hg'];exact Nat.lt_succ_self _
  · simp only [tget_cons] at hx
    split at hx
    · rename_i e1;subst e1;injection hx with hx;subst hx
      have hv:=htm t' _ ht
      show Rep w _ (a.tmps.getD t' undef) _
      generalize a.tmps.getD t' undef=u at hv
      cases hv with
      | os A _ c _ _ _ hgg hcc hm hA h0 =>
        refine .os A m c id' clk lo (.inr rfl) hcc hm (fun hp=>?_) (fun l2 hl2 _ hlo=>?_)
        · obtain ⟨b,k,h1,h2⟩:=hA hp
          refine ⟨b,k,h1,fun l2 hl2 _=>?_⟩
          rw [Env.place_L] at hl2;injection hl2 with hl2;subst hl2
          exact h2 l hl at_.g
        · rw [Env.place_L] at hl2;injection hl2 with hl2;subst hl2
          exact h0 l hl at_.g hlo
    · exact (htm t' x hx).ext e
theorem HSub.trans {C:Ctx} {s s' s'':HSt} (h:HSub C s s') (k:HSub C s' s''):HSub C s s'':=fun a w hs=>k a w (h a w hs)
theorem hw_own {C:Ctx} {P:Program} {Q:Exit→Act→World→Prop} {n clk:Nat} {tm:List (Nat×TV)} {hp:List (Nat×HObj)} {cd:Code} (t id sz:Nat) (ty:TypeId) (f:Nat→Nat→HV) (ht:tget tm t=some (.v (.imm (.slice none 0 0)))) (hsz:0 < sz) (hk:nokey tm t=true) {c':Nat} (hc:clk+1=c')
  (h:HWp C P cd ⟨n,(t,.v (.os id clk 0 0))::tm,(id,⟨clk,0,sz,ty,0,f⟩)::hp,c'⟩ Q):HWp C P cd ⟨n,tm,hp,clk⟩ Q:=by
 subst hc
 exact (hsub_own (s:=⟨n,tm,hp,clk⟩) t id sz ty f ht hsz hk).wp h
section
variable {C:Ctx} {P:Program} {ops:Array Oper} {Q:Exit→Act→World→Prop} {n clk:Nat} {tm:List (Nat×TV)} {hp:List (Nat×HObj)} {o:Oper} {rest:List Oper} {pre post:List (Nat×HObj)} {v:HV}
theorem hq_ (d:Nat) (hop:HOp P o (pview (tget tm)) clk pre v []) (hd:o.dst=some d) (hg:o.guard=none) (hpre:∀ p∈pre,hget hp p.1=some p.2) (hlt:Nat.blt d n=true) (hk:nokey tm d=true) (h:HSeq C P ops rest ⟨n,(d,.v v)::tm,hp,clk⟩ Q):HSeq C P ops (o::rest) ⟨n,tm,hp,clk⟩ Q :=
 hseq_consq (s:=⟨n,tm,hp,clk⟩) d _ hd rfl (hstep_plain hg hop) hpre hlt hk h (fun j b x h=>by cases h)
theorem st0 {d:Nat} {op:Op} {ty:TypeId} {pos:String} {af:Array Edge} (hop:HOp P ⟨some d,op,ty,pos,af,none⟩ (pview (tget tm)) clk [] v []) (hlt:Nat.blt d n=true) (hk:nokey tm d=true) (h:HSeq C P ops rest ⟨n,(d,.v v)::tm,hp,clk⟩ Q):HSeq C P ops (⟨some d,op,ty,pos,af,none⟩::rest) ⟨n,tm,hp,clk⟩ Q:=hq_ d hop rfl rfl (fun p hp=>by cases hp) hlt hk h
theorem st1 {d:Nat} {op:Op} {ty:TypeId} {pos:String} {af:Array Edge} {id:Nat} {ob:HObj} (hop:HOp P ⟨some d,op,ty,pos,af,none⟩ (pview (tget tm)) clk [(id,ob)] v []) (hid:hget hp id=some ob) (hlt:Nat.blt d n=true) (hk:nokey tm d=true) (h:HSeq C P ops rest ⟨n,(d,.v v)::tm,hp,clk⟩ Q):HSeq C P ops (⟨some d,op,ty,pos,af,none⟩::rest) ⟨n,tm,hp,clk⟩ Q:=hq_ d hop rfl rfl (fun p hp=>by rw [List.mem_singleton] at hp;subst hp;exact hid) hlt hk h
theorem stm {d:Nat} {x:Operand} {ty:TypeId} {pos:String} {af:Array Edge} (hx:ovl (pview (tget tm)) x=some v) (hlt:Nat.blt d n=true) (hk:nokey tm d=true) (h:HSeq C P ops rest ⟨n,(d,.v v)::tm,hp,clk⟩ Q):HSeq C P ops (⟨some d,.move x,ty,pos,af,none⟩::rest) ⟨n,tm,hp,clk⟩ Q:=st0 (hop_move hx) hlt hk h
theorem sta {d:Nat} {x:Operand} {ty:TypeId} {pos:String} {af:Array Edge} (hx:ovl (pview (tget tm)) x=some v) (hlt:Nat.blt d n=true) (hk:nokey tm d=true) (h:HSeq C P ops rest ⟨n,(d,.v v)::tm,hp,clk⟩ Q):HSeq C P ops (⟨some d,.assign x,ty,pos,af,none⟩::rest) ⟨n,tm,hp,clk⟩ Q:=st0 (hop_assign hx) hlt hk h
theorem srg {id:Nat} {l:List Oper} {y:Code} {s:HSt} (h:∀ N:Act→World→Prop,(∀ s',HWp C P y s' Q→∀ a w,Sat C s' a w→N a w)→HSeq C P l.toArray l s (Exit.then N Q)) (nd:C.rd=none∨l.all Oper.calm=true:=by first | exact .inr rfl | exact .inl rfl | exact .inl (by assumption)):HWp C P (.seq (.region id l.toArray false) y) s Q:=hw_seq fun N h1=>hw_region (h N h1) nd
theorem snl {N:Act→World→Prop} {Q2:Exit→Act→World→Prop} {y:Code} {s:HSt} (h1:∀ s',HWp C P y s' Q→∀ a w,Sat C s' a w→N a w) (h:HWp C P y s Q):HSeq C P ops [] s (Exit.then N Q2):=hseq_nil (h1 s h)
theorem hq_g (d gi j:Nat) (b c:Bool) (hop:c=b→HOp P o (gview (tget tm) j b) clk pre v []) (hd:o.dst=some d) (hg:o.guard=some (gi,b)) (hgi:(ops[gi]?).bind (·.dst)=some j) (hc:tget tm j=some (.v (.imm (.bool c)))) (hpre:∀ p∈pre,hget hp p.1=some p.2) (hlt:Nat.blt d n=true) (hk:nokey tm d=true) (hjd:Nat.beq j d=false)
  (h:HSeq C P ops rest ⟨n,(d,.un j b v)::tm,hp,clk⟩ Q):HSeq C P ops (o::rest) ⟨n,tm,hp,clk⟩ Q :=
 hseq_consq (s:=⟨n,tm,hp,clk⟩) d _ hd rfl (hstep_guard gi j b c hg hgi (.inl hc) hop) hpre hlt hk h (fun j' b' x h=>by injection h with h1 h2 h3;subst h1;rw [←Bool.not_eq_true,Nat.beq_eq] at hjd;exact hjd)
theorem hq_g2 (d gi j j2:Nat) (b2 b c:Bool) (hop:c=b→HOp P o (gview (tget tm) j b) clk pre v []) (hd:o.dst=some d) (hg:o.guard=some (gi,b)) (hgi:(ops[gi]?).bind (·.dst)=some j) (hc:tget tm j=some (.un j2 b2 (.imm (.bool c)))) (hpre:∀ p∈pre,hget hp p.1=some p.2) (hlt:Nat.blt d n=true) (hk:nokey tm d=true) (hjd:Nat.beq j d=false)
  (h:HSeq C P ops rest ⟨n,(d,.un j b v)::tm,hp,clk⟩ Q):HSeq C P ops (o::rest) ⟨n,tm,hp,clk⟩ Q :=
 hseq_consq (s:=⟨n,tm,hp,clk⟩) d _ hd rfl (hstep_guard gi j b c hg hgi (.inr ⟨j2,b2,hc⟩) hop) hpre hlt hk h (fun j' b' x h=>by injection h with h1 h2 h3;subst h1;rw [←Bool.not_eq_true,Nat.beq_eq] at hjd;exact hjd)
theorem stg {d gi:Nat} {b:Bool} {op:Op} {ty:TypeId} {pos:String} {af:Array Edge} (j:Nat) {c:Bool} (hop:c=b→HOp P ⟨some d,op,ty,pos,af,some (gi,b)⟩ (gview (tget tm) j b) clk [] v []) (hgi:(ops[gi]?).bind (·.dst)=some j) (hc:tget tm j=some (.v (.imm (.bool c)))) (hlt:Nat.blt d n=true) (hk:nokey tm d=true) (hjd:Nat.beq j d=false)
  (h:HSeq C P ops rest ⟨n,(d,.un j b v)::tm,hp,clk⟩ Q):HSeq C P ops (⟨some d,op,ty,pos,af,some (gi,b)⟩::rest) ⟨n,tm,hp,clk⟩ Q:=hq_g d gi j b c hop rfl rfl hgi hc (fun p hp=>by cases hp) hlt hk hjd h
theorem sth {d gi:Nat} {b:Bool} {op:Op} {ty:TypeId} {pos:String} {af:Array Edge} (j:Nat) {j2:Nat} {b2 c:Bool} (hop:c=b→HOp P ⟨some d,op,ty,pos,af,some (gi,b)⟩ (gview (tget tm) j b) clk [] v []) (hgi:(ops[gi]?).bind (·.dst)=some j) (hc:tget tm j=some (.un j2 b2 (.imm (.bool c)))) (hlt:Nat.blt d n=true) (hk:nokey tm d=true) (hjd:Nat.beq j d=false)
  (h:HSeq C P ops rest ⟨n,(d,.un j b v)::tm,hp,clk⟩ Q):HSeq C P ops (⟨some d,op,ty,pos,af,some (gi,b)⟩::rest) ⟨n,tm,hp,clk⟩ Q:=hq_g2 d gi j j2 b2 b c hop rfl rfl hgi hc (fun p hp=>by cases hp) hlt hk hjd h
theorem hm_ (d:Nat) (hop:HOp P o (pview (tget tm)) clk pre v post) (hd:o.dst=some d) (hg:o.guard=none) (hpre:∀ p∈pre,hget hp p.1=some p.2) (hlt:Nat.blt d n=true) (hk:nokey tm d=true) {c':Nat} (hc:clk+1=c') (h:HSeq C P ops rest ⟨n,(d,.v v)::tm,post++hp,c'⟩ Q):HSeq C P ops (o::rest) ⟨n,tm,hp,clk⟩ Q:=by
 subst hc;exact hseq_cons (s:=⟨n,tm,hp,clk⟩) d _ hd (hstep_plain hg hop) hpre hlt hk h (fun j b x h=>by cases h)
theorem hm_1 (d:Nat) {id:Nat} {ob:HObj} (hop:HOp P o (pview (tget tm)) clk pre v [(id,ob)]) (hd:o.dst=some d) (hg:o.guard=none) (hpre:∀ p∈pre,hget hp p.1=some p.2) (hlt:Nat.blt d n=true) (hk:nokey tm d=true) {c':Nat} (hc:clk+1=c') (h:HSeq C P ops rest ⟨n,(d,.v v)::tm,(id,ob)::hp,c'⟩ Q):HSeq C P ops (o::rest) ⟨n,tm,hp,clk⟩ Q:=by
 subst hc;exact hm_ d hop hd hg hpre hlt hk rfl h
theorem hm_s1 {id:Nat} {ob:HObj} (hop:HOp P o (pview (tget tm)) clk pre v [(id,ob)]) (hd:o.dst=none) (hg:o.guard=none) (hpre:∀ p∈pre,hget hp p.1=some p.2) {c':Nat} (hc:clk+1=c') (h:HSeq C P ops rest ⟨n,tm,(id,ob)::hp,c'⟩ Q):HSeq C P ops (o::rest) ⟨n,tm,hp,clk⟩ Q:=by
 subst hc;exact hseq_cons_ (s:=⟨n,tm,hp,clk⟩) _ hd (hstep_plain hg hop) hpre h
theorem hq_p (d:Nat) {need:List Nat} (hst:HStep P ops o (tget tm) clk ⟨.v v,need,[],[]⟩) (hd:o.dst=some d) (hlt:Nat.blt d n=true) (hk:nokey tm d=true) (h:HSeq C P ops rest ⟨n,(d,.v v)::tm,hp,clk⟩ Q):HSeq C P ops (o::rest) ⟨n,tm,hp,clk⟩ Q :=
 hseq_consq (s:=⟨n,tm,hp,clk⟩) d _ hd rfl hst pre0 hlt hk h (fun j b x h=>by cases h)
end
def dstAt (l:List Oper) (k:Nat):Option Nat:=(l[k]?).bind (·.dst)
def spAt (ss:List HSpec) (k:Nat):HSpec:=ss.getD k ⟨.v default,[],[],[]⟩
def trun (l:List Oper) (ss:List HSpec) (t0:Nat→Option TV) (S:Nat→Bool):Nat→Nat→Option TV
 | 0,t=>t0 t
 | k+1,t=>if S k=true∧dstAt l k=some t then some (spAt ss k).tv else trun l ss t0 S k t
def hrun (ss:List HSpec) (h0:Nat→Option HObj) (S:Nat→Bool):Nat→Nat→Option HObj
 | 0=>h0
 | k+1=>if S k=true then hupd (hrun ss h0 S k) (spAt ss k).post else hrun ss h0 S k
def dtm (o:Oper) (sp:HSpec) (tm:List (Nat×TV)):List (Nat×TV):=match o.dst with | some d=>(d,sp.tv)::tm | none=>tm
inductive VRun (P:Program) (ops:Array Oper) (n clk:Nat) (tm0:List (Nat×TV)) (hp0:List (Nat×HObj)):List Oper→List HSpec→List (Nat×TV)→List (Nat×HObj)→Prop
 | nil:VRun P ops n clk tm0 hp0 [] [] tm0 hp0
 | snoc (l:List Oper) (ss:List HSpec) (tm:List (Nat×TV)) (hp:List (Nat×HObj)) (o:Oper) (sp:HSpec) (h:VRun P ops n clk tm0 hp0 l ss tm hp) (hst:HStep P ops o (tget tm) (clk+l.length) sp) (hpre:∀ p∈sp.pre,hget hp p.1=some p.2) (hd:∀ d,o.dst=some d→d < n) :
   VRun P ops n clk tm0 hp0 (l++[o]) (ss++[sp]) (dtm o sp tm) (sp.post++hp)
section
variable {l:List Oper} {ss:List HSpec} {t0:Nat→Option TV} {h0:Nat→Option HObj}
theorem trun_congr {l':List Oper} {ss':List HSpec} {S S':Nat→Bool} {t:Nat}:∀ m,(∀ k,k < m→dstAt l k=dstAt l' k)→(∀ k,k < m→dstAt l k=some t→S k=S' k∧spAt ss k=spAt ss' k)→trun l ss t0 S m t=trun l' ss' t0 S' m t
  | 0,_,_=>rfl
  | m + 1, h1, h2 => by
    have ih:=trun_congr (S:=S) (S':=S') (t:=t) (ss':=ss') m (fun k hk=>h1 k (by omega)) (fun k hk=>h2 k (by omega))
    simp only [trun]
    rw [←h1 m (by omega),ih]
    by_cases hd:dstAt l m=some t
    · obtain ⟨e1,e2⟩:=h2 m (by omega) hd
      rw [e1,e2]
    · simp [hd]
theorem hrun_congr {ss':List HSpec} {S S':Nat→Bool} {id:Nat}:∀ m,(∀ k,k < m→(spAt ss k).post=(spAt ss' k).post)→(∀ k,k < m→id∈(spAt ss k).post.map (·.1)→S k=S' k)→hrun ss h0 S m id=hrun ss' h0 S' m id
  | 0,_,_=>rfl
  | m + 1, h1, h2 => by
    have ih:=hrun_congr (S:=S) (S':=S') (id:=id) (ss':=ss') m (fun k hk=>h1 k (by omega)) (fun k hk=>h2 k (by omega))
    simp only [hrun]
    rw [←h1 m (by omega)]
    have miss:∀ (h:Nat→Option HObj) (p:List (Nat×HObj)),id∉p.map (·.1)→hupd h p id=h id:=by
      intro h p
      induction p with
      | nil=>intro _;rfl
      | cons q p ih =>
        intro hn
        simp only [List.map_cons,List.mem_cons,not_or] at hn
        show hset (hupd h p) q.1 q.2 id=_
        rw [hset_ne _ _ hn.1];exact ih hn.2
    have hit:∀ (h h':Nat→Option HObj) (p:List (Nat×HObj)),h id=h' id→hupd h p id=hupd h' p id:=by
      intro h h' p he
      induction p with
      | nil=>exact he
      | cons q p ih=>show hset (hupd h p) q.1 q.2 id=hset (hupd h' p) q.1 q.2 id;unfold hset;split <;> first | rfl | exact ih
    by_cases hw:id∈(spAt ss m).post.map (·.1)
    · rw [←h2 m (by omega) hw]
      split
      · exact hit _ _ _ ih
      · exact ih
    · split <;> split <;> first | exact ih | (simp only [miss _ _ hw];exact ih)
theorem hupd_miss {h:Nat→Option HObj} {id:Nat}:∀ {p:List (Nat×HObj)},id∉p.map (·.1)→hupd h p id=h id
  | [],_=>rfl
  | q :: p, hn => by
    simp only [List.map_cons,List.mem_cons,not_or] at hn
    show hset (hupd h p) q.1 q.2 id=_
    rw [hset_ne _ _ hn.1];exact hupd_miss hn.2
theorem hupd_hit {h h':Nat→Option HObj} {id:Nat}:∀ {p:List (Nat×HObj)},id∈p.map (·.1)→hupd h p id=hupd h' p id
  | [],hn=>by simp at hn
  | q :: p, hn => by
    show hset (hupd h p) q.1 q.2 id=hset (hupd h' p) q.1 q.2 id
    unfold hset
    split
    · rfl
    · rename_i hne
      simp only [List.map_cons,List.mem_cons] at hn
      exact hupd_hit (hn.resolve_left hne)
theorem trun_cut {i:Nat} {t:Nat}:∀ m,i≤m→trun l ss t0 (fun k=>decide (k < i)) m t=trun l ss t0 (fun _=>true) i t:=by
  intro m hm
  induction m with
  | zero=>obtain rfl:i=0:=(by omega);rfl
  | succ m ih =>
    by_cases hi:i=m+1
    · subst hi;exact trun_congr _ (fun _ _=>rfl) (fun k hk _=>⟨by simp [hk],rfl⟩)
    · rw [←ih (by omega)]
      simp only [trun]
      rw [if_neg]
      simp;omega
theorem hrun_cut {i:Nat} {id:Nat}:∀ m,i≤m→hrun ss h0 (fun k=>decide (k < i)) m id=hrun ss h0 (fun _=>true) i id:=by
  intro m hm
  induction m with
  | zero=>obtain rfl:i=0:=(by omega);rfl
  | succ m ih =>
    by_cases hi:i=m+1
    · subst hi;exact hrun_congr _ (fun _ _=>rfl) (fun k hk _=>by simp [hk])
    · rw [←ih (by omega)]
      simp only [hrun]
      rw [if_neg (by simp;omega)]
theorem trun_src {S:Nat→Bool} {t:Nat} {y:TV}:∀ {m},trun l ss t0 S m t=some y→t0 t=some y∨∃ k,k < m∧S k=true∧y=(spAt ss k).tv
  | 0,h=>.inl h
  | m + 1, h => by
    simp only [trun] at h
    split at h
    · rename_i hc;injection h with h;exact .inr ⟨m,by omega,hc.1,h.symm⟩
    · rcases trun_src h with h1 | ⟨k,h1,h2,h3⟩
      · exact .inl h1
      · exact .inr ⟨k,by omega,h2,h3⟩
end
structure Good (P:Program) (ops:Array Oper) (n clk:Nat) (tm0:List (Nat×TV)) (hp0:List (Nat×HObj)) (l:List Oper) (ss:List HSpec) (i:Nat) (o:Oper):Prop where
 st:HStep P ops o (trun l ss (tget tm0) (fun _=>true) i) (clk+i) (spAt ss i)
 pre:∀ p∈(spAt ss i).pre,hrun ss (hget hp0) (fun _=>true) i p.1=some p.2
 dst:∀ d,o.dst=some d→d < n
theorem VRun.good {P:Program} {ops:Array Oper} {n clk:Nat} {tm0:List (Nat×TV)} {hp0:List (Nat×HObj)} {l:List Oper} {ss:List HSpec} {tm:List (Nat×TV)} {hp:List (Nat×HObj)} (h:VRun P ops n clk tm0 hp0 l ss tm hp) :
    l.length=ss.length∧tget tm=trun l ss (tget tm0) (fun _=>true) l.length∧hget hp=hrun ss (hget hp0) (fun _=>true) l.length∧∀ i o,l[i]?=some o→Good P ops n clk tm0 hp0 l ss i o:=by
  induction h with
  | nil=>exact ⟨rfl,rfl,rfl,fun i o h=>by simp at h⟩
  | snoc l ss tm hp o sp h hst hpre hd ih =>
    obtain ⟨i1,i2,i3,i4⟩:=ih
    have d1:∀ k,k < l.length→dstAt l k=dstAt (l++[o]) k:=fun k hk=>by unfold dstAt;rw [List.getElem?_append_left hk]
    have s1:∀ k,k < l.length→spAt ss k=spAt (ss++[sp]) k:=fun k hk=>by unfold spAt;rw [List.getD_eq_getElem?_getD,List.getD_eq_getElem?_getD,List.getElem?_append_left (by omega)]
    have d2:dstAt (l++[o]) l.length=o.dst:=by unfold dstAt;rw [List.getElem?_append_right (Nat.le_refl _)];simp
    have s2:spAt (ss++[sp]) l.length=sp:=by unfold spAt;rw [List.getD_eq_getElem?_getD,i1,List.getElem?_append_right (Nat.le_refl _)];simp
    have t1:∀ k,k≤l.length→∀ t,trun l ss (tget tm0) (fun _=>true) k t=trun (l++[o]) (ss++[sp]) (tget tm0) (fun _=>true) k t:=fun k hk t=>trun_congr k (fun j hj=>d1 j (by omega)) (fun j hj _=>⟨rfl,s1 j (by omega)⟩)
    have h1:∀ k,k≤l.length→∀ t,hrun ss (hget hp0) (fun _=>true) k t=hrun (ss++[sp]) (hget hp0) (fun _=>true) k t:=fun k hk t=>hrun_congr k (fun j hj=>by rw [s1 j (by omega)]) (fun j hj _=>rfl)
    refine ⟨by simp [i1],?_,?_,fun i o' ho'=>?_⟩
    · funext t
      rw [List.length_append,List.length_singleton]
      simp only [trun,d2,s2,←t1 l.length (Nat.le_refl _),←i2,dtm]
      cases hdst:o.dst with
      | none=>simp
      | some d=>simp only [tget_cons,Option.some.injEq];by_cases htd:t=d <;> simp [htd,eq_comm]
    · funext t
      rw [List.length_append,List.length_singleton,hget_append]
      simp only [hrun,if_true,s2]
      have:hrun (ss++[sp]) (hget hp0) (fun _=>true) l.length=hget hp:=by funext t;rw [←h1 l.length (Nat.le_refl _),←i3]
      rw [this]
    · by_cases hi:i < l.length
      · rw [List.getElem?_append_left hi] at ho'
        have gd:=i4 i o' ho'
        refine ⟨?_,?_,gd.dst⟩
        · have e:trun (l++[o]) (ss++[sp]) (tget tm0) (fun _=>true) i=trun l ss (tget tm0) (fun _=>true) i:=funext fun t=>(t1 i (by omega) t).symm
          rw [←s1 i hi,e];exact gd.st
        · rw [←s1 i hi]
          intro p hp
          rw [←h1 i (by omega)];exact gd.pre p hp
      · have hil:i=l.length:=by
          have:i < (l++[o]).length:=by
            rcases Nat.lt_or_ge i (l++[o]).length with h | h
            · exact h
            · rw [List.getElem?_eq_none h] at ho';cases ho'
          rw [List.length_append,List.length_singleton] at this
          omega
        subst hil
        rw [List.getElem?_append_right (Nat.le_refl _),Nat.sub_self] at ho'
        simp at ho'
        subst ho'
        refine ⟨?_,?_,hd⟩
        · have e:trun (l++[o]) (ss++[sp]) (tget tm0) (fun _=>true) l.length=tget tm:=by rw [i2];exact funext fun t=>(t1 l.length (Nat.le_refl _) t).symm
          rw [s2,e];exact hst
        · rw [s2]
          intro p hp
          rw [←h1 l.length (Nat.le_refl _),←i3];exact hpre p hp
def edg (o:Oper):List Nat:=(o.after.toList.filter fun e=>Region.binds .any e).map (·.on)
def mkBef:List Oper→List (List Nat)→List (List Nat)
 | [],acc=>acc
 | o::r,acc=>mkBef r (acc++[(edg o++(edg o).flatMap fun e=>acc.getD e []).eraseDups])
def allV:List (Nat×TV)→Bool
 | []=>true
 | (_,.v _)::r=>allV r
 | (_,.un ..)::_=>false
def ids (p:List (Nat×HObj)):List Nat:=p.map (·.1)
def meets (a b:List Nat):Bool:=a.any fun x=>b.any (Nat.beq x)
def chk1 (i:Nat) (o:Oper):Bool:=(edg o).all fun e=>Nat.blt e i
def chk2 (bef:List (List Nat)) (i:Nat) (o:Oper):Bool:=(bef.getD i []).all fun j=>Nat.blt j i&&(edg o).any fun e=>Nat.beq e j||(bef.getD e []).any (Nat.beq j)
def chkA (l:List Oper) (i k:Nat):Bool:=match dstAt l i,dstAt l k with | some d,some d'=>!Nat.beq d d' | _,_=>true
def chkB (l:List Oper) (ss:List HSpec) (bef:List (List Nat)) (i k:Nat):Bool:=match dstAt l k with
 | some t=>!((spAt ss i).need.any (Nat.beq t))||(Nat.blt k i&&(bef.getD i []).any (Nat.beq k))||(Nat.blt i k&&(bef.getD k []).any (Nat.beq i))
 | none=>true
def chkC (ss:List HSpec) (bef:List (List Nat)) (i k:Nat):Bool :=
 !(meets (ids (spAt ss i).post) (ids (spAt ss k).pre++ids (spAt ss k).post)||meets (ids (spAt ss i).pre) (ids (spAt ss k).post))||(bef.getD i []).any (Nat.beq k)||(bef.getD k []).any (Nat.beq i)
def chk3 (l:List Oper) (ss:List HSpec) (bef:List (List Nat)) (i:Nat):Bool:=(List.range l.length).all fun k=>Nat.beq k i||(chkA l i k&&chkB l ss bef i k&&chkC ss bef i k)
def chk4 (l:List Oper) (ss:List HSpec) (i:Nat):Bool:=match dstAt l i with | some t=>!((spAt ss i).need.any (Nat.beq t)) | none=>true
def chk5 (l:List Oper) (ss:List HSpec) (bef:List (List Nat)) (i:Nat):Bool:=match (spAt ss i).tv with
 | .v _=>true
 | .un j _ _=>(List.range l.length).all fun k=>match dstAt l k with | some t=>!Nat.beq t j||(bef.getD i []).any (Nat.beq k) | none=>true
def chkI (l:List Oper) (ss:List HSpec) (bef:List (List Nat)) (i:Nat) (o:Oper):Bool:=chk1 i o&&chk2 bef i o&&chk3 l ss bef i&&chk4 l ss i&&chk5 l ss bef i
def chkR (l:List Oper) (ss:List HSpec) (tm0:List (Nat×TV)):Bool :=
 allV tm0&&(List.range l.length).all fun i=>match l[i]? with | some o=>chkI l ss (mkBef l []) i o | none=>false
structure Chk (l:List Oper) (ss:List HSpec) (bef:List (List Nat)):Prop where
 edge:∀ i o,l[i]?=some o→∀ e∈edg o,e < i
 befo:∀ i o,l[i]?=some o→∀ j∈bef.getD i [],j < i∧∃ e∈edg o,e=j∨j∈bef.getD e []
 dst:∀ i k d,i < l.length→k < l.length→k≠i→dstAt l i=some d→dstAt l k≠some d
 need:∀ i k t,i < l.length→k < l.length→t∈(spAt ss i).need→dstAt l k=some t→(k < i∧k∈bef.getD i [])∨(i < k∧i∈bef.getD k [])
 conf:∀ i k id,i < l.length→k < l.length→k≠i→id∈ids (spAt ss k).post→(id∈ids (spAt ss i).pre∨id∈ids (spAt ss i).post)→k∈bef.getD i []∨i∈bef.getD k []
 un:∀ i j b x k,i < l.length→k < l.length→(spAt ss i).tv=.un j b x→dstAt l k=some j→k∈bef.getD i []
theorem any_beq {a:Nat} {l:List Nat}:l.any (Nat.beq a)=true↔a∈l:=by
 rw [List.any_eq_true]
 constructor
 ·rintro ⟨x,hx,he⟩;rw [Nat.beq_eq] at he;subst he;exact hx
 ·intro h;exact ⟨a,h,Nat.beq_refl a⟩
theorem meets_iff {a b:List Nat}:meets a b=true↔∃ x,x∈a∧x∈b:=by
 unfold meets
 rw [List.any_eq_true]
 constructor
 ·rintro ⟨x,hx,he⟩;exact ⟨x,hx,any_beq.1 he⟩
 ·rintro ⟨x,hx,he⟩;exact ⟨x,hx,any_beq.2 he⟩
theorem chk_of {l:List Oper} {ss:List HSpec} {tm0:List (Nat×TV)} (h:chkR l ss tm0=true):allV tm0=true∧Chk l ss (mkBef l []):=by
 unfold chkR at h
 rw [Bool.and_eq_true] at h
 refine ⟨h.1,?_⟩
 generalize mkBef l []=bef at h
 have each:∀ i o,l[i]?=some o→chkI l ss bef i o=true:=by
  intro i o ho
  have hi:i < l.length:=by
   rcases Nat.lt_or_ge i l.length with h | h
   ·exact h
   ·rw [List.getElem?_eq_none h] at ho;cases ho
  have:=List.all_eq_true.1 h.2 i (List.mem_range.2 hi)
  rw [ho] at this;exact this
 have op_:∀ i,i < l.length→∃ o,l[i]?=some o:=fun i hi=>⟨l[i],List.getElem?_eq_getElem hi⟩
 have parts:∀ i o,l[i]?=some o→chk1 i o=true∧chk2 bef i o=true∧chk3 l ss bef i=true∧chk4 l ss i=true∧chk5 l ss bef i=true:=by
  intro i o ho
  have:=each i o ho
  unfold chkI at this
  simp only [Bool.and_eq_true] at this
  exact ⟨this.1.1.1.1,this.1.1.1.2,this.1.1.2,this.1.2,this.2⟩
 have pair:∀ i o k,l[i]?=some o→k < l.length→k≠i→(chkA l i k=true∧chkB l ss bef i k=true)∧chkC ss bef i k=true:=by
  intro i o k ho hk hne
  have h3:=(parts i o ho).2.2.1
  unfold chk3 at h3
  have:=List.all_eq_true.1 h3 k (List.mem_range.2 hk)
  rw [Bool.or_eq_true] at this
  have h1:=this.resolve_left (fun h=>hne (by rwa [Nat.beq_eq] at h))
  simp only [Bool.and_eq_true] at h1
  exact h1
 refine ⟨fun i o ho e he=>?_,fun i o ho j hj=>?_,fun i k d hi hk hne hd hd'=>?_,fun i k t hi hk ht hd=>?_,fun i k id hi hk hne h1 h2=>?_,fun i j b x k hi hk htv hd=>?_⟩
 ·have h1:=(parts i o ho).1
  unfold chk1 at h1
  have:=List.all_eq_true.1 h1 e he
  simpa [Nat.blt_eq] using this
 ·have h1:=(parts i o ho).2.1
  unfold chk2 at h1
  have:=List.all_eq_true.1 h1 j hj
  rw [Bool.and_eq_true,Nat.blt_eq,List.any_eq_true] at this
  obtain ⟨h1,e,he,h2⟩:=this
  rw [Bool.or_eq_true,Nat.beq_eq,any_beq] at h2
  exact ⟨h1,e,he,h2⟩
 ·obtain ⟨o,ho⟩:=op_ i hi
  have:=(pair i o k ho hk hne).1.1
  unfold chkA at this
  rw [hd,hd'] at this
  simp at this
 ·obtain ⟨o,ho⟩:=op_ i hi
  by_cases hne:k=i
  ·subst hne
   have:=(parts k o ho).2.2.2.1
   unfold chk4 at this
   rw [hd] at this
   simp only [Bool.not_eq_true'] at this
   rw [←Bool.not_eq_true,any_beq] at this
   exact absurd ht this
  ·have:=(pair i o k ho hk hne).1.2
   unfold chkB at this
   rw [hd] at this
   simp only [Bool.or_eq_true,Bool.and_eq_true,Bool.not_eq_true',Nat.blt_eq,any_beq] at this
   rcases this with (h | h) | h
   ·rw [←Bool.not_eq_true,any_beq] at h;exact absurd ht h
   ·exact .inl h
   ·exact .inr h
 ·obtain ⟨o,ho⟩:=op_ i hi
  have:=(pair i o k ho hk hne).2
  unfold chkC at this
  simp only [Bool.or_eq_true,Bool.not_eq_true',any_beq,Bool.or_eq_false_iff] at this
  rcases this with (h | h) | h
  ·rcases h2 with h2 | h2
   ·have:=h.2
    rw [←Bool.not_eq_true,meets_iff] at this
    exact absurd ⟨id,h2,h1⟩ this
   ·have:=h.1
    rw [←Bool.not_eq_true,meets_iff] at this
    exact absurd ⟨id,h2,List.mem_append.2 (.inr h1)⟩ this
  ·exact .inl h
  ·exact .inr h
 ·obtain ⟨o,ho⟩:=op_ i hi
  have:=(parts i o ho).2.2.2.2
  unfold chk5 at this
  rw [htv] at this
  have:=List.all_eq_true.1 this k (List.mem_range.2 hk)
  rw [hd] at this
  simp only [Bool.or_eq_true,Bool.not_eq_true',any_beq] at this
  exact this.resolve_left (fun h=>by rw [←Bool.not_eq_true,Nat.beq_eq] at h;exact h rfl)
theorem allV_spec {tm:List (Nat×TV)} (h:allV tm=true):∀ t y,tget tm t=some y→∃ x,y=.v x:=by
  induction tm with
  | nil=>intro t y h;cases h
  | cons q r ih =>
    obtain ⟨k,z⟩:=q
    cases z with
    | un j b x=>cases h
    | v x =>
      intro t y ht
      rw [tget_cons] at ht
      split at ht
      · injection ht with ht;exact ⟨x,ht.symm⟩
      · exact ih h t y ht
section
variable {C:Ctx} {P:Program} {Q:Exit→Act→World→Prop} {n clk:Nat} {tm0:List (Nat×TV)} {hp0:List (Nat×HObj)} {l:List Oper} {ss:List HSpec}
structure Inv (C:Ctx) (n clk:Nat) (tm0:List (Nat×TV)) (hp0:List (Nat×HObj)) (l:List Oper) (ss:List HSpec) (listed:Array Bool) (a:Act) (w:World):Prop where
 sz:listed.size=l.length
 closed:∀ i o,l[i]?=some o→listed.getD i false=true→∀ e∈edg o,listed.getD e false=true
 st:∃ E,Ext C.w0 C.E0 w E∧R C.K C.w0 C.E0.F E (hrun ss (hget hp0) (fun k=>listed.getD k false) l.length) w∧(∀ g,E.G g→g < clk∨∃ k,k < l.length∧listed.getD k false=true∧g=clk+k)∧a.tmps.size=n∧DefOk C.mks w E C.ds a.defers ∧
  ∀ t x,trun l ss (tget tm0) (fun k=>listed.getD k false) l.length t=some x→TVRep w E a (a.tmps.getD t undef) x
theorem bef_closed {bef:List (List Nat)} (hc:Chk l ss bef) {S:Nat→Bool} (hcl:∀ i o,l[i]?=some o→S i=true→∀ e∈edg o,S e=true):∀ i o,l[i]?=some o→(∀ e∈edg o,S e=true)→∀ j∈bef.getD i [],S j=true:=by
  intro i
  induction i using Nat.strongRecOn with
  | _ i ih =>
    intro o ho he j hj
    obtain ⟨_,e,hee,h2⟩:=hc.befo i o ho j hj
    rcases h2 with rfl | h2
    · exact he _ hee
    · have hlt:=hc.edge i o ho e hee
      have hi:i < l.length:=by
        rcases Nat.lt_or_ge i l.length with h | h
        · exact h
        · rw [List.getElem?_eq_none h] at ho;cases ho
      have hle:l[e]?=some l[e]:=List.getElem?_eq_getElem (by omega)
      exact ih e hlt _ hle (hcl e _ hle (he e hee)) j h2
theorem edg_ready {listed:Array Bool} {i:Nat} {o:Oper} (hr:i∈Region.ready .any l.toArray listed) (ho:l[i]?=some o) (hsz:listed.size=l.length):listed.getD i false=false∧i < l.length∧∀ e∈edg o,listed.getD e false=true:=by
 obtain ⟨h1,o',ho',h2⟩:=mem_ready.1 hr
 have hi:i < l.length:=by
  rcases Nat.lt_or_ge i l.length with h | h
  ·exact h
  ·rw [List.getElem?_eq_none h] at ho;cases ho
 have:o'=o:=by
  have e:l.toArray[i]?=l[i]?:=by simp
  rw [e,ho] at ho';injection ho' with ho';exact ho'.symm
 subst this
 refine ⟨?_,hi,fun e he=>?_⟩
 ·have hl:i < listed.size:=by omega
  simpa [hl] using h1
 ·obtain ⟨x,hx,rfl⟩:=List.mem_map.1 he
  obtain ⟨hx1,hx2⟩:=List.mem_filter.1 hx
  exact h2 x (by simpa using hx1) (by simpa using hx2)
theorem getD_set (listed:Array Bool) (i k:Nat) (hi:i < listed.size):(listed.setIfInBounds i true).getD k false=if k=i then true else listed.getD k false:=by
 by_cases hk:k=i
 ·subst hk;simp [hi]
 ·simp [hk,Array.getElem?_setIfInBounds,Ne.symm hk]
theorem Inv.look {bef:List (List Nat)} (hc:Chk l ss bef) {listed:Array Bool} {a:Act} {w:World} (hI:Inv C n clk tm0 hp0 l ss listed a w) {i:Nat} (hr:i∈Region.ready .any l.toArray listed) {o:Oper} (ho:l[i]?=some o) (hpre0:∀ p∈(spAt ss i).pre,hrun ss (hget hp0) (fun _=>true) i p.1=some p.2) :
  ∃ E,Ext C.w0 C.E0 w E∧R C.K C.w0 C.E0.F E (hrun ss (hget hp0) (fun k=>listed.getD k false) l.length) w∧(∀ g,E.G g→g < clk∨∃ k,k < l.length∧listed.getD k false=true∧g=clk+k)∧a.tmps.size=n∧DefOk C.mks w E C.ds a.defers ∧
  (∀ t x,trun l ss (tget tm0) (fun k=>listed.getD k false) l.length t=some x→TVRep w E a (a.tmps.getD t undef) x) ∧
  (∀ t x,t∈(spAt ss i).need→trun l ss (tget tm0) (fun _=>true) i t=some x→TVRep w E a (a.tmps.getD t undef) x)∧∀ p∈(spAt ss i).pre,hrun ss (hget hp0) (fun k=>listed.getD k false) l.length p.1=some p.2:=by
 obtain ⟨hun,hi,hedg⟩:=edg_ready hr ho hI.sz
 obtain ⟨E,e0,r,hG,hsz,hdf,ht⟩:=hI.st
 have hilt:i < listed.size:=by rw [hI.sz];exact hi
 have hbef:∀ j∈bef.getD i [],listed.getD j false=true:=bef_closed hc (S:=fun k=>listed.getD k false) hI.closed i o ho hedg
 have hnot:∀ k,k < l.length→i∈bef.getD k []→listed.getD k false=false:=by
  intro k hk hik
  rw [←Bool.not_eq_true]
  intro hkl
  have hko:l[k]?=some l[k]:=List.getElem?_eq_getElem hk
  have:=bef_closed hc (S:=fun k=>listed.getD k false) hI.closed k _ hko (hI.closed k _ hko hkl) i hik
  rw [hun] at this;cases this
 have hbl:∀ j∈bef.getD i [],j < i:=fun j hj=>(hc.befo i o ho j hj).1
 have htm:∀ t x,t∈(spAt ss i).need→trun l ss (tget tm0) (fun _=>true) i t=some x→trun l ss (tget tm0) (fun k=>listed.getD k false) l.length t=some x:=by
  intro t x htn hx
  rw [←trun_cut l.length (by omega)] at hx
  rw [←hx]
  refine trun_congr _ (fun _ _=>rfl) (fun k hk hd=>⟨?_,rfl⟩)
  rcases hc.need i k t hi hk htn hd with ⟨h1,h2⟩ | ⟨h1,h2⟩
  ·rw [hbef k h2];simp [h1]
  ·rw [hnot k hk h2];simp;omega
 have wr:∀ id,(id∈ids (spAt ss i).pre∨id∈ids (spAt ss i).post)→∀ k,k < l.length→k≠i→id∈(spAt ss k).post.map (·.1)→listed.getD k false=decide (k < i):=by
  intro id hid k hk hne hw
  rcases hc.conf i k id hi hk hne hw hid with h | h
  ·rw [hbef k h];simp [hbl k h]
  ·rw [hnot k hk h]
   have hko:l[k]?=some l[k]:=List.getElem?_eq_getElem hk
   have:=(hc.befo k _ hko i h).1
   simp;omega
 have hpre:∀ p∈(spAt ss i).pre,hrun ss (hget hp0) (fun k=>listed.getD k false) l.length p.1=some p.2:=by
  intro p hp
  rw [←hpre0 p hp,←hrun_cut l.length (by omega)]
  refine hrun_congr _ (fun _ _=>rfl) (fun k hk hw=>?_)
  by_cases hne:k=i
  ·subst hne;rw [hun];simp
  ·exact wr p.1 (.inl (List.mem_map.2 ⟨p,hp,rfl⟩)) k hk hne hw
 exact ⟨E,e0,r,hG,hsz,hdf,ht,fun t x htn hx=>ht t x (htm t x htn hx),hpre⟩
theorem Inv.step {bef:List (List Nat)} (hc:Chk l ss bef) (hV:allV tm0=true) {i:Nat} (hg:∀ o,l[i]?=some o→Good P l.toArray n clk tm0 hp0 l ss i o) {listed:Array Bool} {a:Act} {w:World} (hI:Inv C n clk tm0 hp0 l ss listed a w) (hr:i∈Region.ready .any l.toArray listed) {N:Act→World→Prop}
    (hN:∀ a' w',Inv C n clk tm0 hp0 l ss (listed.setIfInBounds i true) a' w'→N a' w'):wpOpX P l.toArray Q i N a w:=by
  have hm:=mem_ready.1 hr
  obtain ⟨_,o,ho',_⟩:=hm
  have ho:l[i]?=some o:=by rw [←ho'];simp
  obtain ⟨hun,hi,hedg⟩:=edg_ready hr ho hI.sz
  have gd:=hg o ho
  obtain ⟨E,e0,r,hG,hsz,hdf,ht⟩:=hI.st
  have hilt:i < listed.size:=by rw [hI.sz];exact hi
  have hbef:∀ j∈bef.getD i [],listed.getD j false=true:=bef_closed hc (S:=fun k=>listed.getD k false) hI.closed i o ho hedg
  have hnot:∀ k,k < l.length→i∈bef.getD k []→listed.getD k false=false:=by
    intro k hk hik
    rw [←Bool.not_eq_true]
    intro hkl
    have hko:l[k]?=some l[k]:=List.getElem?_eq_getElem hk
    have:=bef_closed hc (S:=fun k=>listed.getD k false) hI.closed k _ hko (hI.closed k _ hko hkl) i hik
    rw [hun] at this;cases this
  have hbl:∀ j∈bef.getD i [],j < i:=fun j hj=>(hc.befo i o ho j hj).1
  have htm:∀ t x,t∈(spAt ss i).need→trun l ss (tget tm0) (fun _=>true) i t=some x→trun l ss (tget tm0) (fun k=>listed.getD k false) l.length t=some x:=by
    intro t x htn hx
    rw [←trun_cut l.length (by omega)] at hx
    rw [←hx]
    refine trun_congr _ (fun _ _=>rfl) (fun k hk hd=>⟨?_,rfl⟩)
    rcases hc.need i k t hi hk htn hd with ⟨h1,h2⟩ | ⟨h1,h2⟩
    · rw [hbef k h2];simp [h1]
    · rw [hnot k hk h2];simp;omega
  have wr:∀ id,(id∈ids (spAt ss i).pre∨id∈ids (spAt ss i).post)→∀ k,k < l.length→k≠i→id∈(spAt ss k).post.map (·.1)→listed.getD k false=decide (k < i):=by
    intro id hid k hk hne hw
    rcases hc.conf i k id hi hk hne hw hid with h | h
    · rw [hbef k h];simp [hbl k h]
    · rw [hnot k hk h]
      have hko:l[k]?=some l[k]:=List.getElem?_eq_getElem hk
      have:=(hc.befo k _ hko i h).1
      simp;omega
  have hpre:∀ p∈(spAt ss i).pre,hrun ss (hget hp0) (fun k=>listed.getD k false) l.length p.1=some p.2:=by
    intro p hp
    rw [←gd.pre p hp,←hrun_cut l.length (by omega)]
    refine hrun_congr _ (fun _ _=>rfl) (fun k hk hw=>?_)
    by_cases hne:k=i
    · subst hne;rw [hun];simp
    · exact wr p.1 (.inl (List.mem_map.2 ⟨p,hp,rfl⟩)) k hk hne hw
  have hgf:¬ E.G (clk+i):=by
    intro hgg
    rcases hG _ hgg with h | ⟨k,_,h2,h3⟩
    · omega
    · have:k=i:=by omega
      subst this;rw [hun] at h2;cases h2
  unfold wpOpX
  have hoa:l.toArray[i]?=some o:=by rw [←ho];simp
  simp only [hoa]
  have key:=gd.st C.K C.w0 C.E0.F E _ a w Q N r (fun t x htn hx=>ht t x (htm t x htn hx)) hgf ⟨clk+l.length,fun g hg=>by rcases hG g hg with h | ⟨k,h1,_,h3⟩ <;> omega⟩ hpre (fun val w' E' e' r' hG' hv=>hN _ _ ?_)
  · split
    · rename_i hw;rw [if_pos hw] at key;exact Or.inl key
    · rename_i hw;rw [if_neg hw] at key;exact key
  · refine ⟨by simp [hI.sz],fun k o' hk' hkl e he=>?_,E',e0.trans e',?_,fun g hg'=>?_,?_,?_,?_⟩
    · rw [getD_set _ _ _ hilt] at hkl ⊢
      split
      · rfl
      · split at hkl
        · rename_i hki;subst hki
          rw [ho] at hk';injection hk' with hk';subst hk'
          exact hedg e he
        · exact hI.closed k o' hk' hkl e he
    · have:hrun ss (hget hp0) (fun k=>(listed.setIfInBounds i true).getD k false) l.length=hupd (hrun ss (hget hp0) (fun k=>listed.getD k false) l.length) (spAt ss i).post:=by
        funext id
        by_cases hid:id∈(spAt ss i).post.map (·.1)
        · rw [hupd_hit (h':=hrun ss (hget hp0) (fun _=>true) i) hid]
          have e1:hupd (hrun ss (hget hp0) (fun _=>true) i) (spAt ss i).post=hrun ss (hget hp0) (fun _=>true) (i+1):=by simp only [hrun,if_true]
          rw [e1,←hrun_cut (i:=i+1) l.length (by omega)]
          refine hrun_congr _ (fun _ _=>rfl) (fun k hk hw=>?_)
          rw [getD_set _ _ _ hilt]
          by_cases hne:k=i
          · subst hne;simp
          · rw [if_neg hne,wr id (.inr hid) k hk hne hw]
            have:(k < i)↔(k < i+1):=by omega
            simp [this]
        · rw [hupd_miss hid]
          refine hrun_congr _ (fun _ _=>rfl) (fun k hk hw=>?_)
          rw [getD_set _ _ _ hilt,if_neg (fun hki=>hid (by subst hki;exact hw))]
      rw [this];exact r'
    · rcases hG' g hg' with h | ⟨_,h⟩
      · rcases hG g h with h | ⟨k,h1,h2,h3⟩
        · exact .inl h
        · exact .inr ⟨k,h1,by rw [getD_set _ _ _ hilt];split <;> first | rfl | exact h2,h3⟩
      · exact .inr ⟨i,hi,by rw [getD_set _ _ _ hilt,if_pos rfl],h⟩
    · cases hd : o.dst with
      | none=>simpa [Act.put] using hsz
      | some d=>simpa [Act.put] using hsz
    · cases hd:o.dst <;> exact hdf.ext e'
    · intro t x hx
      have hdi:dstAt l i=o.dst:=by unfold dstAt;rw [ho];rfl
      have keep:∀ (u:Value) (y:TV),(∀ d j b z,o.dst=some d→y=.un j b z→j≠d)→TVRep w' E' a u y→TVRep w' E' (a.put o.dst val) u y:=by
        intro u y hy h
        cases hd:o.dst with
        | none=>exact h
        | some d =>
          cases y with
          | v z=>exact h
          | un j b z=>simp only [TVRep,getD_put_ne (hy d j b z hd rfl)];exact h
      by_cases hti:o.dst=some t
      · have hx1:trun l ss (tget tm0) (fun k=>(listed.setIfInBounds i true).getD k false) l.length t=some (spAt ss i).tv:=by
          have:∀ m,i < m→m≤l.length→trun l ss (tget tm0) (fun k=>(listed.setIfInBounds i true).getD k false) m t=some (spAt ss i).tv:=by
            intro m
            induction m with
            | zero=>intro h;omega
            | succ m ih =>
              intro him hml
              simp only [trun]
              by_cases hmi:m=i
              · subst hmi
                rw [if_pos ⟨by rw [getD_set _ _ _ hilt,if_pos rfl],by rw [hdi,hti]⟩]
              · rw [if_neg (fun hh=>hc.dst i m t hi (by omega) hmi (by rw [hdi,hti]) hh.2)]
                exact ih (by omega) (by omega)
          exact this l.length hi (Nat.le_refl _)
        rw [hx1] at hx
        injection hx with hx
        subst hx
        have hlt:=gd.dst t hti
        rw [hti,getD_put_same (by rw [hsz];exact hlt),←hti]
        refine keep val _ (fun d j b z hd hy hjd=>?_) hv
        subst hjd
        have:=hc.un i j b z i hi hi hy (by rw [hdi,hd])
        exact absurd (hbl i this) (Nat.lt_irrefl _)
      · have hx1:trun l ss (tget tm0) (fun k=>listed.getD k false) l.length t=some x:=by
          rw [←hx]
          refine trun_congr _ (fun _ _=>rfl) (fun k hk hd=>⟨?_,rfl⟩)
          rw [getD_set _ _ _ hilt,if_neg (fun hki=>hti (by subst hki;rw [←hdi];exact hd))]
        have hgd:(a.put o.dst val).tmps.getD t undef=a.tmps.getD t undef:=by
          cases hd:o.dst with
          | none=>rfl
          | some d=>exact getD_put_ne (fun htd=>hti (by rw [hd,htd]))
        rw [hgd]
        refine keep _ _ (fun d j b z hd hy hjd=>?_) ((ht t x hx1).ext e')
        subst hjd
        rcases trun_src hx1 with h | ⟨k,hk,hkS,hk2⟩
        · obtain ⟨z',hz'⟩:=allV_spec hV t x h
          rw [hz'] at hy;cases hy
        · have:=hc.un k j b z i hk hi (by rw [←hk2];exact hy) (by rw [hdi,hd])
          rw [hnot k hk this] at hkS;cases hkS
theorem Inv.any {bef:List (List Nat)} (hc:Chk l ss bef) (hV:allV tm0=true) (hg:∀ i o,l[i]?=some o→Good P l.toArray n clk tm0 hp0 l ss i o) (hQ:∀ a w listed,Inv C n clk tm0 hp0 l ss listed a w→(∀ k,k < l.length→listed.getD k false=true)→Q .normal a w) :
    ∀ (fuel:Nat) (listed:Array Bool) (a:Act) (w:World),listed.toList.count false≤fuel→Inv C n clk tm0 hp0 l ss listed a w→wpAnyX P .any l.toArray Q fuel listed a w:=by
  have full:∀ (listed:Array Bool) (a:Act) (w:World),Inv C n clk tm0 hp0 l ss listed a w→Region.ready .any l.toArray listed=[]→∀ k,k < l.length→listed.getD k false=true:=by
    intro listed a w hI hr k
    induction k using Nat.strongRecOn with
    | _ k ih =>
      intro hk
      have hko:l[k]?=some l[k]:=List.getElem?_eq_getElem hk
      rw [←Bool.not_eq_false]
      intro hkf
      have:k∈Region.ready .any l.toArray listed:=by
        refine mem_ready.2 ⟨?_,l[k],by simp,fun e he hb=>?_⟩
        · have hkl:k < listed.size:=by rw [hI.sz];exact hk
          simpa [hkl] using hkf
        · have hee:e.on∈edg l[k]:=List.mem_map.2 ⟨e,List.mem_filter.2 ⟨by simpa using he,hb⟩,rfl⟩
          exact ih e.on (hc.edge k _ hko _ hee) (by have:=hc.edge k _ hko _ hee;omega)
      rw [hr] at this;cases this
  intro fuel
  induction fuel with
  | zero =>
    intro listed a w hcnt hI
    have hall:∀ k,k < l.length→listed.getD k false=true:=by
      intro k hk
      have hkl:k < listed.size:=by rw [hI.sz];exact hk
      rw [←Bool.not_eq_false]
      intro hkf
      have hmem:false∈listed.toList:=by
        have:listed[k]=false:=by simpa [hkl] using hkf
        rw [←this];simp
      have:=List.count_pos_iff.2 hmem
      omega
    refine ⟨?_,hQ a w listed hI hall⟩
    cases hr:Region.ready .any l.toArray listed with
    | nil=>rfl
    | cons i r =>
      have hi:i∈Region.ready .any l.toArray listed:=by rw [hr];exact List.mem_cons_self ..
      obtain ⟨_,o,ho,_⟩:=mem_ready.1 hi
      have ho:l[i]?=some o:=by rw [←ho];simp
      obtain ⟨h1,h2,_⟩:=edg_ready hi ho hI.sz
      rw [hall i h2] at h1;cases h1
  | succ fuel ih =>
    intro listed a w hcnt hI
    refine ⟨fun hr=>hQ a w listed hI (full listed a w hI hr),fun i hr=>?_⟩
    refine hI.step hc hV (hg i) hr (fun a' w' hI'=>ih _ a' w' ?_ hI')
    obtain ⟨_,o,ho,_⟩:=mem_ready.1 hr
    have ho:l[i]?=some o:=by rw [←ho];simp
    obtain ⟨h1,h2,_⟩:=edg_ready hr ho hI.sz
    have hil:i < listed.toList.length:=by rw [Array.length_toList,hI.sz];exact h2
    have hli:listed.toList[i]=false:=by
      have hkl:i < listed.size:=by rw [hI.sz];exact h2
      simpa [hkl] using h1
    have hpos:0 < listed.toList.count false:=List.count_pos_iff.2 (by rw [←hli];exact List.getElem_mem hil)
    rw [Array.toList_setIfInBounds,List.count_set hil,hli]
    have e1:(false == false)=true:=rfl
    have e2:(true == false)=false:=rfl
    rw [e1,e2]
    simp only [if_true,Bool.false_eq_true,if_false]
    omega
def HDr (P:Program) (n clk:Nat) (tm0:List (Nat×TV)) (hp0:List (Nat×HObj)) (L:List Oper) (dn:List Oper) (ss:List HSpec) (rest:List Oper) (k:Nat) (tm:List (Nat×TV)) (hp:List (Nat×HObj)) (Fin:Prop):Prop :=
 dn++rest=L→dn.length=k→VRun P L.toArray n clk tm0 hp0 dn ss tm hp→Fin
theorem hd_start {id:Nat} (h:HDr P n clk tm0 hp0 l [] [] l 0 tm0 hp0 (HWp C P (.region id l.toArray true) ⟨n,tm0,hp0,clk⟩ Q)):HWp C P (.region id l.toArray true) ⟨n,tm0,hp0,clk⟩ Q:=h rfl rfl .nil
theorem hd_nil {id:Nat} {dn:List Oper} {k:Nat} {tm:List (Nat×TV)} {hp:List (Nat×HObj)} (hm:P.follows .mixedOrders=true) (hc:chkR l ss tm0=true) {c':Nat} (hc':clk+k=c') (h:HQ C Q .normal ⟨n,tm,hp,c'⟩) (nd:C.rd=none∨l.all Oper.calm=true:=by first | exact .inr rfl | exact .inl rfl | exact .inl (by assumption)):HDr P n clk tm0 hp0 l dn ss [] k tm hp (HWp C P (.region id l.toArray true) ⟨n,tm0,hp0,clk⟩ Q):=by
 subst hc'
 intro hdl hk hv a w hs
 rw [List.append_nil] at hdl
 subst hdl;subst hk
 obtain ⟨hV,hchk⟩:=chk_of hc
 obtain ⟨g1,g2,g3,g4⟩:=hv.good
 obtain ⟨E,e0,r,hG,hsz,hdf,ht⟩:=hs
 have start:Inv C n clk tm0 hp0 dn ss (Array.replicate dn.length false) a w.drew:=by
  have hf:∀ k,(Array.replicate dn.length false).getD k false=false:=by
   intro k;by_cases hk:k < dn.length <;> simp [hk]
  have hfun:(fun k=>(Array.replicate dn.length false).getD k false)=fun _=>false:=funext hf
  have hz:∀ m,hrun ss (hget hp0) (fun _=>false) m=hget hp0:=by
   intro m
   induction m with
   | zero=>rfl
   | succ m ih=>simp only [hrun,Bool.false_eq_true,if_false];exact ih
  have hzt:∀ m t,trun dn ss (tget tm0) (fun _=>false) m t=tget tm0 t:=by
   intro m t
   induction m with
   | zero=>rfl
   | succ m ih=>simp only [trun,Bool.false_eq_true,false_and,if_false];exact ih
  refine ⟨by simp,(fun i o _ h=>by rw [hf] at h;cases h),E,e0.trans (r.extBelow (Below.refl _ _).drew),(by rw [hfun,hz];exact r.drew),fun g hg=>.inl (hG g hg),hsz,hdf.ext (r.extBelow (Below.refl _ _).drew),fun t x hx=>?_⟩
  rw [hfun] at hx
  rw [hzt] at hx
  exact (ht t x hx).ext (r.extBelow (Below.refl _ _).drew)
 refine wpR_region_any nd hm ?_
 have:=Inv.any (C:=C) (P:=P) (Q:=Q) hchk hV g4 (fun a' w' listed hI hall=>h a' w' ?_) dn.toArray.size (Array.replicate dn.length false) a w.drew (by simp) start
 ·simpa using this
 ·obtain ⟨E',e',r',hG',hsz',hdf',ht'⟩:=hI.st
  have e1:hrun ss (hget hp0) (fun k=>listed.getD k false) dn.length=hget hp:=by
   rw [g3];funext id;exact hrun_congr _ (fun _ _=>rfl) (fun k hk _=>hall k hk)
  have e2:∀ t,trun dn ss (tget tm0) (fun k=>listed.getD k false) dn.length t=tget tm t:=by
   intro t;rw [g2];exact trun_congr _ (fun _ _=>rfl) (fun k hk _=>⟨hall k hk,rfl⟩)
  rw [e1] at r'
  refine ⟨E',e',r',fun g hg=>?_,hsz',hdf',fun t x hx=>ht' t x (by rw [e2];exact hx)⟩
  rcases hG' g hg with h | ⟨k,h1,_,h3⟩
  ·show g < clk+dn.length;omega
  ·show g < clk+dn.length;omega
section
variable {Fin:Prop} {o:Oper} {rest dn:List Oper} {k:Nat} {tm:List (Nat×TV)} {hp:List (Nat×HObj)} {L:List Oper} {pre post:List (Nat×HObj)} {v:HV}
theorem hd_cons (sp:HSpec) (d:Nat) (hd:o.dst=some d) (hst:HStep P L.toArray o (tget tm) (clk+k) sp) (hpre:∀ p∈sp.pre,hget hp p.1=some p.2) (hlt:Nat.blt d n=true) (h:HDr P n clk tm0 hp0 L (dn++[o]) (ss++[sp]) rest (k+1) ((d,sp.tv)::tm) (sp.post++hp) Fin):HDr P n clk tm0 hp0 L dn ss (o::rest) k tm hp Fin:=by
 intro hL hk hv
 subst hk
 have:=VRun.snoc dn ss tm hp o sp hv hst hpre (fun d' hd'=>by rw [hd] at hd';injection hd' with hd';subst hd';simpa [Nat.blt_eq] using hlt)
 have e:dtm o sp tm=(d,sp.tv)::tm:=by unfold dtm;rw [hd]
 rw [e] at this
 exact h (by simpa using hL) (by simp) this
theorem hd_cons_ (sp:HSpec) (hd:o.dst=none) (hst:HStep P L.toArray o (tget tm) (clk+k) sp) (hpre:∀ p∈sp.pre,hget hp p.1=some p.2) (h:HDr P n clk tm0 hp0 L (dn++[o]) (ss++[sp]) rest (k+1) tm (sp.post++hp) Fin):HDr P n clk tm0 hp0 L dn ss (o::rest) k tm hp Fin:=by
 intro hL hk hv
 subst hk
 have:=VRun.snoc dn ss tm hp o sp hv hst hpre (fun d' hd'=>by rw [hd] at hd';cases hd')
 have e:dtm o sp tm=tm:=by unfold dtm;rw [hd]
 rw [e] at this
 exact h (by simpa using hL) (by simp) this
theorem hd_q (d:Nat) (hop:HOp P o (pview (tget tm)) (clk+k) pre v []) (hd:o.dst=some d) (hg:o.guard=none) (hpre:∀ p∈pre,hget hp p.1=some p.2) (hlt:Nat.blt d n=true) (hk:True=True)
  {k':Nat} (hk':k+1=k') (h:HDr P n clk tm0 hp0 L (dn++[o]) (ss++[⟨.v v,ops_tmps o,pre,[]⟩]) rest k' ((d,.v v)::tm) hp Fin):HDr P n clk tm0 hp0 L dn ss (o::rest) k tm hp Fin:=by subst hk';exact hd_cons ⟨.v v,ops_tmps o,pre,[]⟩ d hd (hstep_plain hg hop) hpre hlt h
theorem hd_g (d gi j:Nat) (b c:Bool) (hop:c=b→HOp P o (gview (tget tm) j b) (clk+k) pre v []) (hd:o.dst=some d) (hg:o.guard=some (gi,b)) (hgi:(L.toArray[gi]?).bind (·.dst)=some j) (hc:tget tm j=some (.v (.imm (.bool c)))) (hpre:∀ p∈pre,hget hp p.1=some p.2) (hlt:Nat.blt d n=true) (hk:True=True) (hjd:True=True)
  {k':Nat} (hk':k+1=k') (h:HDr P n clk tm0 hp0 L (dn++[o]) (ss++[⟨.un j b v,j::ops_tmps o,pre,[]⟩]) rest k' ((d,.un j b v)::tm) hp Fin):HDr P n clk tm0 hp0 L dn ss (o::rest) k tm hp Fin:=by subst hk';exact hd_cons ⟨.un j b v,j::ops_tmps o,pre,[]⟩ d hd (hstep_guard gi j b c hg hgi (.inl hc) hop) hpre hlt h
theorem hd_m (d:Nat) (hop:HOp P o (pview (tget tm)) (clk+k) pre v post) (hd:o.dst=some d) (hg:o.guard=none) (hpre:∀ p∈pre,hget hp p.1=some p.2) (hlt:Nat.blt d n=true) (hk:True=True)
  {k':Nat} (hk':k+1=k') (h:HDr P n clk tm0 hp0 L (dn++[o]) (ss++[⟨.v v,ops_tmps o,pre,post⟩]) rest k' ((d,.v v)::tm) (post++hp) Fin):HDr P n clk tm0 hp0 L dn ss (o::rest) k tm hp Fin:=by subst hk';exact hd_cons ⟨.v v,ops_tmps o,pre,post⟩ d hd (hstep_plain hg hop) hpre hlt h
theorem hd_1 (d:Nat) {id:Nat} {ob:HObj} (hop:HOp P o (pview (tget tm)) (clk+k) pre v [(id,ob)]) (hd:o.dst=some d) (hg:o.guard=none) (hpre:∀ p∈pre,hget hp p.1=some p.2) (hlt:Nat.blt d n=true) (hk:True=True)
  {k':Nat} (hk':k+1=k') (h:HDr P n clk tm0 hp0 L (dn++[o]) (ss++[⟨.v v,ops_tmps o,pre,[(id,ob)]⟩]) rest k' ((d,.v v)::tm) ((id,ob)::hp) Fin):HDr P n clk tm0 hp0 L dn ss (o::rest) k tm hp Fin:=by subst hk';exact hd_m d hop hd hg hpre hlt hk rfl h
theorem hd_s1 {id:Nat} {ob:HObj} (hop:HOp P o (pview (tget tm)) (clk+k) pre v [(id,ob)]) (hd:o.dst=none) (hg:o.guard=none) (hpre:∀ p∈pre,hget hp p.1=some p.2)
  {k':Nat} (hk':k+1=k') (h:HDr P n clk tm0 hp0 L (dn++[o]) (ss++[⟨.v v,ops_tmps o,pre,[(id,ob)]⟩]) rest k' tm ((id,ob)::hp) Fin):HDr P n clk tm0 hp0 L dn ss (o::rest) k tm hp Fin:=by subst hk';exact hd_cons_ ⟨.v v,ops_tmps o,pre,[(id,ob)]⟩ hd (hstep_plain hg hop) hpre h
theorem hd_p (d:Nat) {need:List Nat} (hst:HStep P L.toArray o (tget tm) (clk+k) ⟨.v v,need,[],[]⟩) (hd:o.dst=some d) (hlt:Nat.blt d n=true) (hk:True=True)
  {k':Nat} (hk':k+1=k') (h:HDr P n clk tm0 hp0 L (dn++[o]) (ss++[⟨.v v,need,[],[]⟩]) rest k' ((d,.v v)::tm) hp Fin):HDr P n clk tm0 hp0 L dn ss (o::rest) k tm hp Fin:=by subst hk';exact hd_cons ⟨.v v,need,[],[]⟩ d hd hst pre0 hlt h
end
end
section
variable {P:Program} {ov:Nat→Option HV} {g:Nat} {d:Option Tmp} {ty:TypeId} {pos:String} {af:Array Edge} {gd:Option (Nat×Bool)} {T:TypeId} {x y:Operand}
theorem hop_appendN {id k s by_:Nat} {e:TypeId} {pre:List (Nat×HObj)} {fn:Nat→Nat→HV} (hT:elInfo P T=some (e,s,by_,true)) (hs0:0 < s) (hby:by_≤1000) (h1:ovl ov x=some (.imm (.slice none 0 0))) (hsrc:SrcOf ov y s k pre fn) (hk0:0 < k) (hk:k≤1000000) :
  HOp P ⟨d,.call ⟨.builtin .append,#[x,y],#[T,T]⟩,ty,pos,af,gd⟩ ov g pre (.os id g 0 k) [(id,⟨g,k,s,e,0,fn⟩)]:=by
 intro K w0 F0 E hh a w Q N r ht hG hBd hpre hN
 have e1:=Rep.imm_inv (ht x _ (by simp [Op.operands,Call.operands]) h1)
 obtain ⟨A,c,news,hy,hrd,hone,hnew⟩:=hsrc K w0 F0 E hh w (a.eval y) r hpre (fun hv h=>ht y hv (by simp [Op.operands,Call.operands]) h)
 obtain ⟨hu,i,z,hi,hz,his,hib,hzs,_⟩:=elInfo_spec hT
 obtain ⟨ad,rfl,_,hcells⟩:=hrd.2 hk0
 have hb:k * i.bytes≤281474976710656:=by have:=Nat.mul_le_mul hk (show i.bytes≤1000 by omega);omega
 have hrun:=run_append_nil (P:=P) w T ty e i z hu hi hz ad k c news (by rw [his];exact hrd.1) hcells hk0 (by omega) hb
 have hge:=grownCap_ge w k 0 e
 have hle:=grownCap_le_maxLen w k 0 e (by unfold maxLen;omega)
 have hnl:news.length=k * s:=hrd.1
 have hgetn:∀ p,p < k * s→(news.toArray++Builtin.zeroCells z.cells (grownCap w k 0 e - k))[p]?=news[p]?:=by
  intro p hp
  rw [Array.getElem?_append_left (by simpa [hnl] using hp)]
  simp
 have hval:∀ i j,i < k→j < s→∃ u,news[i * s+j]?=some u∧u.oneCell'=true∧Rep w E u (fn i j):=by
  intro i j hi hj
  obtain ⟨u,h1,h2⟩:=hnew i j hi hj
  exact ⟨u,h1,hone u (List.mem_of_getElem? h1),h2⟩
 have hch:∀ i j,∃ u,i < k→j < s→news[i * s+j]?=some u∧u.oneCell'=true∧Rep w E u (fn i j):=by
  intro i j
  by_cases h:i < k∧j < s
  ·obtain ⟨u,hu⟩:=hval i j h.1 h.2;exact ⟨u,fun _ _=>hu⟩
  ·exact ⟨undef,fun h1 h2=>absurd ⟨h1,h2⟩ h⟩
 have eD:Ext w E w.drew E:=r.extBelow (Below.refl _ _).drew
 have hnw:=r.drew.new id g (grownCap w k 0 e) s e (news.toArray++Builtin.zeroCells z.cells (grownCap w k 0 e - k)) fn k (fun i j=>(hch i j).choose) hG hs0 (by
   simp only [Array.size_append,List.size_toArray,size_zeroCells,hzs,hnl,←Nat.add_mul]
   congr 1;omega) hge hle (fun i j hi hj=>by
   have hc:=(hch i j).choose_spec hi hj
   exact ⟨by rw [hgetn _ (pos_in hi hj)];exact hc.1,hc.2.1,hc.2.2.ext eD⟩)
 refine wp_val (v:=.slice (some ⟨w.heap.size,0,none⟩) k (grownCap w k 0 e)) (w':=w.drew.alloc (.cells (news.toArray++Builtin.zeroCells z.cells (grownCap w k 0 e - k)) e)) ?_ (hN _ _ _ (eD.trans hnw.1) hnw.2 (fun g' hg'=>hg'.imp (fun h=>h) fun h=>⟨by simp,h⟩) ?_)
 ·simp only [execOp,resolve,invoke,builtin,Sem.run_bind,Sem.run_pure,Result.andThen_ok,List.map_toArray,List.map_cons,List.map_nil,e1,hy,hrun]
 ·refine .os _ k _ id g 0 (.inr rfl) hge hle (fun _=>⟨_,_,rfl,fun l hl _=>?_⟩) (fun l hl _ _=>?_)
  ·rw [Env.new_L] at hl;injection hl with hl;subst hl
   exact ⟨rfl,by simp⟩
  ·rw [Env.new_L] at hl;injection hl with hl;subst hl
   exact ⟨rfl,rfl⟩
end
def arOf (P:Program) (T:TypeId):Option (List Value×Nat) :=
  match P.info? T,P.underlying T with
  | some it, some (.array _ e) =>
    match it.zero,P.info? e with
    | some z,some ie=>some (z.cells.toList,ie.size)
    | _,_=>none
  | _,_=>none
section
variable {P:Program} {ov:Nat→Option HV} {g:Nat} {d:Option Tmp} {ty:TypeId} {pos:String} {af:Array Edge} {gd:Option (Nat×Bool)} {T:TypeId}
theorem hop_buildA {zs:List Value} {es n m:Nat} {parts:List (Nat×Operand)} {hs:List (Nat×Nat×HV)} (hT:arOf P T=some (zs,es)) (hn:zs.length=n) (hz1:zs.all (·.oneCell')=true) (hp:PartsOk ov ((List.range m).map fun i=>(i * es,es)) n parts hs) :
  HOp P ⟨d,.build T parts.toArray,ty,pos,af,gd⟩ ov g [] (.agg n (bld hs (fun j=>.imm (zs.getD j undef)))) [] :=
 hop_pure fun w E ρ hr=>by
  obtain ⟨e1,e2⟩:=hp.spec (w:=w) (E:=E) (ρ:=ρ) (fun x hv hx h=>hr x hv (by simpa [Op.operands] using hx) h)
  unfold arOf at hT
  split at hT
  ·rename_i it _ e hit hu
   split at hT
   ·rename_i z ie hz hie
    injection hT with hT
    injection hT with ha hb
    subst hb
    have hzl:z.cells.size=n:=by rw [←hn,←ha,Array.length_toList]
    obtain ⟨r,hr1,hr2,hr3⟩:=fill_bld (w:=w) (E:=E) (fun i=>some (i * ie.size,ie.size)) (parts.map fun p=>(p.1,ρ p.2)) hs z.cells (fun j=>.imm (zs.getD j undef)) (fun k hk=>by
     have hk':k < zs.length:=by rw [hn,←hzl];exact hk
     have e:zs.getD k undef=zs[k]:=by simp [List.getD,List.getElem?_eq_getElem hk']
     refine ⟨zs[k],?_,List.all_eq_true.1 hz1 _ (List.getElem_mem hk'),by rw [e];exact .imm _⟩
     rw [←Array.getElem?_toList,ha,List.getElem?_eq_getElem hk']) e1 (fun i p q hp hq=>by
      obtain ⟨h1,h2⟩:=e2 i p q hp hq
      refine ⟨?_,by rw [hzl];exact h2⟩
      rw [List.getElem?_toArray,List.getElem?_map] at h1
      by_cases hm:p.1 < m
      ·rw [List.getElem?_range hm] at h1;exact h1
      ·rw [List.getElem?_eq_none (by simpa using hm)] at h1;cases h1)
    have hb:P.built T (parts.toArray.map fun (i,x)=>(i,ρ x)).toList=some r:=by
     unfold Program.built
     simp only [hit,hu,hz,hie]
     rw [←hr1]
     simp
    refine ⟨.agg r,by simp only [execOp,Sem.run_bind,run_build w T _ r hb,Result.andThen_ok,Sem.run_pure],?_⟩
    have hch:∀ k,∃ u,k < n→r[k]?=some u∧u.oneCell'=true∧Rep w E u (bld hs (fun j=>.imm (zs.getD j undef)) k):=by
     intro k
     by_cases hk:k < n
     ·obtain ⟨u,hu⟩:=hr3 k (by rw [hzl];exact hk)
      exact ⟨u,fun _=>hu⟩
     ·exact ⟨undef,fun h=>absurd h hk⟩
    refine .agg r n _ (fun k=>(hch k).choose) (by rw [hr2,hzl]) (fun i hi=>⟨((hch i).choose_spec hi).1,((hch i).choose_spec hi).2.1⟩) (fun i hi=>((hch i).choose_spec hi).2.2)
   ·cases hT
  ·cases hT
end
def arL (P:Program) (T:TypeId):Option (Nat×Nat) :=
 match P.underlying T with
 | some (.array n e)=>(P.info? e).map fun i=>(n,i.size)
 | _=>none
theorem run_indexAt_ar {P:Program} {T:TypeId} {n s:Nat} (hT:arL P T=some (n,s)) (k:IntKind) (i:Int) (a:Addr) (h0:0≤i) (h1:i < n) (w:World) :
  (Instr.indexAt T (.pointer (some a)) (.int k i)).run P w=.ok (.pointer (some (a.add (i.toNat * s)))) w:=by
 unfold arL at hT
 split at hT
 ·rename_i n' e hu
  obtain ⟨it,hi,h⟩:=Option.map_eq_some_iff.1 hT
  injection h with h2 h3
  subst h2;subst h3
  have hs:∀ w,(sizeOf e).run P w=.ok it.size w:=fun w=>by simp [sizeOf,typeInfo,hi]
  unfold Instr.indexAt
  simp [asIntOf,run_underlying hu,Instr.sureAddr,h0,h1,hs]
 ·cases hT
section
variable {P:Program} {ov:Nat→Option HV} {g:Nat} {d:Option Tmp} {ty:TypeId} {pos:String} {af:Array Edge} {gd:Option (Nat×Bool)} {T:TypeId} {x y:Operand}
theorem hop_ia_arp {id gg i0 off n s:Nat} {k:IntKind} {i:Int} (hT:arL P T=some (n,s)) (h1:ovl ov x=some (.pt id gg i0 off)) (h2:ovl ov y=some (.imm (.int k i))) (hi0:0≤i) (hi:i < n) :
    HOp P ⟨d,.indexAddr T x y,ty,pos,af,gd⟩ ov g [] (.pt id gg i0 (off+i.toNat * s)) [] :=
  hop_pure fun w E ρ hr=>by
    have h:=hr x _ (by simp [Op.operands]) h1
    have e2:=Rep.imm_inv (hr y _ (by simp [Op.operands]) h2)
    generalize hρ:ρ x=u at h
    cases h with
    | pt b' k' _ _ _ _ hgg hh =>
      refine ⟨.pointer (some ⟨b',k'+i.toNat * s,none⟩),?_,?_⟩
      · simp only [execOp,hρ,e2,Sem.run_bind,run_indexAt_ar hT k i _ hi0 hi,Result.andThen_ok,Sem.run_pure,add_off]
      · refine .pt b' _ id gg i0 _ hgg (fun l hl hlg=>?_)
        obtain ⟨h1,rfl⟩:=hh l hl hlg
        exact ⟨h1,by rw [Nat.add_assoc]⟩
theorem hop_ia_arf {n m s:Nat} {f:Nat→HV} {k:IntKind} {i:Int} (hT:arL P T=some (n,s)) (h1:ovl ov x=some (.fp m f)) (h2:ovl ov y=some (.imm (.int k i))) (hi0:0≤i) (hi:i < n) (hm:i.toNat * s≤m) :
    HOp P ⟨d,.indexAddr T x y,ty,pos,af,gd⟩ ov g [] (.fp (m - i.toNat * s) (fun j=>f (i.toNat * s+j))) [] :=
  hop_pure fun w E ρ hr=>by
    have h:=hr x _ (by simp [Op.operands]) h1
    have e2:=Rep.imm_inv (hr y _ (by simp [Op.operands]) h2)
    generalize hρ:ρ x=u at h
    cases h with
    | fp bl o _ _ vs hA h =>
      refine ⟨.pointer (some ⟨bl,o+i.toNat * s,none⟩),?_,?_⟩
      · simp only [execOp,hρ,e2,Sem.run_bind,run_indexAt_ar hT k i _ hi0 hi,Result.andThen_ok,Sem.run_pure,add_off]
      · refine .fp bl _ _ _ (fun j=>vs (i.toNat * s+j)) (fun j hj=>?_) (fun j hj=>h _ (by omega))
        rw [Nat.add_assoc]
        exact hA (i.toNat * s+j) (by omega)
end
theorem ty_3:tyOf Try.prog 3=some (false,1):=by kernel_rfl
theorem zc_3:zcs Try.prog 3=some [.int .i64 0]:=by kernel_rfl
theorem ty_4:tyOf Try.prog 4=some (false,1):=by kernel_rfl
theorem ty_22:tyOf Try.prog 22=some (false,1):=by kernel_rfl
theorem ei_22:elInfo Try.prog 22=some (71,12,48,true):=by kernel_rfl
theorem el_22:elOf Try.prog 22=some (71,12):=by kernel_rfl
theorem ty_26:tyOf Try.prog 26=some (true,10):=by kernel_rfl
theorem zc_26:zcs Try.prog 26=some [.int .i64 0,.int .i64 0,.int .i64 0,.int .i64 0,.int .i64 0,.int .i64 0,.int .i64 0,.int .i64 0,.slice none 0 0,.slice none 0 0]:=by kernel_rfl
theorem st_26:stOf Try.prog 26=some ([.int .i64 0,.int .i64 0,.int .i64 0,.int .i64 0,.int .i64 0,.int .i64 0,.int .i64 0,.int .i64 0,.slice none 0 0,.slice none 0 0],[(0,1),(1,1),(2,1),(3,1),(4,1),(5,1),(6,1),(7,1),(8,1),(9,1)]):=by kernel_rfl
theorem ty_32:tyOf Try.prog 32=some (false,1):=by kernel_rfl
theorem ei_32:elInfo Try.prog 32=some (82,4,48,true):=by kernel_rfl
theorem el_32:elOf Try.prog 32=some (82,4):=by kernel_rfl
theorem zc_32:zcs Try.prog 32=some [.slice none 0 0]:=by kernel_rfl
theorem ty_45:tyOf Try.prog 45=some (false,1):=by kernel_rfl
theorem ei_45:elInfo Try.prog 45=some (3,1,8,true):=by kernel_rfl
theorem el_45:elOf Try.prog 45=some (3,1):=by kernel_rfl
theorem ty_71:tyOf Try.prog 71=some (true,12):=by kernel_rfl
theorem ty_75:tyOf Try.prog 75=some (false,1):=by kernel_rfl
theorem ei_75:elInfo Try.prog 75=some (45,1,24,true):=by kernel_rfl
theorem el_75:elOf Try.prog 75=some (45,1):=by kernel_rfl
theorem st_77:stOf Try.prog 77=some ([.slice none 0 0,.slice none 0 0,.slice none 0 0],[(0,1),(1,1),(2,1)]):=by kernel_rfl
theorem fd_77_0:fdOf Try.prog 77 0=some 0:=by kernel_rfl
theorem fd_77_1:fdOf Try.prog 77 1=some 1:=by kernel_rfl
theorem fd_77_2:fdOf Try.prog 77 2=some 2:=by kernel_rfl
theorem ei_78:elInfo Try.prog 78=some (85,2,16,true):=by kernel_rfl
theorem el_78:elOf Try.prog 78=some (85,2):=by kernel_rfl
theorem ty_82:tyOf Try.prog 82=some (true,4):=by kernel_rfl
theorem zc_82:zcs Try.prog 82=some [.bool false,.int .i64 0,.int .i64 0,.slice none 0 0]:=by kernel_rfl
theorem st_82:stOf Try.prog 82=some ([.bool false,.int .i64 0,.int .i64 0,.slice none 0 0],[(0,1),(1,1),(2,1),(3,1)]):=by kernel_rfl
theorem fd_82_0:fdOf Try.prog 82 0=some 0:=by kernel_rfl
theorem fd_82_1:fdOf Try.prog 82 1=some 1:=by kernel_rfl
theorem fd_82_2:fdOf Try.prog 82 2=some 2:=by kernel_rfl
theorem fd_82_3:fdOf Try.prog 82 3=some 3:=by kernel_rfl
theorem ty_85:tyOf Try.prog 85=some (true,2):=by kernel_rfl
theorem zc_85:zcs Try.prog 85=some [.int .i64 0,.int .i64 0]:=by kernel_rfl
theorem al_85:arL Try.prog 85=some (2,1):=by kernel_rfl
theorem ar_85:arOf Try.prog 85=some ([.int .i64 0,.int .i64 0],1):=by kernel_rfl
inductive Kz (kp sh:List (Nat×HObj)):HV→HV→Prop
 | fz (x y:HV) (h:Fz sh x y):Kz kp sh x y
 | agg (n:Nat) (f f':Nat→HV) (h:∀ i,i < n→Kz kp sh (f i) (f' i)):Kz kp sh (.agg n f) (.agg n f')
 | tup (n:Nat) (f f':Nat→HV) (h:∀ i,i < n→Kz kp sh (f i) (f' i)):Kz kp sh (.tup n f) (.tup n f')
 | sl (sz n:Nat) (f f':Nat→Nat→HV) (h:∀ i j,i < n→j < sz→Kz kp sh (f i j) (f' i j)):Kz kp sh (.sl sz n f) (.sl sz n f')
 | ifc (t:TypeId) (x y:HV) (h:Kz kp sh x y):Kz kp sh (.ifc t x) (.ifc t y)
 | fn (fn:Fn) (n:Nat) (f f':Nat→HV) (h:∀ i,i < n→Kz kp sh (f i) (f' i)):Kz kp sh (.fn fn n f) (.fn fn n f')
 | pt (id g i off:Nat) (o:HObj) (ho:hget kp id=some o) (hg:o.g=g):Kz kp sh (.pt id g i off) (.pt id g i off)
 | os (id g lo n:Nat) (o:HObj) (ho:hget kp id=some o) (hg:o.g=g):Kz kp sh (.os id g lo n) (.os id g lo n)
 | nps (id g:Nat) (o:HObj) (ho:hget kp id=some o) (hg:o.g=g):Kz kp sh (.nps id g) (.nps id g)
theorem Kz.sound {w:World} {E E':Env} {kp sh:List (Nat×HObj)} (hF:∀ a,E.F a→E'.F a) (hL:∀ id o,hget kp id=some o→E'.L id=E.L id) (hG:∀ id o,hget kp id=some o→E'.G o.g) (hsh:Shared w E sh) {x y:HV} (hz:Kz kp sh x y) :
    ∀ {v:Value},Rep w E v x→Rep w E' v y:=by
  induction hz with
  | fz x y h=>exact fun hr=>(h.sound hsh hr).ext (Ext.just hF)
  | agg n f f' _ ih=>intro u h;cases h with | agg cs _ _ vs hn hv h=>exact .agg cs n f' vs hn hv (fun i hi=>ih i hi (h i hi))
  | tup n f f' _ ih=>intro u h;cases h with | tup cs _ _ vs hn hv h=>exact .tup cs n f' vs hn hv (fun i hi=>ih i hi (h i hi))
  | sl sz n f f' _ ih=>intro u h;cases h with | sl A _ c _ _ vs hc hm hA h=>exact .sl A n c sz f' vs hc hm (fun hn=>by
      obtain ⟨b,o,h1,h2,h3⟩:=hA hn
      exact ⟨b,o,h1,h2,fun i j hi hj=>⟨hF _ (h3 i j hi hj).1,(h3 i j hi hj).2⟩⟩) (fun i j hi hj=>ih i j hi hj (h i j hi hj))
  | ifc t x y _ ih=>intro u h;cases h with | ifc _ v _ h=>exact .ifc t v y (ih h)
  | fn fn n f f' _ ih=>intro u h;cases h with | fn _ cs _ _ vs hn hv h=>exact .fn fn cs n f' vs hn hv (fun i hi=>ih i hi (h i hi))
  | pt id g i off o ho hg =>
    intro u h
    cases h with
    | pt b k _ _ _ _ hgG hh=>exact .pt b k id g i off (hg▸hG id o ho) (fun l hl hlg=>hh l (by rw [←hL id o ho];exact hl) hlg)
  | os id g lo n o ho hg =>
    intro u h
    cases h with
    | os A _ c _ _ _ hgG hc hm hA h0 =>
      refine .os A n c id g lo (hg▸hG id o ho) hc hm (fun hp=>?_) (fun l hl hlg=>h0 l (by rw [←hL id o ho];exact hl) hlg)
      obtain ⟨b,k,h1,h2⟩:=hA hp
      exact ⟨b,k,h1,fun l hl hlg=>h2 l (by rw [←hL id o ho];exact hl) hlg⟩
  | nps id g o ho hg =>
    intro u h
    cases h with
    | npn _ _ hgG hh=>exact .npn id g (hg▸hG id o ho) (fun l hl hlg=>hh l (by rw [←hL id o ho];exact hl) hlg)
    | npp _ _ _ hgG hc h =>
      cases h with
      | pt b k _ _ _ _ _ hh=>exact .npp _ _ _ (hg▸hG id o ho) (fun l hl hlg=>hc l (by rw [←hL id o ho];exact hl) hlg) (.pt b k id g 0 0 (hg▸hG id o ho) (fun l hl hlg=>hh l (by rw [←hL id o ho];exact hl) hlg))
structure Clr where
 K:Nat→Prop
 w0:World
 F0:Addr→Prop
 E:Env
 h:Nat→Option HObj
 w:World
 pre:List (Nat×HObj)
def Clr.K' (X:Clr) (b:Nat):Prop:=∀ id o l,hget X.pre id=some o→X.E.L id=some l→l.A≠some b
def Clr.ctx (X:Clr):Ctx:=⟨X.K',X.w,X.E,[],none,none⟩
structure Clr.Ok (X:Clr):Prop where
 r:R X.K X.w0 X.F0 X.E X.h X.w
 pre:∀ id o,hget X.pre id=some o→X.h id=some o
theorem Clr.Ok.start {X:Clr} (ok:X.Ok):R X.K' X.w X.E.F X.E (hget X.pre) X.w:=by
 have r:=ok.r
 refine ⟨rfl,rfl,rfl,Nat.le_refl _,fun _ _ _=>rfl,r.frz,fun a ha=>.inl ha,fun b hb id o l ho hl hA=>?_,r.libw,r.bks,fun id o ho=>?_,fun id id' o o' l l' b ho ho' hl hl' hb hb'=>r.inj id id' o o' l l' b (ok.pre _ _ ho) (ok.pre _ _ ho') hl hl' hb hb'⟩
 ·obtain ⟨l2,hl2,a⟩:=r.obj id o (ok.pre _ _ ho)
  rw [hl] at hl2;injection hl2 with hl2;subst hl2
  exact a.notK hA (r.lib.ok _ hb) (r.klib _ hb)
 ·obtain ⟨l,hl,a⟩:=r.obj id o (ok.pre _ _ ho)
  refine ⟨l,hl,a.g,a.G,a.sz,a.pos,?_⟩
  rcases a.at_ with h0 | ⟨b,cs,g1,g2,g3,g4,g5,g6,g8,g9⟩ | ⟨b,ob,g1,g2,g3,g4⟩
  ·exact .inl h0
  ·exact .inr (.inl ⟨b,cs,g1,g2,g3,g4,g5,fun _ hk=>hk id o l ho hl g1,g8,g9⟩)
  ·exact .inr (.inr ⟨b,ob,g1,g2,g3,fun _ hk=>hk id o l ho hl g1⟩)
theorem hupd_hget (h:Nat→Option HObj):∀ (p:List (Nat×HObj)) (id:Nat),hupd h p id=match hget p id with | some o=>some o | none=>h id
  | [],id=>rfl
  | (k, o) :: p, id => by
    show hset (hupd h p) k o id=_
    rw [hget_cons]
    by_cases hk:id=k
    · subst hk;rw [hset_same,hset_same]
    · rw [hset_ne _ _ hk,hset_ne _ _ hk,hupd_hget h p id]
theorem Clr.Ok.back {X:Clr} (ok:X.Ok) {E2:Env} {h2:Nat→Option HObj} {w':World} {c':Nat} (e2:Ext X.w X.E w' E2) (r2:R X.K' X.w X.E.F E2 h2 w') (hG2:∀ g,E2.G g→g < c') {kp sh:List (Nat×HObj)} (hsh:Shared w' E2 sh)
    (hpk:∀ id o,hget X.pre id=some o→∃ o',hget kp id=some o')
    (hkp:∀ id o',hget kp id=some o'→∃ o,h2 id=some o∧o.g=o'.g∧o.n=o'.n∧o.sz=o'.sz∧o.ty=o'.ty∧o.fl≤o'.fl∧(∀ i j,i < o.n→j < o.sz→Kz kp sh (o.f i j) (o'.f i j))∧(o'.n < o'.fl→o=o')) :
    ∃ E3,Ext X.w X.E w' E3∧R X.K X.w0 X.F0 E3 (hupd X.h kp) w'∧(∀ g,E3.G g→g < c')∧(∀ g,E3.G g→X.E.G g∨∃ id o,hget kp id=some o∧o.g=g)∧∀ v x y,Kz kp sh x y→Rep w' E2 v x→Rep w' E3 v y:=by
  have r:=ok.r
  let E3:Env:=⟨E2.F,fun id=>match hget kp id with | some _=>E2.L id | none=>X.E.L id,fun g=>X.E.G g∨∃ id o,hget kp id=some o∧o.g=g,X.E.M⟩
  have hL:∀ id o,hget kp id=some o→E3.L id=E2.L id:=fun id o ho=>by show (match hget kp id with | some _=>E2.L id | none=>X.E.L id)=_;rw [ho]
  have hLn:∀ id,hget kp id=none→E3.L id=X.E.L id:=fun id ho=>by show (match hget kp id with | some _=>E2.L id | none=>X.E.L id)=_;rw [ho]
  have kz:∀ v x y,Kz kp sh x y→Rep w' E2 v x→Rep w' E3 v y:=fun v x y hz hr=>hz.sound (E:=E2) (E':=E3) (fun _ h=>h) hL (fun id o ho=>.inr ⟨id,o,ho,rfl⟩) hsh hr
  have e3:Ext X.w X.E w' E3:=⟨e2.sz,e2.F,fun g hg=>.inl hg,fun id l hl hg=>by
    cases hk:hget kp id with
    | none=>rw [hLn id hk] at hl;exact hl
    | some o=>rw [hL id o hk] at hl;exact e2.L id l hl hg,fun _ h=>h⟩
  have own:∀ id o l b,X.h id=some o→X.E.L id=some l→l.A=some b→b < X.w.heap.size∧(b < X.w0.heap.size→¬ X.K b)∧(hget X.pre id=none→X.K' b):=by
    intro id o l b ho hl hA
    obtain ⟨l2,hl2,a⟩:=r.obj id o ho
    rw [hl] at hl2;injection hl2 with hl2;subst hl2
    refine ⟨a.lt hA,?_,fun hn id' o' l' ho' hl' hA'=>?_⟩
    · exact a.notK hA
    · have:=r.inj id id' o o' l l' b ho (ok.pre _ _ ho') hl hl' hA hA'
      subst this
      rw [hn] at ho';cases ho'
  have notpre:∀ b,b < X.w0.heap.size→X.K b→X.K' b:=fun b hb hK id o l ho hl hA=>(own id o l b (ok.pre _ _ ho) hl hA).2.1 hb hK
  have ispre:∀ b,¬ X.K' b→∃ id o l,hget X.pre id=some o∧X.E.L id=some l∧l.A=some b:=by
    intro b hb
    unfold Clr.K' at hb
    simp only [Classical.not_forall,ne_eq,Classical.not_not] at hb
    obtain ⟨id,o,l,h1,h2,h3⟩:=hb
    exact ⟨id,o,l,h1,h2,h3⟩
  have kpo:∀ id o',hget kp id=some o'→∃ l,E3.L id=some l∧ObjAt w' E3 X.K X.w0.heap.size o' l∧E2.L id=some l∧(∀ b,l.A=some b→X.w.heap.size≤b∨¬ X.K' b):=by
    intro id o' hk
    obtain ⟨o,ho,h1,h2',h3,h4,h5,h6,h7⟩:=hkp id o' hk
    obtain ⟨l,hl,a⟩:=r2.obj id o ho
    refine ⟨l,by rw [hL id o' hk];exact hl,⟨a.g.trans h1,.inr ⟨id,o',hk,rfl⟩,a.sz.trans h3,by rw [←h3];exact a.pos,?_⟩,hl,fun b hb=>?_⟩
    · rcases a.at_ with ⟨g1,g2,g3⟩ | ⟨b,cs,g1,g2,g3,g4,g5,g6,⟨vs,g8⟩,g9⟩ | ⟨b,ob,g1,g2,g3,g6⟩
      rotate_right
      · refine .inr (.inr ⟨b,ob,g1,g2,by rw [←h7 (by rw [←h2',g3.n];rw [g3.fl] at h5;omega)];exact g3,fun hlt=>?_⟩)
        have hlt':=Nat.lt_of_lt_of_le hlt r.size
        obtain ⟨id',o1,l1,p1,p2,p3⟩:=ispre b (g6 hlt')
        exact (own id' o1 l1 b (ok.pre _ _ p1) p2 p3).2.1 hlt
      · refine .inl ⟨g1,g2,by rw [←h2'];exact g3.1,?_⟩
        rcases Nat.lt_or_ge o'.n o'.fl with h | h
        · rw [←h7 h];exact g3.2
        · exact h
      · refine .inr (.inl ⟨b,cs,g1,by rw [←h4];exact g2,by rw [←h3];exact g3,by rw [←h2'];exact g4,g5,fun hlt=>?_,⟨vs,fun i j hi hj=>?_⟩,fun k hk'=>?_,?_⟩)
        · have hlt':=Nat.lt_of_lt_of_le hlt r.size
          obtain ⟨id',o1,l1,p1,p2,p3⟩:=ispre b (g6 hlt')
          exact (own id' o1 l1 b (ok.pre _ _ p1) p2 p3).2.1 hlt
        · rw [←h2'] at hi;rw [←h3] at hj
          have:=g8 i j hi hj
          rw [←h3]
          exact ⟨this.1,this.2.1,kz _ _ _ (h6 i j hi hj) this.2.2⟩
        · have:=g9.1 k hk'
          rw [←h3]
          exact Nat.lt_of_lt_of_le this (Nat.mul_le_mul_right _ h5)
        · rcases Nat.lt_or_ge o'.n o'.fl with h | h
          · rw [←h7 h];exact g9.2
          · exact h
    · have g6:=a.notK hb
      · by_cases hlt:b < X.w.heap.size
        · exact .inr (g6 hlt)
        · exact .inl (by omega)
  have oth:∀ id o,hget kp id=none→X.h id=some o→∃ l,E3.L id=some l∧ObjAt w' E3 X.K X.w0.heap.size o l∧X.E.L id=some l∧(∀ b,l.A=some b→b < X.w.heap.size∧X.K' b):=by
    intro id o hk ho
    have hpn:hget X.pre id=none:=by
      cases hp:hget X.pre id with
      | none=>rfl
      | some o1=>obtain ⟨o',ho'⟩:=hpk id o1 hp;rw [hk] at ho';cases ho'
    obtain ⟨l,hl,a⟩:=r.obj id o ho
    have hb:∀ b,l.A=some b→b < X.w.heap.size∧X.K' b:=fun b hb=>⟨(own id o l b ho hl hb).1,(own id o l b ho hl hb).2.2 hpn⟩
    refine ⟨l,by rw [hLn id hk];exact hl,a.ext e3 (fun b hA=>r2.keep b (hb b hA).1 (hb b hA).2) (fun b k hA hF=>?_),hl,hb⟩
    rcases r2.fnew _ hF with h1 | h1 | h1
    · exact h1
    · exact absurd h1 (by have:=(hb b hA).1;simp;omega)
    · exact absurd (hb b hA).2 h1
  have all:∀ id o,hupd X.h kp id=some o→∃ l,E3.L id=some l∧ObjAt w' E3 X.K X.w0.heap.size o l:=by
    intro id o ho
    rw [hupd_hget] at ho
    cases hk:hget kp id with
    | some o'=>rw [hk] at ho;injection ho with ho;subst ho;obtain ⟨l,h1,h2,_⟩:=kpo id o' hk;exact ⟨l,h1,h2⟩
    | none=>rw [hk] at ho;obtain ⟨l,h1,h2,_⟩:=oth id o hk ho;exact ⟨l,h1,h2⟩
  refine ⟨E3,e3,⟨r2.os.trans r.os,r2.tape.trans r.tape,r2.output.trans r.output,Nat.le_trans r.size r2.size,fun k hk hK=>(r2.keep k (Nat.lt_of_lt_of_le hk r.size) (notpre k hk hK)).trans (r.keep k hk hK),r2.frz,fun a ha=>?_,r.klib,r.lib,fun b hb=>r2.bks b (e2.M b hb),all,fun id id' o o' l l' b ho ho' hl hl' hb hb'=>?_⟩,fun g hg=>?_,fun g hg=>hg,kz⟩
  · rcases r2.fnew a ha with h1 | h1 | h1
    · exact r.fnew a h1
    · exact .inr (.inl (Nat.le_trans r.size h1))
    · obtain ⟨id,o,l,p1,p2,p3⟩:=ispre _ h1
      by_cases hlt:a.block < X.w0.heap.size
      · exact .inr (.inr ((own id o l _ (ok.pre _ _ p1) p2 p3).2.1 hlt))
      · exact .inr (.inl (by omega))
  · rw [hupd_hget] at ho ho'
    cases hk:hget kp id with
    | some o1 =>
      obtain ⟨l1,h1,_,h3,h4⟩:=kpo id o1 hk
      rw [hl] at h1;injection h1 with h1;subst h1
      cases hk':hget kp id' with
      | some o2 =>
        obtain ⟨l2,g1,_,g3,g4⟩:=kpo id' o2 hk'
        rw [hl'] at g1;injection g1 with g1;subst g1
        obtain ⟨p,hp,_⟩:=hkp id o1 hk
        obtain ⟨q,hq,_⟩:=hkp id' o2 hk'
        exact r2.inj id id' p q l l' b hp hq h3 g3 hb hb'
      | none =>
        rw [hk'] at ho'
        obtain ⟨l2,g1,_,g3,g4⟩:=oth id' o' hk' ho'
        rw [hl'] at g1;injection g1 with g1;subst g1
        rcases h4 b hb with h5 | h5
        · have:=(g4 b hb').1;omega
        · exact absurd (g4 b hb').2 h5
    | none =>
      rw [hk] at ho
      obtain ⟨l1,h1,_,h3,h4⟩:=oth id o hk ho
      rw [hl] at h1;injection h1 with h1;subst h1
      cases hk':hget kp id' with
      | some o2 =>
        obtain ⟨l2,g1,_,g3,g4⟩:=kpo id' o2 hk'
        rw [hl'] at g1;injection g1 with g1;subst g1
        rcases g4 b hb' with h5 | h5
        · have:=(h4 b hb).1;omega
        · exact absurd (h4 b hb).2 h5
      | none =>
        rw [hk'] at ho'
        obtain ⟨l2,g1,_,g3,g4⟩:=oth id' o' hk' ho'
        rw [hl'] at g1;injection g1 with g1;subst g1
        exact r.inj id id' o o' l l' b ho ho' h3 g3 hb hb'
  · rcases hg with hg | ⟨id,o',hk,rfl⟩
    · exact hG2 g (e2.G g hg)
    · obtain ⟨o,ho,h1,_⟩:=hkp id o' hk
      obtain ⟨l,hl,a⟩:=r2.obj id o ho
      rw [←h1]
      exact hG2 _ a.G
inductive HEnd where
 | ret (x:HV)
 | pan (x:HV)
def EndRep (w:World) (E:Env):Ending→HEnd→Prop
 | .returned v,.ret x=>Rep w E v x
 | .panicked ch,.pan x=>∃ v,ch=[{ v:=v,recovered:=false }]∧Rep w E v x
 | _,_=>False
def FunPost (X:Clr) (Post:HEnd→List (Nat×HObj)→Nat→Prop) (e:Ending) (w':World):Prop :=
 ∃ x kp c' E',Post x kp c'∧Ext X.w X.E w' E'∧R X.K X.w0 X.F0 E' (hupd X.h kp) w'∧(∀ g,E'.G g→g < c')∧(∀ g,E'.G g→X.E.G g∨∃ id o,hget kp id=some o∧o.g=g)∧EndRep w' E' e x
def HFun (P:Program) (f:FuncId) (c:Nat) (args:List HV) (pre:List (Nat×HObj)) (Post:HEnd→List (Nat×HObj)→Nat→Prop):Prop:=FnOk P f ∧
 ∀ (X:Clr) (vs:List Value),X.Ok→X.pre=pre→RepAll X.w X.E vs args→(∀ g,X.E.G g→g < c)→Calls P f vs.toArray X.w (FunPost X Post)
theorem hget_mem {p:List (Nat×HObj)} {id:Nat} {o:HObj} (h:hget p id=some o):(id,o)∈p:=by
  induction p with
  | nil=>cases h
  | cons q p ih =>
    obtain ⟨k,x⟩:=q
    rw [hget_cons] at h
    unfold hset at h
    split at h
    · rename_i e;injection h with h;subst h;subst e;exact List.mem_cons_self ..
    · exact List.mem_cons_of_mem _ (ih h)
section
variable {P:Program} {Post:HEnd→List (Nat×HObj)→Nat→Prop}
theorem hfun_of {f:FuncId} {fn:Func} {c:Code} (hf:P.funcs[f]?=some fn) (hb:fn.body=some c) (hn:(fn.name == "runtime.NumGoroutine")=false) (clk:Nat) (args:List HV) (pre:List (Nat×HObj)) (tm:List (Nat×TV)) (htm:slots 0 args=tm) (n:Nat) (hnt:fn.ntmps=n) (hlen:Nat.ble args.length n=true)
  (h:∀ X:Clr,X.Ok→X.pre=pre→HWp X.ctx P c ⟨n,tm,pre,clk⟩ (bodyPost P fn (FunPost X Post))):HFun P f clk args pre Post:=by
 refine ⟨⟨fn,c,hf,hb,hn⟩,fun X vs ok hX hr hG=>calls_of_wp hf hb (wpR_none.1 (h X ok hX _ X.w ?_))⟩
 obtain ⟨hl,hg⟩:=hr.get
 have hlen:args.length≤n:=by simpa using hlen
 have rs:=ok.start
 rw [hX] at rs
 refine ⟨X.E,Ext.refl _ _,rs,hG,?_,rfl,fun t x hx=>?_⟩
 ·simp [hl,hnt];omega
 ·rw [←htm] at hx
  obtain ⟨i,y,rfl,h2,rfl⟩:=tget_slots args 0 t x hx
  obtain ⟨v,hv,hrep⟩:=hg i y h2
  have hi:i < vs.length:=by
   rcases Nat.lt_or_ge i vs.length with h | h
   ·exact h
   ·rw [List.getElem?_eq_none h] at hv;cases hv
  have:({ tmps:=vs.toArray++Array.replicate (fn.ntmps - vs.toArray.size) undef,defers:=[] }:Act).tmps.getD (0+i) undef=v:=by
   rw [Nat.zero_add]
   simp only [Array.getD_eq_getD_getElem?]
   rw [Array.getElem?_append_left (by simpa using hi)]
   simp [hv]
  rw [this]
  exact hrep
def OKz (kp sh:List (Nat×HObj)) (o o':HObj):Prop:=o.g=o'.g∧o.n=o'.n∧o.sz=o'.sz∧o.ty=o'.ty∧o.fl≤o'.fl∧(∀ i j,i < o.n→j < o.sz→Kz kp sh (o.f i j) (o'.f i j))∧(o'.n < o'.fl→o=o')
theorem OKz.of {kp sh:List (Nat×HObj)} {g n sz ty fl:Nat} {f f':Nat→Nat→HV} (h:∀ i j,i < n→j < sz→Kz kp sh (f i j) (f' i j)) (hfn:fl≤n:=by first | exact Nat.zero_le _ | exact Nat.le_refl _ | omega):OKz kp sh ⟨g,n,sz,ty,fl,f⟩ ⟨g,n,sz,ty,fl,f'⟩:=⟨rfl,rfl,rfl,rfl,Nat.le_refl _,h,fun h=>absurd hfn (Nat.not_le_of_lt h)⟩
def Kept (kp0 sh hp:List (Nat×HObj)):List (Nat×HObj)→Prop
 | []=>True
 | (id,o')::r=>(∃ o,hget hp id=some o∧OKz kp0 sh o o')∧Kept kp0 sh hp r
theorem Kept.get {kp0 sh hp:List (Nat×HObj)}:∀ {kp:List (Nat×HObj)},Kept kp0 sh hp kp→∀ id o',hget kp id=some o'→∃ o,hget hp id=some o∧OKz kp0 sh o o'
  | [],_,id,o',h=>by cases h
  | (k, x) :: r, hk, id, o', h => by
    rw [hget_cons] at h
    unfold hset at h
    split at h
    · rename_i e;injection h with h;subst h;subst e;exact hk.1
    · exact Kept.get hk.2 id o' h
theorem FunPost.of {X:Clr} (ok:X.Ok) {E:Env} {s:HSt} {w':World} (e0:Ext X.w X.E w' E) (r:R X.K' X.w X.E.F E (hget s.hp) w') (hG:∀ g,E.G g→g < s.clk) (sh:List (Nat×HObj)) (hd:dupfree (sh.map (·.1))=true) (hsh:∀ p∈sh,hget s.hp p.1=some p.2)
  (kp:List (Nat×HObj)) (hpk:(X.pre.all fun p=>(hget kp p.1).isSome)=true) (hks:(kp.all fun p=>!(sh.map (·.1)).any (Nat.beq p.1))=true) (hkp:Kept kp sh s.hp kp) {x y:HV} {v:Value} (hz:Kz kp sh x y) (hv:Rep w' E v x) (hP:Post (.ret y) kp s.clk):FunPost X Post (.returned v) w':=by
 obtain ⟨E1,e1,hL,hG1,hs1,r1⟩:=r.shareAll sh hd hsh
 obtain ⟨E3,e3,r3,hG3,hGk,kz⟩:=ok.back (e0.trans e1) r1 (fun g hg=>hG g (by rw [←hG1];exact hg)) (kp:=kp) (sh:=sh) hs1 (fun id o ho=>by
   have:=List.all_eq_true.1 hpk _ (hget_mem ho)
   exact Option.isSome_iff_exists.1 this) (fun id o' ho'=>by
   obtain ⟨o,h1,h2⟩:=hkp.get id o' ho'
   have:=List.all_eq_true.1 hks _ (hget_mem ho')
   refine ⟨o,?_,h2⟩
   rw [hupd_ne _ _ _ (by simpa [List.map_map,Function.comp_def] using this)]
   exact h1)
 exact ⟨.ret y,kp,s.clk,E3,hP,e3,r3,hG3,hGk,kz v x y hz (hv.ext e1)⟩
theorem hf_ret0 {X:Clr} (ok:X.Ok) {fn:Func} {s:HSt} {y:HV} (hres:fn.results=#[]) (sh:List (Nat×HObj)) (hd:dupfree (sh.map (·.1))=true) (hsh:∀ p∈sh,hget s.hp p.1=some p.2)
  (kp:List (Nat×HObj)) (hpk:(X.pre.all fun p=>(hget kp p.1).isSome)=true) (hks:(kp.all fun p=>!(sh.map (·.1)).any (Nat.beq p.1))=true) (hz:Kz kp sh (.tup 0 fun _=>default) y) (hP:Post (.ret y) kp s.clk) (hkp:Kept kp sh s.hp kp):HQ X.ctx (bodyPost P fn (FunPost X Post)) .ret s:=by
 intro a w' ⟨E,e0,r,hG,hsz,hdf,ht⟩
 refine ⟨hdf,_,?_,FunPost.of ok e0 r hG sh hd hsh kp hpk hks hkp hz (.tup #[] 0 (fun _=>default) (fun _=>undef) rfl (fun i hi=>absurd hi (Nat.not_lt_zero _)) (fun i hi=>absurd hi (Nat.not_lt_zero _))) hP⟩
 show (results fn a.tmps).run P w'=.ok (.tuple #[]) w'
 unfold results
 rw [hres]
 simp
theorem hf_ret1 {X:Clr} (ok:X.Ok) {fn:Func} {rv:ResultVar} {s:HSt} {x y:HV} (hres:fn.results=#[rv]) (hrv:RVal P s rv x) (sh:List (Nat×HObj)) (hd:dupfree (sh.map (·.1))=true) (hsh:∀ p∈sh,hget s.hp p.1=some p.2)
  (kp:List (Nat×HObj)) (hpk:(X.pre.all fun p=>(hget kp p.1).isSome)=true) (hks:(kp.all fun p=>!(sh.map (·.1)).any (Nat.beq p.1))=true) (hz:Kz kp sh x y) (hP:Post (.ret y) kp s.clk) (hkp:Kept kp sh s.hp kp):HQ X.ctx (bodyPost P fn (FunPost X Post)) .ret s:=by
 intro a w' ⟨E,e0,r,hG,hsz,hdf,ht⟩
 obtain ⟨v,h1,h2⟩:=hrv X.ctx a w' E r ht
 refine ⟨hdf,v,?_,FunPost.of ok e0 r hG sh hd hsh kp hpk hks hkp hz h2 hP⟩
 have:(results fn a.tmps).run P w'=.ok v w':=by
  unfold results
  rw [hres]
  cases rv with
  | tmp t=>simp at h1 ⊢;exact h1
  | cell p t=>simp [Sem.run_bind] at h1 ⊢;simp [h1]
 exact this
theorem hq_fall {C:Ctx} {fn:Func} {R0:Ending→World→Prop} {s:HSt} (h:HQ C (bodyPost P fn R0) .ret s):HQ C (bodyPost P fn R0) .normal s:=h
def HPan (C:Ctx) (Q:Exit→Act→World→Prop) (s:HSt) (x:HV):Prop:=∀ a w,∀ E v,Ext C.w0 C.E0 w E→R C.K C.w0 C.E0.F E (hget s.hp) w→(∀ g,E.G g→g < s.clk)→a.tmps.size=s.n→DefOk C.mks w E C.ds a.defers→(∀ t x,tget s.tm t=some x→TVRep w E a (a.tmps.getD t undef) x)→Rep w E v x→Q (.panic [{ v:=v,recovered:=false }]) a w
theorem hf_call {C:Ctx} {ops:Array Oper} {Q:Exit→Act→World→Prop} {n clk:Nat} {tm:List (Nat×TV)} {hp:List (Nat×HObj)} {rest:List Oper} {ty:TypeId} {pos:String} {af:Array Edge} {f:FuncId} {args:List Operand} {at_:Array TypeId} {xs:List HV} {pre:List (Nat×HObj)} (d:Nat)
    (hc:HFun P f clk xs pre Post) (hx:ovAll (pview (tget tm)) args xs) (hpre:∀ p∈pre,hget hp p.1=some p.2) (hlt:Nat.blt d n=true) (hk:nokey tm d=true)
    (h:∀ r kp c',Post (.ret r) kp c'→HSeq C P ops rest ⟨n,(d,.v r)::tm,kp++hp,c'⟩ Q) (hpan:∀ x kp c',Post (.pan x) kp c'→HPan C Q ⟨n,tm,kp++hp,c'⟩ x) :
    HSeq C P ops (⟨some d,.call ⟨.value (.func f),args.toArray,at_⟩,ty,pos,af,none⟩::rest) ⟨n,tm,hp,clk⟩ Q:=by
  intro a w ⟨E,e0,r,hG,hsz,hdf,ht⟩
  have hlt:d < n:=by simpa [Nat.blt_eq] using hlt
  unfold wpSq
  rw [if_pos (by simp [Region.wanted])]
  left
  have hrep:=hx.rep (w:=w) (E:=E) (ρ:=a.eval) (fun x hv hx' h=>by
    cases x with
    | tmp t =>
      simp only [ovl,pview] at h
      cases hq:tget tm t with
      | none=>rw [hq] at h;cases h
      | some u => rw [hq] at h; cases u with
        | v y=>injection h with h;subst h;exact ht t _ hq
        | un j b y=>cases h
    | const v=>exact rep_cst w E _ v _ h
    | global k=>injection h with h;subst h;exact .imm _
    | func f=>injection h with h;subst h;exact .fn (.func f) #[] 0 _ (fun _=>undef) rfl (fun i hi=>absurd hi (Nat.not_lt_zero _)) (fun i hi=>absurd hi (Nat.not_lt_zero _)))
  unfold Oper.wp execOp
  have hargs:args.toArray.map a.eval=(args.map a.eval).toArray:=by simp
  simp only [resolve,Act.eval,Deferred.ofValue,invoke,Sem.run_bind,Sem.run_pure,Result.andThen_ok,Array.empty_append,Array.append_empty]
  rw [run_callFunc hc.1]
  simp only [Oper.upon]
  have hcalls:=hc.2 ⟨C.K,C.w0,C.E0.F,E,hget hp,w,pre⟩ (args.map a.eval) ⟨r,fun id o ho=>hpre (id,o) (hget_mem ho)⟩ rfl hrep hG
  rw [←hargs] at hcalls
  refine Calls.mono hcalls ?_
  rintro e w' ⟨x,kp,c',E',hP,e',r',hG',_,hv⟩
  cases e with
  | returned v =>
    cases x with
    | pan x=>exact hv.elim
    | ret x =>
      refine h x kp c' hP _ w' ⟨E',e0.trans e',by simp only [hget_append];exact r',hG',by simp [Act.put,hsz],hdf.ext e',fun t y hy=>?_⟩
      simp only [tget_cons] at hy
      split at hy
      · rename_i htd
        subst htd
        injection hy with hy
        subst hy
        rw [getD_put_same (by rw [hsz];exact hlt)]
        exact hv
      · rename_i htd
        rw [getD_put_ne htd]
        have:=(ht t y hy).ext e'
        cases y with
        | v z=>exact this
        | un j b z =>
          have hne:=nokey_spec hk t j b z hy
          simp only [TVRep,getD_put_ne hne] at this ⊢;exact this
  | panicked ch =>
    cases x with
    | ret x=>exact hv.elim
    | pan x =>
      obtain ⟨v,rfl,hv⟩:=hv
      exact hpan x kp c' hP a w' E' v (e0.trans e') (by simp only [hget_append];exact r') hG' hsz (hdf.ext e') (fun t y hy=>(ht t y hy).ext e') hv
  | outgrown=>cases x <;> exact hv.elim
theorem hsub_shr {C:Ctx} {n clk:Nat} {tm:List (Nat×TV)} {hp:List (Nat×HObj)} (t:Nat) (sh:List (Nat×HObj)) (hd:dupfree (sh.map (·.1))=true) (hsh:∀ p∈sh,hget hp p.1=some p.2) {x y:HV} (ht:tget tm t=some (.v x)) (hz:Fz sh x y) :
  HSub C ⟨n,tm,hp,clk⟩ ⟨n,(t,.v y)::tm,sh.map (fun p=>(p.1,p.2.full))++hp,clk⟩:=by
 intro a w ⟨E,e0,r,hG,hsz,hdf,htm⟩
 obtain ⟨E1,e1,hL,hG1,hs1,r1⟩:=r.shareAll sh hd hsh
 refine ⟨E1,e0.trans e1,by simp only [hget_append];exact r1,fun g hg=>hG g (by rw [←hG1];exact hg),hsz,hdf.ext e1,fun t' z hz'=>?_⟩
 simp only [tget_cons] at hz'
 split at hz'
 ·rename_i e;subst e;injection hz' with hz';subst hz'
  exact (hz.sound hs1 ((htm t' _ ht).ext e1)).ext (Ext.just fun _ h=>h)
 ·exact (htm t' z hz').ext e1
theorem HSub.seq {C:Ctx} {ops:Array Oper} {Q:Exit→Act→World→Prop} {s s':HSt} {l:List Oper} (hs:HSub C s s') (h:HSeq C P ops l s' Q):HSeq C P ops l s Q:=fun a w ha=>h a w (hs a w ha)
@[reducible] def RetP {α:Type} (I:α→Nat→Prop) (r:α→HV) (kp:α→List (Nat×HObj)):HEnd→List (Nat×HObj)→Nat→Prop:=fun e o c'=>∃ x,I x c'∧e=.ret (r x)∧o=kp x
@[reducible] def RoP {α β:Type} (I:α→Nat→Prop) (r:α→HV) (kp:α→List (Nat×HObj)) (J:β→Nat→Prop) (q:β→HV) (kq:β→List (Nat×HObj)):HEnd→List (Nat×HObj)→Nat→Prop:=fun e o c'=>(∃ x,I x c'∧e=.ret (r x)∧o=kp x)∨(∃ y,J y c'∧e=.pan (q y)∧o=kq y)
section
variable {α β:Type} {I:α→Nat→Prop} {r:α→HV} {kpf:α→List (Nat×HObj)} {J:β→Nat→Prop} {q:β→HV} {kqf:β→List (Nat×HObj)}
theorem hf_callR {C:Ctx} {ops:Array Oper} {Q:Exit→Act→World→Prop} {n clk:Nat} {tm:List (Nat×TV)} {hp:List (Nat×HObj)} {rest:List Oper} {ty:TypeId} {pos:String} {af:Array Edge} {f:FuncId} {args:List Operand} {at_:Array TypeId} {xs:List HV} {pre:List (Nat×HObj)} (d:Nat)
  (hc:HFun P f clk xs pre (RetP I r kpf)) (hx:ovAll (pview (tget tm)) args xs) (hpre:∀ p∈pre,hget hp p.1=some p.2) (hlt:Nat.blt d n=true) (hk:nokey tm d=true)
  (h:∀ x c',I x c'→HSeq C P ops rest ⟨n,(d,.v (r x))::tm,kpf x++hp,c'⟩ Q) :
  HSeq C P ops (⟨some d,.call ⟨.value (.func f),args.toArray,at_⟩,ty,pos,af,none⟩::rest) ⟨n,tm,hp,clk⟩ Q :=
 hf_call d hc hx hpre hlt hk (fun _ _ c' ⟨x,hI,he,hk⟩=>by injection he with he;subst he;subst hk;exact h x c' hI) (fun _ _ _ ⟨_,_,he,_⟩=>by cases he)
def RetS (P:Program) (I:α→Nat→Prop) (r:α→HV) (kpf:α→List (Nat×HObj)) (Post:HEnd→List (Nat×HObj)→Nat→Prop):Prop:=∀ x c',I x c'→Post (.ret (r x)) (kpf x) c'
theorem RetS.one:RetS P I r kpf (RetP I r kpf):=fun x _ h=>⟨x,h,rfl,rfl⟩
theorem RetS.two:RetS P I r kpf (RoP I r kpf J q kqf):=fun x _ h=>.inl ⟨x,h,rfl,rfl⟩
theorem hf_retR0 {X:Clr} (ok:X.Ok) {pre:List (Nat×HObj)} (hX:X.pre=pre) (hS:RetS P I r kpf Post) {fn:Func} {s:HSt} (hres:fn.results=#[]) (sh:List (Nat×HObj)) (hd:dupfree (sh.map (·.1))=true) (hsh:∀ p∈sh,hget s.hp p.1=some p.2)
  (x:α) (hI:I x s.clk) (hpk:(pre.all fun p=>(hget (kpf x) p.1).isSome)=true) (hks:((kpf x).all fun p=>!(sh.map (·.1)).any (Nat.beq p.1))=true) (hz:Kz (kpf x) sh (.tup 0 fun _=>default) (r x)) (hkp:Kept (kpf x) sh s.hp (kpf x)):HQ X.ctx (bodyPost P fn (FunPost X Post)) .ret s :=
 hf_ret0 ok hres sh hd hsh (kpf x) (by rw [hX];exact hpk) hks hz (hS x _ hI) hkp
theorem hf_retR1 {X:Clr} (ok:X.Ok) {pre:List (Nat×HObj)} (hX:X.pre=pre) (hS:RetS P I r kpf Post) {fn:Func} {s:HSt} {rv:ResultVar} {v:HV} (hres:fn.results=#[rv]) (hrv:RVal P s rv v) (sh:List (Nat×HObj)) (hd:dupfree (sh.map (·.1))=true) (hsh:∀ p∈sh,hget s.hp p.1=some p.2)
  (x:α) (hI:I x s.clk) (hpk:(pre.all fun p=>(hget (kpf x) p.1).isSome)=true) (hks:((kpf x).all fun p=>!(sh.map (·.1)).any (Nat.beq p.1))=true) (hz:Kz (kpf x) sh v (r x)) (hkp:Kept (kpf x) sh s.hp (kpf x)):HQ X.ctx (bodyPost P fn (FunPost X Post)) .ret s :=
 hf_ret1 ok hres hrv sh hd hsh (kpf x) (by rw [hX];exact hpk) hks hz (hS x _ hI) hkp
section
variable {kp sh:List (Nat×HObj)} {g ty fl:Nat} {f f':Nat→Nat→HV}
end
end
end
def HFunD (P:Program) (f:FuncId) (args:List HV) (pre:List (Nat×HObj)) (r:HV) (post:List (Nat×HObj)):Prop:=∀ c,HFun P f c args pre (RetP (fun (_:Unit) _=>True) (fun _=>r) (fun _=>post))
def Clocks (pre post:List (Nat×HObj)):Prop:=∀ id o,hget post id=some o→∃ q∈pre,q.2.g=o.g
theorem HFunD.sem {P:Program} {f:FuncId} {args:List HV} {pre post:List (Nat×HObj)} {r:HV} (hc:HFunD P f args pre r post) (hk:Clocks pre post) {K:Nat→Prop} {w0 w:World} {F0:Addr→Prop} {E:Env} {h:Nat→Option HObj} (rr:R K w0 F0 E h w) (hpre:∀ p∈pre,h p.1=some p.2) (vs:List Value) (hr:RepAll w E vs args) (hb:∃ c,∀ g,E.G g→g < c) :
    Calls P f vs.toArray w fun e w'=>∃ v E',e=.returned v∧Ext w E w' E'∧R K w0 F0 E' (hupd h post) w'∧(∀ g,E'.G g→E.G g)∧Rep w' E' v r:=by
  obtain ⟨c,hG⟩:=hb
  refine ((hc c).2 ⟨K,w0,F0,E,h,w,pre⟩ vs ⟨rr,fun id o ho=>hpre (id,o) (hget_mem ho)⟩ rfl hr hG).mono ?_
  rintro e w' ⟨x,kp,c',E',⟨_,_,rfl,rfl⟩,e',r',_,hGk,hv⟩
  cases e with
  | returned v =>
    refine ⟨v,E',rfl,e',r',fun g hg=>?_,hv⟩
    rcases hGk g hg with h1 | ⟨id,o,ho,rfl⟩
    · exact h1
    · obtain ⟨q,hq,hqg⟩:=hk id o ho
      rw [←hqg]
      obtain ⟨l,hl,a⟩:=rr.obj q.1 q.2 (hpre q hq)
      exact a.G
  | panicked ch=>exact hv.elim
  | outgrown=>exact hv.elim
section
variable {C:Ctx} {P:Program} {ops:Array Oper} {Q:Exit→Act→World→Prop} {n clk:Nat} {tm:List (Nat×TV)} {hp:List (Nat×HObj)} {rest:List Oper} {v:HV} {d:Nat} {op:Op} {ty T:TypeId} {pos:String} {af:Array Edge} {x y:Operand}
theorem sm (h:HSeq C P ops rest ⟨n,(d,.v v)::tm,hp,clk⟩ Q) (hx:ovl (pview (tget tm)) x=some v:=by rfl) (hlt:Nat.blt d n=true:=by rfl) (hk:nokey tm d=true:=by rfl):HSeq C P ops (⟨some d,.move x,ty,pos,af,none⟩::rest) ⟨n,tm,hp,clk⟩ Q:=stm hx hlt hk h
theorem sa (h:HSeq C P ops rest ⟨n,(d,.v v)::tm,hp,clk⟩ Q) (hx:ovl (pview (tget tm)) x=some v:=by rfl) (hlt:Nat.blt d n=true:=by rfl) (hk:nokey tm d=true:=by rfl):HSeq C P ops (⟨some d,.assign x,ty,pos,af,none⟩::rest) ⟨n,tm,hp,clk⟩ Q:=sta hx hlt hk h
theorem s0 (hop:HOp P ⟨some d,op,ty,pos,af,none⟩ (pview (tget tm)) clk [] v []) (h:HSeq C P ops rest ⟨n,(d,.v v)::tm,hp,clk⟩ Q) (hlt:Nat.blt d n=true:=by rfl) (hk:nokey tm d=true:=by rfl):HSeq C P ops (⟨some d,op,ty,pos,af,none⟩::rest) ⟨n,tm,hp,clk⟩ Q:=st0 hop hlt hk h
theorem s1 {id:Nat} {ob:HObj} (hop:HOp P ⟨some d,op,ty,pos,af,none⟩ (pview (tget tm)) clk [(id,ob)] v []) (h:HSeq C P ops rest ⟨n,(d,.v v)::tm,hp,clk⟩ Q) (hid:hget hp id=some ob:=by rfl) (hlt:Nat.blt d n=true:=by rfl) (hk:nokey tm d=true:=by rfl):HSeq C P ops (⟨some d,op,ty,pos,af,none⟩::rest) ⟨n,tm,hp,clk⟩ Q:=st1 hop hid hlt hk h
theorem sl {id gg i off s m sz fl:Nat} {b:Bool} {oty:TypeId} {f:Nat→Nat→HV} (hT:tyOf P T=some (b,s)) (h:HSeq C P ops rest ⟨n,(d,.v (ldv b s (f i) off))::tm,hp,clk⟩ Q) (h1:ovl (pview (tget tm)) x=some (.pt id gg i off):=by rfl) (hid:hget hp id=some ⟨gg,m,sz,oty,fl,f⟩:=by rfl) (hi:Nat.ble (i+1) m=true:=by rfl) (hoff:Nat.ble (off+s) sz=true:=by rfl) (hs:(b||Nat.beq s 1)=true:=by rfl) (hlt:Nat.blt d n=true:=by rfl) (hk:nokey tm d=true:=by rfl):HSeq C P ops (⟨some d,.load T x,ty,pos,af,none⟩::rest) ⟨n,tm,hp,clk⟩ Q :=
 st1 (hol_load hT h1 (nb hi) (nb hoff) (fun e=>by subst e;simpa using hs)) hid hlt hk h
theorem g0 {gi:Nat} {b:Bool} (j:Nat) {c:Bool} (hop:c=b→HOp P ⟨some d,op,ty,pos,af,some (gi,b)⟩ (gview (tget tm) j b) clk [] v []) (h:HSeq C P ops rest ⟨n,(d,.un j b v)::tm,hp,clk⟩ Q) (hgi:(ops[gi]?).bind (·.dst)=some j:=by rfl) (hc:tget tm j=some (.v (.imm (.bool c))):=by rfl) (hlt:Nat.blt d n=true:=by rfl) (hk:nokey tm d=true:=by rfl) (hjd:Nat.beq j d=false:=by rfl):HSeq C P ops (⟨some d,op,ty,pos,af,some (gi,b)⟩::rest) ⟨n,tm,hp,clk⟩ Q:=stg j hop hgi hc hlt hk hjd h
theorem nu {tm':List (Nat×TV)} (h:HQ C Q .normal ⟨n,tm',hp,clk⟩) (hu:unOnce tm=true:=by rfl) (ht:dropUn tm []=tm':=by (simp only [dropUn,slots];exact rfl)):HSeq C P ops [] ⟨n,tm,hp,clk⟩ Q:=hseq_nilU hu ht h
theorem wc {s:HSt} {t:Nat} {cx cy:Code} {b:Bool} (h1:b=true→HWp C P cx s Q) (h2:b=false→HWp C P cy s Q) (hb:tget s.tm t=some (.v (.imm (.bool b))):=by rfl):HWp C P (.cond (.tmp t) cx cy) s Q:=hw_cond b hb h1 h2
end
section
variable {P:Program} {n clk:Nat} {tm0:List (Nat×TV)} {hp0:List (Nat×HObj)} {ss:List HSpec} {Fin:Prop} {o:Oper} {rest dn:List Oper} {k:Nat} {tm:List (Nat×TV)} {hp:List (Nat×HObj)} {L:List Oper} {pre post:List (Nat×HObj)} {v:HV} {d:Nat} {op:Op} {ty T:TypeId} {pos:String} {af:Array Edge} {x y:Operand}
theorem d0 (k':Nat) (hop:HOp P ⟨some d,op,ty,pos,af,none⟩ (pview (tget tm)) (clk+k) [] v []) (h:HDr P n clk tm0 hp0 L (dn++[⟨some d,op,ty,pos,af,none⟩]) (ss++[⟨.v v,ops_tmps ⟨some d,op,ty,pos,af,none⟩,[],[]⟩]) rest k' ((d,.v v)::tm) hp Fin) (hlt:Nat.blt d n=true:=by rfl) (hk':k+1=k':=by rfl):HDr P n clk tm0 hp0 L dn ss (⟨some d,op,ty,pos,af,none⟩::rest) k tm hp Fin:=hd_q d hop rfl rfl pre0 hlt rfl hk' h
theorem d1 (k':Nat) {id:Nat} {ob:HObj} (hop:HOp P ⟨some d,op,ty,pos,af,none⟩ (pview (tget tm)) (clk+k) [(id,ob)] v []) (h:HDr P n clk tm0 hp0 L (dn++[⟨some d,op,ty,pos,af,none⟩]) (ss++[⟨.v v,ops_tmps ⟨some d,op,ty,pos,af,none⟩,[(id,ob)],[]⟩]) rest k' ((d,.v v)::tm) hp Fin) (hid:hget hp id=some ob:=by rfl) (hlt:Nat.blt d n=true:=by rfl) (hk':k+1=k':=by rfl):HDr P n clk tm0 hp0 L dn ss (⟨some d,op,ty,pos,af,none⟩::rest) k tm hp Fin:=hd_q d hop rfl rfl (pre1 hid) hlt rfl hk' h
theorem dm (k':Nat) (h:HDr P n clk tm0 hp0 L (dn++[⟨some d,.move x,ty,pos,af,none⟩]) (ss++[⟨.v v,ops_tmps ⟨some d,.move x,ty,pos,af,none⟩,[],[]⟩]) rest k' ((d,.v v)::tm) hp Fin) (hx:ovl (pview (tget tm)) x=some v:=by rfl) (hlt:Nat.blt d n=true:=by rfl) (hk':k+1=k':=by rfl):HDr P n clk tm0 hp0 L dn ss (⟨some d,.move x,ty,pos,af,none⟩::rest) k tm hp Fin:=hd_q d (hop_move hx) rfl rfl pre0 hlt rfl hk' h
end
theorem kza {kp sh:List (Nat×HObj)} {x y:HV} (h:Kz kp sh x y:=by first | exact .fz _ _ (.imm _) | exact .os _ _ _ _ _ rfl rfl | exact .pt _ _ _ _ _ rfl rfl | exact .nps _ _ _ rfl rfl | (dsimp only;exact .fz _ _ Frz.fz) | exact .fz _ _ (.tup 0 _ _ (fun i hi=>absurd hi (Nat.not_lt_zero _)))):Kz kp sh x y:=h
theorem tsr {tm r:List (Nat×TV)} {t:Nat} {x:HV} (h:tget tm t=some (.v x)) (hr:TmSub tm r):TmSub tm ((t,.v x)::r):=.cons h (.refl _) hr
theorem hsr {hp r:List (Nat×HObj)} {id:Nat} {o:HObj} (h:hget hp id=some o) (hr:HpSub hp r):HpSub hp ((id,o)::r):=.cons h (.refl _) hr
set_option maxRecDepth 100000
@[reducible] def intV (x:Int):HV:=.imm (.int .i64 x)
@[reducible] def boolV (b:Bool):HV:=.imm (.bool b)
class Frz (x:HV):Prop where
 fz:∀ {sh:List (Nat×HObj)},Fz sh x x
instance (v:Value):Frz (.imm v):=⟨.imm v⟩
instance (sz n:Nat) (f:Nat→Nat→HV) [h:∀ i j,Frz (f i j)]:Frz (.sl sz n f):=⟨.sl _ _ _ _ fun i j _ _=>(h i j).fz⟩
instance (n:Nat) (f:Nat→HV) [h:∀ i,Frz (f i)]:Frz (.agg n f):=⟨.agg _ _ _ fun i _=>(h i).fz⟩
instance (n:Nat) (f:Nat→HV) [h:∀ i,Frz (f i)]:Frz (.tup n f):=⟨.tup _ _ _ fun i _=>(h i).fz⟩
instance (n:Nat) (f:Nat→HV) [h:∀ i,Frz (f i)]:Frz (.fp n f):=⟨.fp _ _ (Nat.le_refl _) _ _ fun i _=>(h i).fz⟩
theorem Fz.eq {sh:List (Nat×HObj)} {x y:HV} [h:Frz y] (e:x=y):Fz sh x y:=by subst e;exact h.fz
theorem fz_agg10 {sh:List (Nat×HObj)} {f f':Nat→HV} (h0:Fz sh (f 0) (f' 0)) (h1:Fz sh (f 1) (f' 1)) (h2:Fz sh (f 2) (f' 2)) (h3:Fz sh (f 3) (f' 3)) (h4:Fz sh (f 4) (f' 4)) (h5:Fz sh (f 5) (f' 5)) (h6:Fz sh (f 6) (f' 6)) (h7:Fz sh (f 7) (f' 7)) (h8:Fz sh (f 8) (f' 8)) (h9:Fz sh (f 9) (f' 9)):Fz sh (.agg 10 f) (.agg 10 f'):=.agg _ _ _ fun i hi=>by
 match i,hi with
 | 0,_=>exact h0
 | 1,_=>exact h1
 | 2,_=>exact h2
 | 3,_=>exact h3
 | 4,_=>exact h4
 | 5,_=>exact h5
 | 6,_=>exact h6
 | 7,_=>exact h7
 | 8,_=>exact h8
 | 9,_=>exact h9
theorem fz_cat {α:Type} {sh:List (Nat×HObj)} {enc:α→Nat→HV} {d:α} {l k:List α} {m sz:Nat} {f g:Nat→Nat→HV} (hm:m=l.length) (hf:∀ i j,i < l.length→j < sz→Fz sh (f i j) (enc (l.getD i d) j)) (hg:∀ i j,i < k.length→j < sz→Fz sh (g i j) (enc (k.getD i d) j)) :
  ∀ i j,i < (l++k).length→j < sz→Fz sh (cat m f g i j) (enc ((l++k).getD i d) j):=by
 intro i j hi hj
 subst hm
 rw [List.length_append] at hi
 by_cases h:i < l.length
 ·rw [cat_lt h]
  have e:(l++k).getD i d=l.getD i d:=by rw [List.getD_eq_getElem?_getD,List.getD_eq_getElem?_getD,List.getElem?_append_left h]
  rw [e];exact hf i j h hj
 ·rw [cat_ge (by omega)]
  have e:(l++k).getD i d=k.getD (i - l.length) d:=by rw [List.getD_eq_getElem?_getD,List.getD_eq_getElem?_getD,List.getElem?_append_right (by omega)]
  rw [e];exact hg _ j (by omega) hj
theorem fz_row {α:Type} {sh:List (Nat×HObj)} {enc:α→Nat→HV} {d:α} {l:List α} {id g n:Nat} {o:HObj} (ho:(id,o)∈sh) (hg:o.g=g) (hn:n=l.length) (hon:n≤o.n) (h:∀ i j,i < l.length→j < o.sz→Fz sh (o.f i j) (enc (l.getD i d) j)) :
  Fz sh (.os id g 0 n) (.sl o.sz l.length (fun i=>enc (l.getD i d))):=by
 subst hn
 exact Fz.os id g 0 l.length o _ ho hg (by omega) (fun i j hi hj=>by rw [Nat.zero_add];exact h i j hi hj)
theorem sb_cat {α:Type} {enc:α→Nat→HV} {d:α} {l k:List α} {m sz:Nat} {f g:Nat→Nat→HV} (hm:m=l.length) (hf:∀ i j,i < l.length→j < sz→Sb (f i j) (enc (l.getD i d) j)) (hg:∀ i j,i < k.length→j < sz→Sb (g i j) (enc (k.getD i d) j)) :
  ∀ i j,i < (l++k).length→j < sz→Sb (cat m f g i j) (enc ((l++k).getD i d) j):=by
 intro i j hi hj
 subst hm
 rw [List.length_append] at hi
 by_cases h:i < l.length
 ·rw [cat_lt h]
  have e:(l++k).getD i d=l.getD i d:=by rw [List.getD_eq_getElem?_getD,List.getD_eq_getElem?_getD,List.getElem?_append_left h]
  rw [e];exact hf i j h hj
 ·rw [cat_ge (by omega)]
  have e:(l++k).getD i d=k.getD (i - l.length) d:=by rw [List.getD_eq_getElem?_getD,List.getD_eq_getElem?_getD,List.getElem?_append_right (by omega)]
  rw [e];exact hg _ j (by omega) hj
theorem sb_one {α:Type} {enc:α→Nat→HV} {d x:α} {sz:Nat} {f:Nat→Nat→HV} (h:∀ j,j < sz→Sb (f 0 j) (enc x j)):∀ i j,i < [x].length→j < sz→Sb (f i j) (enc ([x].getD i d) j):=fun i j hi hj=>by
 have:i=0:=by simpa using hi
 subst this
 exact h j hj
theorem kr {p:Prop} (h:p:=by kernel_rfl):p:=h
theorem om {p:Prop} (h:p:=by omega):p:=h
theorem omx {p:Prop} (h:p:=by first | exact Nat.le_of_ble_eq_true rfl | omega | (dsimp only;omega) | (simp <;> omega)):p:=h
theorem rqc {p q:Prop} (h:p→q:=by (intro h;first | rfl | cases h)):p→q:=h
theorem fe {sh:List (Nat×HObj)} {x y:HV} [hz:Frz y] (h:x=y:=by rfl):Fz sh x y:=Fz.eq h
theorem fzc {sh:List (Nat×HObj)} {x y:HV} (h:Fz sh x y:=by first | exact .imm _ | exact .nil _ _ _ (by decide) _ | exact Frz.fz):Fz sh x y:=h
theorem tsa {a b:List (Nat×TV)} (h:TmSub a b:=by repeat (first | exact TmSub.nil | refine tsr rfl ?_)):TmSub a b:=h
theorem hsa {a b:List (Nat×HObj)} (h:HpSub a b:=by repeat (first | exact HpSub.nil | refine hsr rfl ?_)):HpSub a b:=h
section
variable {P:Program} {ov:Nat→Option HV} {g:Nat} {d:Option Tmp} {ty:TypeId} {pos:String} {af:Array Edge} {gd:Option (Nat×Bool)} {T yT:TypeId} {x y:Operand} {k:IntKind} {a b:Int}
theorem hsi {c:Int} (h1:ovl ov x=some (.imm (.int .i64 a)):=by rfl) (h2:ovl ov y=some (.imm (.int .i64 b)):=by rfl) (hc:c=a - b:=by rfl) (hl:-9223372036854775808≤c:=by omega) (hh:c≤9223372036854775807:=by omega):HOp P ⟨d,.binOp .sub T x y yT,ty,pos,af,gd⟩ ov g [] (.imm (.int .i64 c)) []:=hop_subi h1 h2 hc hl hh
theorem hqi (h1:ovl ov x=some (.imm (.int k a)):=by rfl) (h2:ovl ov y=some (.imm (.int k b)):=by rfl):HOp P ⟨d,.binOp .eql T x y yT,ty,pos,af,gd⟩ ov g [] (.imm (.bool (a == b))) []:=hop_eql h1 h2
theorem hli (h1:ovl ov x=some (.imm (.int k a)):=by rfl) (h2:ovl ov y=some (.imm (.int k b)):=by rfl):HOp P ⟨d,.binOp .lss T x y yT,ty,pos,af,gd⟩ ov g [] (.imm (.bool (decide (a < b)))) []:=hop_lss h1 h2
theorem hnl {e:TypeId} {s n:Nat} {f:Nat→Nat→HV} {at_:Array TypeId} (hE:elOf P T=some (e,s)) (hT:at_[0]?=some T:=by rfl) (h1:ovl ov x=some (.sl s n f):=by rfl):HOp P ⟨d,.call ⟨.builtin .len,#[x],at_⟩,ty,pos,af,gd⟩ ov g [] (.imm (.int .i64 (n:Int))) []:=hop_len_sl hT (elOf_spec hE).1 h1
theorem hex {n:Nat} {f:Nat→HV} {i:Nat} (h1:ovl ov x=some (.tup n f):=by rfl) (hi:Nat.blt i n=true:=by rfl):HOp P ⟨d,.extract x i,ty,pos,af,gd⟩ ov g [] (f i) []:=hop_extract h1 hi
end
end Go.Proofs.Ytkcfhciffdnmmaa
namespace Go.Proofs.Ytkcfhciffdnmmaa
set_option linter.unusedSimpArgs false
set_option linter.unusedVariables false
open Go.ChangeShapes Go.WideShapes Go.ChangeAt Go.RowKit Go.Deep
structure Mks where
 m0:Int
 m1:Int
 m2:Int
 m3:Int
 m4:Int
 m5:Int
 m6:Int
 m7:Int
theorem Mks.eq_iff (s t:Mks):(s.m0=t.m0∧s.m1=t.m1∧s.m2=t.m2∧s.m3=t.m3∧s.m4=t.m4∧s.m5=t.m5∧s.m6=t.m6∧s.m7=t.m7)↔s=t:=by
 cases s;cases t;simp only [Mks.mk.injEq]
instance mksDec:DecidableEq Mks:=fun s t=>decidable_of_iff _ (Mks.eq_iff s t)
def Mks.cells (t:Mks):List Value:=[.int .u16 t.m0,.int .u16 t.m1,.int .u16 t.m2,.int .u16 t.m3,.int .u16 t.m4,.int .u16 t.m5,.int .u16 t.m6,.int .u16 t.m7]
theorem Mks.cells_length (t:Mks):t.cells.length=8:=by simp [Mks.cells]
theorem mks_agg:∀ w,(isAgg 69).run Try.prog w=.ok true w:=fun w=>by kernel_rfl
theorem mks_size:∀ w,(sizeOf 69).run Try.prog w=.ok 8 w:=fun w=>by kernel_rfl
theorem run_load_mks (w:World) (ρ:Operand→Value) (x:Operand) (d:Option Tmp) (ty:TypeId) (pos:String) (af:Array _) (g:Option _) :
  (execOp ρ ⟨d,.load 69 x,ty,pos,af,g⟩).run Try.prog w=aggLoad Try.prog 69 8 w (ρ x):=run_load_agg _ mks_agg 8 mks_size w ρ x d ty pos af g
theorem run_eqmks (w:World) (s t:Mks) (d:Nat):(Op.equalIn (d+2) 69 (.agg s.cells.toArray) (.agg t.cells.toArray)).run Try.prog w=.ok (decide (s=t)) w:=by
 obtain ⟨a0,a1,a2,a3,a4,a5,a6,a7⟩:=s
 obtain ⟨b0,b1,b2,b3,b4,b5,b6,b7⟩:=t
 refine (eq_marks w a0 a1 a2 a3 a4 a5 a6 a7 b0 b1 b2 b3 b4 b5 b6 b7 d).trans ?_
 congr 1
 exact decide_eq_decide.2 (Mks.eq_iff ⟨a0,a1,a2,a3,a4,a5,a6,a7⟩ ⟨b0,b1,b2,b3,b4,b5,b6,b7⟩)
theorem run_eql_mks (w:World) (s t:Mks):(binOp .eql 69 (.agg s.cells.toArray) (.agg t.cells.toArray)).run Try.prog w=.ok (.bool (decide (s=t))) w:=by
 simp only [run_eql_struct,run_eqmks w s t 9998,Result.andThen_ok]
theorem run_neq_mks (w:World) (s t:Mks):(binOp .neq 69 (.agg s.cells.toArray) (.agg t.cells.toArray)).run Try.prog w=.ok (.bool (!decide (s=t))) w:=by
 simp only [run_neq_struct,run_eqmks w s t 9998,Result.andThen_ok]
structure St where
 k:Int
 f:Int
 t:Int
 gf:Int
 gt:Int
 ins:Int
 mark:Int
 vl:Int
 sl:List Tok
 sets:List Mks
theorem St.eq_iff (x y:St):(x.k=y.k∧x.f=y.f∧x.t=y.t∧x.gf=y.gf∧x.gt=y.gt∧x.ins=y.ins∧x.mark=y.mark∧x.vl=y.vl∧x.sl=y.sl∧x.sets=y.sets)↔x=y:=by
 cases x;cases y;simp only [St.mk.injEq]
instance stDec:DecidableEq St:=fun s t=>decidable_of_iff _ (St.eq_iff s t)
def St.none:St:=⟨0,0,0,0,0,0,0,0,[],[]⟩
structure Stp where
 v:St
 a1:Option Addr
 n1:Nat
 c1:Nat
 a2:Option Addr
 n2:Nat
 c2:Nat
def Stp.cells (x:Stp):List Value:=[.int .i64 x.v.k,.int .i64 x.v.f,.int .i64 x.v.t,.int .i64 x.v.gf,.int .i64 x.v.gt,.int .i64 x.v.ins,.int .i64 x.v.mark,.int .i64 x.v.vl,.slice x.a1 x.n1 x.c1,.slice x.a2 x.n2 x.c2]
theorem Stp.cells_length (x:Stp):x.cells.length=10:=by simp [Stp.cells]
def Stp.Ok (w:World) (B:Nat) (x:Stp):Prop:=x.v.sl.length=x.n1∧x.v.sets.length=x.n2∧Sl w B 12 Tok.cells x.a1 x.v.sl∧Sl w B 8 Mks.cells x.a2 x.v.sets∧x.n1≤x.c1∧x.n2≤x.c2
theorem Stp.Ok.keep {w w':World} {B:Nat} {x:Stp} (h:x.Ok w B) {B':Nat} (hB:B≤B') (hb:Below B' w w'):x.Ok w' B :=
 ⟨h.1,h.2.1,h.2.2.1.below (hb.mono hB),h.2.2.2.1.below (hb.mono hB),h.2.2.2.2⟩
def Stp.none:Stp:=⟨St.none,Option.none,0,0,Option.none,0,0⟩
section
variable {H:Type} {encH:TypeId×Value→H} {w:World} {base:Nat} {spare:Nat→Bool} {held:Bool}
end
end Go.Proofs.Ytkcfhciffdnmmaa
namespace Go.Proofs.Ytkcfhciffdnmmaa
set_option linter.unusedSimpArgs false
set_option linter.unusedVariables false
set_option maxRecDepth 100000
open Go.RowKit
def tok0:Tok:=⟨0,0,0,0,0,0,0,0,0,0,0,0⟩
def mks0:Mks:=⟨0,0,0,0,0,0,0,0⟩
def tokF (t:Tok):Nat→HV
 | 0=>.imm (.int .i64 t.kind) | 1=>.imm (.int .i64 t.typ) | 2=>.imm (.int .i64 t.attr) | 3=>.imm (.int .i32 t.rune)
 | 4=>.imm (.int .u16 t.m0) | 5=>.imm (.int .u16 t.m1) | 6=>.imm (.int .u16 t.m2) | 7=>.imm (.int .u16 t.m3)
 | 8=>.imm (.int .u16 t.m4) | 9=>.imm (.int .u16 t.m5) | 10=>.imm (.int .u16 t.m6) | _=>.imm (.int .u16 t.m7)
def mksF (t:Mks):Nat→HV
 | 0=>.imm (.int .u16 t.m0) | 1=>.imm (.int .u16 t.m1) | 2=>.imm (.int .u16 t.m2) | 3=>.imm (.int .u16 t.m3)
 | 4=>.imm (.int .u16 t.m4) | 5=>.imm (.int .u16 t.m5) | 6=>.imm (.int .u16 t.m6) | _=>.imm (.int .u16 t.m7)
@[reducible] def toksV (l:List Tok):HV:=.sl 12 l.length (fun i=>tokF (l.getD i tok0))
@[reducible] def mkssV (l:List Mks):HV:=.sl 8 l.length (fun i=>mksF (l.getD i mks0))
def stF (s:St):Nat→HV
 | 0=>.imm (.int .i64 s.k) | 1=>.imm (.int .i64 s.f) | 2=>.imm (.int .i64 s.t) | 3=>.imm (.int .i64 s.gf) | 4=>.imm (.int .i64 s.gt)
 | 5=>.imm (.int .i64 s.ins) | 6=>.imm (.int .i64 s.mark) | 7=>.imm (.int .i64 s.vl) | 8=>toksV s.sl | _=>mkssV s.sets
@[reducible] def stV (s:St):HV:=.agg 10 (stF s)
theorem fz_tokF {sh:List (Nat×HObj)} (t:Tok) (j:Nat):Fz sh (tokF t j) (tokF t j):=by unfold tokF;split <;> exact .imm _
theorem fz_mksF {sh:List (Nat×HObj)} (t:Mks) (j:Nat):Fz sh (mksF t j) (mksF t j):=by unfold mksF;split <;> exact .imm _
theorem fz_toks {sh:List (Nat×HObj)} (l:List Tok):Fz sh (toksV l) (toksV l):=.sl _ _ _ _ fun i j _ _=>fz_tokF _ _
theorem fz_mkss {sh:List (Nat×HObj)} (l:List Mks):Fz sh (mkssV l) (mkssV l):=.sl _ _ _ _ fun i j _ _=>fz_mksF _ _
theorem fz_stF {sh:List (Nat×HObj)} (t:St) (j:Nat):Fz sh (stF t j) (stF t j):=by unfold stF;split <;> first | exact .imm _ | exact fz_toks _ | exact fz_mkss _
instance (t:Tok) (j:Nat):Frz (tokF t j):=⟨fz_tokF t j⟩
instance (t:Mks) (j:Nat):Frz (mksF t j):=⟨fz_mksF t j⟩
instance (t:St) (j:Nat):Frz (stF t j):=⟨fz_stF t j⟩
theorem sl_of {α:Type} {w:World} {E:Env} {v:Value} (sz:Nat) (enc:α→List Value) (henc:∀ x,(enc x).length=sz) (encF:α→Nat→HV) (hF:∀ x j,j < sz→encF x j=.imm ((enc x).getD j undef)) (d:α) (l:List α)
    (h:Rep w E v (.sl sz l.length (fun i=>encF (l.getD i d)))):∃ A c,v=.slice A l.length c∧l.length≤c∧c≤maxLen∧Sl w w.heap.size sz enc A l:=by
  cases h with
  | sl A _ c _ _ vs hc hm hA h =>
    refine ⟨A,c,rfl,hc,hm,henc,flatMap_len henc l,fun hn=>?_⟩
    obtain ⟨b,o,rfl,hlt,hcell⟩:=hA hn
    refine ⟨_,rfl,hlt,fun p u hu=>?_⟩
    have hp:p < l.length * sz:=by
      rcases Nat.lt_or_ge p (l.flatMap enc).length with h1 | h1
      · rwa [flatMap_len henc] at h1
      · rw [List.getElem?_eq_none h1] at hu;cases hu
    have hs:0 < sz:=Nat.pos_of_ne_zero (fun h0=>by subst h0;simp at hp)
    have hi:p / sz < l.length:=(Nat.div_lt_iff_lt_mul hs).2 hp
    have hj:p % sz < sz:=Nat.mod_lt _ hs
    have e1:p=p / sz * sz+p % sz:=by rw [Nat.mul_comm];exact (Nat.div_add_mod p sz).symm
    rw [add_off,e1,(hcell _ _ hi hj).2.1]
    rw [e1,flatMap_at henc l _ _ hi hj] at hu
    have hr:Rep w E (vs (p / sz) (p % sz)) (encF (l.getD (p / sz) d) (p % sz)):=h _ _ hi hj
    rw [hF _ _ hj] at hr
    have hv:=hr.imm_inv
    rw [hv]
    have hg:l.getD (p / sz) d=l[p / sz]:=by simp [List.getD,List.getElem?_eq_getElem hi]
    rw [hg]
    have:(enc l[p / sz]).getD (p % sz) undef=u:=by simp [List.getD,hu]
    rw [this]
theorem arr10 {cs:Array Value} (h:cs.size=10) (vs:Nat→Value) (hv:∀ i,i < 10→cs[i]?=some (vs i)):cs=#[vs 0,vs 1,vs 2,vs 3,vs 4,vs 5,vs 6,vs 7,vs 8,vs 9]:=by
 apply Array.ext_getElem?
 intro i
 by_cases hi:i < 10
 ·rw [hv i hi]
  match i,hi with
  | 0,_=>rfl | 1,_=>rfl | 2,_=>rfl | 3,_=>rfl | 4,_=>rfl | 5,_=>rfl | 6,_=>rfl | 7,_=>rfl | 8,_=>rfl | 9,_=>rfl
 ·rw [Array.getElem?_eq_none (by omega),Array.getElem?_eq_none (by simp;omega)]
theorem pure_imm {w w':World} {F:Addr→Prop} {u:Value} (hF:∀ a,F a→a.spot=none∧(w.cell? a).isSome=true) (hb:Below w.heap.size w w'):PurePost w F (.imm u) (.returned u) w' :=
 ⟨hb,u,F,rfl,fun _ h=>h,fun _ h=>.inl h,fun a ha=>⟨(hF a ha).1,by rw [World.cell?_of_block (hb.block _ (lt_of_cell (hF a ha).2))];exact (hF a ha).2⟩,.imm u⟩
theorem below_drews {w:World} {n:Nat}:Below w.heap.size w (w.drewN n):=below_drewN (Below.refl _ _) n
theorem gives_pure {α:Type} {w w':World} {F:Addr→Prop} (hF:∀ a,F a→a.spot=none∧(w.cell? a).isSome=true) {e:TypeId} {sz:Nat} {enc:α→List Value} (encF:α→Nat→HV) (hFe:∀ x j,j < sz→encF x j=.imm ((enc x).getD j undef)) (h1:∀ x,∀ u∈enc x,u.oneCell'=true) (d:α) {l:List α} {en:Ending}
  (h:GivesSl e sz enc w l en w'):PurePost w F (.sl sz l.length (fun i=>encF (l.getD i d))) en w':=by
 obtain ⟨A,c,rfl,hown,hb⟩:=h
 have henc:=hown.1
 have hFk:∀ a,F a→(w'.cell? a)=w.cell? a:=fun a ha=>World.cell?_of_block (hb.block _ (lt_of_cell (hF a ha).2))
 rcases hown.2.2 with ⟨hv,hn⟩ | ⟨b,cap,cur,hv,hbase,hblk,hn,hcap,hsz,htake⟩
 ·injection hv with hA _ hc
  subst hA;subst hc
  have hl:l=[]:=List.eq_nil_of_length_eq_zero hn
  subst hl
  refine ⟨hb,_,F,rfl,fun _ h=>h,fun _ h=>.inl h,fun a ha=>⟨(hF a ha).1,by rw [hFk a ha];exact (hF a ha).2⟩,?_⟩
  exact .sl _ 0 0 sz _ (fun _ _=>undef) (Nat.le_refl _) (Nat.zero_le _) (fun h=>absurd h (Nat.lt_irrefl _)) (fun i j hi=>absurd hi (Nat.not_lt_zero _))
 ·injection hv with hA _ hc
  subst hA;subst hc
  have hB:Blk w' b e cur:=hblk
  have hcell:∀ i j,i < l.length→j < sz→w'.cell? ⟨b,i * sz+j,none⟩=some ((enc (l.getD i d)).getD j undef):=by
   intro i j hi hj
   have hlt:=pos_in (sz:=sz) hi hj
   have hg:l.getD i d=l[i]:=by simp [List.getD,List.getElem?_eq_getElem hi]
   have hj':j < (enc l[i]).length:=by rw [henc];exact hj
   have hg2:(enc l[i]).getD j undef=(enc l[i])[j]:=by simp [List.getD,List.getElem?_eq_getElem hj']
   rw [hB.cell,hg,hg2,←Array.getElem?_toList]
   have:=flatMap_at henc l i j hi hj
   rw [←htake,List.getElem?_take,if_pos hlt] at this
   rw [this,List.getElem?_eq_getElem hj']
  refine ⟨hb,_,fun a=>F a∨(a.block=b∧a.spot=none∧a.off < l.length * sz),rfl,fun _ h=>.inl h,fun a ha=>?_,fun a ha=>?_,?_⟩
  ·rcases ha with ha | ⟨ha,_⟩
   ·exact .inl ha
   ·exact .inr (by rw [ha];exact hbase)
  ·rcases ha with ha | ⟨ha,hs,ho⟩
   ·exact ⟨(hF a ha).1,by rw [hFk a ha];exact (hF a ha).2⟩
   ·obtain ⟨ab,ao,asp⟩:=a
    simp only at ha hs ho
    subst ha;subst hs
    refine ⟨rfl,?_⟩
    have:ao < cur.size:=by rw [hsz];exact Nat.lt_of_lt_of_le ho (Nat.mul_le_mul_right _ hn)
    rw [hB.cell,Array.getElem?_eq_getElem this];rfl
  ·refine .sl _ _ _ sz _ (fun i j=>(enc (l.getD i d)).getD j undef) hn hcap (fun hp=>⟨b,0,rfl,hB.lt,fun i j hi hj=>?_⟩) (fun i j hi hj=>by show Rep _ _ _ (encF _ _);rw [hFe _ _ hj];exact .imm _)
   rw [Nat.zero_add]
   refine ⟨.inr ⟨rfl,rfl,pos_in hi hj⟩,hcell i j hi hj,?_⟩
   have hj':j < (enc (l.getD i d)).length:=by rw [henc];exact hj
   have hg2:(enc (l.getD i d)).getD j undef=(enc (l.getD i d))[j]:=by rw [List.getD_eq_getElem?_getD,List.getElem?_eq_getElem hj'];rfl
   rw [hg2]
   exact h1 _ _ (List.getElem_mem hj')
theorem rep1 {w:World} {E:Env} {vs:List Value} {x:HV} (h:RepAll w E vs [x]):∃ v,vs=[v]∧Rep w E v x:=by
 match vs,h with
 | [v],h=>exact ⟨v,rfl,h.1⟩
theorem rep2 {w:World} {E:Env} {vs:List Value} {x y:HV} (h:RepAll w E vs [x,y]):∃ u v,vs=[u,v]∧Rep w E u x∧Rep w E v y:=by
 match vs,h with
 | [u,v],h=>exact ⟨u,v,rfl,h.1,h.2.1⟩
def allF (w:World) (a:Addr):Prop:=a.spot=none∧(w.cell? a).isSome=true
theorem rep_sl {α:Type} {w:World} {B:Nat} {A:Option Addr} {c:Nat} (sz:Nat) (hs:0 < sz) (enc:α→List Value) (enc1:∀ x,∀ u∈enc x,u.oneCell'=true) (encF:α→Nat→HV) (d:α) (l:List α) (hc:l.length≤c) (hm:c≤maxLen) (h:Sl w B sz enc A l)
  (hr:∀ i j,i < l.length→j < sz→Rep w (Env.just (allF w)) ((enc (l.getD i d)).getD j undef) (encF (l.getD i d) j)):Rep w (Env.just (allF w)) (.slice A l.length c) (.sl sz l.length (fun i=>encF (l.getD i d))):=by
 refine .sl A l.length c sz _ (fun i j=>(enc (l.getD i d)).getD j undef) hc hm (fun hn=>?_) hr
 obtain ⟨b,o,rfl,hb⟩:=h.addr hn hs
 have cell:∀ i j,i < l.length→j < sz→w.cell? ⟨b,o+(i * sz+j),none⟩=some ((enc (l.getD i d)).getD j undef)∧((enc (l.getD i d)).getD j undef).oneCell'=true:=by
  intro i j hi hj
  have:=h.cell_ hi j hj
  have hg:l.getD i d=l[i]:=by rw [List.getD_eq_getElem?_getD,List.getElem?_eq_getElem hi];rfl
  have hj':j < (enc l[i]).length:=by rw [h.1];exact hj
  have hg2:(enc l[i]).getD j undef=(enc l[i])[j]:=by rw [List.getD_eq_getElem?_getD,List.getElem?_eq_getElem hj'];rfl
  rw [hg,hg2,show o+(i * sz+j)=o+i * sz+j from by omega,this,List.getElem?_eq_getElem hj']
  exact ⟨rfl,enc1 _ _ (List.getElem_mem hj')⟩
 have hlt:b < w.heap.size:=by
  have:=(cell 0 0 hn hs).1
  exact World.block_lt_of_cell? w _ this
 exact ⟨b,o,rfl,hlt,fun i j hi hj=>⟨⟨rfl,by rw [(cell i j hi hj).1];rfl⟩,(cell i j hi hj).1,(cell i j hi hj).2⟩⟩
theorem law_walk {P:Program} {f:FuncId} {xs:List HV} (h:HPure P f xs (boolV true)) (w:World) (vs:List Value) (hr:RepAll w (Env.just (allF w)) vs xs) (hw:LibW w):Calls P f vs.toArray w fun e w'=>e=.returned (.bool true)∧Below w.heap.size w w':=by
 refine (h.2 w (allF w) vs (fun a h=>h) hr hw).mono ?_
 rintro e w' ⟨hb,v,F',rfl,_,_,_,hv⟩
 rw [hv.imm_inv]
 exact ⟨rfl,hb⟩
theorem tokF_imm (t:Tok) (j:Nat) (h:j < 12):tokF t j=.imm (t.cells.getD j undef):=by
 match j,h with
 | 0,_=>rfl | 1,_=>rfl | 2,_=>rfl | 3,_=>rfl | 4,_=>rfl | 5,_=>rfl | 6,_=>rfl | 7,_=>rfl | 8,_=>rfl | 9,_=>rfl | 10,_=>rfl | 11,_=>rfl
theorem mksF_imm (t:Mks) (j:Nat) (h:j < 8):mksF t j=.imm (t.cells.getD j undef):=by
 match j,h with
 | 0,_=>rfl | 1,_=>rfl | 2,_=>rfl | 3,_=>rfl | 4,_=>rfl | 5,_=>rfl | 6,_=>rfl | 7,_=>rfl
theorem toks_of {w:World} {E:Env} {v:Value} {l:List Tok} (h:Rep w E v (toksV l)):∃ A c,v=.slice A l.length c∧l.length≤c∧c≤maxLen∧Sl w w.heap.size 12 Tok.cells A l:=sl_of 12 Tok.cells Tok.cells_length tokF tokF_imm tok0 l h
theorem mkss_of {w:World} {E:Env} {v:Value} {l:List Mks} (h:Rep w E v (mkssV l)):∃ A c,v=.slice A l.length c∧l.length≤c∧c≤maxLen∧Sl w w.heap.size 8 Mks.cells A l:=sl_of 8 Mks.cells Mks.cells_length mksF mksF_imm mks0 l h
theorem stp_of {w:World} {E:Env} {v:Value} {s:St} (h:Rep w E v (stV s)):∃ a:Stp,a.v=s∧v=.agg a.cells.toArray∧a.Ok w w.heap.size:=by
  cases h with
  | agg cs _ _ vs hn hv h =>
    have e:=arr10 hn vs (fun i hi=>(hv i hi).1)
    have i0:=(h 0 (by omega)).imm_inv
    have i1:=(h 1 (by omega)).imm_inv
    have i2:=(h 2 (by omega)).imm_inv
    have i3:=(h 3 (by omega)).imm_inv
    have i4:=(h 4 (by omega)).imm_inv
    have i5:=(h 5 (by omega)).imm_inv
    have i6:=(h 6 (by omega)).imm_inv
    have i7:=(h 7 (by omega)).imm_inv
    obtain ⟨A1,c1,i8,o1,_,s1⟩:=toks_of (h 8 (by omega))
    obtain ⟨A2,c2,i9,o2,_,s2⟩:=mkss_of (h 9 (by omega))
    rw [i0,i1,i2,i3,i4,i5,i6,i7,i8,i9] at e
    subst e
    exact ⟨⟨s,A1,s.sl.length,c1,A2,s.sets.length,c2⟩,rfl,rfl,rfl,rfl,s1,s2,o1,o2⟩
theorem rep_toks {w:World} {B:Nat} {A:Option Addr} {c:Nat} {l:List Tok} (h:Sl w B 12 Tok.cells A l) (hc:l.length≤c) (hm:c≤maxLen):Rep w (Env.just (allF w)) (.slice A l.length c) (toksV l) :=
 rep_sl 12 (by omega) Tok.cells tok_one tokF tok0 l hc hm h (fun i j _ hj=>by rw [tokF_imm _ _ hj];exact .imm _)
section
variable {K:Nat→Prop} {w0 w:World} {F0:Addr→Prop} {E:Env} {h:Nat→Option HObj}
end
section
variable {P:Program} {ov:Nat→Option HV} {g:Nat} {d:Option Tmp} {ty T yT:TypeId} {pos:String} {af:Array Edge} {gd:Option (Nat×Bool)} {x y:Operand} {l m:List UInt8}
end
section
variable {P:Program} {ov:Nat→Option HV} {g:Nat} {d:Option Tmp} {ty T yT:TypeId} {pos:String} {af:Array Edge} {gd:Option (Nat×Bool)} {x y:Operand} {k k':IntKind} {a b:Int}
end
theorem HOp.val {P:Program} {o:Oper} {ov:Nat→Option HV} {g:Nat} {pre post:List (Nat×HObj)} {v v':HV} (h:HOp P o ov g pre v post) (e:v=v'):HOp P o ov g pre v' post:=e▸h
section
variable {P:Program} {ov:Nat→Option HV} {g:Nat} {d:Option Tmp} {ty T yT:TypeId} {pos:String} {af:Array Edge} {gd:Option (Nat×Bool)} {x y:Operand} {k k':IntKind} {a b lo hi c:Int}
end
theorem HFun.mono {P:Program} {f:FuncId} {c:Nat} {args:List HV} {pre:List (Nat×HObj)} {Post Post':HEnd→List (Nat×HObj)→Nat→Prop} (h:HFun P f c args pre Post) (hi:∀ e kp c',Post e kp c'→Post' e kp c'):HFun P f c args pre Post' :=
 ⟨h.1,fun X vs ok hX hr hG=>(h.2 X vs ok hX hr hG).mono (by rintro e w' ⟨x,kp,c',E',hP,rest⟩;exact ⟨x,kp,c',E',hi _ _ _ hP,rest⟩)⟩
theorem hupd_same {h:Nat→Option HObj}:∀ {p:List (Nat×HObj)},(∀ q∈p,h q.1=some q.2)→hupd h p=h
  | [],_=>rfl
  | q :: p, hq => by
    show hset (hupd h p) q.1 q.2=h
    rw [hupd_same (fun x hx=>hq x (List.mem_cons_of_mem _ hx))]
    funext k
    unfold hset
    split
    · rename_i e;subst e;exact (hq q (List.mem_cons_self ..)).symm
    · rfl
theorem clocks_self (pre:List (Nat×HObj)):Clocks pre pre:=fun id o h=>⟨_,hget_mem h,rfl⟩
section
variable {P:Program} {ops:Array Oper} {ov:Nat→Option HV} {g:Nat} {d:Option Tmp} {ty:TypeId} {pos:String} {af:Array Edge} {gd:Option (Nat×Bool)}
theorem hop_funR {f:FuncId} {args:List Operand} {at_:Array TypeId} {xs:List HV} {pre:List (Nat×HObj)} {r:HV} (hc:HFunD P f xs pre r pre) (hx:ovAll ov args xs) :
  HOp P ⟨d,.call ⟨.value (.func f),args.toArray,at_⟩,ty,pos,af,gd⟩ ov g pre r []:=by
 intro K w0 F0 E hh a w Q N rr ht hG hBd hpre hN
 have hrep:=hx.rep (w:=w) (E:=E) (ρ:=a.eval) (fun x hv hx h=>ht x hv (by simp [Op.operands,Call.operands];exact .inr hx) h)
 unfold Oper.wp execOp
 have hargs:args.toArray.map a.eval=(args.map a.eval).toArray:=by simp
 simp only [resolve,Act.eval,Deferred.ofValue,invoke,Sem.run_bind,Sem.run_pure,Result.andThen_ok,Array.empty_append,Array.append_empty]
 rw [run_callFunc (hc 0).1]
 simp only [Oper.upon]
 have h:=hc.sem (clocks_self pre) rr hpre (args.map a.eval) hrep hBd
 rw [←hargs] at h
 refine Calls.mono h ?_
 rintro e w' ⟨v,E',rfl,e',r',hg',hv⟩
 rw [hupd_same hpre] at r'
 exact hN v w' E' e' r' (fun g' h=>.inl (hg' g' h)) hv
end
section
variable {P:Program} {ops:Array Oper} {Q:Exit→Act→World→Prop} {C:Ctx} {n clk:Nat} {tm:List (Nat×TV)} {hp:List (Nat×HObj)} {rest:List Oper} {ty:TypeId} {pos:String} {af:Array Edge}
theorem pview_rep {w:World} {E:Env} {a:Act} {args:List Operand} {xs:List HV} (ht:∀ t x,tget tm t=some x→TVRep w E a (a.tmps.getD t undef) x) (hx:ovAll (pview (tget tm)) args xs):RepAll w E (args.map a.eval) xs :=
  hx.rep (w:=w) (E:=E) (ρ:=a.eval) (fun x hv hx' h=>by
    cases x with
    | tmp t =>
      simp only [ovl,pview] at h
      cases hq:tget tm t with
      | none=>rw [hq] at h;cases h
      | some u => rw [hq] at h; cases u with
        | v y=>injection h with h;subst h;exact ht t _ hq
        | un j b y=>cases h
    | const v=>exact rep_cst w E _ v _ h
    | global k=>injection h with h;subst h;exact .imm _
    | func f=>injection h with h;subst h;exact .fn (.func f) #[] 0 _ (fun _=>undef) rfl (fun i hi=>absurd hi (Nat.not_lt_zero _)) (fun i hi=>absurd hi (Nat.not_lt_zero _)))
@[reducible] def PanP {β:Type} (J:β→Nat→Prop) (q:β→HV) (kq:β→List (Nat×HObj)):HEnd→List (Nat×HObj)→Nat→Prop:=fun e o c'=>∃ y,J y c'∧e=.pan (q y)∧o=kq y
theorem HFun.pan {β:Type} {J:β→Nat→Prop} {q:β→HV} {kqf:β→List (Nat×HObj)} {f:FuncId} {c:Nat} {args:List HV} {pre:List (Nat×HObj)} {α:Type} {I:α→Nat→Prop} {r:α→HV} {kpf:α→List (Nat×HObj)} (h:HFun P f c args pre (PanP J q kqf)):HFun P f c args pre (RoP I r kpf J q kqf) :=
 h.mono fun _ _ _ ⟨y,h1,h2,h3⟩=>.inr ⟨y,h1,h2,h3⟩
end
section
variable {C:Ctx} {P:Program} {Q:Exit→Act→World→Prop} {n clk:Nat} {tm0:List (Nat×TV)} {hp0:List (Nat×HObj)} {l:List Oper} {ss:List HSpec}
theorem Good.wide {ops:Array Oper} {dn L:List Oper} {ss ss':List HSpec} {i:Nat} {o:Oper} (hd:∀ k,k < i→dstAt dn k=dstAt L k) (hs:∀ k,k≤i→spAt ss k=spAt ss' k) (h:Good P ops n clk tm0 hp0 dn ss i o):Good P ops n clk tm0 hp0 L ss' i o:=by
 refine ⟨?_,?_,h.dst⟩
 ·have e:trun L ss' (tget tm0) (fun _=>true) i=trun dn ss (tget tm0) (fun _=>true) i:=funext fun t=>(trun_congr i (fun k hk=>(hd k hk)) (fun k hk _=>⟨rfl,hs k (by omega)⟩)).symm
  rw [←hs i (Nat.le_refl _),e];exact h.st
 ·rw [←hs i (Nat.le_refl _)]
  intro p hp
  rw [←hrun_congr (ss:=ss) i (fun k hk=>by rw [hs k (by omega)]) (fun k hk _=>rfl)];exact h.pre p hp
end
section
variable {P:Program} {ops:Array Oper} {Q:Exit→Act→World→Prop} {C:Ctx} {n clk:Nat} {tm:List (Nat×TV)} {hp:List (Nat×HObj)} {ty:TypeId} {pos:String} {af:Array Edge}
end
section
variable {P:Program}
variable {Post:HEnd→List (Nat×HObj)→Nat→Prop}
end
section
variable {P:Program} {C:Ctx} {n clk:Nat} {tm:List (Nat×TV)} {hp:List (Nat×HObj)} {fn:Func} {Rp:Ending→World→Prop} {f:FuncId} {hs:List HV} {pre:List (Nat×HObj)} {Post:HEnd→List (Nat×HObj)→Nat→Prop}
end
section
variable {C:Ctx} {P:Program} {Q:Exit→Act→World→Prop} {n clk:Nat} {tm0:List (Nat×TV)} {hp0:List (Nat×HObj)} {l:List Oper} {ss:List HSpec}
end
section
variable {C:Ctx} {P:Program} {ops:Array Oper} {Q:Exit→Act→World→Prop} {n clk:Nat} {tm:List (Nat×TV)} {hp:List (Nat×HObj)} {rest:List Oper} {ty:TypeId} {pos:String} {af:Array Edge}
theorem caps_rep {w:World} {E:Env} {m:Nat} {vcs:Array Value} {cs:List HV} {caps:Nat→HV} {vs:Nat→Value} (hn:vcs.size=m) (hv:∀ i,i < m→vcs[i]?=some (vs i)) (hr:∀ i,i < m→Rep w E (vs i) (caps i)) (hcs:cs.length=m) (hci:∀ i,i < m→cs[i]?=some (caps i)):RepAll w E vcs.toList cs:=by
  have:∀ (l:List Value) (k:List HV),l.length=k.length→(∀ i,i < l.length→∃ v x,l[i]?=some v∧k[i]?=some x∧Rep w E v x)→RepAll w E l k:=by
    intro l
    induction l with
    | nil=>intro k hl _;cases k with | nil=>trivial | cons _ _=>simp at hl
    | cons v l ih =>
      intro k hl h
      cases k with
      | nil=>simp at hl
      | cons x k =>
        obtain ⟨v',x',h1,h2,h3⟩:=h 0 (by simp)
        simp at h1 h2
        subst h1;subst h2
        exact ⟨h3,ih k (by simpa using hl) (fun i hi=>by have:=h (i+1) (by simpa using hi);simpa using this)⟩
  refine this _ _ (by rw [Array.length_toList,hn,hcs]) (fun i hi=>?_)
  rw [Array.length_toList,hn] at hi
  exact ⟨vs i,caps i,by rw [Array.getElem?_toList];exact hv i hi,hci i hi,hr i hi⟩
theorem repAll_app {w:World} {E:Env} {k:List Value} {cs:List HV} (hk:RepAll w E k cs):∀ {l:List Value} {m:List HV},RepAll w E l m→RepAll w E (l++k) (m++cs)
 | [],[],_=>hk
 | _::_,_::_,h=>⟨h.1,repAll_app hk h.2⟩
 | [],_::_,h=>h.elim
 | _::_,[],h=>h.elim
theorem hf_callV {f:FuncId} {t m:Nat} {caps:Nat→HV} {args:List Operand} {at_:Array TypeId} {xs cs:List HV} {pre:List (Nat×HObj)} {Post:HEnd→List (Nat×HObj)→Nat→Prop} (d:Nat)
    (hc:HFun P f clk (xs++cs) pre Post) (h0:tget tm t=some (.v (.fn (.func f) m caps))) (hcs:cs.length=m) (hci:∀ i,i < m→cs[i]?=some (caps i)) (hx:ovAll (pview (tget tm)) args xs) (hpre:∀ p∈pre,hget hp p.1=some p.2) (hlt:Nat.blt d n=true) (hk:nokey tm d=true)
    (h:∀ r kp c',Post (.ret r) kp c'→HSeq C P ops rest ⟨n,(d,.v r)::tm,kp++hp,c'⟩ Q) (hpan:∀ x kp c',Post (.pan x) kp c'→HPan C Q ⟨n,tm,kp++hp,c'⟩ x) :
    HSeq C P ops (⟨some d,.call ⟨.value (.tmp t),args.toArray,at_⟩,ty,pos,af,none⟩::rest) ⟨n,tm,hp,clk⟩ Q:=by
  intro a w ⟨E,e0,r,hG,hsz,hdf,ht⟩
  have hlt:d < n:=by simpa [Nat.blt_eq] using hlt
  unfold wpSq
  rw [if_pos (by simp [Region.wanted])]
  left
  have hrep:=pview_rep ht hx
  have hfn:Rep w E (a.eval (.tmp t)) (.fn (.func f) m caps):=ht t _ h0
  unfold Oper.wp execOp
  generalize hρ:a.eval (.tmp t)=u at hfn
  cases hfn with
  | fn _ vcs _ _ vs hn hv hr =>
    have hcap:=caps_rep hn hv hr hcs hci
    have hargs:args.toArray.map a.eval++vcs=(args.map a.eval++vcs.toList).toArray:=by
      apply Array.ext'
      simp
    simp only [resolve,hρ,Deferred.ofValue,invoke,Sem.run_bind,Sem.run_pure,Result.andThen_ok,Array.empty_append]
    rw [run_callFunc hc.1]
    simp only [Oper.upon]
    have hcalls:=hc.2 ⟨C.K,C.w0,C.E0.F,E,hget hp,w,pre⟩ (args.map a.eval++vcs.toList) ⟨r,fun id o ho=>hpre (id,o) (hget_mem ho)⟩ rfl (repAll_app hcap hrep) hG
    rw [←hargs] at hcalls
    refine Calls.mono hcalls ?_
    rintro e w' ⟨x,kp,c',E',hP,e',r',hG',_,hv⟩
    cases e with
    | returned v =>
      cases x with
      | pan x=>exact hv.elim
      | ret x =>
        refine h x kp c' hP _ w' ⟨E',e0.trans e',by simp only [hget_append];exact r',hG',by simp [Act.put,hsz],hdf.ext e',fun t y hy=>?_⟩
        simp only [tget_cons] at hy
        split at hy
        · rename_i htd
          subst htd
          injection hy with hy
          subst hy
          rw [getD_put_same (by rw [hsz];exact hlt)]
          exact hv
        · rename_i htd
          rw [getD_put_ne htd]
          have:=(ht t y hy).ext e'
          cases y with
          | v z=>exact this
          | un j b z =>
            have hne:=nokey_spec hk t j b z hy
            simp only [TVRep,getD_put_ne hne] at this ⊢;exact this
    | panicked ch =>
      cases x with
      | ret x=>exact hv.elim
      | pan x =>
        obtain ⟨v,rfl,hv⟩:=hv
        exact hpan x kp c' hP a w' E' v (e0.trans e') (by simp only [hget_append];exact r') hG' hsz (hdf.ext e') (fun t y hy=>(ht t y hy).ext e') hv
    | outgrown=>cases x <;> exact hv.elim
theorem hf_callVR {α:Type} {I:α→Nat→Prop} {r:α→HV} {kpf:α→List (Nat×HObj)} {f:FuncId} {t m:Nat} {caps:Nat→HV} {args:List Operand} {at_:Array TypeId} {xs cs:List HV} {pre:List (Nat×HObj)} (d:Nat)
  (hc:HFun P f clk (xs++cs) pre (RetP I r kpf)) (h0:tget tm t=some (.v (.fn (.func f) m caps))) (hcs:cs.length=m) (hci:∀ i,i < m→cs[i]?=some (caps i)) (hx:ovAll (pview (tget tm)) args xs) (hpre:∀ p∈pre,hget hp p.1=some p.2) (hlt:Nat.blt d n=true) (hk:nokey tm d=true)
  (h:∀ x c',I x c'→HSeq C P ops rest ⟨n,(d,.v (r x))::tm,kpf x++hp,c'⟩ Q) :
  HSeq C P ops (⟨some d,.call ⟨.value (.tmp t),args.toArray,at_⟩,ty,pos,af,none⟩::rest) ⟨n,tm,hp,clk⟩ Q :=
 hf_callV d hc h0 hcs hci hx hpre hlt hk (fun _ _ c' ⟨x,hI,he,hk⟩=>by injection he with he;subst he;subst hk;exact h x c' hI) (fun _ _ _ ⟨_,_,he,_⟩=>by cases he)
end
section
variable {P:Program} {ops:Array Oper} {ov:Nat→Option HV} {g:Nat} {d:Option Tmp} {ty:TypeId} {pos:String} {af:Array Edge} {gd:Option (Nat×Bool)} {T yT:TypeId} {x y:Operand}
end
section
variable {K:Nat→Prop} {w0 w w':World} {F0:Addr→Prop} {E E':Env} {h h':Nat→Option HObj}
end
section
variable {P:Program} {ops:Array Oper} {ov:Nat→Option HV} {g:Nat} {d:Option Tmp} {ty:TypeId} {pos:String} {af:Array Edge} {gd:Option (Nat×Bool)} {T yT:TypeId} {x y:Operand}
theorem hstep_guard3 {o:Oper} {tm:Nat→Option TV} {pre:List (Nat×HObj)} {v:HV} (gi j j2:Nat) (b2 b c c2:Bool) (hg:o.guard=some (gi,b)) (hgi:(ops[gi]?).bind (·.dst)=some j)
  (hc:tm j=some (.un j2 b2 (.imm (.bool c)))) (hc2:tm j2=some (.v (.imm (.bool c2)))) (h:c=b→c2=b2→HOp P o (gview tm j b) g pre v []):HStep P ops o tm g ⟨.un j b v,j::j2::ops_tmps o,pre,[]⟩:=by
 intro K w0 F0 E hh a w Q N r ht hG hBd hp hN
 have hwant:Region.wanted o (yielded ops a.tmps)=true↔a.tmps.getD j undef=.bool b:=by
  unfold Region.wanted yielded
  rw [hg]
  simp only [hgi,Option.bind_some]
  by_cases hj:j < a.tmps.size
  ·have e1:a.tmps[j]?=some a.tmps[j]:=Array.getElem?_eq_getElem hj
   have e2:a.tmps.getD j undef=a.tmps[j]:=by simp [hj]
   rw [e1,e2]
   cases h:a.tmps[j] <;> simp
  ·have e1:a.tmps[j]?=none:=Array.getElem?_eq_none (by omega)
   have e2:a.tmps.getD j undef=undef:=by simp [hj]
   rw [e1,e2]
   try simp [undef]
 by_cases hj:a.tmps.getD j undef=.bool b
 ·rw [if_pos (hwant.2 hj)]
  have h2:=ht j _ (List.mem_cons_self ..) hc
  have h4:=Rep.imm_inv (ht j2 _ (List.mem_cons_of_mem _ (List.mem_cons_self ..)) hc2)
  have h3:a.tmps.getD j2 undef=.bool b2:=by
   refine Classical.byContradiction fun hne=>?_
   have:=h2.2 hne
   rw [hj] at this
   exact absurd this (by simp [undef])
  have hcb:c=b:=by
   have:=Rep.imm_inv (h2.1 h3)
   rw [hj] at this;injection this with this;exact this.symm
  have hcb2:c2=b2:=by rw [h3] at h4;injection h4 with h4;exact h4.symm
  refine h hcb hcb2 K w0 F0 E hh a w Q N r (fun x hv hx ho=>?_) hG hBd hp (fun val w' E' e r' hG' hv=>hN val w' E' e r' hG' ⟨fun _=>hv,fun hne=>absurd hj hne⟩)
  cases x with
  | tmp t=>exact gview_sound hj (fun y hy=>ht j y (List.mem_cons_self ..) hy) (fun y hy=>ht t y (List.mem_cons_of_mem _ (List.mem_cons_of_mem _ (mem_tmps hx))) hy) ho
  | const v=>exact rep_cst w E _ v _ ho
  | global k=>injection ho with ho;subst ho;exact .imm _
  | func f=>injection ho with ho;subst ho;exact .fn (.func f) #[] 0 _ (fun _=>undef) rfl (fun i hi=>absurd hi (Nat.not_lt_zero _)) (fun i hi=>absurd hi (Nat.not_lt_zero _))
 ·rw [if_neg (fun h=>hj (hwant.1 h))]
  exact hN undef w E (Ext.refl _ _) r (fun _ h=>.inl h) ⟨fun h=>absurd h hj,fun _=>rfl⟩
theorem hstep_pickg {tm:Nat→Option TV} {gi j j1:Nat} {b:Bool} (c:Bool) (hx hy v:HV) (hgi:(ops[gi]?).bind (·.dst)=some j) (h0:tm j1=some (.un j b (.imm (.bool c)))) (h1:ovl (gview tm j1 true) x=some hx) (h2:ovl (gview tm j1 false) y=some hy) (hv1:c=true→Sb hx v) (hv2:c=false→Sb hy v) :
    HStep P ops ⟨d,.pick (.tmp j1) x y,ty,pos,af,some (gi,b)⟩ tm g ⟨.un j b v,j::j1::ops_tmps ⟨d,.pick (.tmp j1) x y,ty,pos,af,some (gi,b)⟩,[],[]⟩:=by
  intro K w0 F0 E hh a w Q N r ht hG hBd hp hN
  have hwant:Region.wanted ⟨d,.pick (.tmp j1) x y,ty,pos,af,some (gi,b)⟩ (yielded ops a.tmps)=true↔a.tmps.getD j undef=.bool b:=by
    unfold Region.wanted yielded
    simp only [hgi,Option.bind_some]
    by_cases hj:j < a.tmps.size
    · have e1:a.tmps[j]?=some a.tmps[j]:=Array.getElem?_eq_getElem hj
      have e2:a.tmps.getD j undef=a.tmps[j]:=by simp [hj]
      rw [e1,e2]
      cases h:a.tmps[j] <;> simp
    · have e1:a.tmps[j]?=none:=Array.getElem?_eq_none (by omega)
      have e2:a.tmps.getD j undef=undef:=by simp [hj]
      rw [e1,e2]
      try simp [undef]
  by_cases hj:a.tmps.getD j undef=.bool b
  · rw [if_pos (hwant.2 hj)]
    have hj1:a.eval (.tmp j1)=.bool c:=Rep.imm_inv ((ht j1 _ (List.mem_cons_of_mem _ (List.mem_cons_self ..)) h0).1 hj)
    have look:∀ (b':Bool) (z:Operand) (h:HV),c=b'→z∈(Op.pick (.tmp j1) x y).operands.toList→ovl (gview tm j1 b') z=some h→Rep w E (a.eval z) h:=by
      intro b' z h hb hz ho
      subst hb
      cases z with
      | tmp t=>exact gview_sound hj1 (fun y hy=>ht j1 y (List.mem_cons_of_mem _ (List.mem_cons_self ..)) hy) (fun y hy=>ht t y (List.mem_cons_of_mem _ (List.mem_cons_of_mem _ (mem_tmps hz))) hy) ho
      | const v=>exact rep_cst w E _ v _ ho
      | global k=>injection ho with ho;subst ho;exact .imm _
      | func f=>injection ho with ho;subst ho;exact .fn (.func f) #[] 0 _ (fun _=>undef) rfl (fun i hi=>absurd hi (Nat.not_lt_zero _)) (fun i hi=>absurd hi (Nat.not_lt_zero _))
    refine wp_val (v:=if c=true then a.eval x else a.eval y) (w':=w) ?_ (hN _ w E (Ext.refl _ _) r (fun _ h=>.inl h) ⟨fun _=>?_,fun hne=>absurd hj hne⟩)
    · cases c <;> simp [execOp,hj1,asBool]
    · cases c with
      | true=>exact (hv1 rfl).sound (look true x hx rfl (by simp [Op.operands]) h1)
      | false=>exact (hv2 rfl).sound (look false y hy rfl (by simp [Op.operands]) h2)
  · rw [if_neg (fun h=>hj (hwant.1 h))]
    exact hN undef w E (Ext.refl _ _) r (fun _ h=>.inl h) ⟨fun h=>absurd h hj,fun _=>rfl⟩
theorem hstep_org {tm:Nat→Option TV} {gi j j1:Nat} {b:Bool} (c e:Bool) (hgi:(ops[gi]?).bind (·.dst)=some j) (h0:tm j1=some (.un j b (.imm (.bool c)))) (h1:ovl (gview tm j1 true) x=some (.imm (.bool true))) (h2:ovl (gview tm j1 false) y=some (.imm (.bool e))) :
  HStep P ops ⟨d,.pick (.tmp j1) x y,ty,pos,af,some (gi,b)⟩ tm g ⟨.un j b (.imm (.bool (c||e))),j::j1::ops_tmps ⟨d,.pick (.tmp j1) x y,ty,pos,af,some (gi,b)⟩,[],[]⟩ :=
 hstep_pickg c _ _ _ hgi h0 h1 h2 (fun h=>by subst h;exact .refl _) (fun h=>by subst h;exact .refl _)
theorem hstep_andg {tm:Nat→Option TV} {gi j j1:Nat} {b:Bool} (c e:Bool) (hgi:(ops[gi]?).bind (·.dst)=some j) (h0:tm j1=some (.un j b (.imm (.bool c)))) (h1:ovl (gview tm j1 true) x=some (.imm (.bool e))) (h2:ovl (gview tm j1 false) y=some (.imm (.bool false))) :
  HStep P ops ⟨d,.pick (.tmp j1) x y,ty,pos,af,some (gi,b)⟩ tm g ⟨.un j b (.imm (.bool (c&&e))),j::j1::ops_tmps ⟨d,.pick (.tmp j1) x y,ty,pos,af,some (gi,b)⟩,[],[]⟩ :=
 hstep_pickg c _ _ _ hgi h0 h1 h2 (fun h=>by subst h;exact .refl _) (fun h=>by subst h;exact .refl _)
end
section
variable {C:Ctx} {P:Program} {ops:Array Oper} {Q:Exit→Act→World→Prop} {n clk:Nat} {tm:List (Nat×TV)} {hp:List (Nat×HObj)} {o:Oper} {rest:List Oper} {v:HV}
theorem hq_g3 {pre:List (Nat×HObj)} (d gi j j2:Nat) (b2 b c c2:Bool) (hop:c=b→c2=b2→HOp P o (gview (tget tm) j b) clk pre v []) (hd:o.dst=some d) (hg:o.guard=some (gi,b)) (hgi:(ops[gi]?).bind (·.dst)=some j) (hc:tget tm j=some (.un j2 b2 (.imm (.bool c)))) (hc2:tget tm j2=some (.v (.imm (.bool c2)))) (hpre:∀ p∈pre,hget hp p.1=some p.2) (hlt:Nat.blt d n=true) (hk:nokey tm d=true) (hjd:Nat.beq j d=false)
  (h:HSeq C P ops rest ⟨n,(d,.un j b v)::tm,hp,clk⟩ Q):HSeq C P ops (o::rest) ⟨n,tm,hp,clk⟩ Q :=
 hseq_consq (s:=⟨n,tm,hp,clk⟩) d _ hd rfl (hstep_guard3 gi j j2 b2 b c c2 hg hgi hc hc2 hop) hpre hlt hk h (fun j' b' x h=>by injection h with h1 h2 h3;subst h1;rw [←Bool.not_eq_true,Nat.beq_eq] at hjd;exact hjd)
theorem hq_pg (d:Nat) {need:List Nat} {j:Nat} {b:Bool} (hst:HStep P ops o (tget tm) clk ⟨.un j b v,need,[],[]⟩) (hd:o.dst=some d) (hlt:Nat.blt d n=true) (hk:nokey tm d=true) (hjd:Nat.beq j d=false) (h:HSeq C P ops rest ⟨n,(d,.un j b v)::tm,hp,clk⟩ Q):HSeq C P ops (o::rest) ⟨n,tm,hp,clk⟩ Q :=
 hseq_consq (s:=⟨n,tm,hp,clk⟩) d _ hd rfl hst pre0 hlt hk h (fun j' b' x h=>by injection h with h1 h2 h3;subst h1;rw [←Bool.not_eq_true,Nat.beq_eq] at hjd;exact hjd)
end
section
variable {K:Nat→Prop} {w0 w:World} {F0:Addr→Prop} {E:Env} {h:Nat→Option HObj}
theorem R.tell (r:R K w0 F0 E h w) (id:Nat) {g n sz:Nat} {ty:TypeId} {fl:Nat} {f f':Nat→Nat→HV} (ho:h id=some ⟨g,n,sz,ty,fl,f⟩)
    (hc:∀ l b cs,E.L id=some l→l.A=some b→Blk w b ty cs→∀ i j u,i < n→j < sz→cs[i * sz+j]?=some u→Rep w E u (f i j)→Rep w E u (f' i j)) (hfn:fl≤n:=by first | exact Nat.zero_le _ | exact Nat.le_refl _ | omega):R K w0 F0 E (hset h id ⟨g,n,sz,ty,fl,f'⟩) w :=
  { r with
    obj:=fun k o hk=>by
      by_cases e:k=id
      · subst e
        rw [hset_same] at hk;injection hk with hk;subst hk
        obtain ⟨l,hl,a⟩:=r.obj k _ ho
        refine ⟨l,hl,a.g,a.G,a.sz,a.pos,?_⟩
        rcases a.at_ with h0 | ⟨b,cs,g1,g2,g3,g4,g5,g6,⟨vs,g8⟩,g9⟩ | ⟨_,_,_,_,h3,_⟩
        rotate_right
        · have h7:=h3.n;have h8:=h3.fl;simp only at h7 h8;omega
        · exact .inl h0
        · exact .inr (.inl ⟨b,cs,g1,g2,g3,g4,g5,g6,⟨vs,fun i j hi hj=>⟨(g8 i j hi hj).1,(g8 i j hi hj).2.1,hc l b cs hl g1 g2 i j _ hi hj (g8 i j hi hj).1 (g8 i j hi hj).2.2⟩⟩,g9⟩)
      · rw [hset_ne _ _ e] at hk
        exact r.obj k o hk
    inj:=fun k k' o o' l l' b hk hk' hl hl' hb hb'=>by
      have old:∀ k o,hset h id ⟨g,n,sz,ty,fl,f'⟩ k=some o→∃ o,h k=some o:=by
        intro k o hk
        by_cases e:k=id
        · subst e;exact ⟨_,ho⟩
        · rw [hset_ne _ _ e] at hk;exact ⟨o,hk⟩
      obtain ⟨p,hp⟩:=old k o hk
      obtain ⟨q,hq⟩:=old k' o' hk'
      exact r.inj k k' p q l l' b hp hq hl hl' hb hb' }
end
theorem hsub_ownc {C:Ctx} {n clk:Nat} {tm:List (Nat×TV)} {hp:List (Nat×HObj)} (id0 j0 id sz:Nat) (ty:TypeId) (f:Nat→Nat→HV) {g0 m0:Nat} {ty0:TypeId} {f0:Nat→Nat→HV} (f':Nat→Nat→HV) (ho:hget hp id0=some ⟨g0,1,m0,ty0,0,f0⟩) (hf0:f0 0 j0=.imm (.slice none 0 0)) (hf':∀ j,j < m0→(j=j0∧f' 0 j=.os id clk 0 0)∨f' 0 j=f0 0 j) (hid:id0≠id) (hsz:0 < sz) {c':Nat} (hc:clk+1=c') :
  HSub C ⟨n,tm,hp,clk⟩ ⟨n,tm,(id0,⟨g0,1,m0,ty0,0,f'⟩)::(id,⟨clk,0,sz,ty,0,f⟩)::hp,c'⟩:=by
 subst hc
 intro a w ⟨E,e0,r,hG,hsz',hdf,htm⟩
 have hg:¬ E.G clk:=fun h=>absurd (hG _ h) (Nat.lt_irrefl _)
 obtain ⟨e,r'⟩:=r.newNil id clk sz ty f hg hsz
 have r2:=r'.tell id0 (g:=g0) (n:=1) (sz:=m0) (ty:=ty0) (fl:=0) (f':=f') (by rw [hset_ne _ _ hid];exact ho) (fun l b cs hl hA hB i j u hi hj hu hr=>by
  obtain rfl:i=0:=by omega
  rcases hf' j hj with ⟨rfl,h2⟩ | h2
  ·rw [h2]
   rw [hf0] at hr
   rw [hr.imm_inv]
   refine .os none 0 0 id clk 0 (.inr rfl) (Nat.le_refl _) (Nat.zero_le _) (fun h=>absurd h (Nat.lt_irrefl _)) (fun l hl _ _=>?_)
   rw [Env.place_L] at hl;injection hl with hl;subst hl
   exact ⟨rfl,rfl⟩
  ·rw [h2];exact hr)
 refine ⟨_,e0.trans e,by simp only [hget_cons];exact r2,fun g hg=>?_,hsz',hdf.ext e,fun t x hx=>(htm t x hx).ext e⟩
 rcases hg with hg | hg
 ·exact Nat.lt_succ_of_lt (hG g hg)
 ·rw [hg];exact Nat.lt_succ_self _
theorem hw_joinc {C:Ctx} {P:Program} {Q:Exit→Act→World→Prop} {s:HSt} {α:Type} {x y:Code} (st:α→Nat→HSt) (I:α→Prop)
  (first:∀ N:Act→World→Prop,(∀ z c' s',I z→HSub C s' (st z c')→HQ C (Exit.then N Q) .normal s')→HWp C P x s (Exit.then N Q)) (rest:∀ z c,I z→HWp C P y (st z c) Q):HWp C P (.seq x y) s Q :=
 hw_seq fun N hN=>first N fun z c' s' hI hs a w ha=>hN (st z c') (rest z c' hI) a w (hs a w ha)
section
variable {P:Program} {n clk:Nat} {tm0:List (Nat×TV)} {hp0:List (Nat×HObj)} {ss:List HSpec} {Fin:Prop} {o:Oper} {rest dn:List Oper} {k:Nat} {tm:List (Nat×TV)} {hp:List (Nat×HObj)} {L:List Oper} {pre post:List (Nat×HObj)} {v:HV}
theorem hd_pg (d:Nat) {need:List Nat} {j:Nat} {b:Bool} (hst:HStep P L.toArray o (tget tm) (clk+k) ⟨.un j b v,need,[],[]⟩) (hd:o.dst=some d) (hlt:Nat.blt d n=true)
  {k':Nat} (hk':k+1=k') (h:HDr P n clk tm0 hp0 L (dn++[o]) (ss++[⟨.un j b v,need,[],[]⟩]) rest k' ((d,.un j b v)::tm) hp Fin):HDr P n clk tm0 hp0 L dn ss (o::rest) k tm hp Fin:=by subst hk';exact hd_cons ⟨.un j b v,need,[],[]⟩ d hd hst pre0 hlt h
end
def famP (b:Nat) (ob:Nat→HObj) (P:Nat→Bool):Nat→List (Nat×HObj)
 | 0=>[]
 | n+1=>if P n=true then (b+n,ob n)::famP b ob P n else famP b ob P n
theorem hget_famP (b:Nat) (ob:Nat→HObj) (P:Nat→Bool):∀ n id,hget (famP b ob P n) id=if b≤id∧id < b+n∧P (id - b)=true then some (ob (id - b)) else none
  | 0,id=>by rw [if_neg (by omega)];rfl
  | n + 1, id => by
    have ih:=hget_famP b ob P n id
    simp only [famP]
    by_cases hP:P n=true
    · rw [if_pos hP,hget_cons]
      by_cases e:id=b+n
      · subst e
        rw [hset_same,if_pos ⟨by omega,by omega,by rw [Nat.add_sub_cancel_left];exact hP⟩,Nat.add_sub_cancel_left]
      · rw [hset_ne _ _ e,ih]
        by_cases h:b≤id∧id < b+n∧P (id - b)=true
        · rw [if_pos h,if_pos ⟨h.1,by omega,h.2.2⟩]
        · rw [if_neg h,if_neg (fun h'=>h ⟨h'.1,by omega,h'.2.2⟩)]
    · rw [if_neg hP,ih]
      by_cases h:b≤id∧id < b+n∧P (id - b)=true
      · rw [if_pos h,if_pos ⟨h.1,by omega,h.2.2⟩]
      · rw [if_neg h,if_neg (fun h'=>by
          by_cases e:id=b+n
          · subst e;exact hP (by simpa using h'.2.2)
          · exact h ⟨h'.1,by omega,h'.2.2⟩)]
def under (b k:Nat) (L:List (Nat×HObj)):Bool:=L.all fun p=>Nat.blt p.1 b&&!Nat.beq p.1 k
section
variable {C:Ctx} {n clk:Nat} {tm:List (Nat×TV)} {hp:List (Nat×HObj)}
end
section
variable {C:Ctx} {n clk:Nat} {tm:List (Nat×TV)}
end
theorem HpSub.skip {x:Nat×HObj} {hp:List (Nat×HObj)} {b:Nat} {ob:Nat→HObj} {P:Nat→Bool} {N:Nat} (h:HpSub hp (famP b ob P N)) (hx:Nat.blt x.1 b=true):HpSub (x::hp) (famP b ob P N):=fun k o' hk=>by
 obtain ⟨k0,o0⟩:=x
 obtain ⟨o1,h1,h2⟩:=h k o' hk
 have hb:b≤k:=by
  rw [hget_famP] at hk
  by_cases h3:b≤k∧k < b+N∧P (k - b)=true
  ·exact h3.1
  ·rw [if_neg h3] at hk;cases hk
 have:k0 < b:=by simpa [Nat.blt_eq] using hx
 exact ⟨o1,by rw [hget_cons,hset_ne _ _ (by omega)];exact h1,h2⟩
theorem hd_nilU {C:Ctx} {P:Program} {Q:Exit→Act→World→Prop} {n clk:Nat} {tm0:List (Nat×TV)} {hp0:List (Nat×HObj)} {l:List Oper} {ss:List HSpec} {id:Nat} {dn:List Oper} {k:Nat} {tm tm':List (Nat×TV)} {hp:List (Nat×HObj)} (hm:P.follows .mixedOrders=true) (hc:chkR l ss tm0=true) (hu:unOnce tm=true) (ht:dropUn tm []=tm') {c':Nat} (hc':clk+k=c') (h:HQ C Q .normal ⟨n,tm',hp,c'⟩) (nd:C.rd=none∨l.all Oper.calm=true:=by first | exact .inr rfl | exact .inl rfl | exact .inl (by assumption)):HDr P n clk tm0 hp0 l dn ss [] k tm hp (HWp C P (.region id l.toArray true) ⟨n,tm0,hp0,clk⟩ Q) :=
 hd_nil hm hc hc' (fun a w ⟨E,e0,r,hG,hsz,hdf,htm⟩=>h a w ⟨E,e0,r,hG,hsz,hdf,fun t x hx=>htm t x (dropUn_sub hu t x (by rw [ht];exact hx))⟩) nd
section
variable {P:Program} {n clk:Nat} {tm0:List (Nat×TV)} {hp0:List (Nat×HObj)} {ss:List HSpec} {Fin:Prop} {o:Oper} {rest dn:List Oper} {k:Nat} {tm:List (Nat×TV)} {hp:List (Nat×HObj)} {L:List Oper} {pre post:List (Nat×HObj)} {v:HV}
theorem hd_g3 (d gi j j2:Nat) (b2 b c c2:Bool) (hop:c=b→c2=b2→HOp P o (gview (tget tm) j b) (clk+k) pre v []) (hd:o.dst=some d) (hg:o.guard=some (gi,b)) (hgi:(L.toArray[gi]?).bind (·.dst)=some j) (hc:tget tm j=some (.un j2 b2 (.imm (.bool c)))) (hc2:tget tm j2=some (.v (.imm (.bool c2)))) (hpre:∀ p∈pre,hget hp p.1=some p.2) (hlt:Nat.blt d n=true)
  {k':Nat} (hk':k+1=k') (h:HDr P n clk tm0 hp0 L (dn++[o]) (ss++[⟨.un j b v,j::j2::ops_tmps o,pre,[]⟩]) rest k' ((d,.un j b v)::tm) hp Fin):HDr P n clk tm0 hp0 L dn ss (o::rest) k tm hp Fin:=by
 subst hk';exact hd_cons ⟨.un j b v,j::j2::ops_tmps o,pre,[]⟩ d hd (hstep_guard3 gi j j2 b2 b c c2 hg hgi hc hc2 hop) hpre hlt h
end
attribute [local go_sem ↓] run_load_tok run_eql_tok run_neq_tok
attribute [local go_sem] rd_drewN rd_drew aggLoad_ptr aggRes_some
set_option maxHeartbeats 400000 in
theorem Equal_tok (A1 A2:Option Addr) (c1 c2 B1 B2:Nat) (l1 l2:List Tok) (w:World) (h1:Sl w B1 12 Tok.cells A1 l1) (h2:Sl w B2 12 Tok.cells A2 l2) (hb1:l1.length≤1000000000) (hb2:l2.length≤1000000000) :
  Calls Try.prog 55 #[.slice A1 l1.length c1,.slice A2 l2.length c2] w fun e w'=>e=.returned (.bool (decide (l1=l2)))∧∃ n,w'=w.drewN n:=by
 by_cases hl:l1.length=l2.length
 ·have hne:((l1.length:Int) != (l2.length:Int))=false:=by simp [hl]
  have HL:=Lib.hid hl;clear hl
  go_enter Try.func55,Try.ntmps55
  go_wp2
  go_loopw [5,13] (fun v i wr=>∃ k n:Nat,k≤l1.length∧i=.int .i64 k∧wr=w.drewN n∧Hid (∀ j (a:j < l1.length) (b:j < l2.length),j < k→l1[j]=l2[j])) (fun _ i _=>l1.length - (intOf i).toNat)
  case atStart=>exact ⟨0,0,Nat.zero_le _,rfl,rfl,fun j a b h=>absurd h (by omega)⟩
  case round =>
   obtain ⟨k,n,hk,rfl,rfl,HE⟩:=hrel
   by_cases hlt:k < l1.length
   ·have hlt2:k < l2.length:=by have:=HL.out;omega
    obtain ⟨b1,o1,rfl,_⟩:=h1.addr (by omega) (by omega)
    obtain ⟨b2,o2,rfl,_⟩:=h2.addr (by omega) (by omega)
    have r1:=h1.rd_ hlt
    have r2:=h2.rd_ hlt2
    by_cases he:l1[k]=l2[k]
    ·have hd:decide (l1[k]=l2[k])=true:=by simp [he]
     have HE':=Lib.hid he;clear he
     go_wp2
     go_quiet (fail)
     go_wp2
     go_roundw
     case rel =>
      refine ⟨k+1,_,by omega,by go_num,rfl,fun j a b hj=>?_⟩
      rcases Nat.lt_or_ge j k with h | h
      ·exact HE.out j a b h
      ·obtain rfl:j=k:=by omega
       exact HE'.out
     case measure=>simp [intOf];omega
    ·have hd:decide (l1[k]=l2[k])=false:=by simp [he]
     have hne2:decide (l1=l2)=false:=by
      simp only [decide_eq_false_iff_not]
      intro e;subst e;exact he rfl
     clear he
     go_wp2
     go_quiet (fail)
     go_wp2
     go_ret
     exact ⟨ret_bool hne2.symm,n+nq,by rw [World.drewN_drewN]⟩
   ·have he2:decide (l1=l2)=true:=by
     simp only [decide_eq_true_eq]
     exact List.ext_getElem HL.out fun j a b=>HE.out j a b (by omega)
    go_wp2
    go_ret
    exact ⟨ret_bool he2.symm,_,rfl⟩
 ·have hne:((l1.length:Int) != (l2.length:Int))=true:=by simp;omega
  have he2:decide (l1=l2)=false:=by
   simp only [decide_eq_false_iff_not]
   intro e;exact hl (by rw [e])
  clear hl
  go_enter Try.func55,Try.ntmps55
  go_wp2
  go_ret
  exact ⟨ret_bool he2.symm,0,rfl⟩
end Go.Proofs.Ytkcfhciffdnmmaa
namespace Go.Proofs.Ytkcfhciffdnmmaa
set_option linter.unusedSimpArgs false
set_option linter.unusedVariables false
open Go.RowKit
def runeC (x:Int):List Value:=[.int .i32 x]
def chr (x:Int):Tok:=⟨4,0,0,x,0,0,0,0,0,0,0,0⟩
set_option maxHeartbeats 400000 in
theorem Text_any (A:Option Addr) (c B:Nat) (l:List Int) (w:World) (h:Sl w B 1 runeC A l) (hB:B≤w.heap.size) (hl:l.length≤1000000) :
  Calls Try.prog 31 #[.slice A l.length c] w (GivesSl 71 12 Tok.cells w (l.map chr)):=by
 go_enter Try.func31,Try.ntmps31
 go_wp2_with (at_make;refine wpList_make_sl rfl _ _ _ rfl tokElem w.heap.size Tok.cells Tok.cells_length _ _ _ l.length rfl rfl rfl (by omega) (Nat.le_refl _) ?_;intro w1 hown1 hg1;have hb1:=(Below.refl w.heap.size w).grown hg1 (Nat.le_refl _) (by simp))
 go_loopw [3,5,11] (fun v _ i wr=>∃ k:Nat,k≤l.length∧i=.int .i64 k∧∃ A' c',v=.slice A' k c'∧Own wr w.heap.size 71 12 Tok.cells (.slice A' k c') ((l.take k).map chr)∧Below w.heap.size w wr) (fun _ _ i _=>l.length - (intOf i).toNat)
 case atStart=>exact ⟨0,Nat.zero_le _,rfl,_,_,rfl,hown1,hb1⟩
 case round =>
  obtain ⟨k,hk,rfl,A',c',rfl,hown,hb⟩:=hrel
  by_cases hlt:k < l.length
  ·obtain ⟨b,o,rfl,hbB⟩:=h.addr (by omega) (by omega)
   have r:wr.cell? ⟨b,o+k,none⟩=some (.int .i32 l[k]):=(h.below (hb.mono hB)).cell1 hlt
   have hle:((l.take k).map chr).length=k:=by simp;omega
   have HL:=Lib.hid hle;clear hle
   have hts:(l.take (k+1)).map chr=(l.take k).map chr++[chr l[k]]:=by rw [List.take_succ_eq_append_getElem hlt,List.map_append];rfl
   have HT:=Lib.hid hts;clear hts
   go_wp2_with (at_builtin;refine wpList_append_sl rfl _ _ _ rfl tokElem w.heap.size Tok.cells tok_one _ ((l.take k).map chr) k HL.out rfl (hown.alloc _) _ _ 1 _ [chr l[k]] rfl rfl (Sl.new _ _ _ Tok.cells_length _ _) (by omega) (le_alloc hb.size _) ?_;intro A2 c2 w2 hown2 hg2 hat2)
   go_roundw
   case rel=>exact ⟨k+1,by omega,by go_num,_,_,rfl,by rw [HT.out];exact hown2,(hown.alloc _).below_grown (hb.alloc hb.size _) hg2 (Nat.le_refl _) (le_alloc hb.size _)⟩
   case measure=>simp [intOf];omega
  ·have hts:l.take k=l:=List.take_of_length_le (by omega)
   obtain rfl:k=l.length:=by omega
   rw [hts] at hown
   clear hts
   go_wp2
   go_ret
   exact GivesSl.of (by simp) rfl hown hb
theorem Same_any (A1 A2:Option Addr) (c1 c2 B1 B2:Nat) (l1 l2:List Tok) (w:World) (h1:Sl w B1 12 Tok.cells A1 l1) (h2:Sl w B2 12 Tok.cells A2 l2) (hb1:l1.length≤1000000000) (hb2:l2.length≤1000000000) :
  Calls Try.prog 32 #[.slice A1 l1.length c1,.slice A2 l2.length c2] w fun e w'=>e=.returned (.bool (decide (l1=l2)))∧∃ n,w'=w.drewN n:=by
 go_enter Try.func32,Try.ntmps32
 go_wp2_with (go_at_call 55;refine (Equal_tok A1 A2 c1 c2 B1 B2 l1 l2 _ h1 h2 hb1 hb2).mono ?_;rintro e w' ⟨rfl,n,rfl⟩)
 go_ret
 exact ⟨rfl,n,rfl⟩
set_option maxHeartbeats 400000 in
theorem Clone_tok (A:Option Addr) (n c B:Nat) (l:List Tok) (w:World) (hn:l.length=n) (h:Sl w B 12 Tok.cells A l) (hB:B≤w.heap.size) (hl:n≤1000000000) :
    Calls Try.prog 33 #[.slice A n c] w (GivesSl 71 12 Tok.cells w l):=by
  have hq:=Lib.run_eql_slice_nil (P:=Try.prog) w 22 71 A n c 0 0 Try.underlying22
  cases A with
  | none =>
    have hl0:l=[]:=by
      rcases Nat.eq_zero_or_pos l.length with h0 | h0
      · exact List.eq_nil_of_length_eq_zero h0
      · obtain ⟨b,o,e,_⟩:=h.addr h0 (by omega);cases e
    subst hl0
    obtain rfl:0=n:=hn
    go_enter Try.func33,Try.ntmps33
    go_wp2
    go_ret
    exact GivesSl.of rfl rfl (Own.nil _ _ _ Tok.cells_length) (Below.refl _ _)
  | some a =>
    have HN:=Lib.hid hn;clear hn
    go_enter Try.func33,Try.ntmps33
    go_wp2_with (at_builtin;refine wpList_append_sl rfl _ _ _ rfl tokElem w.heap.size Tok.cells tok_one _ [] 0 rfl rfl (Own.empty _ _ Tok.cells_length (Nat.le_refl _)) B _ n _ l rfl HN.out (h.alloc hB _) (by omega) (le_alloc (Nat.le_refl _) _) ?_;intro A2 c2 w2 hown2 hg2 hat2)
    go_ret
    exact GivesSl.of HN.out rfl (by simpa using hown2) ((Own.empty _ _ Tok.cells_length (Nat.le_refl _)).below_grown ((Below.refl _ _).alloc (Nat.le_refl _) _) hg2 (Nat.le_refl _) (le_alloc (Nat.le_refl _) _))
attribute [local go_sem ↓] run_load_tok run_eql_tok run_neq_tok
attribute [local go_sem] rd_drewN rd_drew aggLoad_ptr aggRes_some
set_option maxHeartbeats 400000 in
theorem Same13_any (A1 A2:Option Addr) (n1 n2 c1 c2 B1 B2:Nat) (l1 l2:List Tok) (w:World) (hn1:l1.length=n1) (hn2:l2.length=n2) (h1:Sl w B1 12 Tok.cells A1 l1) (h2:Sl w B2 12 Tok.cells A2 l2) (hb1:n1≤1000000000) (hb2:n2≤1000000000) :
  Calls Try.prog 8 #[.slice A1 n1 c1,.slice A2 n2 c2] w fun e w'=>e=.returned (.bool (decide (l1=l2)))∧∃ n,w'=w.drewN n:=by
 subst hn1;subst hn2
 by_cases hl:l1.length=l2.length
 ·have hne:((l1.length:Int) != (l2.length:Int))=false:=by simp [hl]
  have HL:=Lib.hid hl;clear hl
  go_enter Try.func8,Try.ntmps8
  go_wp2
  go_loopw [5] (fun i wr=>∃ k n:Nat,k≤l1.length∧i=.int .i64 k∧wr=w.drewN n∧Hid (∀ j (a:j < l1.length) (b:j < l2.length),j < k→l1[j]=l2[j])) (fun i _=>l1.length - (intOf i).toNat)
  case atStart=>exact ⟨0,0,Nat.zero_le _,rfl,rfl,fun j a b h=>absurd h (by omega)⟩
  case round =>
   obtain ⟨k,n,hk,rfl,rfl,HE⟩:=hrel
   by_cases hlt:k < l1.length
   ·have hlt2:k < l2.length:=by have:=HL.out;omega
    obtain ⟨b1,o1,rfl,_⟩:=h1.addr (by omega) (by omega)
    obtain ⟨b2,o2,rfl,_⟩:=h2.addr (by omega) (by omega)
    have r1:=h1.rd_ hlt
    have r2:=h2.rd_ hlt2
    by_cases he:l1[k]=l2[k]
    ·have hd:decide (l1[k]=l2[k])=true:=by simp [he]
     have HE':=Lib.hid he;clear he
     go_wp2
     go_quiet (fail)
     go_wp2
     go_roundw
     case rel =>
      refine ⟨k+1,_,by omega,by go_num,rfl,fun j a b hj=>?_⟩
      rcases Nat.lt_or_ge j k with h | h
      ·exact HE.out j a b h
      ·obtain rfl:j=k:=by omega
       exact HE'.out
     case measure=>simp [intOf];omega
    ·have hd:decide (l1[k]=l2[k])=false:=by simp [he]
     have hne2:decide (l1=l2)=false:=by
      simp only [decide_eq_false_iff_not]
      intro e;subst e;exact he rfl
     clear he
     go_wp2
     go_quiet (fail)
     go_wp2
     go_ret
     exact ⟨ret_bool hne2.symm,n+nq,by rw [World.drewN_drewN]⟩
   ·have he2:decide (l1=l2)=true:=by
     simp only [decide_eq_true_eq]
     exact List.ext_getElem HL.out fun j a b=>HE.out j a b (by omega)
    go_wp2
    go_ret
    exact ⟨ret_bool he2.symm,_,rfl⟩
 ·have hne:((l1.length:Int) != (l2.length:Int))=true:=by simp;omega
  have he2:decide (l1=l2)=false:=by
   simp only [decide_eq_false_iff_not]
   intro e;exact hl (by rw [e])
  clear hl
  go_enter Try.func8,Try.ntmps8
  go_wp2
  go_ret
  exact ⟨ret_bool he2.symm,0,rfl⟩
end Go.Proofs.Ytkcfhciffdnmmaa
namespace Go.Proofs.Ytkcfhciffdnmmaa
set_option linter.unusedSimpArgs false
set_option linter.unusedVariables false
open Go.RowKit
section
attribute [local go_sem ↓] run_load_mks run_eql_mks run_neq_mks
attribute [local go_sem] rd_drewN rd_drew aggLoad_ptr aggRes_some
set_option maxHeartbeats 400000 in
theorem Sets_any (A1 A2:Option Addr) (n1 n2 c1 c2 B1 B2:Nat) (l1 l2:List Mks) (w:World) (hn1:l1.length=n1) (hn2:l2.length=n2) (h1:Sl w B1 8 Mks.cells A1 l1) (h2:Sl w B2 8 Mks.cells A2 l2) (hb1:n1≤1000000000) (hb2:n2≤1000000000) :
  Calls Try.prog 36 #[.slice A1 n1 c1,.slice A2 n2 c2] w fun e w'=>e=.returned (.bool (decide (l1=l2)))∧∃ n,w'=w.drewN n:=by
 subst hn1;subst hn2
 by_cases hl:l1.length=l2.length
 ·have hne:((l1.length:Int) != (l2.length:Int))=false:=by simp [hl]
  have HL:=Lib.hid hl;clear hl
  go_enter Try.func36,Try.ntmps36
  go_wp2
  go_loopw [5] (fun i wr=>∃ k n:Nat,k≤l1.length∧i=.int .i64 k∧wr=w.drewN n∧Hid (∀ j (a:j < l1.length) (b:j < l2.length),j < k→l1[j]=l2[j])) (fun i _=>l1.length - (intOf i).toNat)
  case atStart=>exact ⟨0,0,Nat.zero_le _,rfl,rfl,fun j a b h=>absurd h (by omega)⟩
  case round =>
   obtain ⟨k,n,hk,rfl,rfl,HE⟩:=hrel
   by_cases hlt:k < l1.length
   ·have hlt2:k < l2.length:=by have:=HL.out;omega
    obtain ⟨b1,o1,rfl,_⟩:=h1.addr (by omega) (by omega)
    obtain ⟨b2,o2,rfl,_⟩:=h2.addr (by omega) (by omega)
    have r1:=h1.rd_ hlt
    have r2:=h2.rd_ hlt2
    by_cases he:l1[k]=l2[k]
    ·have hd:decide (l1[k]=l2[k])=true:=by simp [he]
     have HE':=Lib.hid he;clear he
     go_wp2
     go_quiet (fail)
     go_wp2
     go_roundw
     case rel =>
      refine ⟨k+1,_,by omega,by go_num,rfl,fun j a b hj=>?_⟩
      rcases Nat.lt_or_ge j k with h | h
      ·exact HE.out j a b h
      ·obtain rfl:j=k:=by omega
       exact HE'.out
     case measure=>simp [intOf];omega
    ·have hd:decide (l1[k]=l2[k])=false:=by simp [he]
     have hne2:decide (l1=l2)=false:=by
      simp only [decide_eq_false_iff_not]
      intro e;subst e;exact he rfl
     clear he
     go_wp2
     go_quiet (fail)
     go_wp2
     go_ret
     exact ⟨ret_bool hne2.symm,n+nq,by rw [World.drewN_drewN]⟩
   ·have he2:decide (l1=l2)=true:=by
     simp only [decide_eq_true_eq]
     exact List.ext_getElem HL.out fun j a b=>HE.out j a b (by omega)
    go_wp2
    go_ret
    exact ⟨ret_bool he2.symm,_,rfl⟩
 ·have hne:((l1.length:Int) != (l2.length:Int))=true:=by simp;omega
  have he2:decide (l1=l2)=false:=by
   simp only [decide_eq_false_iff_not]
   intro e;exact hl (by rw [e])
  clear hl
  go_enter Try.func36,Try.ntmps36
  go_wp2
  go_ret
  exact ⟨ret_bool he2.symm,0,rfl⟩
end
theorem st_ne {x y:St} (h:¬ (x.k=y.k∧x.f=y.f∧x.t=y.t∧x.gf=y.gf∧x.gt=y.gt∧x.ins=y.ins∧x.mark=y.mark∧x.vl=y.vl∧x.sl=y.sl∧x.sets=y.sets)):decide (x=y)=false:=by
 simp only [decide_eq_false_iff_not]
 exact fun e=>h ((St.eq_iff x y).2 e)
end Go.Proofs.Ytkcfhciffdnmmaa
namespace Go.Proofs.Ytkcfhciffdnmmaa
set_option linter.unusedSimpArgs false
set_option linter.unusedVariables false
open Go.RowKit
set_option maxRecDepth 100000 in
set_option maxHeartbeats 4000000 in
theorem Same25_any (x y:Stp) (B1 B2:Nat) (w:World) (hx:x.Ok w B1) (hy:y.Ok w B2) (hB1:B1≤w.heap.size) (hB2:B2≤w.heap.size) (b1:x.n1≤1000000) (b2:y.n1≤1000000) (b3:x.n2≤1000000) (b4:y.n2≤1000000) :
  Calls Try.prog 10 #[.agg x.cells.toArray,.agg y.cells.toArray] w fun e w'=>e=.returned (.bool (decide (x.v=y.v)))∧Below w.heap.size w w':=by
 obtain ⟨⟨k,f,t,gf,gt,ins,mark,vl,sl,sets⟩,a1,n1,c1,a2,n2,c2⟩:=x
 obtain ⟨⟨k',f',t',gf',gt',ins',mark',vl',sl',sets'⟩,a1',n1',c1',a2',n2',c2'⟩:=y
 have HX:=Lib.hid hx
 have HY:=Lib.hid hy
 clear hx hy
 simp only at b1 b2 b3 b4
 simp only [Stp.cells]
 have HB0:Hid (∀ d1 d2,Below w.heap.size w ((w.alloc (.cells d1 26)).alloc (.cells d2 26))):=fun d1 d2=>((Below.refl _ w).alloc (Nat.le_refl _) _).alloc (by simp) _
 by_cases h0:k=k'
 case neg =>
  have hb:(k != k')=true:=by simpa using h0
  have hd:=st_ne (x:=⟨k,f,t,gf,gt,ins,mark,vl,sl,sets⟩) (y:=⟨k',f',t',gf',gt',ins',mark',vl',sl',sets'⟩) (fun e=>h0 e.1)
  clear h0
  go_enter Try.func10,Try.ntmps10
  go_wp2_with fail
  go_ret
  exact ⟨ret_bool hd.symm,HB0.out _ _⟩
 subst h0
 have g0:(k != k)=false:=by simp
 by_cases h1:f=f'
 case neg =>
  have hb:(f != f')=true:=by simpa using h1
  have hd:=st_ne (x:=⟨k,f,t,gf,gt,ins,mark,vl,sl,sets⟩) (y:=⟨k,f',t',gf',gt',ins',mark',vl',sl',sets'⟩) (fun e=>h1 e.2.1)
  clear h1
  go_enter Try.func10,Try.ntmps10
  go_wp2_with fail
  go_ret
  exact ⟨ret_bool hd.symm,HB0.out _ _⟩
 subst h1
 have g1:(f != f)=false:=by simp
 by_cases h2:t=t'
 case neg =>
  have hb:(t != t')=true:=by simpa using h2
  have hd:=st_ne (x:=⟨k,f,t,gf,gt,ins,mark,vl,sl,sets⟩) (y:=⟨k,f,t',gf',gt',ins',mark',vl',sl',sets'⟩) (fun e=>h2 e.2.2.1)
  clear h2
  go_enter Try.func10,Try.ntmps10
  go_wp2_with fail
  go_ret
  exact ⟨ret_bool hd.symm,HB0.out _ _⟩
 subst h2
 have g2:(t != t)=false:=by simp
 by_cases h3:gf=gf'
 case neg =>
  have hb:(gf != gf')=true:=by simpa using h3
  have hd:=st_ne (x:=⟨k,f,t,gf,gt,ins,mark,vl,sl,sets⟩) (y:=⟨k,f,t,gf',gt',ins',mark',vl',sl',sets'⟩) (fun e=>h3 e.2.2.2.1)
  clear h3
  go_enter Try.func10,Try.ntmps10
  go_wp2_with fail
  go_ret
  exact ⟨ret_bool hd.symm,HB0.out _ _⟩
 subst h3
 have g3:(gf != gf)=false:=by simp
 by_cases h4:gt=gt'
 case neg =>
  have hb:(gt != gt')=true:=by simpa using h4
  have hd:=st_ne (x:=⟨k,f,t,gf,gt,ins,mark,vl,sl,sets⟩) (y:=⟨k,f,t,gf,gt',ins',mark',vl',sl',sets'⟩) (fun e=>h4 e.2.2.2.2.1)
  clear h4
  go_enter Try.func10,Try.ntmps10
  go_wp2_with fail
  go_ret
  exact ⟨ret_bool hd.symm,HB0.out _ _⟩
 subst h4
 have g4:(gt != gt)=false:=by simp
 by_cases h5:ins=ins'
 case neg =>
  have hb:(ins != ins')=true:=by simpa using h5
  have hd:=st_ne (x:=⟨k,f,t,gf,gt,ins,mark,vl,sl,sets⟩) (y:=⟨k,f,t,gf,gt,ins',mark',vl',sl',sets'⟩) (fun e=>h5 e.2.2.2.2.2.1)
  clear h5
  go_enter Try.func10,Try.ntmps10
  go_wp2_with fail
  go_ret
  exact ⟨ret_bool hd.symm,HB0.out _ _⟩
 subst h5
 have g5:(ins != ins)=false:=by simp
 by_cases h6:mark=mark'
 case neg =>
  have hb:(mark != mark')=true:=by simpa using h6
  have hd:=st_ne (x:=⟨k,f,t,gf,gt,ins,mark,vl,sl,sets⟩) (y:=⟨k,f,t,gf,gt,ins,mark',vl',sl',sets'⟩) (fun e=>h6 e.2.2.2.2.2.2.1)
  clear h6
  go_enter Try.func10,Try.ntmps10
  go_wp2_with fail
  go_ret
  exact ⟨ret_bool hd.symm,HB0.out _ _⟩
 subst h6
 have g6:(mark != mark)=false:=by simp
 by_cases h7:vl=vl'
 case neg =>
  have hb:(vl != vl')=true:=by simpa using h7
  have hd:=st_ne (x:=⟨k,f,t,gf,gt,ins,mark,vl,sl,sets⟩) (y:=⟨k,f,t,gf,gt,ins,mark,vl',sl',sets'⟩) (fun e=>h7 e.2.2.2.2.2.2.2.1)
  clear h7
  go_enter Try.func10,Try.ntmps10
  go_wp2_with fail
  go_ret
  exact ⟨ret_bool hd.symm,HB0.out _ _⟩
 subst h7
 have g7:(vl != vl)=false:=by simp
 have HT:=Lib.hid (fun w' (hb:Below w.heap.size w w')=>Same13_any a1 a1' n1 n1' c1 c1' B1 B2 sl sl' w' HX.out.1 HY.out.1 (HX.out.2.2.1.below (hb.mono hB1)) (HY.out.2.2.1.below (hb.mono hB2)) (by omega) (by omega))
 have HS:=Lib.hid (fun w' (hb:Below w.heap.size w w')=>Sets_any a2 a2' n2 n2' c2 c2' B1 B2 sets sets' w' HX.out.2.1 HY.out.2.1 (HX.out.2.2.2.1.below (hb.mono hB1)) (HY.out.2.2.2.1.below (hb.mono hB2)) (by omega) (by omega))
 by_cases hl:sl=sl'
 case neg =>
  have hd:decide (sl=sl')=false:=by simpa using hl
  have hr:decide ((⟨k,f,t,gf,gt,ins,mark,vl,sl,sets⟩:St)=⟨k,f,t,gf,gt,ins,mark,vl,sl',sets'⟩)=false:=st_ne (fun e=>hl e.2.2.2.2.2.2.2.2.1)
  clear hl
  go_enter Try.func10,Try.ntmps10
  go_wp2_with (go_at_call 8;refine (HT.out _ (HB0.out _ _)).mono ?_;rintro e w1 ⟨rfl,q,hq⟩)
  go_ret
  exact ⟨ret_bool hr.symm,by subst hq;exact below_drewN (HB0.out _ _) _⟩
 have hd:decide (sl=sl')=true:=by simpa using hl
 have hr:decide ((⟨k,f,t,gf,gt,ins,mark,vl,sl,sets⟩:St)=⟨k,f,t,gf,gt,ins,mark,vl,sl',sets'⟩)=decide (sets=sets'):=by
  subst hl
  exact decide_eq_decide.2 ⟨fun e=>by injection e,fun e=>by subst e;rfl⟩
 clear hl
 go_enter Try.func10,Try.ntmps10
 go_wp2_with (first
  | (go_at_call 8;refine (HT.out _ (HB0.out _ _)).mono ?_;rintro e w1 ⟨rfl,q,rfl⟩)
  | (go_at_call 36;refine (HS.out _ (below_drewN (HB0.out _ _) _)).mono ?_;rintro e w2 ⟨rfl,q2,rfl⟩)
  | fail)
 go_ret
 exact ⟨ret_bool hr.symm,by first | exact below_drewN (HB0.out _ _) _ | exact below_drewN (below_drewN (HB0.out _ _) _) _⟩
end Go.Proofs.Ytkcfhciffdnmmaa
namespace Go.Proofs.Ytkcfhciffdnmmaa
set_option linter.unusedSimpArgs false
set_option linter.unusedVariables false
section
variable (s:Nat→Nat→Bool)
def lcs:Nat→Nat→Nat
 | 0,_=>0
 | _+1,0=>0
 | i+1,k+1=>if s i k=true then max (max (lcs i (k+1)) (lcs (i+1) k)) (lcs i k+1) else max (lcs i (k+1)) (lcs (i+1) k)
termination_by i k=>i+k
theorem lcs_0 (k:Nat):lcs s 0 k=0:=by unfold lcs;rfl
theorem lcs_0r (i:Nat):lcs s i 0=0:=by cases i <;> (unfold lcs;rfl)
theorem lcs_l (i k:Nat):lcs s i k≤lcs s (i+1) k:=by
 cases k with
 | zero=>rw [lcs_0r];omega
 | succ k=>rw [lcs.eq_3];split <;> omega
theorem lcs_r (i k:Nat):lcs s i k≤lcs s i (k+1):=by
 cases i with
 | zero=>rw [lcs_0];omega
 | succ i=>rw [lcs.eq_3];split <;> omega
theorem lcs_l1 (i:Nat):∀ k,lcs s (i+1) k≤lcs s i k+1
  | 0=>by rw [lcs_0r];omega
  | k + 1 => by
    have h:=lcs_l1 i k
    have h2:=lcs_r s i k
    rw [lcs.eq_3];split <;> omega
theorem lcs_r1 (k:Nat):∀ i,lcs s i (k+1)≤lcs s i k+1
  | 0=>by rw [lcs_0];omega
  | i + 1 => by
    have h:=lcs_r1 k i
    have h2:=lcs_l s i k
    rw [lcs.eq_3];split <;> omega
theorem lcs_yes {i k:Nat} (h:s i k=true):lcs s (i+1) (k+1)=lcs s i k+1:=by
 have h1:=lcs_l1 s i k
 have h2:=lcs_r1 s k i
 rw [lcs.eq_3,if_pos h];omega
theorem lcs_no {i k:Nat} (h:¬ s i k=true):lcs s (i+1) (k+1)=max (lcs s i (k+1)) (lcs s (i+1) k):=by
 rw [lcs.eq_3,if_neg h]
theorem lcs_le:∀ i k,lcs s i k≤i∧lcs s i k≤k
  | 0,k=>by rw [lcs_0];omega
  | i+1,0=>by rw [lcs_0r];omega
  | i + 1, k + 1 => by
    have h1:=lcs_le i k
    have h2:=lcs_l1 s i k
    have h3:=lcs_r1 s k i
    rw [lcs.eq_3];split <;> omega
theorem far_ge (V:Nat→Int→Int) (h0:0≤V 0 0)
    (h1:∀ (d:Nat) (k:Int),-(d:Int)≤k - 1→k - 1≤d→(k - 1+d) % 2=0→V d (k - 1)+1≤V (d+1) k)
    (h2:∀ (d:Nat) (k:Int),-(d:Int)≤k+1→k+1≤d→(k+1+d) % 2=0→V d (k+1)≤V (d+1) k)
    (h3:∀ (d x y:Nat),-(d:Int)≤(x:Int) - y→(x:Int) - y≤d→((x:Int) - y+d) % 2=0→V d ((x:Int) - y)=x→¬ s x y=true) :
    ∀ (n x y:Nat),x+y≤n→∀ d:Nat,x+y≤d+2 * lcs s x y→(x+y+d) % 2=0→(x:Int)≤V d ((x:Int) - y)
  | n, 0, 0, hn, d, hd, hp => by
    have key:∀ e:Nat,0≤V (2 * e) 0:=by
      intro e
      induction e with
      | zero=>exact h0
      | succ e ih =>
        have a1:=h1 (2 * e) 1 (by omega) (by omega) (by omega)
        have a2:=h2 (2 * e+1) 0 (by omega) (by omega) (by omega)
        rw [show 2 * (e+1)=2 * e+1+1 by omega]
        rw [show (1:Int) - 1=0 by omega] at a1
        rw [show (0:Int)+1=1 by omega] at a2
        omega
    obtain ⟨e,rfl⟩:∃ e,d=2 * e:=⟨d / 2,by omega⟩
    have:=key e
    simpa using this
  | 0,x+1,y,hn,d,hd,hp=>by omega
  | 0,0,y+1,hn,d,hd,hp=>by omega
  | n + 1, x + 1, 0, hn, d, hd, hp => by
    rw [lcs_0r] at hd
    obtain ⟨d,rfl⟩:∃ e,d=e+1:=⟨d - 1,by omega⟩
    have ih:=far_ge V h0 h1 h2 h3 n x 0 (by omega) d (by rw [lcs_0r];omega) (by omega)
    have a:=h1 d (((x+1:Nat):Int) - (0:Nat)) (by omega) (by omega) (by omega)
    rw [show ((x+1:Nat):Int) - (0:Nat) - 1=(x:Int) - (0:Nat) by omega] at a
    omega
  | n + 1, 0, y + 1, hn, d, hd, hp => by
    rw [lcs_0] at hd
    obtain ⟨d,rfl⟩:∃ e,d=e+1:=⟨d - 1,by omega⟩
    have ih:=far_ge V h0 h1 h2 h3 n 0 y (by omega) d (by rw [lcs_0];omega) (by omega)
    have a:=h2 d (((0:Nat):Int) - (y+1:Nat)) (by omega) (by omega) (by omega)
    rw [show ((0:Nat):Int) - (y+1:Nat)+1=((0:Nat):Int) - y by omega] at a
    omega
  | n + 1, x + 1, y + 1, hn, d, hd, hp => by
    have l1:=lcs_le s (x+1) (y+1)
    by_cases hs:s x y=true
    · rw [lcs_yes s hs] at hd
      have ih:=far_ge V h0 h1 h2 h3 n x y (by omega) d (by omega) (by omega)
      have l2:=lcs_le s x y
      rw [show ((x+1:Nat):Int) - (y+1:Nat)=(x:Int) - y by omega]
      refine Classical.byContradiction fun hc=>?_
      exact h3 d x y (by omega) (by omega) (by omega) (by omega) hs
    · have l2:=lcs_le s x (y+1)
      have l3:=lcs_le s (x+1) y
      rw [lcs_no s hs] at hd
      obtain ⟨d,rfl⟩:∃ e,d=e+1:=⟨d - 1,by omega⟩
      by_cases hm:lcs s (x+1) y≤lcs s x (y+1)
      · have ih:=far_ge V h0 h1 h2 h3 n x (y+1) (by omega) d (by omega) (by omega)
        have a:=h1 d (((x+1:Nat):Int) - (y+1:Nat)) (by omega) (by omega) (by omega)
        rw [show ((x+1:Nat):Int) - (y+1:Nat) - 1=(x:Int) - (y+1:Nat) by omega] at a
        omega
      · have ih:=far_ge V h0 h1 h2 h3 n (x+1) y (by omega) d (by omega) (by omega)
        have a:=h2 d (((x+1:Nat):Int) - (y+1:Nat)) (by omega) (by omega) (by omega)
        rw [show ((x+1:Nat):Int) - (y+1:Nat)+1=((x+1:Nat):Int) - y by omega] at a
        omega
inductive Pth:Nat→Nat→Nat→Nat→Prop
 | nil:Pth 0 0 0 0
 | right {d g x y:Nat}:Pth d g x y→Pth (d+1) g (x+1) y
 | down {d g x y:Nat}:Pth d g x y→Pth (d+1) g x (y+1)
 | keep {d g x y:Nat}:Pth d g x y→s x y=true→Pth d (g+1) (x+1) (y+1)
theorem Pth.sum {d g x y:Nat} (h:Pth s d g x y):x+y=d+2 * g:=by
 induction h with
 | nil=>rfl
 | right _ ih=>omega
 | down _ ih=>omega
 | keep _ _ ih=>omega
theorem lcs_mono_l (k:Nat) {i j:Nat} (h:i≤j):lcs s i k≤lcs s j k:=by
 induction h with
 | refl=>exact Nat.le_refl _
 | step _ ih=>exact Nat.le_trans ih (lcs_l s _ k)
theorem lcs_mono_r (i:Nat) {k j:Nat} (h:k≤j):lcs s i k≤lcs s i j:=by
 induction h with
 | refl=>exact Nat.le_refl _
 | step _ ih=>exact Nat.le_trans ih (lcs_r s i _)
theorem Pth.le {N M:Nat} (hs:∀ i k,s i k=true→i < N∧k < M) {d g x y:Nat} (h:Pth s d g x y):g≤lcs s (min x N) (min y M):=by
  induction h with
  | nil=>exact Nat.zero_le _
  | right _ ih=>exact Nat.le_trans ih (lcs_mono_l s _ (by omega))
  | down _ ih=>exact Nat.le_trans ih (lcs_mono_r s _ (by omega))
  | @keep d g x y _ hk ih =>
    obtain ⟨h1,h2⟩:=hs _ _ hk
    rw [Nat.min_eq_left (by omega),Nat.min_eq_left (by omega)] at ih ⊢
    rw [lcs_yes s hk];omega
theorem Pth.fewest {N M:Nat} (hs:∀ i k,s i k=true→i < N∧k < M) {d g x y:Nat} (h:Pth s d g x y) (hx:N≤x) (hy:M≤y) (hd:d+2 * lcs s N M≤N+M):x=N∧y=M∧g=lcs s N M:=by
 have h1:=h.sum
 have h2:=h.le s hs
 rw [Nat.min_eq_right hx,Nat.min_eq_right hy] at h2
 omega
end
section
variable (s:Nat→Nat→Bool) (N M:Nat)
def slid:Nat→Nat→Nat→Nat
 | 0,x,_=>x
 | n+1,x,y=>if s x y=true then slid n (x+1) (y+1) else x
def sld (x y:Nat):Nat:=slid s (N - x) x y
theorem slid_ge:∀ n x y,x≤slid s n x y
  | 0,x,y=>Nat.le_refl _
  | n + 1, x, y => by
    unfold slid;split
    · have:=slid_ge n (x+1) (y+1);omega
    · exact Nat.le_refl _
theorem slid_all:∀ n x y i,x≤i→i < slid s n x y→s i (y+(i - x))=true
  | 0,x,y,i,h1,h2=>by unfold slid at h2;omega
  | n + 1, x, y, i, h1, h2 => by
    unfold slid at h2;split at h2
    · rename_i h
      by_cases e:i=x
      · subst e;simpa using h
      · have:=slid_all n (x+1) (y+1) i (by omega) h2
        rw [show y+1+(i - (x+1))=y+(i - x) by omega] at this
        exact this
    · omega
theorem slid_stop (hs:∀ i k,s i k=true→i < N∧k < M):∀ n x y,N≤n+x→¬ s (slid s n x y) (y+(slid s n x y - x))=true
  | 0, x, y, h => by
    unfold slid;intro h';have:=hs _ _ h';omega
  | n + 1, x, y, h => by
    unfold slid;split
    · have:=slid_stop hs n (x+1) (y+1) (by omega)
      have hge:=slid_ge s n (x+1) (y+1)
      rw [show y+1+(slid s n (x+1) (y+1) - (x+1))=y+(slid s n (x+1) (y+1) - x) by omega] at this
      exact this
    · rename_i h';rw [Nat.sub_self,Nat.add_zero];exact h'
theorem sld_yes (hs:∀ i k,s i k=true→i < N∧k < M) {x y:Nat} (h:s x y=true):sld s N x y=sld s N (x+1) (y+1):=by
 have:=(hs _ _ h).1
 unfold sld
 rw [show N - x=(N - (x+1))+1 by omega,slid,if_pos h]
theorem sld_no {x y:Nat} (h:¬ s x y=true):sld s N x y=x:=by
 unfold sld
 cases N - x with
 | zero=>rfl
 | succ n=>rw [slid,if_neg h]
theorem slid_pth {d:Nat}:∀ n g x y,Pth s d g x y→∃ g',Pth s d g' (slid s n x y) (y+(slid s n x y - x))
  | 0,g,x,y,h=>⟨g,by unfold slid;rw [Nat.sub_self];exact h⟩
  | n + 1, g, x, y, h => by
    unfold slid;split
    · rename_i hs
      obtain ⟨g',h'⟩:=slid_pth n (g+1) (x+1) (y+1) (h.keep hs)
      have hge:=slid_ge s n (x+1) (y+1)
      rw [show y+1+(slid s n (x+1) (y+1) - (x+1))=y+(slid s n (x+1) (y+1) - x) by omega] at h'
      exact ⟨g',h'⟩
    · exact ⟨g,by rw [Nat.sub_self];exact h⟩
def bst (f:Int→Nat) (d:Nat) (k:Int):Nat×Bool:=if k=-(d:Int)∨(k≠d∧f (k - 1) < f (k+1)) then (f (k+1),true) else (f (k - 1)+1,false)
def far:Nat→Int→Nat
 | 0,k=>sld s N 0 (0 - k).toNat
 | d+1,k=>sld s N (bst (far d) (d+1) k).1 ((bst (far d) (d+1) k).1 - k).toNat
def onD (d:Nat) (k:Int):Prop:=-(d:Int)≤k∧k≤d∧(k+d) % 2=0
theorem bst_down {f:Int→Nat} {d:Nat} {k:Int} (h:(bst f d k).2=true):bst f d k=(f (k+1),true):=by
 unfold bst at h ⊢;split
 ·rfl
 ·rename_i h';rw [if_neg h'] at h;cases h
theorem bst_right {f:Int→Nat} {d:Nat} {k:Int} (h:(bst f d k).2=false):bst f d k=(f (k - 1)+1,false):=by
 unfold bst at h ⊢;split
 ·rename_i h';rw [if_pos h'] at h;cases h
 ·rfl
theorem bst_down_on {f:Int→Nat} {d:Nat} {k:Int} (hk:onD (d+1) k) (h:(bst f (d+1) k).2=true):onD d (k+1):=by
 obtain ⟨h1,h2,h3⟩:=hk
 unfold bst at h;split at h
 ·rename_i h';unfold onD;rcases h' with h' | h' <;> omega
 ·cases h
theorem bst_right_on {f:Int→Nat} {d:Nat} {k:Int} (hk:onD (d+1) k) (h:(bst f (d+1) k).2=false):onD d (k - 1):=by
 obtain ⟨h1,h2,h3⟩:=hk
 unfold bst at h;split at h
 ·cases h
 ·rename_i h';unfold onD;simp only [not_or] at h';omega
theorem far_pth:∀ d k,onD d k→k≤far s N d k∧∃ g,Pth s d g (far s N d k) ((far s N d k:Int) - k).toNat
  | 0, k, hk => by
    obtain ⟨h1,h2,h3⟩:=hk
    obtain rfl:k=0:=by omega
    obtain ⟨g,h⟩:=slid_pth s (d:=0) (N - 0) 0 0 0 .nil
    refine ⟨by omega,g,?_⟩
    show Pth s 0 g (sld s N 0 0) ((sld s N 0 0:Int) - 0).toNat
    rw [show ((sld s N 0 0:Int) - 0).toNat=0+(slid s (N - 0) 0 0 - 0) by unfold sld;omega]
    exact h
  | d + 1, k, hk => by
    have key:∀ b:Nat,k≤b→(∃ g,Pth s (d+1) g b ((b:Int) - k).toNat)→k≤sld s N b ((b:Int) - k).toNat∧∃ g,Pth s (d+1) g (sld s N b ((b:Int) - k).toNat) ((sld s N b ((b:Int) - k).toNat:Int) - k).toNat:=by
      intro b hb ⟨g,h⟩
      obtain ⟨g',h'⟩:=slid_pth s (N - b) g b _ h
      have hge:b≤sld s N b ((b:Int) - k).toNat:=slid_ge s (N - b) b _
      refine ⟨by omega,g',?_⟩
      rw [show ((sld s N b ((b:Int) - k).toNat:Int) - k).toNat=((b:Int) - k).toNat+(sld s N b ((b:Int) - k).toNat - b) by omega]
      exact h'
    show k≤(sld s N (bst (far s N d) (d+1) k).1 _:Nat)∧_
    cases hb:(bst (far s N d) (d+1) k).2 with
    | true =>
      obtain ⟨h1,g,h2⟩:=far_pth d (k+1) (bst_down_on hk hb)
      have e:=bst_down hb
      refine key _ (by rw [e];show k≤(far s N d (k+1):Nat);omega) ⟨g,?_⟩
      rw [e]
      show Pth s (d+1) g (far s N d (k+1)) ((far s N d (k+1):Int) - k).toNat
      rw [show ((far s N d (k+1):Int) - k).toNat=((far s N d (k+1):Int) - (k+1)).toNat+1 by omega]
      exact h2.down
    | false =>
      obtain ⟨h1,g,h2⟩:=far_pth d (k - 1) (bst_right_on hk hb)
      have e:=bst_right hb
      refine key _ (by rw [e];show k≤((far s N d (k - 1)+1:Nat):Int);omega) ⟨g,?_⟩
      rw [e]
      show Pth s (d+1) g (far s N d (k - 1)+1) (((far s N d (k - 1)+1:Nat):Int) - k).toNat
      rw [show (((far s N d (k - 1)+1:Nat):Int) - k).toNat=((far s N d (k - 1):Int) - (k - 1)).toNat by omega]
      exact h2.right
def fewest:Nat:=N+M - 2 * lcs s N M
theorem fewest_le:fewest s N M≤N+M:=by unfold fewest;omega
theorem fewest_add:fewest s N M+2 * lcs s N M=N+M:=by
 have:=lcs_le s N M
 unfold fewest;omega
def hit (d:Nat) (k:Int):Prop:=N≤far s N d k∧(M:Int)≤(far s N d k:Int) - k
theorem hit_only (hs:∀ i k,s i k=true→i < N∧k < M) {d:Nat} {k:Int} (hd:d≤fewest s N M) (hk:onD d k) (h:hit s N M d k):d=fewest s N M∧far s N d k=N∧k=(N:Int) - M:=by
 obtain ⟨h1,g,hp⟩:=far_pth s N d k hk
 have hf:=fewest_add s N M
 obtain ⟨e1,e2,e3⟩:=hp.fewest s hs h.1 (by have:=h.2;omega) (by omega)
 have hsum:=hp.sum
 have h2:=h.2
 rw [e1] at h2 e2
 omega
theorem hit_last (hs:∀ i k,s i k=true→i < N∧k < M):onD (fewest s N M) ((N:Int) - M)∧hit s N M (fewest s N M) ((N:Int) - M):=by
  have hf:=fewest_add s N M
  have hl:=lcs_le s N M
  have hon:onD (fewest s N M) ((N:Int) - M):=⟨by omega,by omega,by omega⟩
  refine ⟨hon,?_⟩
  have:=far_ge s (fun d k=>(far s N d k:Int)) (by show (0:Int)≤(far s N 0 0:Nat);omega) (fun d k h1 h2 h3=>?_) (fun d k h1 h2 h3=>?_) (fun d x y h1 h2 h3 h4=>?_) (N+M) N M (Nat.le_refl _) (fewest s N M) (by omega) (by omega)
  · refine ⟨by omega,by omega⟩
  · have hge:(bst (far s N d) (d+1) k).1≤far s N (d+1) k:=slid_ge s _ _ _
    unfold bst at hge
    split at hge
    · rename_i h'
      simp only at hge
      rcases h' with h' | h'
      · omega
      · show ((far s N d (k - 1):Nat):Int)+1≤(far s N (d+1) k:Nat);omega
    · simp only at hge;show ((far s N d (k - 1):Nat):Int)+1≤(far s N (d+1) k:Nat);omega
  · have hge:(bst (far s N d) (d+1) k).1≤far s N (d+1) k:=slid_ge s _ _ _
    unfold bst at hge
    split at hge
    · simp only at hge;show ((far s N d (k+1):Nat):Int)≤(far s N (d+1) k:Nat);omega
    · rename_i h'
      simp only [not_or,not_and,Nat.not_lt] at h'
      simp only at hge
      have:=h'.2 (by omega)
      show ((far s N d (k+1):Nat):Int)≤(far s N (d+1) k:Nat);omega
  · have h4:far s N d ((x:Int) - y)=x:=by exact_mod_cast h4
    cases d with
    | zero =>
      have e:(x:Int) - y=0:=by omega
      rw [e] at h4
      have st:¬ s (sld s N 0 0) (0+(sld s N 0 0 - 0))=true:=slid_stop s N M hs (N - 0) 0 0 (by omega)
      have h5:sld s N 0 0=x:=h4
      rw [h5] at st
      rwa [show 0+(x - 0)=y by omega] at st
    | succ d =>
      have hge:(bst (far s N d) (d+1) ((x:Int) - y)).1≤far s N (d+1) ((x:Int) - y):=slid_ge s _ _ _
      have st:=slid_stop s N M hs (N - (bst (far s N d) (d+1) ((x:Int) - y)).1) (bst (far s N d) (d+1) ((x:Int) - y)).1 (((bst (far s N d) (d+1) ((x:Int) - y)).1:Int) - ((x:Int) - y)).toNat (by omega)
      have h5:slid s (N - (bst (far s N d) (d+1) ((x:Int) - y)).1) (bst (far s N d) (d+1) ((x:Int) - y)).1 (((bst (far s N d) (d+1) ((x:Int) - y)).1:Int) - ((x:Int) - y)).toNat=x:=h4
      rw [h5] at st
      rw [h4] at hge
      have hk:((x:Int) - y)≤(bst (far s N d) (d+1) ((x:Int) - y)).1:=by
        cases hb:(bst (far s N d) (d+1) ((x:Int) - y)).2 with
        | true =>
          have:=(far_pth s N d _ (bst_down_on ⟨by omega,by omega,by omega⟩ hb)).1
          rw [bst_down hb];show _≤((far s N d _:Nat):Int);omega
        | false =>
          have:=(far_pth s N d _ (bst_right_on ⟨by omega,by omega,by omega⟩ hb)).1
          rw [bst_right hb];show _≤((far s N d _+1:Nat):Int);omega
      rwa [show (((bst (far s N d) (d+1) ((x:Int) - y)).1:Int) - ((x:Int) - y)).toNat+(x - (bst (far s N d) (d+1) ((x:Int) - y)).1)=y by omega] at st
def dn (b:Nat) (k:Int):Nat→List (Nat×Nat)
 | 0=>[]
 | n+1=>(b+n,((b+n:Nat) - k:Int).toNat)::dn b k n
theorem dn_len (b:Nat) (k:Int):∀ n,(dn b k n).length=n
 | 0=>rfl
 | n+1=>by show (dn b k n).length+1=_;rw [dn_len]
def kps:Nat→Int→List (Nat×Nat)
 | 0,k=>dn 0 k (far s N 0 k)
 | d+1,k=>dn (bst (far s N d) (d+1) k).1 k (far s N (d+1) k - (bst (far s N d) (d+1) k).1)++kps d (if (bst (far s N d) (d+1) k).2=true then k+1 else k - 1)
theorem kps_len:∀ d k,onD d k→2 * ((kps s N d k).length:Int)+d=2 * (far s N d k:Int) - k
  | 0, k, hk => by
    obtain ⟨h1,h2,h3⟩:=hk
    show 2 * ((dn 0 k (far s N 0 k)).length:Int)+_=_
    rw [dn_len];omega
  | d + 1, k, hk => by
    have hge:(bst (far s N d) (d+1) k).1≤far s N (d+1) k:=slid_ge s _ _ _
    show 2 * ((dn (bst (far s N d) (d+1) k).1 k (far s N (d+1) k - (bst (far s N d) (d+1) k).1)++kps s N d (if (bst (far s N d) (d+1) k).2=true then k+1 else k - 1)).length:Int)+_=_
    rw [List.length_append,dn_len]
    cases hb:(bst (far s N d) (d+1) k).2 with
    | true =>
      rw [if_pos rfl]
      have ih:=kps_len d (k+1) (bst_down_on hk hb)
      rw [bst_down hb] at hge ⊢
      simp only at hge ⊢
      omega
    | false =>
      rw [if_neg (by decide)]
      have ih:=kps_len d (k - 1) (bst_right_on hk hb)
      rw [bst_right hb] at hge ⊢
      simp only at hge ⊢
      omega
def Falls (x y:Int):List (Nat×Nat)→Prop
 | []=>True
 | p::l=>(p.1:Int) < x∧(p.2:Int) < y∧s p.1 p.2=true∧Falls p.1 p.2 l
theorem Falls.mono {x y x' y':Int} (h1:x≤x') (h2:y≤y'):∀ {l:List (Nat×Nat)},Falls s x y l→Falls s x' y' l
 | [],_=>trivial
 | p::l,h=>⟨by have:=h.1;omega,by have:=h.2.1;omega,h.2.2⟩
theorem dn_falls (b:Nat) (k:Int) (hb:k≤b) (l:List (Nat×Nat)) (hl:Falls s b (b - k) l):∀ n,(∀ i,i < n→s (b+i) (((b:Int) - k).toNat+i)=true)→Falls s ((b+n:Nat):Int) (((b+n:Nat):Int) - k) (dn b k n++l)
  | 0,_=>hl
  | n + 1, h => by
    have ih:=dn_falls b k hb l hl n (fun i hi=>h i (by omega))
    refine ⟨by show ((b+n:Nat):Int) < ((b+(n+1):Nat):Int);omega,by show (((((b+n:Nat):Int) - k).toNat:Nat):Int) < ((b+(n+1):Nat):Int) - k;omega,?_,?_⟩
    · show s (b+n) (((b+n:Nat):Int) - k).toNat=true
      have:=h n (by omega)
      rwa [show (((b+n:Nat):Int) - k).toNat=((b:Int) - k).toNat+n by omega]
    · show Falls s ((b+n:Nat):Int) ((((((b+n:Nat):Int) - k).toNat:Nat)):Int) (dn b k n++l)
      exact ih.mono s (by omega) (by omega)
theorem kps_falls:∀ d k,onD d k→Falls s (far s N d k) ((far s N d k:Int) - k) (kps s N d k)
  | 0, k, hk => by
    obtain ⟨h1,h2,h3⟩:=hk
    obtain rfl:k=0:=by omega
    have:=dn_falls s 0 0 (by omega) [] trivial (far s N 0 0) (fun i hi=>by
      have:=slid_all s (N - 0) 0 0 i (Nat.zero_le _) hi
      simpa using this)
    rw [List.append_nil,Nat.zero_add] at this
    exact this
  | d + 1, k, hk => by
    have hge:(bst (far s N d) (d+1) k).1≤far s N (d+1) k:=slid_ge s _ _ _
    have hall:∀ i,i < far s N (d+1) k - (bst (far s N d) (d+1) k).1→s ((bst (far s N d) (d+1) k).1+i) ((((bst (far s N d) (d+1) k).1:Int) - k).toNat+i)=true:=fun i hi=>by
      have:=slid_all s (N - (bst (far s N d) (d+1) k).1) (bst (far s N d) (d+1) k).1 (((bst (far s N d) (d+1) k).1:Int) - k).toNat ((bst (far s N d) (d+1) k).1+i) (by omega) (by
        show _ < far s N (d+1) k;omega)
      rwa [show (bst (far s N d) (d+1) k).1+i - (bst (far s N d) (d+1) k).1=i by omega] at this
    have key:k≤(bst (far s N d) (d+1) k).1∧Falls s ((bst (far s N d) (d+1) k).1:Int) (((bst (far s N d) (d+1) k).1:Int) - k) (kps s N d (if (bst (far s N d) (d+1) k).2=true then k+1 else k - 1)):=by
      cases hb:(bst (far s N d) (d+1) k).2 with
      | true =>
        rw [if_pos rfl,bst_down hb]
        have h1:=(far_pth s N d _ (bst_down_on hk hb)).1
        have ih:=kps_falls d (k+1) (bst_down_on hk hb)
        exact ⟨by show k≤((far s N d (k+1):Nat):Int);omega,ih.mono s (by show ((far s N d (k+1):Nat):Int)≤_;exact Int.le_refl _) (by show ((far s N d (k+1):Nat):Int) - (k+1)≤((far s N d (k+1):Nat):Int) - k;omega)⟩
      | false =>
        rw [if_neg (by decide),bst_right hb]
        have h1:=(far_pth s N d _ (bst_right_on hk hb)).1
        have ih:=kps_falls d (k - 1) (bst_right_on hk hb)
        exact ⟨by show k≤((far s N d (k - 1)+1:Nat):Int);omega,ih.mono s (by show ((far s N d (k - 1):Nat):Int)≤((far s N d (k - 1)+1:Nat):Int);omega) (by show ((far s N d (k - 1):Nat):Int) - (k - 1)≤((far s N d (k - 1)+1:Nat):Int) - k;omega)⟩
    have:=dn_falls s (bst (far s N d) (d+1) k).1 k key.1 _ key.2 (far s N (d+1) k - (bst (far s N d) (d+1) k).1) hall
    rw [show (bst (far s N d) (d+1) k).1+(far s N (d+1) k - (bst (far s N d) (d+1) k).1)=far s N (d+1) k by omega] at this
    exact this
def keepV:List (Nat×Nat):=(kps s N (fewest s N M) ((N:Int) - M)).reverse
def Rises:Nat→Nat→List (Nat×Nat)→Prop
 | _,_,[]=>True
 | x,y,p::l=>x≤p.1∧y≤p.2∧s p.1 p.2=true∧Rises (p.1+1) (p.2+1) l
theorem Falls.rises {l:List (Nat×Nat)}:∀ {x y:Nat} {r:List (Nat×Nat)},Falls s x y l→Rises s x y r→Rises s 0 0 (l.reverse++r):=by
  induction l with
  | nil =>
    intro x y r _ hr
    cases r with
    | nil=>trivial
    | cons p r=>exact ⟨Nat.zero_le _,Nat.zero_le _,hr.2.2⟩
  | cons p l ih =>
    intro x y r h hr
    rw [List.reverse_cons,List.append_assoc]
    refine ih (x:=p.1) (y:=p.2) h.2.2.2 ⟨Nat.le_refl _,Nat.le_refl _,h.2.2.1,?_⟩
    have h1:=h.1
    have h2:=h.2.1
    cases r with
    | nil=>trivial
    | cons q r=>exact ⟨by have:=hr.1;omega,by have:=hr.2.1;omega,hr.2.2⟩
theorem keepV_rises (hs:∀ i k,s i k=true→i < N∧k < M):Rises s 0 0 (keepV s N M):=by
 obtain ⟨hon,hh⟩:=hit_last s N M hs
 have e:=(hit_only s N M hs (Nat.le_refl _) hon hh).2.1
 have:=kps_falls s N _ _ hon
 rw [e,show (N:Int) - ((N:Int) - M)=(M:Nat) by omega] at this
 have:=this.rises s (r:=[]) trivial
 rwa [List.append_nil] at this
theorem keepV_len (hs:∀ i k,s i k=true→i < N∧k < M):(keepV s N M).length=lcs s N M:=by
 obtain ⟨hon,hh⟩:=hit_last s N M hs
 have e:=(hit_only s N M hs (Nat.le_refl _) hon hh).2.1
 have:=kps_len s N _ _ hon
 rw [e] at this
 have hf:=fewest_add s N M
 unfold keepV
 rw [List.length_reverse]
 omega
theorem slid_le:∀ n x y,slid s n x y≤x+n
  | 0,x,y=>Nat.le_refl _
  | n + 1, x, y => by
    unfold slid;split
    · have:=slid_le n (x+1) (y+1);omega
    · omega
theorem sld_le (x y:Nat):sld s N x y≤max x N:=by
 have:=slid_le s (N - x) x y
 unfold sld;omega
theorem far_le:∀ d k,far s N d k≤N+d
  | 0,k=>by have:=sld_le s N 0 (0 - k).toNat;show sld s N 0 _≤_;omega
  | d + 1, k => by
    have h1:=far_le d (k - 1)
    have h2:=far_le d (k+1)
    have hb:(bst (far s N d) (d+1) k).1≤N+d+1:=by
      unfold bst;split
      · show far s N d (k+1)≤_;omega
      · show far s N d (k - 1)+1≤_;omega
    have:=sld_le s N (bst (far s N d) (d+1) k).1 ((bst (far s N d) (d+1) k).1 - k).toNat
    show sld s N _ _≤_;omega
def rowAt (d:Nat) (kk:Int) (j:Nat):Nat:=if -(d:Int)≤(j:Int) - d - 1∧(j:Int) - d - 1 < kk∧((j:Int) - d - 1+d) % 2=0 then far s N d ((j:Int) - d - 1) else 0
@[reducible] def full (d:Nat):Nat→Nat:=rowAt s N d ((d:Int)+2)
theorem rowAt_le (d:Nat) (kk:Int) (j:Nat):rowAt s N d kk j≤N+d:=by
 unfold rowAt;split
 ·exact far_le s N d _
 ·omega
theorem rowAt_succ {d:Nat} {k:Int} (h1:-(d:Int)≤k) (h2:(k+d) % 2=0) (j:Nat):rowAt s N d (k+2) j=if j=((d:Int)+k+1).toNat then far s N d k else rowAt s N d k j:=by
 unfold rowAt
 by_cases e:j=((d:Int)+k+1).toNat
 ·rw [if_pos e,show (j:Int) - d - 1=k by omega,if_pos ⟨h1,by omega,h2⟩]
 ·rw [if_neg e]
  by_cases h:-(d:Int)≤(j:Int) - d - 1∧(j:Int) - d - 1 < k∧((j:Int) - d - 1+d) % 2=0
  ·rw [if_pos h,if_pos ⟨h.1,by omega,h.2.2⟩]
  ·rw [if_neg h,if_neg (fun h'=>h ⟨h'.1,by omega,h'.2.2⟩)]
theorem rowAt_none (d j:Nat):rowAt s N d (-(d:Int)) j=0:=by
 unfold rowAt;rw [if_neg (by omega)]
theorem full_at {d:Nat} {k:Int} (h:onD d k):full s N d ((d:Int)+1+k).toNat=far s N d k:=by
 obtain ⟨h1,h2,h3⟩:=h
 unfold full rowAt
 rw [show ((((d:Int)+1+k).toNat:Nat):Int) - d - 1=k by omega,if_pos ⟨h1,by omega,h3⟩]
def bstR (r:Nat→Nat) (d:Nat) (k:Int):Nat×Bool:=if k=-(d:Int)∨(k≠d∧r ((d:Int)+k - 1).toNat < r ((d:Int)+k+1).toNat) then (r ((d:Int)+k+1).toNat,true) else (r ((d:Int)+k - 1).toNat+1,false)
theorem bstR_full {d:Nat} {k:Int} (h:onD (d+1) k):bstR (full s N d) (d+1) k=bst (far s N d) (d+1) k:=by
 obtain ⟨h1,h2,h3⟩:=h
 have hm:¬ k=-((d+1:Nat):Int)→full s N d (((d+1:Nat):Int)+k - 1).toNat=far s N d (k - 1):=fun h=>by
  rw [show ((d+1:Nat):Int)+k - 1=(d:Int)+1+(k - 1) by omega]
  exact full_at s N ⟨by omega,by omega,by omega⟩
 have hp:¬ k=((d+1:Nat):Int)→full s N d (((d+1:Nat):Int)+k+1).toNat=far s N d (k+1):=fun h=>by
  rw [show ((d+1:Nat):Int)+k+1=(d:Int)+1+(k+1) by omega]
  exact full_at s N ⟨by omega,by omega,by omega⟩
 unfold bstR bst
 by_cases e:k=-((d+1:Nat):Int)
 ·rw [if_pos (.inl e),if_pos (.inl e),hp (by omega)]
 ·by_cases e2:k=((d+1:Nat):Int)
  ·rw [if_neg (by simp only [e2,ne_eq,not_true,false_and,or_false];omega),if_neg (by simp only [e2,ne_eq,not_true,false_and,or_false];omega),hm e]
  ·rw [hm e,hp e2]
theorem bst_ge {d:Nat} {k:Int} (hk:onD (d+1) k):k≤(bst (far s N d) (d+1) k).1∧(bst (far s N d) (d+1) k).1≤N+d+1:=by
  cases hb:(bst (far s N d) (d+1) k).2 with
  | true =>
    have h1:=(far_pth s N d _ (bst_down_on hk hb)).1
    have h2:=far_le s N d (k+1)
    rw [bst_down hb];show k≤((far s N d _:Nat):Int)∧far s N d (k+1)≤_;omega
  | false =>
    have h1:=(far_pth s N d _ (bst_right_on hk hb)).1
    have h2:=far_le s N d (k - 1)
    rw [bst_right hb];show k≤((far s N d _+1:Nat):Int)∧far s N d (k - 1)+1≤_;omega
end
end Go.Proofs.Ytkcfhciffdnmmaa
