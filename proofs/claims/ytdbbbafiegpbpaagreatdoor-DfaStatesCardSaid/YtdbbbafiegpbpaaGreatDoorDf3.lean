/-
  A call that makes rows anew, as an operation of a drawn region: the rows' clocks may be named by the operation.
-/
import Derived.Test.YtdbbbafiegpbpaaGreatDoorNb7
import Derived.Test.YtdbbbafiegpbpaaGreatDoorEx1
import Derived.Test.YtdbbbafiegpbpaaGreatDoorHcl
import Derived.Test.YtdbbbafiegpbpaaGreatDoorLexV
namespace Go.Proofs.YtdbbbafiegpbpaaGreatDoor
set_option linter.unusedSimpArgs false
set_option linter.unusedVariables false
set_option maxRecDepth 100000
set_option maxHeartbeats 1000000
open Go.RowKit
theorem Rep.ren {w w':World} {E E' E'':Env} (hF:∀ a,E'.F a→E''.F a) (hL:∀ k l,E''.L k=some l→E.G l.g→E'.L k=some l) (hG:∀ g,E.G g→E''.G g) {v:Value} {x:HV} (h:Rep w' E' v x):∀ {v0:Value},Rep w E v0 x→Rep w' E'' v x:=by
  induction h with
  | imm v=>intro v0 _;exact .imm v
  | agg cs n f vs hn hv _ ih=>intro v0 h0;cases h0 with | agg _ _ _ vs0 _ _ h0=>exact .agg cs n f vs hn hv (fun i hi=>ih i hi (h0 i hi))
  | tup cs n f vs hn hv _ ih=>intro v0 h0;cases h0 with | tup _ _ _ vs0 _ _ h0=>exact .tup cs n f vs hn hv (fun i hi=>ih i hi (h0 i hi))
  | sl A n c sz f vs hc hm hA _ ih =>
    intro v0 h0
    cases h0 with
    | sl _ _ _ _ _ vs0 _ _ _ h0 =>
      exact .sl A n c sz f vs hc hm (fun hn=>by
        obtain ⟨b,o,h1,h2,h3⟩:=hA hn
        exact ⟨b,o,h1,h2,fun i j hi hj=>⟨hF _ (h3 i j hi hj).1,(h3 i j hi hj).2⟩⟩) (fun i j hi hj=>ih i j hi hj (h0 i j hi hj))
  | fp b o n f vs hA _ ih=>intro v0 h0;cases h0 with | fp _ _ _ _ vs0 _ h0=>exact .fp b o n f vs (fun j hj=>⟨hF _ (hA j hj).1,(hA j hj).2⟩) (fun j hj=>ih j hj (h0 j hj))
  | pt b k id g i off hg h=>intro v0 h0;cases h0 with | pt _ _ _ _ _ _ hg0 _=>exact .pt b k id g i off (hG _ hg0) (fun l hl hlg=>h l (hL id l hl (hlg▸hg0)) hlg)
  | os A n c id g lo hg hc hm hA h0 =>
    intro v0 hh
    cases hh with
    | os _ _ _ _ _ _ hg0 _ _ _ _ =>
      exact .os A n c id g lo (hG _ hg0) hc hm (fun hn=>by
        obtain ⟨b,k,h1,h2⟩:=hA hn
        exact ⟨b,k,h1,fun l hl hlg=>h2 l (hL id l hl (hlg▸hg0)) hlg⟩) (fun l hl hlg=>h0 l (hL id l hl (hlg▸hg0)) hlg)
  | ifc t v x _ ih=>intro v0 h0;cases h0 with | ifc _ _ _ h0=>exact .ifc t v x (ih h0)
  | fn f cs n x vs hn hv _ ih=>intro v0 h0;cases h0 with | fn _ _ _ _ vs0 _ _ h0=>exact .fn f cs n x vs hn hv (fun i hi=>ih i hi (h0 i hi))
  | bnd f v x _ ih=>intro v0 h0;cases h0 with | bnd _ _ _ h0=>exact .bnd f v x (ih h0)
  | npn id g hg h =>
    intro v0 h0
    cases h0 with
    | npn _ _ hg0 _=>exact .npn id g (hG _ hg0) (fun l hl hlg=>h l (hL id l hl (hlg▸hg0)) hlg)
    | npp _ _ _ hg0 _ _=>exact .npn id g (hG _ hg0) (fun l hl hlg=>h l (hL id l hl (hlg▸hg0)) hlg)
  | npp v id g hg hc h ih =>
    intro v0 h0
    have hg0:E.G g:=by cases h0 with | npn _ _ hg0 _=>exact hg0 | npp _ _ _ hg0 _ _=>exact hg0
    refine .npp v id g (hG _ hg0) (fun l hl hlg=>hc l (hL id l hl (hlg▸hg0)) hlg) ?_
    cases h with
    | pt b k _ _ _ _ _ hh=>exact .pt b k id g 0 0 (hG _ hg0) (fun l hl hlg=>hh l (hL id l hl (hlg▸hg0)) hlg)
  | mp b id g hg h=>intro v0 h0;cases h0 with | mp _ _ _ hg0 _=>exact .mp b id g (hG _ hg0) (fun l hl hlg=>h l (hL id l hl (hlg▸hg0)) hlg)
def b8M (r:HV):Prop:=∀ {w:World} {E E':Env} {v:Value},Rep w E v r→Rep w E' v r
theorem a0U (u:Value):b8M (.imm u):=fun h=>by have:=h.imm_inv;subst this;exact .imm _
theorem b8g {n:Nat} {f:Nat→HV} (hf:∀ i,i < n→b8M (f i)):b8M (.agg n f):=fun h=>by
 cases h with | agg cs _ _ vs hn hv h=>exact .agg cs n f vs hn hv (fun i hi=>hf i hi (h i hi))
theorem c2c (p:Pc):b8M (pcH p):=b8g (by exact j9 (a0U _) (a0U _) (a0U _) (a0U _) (a0U _) (a0U _) (a0U _) (a0U _) (a0U _))
section
variable {P:Program} {ov:Nat→Option HV} {g:Nat} {d:Option Tmp} {ty:TypeId} {pos:String} {af:Array Edge} {gd:Option (Nat×Bool)}
def b3u (E E':Env) (g:Nat) (l2 l3:Loc):Env:=⟨E'.F,fun k=>if k=9002 then some ⟨g,l2.A,l2.cap,l2.sz⟩ else if k=9003 then some ⟨g,l3.A,l3.cap,l3.sz⟩ else E'.L k,fun k=>E.G k∨k=g,E'.M⟩
theorem b8k {w':World} {E E':Env} {K:Nat→Prop} {B g y n:Nat} {γ:Nat→Bag} {l2 l3 l:Loc} {l':Loc} (hl:l'=⟨g,l.A,l.cap,l.sz⟩) (o:ObjAt w' E' K B (a4t y n γ) l):ObjAt w' (b3u E E' g l2 l3) K B (a4t g n γ) l':=by
 subst hl
 refine ⟨rfl,.inr rfl,o.sz,o.pos,?_⟩
 rcases o.at_ with h | ⟨b,cs,h1,h2,h3,h4,h5,h6,⟨vs,hvs⟩,h8,h9⟩ | ⟨b,ob,h1,h2,h3,h4⟩
 ·exact .inl h
 ·exact .inr (.inl ⟨b,cs,h1,h2,h3,h4,h5,h6,⟨vs,fun i j hi hj=>⟨(hvs i j hi hj).1,(hvs i j hi hj).2.1,a0U _ (hvs i j hi hj).2.2⟩⟩,h8,h9⟩)
 ·exact absurd h3.fl (by simp)
theorem c4y {w':World} {E E':Env} {K:Nat→Prop} {B g g1 y2 y3 n:Nat} {l2 l3 l:Loc} (hg1:E.G g1) (hl2:E'.L 9002=some l2) (e2:l2.g=y2) (hl3:E'.L 9003=some l3) (e3:l3.g=y3) (o:ObjAt w' E' K B (a9D g1 (.os 9002 y2 0 n) (.os 9003 y3 0 n)) l):ObjAt w' (b3u E E' g l2 l3) K B (a9D g1 (.os 9002 g 0 n) (.os 9003 g 0 n)) l:=by
  have h9002:(b3u E E' g l2 l3).L 9002=some ⟨g,l2.A,l2.cap,l2.sz⟩:=rfl
  have h9003:(b3u E E' g l2 l3).L 9003=some ⟨g,l3.A,l3.cap,l3.sz⟩:=rfl
  refine ⟨o.g,.inl hg1,o.sz,o.pos,?_⟩
  rcases o.at_ with h | ⟨b,cs,h1,h2,h3,h4,h5,h6,⟨vs,hvs⟩,h8,h9⟩ | ⟨b,ob,h1,h2,h3,h4⟩
  · exact .inl h
  · refine .inr (.inl ⟨b,cs,h1,h2,h3,h4,h5,h6,⟨vs,fun i j hi hj=>⟨(hvs i j hi hj).1,(hvs i j hi hj).2.1,?_⟩⟩,h8,h9⟩)
    have hv:=(hvs i j hi hj).2.2
    match j,hj with
    | 0, _ =>
      have hv:Rep w' E' (vs i 0) (.os 9002 y2 0 n):=hv
      show Rep w' _ (vs i 0) (.os 9002 g 0 n)
      generalize vs i 0=u at hv
      cases hv with
      | os A n c _ _ _ _ hc hm hA h0 =>
        refine .os A n c 9002 g 0 (.inr rfl) hc hm (fun hn=>?_) (fun l hl _=>?_)
        · obtain ⟨b,k,q1,q2⟩:=hA hn
          refine ⟨b,k,q1,fun l hl _=>?_⟩
          rw [h9002] at hl;injection hl with hl;subst hl;exact q2 l2 hl2 e2
        · rw [h9002] at hl;injection hl with hl;subst hl;exact h0 l2 hl2 e2
    | 1, _ =>
      have hv:Rep w' E' (vs i 1) (.os 9003 y3 0 n):=hv
      show Rep w' _ (vs i 1) (.os 9003 g 0 n)
      generalize vs i 1=u at hv
      cases hv with
      | os A n c _ _ _ _ hc hm hA h0 =>
        refine .os A n c 9003 g 0 (.inr rfl) hc hm (fun hn=>?_) (fun l hl _=>?_)
        · obtain ⟨b,k,q1,q2⟩:=hA hn
          refine ⟨b,k,q1,fun l hl _=>?_⟩
          rw [h9003] at hl;injection hl with hl;subst hl;exact q2 l3 hl3 e3
        · rw [h9003] at hl;injection hl with hl;subst hl;exact h0 l3 hl3 e3
    | 2,_=>exact a0U _ hv
    | 3,_=>exact a0U _ hv
    | 4,_=>exact a0U _ hv
    | 5,_=>exact a0U _ hv
    | 6,_=>exact a0U _ hv
    | 7,_=>exact a0U _ hv
    | 8,_=>exact a0U _ hv
    | 9,_=>exact a0U _ hv
    | 10,_=>exact a0U _ hv
  · exact absurd h3.fl (by simp)
theorem c5m {w w':World} {E E':Env} {K:Nat→Prop} {B B0 g:Nat} {o:HObj} {l2 l3 l l0:Loc} (hL:∀ k l,(b3u E E' g l2 l3).L k=some l→E.G l.g→E'.L k=some l) (o0:ObjAt w E K B0 o l0) (oo:ObjAt w' E' K B o l):ObjAt w' (b3u E E' g l2 l3) K B o l:=by
 refine ⟨oo.g,.inl o0.G,oo.sz,oo.pos,?_⟩
 rcases oo.at_ with h | ⟨b,cs,h1,h2,h3,h4,h5,h6,⟨vs,hvs⟩,h8,h9⟩ | h
 ·exact .inl h
 ·refine .inr (.inl ⟨b,cs,h1,h2,h3,h4,h5,h6,⟨vs,fun i j hi hj=>⟨(hvs i j hi hj).1,(hvs i j hi hj).2.1,?_⟩⟩,h8,h9⟩)
  rcases o0.at_ with q | ⟨_,_,_,_,_,_,_,_,⟨vs0,hvs0⟩,_,_⟩ | ⟨_,_,_,_,q,_⟩
  ·exact absurd hi (by omega)
  ·exact Rep.ren (E:=E) (E':=E') (E'':=b3u E E' g l2 l3) (fun _ h=>h) hL (fun _ h=>Or.inl h) (hvs i j hi hj).2.2 (hvs0 i j hi hj).2.2
  ·exact absurd hi (by rw [q.n];omega)
 ·exact .inr (.inr h)
theorem c6e {f:FuncId} {args:List Operand} {at_:Array TypeId} {xs:List HV} {r:HV} {g1 g2 g3 n n':Nat} {on on':List Bag} {β β':Nat→Bag}
    (hc:∀ c,a4s P f c xs (c2e g1 g2 g3 n on β) (a9t (fun (y:Nat×Nat) _=>True) (fun _=>r) (fun y=>c2e g1 y.1 y.2 n' on' β'))) (hr:b8M r) (hx:a2k ov args xs) :
    HOp P ⟨d,.call ⟨.value (.func f),args.toArray,at_⟩,ty,pos,af,gd⟩ ov g (c2e g1 g2 g3 n on β) r (c2e g1 g g n' on' β'):=by
  refine ⟨?_⟩;intro K w0 F0 E hh a w Q N rr ht hG hBd hpre hN
  obtain ⟨B,hB⟩:=hBd
  have hrep:=hx.rep (w:=w) (E:=E) (ρ:=a.eval) (fun x hv hx h=>ht x hv (by simp [Op.operands,Call.operands];exact .inr hx) h)
  unfold Oper.wp execOp
  have hargs:args.toArray.map a.eval=(args.map a.eval).toArray:=by simp
  simp only [resolve,Act.eval,Deferred.ofValue,invoke,Sem.run_bind,Sem.run_pure,Result.andThen_ok,Array.empty_append,Array.append_empty]
  rw [a0R (hc 0).1]
  simp only [Oper.upon]
  have h:=(hc B).2 ⟨K,w0,F0,E,hh,w,c2e g1 g2 g3 n on β⟩ (args.map a.eval) ⟨rr,fun id o ho=>hpre (id,o) (a1C ho)⟩ rfl hrep hB
  rw [←hargs] at h
  refine Calls.mono h ?_
  rintro e w' ⟨x,kp,c',E',⟨⟨y2,y3⟩,-,rfl,rfl⟩,e',r',hG',hGk,hv⟩
  cases e with
  | returned v =>
    obtain ⟨l1,hl1,o1⟩:=r'.obj 9001 _ rfl
    obtain ⟨l2,hl2,o2⟩:=r'.obj 9002 _ rfl
    obtain ⟨l3,hl3,o3⟩:=r'.obj 9003 _ rfl
    obtain ⟨l0,hl0,o0⟩:=rr.obj 9001 _ (hpre (9001,_) (List.mem_cons_self ..))
    have hL:∀ k l,(b3u E E' g l2 l3).L k=some l→E.G l.g→E'.L k=some l:=by
      intro k l hl hg
      unfold b3u at hl
      simp only at hl
      split at hl
      · injection hl with hl;subst hl;exact absurd hg hG
      · split at hl
        · injection hl with hl;subst hl;exact absurd hg hG
        · exact hl
    have hRL:∀ k,k≠9002→k≠9003→(b3u E E' g l2 l3).L k=E'.L k:=fun k h2 h3=>by
      unfold b3u;simp only;rw [if_neg h2,if_neg h3]
    have hext:Ext w E w' (b3u E E' g l2 l3):=⟨e'.sz,e'.F,fun k hk=>.inl hk,fun k l hl hg=>e'.L k l (hL k l hl hg) hg,e'.M⟩
    have hA:∀ k o l,hupd hh (c2e g1 g g n' on' β') k=some o→(b3u E E' g l2 l3).L k=some l→∃ o' l',hupd hh (c2e g1 y2 y3 n' on' β') k=some o'∧E'.L k=some l'∧l'.A=l.A:=by
      intro k o l ho hl
      by_cases h2:k=9002
      · subst h2;refine ⟨_,_,rfl,hl2,?_⟩
        unfold b3u at hl;simp only [if_pos] at hl;injection hl with hl;subst hl;rfl
      · by_cases h3:k=9003
        · subst h3;refine ⟨_,_,rfl,hl3,?_⟩
          unfold b3u at hl;simp at hl;subst hl;rfl
        · rw [hRL k h2 h3] at hl
          by_cases h1:k=9001
          · subst h1;exact ⟨_,_,rfl,hl,rfl⟩
          · refine ⟨o,l,?_,hl,rfl⟩
            rw [←ho]
            simp [hupd,a3e,h1,h2,h3]
    refine hN v w' (b3u E E' g l2 l3) hext ⟨r'.os,r'.tape,r'.output,r'.size,r'.keep,r'.frz,r'.fnew,r'.klib,r'.lib,r'.bks,?_,?_⟩ (fun g' hg'=>hg'.imp id fun e=>⟨by simp,e⟩) (hr hv)
    · intro k o ho
      by_cases h2:k=9002
      · subst h2
        have ho:a4t g n' (onF on')=o:=Option.some.inj ho
        subst ho
        exact ⟨_,rfl,b8k rfl o2⟩
      · by_cases h3:k=9003
        · subst h3
          have ho:a4t g n' β'=o:=Option.some.inj ho
          subst ho
          exact ⟨_,rfl,b8k rfl o3⟩
        · by_cases h1:k=9001
          · subst h1
            have ho:a9D g1 (.os 9002 g 0 n') (.os 9003 g 0 n')=o:=Option.some.inj ho
            subst ho
            exact ⟨l1,hl1,c4y o0.G hl2 o2.g hl3 o3.g o1⟩
          · have ho:hh k=some o:=by rw [←ho];simp [hupd,a3e,h1,h2,h3]
            obtain ⟨l,hl,oo⟩:=r'.obj k o (by rw [←ho];simp [hupd,a3e,h1,h2,h3])
            obtain ⟨l00,_,ob⟩:=rr.obj k o ho
            exact ⟨l,by rw [hRL k h2 h3];exact hl,c5m hL ob oo⟩
    · intro k k' o o' l l' b ho ho' hl hl' hb hb'
      obtain ⟨p,q,h1,h2,h3⟩:=hA k o l ho hl
      obtain ⟨p',q',h1',h2',h3'⟩:=hA k' o' l' ho' hl'
      exact r'.inj k k' p p' q q' b h1 h1' h2 h2' (h3.trans hb) (h3'.trans hb')
  | _=>exact hv.elim
end
def stC (m:List UInt8→Bag) (N:Nat) (a:Ly) (t:T):Ly:=⟨a.on++(lay m t N).on,a.lk++(lay m t N).lk,⟨bun a.pc.first (lay m t N).pc.first,bun a.pc.ends (lay m t N).pc.ends,a.pc.empty||(lay m t N).pc.empty⟩⟩
def stR (m:List UInt8→Bag) (N:Nat) (a:Ly) (t:T):Ly:=⟨a.on++(lay m t N).on,a.lk++(lay m t N).lk++[(a.pc.ends,(lay m t N).pc.first)],a.pc.join (lay m t N).pc⟩
theorem a8l (m:List UInt8→Bag):∀ (ts:List T) (N:Nat) (a:Ly) (t:T),a5J m (ts++[t]) N a=stC m (N+T.wL ts) (a5J m ts N a) t
 | [],N,a,t=>by simp [a5J,T.wL,stC]
 | x::ts,N,a,t=>by simp only [List.cons_append,a5J];rw [a8l m ts];simp only [T.wL,Nat.add_assoc]
theorem a9k (m:List UInt8→Bag):∀ (ts:List T) (N:Nat) (a:Ly) (t:T),a5I m (ts++[t]) N a=stR m (N+T.wL ts) (a5I m ts N a) t
 | [],N,a,t=>by simp [a5I,T.wL,stR]
 | x::ts,N,a,t=>by simp only [List.cons_append,a5I];rw [a9k m ts];simp only [T.wL,Nat.add_assoc]
theorem b4g:∀ (ts:List T) (i:Nat),T.wL (ts.take i)≤T.wL ts
 | [],i=>by simp [T.wL]
 | t::ts,0=>by simp [T.wL]
 | t::ts,i+1=>by have:=b4g ts i;simp only [List.take_succ_cons,T.wL];omega
theorem b5V {m:List UInt8→Bag} (hm:∀ s,(m s).ok) (ts:List T) (i N:Nat) (h:N+T.wL ts≤256):(a5J m (ts.take i) N ⟨[],[],default⟩).Ok N (T.wL (ts.take i)):=by
 have hle:=b4g ts i
 have:=b4A hm (ts.take i) N N ⟨[],[],default⟩ (by omega) (Nat.le_refl _) (by rw [Nat.sub_self];exact ⟨rfl,(fun b hb=>by simp at hb),(fun q hq=>by simp at hq),b0j,⟨a3j _ _,a3j _ _⟩⟩)
 rwa [show N+T.wL (ts.take i) - N=T.wL (ts.take i) by omega] at this
theorem b5o {m:List UInt8→Bag} (hm:∀ s,(m s).ok) (ts:List T) (i N:Nat) (h:N+T.wL ts≤256):(a5I m (ts.take i) N ⟨[],[],Pc.nil⟩).Ok N (T.wL (ts.take i)):=by
 have hle:=b4g ts i
 have:=b4O hm (ts.take i) N N ⟨[],[],Pc.nil⟩ (by omega) (Nat.le_refl _) (by rw [Nat.sub_self];exact ⟨rfl,(fun b hb=>by simp at hb),(fun q hq=>by simp at hq),Pc.nil_ok,Pc.inB_nil _ _⟩)
 rwa [show N+T.wL (ts.take i) - N=T.wL (ts.take i) by omega] at this
theorem b5z {t:T} (h:t.kind=3) (hok:t.ok=true):∃ ts,t=.many 3 ts:=by
 cases t with
 | name s=>simp [T.kind] at h
 | times lo hi t=>simp [T.kind] at h
 | many k ts=>simp [T.kind] at h;subst h;exact ⟨ts,rfl⟩
theorem c8a {t:T} (h1:t.kind≠1) (h4:t.kind≠4) (h3:t.kind≠3) (hok:t.ok=true):∃ k ts,t=.many k ts∧k≠3:=by
 cases t with
 | name s=>simp [T.kind] at h1
 | times lo hi t=>simp [T.kind] at h4
 | many k ts=>exact ⟨k,ts,rfl,h3⟩
theorem c9O {t:T} (h:t.kind=1) (hok:t.ok=true):∃ s,t=.name s:=by
 cases t with
 | name s=>exact ⟨s,rfl⟩
 | times lo hi t=>simp [T.kind] at h
 | many k ts=>simp [T.kind] at h;subst h;simp [T.ok] at hok
theorem c2g {g1:Nat} {f:Nat→Nat→HV} {a b:HV} (h:∀ j,j < 11→f 0 j=c8j a b Bag.zero Bag.zero false 0 j):a2X ⟨g1,1,11,103,0,f⟩ (a9D g1 a b):=a2X.of fun i j hi hj=>by
 obtain rfl:i=0:=by omega
 rw [h j hj];exact .refl _
theorem b8X {n:Nat} {γ γ':Nat→Bag} {L:List HV} (h1:∀ i,i < n→γ i=γ' i) (h2:∀ j,j < 4→bsf L 0 j=a2I (γ' n) j):∀ i j,i < n+1→j < 4→cat n (b8j γ) (bsf L) i j=a2I (γ' i) j:=fun i j hi hj=>by
 unfold cat
 by_cases h:i < n
 ·have e:Nat.blt i n=true:=by simpa [Nat.blt_eq] using h
  rw [e];show a2I (γ i) j=_;rw [h1 i h]
 ·obtain rfl:i=n:=by omega
  have e:Nat.blt i i=false:=by rw [Bool.eq_false_iff];intro h';simp [Nat.blt_eq] at h'
  rw [e];show bsf L (i - i) j=_;rw [Nat.sub_self];exact h2 j hj
theorem b5m {on:List Bag} {n:Nat} (hn:on.length=n) (x:Bag):(∀ i,i < n→onF on i=onF (on++[x]) i)∧onF (on++[x]) n=x:=by
 subst hn
 exact ⟨fun i hi=>(a4z (d:=Bag.zero) (k:=[x]) hi).symm,a2o _ _ _⟩
theorem b3W (mf:FuncId) (mk:Nat) (mcaps:Nat→HV) (mcs:List HV) (hmk:mcs.length=mk) (hmi:∀ i,i < mk→mcs[i]?=some (mcaps i)) (hmz:FzAll [] mcs mcs) (hmf:∀ sh,Fz sh (.fn (.func mf) mk mcaps) (.fn (.func mf) mk mcaps)) (m:List UInt8→Bag) (hm:∀ s,nameV s=true→HPure Tryz.prog mf ([strV s]++mcs) (bagH (m s))) (hmo:∀ s,(m s).ok)
  (e:List Pt) (he:e.length≤100000) (b:Nat) (t:T) (hok:t.ok=true) (hat:AtP e b (T.flat b t)) (hkl:t.kidsT.length≤100000)
  (ih:∀ i,i < t.kidsT.length→c6p (.fn (.func mf) mk mcaps) m e (b+T.sizeL (t.kidsT.take i)) (t.kidsT.getD i default)):c6p (.fn (.func mf) mk mcaps) m e b t:=by
 intro c g1 g2 g3 N0 on β hon hw hβ hz
 have htop:=a3x hat
 have hps:=t.size_pos
 have hkid:=a6T b t
 have hrl:=a0K t.kidsT b
 generalize htp:t.top b=p at htop hkid
 have hpk:p.kind=t.kind:=by rw [←htp];exact a6s b t
 let k0:=c
 refine a0v Tryz.func56 rfl kr _ _ _ _ rfl 116 rfl rfl (fun X ok hX=>?_)
 refine ru 2 ?_
 refine a0u 4 (a6a (id:=9011) (sz:=1) rfl rfl rfl (by decide) (by decide)) rfl rfl a0g rfl rfl (c':=c+1) rfl ?_
 refine ru 11 ?_
 refine rvl (ptH p) (b8c om htop.1) ?_
 refine ru 18 ?_
 refine wdc (fun hr0 hc0=>?_) (fun hr0 hc0=>?_)
 ·skip
  obtain ⟨s,hts⟩:=c9O (by rw [←hpk];exact hc0) hok;have hpn:p.name=s:=(by rw [←htp,hts];rfl);have hnv:nameV p.name=true:=(by rw [hpn];rw [hts] at hok;simpa [T.ok] using hok);have hl1:lay m t N0=⟨[m s],[],⟨a3f N0,a3f N0,false⟩⟩:=(by rw [hts];simp [lay]);have hw1:t.w=1:=(by rw [hts];rfl)
  refine ru 7 ?_
  refine a0u 31 (a0b (id:=31) (hs:=[_]) ei_49.h omx rfl omx ⟨rfl,rfl,rfl,rfl,trivial⟩) rfl rfl a0g rfl rfl (c':=c+7) rfl ?_
  refine hm_ 32 (b1S (xs:=[_]) [(31,_)] (c9p [(N0:Int)] (by simp)) ⟨rfl,trivial⟩ ⟨(show Fz _ _ (a0m [(N0:Int)]) from a2r (l:=[(N0:Int)]) (enc:=fun x _=>intV x) (d:=0) (List.mem_cons_self ..) rfl rfl (Nat.le_refl _) (fun i j hi hj=>by obtain rfl:i=0:=(by simpa using hi);exact .imm _)),trivial⟩ rfl) rfl rfl (a0i rfl a0g) rfl rfl (c':=c+8) rfl ?_
  refine ru 14 ?_
  refine d0 9 (a7f (xs:=[_]) (cs:=mcs) (hm p.name hnv) rfl hmk hmi ⟨rfl,trivial⟩ ⟨(show Fz [] (strV p.name) (strV p.name) from Frz.fz),hmz⟩) ?_
  refine a2n 42 (a0b (id:=42) (hs:=[_]) ei_87.h omx rfl omx ⟨rfl,rfl,rfl,rfl,trivial⟩) rfl rfl a0g rfl rfl (k':=10) rfl ?_
  first
  | refine a2n 43 (a0a ei_87.h (by first | exact Nat.le_of_ble_eq_true rfl | omega | (dsimp only;omega) | (simp <;> omega)) rfl (by first | exact Nat.le_of_ble_eq_true rfl | omega | (dsimp only;omega) | (simp <;> omega)) (by first | exact Nat.le_of_ble_eq_true rfl | omega | (dsimp only;omega) | (simp <;> omega)) (a0x rfl (by first | exact Nat.le_of_ble_eq_true rfl | omega | (dsimp only;omega) | (simp <;> omega))) (by first | exact Nat.le_of_ble_eq_true rfl | omega | (dsimp only;omega) | (simp <;> omega)) rfl) rfl rfl (a0i rfl (a0P rfl)) rfl rfl (k':=11) rfl ?_
  | refine a2n 43 (a0a ei_87.h (by first | exact Nat.le_of_ble_eq_true rfl | omega | (dsimp only;omega) | (simp <;> omega)) rfl (by first | exact Nat.le_of_ble_eq_true rfl | omega | (dsimp only;omega) | (simp <;> omega)) (by first | exact Nat.le_of_ble_eq_true rfl | omega | (dsimp only;omega) | (simp <;> omega)) (a0S rfl (by first | exact Nat.le_of_ble_eq_true rfl | omega | (dsimp only;omega) | (simp <;> omega))) (by first | exact Nat.le_of_ble_eq_true rfl | omega | (dsimp only;omega) | (simp <;> omega)) rfl) rfl rfl (a0i rfl (a0P rfl)) rfl rfl (k':=11) rfl ?_
  | refine a2n 43 (a0a ei_87.h (by first | exact Nat.le_of_ble_eq_true rfl | omega | (dsimp only;omega) | (simp <;> omega)) rfl (by first | exact Nat.le_of_ble_eq_true rfl | omega | (dsimp only;omega) | (simp <;> omega)) (by first | exact Nat.le_of_ble_eq_true rfl | omega | (dsimp only;omega) | (simp <;> omega)) (a0O rfl) (by first | exact Nat.le_of_ble_eq_true rfl | omega | (dsimp only;omega) | (simp <;> omega)) rfl) rfl rfl (a0i rfl a0g) rfl rfl (k':=11) rfl ?_
  | refine a2n 43 (a0a ei_87.h (by first | exact Nat.le_of_ble_eq_true rfl | omega | (dsimp only;omega) | (simp <;> omega)) rfl (by first | exact Nat.le_of_ble_eq_true rfl | omega | (dsimp only;omega) | (simp <;> omega)) (by first | exact Nat.le_of_ble_eq_true rfl | omega | (dsimp only;omega) | (simp <;> omega)) (a0z 4 (fun _ _=>default) rfl) (by first | exact Nat.le_of_ble_eq_true rfl | omega | (dsimp only;omega) | (simp <;> omega)) rfl) rfl rfl (a0i rfl a0g) rfl rfl (k':=11) rfl ?_
  refine ru 13 ?_
  refine a2n 52 (a0b (id:=52) (hs:=[_]) ei_87.h omx rfl omx ⟨rfl,rfl,rfl,rfl,trivial⟩) rfl rfl a0g rfl rfl (k':=7) rfl ?_
  first
  | refine a2n 53 (a0a ei_87.h (by first | exact Nat.le_of_ble_eq_true rfl | omega | (dsimp only;omega) | (simp <;> omega)) rfl (by first | exact Nat.le_of_ble_eq_true rfl | omega | (dsimp only;omega) | (simp <;> omega)) (by first | exact Nat.le_of_ble_eq_true rfl | omega | (dsimp only;omega) | (simp <;> omega)) (a0x rfl (by first | exact Nat.le_of_ble_eq_true rfl | omega | (dsimp only;omega) | (simp <;> omega))) (by first | exact Nat.le_of_ble_eq_true rfl | omega | (dsimp only;omega) | (simp <;> omega)) rfl) rfl rfl (a0i rfl (a0P rfl)) rfl rfl (k':=8) rfl ?_
  | refine a2n 53 (a0a ei_87.h (by first | exact Nat.le_of_ble_eq_true rfl | omega | (dsimp only;omega) | (simp <;> omega)) rfl (by first | exact Nat.le_of_ble_eq_true rfl | omega | (dsimp only;omega) | (simp <;> omega)) (by first | exact Nat.le_of_ble_eq_true rfl | omega | (dsimp only;omega) | (simp <;> omega)) (a0S rfl (by first | exact Nat.le_of_ble_eq_true rfl | omega | (dsimp only;omega) | (simp <;> omega))) (by first | exact Nat.le_of_ble_eq_true rfl | omega | (dsimp only;omega) | (simp <;> omega)) rfl) rfl rfl (a0i rfl (a0P rfl)) rfl rfl (k':=8) rfl ?_
  | refine a2n 53 (a0a ei_87.h (by first | exact Nat.le_of_ble_eq_true rfl | omega | (dsimp only;omega) | (simp <;> omega)) rfl (by first | exact Nat.le_of_ble_eq_true rfl | omega | (dsimp only;omega) | (simp <;> omega)) (by first | exact Nat.le_of_ble_eq_true rfl | omega | (dsimp only;omega) | (simp <;> omega)) (a0O rfl) (by first | exact Nat.le_of_ble_eq_true rfl | omega | (dsimp only;omega) | (simp <;> omega)) rfl) rfl rfl (a0i rfl a0g) rfl rfl (k':=8) rfl ?_
  | refine a2n 53 (a0a ei_87.h (by first | exact Nat.le_of_ble_eq_true rfl | omega | (dsimp only;omega) | (simp <;> omega)) rfl (by first | exact Nat.le_of_ble_eq_true rfl | omega | (dsimp only;omega) | (simp <;> omega)) (by first | exact Nat.le_of_ble_eq_true rfl | omega | (dsimp only;omega) | (simp <;> omega)) (a0z 4 (fun _ _=>default) rfl) (by first | exact Nat.le_of_ble_eq_true rfl | omega | (dsimp only;omega) | (simp <;> omega)) rfl) rfl rfl (a0i rfl a0g) rfl rfl (k':=8) rfl ?_
  refine ru 6 ?_
  have hsn:=b5m hon (m p.name);refine (a1e 9001 (a9D g1 (.os 9002 (c+10+10) 0 (N0+1)) (.os 9003 (c+24+7) 0 (N0+1))) rfl (by exact c2g (fun j hj=>by match j,hj with | 0,_=>rfl | 1,_=>rfl | 2,_=>rfl | 3,_=>rfl | 4,_=>rfl | 5,_=>rfl | 6,_=>rfl | 7,_=>rfl | 8,_=>rfl | 9,_=>rfl | 10,_=>rfl))).wp ?_;refine (a1e 9002 (a4t (c+10+10) (N0+1) (onF (on++[m p.name]))) rfl (by exact b0s (b8X hsn.1 (fun j hj=>by rw [hsn.2];rfl)))).wp ?_;refine (a1e 9003 (a4t (c+24+7) (N0+1) β) rfl (by exact b0s (b8X (fun _ _=>rfl) (fun j hj=>by rw [hz N0 (Nat.le_refl _) om];exact j4 (f:=bsf _ 0) (g:=a2I Bag.zero) rfl rfl rfl rfl j hj)))).wp ?_
  refine ru 10 ?_
  refine fr1 ok hX rw1 ((c+10+10,c+24+7)) (trivial) ((by rw [hl1];exact a9E (by exact j9 rfl rfl rfl rfl rfl rfl rfl rfl rfl))) ?_
  exact ⟨⟨_,rfl,(by rw [hw1];exact a3F rfl rfl rfl rfl)⟩,⟨⟨_,rfl,(by rw [hw1,hl1,←hpn];exact a1o (fun _ _=>rfl))⟩,⟨⟨_,rfl,(by rw [hw1,hl1];exact a1o (fun _ _=>rfl))⟩,trivial⟩⟩⟩
 refine ru 6 ?_
 refine wdc (fun hr1 hc1=>?_) (fun hr1 hc1=>?_)
 ·skip
  have hkd4:t.kind=4:=(by rw [←hpk];exact hc1);obtain ⟨lo,hi,u,htu⟩:=b4S hkd4 hok;have hct:=a8z b hkd4 hok;rw [htp] at hct;have hpl:p.low=lo∧p.high=hi∧p.kids=[((b+u.size - 1:Nat):Int)]:=(by have:=u.size_pos;rw [←htp,htu];refine ⟨rfl,rfl,?_⟩;show [((b+u.size:Nat):Int) - 1]=_;congr 1;omega);have hiu:c6p (.fn (.func mf) mk mcaps) m e b u:=(by have h:=ih 0 (by rw [htu];exact Nat.zero_lt_one);rw [htu] at h;simpa [T.kidsT,T.sizeL] using h);have htw:t.w=a0j p.low p.high * u.w:=(by rw [hct.1,htu,Nat.mul_comm];simp [T.kidsT,T.wL]);have hll:lay m t N0=a6V p.low p.high (fun k=>lay m u (N0+k * u.w)):=(by rw [htu,hpl.1,hpl.2.1];simp [lay]);have hkb:∀ k,k < a0j p.low p.high→N0+k * u.w+u.w≤256:=(fun k hk=>by have h:=Nat.mul_le_mul_right u.w hk;rw [Nat.succ_mul] at h;omega)
  refine ru 5 ?_
  refine (b8L 63 [(5,_),(9,_),(7,_)] [(9011,_)] rfl (a0i rfl (a0i rfl (a0i rfl a0g))) (a0i rfl a0g) rfl ((.fn _ _ _ (fun i=>[HV.pt 9011 k0 0 0,.fp 1 (fun _=>ptsV e),.fp 5 (ptF p),.fp 1 (fun _=>(.fn (.func mf) mk mcaps))].getD i default) (fun i hi=>by match i,hi with | 0,_=>exact .pt _ _ _ _ _ rfl rfl | 1,_=>exact .fz _ _ (.pt 5 _ 0 0 1 _ _ (.head _) rfl (Nat.lt_succ_self 0) (Nat.le_refl _) (fun j hj=>show Fz _ (ptsV e) (ptsV e) from Frz.fz)) | 2,_=>exact .fz _ _ (.pt 9 _ 0 0 5 _ _ (.tail _ (.head _)) rfl (Nat.lt_succ_self 0) (Nat.le_refl _) (fun j hj=>by show Fz _ (ptF p (0+j)) (ptF p j);rw [Nat.zero_add];exact b0T _ _)) | 3,_=>exact .fz _ _ (.pt 7 _ 0 0 1 _ _ (.tail _ (.tail _ (.head _))) rfl (Nat.lt_succ_self 0) (Nat.le_refl _) (fun j hj=>hmf _)))))).seq ?_
  refine a0s 64 (xs:=[_,_,_]) (pre:=[(9001,_),(9002,_),(9003,_),(9011,_)]) (c1C _ g1 g2 g3 k0 N0 u.w on β hon hβ hz p (fun k=>lay m u (N0+k * u.w)) (.fp 1 (fun _=>ptsV e)) (.fp 5 (ptF p)) (.fp 1 (fun _=>(.fn (.func mf) mk mcaps))) hct.2.1 hct.2.2.1 hct.2.2.2.1 hct.2.2.2.2 (fun k hk=>a3N hmo u _ (hkb k hk)) (by rw [←htw];exact hw) (fun k hk M c g2 g3 on β hM hon hβ hz=>by subst hM;exact c6V (.fn (.func mf) mk mcaps) m e he b u hmf hiu p hpl.2.2 c g1 g2 g3 k0 _ on β hon (hkb k hk) hβ hz)) ⟨rfl,⟨rfl,⟨rfl,trivial⟩⟩⟩ (a0i rfl (a0i rfl (a0i rfl (a0i rfl a0g)))) rfl rfl (fun x1 c1 hyy=>?_)
  obtain ⟨y2,y3⟩:=x1
  (try dsimp only)
  refine ru 6 ?_
  refine fr1 ok hX rw1 ((y2,y3)) (trivial) ((by rw [hll];exact a9E (by exact j9 rfl rfl rfl rfl rfl rfl rfl rfl rfl))) ?_
  exact ⟨⟨_,rfl,(by rw [htw];exact a3F rfl rfl rfl rfl)⟩,⟨⟨_,rfl,(by rw [htw,hll];exact a1o (fun _ _=>rfl))⟩,⟨⟨_,rfl,(by rw [htw,hll];exact a1o (fun _ _=>rfl))⟩,trivial⟩⟩⟩
 refine ru 6 ?_
 refine wdc (fun hr2 hc2=>?_) (fun hr2 hc2=>?_)
 ·skip
  let k1:=c+6;have hkd3:t.kind=3:=(by rw [←hpk];exact hc2);have hwm:=b0k (t:=t) (by rw [hkd3];decide) (by rw [hkd3];decide);have hll:lay m t N0=a5J m t.kidsT N0 ⟨[],[],default⟩:=(by obtain ⟨ts,hts⟩:=b5z hkd3 hok;rw [hts];simp [lay,T.kidsT])
  refine ru 15 ?_
  refine a0l (α:=Nat×Nat×List Bag×(Nat→Bag)×Pc×Nat×Nat) (fun x c=>⟨116,[(4,.v (.pt 9011 k0 0 0)),(5,.v (.pt 5 (k0+1) 0 0)),(7,.v (.pt 7 (k0+2) 0 0)),(8,.v (.pt 8 (k0+3) 0 0)),(11,.v (.pt 11 k1 0 0)),(68,.v (a1u p.kids)),(69,.v (intV p.kids.length)),(70,.v (intV (x.1:Int)))],[(9001,a9D g1 (.os 9002 x.2.2.2.2.2.1 0 x.2.1) (.os 9003 x.2.2.2.2.2.2 0 x.2.1)),(9002,a4t x.2.2.2.2.2.1 x.2.1 (onF x.2.2.1)),(9003,a4t x.2.2.2.2.2.2 x.2.1 x.2.2.2.1),(9011,nbO k0 g1),(5,⟨k0+1,1,1,68,0,fun _ _=>ptsV e⟩),(7,⟨k0+2,1,1,74,0,fun _ _=>(.fn (.func mf) mk mcaps)⟩),(8,pcO (k0+3) default),(11,pcO k1 x.2.2.2.2.1)],c⟩) (fun x=>x.1≤t.kidsT.length∧x.2.1=N0+T.wL (t.kidsT.take x.1)∧x.2.2.1=on++(a5J m (t.kidsT.take x.1) N0 ⟨[],[],default⟩).on∧x.2.2.2.1=links β (a5J m (t.kidsT.take x.1) N0 ⟨[],[],default⟩).lk∧x.2.2.2.2.1=(a5J m (t.kidsT.take x.1) N0 ⟨[],[],default⟩).pc) (fun x=>t.kidsT.length - x.1) ((0,N0,on,β,default,g2,g3)) (by exact ⟨Nat.zero_le _,by simp [T.wL],by simp [a5J],by simp [a5J,links],by simp [a5J]⟩) (a0c rfl (Nat.le_refl _) tsa (hsr rfl (hsr rfl (hsr rfl (hsr rfl (hsr rfl (hsr rfl (a0f.cons rfl (a3c (by exact j9 rfl rfl rfl rfl rfl rfl rfl rfl rfl)) (a0f.cons rfl (a3c (by exact j9 rfl rfl rfl rfl rfl rfl rfl rfl rfl)) a0f.nil))))))))) (fun x c hx NhL1 hL1=>?_)
  revert hx hL1;obtain ⟨ii,MM,on1,be1,ou1,y2,y3⟩:=x;intro hx hL1;dsimp only at hx hL1 ⊢
  obtain ⟨hi,hMM,hon1,hbe1,hou1⟩:=hx
  have hA:=b5V hmo t.kidsT ii N0 om
  refine ru 6 ?_
  refine wdc (fun hr3 hc3=>?_) (fun hr3 hc3=>?_)
  ·skip
   have him:ii < t.kidsT.length:=(by have h:=hr3;simp [hkid,hrl] at h;omega);have hka:=a2p hat him;have hkt:=a3x hka;have hks:=(t.kidsT.getD ii default).size_pos;have hroot:=a2T t.kidsT b ii him;have hwt:=a6i t.kidsT ii him;have hwl:=b4g t.kidsT (ii+1);have hxw:MM+(t.kidsT.getD ii default).w≤256:=om;have hly:=a3N hmo (t.kidsT.getD ii default) MM hxw;have hlen1:on1.length=MM:=(by rw [hon1,List.length_append,hA.len,hon,hMM]);have hbok:∀ q,(be1 q).ok:=(by rw [hbe1];exact a1h hA.lk hβ);have hbz:∀ q,MM≤q→q < 256→be1 q=Bag.zero:=(by rw [hbe1,hMM];exact a2B hA.lk (fun q hq hq2=>hz q om hq2));have hou2:ou1.ok:=(by rw [hou1];exact hA.pc);have hino:InB N0 (MM+(t.kidsT.getD ii default).w) ou1.ends:=(by rw [hou1,hMM];exact hA.inB.2.mono (Nat.le_refl _) om);have hsn:=a8l m (t.kidsT.take ii) N0 ⟨[],[],default⟩ (t.kidsT.getD ii default);rw [←a4n him] at hsn
   refine ru 8 ?_
   refine rvl (intV ((b+T.sizeL (t.kidsT.take ii)+(t.kidsT.getD ii default).size - 1:Nat):Int)) (by exact a1O (i:=ii) om (by rw [hkid,hroot];unfold T.root;omega)) ?_
   refine ru 9 ?_
   refine a0s 78 (xs:=[_,_,_,_]) (pre:=[(9001,_),(9002,_),(9003,_)]) (ih ii him _ g1 y2 y3 MM on1 be1 hlen1 hxw hbok hbz) ⟨rfl,⟨rfl,⟨rfl,⟨rfl,trivial⟩⟩⟩⟩ (a0i rfl (a0i rfl (a0i rfl a0g))) rfl rfl (fun x2 c2 hzz=>?_)
   obtain ⟨z2,z3⟩:=x2
   (try dsimp only)
   refine ru 9 ?_
   refine d0 5 (a0e (xs:=[_,_]) (c5a ou1.first (lay m (t.kidsT.getD ii default) MM).pc.first hou2.1 hly.pc.1) ⟨rfl,⟨rfl,trivial⟩⟩ ⟨(a1Z (by exact j4 rfl rfl rfl rfl)),⟨(a1Z (by exact j4 rfl rfl rfl rfl)),trivial⟩⟩) ?_
   refine ru 4 ?_
   refine d0 10 (a0e (xs:=[_,_]) (c5a ou1.ends (lay m (t.kidsT.getD ii default) MM).pc.ends hou2.2 hly.pc.2) ⟨rfl,⟨rfl,trivial⟩⟩ ⟨(a1Z (by exact j4 rfl rfl rfl rfl)),⟨(a1Z (by exact j4 rfl rfl rfl rfl)),trivial⟩⟩) ?_
   refine ru 4 ?_
   first
   | refine b5U 93 12 91 false _ (fun hb=>a0D ty_4.h rfl (by first | exact Nat.le_of_ble_eq_true rfl | (simp at hb;first | omega | (dsimp only;omega) | (simp <;> omega)) | omega | (dsimp only;omega)) (by first | exact Nat.le_of_ble_eq_true rfl | (simp at hb;first | omega | (dsimp only;omega) | (simp <;> omega)) | omega | (dsimp only;omega)) (fun h=>(by first | rfl | cases h))) rfl rfl rfl rfl (a0P rfl) rfl rfl rfl (k':=15) rfl ?_
   | refine b5U 93 12 91 false _ (fun hb=>a0r ty_4.h rfl (by first | exact Nat.le_of_ble_eq_true rfl | (simp at hb;first | omega | (dsimp only;omega) | (simp <;> omega)) | omega | (dsimp only;omega)) (fun h=>(by first | rfl | cases h))) rfl rfl rfl rfl a0g rfl rfl rfl (k':=15) rfl ?_
   refine ru 3 ?_
   refine b0h kr kr (c':=c2+20) rfl ?_
   refine ru 6 ?_
   exact hL1 ((ii+1,MM+(t.kidsT.getD ii default).w,on1++(lay m (t.kidsT.getD ii default) MM).on,links be1 (lay m (t.kidsT.getD ii default) MM).lk,⟨bun ou1.first (lay m (t.kidsT.getD ii default) MM).pc.first,bun ou1.ends (lay m (t.kidsT.getD ii default) MM).pc.ends,ou1.empty||(lay m (t.kidsT.getD ii default) MM).pc.empty⟩,z2,z3)) _ _ (by (try dsimp only);exact ⟨by omega,by rw [hMM,hwt,Nat.add_assoc],by rw [hsn,←hMM,hon1];simp only [stC,List.append_assoc],by rw [hsn,←hMM,hbe1];simp only [stC];rw [a0M],by rw [hsn,←hMM,hou1];rfl⟩) (by (try dsimp only);omega) (a0c rfl (Nat.le_refl _) tsa (hsr rfl (hsr rfl (hsr rfl (hsr rfl (hsr rfl (hsr rfl (hsr rfl (a0f.cons rfl (a3c (by exact j9 rfl rfl rfl rfl rfl rfl rfl rfl rfl)) a0f.nil)))))))))
  have hit:ii=t.kidsT.length:=(by have h:=hr3;simp [hkid,hrl] at h;omega);rw [hit,List.take_length] at hA hMM hon1 hbe1 hou1
  refine ru 2 ?_
  refine a0d ?_
  refine ru 11 ?_
  refine fr1 ok hX rw1 ((y2,y3)) (trivial) ((by rw [hll,←hou1];exact a9E (by exact j9 rfl rfl rfl rfl rfl rfl rfl rfl rfl))) ?_
  exact ⟨⟨_,rfl,(by rw [hwm,←hMM];exact a3F rfl rfl rfl rfl)⟩,⟨⟨_,rfl,(by rw [hwm,←hMM,hll,←hon1];exact a1o (fun _ _=>rfl))⟩,⟨⟨_,rfl,(by rw [hwm,←hMM,hll,←hbe1];exact a1o (fun _ _=>rfl))⟩,trivial⟩⟩⟩
 let k1:=c+6;have hwm:=b0k (t:=t) (by rw [←hpk];exact hc0) (by rw [←hpk];exact hc1);have hll:lay m t N0=a5I m t.kidsT N0 ⟨[],[],Pc.nil⟩:=(by obtain ⟨k,ts,hts,hk3⟩:=c8a (by rw [←hpk];exact hc0) (by rw [←hpk];exact hc1) (by rw [←hpk];exact hc2) hok;rw [hts];simp [lay,hk3,T.kidsT])
 refine ru 20 ?_
 refine a0l (α:=Nat×Nat×List Bag×(Nat→Bag)×Pc×Nat×Nat) (fun x c=>⟨116,[(4,.v (.pt 9011 k0 0 0)),(5,.v (.pt 5 (k0+1) 0 0)),(7,.v (.pt 7 (k0+2) 0 0)),(8,.v (.pt 8 (k0+3) 0 0)),(15,.v (.pt 15 k1 0 0)),(100,.v (a1u p.kids)),(101,.v (intV p.kids.length)),(102,.v (intV (x.1:Int)))],[(9001,a9D g1 (.os 9002 x.2.2.2.2.2.1 0 x.2.1) (.os 9003 x.2.2.2.2.2.2 0 x.2.1)),(9002,a4t x.2.2.2.2.2.1 x.2.1 (onF x.2.2.1)),(9003,a4t x.2.2.2.2.2.2 x.2.1 x.2.2.2.1),(9011,nbO k0 g1),(5,⟨k0+1,1,1,68,0,fun _ _=>ptsV e⟩),(7,⟨k0+2,1,1,74,0,fun _ _=>(.fn (.func mf) mk mcaps)⟩),(8,pcO (k0+3) default),(15,pcO k1 x.2.2.2.2.1)],c⟩) (fun x=>x.1≤t.kidsT.length∧x.2.1=N0+T.wL (t.kidsT.take x.1)∧x.2.2.1=on++(a5I m (t.kidsT.take x.1) N0 ⟨[],[],Pc.nil⟩).on∧x.2.2.2.1=links β (a5I m (t.kidsT.take x.1) N0 ⟨[],[],Pc.nil⟩).lk∧x.2.2.2.2.1=(a5I m (t.kidsT.take x.1) N0 ⟨[],[],Pc.nil⟩).pc) (fun x=>t.kidsT.length - x.1) ((0,N0,on,β,Pc.nil,g2,g3)) (by exact ⟨Nat.zero_le _,by simp [T.wL],by simp [a5I],by simp [a5I,links],by simp [a5I]⟩) (a0c rfl (Nat.le_refl _) tsa (hsr rfl (hsr rfl (hsr rfl (hsr rfl (hsr rfl (hsr rfl (a0f.cons rfl (a3c (by exact j9 rfl rfl rfl rfl rfl rfl rfl rfl rfl)) (a0f.cons rfl (a3c (by exact j9 rfl rfl rfl rfl rfl rfl rfl rfl rfl)) a0f.nil))))))))) (fun x c hx NhL2 hL2=>?_)
 revert hx hL2;obtain ⟨ii,MM,on1,be1,ou1,y2,y3⟩:=x;intro hx hL2;dsimp only at hx hL2 ⊢
 obtain ⟨hi,hMM,hon1,hbe1,hou1⟩:=hx
 have hA:=b5o hmo t.kidsT ii N0 om
 refine ru 6 ?_
 refine wdc (fun hr4 hc4=>?_) (fun hr4 hc4=>?_)
 ·skip
  have him:ii < t.kidsT.length:=(by have h:=hr4;simp [hkid,hrl] at h;omega);have hka:=a2p hat him;have hkt:=a3x hka;have hks:=(t.kidsT.getD ii default).size_pos;have hroot:=a2T t.kidsT b ii him;have hwt:=a6i t.kidsT ii him;have hwl:=b4g t.kidsT (ii+1);have hxw:MM+(t.kidsT.getD ii default).w≤256:=om;have hly:=a3N hmo (t.kidsT.getD ii default) MM hxw;have hlen1:on1.length=MM:=(by rw [hon1,List.length_append,hA.len,hon,hMM]);have hbok:∀ q,(be1 q).ok:=(by rw [hbe1];exact a1h hA.lk hβ);have hbz:∀ q,MM≤q→q < 256→be1 q=Bag.zero:=(by rw [hbe1,hMM];exact a2B hA.lk (fun q hq hq2=>hz q om hq2));have hou2:ou1.ok:=(by rw [hou1];exact hA.pc);have hino:InB N0 (MM+(t.kidsT.getD ii default).w) ou1.ends:=(by rw [hou1,hMM];exact hA.inB.2.mono (Nat.le_refl _) om);have hsn:=a9k m (t.kidsT.take ii) N0 ⟨[],[],Pc.nil⟩ (t.kidsT.getD ii default);rw [←a4n him] at hsn
  refine ru 8 ?_
  refine rvl (intV ((b+T.sizeL (t.kidsT.take ii)+(t.kidsT.getD ii default).size - 1:Nat):Int)) (by exact a1O (i:=ii) om (by rw [hkid,hroot];unfold T.root;omega)) ?_
  refine ru 10 ?_
  refine c8C 112 (c6e (xs:=[_,_,_,_]) (fun c=>ih ii him c g1 y2 y3 MM on1 be1 hlen1 hxw hbok hbz) (c2c _) ⟨rfl,⟨rfl,⟨rfl,⟨rfl,trivial⟩⟩⟩⟩) rfl rfl (a0i rfl (a0i rfl (a0i rfl a0g))) rfl rfl (k':=7) rfl ?_
  refine c8C 113 (a1R (xs:=[_,_,_]) (pre:=[(9001,_),(9002,_),(9003,_)]) (b5B ou1 (lay m (t.kidsT.getD ii default) MM).pc hou2 hly.pc (MM+(t.kidsT.getD ii default).w) g1 _ _ _ _ (a1h hly.lk hbok) hxw (a5V hino)) ((c6w rfl)) ⟨rfl,⟨rfl,⟨rfl,trivial⟩⟩⟩) rfl rfl (a0i rfl (a0i rfl (a0i rfl a0g))) rfl rfl (k':=8) rfl ?_
  refine ru 8 ?_
  exact hL2 ((ii+1,MM+(t.kidsT.getD ii default).w,on1++(lay m (t.kidsT.getD ii default) MM).on,a1W (links be1 (lay m (t.kidsT.getD ii default) MM).lk) (ou1.ends,(lay m (t.kidsT.getD ii default) MM).pc.first),ou1.join (lay m (t.kidsT.getD ii default) MM).pc,c+6,c+6)) _ _ (by (try dsimp only);exact ⟨by omega,by rw [hMM,hwt,Nat.add_assoc],by rw [hsn,←hMM,hon1];simp only [stR,List.append_assoc],by rw [hsn,←hMM,hbe1,hou1];simp only [stR];rw [a0M,a0M];rfl,by rw [hsn,←hMM,hou1];rfl⟩) (by (try dsimp only);omega) (a0c rfl (Nat.le_refl _) tsa (hsr rfl (hsr rfl (hsr rfl (hsr rfl (hsr rfl (hsr rfl (hsr rfl (a0f.cons rfl (a3c (by exact j9 rfl rfl rfl rfl rfl rfl rfl rfl rfl)) a0f.nil)))))))))
 have hit:ii=t.kidsT.length:=(by have h:=hr4;simp [hkid,hrl] at h;omega);rw [hit,List.take_length] at hA hMM hon1 hbe1 hou1
 refine ru 2 ?_
 refine a0d ?_
 refine ru 9 ?_
 refine fr1 ok hX rw1 ((y2,y3)) (trivial) ((by rw [hll,←hou1];exact a9E (by exact j9 rfl rfl rfl rfl rfl rfl rfl rfl rfl))) ?_
 exact ⟨⟨_,rfl,(by rw [hwm,←hMM];exact a3F rfl rfl rfl rfl)⟩,⟨⟨_,rfl,(by rw [hwm,←hMM,hll,←hon1];exact a1o (fun _ _=>rfl))⟩,⟨⟨_,rfl,(by rw [hwm,←hMM,hll,←hbe1];exact a1o (fun _ _=>rfl))⟩,trivial⟩⟩⟩
theorem b6w {t:T} {l:List Sg} {r:List Pt×Int×Int} {s:List UInt8} (hl:lexV s=.ok l) (hs:Seg l 3 0 l.length t) (h:ParseIs s r):r=(T.flat 0 t,0,0):=by
 have hne:l≠[]:=fun h=>by subst h;have:=a0W hs;simp at this
 have hc:chk l 0 0 true true=(-1,false):=b1K hs
 cases h with
 | err e hv=>rw [hl] at hv;cases hv
 | none hv=>rw [hl] at hv;injection hv with hv;exact absurd hv hne
 | odd l' q hv _ _ hq=>rw [hl] at hv;injection hv with hv;subst hv;rw [hc] at hq;injection hq with hq _;exact absurd hq (by omega)
 | end_ l' hv _ hq=>rw [hl] at hv;injection hv with hv;subst hv;rw [hc] at hq;injection hq with _ hq;cases hq
 | ok l' t' hv hs'=>rw [hl] at hv;injection hv with hv;subst hv;rw [b8Y hs' hs]
instance frz_fn0 (f:Fn) (c:Nat→HV):Frz (.fn f 0 c):=⟨.fn _ 0 _ _ (fun i hi=>absurd hi (Nat.not_lt_zero _))⟩
@[reducible] def c6o (ls:List (List UInt8)):Nat→Nat→HV:=fun i _=>strV (ls.getD i [])
@[reducible] def c7b (ls:List (List UInt8)):HV:=.sl 1 ls.length (c6o ls)
@[reducible] def c0P (g:Nat) (ls:List (List UInt8)):HObj:=⟨g,ls.length,1,9,0,c6o ls⟩
@[reducible] def c9o (g g2 n:Nat):HObj:=⟨g,1,1,123,0,fun _ _=>.os 8001 g2 0 n⟩
instance frz_nmsV (l:List (List UInt8)):Frz (c7b l):=⟨.sl _ _ _ _ fun i j _ _=>.imm _⟩
theorem b0r {kp sh:List (Nat×HObj)} {g:Nat} {l:List (List UInt8)}:OKz kp sh (c0P g l) (c0P g l):=.of fun i j _ _=>.fz _ _ (.imm _)
def c3U (l:List (List UInt8)) (s:List UInt8):Int:=if s∈l then (l.idxOf s:Int) else -1
theorem c8o {l:List (List UInt8)} {s:List UInt8} {k:Nat} (hk:k < l.length) (h:l.getD k []=s) (hn:∀ i,i < k→l.getD i []≠s):c3U l s=(k:Int):=by
 have hk':l[k]=s:=by rwa [List.getD_eq_getElem?_getD,List.getElem?_eq_getElem hk] at h
 have hm:s∈l:=by rw [←hk'];exact List.getElem_mem hk
 unfold c3U
 rw [if_pos hm]
 congr 1
 have hi:=List.idxOf_lt_length_of_mem hm
 have hgi:l[l.idxOf s]=s:=List.getElem_idxOf hi
 rcases Nat.lt_trichotomy (l.idxOf s) k with h1 | h1 | h1
 ·exact absurd (by rw [List.getD_eq_getElem?_getD,List.getElem?_eq_getElem hi];exact hgi) (hn _ h1)
 ·exact h1
 ·have:=List.not_of_lt_findIdx (p:=(· == s)) (xs:=l) (i:=k) h1
  simp [hk'] at this
theorem c7S {l:List (List UInt8)} {s:List UInt8} (hn:∀ i,i < l.length→l.getD i []≠s):c3U l s=-1:=by
 unfold c3U
 rw [if_neg]
 intro hm
 obtain ⟨i,hi,h⟩:=List.mem_iff_getElem.1 hm
 exact hn i hi (by rw [List.getD_eq_getElem?_getD,List.getElem?_eq_getElem hi];exact h)
theorem c5g (l:List (List UInt8)) (s:List UInt8):decide (0≤c3U l s)=decide (s∈l):=by
 unfold c3U
 by_cases h:s∈l
 ·rw [if_pos h,decide_eq_true h,decide_eq_true (by omega)]
 ·rw [if_neg h,decide_eq_false h];rfl
theorem c3P (g:Nat) (l:List (List UInt8)) (s:List UInt8) (hl:l.length≤1000000):a4S Tryz.prog 104 [.os 8001 g 0 l.length,strV s] [(8001,c0P g l)] (intV (c3U l s)) [(8001,c0P g l)]:=by
 intro c
 refine a0v Tryz.func104 rfl kr _ _ _ _ rfl 19 rfl rfl (fun X ok hX=>?_)
 refine ru 14 ?_
 refine a0l (α:=Nat) (fun x c=>⟨19,[(0,.v (.os 8001 g 0 l.length)),(1,.v (strV s)),(7,.v (intV l.length)),(8,.v (intV x))],[(8001,c0P g l)],c⟩) (fun x=>x≤l.length∧∀ i,i < x→l.getD i []≠s) (fun x=>l.length - x) (0) (by exact ⟨Nat.zero_le _,fun i h=>absurd h (Nat.not_lt_zero _)⟩) (a0c rfl (Nat.le_refl _) tsa hsa) (fun k c hx NhL1 hL1=>?_)
 (try dsimp only at hx hL1 ⊢)
 obtain ⟨hk,hE⟩:=hx
 refine ru 6 ?_
 refine wdc (fun hr0 hc0=>?_) (fun hr0 hc0=>?_)
 ·refine ru 17 ?_
  refine rvl (strV (l.getD k [])) (by simp only [Nat.zero_add];rfl) ?_
  refine ru 3 ?_
  refine wdc (fun hr1 hc1=>?_) (fun hr1 hc1=>?_)
  ·skip
   have hks:l.getD k []=s:=(by have h:=hr1;simpa [eq_comm] using h)
   refine ru 9 ?_
   refine a0o ?_
   refine ru 2 ?_
   refine fr1 ok hX rw1 (()) (trivial) (by rw [c8o om hks hE];exact kza) ?_
   exact ⟨⟨_,rfl,b0r⟩,trivial⟩
  refine ru 7 ?_
  exact hL1 (k+1) _ _ (by (try dsimp only);exact ⟨by omega,fun i hi=>by by_cases e:i=k;(· subst e;exact fun h=>by rw [h] at hr1;simp at hr1);exact hE i om⟩) (by (try dsimp only);omega) (a0c rfl (Nat.le_refl _) tsa hsa)
 refine ru 2 ?_
 refine a0d ?_
 refine ru 8 ?_
 refine fr1 ok hX rw1 (()) (trivial) (by rw [c7S (fun i hi=>hE i om)];exact kza) ?_
 exact ⟨⟨_,rfl,b0r⟩,trivial⟩
theorem b6F (g:Nat) (l:List (List UInt8)) (s:List UInt8) (hl:l.length≤1000000):a4S Tryz.prog 88 [.os 8001 g 0 l.length,strV s] [(8001,c0P g l)] (boolV (decide (s∈l))) [(8001,c0P g l)]:=by
 intro c
 refine a0v Tryz.func88 rfl kr _ _ _ _ rfl 9 rfl rfl (fun X ok hX=>?_)
 refine ru 9 ?_
 refine a0s 7 (xs:=[_,_]) (pre:=[(8001,_)]) (c3P g l s hl _) ⟨rfl,⟨rfl,trivial⟩⟩ (a0i rfl a0g) rfl rfl (fun u c1 hx1=>?_)
 (try dsimp only)
 refine ru 5 ?_
 refine fr1 ok hX rw1 (()) (trivial) (by rw [←c5g];exact kza) ?_
 exact ⟨⟨_,rfl,b0r⟩,trivial⟩
theorem c1x {kp sh:List (Nat×HObj)} {l o':List (List UInt8)} {x:List UInt8} {g n ty:Nat} {f:Nat→Nat→HV} (ho:l++[x]=o') (hn:n=l.length:=by rfl) (h0:f 0 0=strV x:=by rfl):OKz kp sh ⟨g,n+1,1,ty,0,cat n (c6o l) f⟩ ⟨g,o'.length,1,ty,0,c6o o'⟩:=by
 subst hn;subst ho
 refine ⟨rfl,by simp,rfl,rfl,Nat.le_refl _,fun i j hi hj=>.fz _ _ ?_,fun h=>absurd h (Nat.not_lt_zero _)⟩
 show Fz sh (cat l.length (c6o l) f i j) (strV ((l++[x]).getD i []))
 by_cases h':i < l.length
 ·rw [a9n h',a4z h'];exact .imm _
 ·have hi':i=l.length:=by simp only at hi;omega
  subst hi'
  obtain rfl:j=0:=by simp only at hj;omega
  rw [a9i (Nat.le_refl _),Nat.sub_self,a2o,h0];exact .imm _
theorem c8G (c g g2:Nat) (l:List (List UInt8)) (s:List UInt8) (hl:l.length≤100000):a4s Tryz.prog 87 c [strV s,.pt 8002 g 0 0] [(8002,c9o g g2 l.length),(8001,c0P g2 l)]
  (a9t (fun (_:Nat) _=>True) (fun _=>.tup 0 fun _=>default) (fun g'=>[(8002,c9o g g' (if s∈l then l else l++[s]).length),(8001,c0P g' (if s∈l then l else l++[s]))])):=by
 refine a0v Tryz.func87 rfl kr _ _ _ _ rfl 11 rfl rfl (fun X ok hX=>?_)
 refine ru 4 ?_
 refine hq_ 5 (a0C (xs:=[_,_]) (pre:=[(8001,_)]) (b6F g2 l s om) ⟨rfl,⟨rfl,trivial⟩⟩) rfl rfl (a0i rfl a0g) rfl rfl ?_
 refine ru 3 ?_
 refine wdc (fun hr0 hc0=>?_) (fun hr0 hc0=>?_)
 ·skip
  have hns:¬ s∈l:=(by have h:=hr0;simpa using h)
  refine ru 3 ?_
  refine a0u 9 (a0b (id:=9) (hs:=[_]) ei_123.h omx rfl omx ⟨rfl,rfl,rfl,rfl,trivial⟩) rfl rfl a0g rfl rfl (c':=c+1) rfl ?_
  first
  | refine a0u 10 (a0a ei_123.h (by first | exact Nat.le_of_ble_eq_true rfl | omega | (dsimp only;omega) | (simp <;> omega)) rfl (by first | exact Nat.le_of_ble_eq_true rfl | omega | (dsimp only;omega) | (simp <;> omega)) (by first | exact Nat.le_of_ble_eq_true rfl | omega | (dsimp only;omega) | (simp <;> omega)) (a0x rfl (by first | exact Nat.le_of_ble_eq_true rfl | omega | (dsimp only;omega) | (simp <;> omega))) (by first | exact Nat.le_of_ble_eq_true rfl | omega | (dsimp only;omega) | (simp <;> omega)) rfl) rfl rfl (a0i rfl (a0P rfl)) rfl rfl (c':=c+2) rfl ?_
  | refine a0u 10 (a0a ei_123.h (by first | exact Nat.le_of_ble_eq_true rfl | omega | (dsimp only;omega) | (simp <;> omega)) rfl (by first | exact Nat.le_of_ble_eq_true rfl | omega | (dsimp only;omega) | (simp <;> omega)) (by first | exact Nat.le_of_ble_eq_true rfl | omega | (dsimp only;omega) | (simp <;> omega)) (a0S rfl (by first | exact Nat.le_of_ble_eq_true rfl | omega | (dsimp only;omega) | (simp <;> omega))) (by first | exact Nat.le_of_ble_eq_true rfl | omega | (dsimp only;omega) | (simp <;> omega)) rfl) rfl rfl (a0i rfl (a0P rfl)) rfl rfl (c':=c+2) rfl ?_
  | refine a0u 10 (a0a ei_123.h (by first | exact Nat.le_of_ble_eq_true rfl | omega | (dsimp only;omega) | (simp <;> omega)) rfl (by first | exact Nat.le_of_ble_eq_true rfl | omega | (dsimp only;omega) | (simp <;> omega)) (by first | exact Nat.le_of_ble_eq_true rfl | omega | (dsimp only;omega) | (simp <;> omega)) (a0O rfl) (by first | exact Nat.le_of_ble_eq_true rfl | omega | (dsimp only;omega) | (simp <;> omega)) rfl) rfl rfl (a0i rfl a0g) rfl rfl (c':=c+2) rfl ?_
  | refine a0u 10 (a0a ei_123.h (by first | exact Nat.le_of_ble_eq_true rfl | omega | (dsimp only;omega) | (simp <;> omega)) rfl (by first | exact Nat.le_of_ble_eq_true rfl | omega | (dsimp only;omega) | (simp <;> omega)) (by first | exact Nat.le_of_ble_eq_true rfl | omega | (dsimp only;omega) | (simp <;> omega)) (a0z 1 (fun _ _=>default) rfl) (by first | exact Nat.le_of_ble_eq_true rfl | omega | (dsimp only;omega) | (simp <;> omega)) rfl) rfl rfl (a0i rfl a0g) rfl rfl (c':=c+2) rfl ?_
  refine ru 2 ?_
  refine a1Y ?_
  refine a1w ok hX a3g.one rfl  [] rfl a0g ((c+1)) (trivial) (by rfl) (by rfl) (kza) ?_
  exact ⟨⟨_,rfl,(by exact c6q (a9v rfl rfl (by rw [if_neg hns];simp)))⟩,⟨⟨_,rfl,(by exact c1x (x:=s) (by rw [if_neg hns]))⟩,trivial⟩⟩
 have hns:s∈l:=(by have h:=hr0;simpa using h)
 refine ru 1 ?_
 refine a1Y ?_
 refine a1w ok hX a3g.one rfl  [] rfl a0g (g2) (trivial) (by rfl) (by rfl) (kza) ?_
 exact ⟨⟨_,rfl,(by exact c6q (a9v rfl rfl (by rw [if_pos hns])))⟩,⟨⟨_,rfl,(by rw [if_pos hns];exact b0r)⟩,trivial⟩⟩
theorem a5M {e:List Pt} {i:Nat} (h:i < e.length) (hk:(e.getD i default).kind=1):a2h (e.take (i+1))=if (e.getD i default).name∈a2h (e.take i) then a2h (e.take i) else a2h (e.take i)++[(e.getD i default).name]:=by
 rw [a7u h]
 unfold b7d
 by_cases hm:(e.getD i default).name∈a2h (e.take i)
 ·rw [if_neg (fun h=>h.2 hm),if_pos hm]
 ·rw [if_pos ⟨hk,hm⟩,if_neg hm]
theorem a5O {e:List Pt} {i:Nat} (h:i < e.length) (hk:¬ (e.getD i default).kind=1):a2h (e.take (i+1))=a2h (e.take i):=by
 rw [a7u h]
 unfold b7d
 rw [if_neg (fun h=>hk h.1)]
theorem c5S (e:List Pt) (he:e.length≤100000):HPure Tryz.prog 53 [ptsV e] (c7b (a2h e)):=by
 have hnl:=fun i=>a8C (e:=e) i
 refine a0k Tryz.func53 rfl kr _ _ _ rfl 23 rfl rfl (fun w F=>?_)
 refine ru 7 ?_
 refine a0u 3 (a0X (id:=8002) (sz:=1) zc_123.h rfl rfl (by decide) (by decide)) rfl rfl a0g rfl rfl (c':=1) rfl ?_
 refine ru 3 ?_
 refine (a1x 8002 0 8001 1 9 (c6o []) (fun _ _=>.os 8001 1 0 0) rfl rfl (fun j hj=>.inl ⟨by omega,rfl⟩) (by decide) (by decide) (c':=2) rfl).wp ?_
 refine ru 14 ?_
 refine a0l (α:=Nat×Nat) (fun x c=>⟨23,[(3,.v (.pt 8002 0 0 0)),(4,.v (.fn (.func 87) 1 (fun q=>[HV.pt 8002 0 0 0].getD q default))),(8,.v (ptsV e)),(9,.v (intV e.length)),(10,.v (intV x.1))],[(8002,c9o 0 x.2 (a2h (e.take x.1)).length),(8001,c0P x.2 (a2h (e.take x.1)))],c⟩) (fun x=>x.1≤e.length) (fun x=>e.length - x.1) ((0,1)) (by exact Nat.zero_le _) (a0c rfl (Nat.le_refl _) tsa hsa) (fun x c hx NhL1 hL1=>?_)
 revert hx hL1;obtain ⟨i,g⟩:=x;intro hx hL1;dsimp only at hx hL1 ⊢
 refine ru 6 ?_
 refine wdc (fun hr0 hc0=>?_) (fun hr0 hc0=>?_)
 ·skip
  have hil:i < e.length:=om;have hnli:=hnl i
  refine ru 16 ?_
  refine rvl (intV (e.getD i default).kind) (rfl) ?_
  refine ru 3 ?_
  refine wdc (fun hr1 hc1=>?_) (fun hr1 hc1=>?_)
  ·refine ru 4 ?_
   refine rvl (strV (e.getD i default).name) (rfl) ?_
   refine b2o 20 (xs:=[_]) (cs:=[_]) (pre:=[(8002,_),(8001,_)]) (c8G _ 0 g (a2h (e.take i)) (e.getD i default).name om) rfl rfl (fun i hi=>by first | rfl | (rcases i with _ | i <;> first | rfl | (exact absurd hi om) | (simp at hi))) ⟨rfl,trivial⟩ (a0i rfl (a0i rfl a0g)) rfl rfl (fun g3 c1 hx1=>?_)
   (try dsimp only)
   refine ru 7 ?_
   exact hL1 ((i+1,g3)) _ _ (by (try dsimp only);omega) (by (try dsimp only);omega) (a0c rfl (Nat.le_refl _) tsa (a0f.cons rfl (by dsimp only;rw [a5M hil hc1];exact .refl _) (a0f.cons rfl (by dsimp only;rw [a5M hil hc1];exact .refl _) a0f.nil)))
  refine ru 7 ?_
  exact hL1 ((i+1,g)) _ _ (by (try dsimp only);omega) (by (try dsimp only);omega) (a0c rfl (Nat.le_refl _) tsa (a0f.cons rfl (by dsimp only;rw [a5O hil hc1];exact .refl _) (a0f.cons rfl (by dsimp only;rw [a5O hil hc1];exact .refl _) a0f.nil)))
 refine ru 2 ?_
 refine a0d ?_
 refine ru 3 ?_
 obtain rfl:i=e.length:=om
 refine ru 6 ?_
 refine a5f rfl (a0h rfl) [(8001,_)] rfl (a0i rfl a0g) ?_
 rw [List.take_length];exact a2r (l:=a2h e) (enc:=fun x _=>strV x) (d:=[]) (List.mem_cons_self ..) rfl rfl (Nat.le_refl _) (fun i j _ _=>.imm _)
structure MeanOk (mf:FuncId) (mk:Nat) (mcaps:Nat→HV) (mcs:List HV) (m:List UInt8→Bag):Prop where
 len:mcs.length=mk
 cap:∀ i,i < mk→mcs[i]?=some (mcaps i)
 fz:FzAll [] mcs mcs
 ff:∀ sh,Fz sh (.fn (.func mf) mk mcaps) (.fn (.func mf) mk mcaps)
 h:∀ s,nameV s=true→HPure Tryz.prog mf ([strV s]++mcs) (bagH (m s))
 ok:∀ s,(m s).ok
section
variable {mf:FuncId} {mk:Nat} {mcaps:Nat→HV} {mcs:List HV} {m:List UInt8→Bag}
mutual
theorem b9B (M:MeanOk mf mk mcaps mcs m) (e:List Pt) (he:e.length≤100000):∀ (t:T) (b:Nat),t.ok=true→AtP e b (T.flat b t)→c6p (.fn (.func mf) mk mcaps) m e b t
  | .name s,b,hok,hat=>b3W mf mk mcaps mcs M.len M.cap M.fz M.ff m M.h M.ok e he b (.name s) hok hat (Nat.zero_le _) (fun i hi=>absurd hi (Nat.not_lt_zero _))
  | .times lo hi t, b, hok, hat => by
    have hok':t.ok=true:=by simp only [T.ok,Bool.and_eq_true] at hok;exact hok.2
    refine b3W mf mk mcaps mcs M.len M.cap M.fz M.ff m M.h M.ok e he b (.times lo hi t) hok hat (by simp [T.kidsT]) (fun i hi=>?_)
    obtain rfl:i=0:=by simpa [T.kidsT] using hi
    have:=b9B M e he t b hok' (by simp only [T.flat] at hat;exact a4J hat)
    simpa [T.kidsT,T.sizeL] using this
  | .many k ts, b, hok, hat => by
    have hok':T.okL ts=true:=by simp only [T.ok,Bool.and_eq_true] at hok;exact hok.2
    have hkl:(T.many k ts).kidsT.length≤100000:=by
      have:=a6I (t:=.many k ts);have:=(a3x hat).2;omega
    exact b3W mf mk mcaps mcs M.len M.cap M.fz M.ff m M.h M.ok e he b (.many k ts) hok hat hkl (fun i hi=>b9H M e he ts hok' i hi _ (a2p hat hi))
theorem b9H (M:MeanOk mf mk mcaps mcs m) (e:List Pt) (he:e.length≤100000):∀ ts:List T,T.okL ts=true→∀ i,i < ts.length→∀ b,AtP e b (T.flat b (ts.getD i default))→c6p (.fn (.func mf) mk mcaps) m e b (ts.getD i default)
  | [],_,i,hi=>absurd hi (Nat.not_lt_zero _)
  | t :: ts, hok, i, hi => fun b hat => by
    simp only [T.okL,Bool.and_eq_true] at hok
    cases i with
    | zero=>exact b9B M e he t b hok.1 hat
    | succ i=>exact b9H M e he ts hok.2 i (by simpa using hi) b (by simpa using hat)
end
end
deriving instance DecidableEq for Bag
theorem c0A (w:World) (a0 a1 a2 a3 b0 b1 b2 b3:Nat) (d:Nat):(Op.equalIn (d+2) 45 (.agg #[.int .u64 a0,.int .u64 a1,.int .u64 a2,.int .u64 a3]) (.agg #[.int .u64 b0,.int .u64 b1,.int .u64 b2,.int .u64 b3])).run Tryz.prog w=.ok (decide (a0=b0∧a1=b1∧a2=b2∧a3=b3)) w:=by
 unfold Op.equalIn
 simp only [Sem.run_bind,run_underlying Tryz.underlying45,Result.andThen_ok]
 simp [List.range',part,go_sem]
 simp only [Int.natCast_inj]
 by_cases h0:a0=b0 <;> by_cases h1:a1=b1 <;> by_cases h2:a2=b2 <;> by_cases h3:a3=b3 <;> simp [h0,h1,h2,h3]
theorem a8W (w:World) (s t:Bag) (d:Nat):(Op.equalIn (d+3) 47 (.agg s.cells.toArray) (.agg t.cells.toArray)).run Tryz.prog w=.ok (decide (s=t)) w:=by
 simp [Bag.cells,go_sem]
 rw [c0A]
 simp only [Result.andThen_ok]
 cases s;cases t
 simp only [Bag.mk.injEq]
 split <;> simp_all
theorem a6r {w:World} {E:Env} {v:Value} {x:Bag} {f:Nat→HV} (hf:∀ j,j < 4→f j=a2I x j) (h:Rep w E v (.agg 4 f)):v=.agg x.cells.toArray:=by
 refine a6l (w:=w) (E:=E) ?_
 cases h with
 | agg cs _ _ vs hn hv h=>exact .agg cs 4 _ vs hn hv (fun i hi=>by rw [←hf i hi];exact h i hi)
section
variable {ov:Nat→Option HV} {g:Nat} {d:Option Tmp} {ty:TypeId} {pos:String} {af:Array Edge} {gd:Option (Nat×Bool)} {T yT:TypeId} {x y:Operand}
theorem a6e (s t:Bag) {f1 f2:Nat→HV} (hT:T=47) (h1:ovl ov x=some (.agg 4 f1)) (h2:ovl ov y=some (.agg 4 f2)) (hf1:∀ j,j < 4→f1 j=a2I s j) (hf2:∀ j,j < 4→f2 j=a2I t j) :
  HOp Tryz.prog ⟨d,.binOp .eql T x y yT,ty,pos,af,gd⟩ ov g [] (.imm (.bool (decide (s=t)))) [] :=
 a0q fun w E ρ hr=>by
  have hG:Tryz.prog.eqGuardType Tryz.prog.depth 47=false:=by kernel_rfl
  subst hT
  have e1:=a6r hf1 (hr x _ (by simp [Op.operands]) h1)
  have e2:=a6r hf2 (hr y _ (by simp [Op.operands]) h2)
  refine ⟨_,?_,.imm _⟩
  have hg:(eqGuard .eql 47 x y (.agg s.cells.toArray) (.agg t.cells.toArray)).run Tryz.prog w=.ok () w:=by
   simp [eqGuard,program,Sem.run,hG,Sem.run_bind]
  have hT:(binOp .eql 47 (.agg s.cells.toArray) (.agg t.cells.toArray)).run Tryz.prog w=.ok (.bool (decide (s=t))) w:=by
   simp only [run_eql_struct,a8W w s t 9997,Result.andThen_ok]
  simp only [execOp,e1,e2,Sem.run_bind,hg,Result.andThen_ok,hT,Sem.run_pure]
theorem a8I (s t:Bag) {f1 f2:Nat→HV} (hT:T=47) (h1:ovl ov x=some (.agg 4 f1)) (h2:ovl ov y=some (.agg 4 f2)) (hf1:∀ j,j < 4→f1 j=a2I s j) (hf2:∀ j,j < 4→f2 j=a2I t j) :
  HOp Tryz.prog ⟨d,.binOp .neq T x y yT,ty,pos,af,gd⟩ ov g [] (.imm (.bool (!decide (s=t)))) [] :=
 a0q fun w E ρ hr=>by
  have hG:Tryz.prog.eqGuardType Tryz.prog.depth 47=false:=by kernel_rfl
  subst hT
  have e1:=a6r hf1 (hr x _ (by simp [Op.operands]) h1)
  have e2:=a6r hf2 (hr y _ (by simp [Op.operands]) h2)
  refine ⟨_,?_,.imm _⟩
  have hg:(eqGuard .neq 47 x y (.agg s.cells.toArray) (.agg t.cells.toArray)).run Tryz.prog w=.ok () w:=by
   simp [eqGuard,program,Sem.run,hG,Sem.run_bind]
  have hT:(binOp .neq 47 (.agg s.cells.toArray) (.agg t.cells.toArray)).run Tryz.prog w=.ok (.bool (!decide (s=t))) w:=by
   simp only [run_neq_struct,a8W w s t 9997,Result.andThen_ok]
  simp only [execOp,e1,e2,Sem.run_bind,hg,Result.andThen_ok,hT,Sem.run_pure]
end
section
variable {mf:FuncId} {mk:Nat} {mcaps:Nat→HV} {mcs:List HV} {m:List UInt8→Bag}
theorem c7E (M:MeanOk mf mk mcaps mcs m) (s:List UInt8) (hs:nameV s=true):HPure Tryz.prog 54 ([strV s]++[.fp 1 (fun _=>.fn (.func mf) mk mcaps)]) (boolV (decide (m s=Bag.zero))):=by
 show HPure _ _ [strV s,.fp 1 (fun _=>.fn (.func mf) mk mcaps)] _
 refine a0k Tryz.func54 rfl kr _ _ _ rfl 9 rfl rfl (fun w F=>?_)
 refine ru 9 ?_
 refine s0 (a7f (xs:=[_]) (cs:=mcs) (M.h s hs) rfl M.len M.cap ⟨rfl,trivial⟩ ⟨(show Fz [] (strV s) (strV s) from Frz.fz),M.fz⟩) ?_
 refine ru 1 ?_
 refine s0 (a6e (m s) Bag.zero rfl rfl rfl (by exact j4 rfl rfl rfl rfl) (by exact j4 rfl rfl rfl rfl)) ?_
 refine ru 4 ?_
 refine rt1 ?_
 exact Frz.fz
theorem b5G {l:List (List UInt8)} {i:Nat} (h:i < l.length):l.getD i []=l[i]:=by rw [List.getD_eq_getElem?_getD,List.getElem?_eq_getElem h];rfl
theorem c0p {q:List UInt8→Bool} {l:List (List UInt8)} {i:Nat} (hi:i < l.length) (h:q (l.getD i [])=true) (hno:∀ j,j < i→q (l.getD j [])=false):l.findIdx? q=some i:=by
 rw [List.findIdx?_eq_some_iff_getElem]
 refine ⟨hi,by rw [←b5G hi];exact h,fun j hj=>?_⟩
 rw [←b5G (by omega:j < l.length),hno j hj];simp
theorem c0o {q:List UInt8→Bool} {l:List (List UInt8)} (hno:∀ j,j < l.length→q (l.getD j [])=false):l.findIdx? q=none:=by
 rw [List.findIdx?_eq_none_iff]
 intro x hx
 obtain ⟨j,hj,rfl⟩:=List.mem_iff_getElem.1 hx
 rw [←b5G hj];exact hno j hj
theorem c2z (q:List UInt8→Bool) (l:List (List UInt8)):decide ((match l.findIdx? q with | some i=>(i:Int) | none=>-1)≥0)=l.any q:=by
  cases h:l.findIdx? q with
  | none =>
    rw [List.findIdx?_eq_none_iff] at h
    simp only
    have:l.any q=false:=by rw [List.any_eq_false];intro x hx;rw [h x hx];simp
    rw [this];rfl
  | some i =>
    rw [List.findIdx?_eq_some_iff_getElem] at h
    obtain ⟨hi,hq,_⟩:=h
    have:l.any q=true:=List.any_eq_true.2 ⟨l[i],List.getElem_mem hi,hq⟩
    rw [this]
    simp
theorem c1p (f:FuncId) (k:Nat) (caps:Nat→HV) (cs:List HV) (q:List UInt8→Bool) (hk:cs.length=k) (hi:∀ i,i < k→cs[i]?=some (caps i)) (hz:FzAll [] cs cs) (l:List (List UInt8)) (hl:l.length≤1000000) (hq:∀ s∈l,HPure Tryz.prog f ([strV s]++cs) (boolV (q s))) :
  HPure Tryz.prog 86 [c7b l,.fn (.func f) k caps] (intV (match l.findIdx? q with | some i=>(i:Int) | none=>-1)):=by
 refine a0k Tryz.func86 rfl kr _ _ _ rfl 19 rfl rfl (fun w F=>?_)
 refine ru 14 ?_
 refine a0l (α:=Nat) (fun x c=>⟨19,[(0,.v (c7b l)),(1,.v (.fn (.func f) k caps)),(7,.v (intV l.length)),(8,.v (intV (x:Int)))],[],c⟩) (fun x=>x≤l.length∧∀ j,j < x→q (l.getD j [])=false) (fun x=>l.length - x) (0) (by exact ⟨Nat.zero_le _,fun j hj=>absurd hj (Nat.not_lt_zero _)⟩) (a0c rfl (Nat.le_refl _) tsa a0f.nil) (fun i c hx NhL1 hL1=>?_)
 (try dsimp only at hx hL1 ⊢)
 obtain ⟨hil,hno⟩:=hx
 refine ru 6 ?_
 refine wdc (fun hr0 hc0=>?_) (fun hr0 hc0=>?_)
 ·refine ru 17 ?_
  refine s0 (a7f (xs:=[_]) (cs:=cs) (hq (l.getD i []) (by rw [b5G om];exact List.getElem_mem _)) rfl hk hi ⟨rfl,trivial⟩ ⟨(show Fz [] (strV (l.getD i [])) (strV (l.getD i [])) from Frz.fz),hz⟩) ?_
  refine ru 2 ?_
  refine wdc (fun hr1 hc1=>?_) (fun hr1 hc1=>?_)
  ·refine ru 9 ?_
   refine a0o ?_
   refine ru 2 ?_
   refine rt1 ?_
   rw [c0p om hc1 hno];exact .imm _
  refine ru 7 ?_
  exact hL1 (i+1) _ _ (by (try dsimp only);exact ⟨by omega,fun j hj=>by rcases Nat.lt_or_ge j i with h | h;exact hno j h;obtain rfl:j=i:=om;exact hc1⟩) (by (try dsimp only);omega) (a0c rfl (Nat.le_refl _) tsa a0f.nil)
 refine ru 2 ?_
 refine a0d ?_
 refine ru 8 ?_
 refine rt1 ?_
 rw [c0o (fun j hj=>hno j om)];exact .imm _
theorem b3Q (f:FuncId) (k:Nat) (caps:Nat→HV) (cs:List HV) (q:List UInt8→Bool) (hk:cs.length=k) (hi:∀ i,i < k→cs[i]?=some (caps i)) (hz:FzAll [] cs cs) (hff:∀ sh,Fz sh (.fn (.func f) k caps) (.fn (.func f) k caps)) (l:List (List UInt8)) (hl:l.length≤1000000) (hq:∀ s∈l,HPure Tryz.prog f ([strV s]++cs) (boolV (q s))) :
  HPure Tryz.prog 52 [c7b l,.fn (.func f) k caps] (boolV (l.any q)):=by
 refine a0k Tryz.func52 rfl kr _ _ _ rfl 9 rfl rfl (fun w F=>?_)
 refine ru 9 ?_
 refine s0 (a0e (xs:=[_,_]) (c1p f k caps cs q hk hi hz l hl hq) ⟨rfl,⟨rfl,trivial⟩⟩ ⟨fe,⟨(hff _),trivial⟩⟩) ?_
 refine ru 5 ?_
 refine rt1 ?_
 rw [←c2z];exact .imm _
end
def c9e (w:Nat) (on:List Bag) (β:Nat→Bag) (p:Pc):Nat→HV:=fun j=>match j with
 | 0=>.sl 4 w (b8j (onF on)) | 1=>.sl 4 w (b8j β)
 | 2=>a2I p.first 0 | 3=>a2I p.first 1 | 4=>a2I p.first 2 | 5=>a2I p.first 3
 | 6=>a2I p.ends 0 | 7=>a2I p.ends 1 | 8=>a2I p.ends 2 | 9=>a2I p.ends 3
 | _=>boolV p.empty
@[reducible] def netP (w:Nat) (on:List Bag) (β:Nat→Bag) (p:Pc):HV:=.fp 11 (c9e w on β p)
@[reducible] def noNet (e:Int):HV:=t2 (.imm (.pointer none)) (intV e)
@[reducible] def treeNet (m:List UInt8→Bag) (t:T):HV:=netP (0+t.w) (lay m t 0).on (links (fun _=>Bag.zero) (lay m t 0).lk) (lay m t 0).pc
theorem j11 {P:Nat→Prop} (h0:P 0) (h1:P 1) (h2:P 2) (h3:P 3) (h4:P 4) (h5:P 5) (h6:P 6) (h7:P 7) (h8:P 8) (h9:P 9) (h10:P 10):∀ j,j < 11→P j:=fun j hj=>by
 match j,hj with | 0,_=>exact h0 | 1,_=>exact h1 | 2,_=>exact h2 | 3,_=>exact h3 | 4,_=>exact h4 | 5,_=>exact h5 | 6,_=>exact h6 | 7,_=>exact h7 | 8,_=>exact h8 | 9,_=>exact h9 | 10,_=>exact h10
def noneV (m:List UInt8→Bag) (e:List Pt):Bool:=(a2h e).any (fun s=>decide (m s=Bag.zero))
inductive NewIs (m:List UInt8→Bag) (e:List Pt):HV→Prop
 | bad (h:rightV e=false):NewIs m e (noNet 1)
 | none (h:rightV e=true) (h2:noneV m e=true):NewIs m e (noNet 6)
 | nil (h:e=[]):NewIs m e (t2 (netP 0 [] (fun _=>Bag.zero) ⟨Bag.zero,Bag.zero,true⟩) (intV 0))
 | full (t:T) (hok:t.ok=true) (h:e=T.flat 0 t) (h2:noneV m e=false) (hw:256 < t.w):NewIs m e (noNet 7)
 | fine (t:T) (hok:t.ok=true) (h:e=T.flat 0 t) (h2:noneV m e=false) (hw:t.w≤256):NewIs m e (t2 (treeNet m t) (intV 0))
theorem b2y:rightV []=true:=by decide +kernel
theorem c0r {m:List UInt8→Bag} {e:List Pt} {r:HV} (hr:NewIs m e r) (h:rightV e=false):r=noNet 1:=by
 cases hr with
 | bad=>rfl
 | none h' _=>rw [h] at h';cases h'
 | nil h'=>subst h';rw [b2y] at h;cases h
 | full t hok h'=>subst h';rw [a4y hok] at h;cases h
 | fine t hok h'=>subst h';rw [a4y hok] at h;cases h
theorem b6P {m:List UInt8→Bag} {e:List Pt} {r:HV} (hr:NewIs m e r) (h:rightV e=true) (h2:noneV m e=true):r=noNet 6:=by
 cases hr with
 | bad h'=>rw [h] at h';cases h'
 | none=>rfl
 | nil h'=>subst h';cases h2
 | full t _ _ h'=>rw [h2] at h';cases h'
 | fine t _ _ h'=>rw [h2] at h';cases h'
theorem c0m {m:List UInt8→Bag} {r:HV} (hr:NewIs m [] r):r=t2 (netP 0 [] (fun _=>Bag.zero) ⟨Bag.zero,Bag.zero,true⟩) (intV 0):=by
 generalize he:([]:List Pt)=e at hr
 cases hr with
 | bad h'=>subst he;rw [b2y] at h';cases h'
 | none _ h'=>subst he;cases h'
 | nil=>rfl
 | full t _ h'=>subst he;have:=congrArg List.length h';rw [T.flat_len] at this;have:=t.size_pos;simp at *;omega
 | fine t _ h'=>subst he;have:=congrArg List.length h';rw [T.flat_len] at this;have:=t.size_pos;simp at *;omega
theorem b6D {m:List UInt8→Bag} {e:List Pt} {r:HV} (hr:NewIs m e r) (h:rightV e=true) (h2:noneV m e=false) (h3:e.length≠0):∃ t:T,t.ok=true∧e=T.flat 0 t∧((256 < t.w∧r=noNet 7)∨(t.w≤256∧r=t2 (treeNet m t) (intV 0))):=by
 cases hr with
 | bad h'=>rw [h] at h';cases h'
 | none _ h'=>rw [h2] at h';cases h'
 | nil h'=>subst h';exact absurd rfl h3
 | full t hok h' _ hw=>exact ⟨t,hok,h',.inl ⟨hw,rfl⟩⟩
 | fine t hok h' _ hw=>exact ⟨t,hok,h',.inr ⟨hw,rfl⟩⟩
theorem b7X {sh:List (Nat×HObj)} {id g n n':Nat} {γ γ':Nat→Bag} (ho:(id,a4t g n γ)∈sh) (hn:n'=n) (h:∀ i,i < n→γ i=γ' i):Fz sh (.os id g 0 n') (.sl 4 n' (b8j γ')):=by
 subst hn
 refine Fz.os id g 0 n' _ _ ho rfl (by show 0+n'≤n';omega) (fun i j hi hj=>?_)
 show Fz sh (a2I (γ (0+i)) j) (a2I (γ' i) j)
 rw [Nat.zero_add,h i hi];exact .imm _
theorem a7r:∀ (l:List Pt) (o:List (List UInt8)) (s:List UInt8),s∈l.foldl b7d o→s∈o∨∃ x∈l,x.kind=1∧x.name=s
  | [],o,s,h=>.inl h
  | x :: l, o, s, h => by
    rcases a7r l (b7d o x) s h with h' | ⟨y,hy,h1,h2⟩
    · unfold b7d at h'
      split at h'
      · rename_i hk
        rcases List.mem_append.1 h' with h'' | h''
        · exact .inl h''
        · rw [List.mem_singleton] at h'';exact .inr ⟨x,List.mem_cons_self ..,hk.1,h''.symm⟩
      · exact .inl h'
    · exact .inr ⟨y,List.mem_cons_of_mem _ hy,h1,h2⟩
theorem c2B {e:List Pt} (hR:rightV e=true) (s:List UInt8) (hs:s∈a2h e):nameV s=true:=by
 rcases a7r e [] s hs with h | ⟨x,hx,hk,rfl⟩
 ·cases h
 ·rcases b4h hR with rfl | ⟨t,hok,rfl⟩
  ·cases hx
  ·have:=a8Y t 0 hok x hx
   unfold a1V at this
   simp [hk] at this
   simp [this]
section
variable {ov:Nat→Option HV} {g:Nat} {d:Option Tmp} {ty:TypeId} {pos:String} {af:Array Edge} {gd:Option (Nat×Bool)} {T yT:TypeId} {x y:Operand}
theorem b2d {f:Fn} {n:Nat} {caps:Nat→HV} (hT:T=74) (h1:ovl ov x=some (.fn f n caps)) (h2:ovl ov y=some (.imm .nilFunc)) :
    HOp Tryz.prog ⟨d,.binOp .eql T x y yT,ty,pos,af,gd⟩ ov g [] (.imm (.bool false)) [] :=
  a0q fun w E ρ hr=>by
    subst hT
    have e1:=hr x _ (by simp [Op.operands]) h1
    have e2:=Rep.imm_inv (hr y _ (by simp [Op.operands]) h2)
    generalize hv:ρ x=v at e1
    cases e1 with
    | fn _ vcs _ _ vs hn hvv hrr =>
      refine ⟨_,?_,.imm _⟩
      have hg:(eqGuard .eql 74 x y (.func f #[] vcs) .nilFunc).run Tryz.prog w=.ok () w:=by kernel_rfl
      have hT:(binOp .eql 74 (.func f #[] vcs) .nilFunc).run Tryz.prog w=.ok (.bool false) w:=by kernel_rfl
      simp only [execOp,hv,e2,Sem.run_bind,hg,Result.andThen_ok,hT,Sem.run_pure]
end
section
variable {mf:FuncId} {mk:Nat} {mcaps:Nat→HV} {mcs:List HV} {m:List UInt8→Bag}
theorem c4b (M:MeanOk mf mk mcaps mcs m) (e:List Pt) (he:PtB e) (r:HV) (hr:NewIs m e r):HPure Tryz.prog 25 [ptsV e,.fn (.func mf) mk mcaps] r:=by
 have hel:=he.1
 refine a0k Tryz.func25 rfl kr _ _ _ rfl 55 rfl rfl (fun w F=>?_)
 refine ru 11 ?_
 refine cll (c5E e he) ?_
 refine ru 3 ?_
 refine stg 11 (fun hb=>b2d rfl rfl rfl) rfl rfl rfl rfl rfl ?_
 refine ru 3 ?_
 refine wdc (fun hr0 hc0=>?_) (fun hr0 hc0=>?_)
 ·skip
  have hR:rightV e=false:=(by simpa using hr0)
  refine ru 8 ?_
  refine rt2 ?_
  rw [c0r hr hR];exact .tup _ _ _ (fun i hi=>by match i,hi with | 0,_=>exact .imm _ | 1,_=>exact .imm _)
 have hR:rightV e=true:=(by simpa using hr0)
 refine ru 6 ?_
 refine cll (c5S e he.1) ?_
 refine ru 1 ?_
 refine (a1a 17 [(3,_)] rfl (a0i rfl a0g) rfl ((show Fz _ _ (.fn (.func 54) 1 (fun i=>[HV.fp 1 (fun _=>.fn (.func mf) mk mcaps)].getD i default)) from .fn _ _ _ _ (fun i hi=>by obtain rfl:i=0:=om;exact .pt 3 _ 0 0 1 _ _ (.head _) rfl (Nat.lt_succ_self 0) (Nat.le_refl _) (fun j hj=>M.ff _))))).seq ?_
 refine s0 (a0e (xs:=[_,_]) (b3Q 54 1 (fun i=>[HV.fp 1 (fun _=>.fn (.func mf) mk mcaps)].getD i default) [.fp 1 (fun _=>.fn (.func mf) mk mcaps)] (fun s=>decide (m s=Bag.zero)) rfl (fun i hi=>by obtain rfl:i=0:=om;rfl) ⟨.fp _ _ (Nat.le_refl _) _ _ (fun j hj=>M.ff _),trivial⟩ (fun sh=>.fn _ _ _ _ (fun i hi=>by obtain rfl:i=0:=om;exact .fp _ _ (Nat.le_refl _) _ _ (fun j hj=>M.ff _))) (a2h e) (by have:=a8C (e:=e) e.length;rw [List.take_length] at this;omega) (fun s hs=>c7E M s (c2B hR s hs))) ⟨rfl,⟨rfl,trivial⟩⟩ ⟨(Fz.eq rfl),⟨(.fn _ _ _ _ (fun i hi=>by obtain rfl:i=0:=om;exact .fp _ _ (Nat.le_refl _) _ _ (fun j hj=>M.ff _))),trivial⟩⟩) ?_
 refine ru 2 ?_
 refine wdc (fun hr1 hc1=>?_) (fun hr1 hc1=>?_)
 ·refine ru 8 ?_
  refine rt2 ?_
  rw [b6P hr hR hr1];exact .tup _ _ _ (fun i hi=>by match i,hi with | 0,_=>exact .imm _ | 1,_=>exact .imm _)
 refine ru 10 ?_
 refine wdc (fun hr2 hc2=>?_) (fun hr2 hc2=>?_)
 ·skip
  obtain rfl:e=[]:=(by apply List.length_eq_zero_iff.1;omega)
  refine ru 10 ?_
  refine a8y rfl (a0h rfl) (a0h rfl) [(23,_)] rfl (a0i rfl a0g) ?_
  rw [c0m hr];exact .tup _ _ _ (fun i hi=>by match i,hi with | 0,_=>exact .pt 23 _ 0 0 11 _ _ (.head _) rfl (Nat.lt_succ_self 0) (Nat.le_refl _) (by exact j11 (.nil 0 4 _ (by decide) none) (.nil 0 4 _ (by decide) none) (.imm _) (.imm _) (.imm _) (.imm _) (.imm _) (.imm _) (.imm _) (.imm _) (.imm _)) | 1,_=>exact .imm _)
 obtain ⟨t,hok,het,hw⟩:=b6D hr hR hr1 om;have hat:AtP e 0 (T.flat 0 t):=⟨[],[],by simp [het],rfl⟩;have hsz:e.length=t.size:=(by rw [het];exact T.flat_len 0 t);have hps:=t.size_pos
 refine ru 9 ?_
 refine rvl (intV ((0+t.size - 1:Nat):Int)) (congrArg intV om) ?_
 refine cll (b1n e he.1 t 0 hok hat) ?_
 refine ru 3 ?_
 refine wdc (fun hr3 hc3=>?_) (fun hr3 hc3=>?_)
 ·refine ru 8 ?_
  refine rt2 ?_
  rcases hw with ⟨_,rfl⟩ | ⟨hw,_⟩;exact .tup _ _ _ (fun i hi=>by match i,hi with | 0,_=>exact .imm _ | 1,_=>exact .imm _);(exfalso;unfold a3J at hc3;rw [if_pos om] at hc3;omega)
 have hww:t.w≤256∧r=t2 (treeNet m t) (intV 0):=(by rcases hw with ⟨hw,_⟩ | hw;(exfalso;unfold a3J at hc3;split at hc3 <;> omega);exact hw);obtain ⟨hwl,rfl⟩:=hww
 refine ru 5 ?_
 refine a0u 31 (a6a (id:=9001) (sz:=11) rfl rfl rfl (by decide) (by decide)) rfl rfl a0g rfl rfl (c':=2) rfl ?_
 refine ru 4 ?_
 refine (a1x 9001 0 9002 4 47 (b8j (onF [])) (c8j (.os 9002 2 0 0) (.imm (.slice none 0 0)) Bag.zero Bag.zero false) rfl rfl (by exact j11 (.inl ⟨rfl,rfl⟩) (.inr rfl) (.inr rfl) (.inr rfl) (.inr rfl) (.inr rfl) (.inr rfl) (.inr rfl) (.inr rfl) (.inr rfl) (.inr rfl)) (by decide) (by decide) (c':=3) rfl).wp ?_;refine (a1x 9001 1 9003 4 47 (b8j (fun _=>Bag.zero)) (c8j (.os 9002 2 0 0) (.os 9003 3 0 0) Bag.zero Bag.zero false) rfl rfl (by exact j11 (.inr rfl) (.inl ⟨rfl,rfl⟩) (.inr rfl) (.inr rfl) (.inr rfl) (.inr rfl) (.inr rfl) (.inr rfl) (.inr rfl) (.inr rfl) (.inr rfl)) (by decide) (by decide) (c':=4) rfl).wp ?_
 refine ru 6 ?_
 refine rvl (intV ((0+t.size - 1:Nat):Int)) (congrArg intV om) ?_
 refine ru 1 ?_
 refine a0s 38 (xs:=[_,_,_,_]) (pre:=[(9001,_),(9002,_),(9003,_)]) (b9B M e he.1 t 0 hok hat _ 1 2 3 0 [] (fun _=>Bag.zero) rfl om (fun _=>Bag.zero_ok) (fun _ _ _=>rfl)) ⟨rfl,⟨rfl,⟨rfl,⟨rfl,trivial⟩⟩⟩⟩ (a0i rfl (a0i rfl (a0i rfl a0g))) rfl rfl (fun x1 c1 hyy=>?_)
 obtain ⟨y2,y3⟩:=x1
 (try dsimp only)
 refine ru 27 ?_
 refine (a1e 9001 ⟨1,1,11,103,0,c8j (.os 9002 y2 0 (0+t.w)) (.os 9003 y3 0 (0+t.w)) (lay m t 0).pc.first (lay m t 0).pc.ends (lay m t 0).pc.empty⟩ rfl (by exact a2X.of (fun i j hi hj=>by obtain rfl:i=0:=om;match j,hj with | 0,_=>exact .refl _ | 1,_=>exact .refl _ | 2,_=>exact .refl _ | 3,_=>exact .refl _ | 4,_=>exact .refl _ | 5,_=>exact .refl _ | 6,_=>exact .refl _ | 7,_=>exact .refl _ | 8,_=>exact .refl _ | 9,_=>exact .refl _ | 10,_=>exact .refl _))).wp ?_
 refine ru 7 ?_
 refine a8y rfl (a0h rfl) (a0h rfl) [(9001,_),(9002,_),(9003,_)] rfl (a0i rfl (a0i rfl (a0i rfl a0g))) ?_
 exact .tup _ _ _ (fun i hi=>by match i,hi with | 0,_=>exact .pt 9001 _ 0 0 11 _ _ (.head _) rfl (Nat.lt_succ_self 0) (Nat.le_refl _) (by exact j11 (b7X (γ':=onF (lay m t 0).on) (.tail _ (.head _)) rfl (fun _ _=>rfl)) (b7X (γ':=links (fun _=>Bag.zero) (lay m t 0).lk) (.tail _ (.tail _ (.head _))) rfl (fun _ _=>rfl)) (.imm _) (.imm _) (.imm _) (.imm _) (.imm _) (.imm _) (.imm _) (.imm _) (.imm _)) | 1,_=>exact .imm _)
end
@[reducible] def MnC (e:List Pt) (b:Nat) (t:T):Prop:=HPure Tryz.prog 21 [ptsV e,intV ((b+t.size - 1:Nat):Int)] (intV (a3J t.w))
theorem c4U (n:Nat):(if 257 < a3J n then (257:Int) else a3J n)=a3J n:=by unfold a3J;split <;> split <;> omega
theorem b1M (e:List Pt) (he:e.length≤100000) (b:Nat) (t:T) (hok:t.ok=true) (hat:AtP e b (T.flat b t)) (hkl:t.kidsT.length≤100000)
  (ih:∀ i,i < t.kidsT.length→MnC e (b+T.sizeL (t.kidsT.take i)) (t.kidsT.getD i default)):MnC e b t:=by
 have htop:=a3x hat
 have hps:=t.size_pos
 have hkid:=a6T b t
 have hrl:=a0K t.kidsT b
 generalize htp:t.top b=p at htop hkid
 have hpk:p.kind=t.kind:=by rw [←htp];exact a6s b t
 refine a0k Tryz.func21 rfl kr _ _ _ rfl 54 rfl rfl (fun w F=>?_)
 refine ru 11 ?_
 refine rvl (ptH p) (b8c om htop.1) ?_
 refine ru 12 ?_
 refine wdc (fun hr0 hc0=>?_) (fun hr0 hc0=>?_)
 ·refine ru 7 ?_
  refine rt1 ?_
  rw [c3t (by rw [←hpk];exact hc0) hok];exact .imm _
 refine ru 14 ?_
 refine a0l (α:=Nat) (fun x c=>⟨54,[(0,.v (ptsV e)),(5,.v (.pt 5 0 0 0)),(6,.v (intV (a3J (T.wL (t.kidsT.take x))))),(7,.v (intV x))],[(5,⟨0,1,5,105,0,fun _=>ptF p⟩)],c⟩) (fun x=>x≤t.kidsT.length) (fun x=>t.kidsT.length - x) (0) om (a0c rfl (Nat.le_refl _) tsa hsa) (fun i c hx NhL1 hL1=>?_)
 (try dsimp only at hx hL1 ⊢)
 have hm1:=b0F (T.wL (t.kidsT.take i))
 refine ru 6 ?_
 refine rvl (a1u p.kids) (rfl) ?_
 refine ru 4 ?_
 refine wdc (fun hr1 hc1=>?_) (fun hr1 hc1=>?_)
 ·skip
  have him:i < t.kidsT.length:=(by have h:=hr1;simp [hkid,hrl] at h;omega);have hka:=a2p hat him;have hkt:=a3x hka;have hks:=(t.kidsT.getD i default).size_pos;have hroot:=a2T t.kidsT b i him;have hm2:=b0F (t.kidsT.getD i default).w;have hwt:=a6i t.kidsT i him;have hma:=b6l (T.wL (t.kidsT.take i)) (t.kidsT.getD i default).w
  refine ru 9 ?_
  refine rvl (a1u p.kids) (rfl) ?_
  refine ru 3 ?_
  refine rvl (intV ((b+T.sizeL (t.kidsT.take i)+(t.kidsT.getD i default).size - 1:Nat):Int)) (by exact a1O (i:=i) om (by rw [hkid,hroot];unfold T.root;omega)) ?_
  refine cll (ih i him) ?_
  refine ru 2 ?_
  refine rvl (intV (a3J (T.wL (t.kidsT.take (i+1))))) (by rw [hwt,←hma]) ?_
  refine ru 9 ?_
  exact hL1 (i+1) _ _ (by (try dsimp only);omega) (by (try dsimp only);omega) (a0c rfl (Nat.le_refl _) tsa hsa)
 have hit:i=t.kidsT.length:=(by have h:=hr1;simp [hkid,hrl] at h;omega);rw [hit,List.take_length] at hm1 ⊢
 refine ru 2 ?_
 refine a0d ?_
 refine ru 15 ?_
 refine wdc (fun hr2 hc2=>?_) (fun hr2 hc2=>?_)
 ·skip
  have hct:=a8z b (by rw [←hpk];exact hc2.1) hok;rw [htp] at hct;have hmi:=a6F p.low p.high hct.2.1;have hmm:=b1m (T.wL t.kidsT) (a0j p.low p.high) om;have hmx:(if p.low < 1 then 1 else p.low)=((a0j p.low p.high:Nat):Int):=(by rw [←hmi,if_pos hc2.2])
  refine ru 5 ?_
  refine rvl (intV ((a0j p.low p.high:Nat):Int)) (by rw [←hmx]) ?_
  refine ru 12 ?_
  refine rt1 ?_
  rw [hct.1,←hmm.1];exact .imm _
 refine ru 7 ?_
 refine wdc (fun hr3 hc3=>?_) (fun hr3 hc3=>?_)
 ·skip
  have hct:=a8z b (by rw [←hpk];exact hc3) hok;rw [htp] at hct;have hmi:=a6F p.low p.high hct.2.1;have hmm:=b1m (T.wL t.kidsT) (a0j p.low p.high) om;have hmx:p.high=((a0j p.low p.high:Nat):Int):=(by rw [←hmi,if_neg (fun h=>by have h2:=hr2;simp [hc3,h] at h2)])
  refine ru 4 ?_
  refine rvl (intV ((a0j p.low p.high:Nat):Int)) (by exact congrArg intV hmx) ?_
  refine ru 12 ?_
  refine rt1 ?_
  rw [hct.1,←hmm.1];exact .imm _
 have hwm:=b0k (by rw [←hpk];exact hc0) (by rw [←hpk];exact hc3);rw [←hwm] at hm1 ⊢
 refine ru 10 ?_
 refine rt1 ?_
 rw [c4U];exact .imm _
mutual
theorem a9j (e:List Pt) (he:e.length≤100000):∀ (t:T) (b:Nat),t.ok=true→AtP e b (T.flat b t)→MnC e b t
  | .name s,b,hok,hat=>b1M e he b (.name s) hok hat (Nat.zero_le _) (fun i hi=>absurd hi (Nat.not_lt_zero _))
  | .times lo hi t, b, hok, hat => by
    have hok':t.ok=true:=by simp only [T.ok,Bool.and_eq_true] at hok;exact hok.2
    refine b1M e he b (.times lo hi t) hok hat (by simp [T.kidsT]) (fun i hi=>?_)
    obtain rfl:i=0:=by simpa [T.kidsT] using hi
    have:=a9j e he t b hok' (by simp only [T.flat] at hat;exact a4J hat)
    simpa [T.kidsT,T.sizeL] using this
  | .many k ts, b, hok, hat => by
    have hok':T.okL ts=true:=by simp only [T.ok,Bool.and_eq_true] at hok;exact hok.2
    have hkl:(T.many k ts).kidsT.length≤100000:=by
      have:=a6I (t:=.many k ts);have:=(a3x hat).2;omega
    exact b1M e he b (.many k ts) hok hat hkl (fun i hi=>b8O e he ts hok' i hi _ (a2p hat hi))
theorem b8O (e:List Pt) (he:e.length≤100000):∀ ts:List T,T.okL ts=true→∀ i,i < ts.length→∀ b,AtP e b (T.flat b (ts.getD i default))→MnC e b (ts.getD i default)
  | [],_,i,hi=>absurd hi (Nat.not_lt_zero _)
  | t :: ts, hok, i, hi => fun b hat => by
    simp only [T.okL,Bool.and_eq_true] at hok
    cases i with
    | zero=>exact a9j e he t b hok.1 hat
    | succ i=>exact b8O e he ts hok.2 i (by simpa using hi) b (by simpa using hat)
end
section
variable {ov:Nat→Option HV} {g:Nat} {d:Option Tmp} {ty:TypeId} {pos:String} {af:Array Edge} {gd:Option (Nat×Bool)} {T yT:TypeId} {x y:Operand}
end
theorem c2o (wd:Nat) (on:List Bag) (β:Nat→Bag) (p:Pc):HPure Tryz.prog 32 [netP wd on β p] (bagH p.first):=by
 refine a0k Tryz.func32 rfl kr _ _ _ rfl 10 rfl rfl (fun w F=>?_)
 refine ru 12 ?_
 refine wdc (fun hr0 hc0=>?_) (fun hr0 hc0=>?_)
 ·skip
  exfalso;simp at hr0
 refine ru 12 ?_
 refine rt1 ?_
 exact a1Z (by exact j4 rfl rfl rfl rfl)
theorem c4H (wd:Nat) (on:List Bag) (β:Nat→Bag) (p:Pc):HPure Tryz.prog 92 [netP wd on β p] (bagH p.ends):=by
 refine a0k Tryz.func92 rfl kr _ _ _ rfl 10 rfl rfl (fun w F=>?_)
 refine ru 12 ?_
 refine wdc (fun hr0 hc0=>?_) (fun hr0 hc0=>?_)
 ·skip
  exfalso;simp at hr0
 refine ru 12 ?_
 refine rt1 ?_
 exact a1Z (by exact j4 rfl rfl rfl rfl)
theorem c6C (wd:Nat) (γ:Nat→Bag) (i:Int) (hw:wd≤1000):HPure Tryz.prog 63 [.sl 4 wd (b8j γ),intV i] (bagH (if 0≤i∧i < (wd:Int) then γ i.toNat else Bag.zero)):=by
 refine a0k Tryz.func63 rfl kr _ _ _ rfl 18 rfl rfl (fun w F=>?_)
 refine ru 18 ?_
 refine wdc (fun hr0 hc0=>?_) (fun hr0 hc0=>?_)
 ·refine ru 8 ?_
  refine rt1 ?_
  rw [if_neg om];exact a1Z (by exact j4 rfl rfl rfl rfl)
 have hin:0≤i∧i < (wd:Int):=(by simp at hr0;omega)
 refine ru 12 ?_
 refine rt1 ?_
 rw [if_pos hin];exact a1Z (by exact j4 rfl rfl rfl rfl)
theorem b9C (wd:Nat) (on:List Bag) (β:Nat→Bag) (p:Pc) (i:Int) (hw:wd≤1000):HPure Tryz.prog 35 [netP wd on β p,intV i] (bagH (if 0≤i∧i < (wd:Int) then β i.toNat else Bag.zero)):=by
 refine a0k Tryz.func35 rfl kr _ _ _ rfl 14 rfl rfl (fun w F=>?_)
 refine ru 12 ?_
 refine wdc (fun hr0 hc0=>?_) (fun hr0 hc0=>?_)
 ·skip
  exfalso;simp at hr0
 refine ru 8 ?_
 refine rvl ((HV.sl 4 wd (b8j β))) (rfl) ?_
 refine ru 1 ?_
 refine s0 (a0e (xs:=[_,_]) (c6C wd β i hw) ⟨rfl,⟨rfl,trivial⟩⟩ ⟨(.sl _ _ _ _ fun _ _ _ _=>.imm _),⟨fe,trivial⟩⟩) ?_
 refine ru 4 ?_
 refine rt1 ?_
 exact a1Z (by exact j4 rfl rfl rfl rfl)
theorem c9h (wd:Nat) (on:List Bag) (β:Nat→Bag) (p:Pc) (i:Int) (hw:wd≤1000):HPure Tryz.prog 57 [netP wd on β p,intV i] (bagH (if 0≤i∧i < (wd:Int) then onF on i.toNat else Bag.zero)):=by
 refine a0k Tryz.func57 rfl kr _ _ _ rfl 14 rfl rfl (fun w F=>?_)
 refine ru 12 ?_
 refine wdc (fun hr0 hc0=>?_) (fun hr0 hc0=>?_)
 ·skip
  exfalso;simp at hr0
 refine ru 8 ?_
 refine rvl ((HV.sl 4 wd (b8j (onF on)))) (rfl) ?_
 refine ru 1 ?_
 refine s0 (a0e (xs:=[_,_]) (c6C wd (onF on) i hw) ⟨rfl,⟨rfl,trivial⟩⟩ ⟨(.sl _ _ _ _ fun _ _ _ _=>.imm _),⟨fe,trivial⟩⟩) ?_
 refine ru 4 ?_
 refine rt1 ?_
 exact a1Z (by exact j4 rfl rfl rfl rfl)
theorem c1I {s:List UInt8} (h:nameV s=true):s≠[]:=by rintro rfl;revert h;decide +kernel
instance (w:Nat) (on:List Bag) (β:Nat→Bag) (p:Pc) (j:Nat):Frz (c9e w on β p j):=⟨by unfold c9e;split <;> first | exact .imm _ | exact .sl _ _ _ _ fun _ _ _ _=>.imm _⟩
end Go.Proofs.YtdbbbafiegpbpaaGreatDoor
namespace Go.Proofs.YtdbbbafiegpbpaaGreatDoor
set_option linter.unusedSimpArgs false
set_option linter.unusedVariables false
set_option maxRecDepth 10000
def mrg:List Int→List Int→List Int
 | [],b=>b
 | x::a,[]=>x::a
 | x::a,y::b=>if x < y then x::mrg a (y::b) else if x=y then y::mrg a b else y::mrg (x::a) b
termination_by a b=>a.length+b.length
theorem b1b (a:List Int):mrg a []=a:=by cases a <;> simp [mrg]
theorem b0M (b:List Int):mrg [] b=b:=by simp [mrg]
theorem c7W {x:Int} {a g:List Int} (h:∀ y∈g,x < y):mrg (x::a) g=x::mrg a g:=by
 cases g with
 | nil=>rw [b1b,b1b]
 | cons y b=>rw [mrg,if_pos (h y (List.mem_cons_self ..))]
theorem c7d {y:Int} {f b:List Int} (h:∀ x∈f,y < x):mrg f (y::b)=y::mrg f b:=by
 cases f with
 | nil=>rw [b0M,b0M]
 | cons x a=>have:=h x (List.mem_cons_self ..);rw [mrg,if_neg (by omega),if_neg (by omega)]
theorem c2W {y:Int} {a b:List Int}:mrg (y::a) (y::b)=y::mrg a b:=by
 rw [mrg,if_neg (by omega),if_pos rfl]
theorem a9Z (p q:Nat→Bool):∀ l:List Nat,l.Pairwise (· < ·) →
    mrg ((l.filter p).map fun j:Nat=>(j:Int)) ((l.filter q).map fun j:Nat=>(j:Int))=(l.filter fun j=>p j||q j).map fun j:Nat=>(j:Int)
  | [],_=>by simp [mrg]
  | a :: l, h => by
    have hl:=List.pairwise_cons.1 h
    have ih:=a9Z p q l hl.2
    have hgt:∀ r:Nat→Bool,∀ y∈(l.filter r).map (fun j:Nat=>(j:Int)),(a:Int) < y:=fun r y hy=>by
      obtain ⟨j,hj,rfl⟩:=List.mem_map.1 hy
      have:=hl.1 j (List.mem_filter.1 hj).1
      omega
    by_cases hp:p a=true <;> by_cases hq:q a=true
    · rw [List.filter_cons_of_pos hp,List.filter_cons_of_pos hq,List.filter_cons_of_pos (by simp [hp])]
      simp only [List.map_cons];rw [c2W,ih]
    · rw [List.filter_cons_of_pos hp,List.filter_cons_of_neg hq,List.filter_cons_of_pos (by simp [hp])]
      simp only [List.map_cons];rw [c7W (hgt q),ih]
    · rw [List.filter_cons_of_neg hp,List.filter_cons_of_pos hq,List.filter_cons_of_pos (by simp [hq])]
      simp only [List.map_cons];rw [c7d (hgt p),ih]
    · rw [List.filter_cons_of_neg hp,List.filter_cons_of_neg hq,List.filter_cons_of_neg (by simp [hp,hq]),ih]
theorem c6g (x y:Bag):mrg x.list y.list=(bun x y).list:=by
 rw [x.list_eq,y.list_eq,(bun x y).list_eq]
 have:=a9Z x.has y.has (List.range 256) List.pairwise_lt_range
 rw [this]
 congr 1
 apply List.filter_congr
 intro j _
 rw [b1k]
def lkP (hi:Int) (g:Nat→Ly) (many:Nat):Nat→List Lk
 | 0=>[]
 | k+1=>lkP hi g many k++(g k).lk++(if hi < 0∧k+1=many then [((g k).pc.ends,(g k).pc.first)] else [])
def b2X (g:Nat→Ly):Nat→Pc
 | 0=>Pc.nil
 | k+1=>(b2X g k).join (g k).pc
def lkJ (g:Nat→Ly):Nat→List Lk
 | 0=>[]
 | k+1=>lkJ g k++[((b2X g k).ends,(g k).pc.first)]
def onP (g:Nat→Ly):Nat→List Bag
 | 0=>[]
 | k+1=>onP g k++(g k).on
def a3Y (lo:Nat) (g:Nat→Ly):Nat→List Pc
 | 0=>[]
 | k+1=>if k < lo then a3Y lo g k else a3Y lo g k++[(g k).pc]
theorem b1v {lo hi:Int} (hlo:0≤lo) (g:Nat→Ly) (many:Nat):∀ k,(a3S lo hi g many k).1=onP g k∧(a3S lo hi g many k).2.1.Perm (lkP hi g many k++lkJ g (min k lo.toNat))∧(a3S lo hi g many k).2.2.1=b2X g (min k lo.toNat)∧(a3S lo hi g many k).2.2.2=a3Y lo.toNat g k
  | 0=>by simp [a3S,onP,lkP,lkJ,b2X,a3Y]
  | k + 1 => by
    obtain ⟨h1,h2,h3,h4⟩:=b1v hlo g many k
    have hperm:((a3S lo hi g many k).2.1++(g k).lk++(if hi < 0∧k+1=many then [((g k).pc.ends,(g k).pc.first)] else [])).Perm (lkP hi g many (k+1)++lkJ g (min k lo.toNat)):=by
      show List.Perm _ (lkP hi g many k++(g k).lk++_++lkJ g (min k lo.toNat))
      rw [List.append_assoc,List.append_assoc (lkP hi g many k),List.append_assoc (lkP hi g many k)]
      refine (List.Perm.append_right _ h2).trans ?_
      rw [List.append_assoc]
      exact List.Perm.append_left _ List.perm_append_comm
    by_cases hk:(k:Int) < lo
    · have e1:min k lo.toNat=k:=by omega
      have e2:min (k+1) lo.toNat=k+1:=by omega
      rw [e1] at hperm h3
      simp only [a3S]
      rw [if_pos hk,e2,h1,h4]
      refine ⟨rfl,?_,?_,?_⟩
      · simp only [lkJ,h3]
        rw [←List.append_assoc]
        exact List.Perm.append_right _ hperm
      · simp only [h3];rfl
      · simp only [a3Y];rw [if_pos (by omega)]
    · have e:min k lo.toNat=min (k+1) lo.toNat:=by omega
      rw [e] at hperm h3
      simp only [a3S]
      rw [if_neg hk]
      refine ⟨by simp only [h1];rfl,hperm,h3,?_⟩
      simp only [h4,a3Y];rw [if_neg (by omega)]
theorem a4V (lo:Nat) (g:Nat→Ly):∀ k,(a3Y lo g k).length=k - lo
  | 0=>by simp [a3Y]
  | k + 1 => by
    have:=a4V lo g k
    simp only [a3Y]
    split
    · omega
    · rw [List.length_append,List.length_singleton];omega
theorem a9b (lo:Nat) (g:Nat→Ly):∀ k j,j < k - lo→(a3Y lo g k).getD j default=(g (lo+j)).pc
  | 0,j,h=>by omega
  | k + 1, j, h => by
    have hl:=a4V lo g k
    simp only [a3Y]
    split
    · exact a9b lo g k j (by omega)
    · by_cases hj:j < k - lo
      · rw [List.getD_eq_getElem?_getD,List.getElem?_append_left (by omega),←List.getD_eq_getElem?_getD]
        exact a9b lo g k j hj
      · rw [List.getD_eq_getElem?_getD,List.getElem?_append_right (by omega)]
        have e:j - (a3Y lo g k).length=0:=by omega
        rw [e]
        simp only [List.getElem?_cons_zero,Option.getD_some]
        congr 2;omega
theorem b5u {lo hi:Int} (hlo:0≤lo) (g:Nat→Ly) (β:Nat→Bag) :
  (a6V lo hi g).on=onP g (a0j lo hi) ∧
  links (links (links (links β (lkP hi g (a0j lo hi) (a0j lo hi))) (lkJ g (min (a0j lo hi) lo.toNat))) (a1X (a3Y lo.toNat g (a0j lo hi))).1) [((b2X g (min (a0j lo hi) lo.toNat)).ends,(a1X (a3Y lo.toNat g (a0j lo hi))).2.first)]=links β (a6V lo hi g).lk ∧
  (a6V lo hi g).pc=(b2X g (min (a0j lo hi) lo.toNat)).join (a1X (a3Y lo.toNat g (a0j lo hi))).2:=by
 obtain ⟨h1,h2,h3,h4⟩:=b1v (hi:=hi) hlo g (a0j lo hi) (a0j lo hi)
 refine ⟨h1,?_,?_⟩
 ·rw [←a0M,←a0M,←a0M,←List.append_assoc,←List.append_assoc]
  refine b6Z ?_ β
  simp only [a6V,h4,h3]
  exact List.Perm.append_right _ (List.Perm.append_right _ h2.symm)
 ·simp only [a6V,h3,h4]
theorem c8s {k many w:Nat} (h:k < many):k * w+w≤many * w:=by rw [←Nat.succ_mul];exact Nat.mul_le_mul_right w h
theorem b4i {g:Nat→Ly} {many N w:Nat} (hg:∀ k,k < many→(g k).Ok (N+k * w) w):∀ k,k≤many→(onP g k).length=k * w
  | 0,_=>by simp [onP]
  | k + 1, h => by
    simp only [onP]
    rw [List.length_append,b4i hg k (by omega),(hg k (by omega)).len,Nat.succ_mul]
theorem c0x {hi:Int} {g:Nat→Ly} {many N w:Nat} (hg:∀ k,k < many→(g k).Ok (N+k * w) w):∀ k,k≤many→Lks (N+k * w) (lkP hi g many k)
  | 0,_=>fun q hq=>by simp [lkP] at hq
  | k + 1, h => by
    have ih:=c0x (hi:=hi) hg k (by omega)
    have hx:=hg k (by omega)
    have e:N+k * w+w=N+(k+1) * w:=by rw [Nat.succ_mul];omega
    simp only [lkP]
    refine ((ih.mono (by omega)).app (by rw [←e];exact hx.lk)).app ?_
    split
    · rw [←e];exact a5l hx.pc.2 hx.pc.1 hx.inB.2
    · exact fun q hq=>by cases hq
theorem b4K {g:Nat→Ly} {many N w:Nat} (hg:∀ k,k < many→(g k).Ok (N+k * w) w):∀ k,k≤many→(b2X g k).ok∧(b2X g k).inB N (N+k * w)
  | 0,_=>⟨Pc.nil_ok,Pc.inB_nil _ _⟩
  | k + 1, h => by
    obtain ⟨h1,h2⟩:=b4K hg k (by omega)
    have hx:=hg k (by omega)
    have e:N+k * w+w=N+(k+1) * w:=by rw [Nat.succ_mul];omega
    exact ⟨Pc.join_ok h1 hx.pc,Pc.inB_join (h2.mono (Nat.le_refl _) (by omega)) (hx.inB.mono (by omega) (by omega))⟩
theorem c3z {g:Nat→Ly} {many N w:Nat} (hg:∀ k,k < many→(g k).Ok (N+k * w) w):∀ k,k≤many→Lks (N+k * w) (lkJ g k)
  | 0,_=>fun q hq=>by simp [lkJ] at hq
  | k + 1, h => by
    have ih:=c3z hg k (by omega)
    obtain ⟨h1,h2⟩:=b4K hg k (by omega)
    have hx:=hg k (by omega)
    have e:N+k * w+w=N+(k+1) * w:=by rw [Nat.succ_mul];omega
    simp only [lkJ]
    exact (ih.mono (by omega)).app (a5l h1.2 hx.pc.1 (h2.2.mono (Nat.le_refl _) (by omega)))
theorem b6b {lo:Nat} {g:Nat→Ly} {many N w:Nat} (hg:∀ k,k < many→(g k).Ok (N+k * w) w):∀ k,k≤many→∀ p∈a3Y lo g k,p.ok∧p.inB N (N+k * w)
  | 0,_=>fun p hp=>by simp [a3Y] at hp
  | k + 1, h => fun p hp => by
    have ih:=b6b (lo:=lo) hg k (by omega)
    have hx:=hg k (by omega)
    have e:N+k * w+w=N+(k+1) * w:=by rw [Nat.succ_mul];omega
    simp only [a3Y] at hp
    split at hp
    · exact ⟨(ih p hp).1,(ih p hp).2.mono (Nat.le_refl _) (by omega)⟩
    · rcases List.mem_append.1 hp with hp | hp
      · exact ⟨(ih p hp).1,(ih p hp).2.mono (Nat.le_refl _) (by omega)⟩
      · rw [List.mem_singleton] at hp;subst hp;exact ⟨hx.pc,hx.inB.mono (by omega) (by omega)⟩
def a8L (g:Nat→Ly):Nat→List Pc
 | 0=>[]
 | k+1=>a8L g k++[(g k).pc]
theorem b0D (g:Nat→Ly):∀ k,(a8L g k).length=k
 | 0=>rfl
 | k+1=>by simp [a8L,b0D g k]
theorem b1t (g:Nat→Ly):∀ k j,j < k→(a8L g k).getD j default=(g j).pc
  | 0,j,h=>by omega
  | k + 1, j, h => by
    have hl:=b0D g k
    simp only [a8L]
    by_cases hj:j < k
    · rw [List.getD_eq_getElem?_getD,List.getElem?_append_left (by omega),←List.getD_eq_getElem?_getD]
      exact b1t g k j hj
    · obtain rfl:j=k:=by omega
      rw [List.getD_eq_getElem?_getD,List.getElem?_append_right (by omega),hl,Nat.sub_self]
      rfl
theorem c2G (a b:Pc):a.join b=⟨if a.empty then bun a.first b.first else a.first,if b.empty then bun a.ends b.ends else b.ends,a.empty&&b.empty⟩:=by
 unfold Pc.join;rw [b5J b.ends a.ends]
end Go.Proofs.YtdbbbafiegpbpaaGreatDoor
namespace Go.Proofs.YtdbbbafiegpbpaaGreatDoor
set_option linter.unusedSimpArgs false
set_option linter.unusedVariables false
open Go.RowKit
set_option maxHeartbeats 400000 in
theorem b6G (A1 A2:Option Addr) (n1 n2 c1 c2 B1 B2:Nat) (l1 l2:List Int) (w:World) (hn1:l1.length=n1) (hn2:l2.length=n2) (h1:Sl w B1 1 a4T A1 l1) (h2:Sl w B2 1 a4T A2 l2) (hb1:n1≤1000000000) (hb2:n2≤1000000000) :
  Calls Tryz.prog 16 #[.slice A1 n1 c1,.slice A2 n2 c2] w fun e w'=>e=.returned (.bool (decide (l1=l2)))∧∃ n,w'=w.drewN n:=by
 subst hn1;subst hn2
 by_cases hl:l1.length=l2.length
 ·have hne:((l1.length:Int) != (l2.length:Int))=false:=by simp [hl]
  have HL:=Lib.hid hl;clear hl
  go_enter Tryz.func16,Tryz.ntmps16
  go_wp2
  go_loopw [5] (fun i wr=>∃ k n:Nat,k≤l1.length∧i=.int .i64 k∧wr=w.drewN n∧Hid (∀ j (a:j < l1.length) (b:j < l2.length),j < k→l1[j]=l2[j])) (fun i _=>l1.length - (intOf i).toNat)
  case atStart=>exact ⟨0,0,Nat.zero_le _,rfl,rfl,fun j a b h=>absurd h (by omega)⟩
  case round =>
   obtain ⟨k,n,hk,rfl,rfl,HE⟩:=hrel
   by_cases hlt:k < l1.length
   ·have hlt2:k < l2.length:=by have:=HL.out;omega
    obtain ⟨b1,o1,rfl,_⟩:=h1.addr (by omega) (by omega)
    obtain ⟨b2,o2,rfl,_⟩:=h2.addr (by omega) (by omega)
    have r1:w.cell? ⟨b1,o1+k,none⟩=some (.int .i64 l1[k]):=h1.cell1 hlt
    have r2:w.cell? ⟨b2,o2+k,none⟩=some (.int .i64 l2[k]):=h2.cell1 hlt2
    by_cases he:l1[k]=l2[k]
    ·have hd:(l1[k] != l2[k])=false:=by simp [he]
     have HE':=Lib.hid he;clear he
     go_wp2
     go_quiet (fail)
     go_wp2
     go_roundw
     case rel =>
      refine ⟨k+1,_,by omega,by go_num,rfl,fun j a b hj=>?_⟩
      rcases Nat.lt_or_ge j k with h | h
      ·exact HE.out j a b h
      ·obtain rfl:j=k:=by omega
       exact HE'.out
     case measure=>simp [intOf];omega
    ·have hd:(l1[k] != l2[k])=true:=by simp [he]
     have hne2:decide (l1=l2)=false:=by
      simp only [decide_eq_false_iff_not]
      intro e;subst e;exact he rfl
     clear he
     go_wp2
     go_quiet (fail)
     go_wp2
     go_ret
     exact ⟨a5F hne2.symm,n+nq,by rw [World.drewN_drewN]⟩
   ·have he2:decide (l1=l2)=true:=by
     simp only [decide_eq_true_eq]
     exact List.ext_getElem HL.out fun j a b=>HE.out j a b (by omega)
    go_wp2
    go_ret
    exact ⟨a5F he2.symm,_,rfl⟩
 ·have hne:((l1.length:Int) != (l2.length:Int))=true:=by simp;omega
  have he2:decide (l1=l2)=false:=by
   simp only [decide_eq_false_iff_not]
   intro e;exact hl (by rw [e])
  clear hl
  go_enter Tryz.func16,Tryz.ntmps16
  go_wp2
  go_ret
  exact ⟨a5F he2.symm,0,rfl⟩
set_option maxRecDepth 100000
set_option maxHeartbeats 1000000
theorem a7l (x:Int) (j:Nat) (hj:j < 1):intV x=.imm ((a4T x).getD j undef):=by obtain rfl:j=0:=(by omega);rfl
theorem c5Q (x:Bag) (hx:x.ok):HPure Tryz.prog 17 [bagH x] (a0m x.list):=by
 refine ⟨⟨_,_,Tryz.func17,rfl,by kernel_rfl⟩,fun w F vs hF hr hw=>?_⟩
 obtain ⟨u,rfl,hu⟩:=c7L hr
 rw [a6l hu]
 refine (c2q x hx w (b3G hw).2 (b3G hw).1).mono ?_
 intro e w' hg
 exact b0d hF (fun x _=>intV x) a7l b4W 0 hg
theorem c1K (l:List Int) (hl:l.length≤1000000):HPure Tryz.prog 69 [a0m l] (a0m (a2V l).list):=by
 refine ⟨⟨_,_,Tryz.func69,rfl,by kernel_rfl⟩,fun w F vs hF hr hw=>?_⟩
 obtain ⟨v,rfl,hv⟩:=c7L hr
 obtain ⟨A,c,rfl,hc,hm,hs⟩:=b8A 1 a4T (fun _=>rfl) (fun x _=>intV x) (fun x j hj=>a7l x j hj) 0 l hv
 refine (b6t A l.length c w.heap.size l w rfl hs (Nat.le_refl _) hl).mono ?_
 intro e w' hg
 rw [←b3D]
 exact b0d hF (fun x _=>intV x) a7l b4W 0 hg
theorem c0F (l:List Int) (hl:l.length≤1000000) (x:Int):HPure Tryz.prog 71 [a0m l,intV x] (boolV (decide (x∈l))):=by
 refine ⟨⟨_,_,Tryz.func71,rfl,by kernel_rfl⟩,fun w F vs hF hr hw=>?_⟩
 obtain ⟨u,v,rfl,hu,hv⟩:=c6v hr
 obtain ⟨A,c,rfl,hc,hm,hs⟩:=b8A 1 a4T (fun _=>rfl) (fun x _=>intV x) (fun x j hj=>a7l x j hj) 0 l hu
 rw [hv.imm_inv]
 refine (b2h A l.length c w.heap.size l x w rfl hs hl).mono ?_
 rintro e w' ⟨rfl,rfl⟩
 exact a8i hF (Below.refl _ _)
theorem b6e (a b:List Int) (ha:a.length≤1000000) (hb:b.length≤1000000):HPure Tryz.prog 16 [a0m a,a0m b] (boolV (decide (a=b))):=by
 refine ⟨⟨_,_,Tryz.func16,rfl,by kernel_rfl⟩,fun w F vs hF hr hw=>?_⟩
 obtain ⟨u,v,rfl,hu,hv⟩:=c6v hr
 obtain ⟨A,c,rfl,hc,hm,hs⟩:=b8A 1 a4T (fun _=>rfl) (fun x _=>intV x) (fun x j hj=>a7l x j hj) 0 a hu
 obtain ⟨A',c',rfl,hc',hm',hs'⟩:=b8A 1 a4T (fun _=>rfl) (fun x _=>intV x) (fun x j hj=>a7l x j hj) 0 b hv
 refine (b6G A A' a.length b.length c c' w.heap.size w.heap.size a b w rfl rfl hs hs' (by omega) (by omega)).mono ?_
 rintro e w' ⟨rfl,n,rfl⟩
 exact a8i hF b3K
theorem a9T {l:List Int} {i:Nat} (h:i < l.length):l.drop i=l.getD i 0::l.drop (i+1):=by
 rw [List.drop_eq_getElem_cons h,List.getD_eq_getElem?_getD,List.getElem?_eq_getElem h];rfl
theorem b0B:∀ a b:List Int,(mrg a b).length≤a.length+b.length
  | [],b=>by simp [mrg]
  | x::a,[]=>by simp [mrg]
  | x :: a, y :: b => by
    rw [mrg]
    have h1:=b0B a (y::b)
    have h2:=b0B a b
    have h3:=b0B (x::a) b
    simp only [List.length_cons] at h1 h2 h3 ⊢
    split
    · simp only [List.length_cons];omega
    · split <;> simp only [List.length_cons] <;> omega
termination_by a b=>a.length+b.length
theorem c8X {A B:List Int} {i k:Nat} (hi:i < A.length) (h:k=B.length∨(k < B.length∧A.getD i 0 < B.getD k 0)):mrg (A.drop i) (B.drop k)=A.getD i 0::mrg (A.drop (i+1)) (B.drop k):=by
 rw [a9T hi]
 rcases h with h | ⟨h,h2⟩
 ·rw [List.drop_eq_nil_of_le (by omega:B.length≤k),b1b,b1b]
 ·rw [a9T h,mrg,if_pos h2]
theorem c8R {A B:List Int} {i k:Nat} (hi:i < A.length) (hk:k < B.length) (h:A.getD i 0=B.getD k 0):mrg (A.drop i) (B.drop k)=B.getD k 0::mrg (A.drop (i+1)) (B.drop (k+1)):=by
 rw [a9T hi,a9T hk,h,c2W]
theorem c9j {A B:List Int} {i k:Nat} (hk:k < B.length) (h:i=A.length∨(i < A.length∧B.getD k 0 < A.getD i 0)):mrg (A.drop i) (B.drop k)=B.getD k 0::mrg (A.drop i) (B.drop (k+1)):=by
 rw [a9T hk]
 rcases h with h | ⟨h,h2⟩
 ·rw [List.drop_eq_nil_of_le (by omega:A.length≤i),b0M,b0M]
 ·rw [a9T h,mrg,if_neg (by omega),if_neg (by omega)]
@[reducible] def iO (g:Nat) (l:List Int):HObj:=⟨g,l.length,1,3,0,a4p l⟩
theorem c2A (A B:List Int) (hA:A.length≤1000000) (hB:B.length≤1000000):HPure Tryz.prog 72 [a0m A,a0m B] (a0m (mrg A B)):=by
 have hml:=b0B A B
 refine a0k Tryz.func72 rfl kr _ _ _ rfl 75 rfl rfl (fun w F=>?_)
 refine ru 22 ?_
 refine a4O 5 9005 1 3 ((a4p [])) rfl (by decide) rfl (c':=1) rfl ?_
 refine a0l (α:=Nat×Nat×List Int×Nat) (fun x c=>⟨75,[(0,.v (a0m A)),(1,.v (a0m B)),(5,.v (.os 9005 x.2.2.2 0 x.2.2.1.length)),(6,.v (intV x.1)),(7,.v (intV x.2.1))],[(9005,iO x.2.2.2 x.2.2.1)],c⟩) (fun x=>x.1≤A.length∧x.2.1≤B.length∧x.2.2.1++mrg (A.drop x.1) (B.drop x.2.1)=mrg A B) (fun x=>A.length+B.length - x.1 - x.2.1) ((0,0,[],0)) (by exact ⟨Nat.zero_le _,Nat.zero_le _,rfl⟩) (a0c rfl (Nat.le_refl _) tsa hsa) (fun x c hx NhL1 hL1=>?_)
 revert hx hL1;obtain ⟨i,k,out,gr⟩:=x;intro hx hL1;dsimp only at hx hL1 ⊢
 obtain ⟨hi,hk,hm⟩:=hx
 have hol:out.length≤2000000:=(by have:=congrArg List.length hm;rw [List.length_append] at this;omega)
 refine ru 15 ?_
 refine wdc (fun hr0 hc0=>?_) (fun hr0 hc0=>?_)
 ·refine ru 16 ?_
  refine a6Z 28 9 27 22 false true _ _ (fun hb hb2=>a3W rfl) rfl rfl rfl rfl rfl a0g rfl (k':=11) rfl ?_
  refine a6Z 29 9 27 22 false true _ _ (fun hb hb2=>a3W rfl) rfl rfl rfl rfl rfl a0g rfl (k':=12) rfl ?_
  first
  | refine a6Z 30 9 27 22 false true _ _ (fun hb hb2=>a9l el_49.h rfl rfl (by first | exact Nat.le_of_ble_eq_true rfl | (simp at hb;omega) | (simp at hb2;omega) | (simp at hb hb2;first | omega | (dsimp only;omega) | (simp <;> omega)) | omega | (dsimp only;omega)) (by first | exact Nat.le_of_ble_eq_true rfl | (simp at hb;omega) | (simp at hb2;omega) | (simp at hb hb2;first | omega | (dsimp only;omega) | (simp <;> omega)) | omega | (dsimp only;omega)) (by first | exact Nat.le_of_ble_eq_true rfl | (simp at hb;omega) | (simp at hb2;omega) | (simp at hb hb2;first | omega | (dsimp only;omega) | (simp <;> omega)) | omega | (dsimp only;omega))) rfl rfl rfl rfl rfl a0g rfl (k':=13) rfl ?_
  | refine a6Z 30 9 27 22 false true _ _ (fun hb hb2=>a5m el_49.h rfl rfl (by first | exact Nat.le_of_ble_eq_true rfl | (simp at hb;omega) | (simp at hb2;omega) | (simp at hb hb2;first | omega | (dsimp only;omega) | (simp <;> omega)) | omega | (dsimp only;omega)) (by first | exact Nat.le_of_ble_eq_true rfl | (simp at hb;omega) | (simp at hb2;omega) | (simp at hb hb2;first | omega | (dsimp only;omega) | (simp <;> omega)) | omega | (dsimp only;omega))) rfl rfl rfl rfl rfl (a0P rfl) rfl (k':=13) rfl ?_
  first
  | refine a6Z 31 9 27 22 false true _ _ (fun hb hb2=>a0D ty_3.h rfl (by first | exact Nat.le_of_ble_eq_true rfl | (simp at hb;omega) | (simp at hb2;omega) | (simp at hb hb2;first | omega | (dsimp only;omega) | (simp <;> omega)) | omega | (dsimp only;omega)) (by first | exact Nat.le_of_ble_eq_true rfl | (simp at hb;omega) | (simp at hb2;omega) | (simp at hb hb2;first | omega | (dsimp only;omega) | (simp <;> omega)) | omega | (dsimp only;omega)) (fun h=>(by first | rfl | cases h))) rfl rfl rfl rfl rfl (a0P rfl) rfl (k':=14) rfl ?_
  | refine a6Z 31 9 27 22 false true _ _ (fun hb hb2=>a0r ty_3.h rfl (by first | exact Nat.le_of_ble_eq_true rfl | (simp at hb;omega) | (simp at hb2;omega) | (simp at hb hb2;first | omega | (dsimp only;omega) | (simp <;> omega)) | omega | (dsimp only;omega)) (fun h=>(by first | rfl | cases h))) rfl rfl rfl rfl rfl a0g rfl (k':=14) rfl ?_
  refine a6Z 32 9 27 22 false true _ _ (fun hb hb2=>a3W rfl) rfl rfl rfl rfl rfl a0g rfl (k':=15) rfl ?_
  refine a6Z 33 9 27 22 false true _ _ (fun hb hb2=>a3W rfl) rfl rfl rfl rfl rfl a0g rfl (k':=16) rfl ?_
  first
  | refine a6Z 34 9 27 22 false true _ _ (fun hb hb2=>a9l el_49.h rfl rfl (by first | exact Nat.le_of_ble_eq_true rfl | (simp at hb;omega) | (simp at hb2;omega) | (simp at hb hb2;first | omega | (dsimp only;omega) | (simp <;> omega)) | omega | (dsimp only;omega)) (by first | exact Nat.le_of_ble_eq_true rfl | (simp at hb;omega) | (simp at hb2;omega) | (simp at hb hb2;first | omega | (dsimp only;omega) | (simp <;> omega)) | omega | (dsimp only;omega)) (by first | exact Nat.le_of_ble_eq_true rfl | (simp at hb;omega) | (simp at hb2;omega) | (simp at hb hb2;first | omega | (dsimp only;omega) | (simp <;> omega)) | omega | (dsimp only;omega))) rfl rfl rfl rfl rfl a0g rfl (k':=17) rfl ?_
  | refine a6Z 34 9 27 22 false true _ _ (fun hb hb2=>a5m el_49.h rfl rfl (by first | exact Nat.le_of_ble_eq_true rfl | (simp at hb;omega) | (simp at hb2;omega) | (simp at hb hb2;first | omega | (dsimp only;omega) | (simp <;> omega)) | omega | (dsimp only;omega)) (by first | exact Nat.le_of_ble_eq_true rfl | (simp at hb;omega) | (simp at hb2;omega) | (simp at hb hb2;first | omega | (dsimp only;omega) | (simp <;> omega)) | omega | (dsimp only;omega))) rfl rfl rfl rfl rfl (a0P rfl) rfl (k':=17) rfl ?_
  first
  | refine a6Z 35 9 27 22 false true _ _ (fun hb hb2=>a0D ty_3.h rfl (by first | exact Nat.le_of_ble_eq_true rfl | (simp at hb;omega) | (simp at hb2;omega) | (simp at hb hb2;first | omega | (dsimp only;omega) | (simp <;> omega)) | omega | (dsimp only;omega)) (by first | exact Nat.le_of_ble_eq_true rfl | (simp at hb;omega) | (simp at hb2;omega) | (simp at hb hb2;first | omega | (dsimp only;omega) | (simp <;> omega)) | omega | (dsimp only;omega)) (fun h=>(by first | rfl | cases h))) rfl rfl rfl rfl rfl (a0P rfl) rfl (k':=18) rfl ?_
  | refine a6Z 35 9 27 22 false true _ _ (fun hb hb2=>a0r ty_3.h rfl (by first | exact Nat.le_of_ble_eq_true rfl | (simp at hb;omega) | (simp at hb2;omega) | (simp at hb hb2;first | omega | (dsimp only;omega) | (simp <;> omega)) | omega | (dsimp only;omega)) (fun h=>(by first | rfl | cases h))) rfl rfl rfl rfl rfl a0g rfl (k':=18) rfl ?_
  refine a6Z 36 9 27 22 false true _ _ (fun hb hb2=>b4a rfl rfl) rfl rfl rfl rfl rfl a0g rfl (k':=19) rfl ?_
  first
  | refine c6c 37 (b0a (gi:=4) (j:=22) _ _ rfl rfl rfl rfl) rfl rfl (k':=20) rfl ?_
  | refine c6c 37 (b3c (gi:=4) (j:=22) _ _ rfl rfl rfl rfl) rfl rfl (k':=20) rfl ?_
  | refine c6c 37 (a4G (gi:=4) (j:=22) _ _ _ _ rfl rfl rfl rfl (fun _=>.refl _) (fun _=>.refl _)) rfl rfl (k':=20) rfl ?_
  refine ru 1 ?_
  refine b9f kr kr (by rfl) (by simp only [a5g,a7v];exact rfl) (c':=c+21) rfl ?_
  refine ru 1 ?_
  refine wdc (fun hr1 hc1=>?_) (fun hr1 hc1=>?_)
  ·skip
   have hia:i < A.length:=om;have hab:k=B.length∨(k < B.length∧A.getD i 0 < B.getD k 0):=(by rcases hc1 with h | h;exact .inl om;rcases Nat.lt_or_ge k B.length with h' | h';exact .inr ⟨h',h.2⟩;exact .inl om)
   refine ru 7 ?_
   refine a0u 44 (a0b (id:=44) (hs:=[_]) ei_49.h omx rfl omx ⟨rfl,rfl,rfl,rfl,trivial⟩) rfl rfl a0g rfl rfl (c':=c+22) rfl ?_
   first
   | refine a0u 45 (a0a ei_49.h (by first | exact Nat.le_of_ble_eq_true rfl | omega | (dsimp only;omega) | (simp <;> omega)) rfl (by first | exact Nat.le_of_ble_eq_true rfl | omega | (dsimp only;omega) | (simp <;> omega)) (by first | exact Nat.le_of_ble_eq_true rfl | omega | (dsimp only;omega) | (simp <;> omega)) (a0x rfl (by first | exact Nat.le_of_ble_eq_true rfl | omega | (dsimp only;omega) | (simp <;> omega))) (by first | exact Nat.le_of_ble_eq_true rfl | omega | (dsimp only;omega) | (simp <;> omega)) rfl) rfl rfl (a0i rfl (a0P rfl)) rfl rfl (c':=c+23) rfl ?_
   | refine a0u 45 (a0a ei_49.h (by first | exact Nat.le_of_ble_eq_true rfl | omega | (dsimp only;omega) | (simp <;> omega)) rfl (by first | exact Nat.le_of_ble_eq_true rfl | omega | (dsimp only;omega) | (simp <;> omega)) (by first | exact Nat.le_of_ble_eq_true rfl | omega | (dsimp only;omega) | (simp <;> omega)) (a0S rfl (by first | exact Nat.le_of_ble_eq_true rfl | omega | (dsimp only;omega) | (simp <;> omega))) (by first | exact Nat.le_of_ble_eq_true rfl | omega | (dsimp only;omega) | (simp <;> omega)) rfl) rfl rfl (a0i rfl (a0P rfl)) rfl rfl (c':=c+23) rfl ?_
   | refine a0u 45 (a0a ei_49.h (by first | exact Nat.le_of_ble_eq_true rfl | omega | (dsimp only;omega) | (simp <;> omega)) rfl (by first | exact Nat.le_of_ble_eq_true rfl | omega | (dsimp only;omega) | (simp <;> omega)) (by first | exact Nat.le_of_ble_eq_true rfl | omega | (dsimp only;omega) | (simp <;> omega)) (a0O rfl) (by first | exact Nat.le_of_ble_eq_true rfl | omega | (dsimp only;omega) | (simp <;> omega)) rfl) rfl rfl (a0i rfl a0g) rfl rfl (c':=c+23) rfl ?_
   | refine a0u 45 (a0a ei_49.h (by first | exact Nat.le_of_ble_eq_true rfl | omega | (dsimp only;omega) | (simp <;> omega)) rfl (by first | exact Nat.le_of_ble_eq_true rfl | omega | (dsimp only;omega) | (simp <;> omega)) (by first | exact Nat.le_of_ble_eq_true rfl | omega | (dsimp only;omega) | (simp <;> omega)) (a0z 1 (fun _ _=>default) rfl) (by first | exact Nat.le_of_ble_eq_true rfl | omega | (dsimp only;omega) | (simp <;> omega)) rfl) rfl rfl (a0i rfl a0g) rfl rfl (c':=c+23) rfl ?_
   refine ru 13 ?_
   exact hL1 ((i+1,k,out++[A.getD i 0],c+22)) _ _ (by (try dsimp only);exact ⟨by omega,hk,by rw [List.append_assoc,List.singleton_append,←c8X hia hab];exact hm⟩) (by (try dsimp only);omega) (a0c rfl (Nat.le_refl _) (tsr rfl (tsr rfl (a0t.cons rfl (a3k (by simp)) tsa))) (a0f.cons rfl (a0G (enc:=fun x _=>intV x) (d:=0) rfl (fun i j _ _=>.refl _) (fun j hj=>.refl _)) a0f.nil))
  have hkb:k < B.length:=om
  refine ru 20 ?_
  refine b9f kr kr (by rfl) (by simp only [a5g,a7v];exact rfl) (c':=c+36) rfl ?_
  refine ru 1 ?_
  refine wdc (fun hr2 hc2=>?_) (fun hr2 hc2=>?_)
  ·skip
   have hib:i < A.length∧A.getD i 0=B.getD k 0:=⟨by omega,hc2.2⟩
   refine ru 13 ?_
   refine a0u 70 (a0b (id:=70) (hs:=[_]) ei_49.h omx rfl omx ⟨rfl,rfl,rfl,rfl,trivial⟩) rfl rfl a0g rfl rfl (c':=c+37) rfl ?_
   first
   | refine a0u 71 (a0a ei_49.h (by first | exact Nat.le_of_ble_eq_true rfl | omega | (dsimp only;omega) | (simp <;> omega)) rfl (by first | exact Nat.le_of_ble_eq_true rfl | omega | (dsimp only;omega) | (simp <;> omega)) (by first | exact Nat.le_of_ble_eq_true rfl | omega | (dsimp only;omega) | (simp <;> omega)) (a0x rfl (by first | exact Nat.le_of_ble_eq_true rfl | omega | (dsimp only;omega) | (simp <;> omega))) (by first | exact Nat.le_of_ble_eq_true rfl | omega | (dsimp only;omega) | (simp <;> omega)) rfl) rfl rfl (a0i rfl (a0P rfl)) rfl rfl (c':=c+38) rfl ?_
   | refine a0u 71 (a0a ei_49.h (by first | exact Nat.le_of_ble_eq_true rfl | omega | (dsimp only;omega) | (simp <;> omega)) rfl (by first | exact Nat.le_of_ble_eq_true rfl | omega | (dsimp only;omega) | (simp <;> omega)) (by first | exact Nat.le_of_ble_eq_true rfl | omega | (dsimp only;omega) | (simp <;> omega)) (a0S rfl (by first | exact Nat.le_of_ble_eq_true rfl | omega | (dsimp only;omega) | (simp <;> omega))) (by first | exact Nat.le_of_ble_eq_true rfl | omega | (dsimp only;omega) | (simp <;> omega)) rfl) rfl rfl (a0i rfl (a0P rfl)) rfl rfl (c':=c+38) rfl ?_
   | refine a0u 71 (a0a ei_49.h (by first | exact Nat.le_of_ble_eq_true rfl | omega | (dsimp only;omega) | (simp <;> omega)) rfl (by first | exact Nat.le_of_ble_eq_true rfl | omega | (dsimp only;omega) | (simp <;> omega)) (by first | exact Nat.le_of_ble_eq_true rfl | omega | (dsimp only;omega) | (simp <;> omega)) (a0O rfl) (by first | exact Nat.le_of_ble_eq_true rfl | omega | (dsimp only;omega) | (simp <;> omega)) rfl) rfl rfl (a0i rfl a0g) rfl rfl (c':=c+38) rfl ?_
   | refine a0u 71 (a0a ei_49.h (by first | exact Nat.le_of_ble_eq_true rfl | omega | (dsimp only;omega) | (simp <;> omega)) rfl (by first | exact Nat.le_of_ble_eq_true rfl | omega | (dsimp only;omega) | (simp <;> omega)) (by first | exact Nat.le_of_ble_eq_true rfl | omega | (dsimp only;omega) | (simp <;> omega)) (a0z 1 (fun _ _=>default) rfl) (by first | exact Nat.le_of_ble_eq_true rfl | omega | (dsimp only;omega) | (simp <;> omega)) rfl) rfl rfl (a0i rfl a0g) rfl rfl (c':=c+38) rfl ?_
   refine ru 9 ?_
   exact hL1 ((i+1,k+1,out++[B.getD k 0],c+37)) _ _ (by (try dsimp only);exact ⟨by omega,by omega,by rw [List.append_assoc,List.singleton_append,←c8R hib.1 hkb hib.2];exact hm⟩) (by (try dsimp only);omega) (a0c rfl (Nat.le_refl _) (tsr rfl (tsr rfl (a0t.cons rfl (a3k (by simp)) tsa))) (a0f.cons rfl (a0G (enc:=fun x _=>intV x) (d:=0) rfl (fun i j _ _=>.refl _) (fun j hj=>.refl _)) a0f.nil))
  have hib:i=A.length∨(i < A.length∧B.getD k 0 < A.getD i 0):=(by rcases Nat.lt_or_ge i A.length with h | h;(have hd:decide ((i:Int) < (A.length:Int))=true:=decide_eq_true om;have h1:=hc1.2;rw [hd,Bool.true_and,decide_eq_false_iff_not] at h1;have h2:=hr2;rw [hd,Bool.true_and,beq_eq_false_iff_ne,Int.toNat_natCast,Int.toNat_natCast] at h2;exact .inr ⟨h,by omega⟩);exact .inl om)
  refine ru 9 ?_
  refine a0u 70 (a0b (id:=70) (hs:=[_]) ei_49.h omx rfl omx ⟨rfl,rfl,rfl,rfl,trivial⟩) rfl rfl a0g rfl rfl (c':=c+37) rfl ?_
  first
  | refine a0u 71 (a0a ei_49.h (by first | exact Nat.le_of_ble_eq_true rfl | omega | (dsimp only;omega) | (simp <;> omega)) rfl (by first | exact Nat.le_of_ble_eq_true rfl | omega | (dsimp only;omega) | (simp <;> omega)) (by first | exact Nat.le_of_ble_eq_true rfl | omega | (dsimp only;omega) | (simp <;> omega)) (a0x rfl (by first | exact Nat.le_of_ble_eq_true rfl | omega | (dsimp only;omega) | (simp <;> omega))) (by first | exact Nat.le_of_ble_eq_true rfl | omega | (dsimp only;omega) | (simp <;> omega)) rfl) rfl rfl (a0i rfl (a0P rfl)) rfl rfl (c':=c+38) rfl ?_
  | refine a0u 71 (a0a ei_49.h (by first | exact Nat.le_of_ble_eq_true rfl | omega | (dsimp only;omega) | (simp <;> omega)) rfl (by first | exact Nat.le_of_ble_eq_true rfl | omega | (dsimp only;omega) | (simp <;> omega)) (by first | exact Nat.le_of_ble_eq_true rfl | omega | (dsimp only;omega) | (simp <;> omega)) (a0S rfl (by first | exact Nat.le_of_ble_eq_true rfl | omega | (dsimp only;omega) | (simp <;> omega))) (by first | exact Nat.le_of_ble_eq_true rfl | omega | (dsimp only;omega) | (simp <;> omega)) rfl) rfl rfl (a0i rfl (a0P rfl)) rfl rfl (c':=c+38) rfl ?_
  | refine a0u 71 (a0a ei_49.h (by first | exact Nat.le_of_ble_eq_true rfl | omega | (dsimp only;omega) | (simp <;> omega)) rfl (by first | exact Nat.le_of_ble_eq_true rfl | omega | (dsimp only;omega) | (simp <;> omega)) (by first | exact Nat.le_of_ble_eq_true rfl | omega | (dsimp only;omega) | (simp <;> omega)) (a0O rfl) (by first | exact Nat.le_of_ble_eq_true rfl | omega | (dsimp only;omega) | (simp <;> omega)) rfl) rfl rfl (a0i rfl a0g) rfl rfl (c':=c+38) rfl ?_
  | refine a0u 71 (a0a ei_49.h (by first | exact Nat.le_of_ble_eq_true rfl | omega | (dsimp only;omega) | (simp <;> omega)) rfl (by first | exact Nat.le_of_ble_eq_true rfl | omega | (dsimp only;omega) | (simp <;> omega)) (by first | exact Nat.le_of_ble_eq_true rfl | omega | (dsimp only;omega) | (simp <;> omega)) (a0z 1 (fun _ _=>default) rfl) (by first | exact Nat.le_of_ble_eq_true rfl | omega | (dsimp only;omega) | (simp <;> omega)) rfl) rfl rfl (a0i rfl a0g) rfl rfl (c':=c+38) rfl ?_
  refine ru 9 ?_
  exact hL1 ((i,k+1,out++[B.getD k 0],c+37)) _ _ (by (try dsimp only);exact ⟨hi,by omega,by rw [List.append_assoc,List.singleton_append,←c9j hkb hib];exact hm⟩) (by (try dsimp only);omega) (a0c rfl (Nat.le_refl _) (tsr rfl (tsr rfl (a0t.cons rfl (a3k (by simp)) tsa))) (a0f.cons rfl (a0G (enc:=fun x _=>intV x) (d:=0) rfl (fun i j _ _=>.refl _) (fun j hj=>.refl _)) a0f.nil))
 refine ru 2 ?_
 refine a0d ?_
 refine ru 9 ?_
 refine a5f rfl (a0h rfl) [(9005,_)] rfl (a0i rfl a0g) ?_
 have ho:out=mrg A B:=(by rw [List.drop_eq_nil_of_le om,List.drop_eq_nil_of_le om] at hm;simpa [mrg] using hm);rw [←ho];exact a2r (l:=out) (enc:=fun x _=>intV x) (d:=0) (List.mem_cons_self ..) rfl rfl (Nat.le_refl _) (fun i j hi hj=>.imm _)
theorem a3A (x y:Bag):HPure Tryz.prog 72 [a0m x.list,a0m y.list] (a0m (bun x y).list):=by
 rw [←c6g]
 exact c2A _ _ (by have:=a2q x;omega) (by have:=a2q y;omega)
structure Mn where
 name:List UInt8
 on:List Int
instance:Inhabited Mn:=⟨⟨[],[]⟩⟩
@[reducible] def mnF (x:Mn):Nat→HV:=fun j=>match j with | 0=>strV x.name | _=>a0m x.on
@[reducible] def mnsV (l:List Mn):HV:=.sl 2 l.length (fun i=>mnF (l.getD i default))
theorem c7F {sh:List (Nat×HObj)} (x:Mn) (j:Nat):Fz sh (mnF x j) (mnF x j):=by unfold mnF;split <;> exact Frz.fz
instance frz_mns (l:List Mn):Frz (mnsV l):=⟨.sl _ _ _ _ fun _ _ _ _=>c7F _ _⟩
def meansV:List Mn→List UInt8→Bag
 | [],_=>Bag.zero
 | x::l,s=>if x.name=s then a2V x.on else meansV l s
theorem a3O:∀ (l:List Mn) (s:List UInt8),(meansV l s).ok
 | [],_=>Bag.zero_ok
 | x::l,s=>by unfold meansV;split;exact (a1N _).1;exact a3O l s
theorem a6Y:∀ (l:List Mn) (s:List UInt8) (i:Nat),i≤l.length→(∀ j,j < i→(l.getD j default).name≠s)→meansV l s=meansV (l.drop i) s
  | l,s,0,_,_=>rfl
  | [],s,i+1,h,_=>absurd h (by simp)
  | x :: l, s, i + 1, h, hn => by
    have h0:x.name≠s:=hn 0 (by omega)
    show (if x.name=s then _ else _)=_
    rw [if_neg h0]
    exact a6Y l s i (by simpa using h) (fun j hj=>hn (j+1) (by omega))
theorem c1R {l:List Mn} {s:List UInt8} {i:Nat} (hi:i < l.length) (hn:∀ j,j < i→(l.getD j default).name≠s) (h:(l.getD i default).name=s):meansV l s=a2V (l.getD i default).on:=by
 rw [a6Y l s i (by omega) hn,List.drop_eq_getElem_cons hi]
 have e:l[i]=l.getD i default:=by rw [List.getD_eq_getElem?_getD,List.getElem?_eq_getElem hi];rfl
 rw [e]
 unfold meansV
 rw [if_pos h]
theorem b7h {l:List Mn} {s:List UInt8} (hn:∀ j,j < l.length→(l.getD j default).name≠s):meansV l s=Bag.zero:=by
 rw [a6Y l s l.length (Nat.le_refl _) hn,List.drop_length];rfl
theorem a8p:Bag.zero.list=[]:=by decide +kernel
def MnB (l:List Mn):Prop:=l.length≤1000000∧∀ i,i < l.length→(l.getD i default).on.length≤1000000
theorem c0q (l:List Mn) (hB:MnB l) (s:List UInt8):HPure Tryz.prog 42 [mnsV l,strV s] (a0m (meansV l s).list):=by
 have hl:=hB.1
 refine a0k Tryz.func42 rfl kr _ _ _ rfl 25 rfl rfl (fun w F=>?_)
 refine ru 12 ?_
 refine a0l (α:=Nat) (fun x c=>⟨25,[(0,.v (mnsV l)),(1,.v (strV s)),(5,.v (intV x))],[],c⟩) (fun x=>x≤l.length∧∀ j,j < x→(l.getD j default).name≠s) (fun x=>l.length - x) (0) (by exact ⟨Nat.zero_le _,fun j hj=>absurd hj (Nat.not_lt_zero _)⟩) (a0c rfl (Nat.le_refl _) tsa a0f.nil) (fun i c hx NhL1 hL1=>?_)
 (try dsimp only at hx hL1 ⊢)
 obtain ⟨hi,hn⟩:=hx
 refine ru 9 ?_
 refine wdc (fun hr0 hc0=>?_) (fun hr0 hc0=>?_)
 ·skip
  have hil:i < l.length:=om;have hio:=hB.2 i hil
  refine ru 15 ?_
  refine wdc (fun hr1 hc1=>?_) (fun hr1 hc1=>?_)
  ·refine ru 7 ?_
   refine cll (c1K (l.getD i default).on hio) ?_
   refine ru 6 ?_
   refine a0o ?_
   refine ru 2 ?_
   refine rt1 ?_
   rw [c1R hil hn hc1];exact Frz.fz
  refine ru 8 ?_
  exact hL1 (i+1) _ _ (by (try dsimp only);exact ⟨by omega,fun j hj=>by rcases Nat.lt_or_ge j i with h | h;exact hn j h;obtain rfl:j=i:=om;exact hc1⟩) (by (try dsimp only);omega) (a0c rfl (Nat.le_refl _) tsa a0f.nil)
 refine ru 2 ?_
 refine a0d ?_
 refine ru 8 ?_
 refine rt1 ?_
 rw [b7h (fun j hj=>hn j om),a8p];exact .nil 0 1 _ (by decide) none
def b7n (l:List Mn):Bool:=decide (l.length≤20)&&l.all (fun x=>decide (x.on.length≤50)&&decide (x.name.length≤50))
theorem c4P {l:List Mn} {i:Nat} (hi:i < l.length) (h:50 < (l.getD i default).on.length∨50 < (l.getD i default).name.length):b7n l=false:=by
 unfold b7n
 rw [Bool.and_eq_false_iff];right
 rw [List.all_eq_false]
 have e:l.getD i default=l[i]:=by rw [List.getD_eq_getElem?_getD,List.getElem?_eq_getElem hi];rfl
 refine ⟨l[i],List.getElem_mem hi,?_⟩
 rw [←e]
 rw [Bool.and_eq_true,decide_eq_true_eq,decide_eq_true_eq];omega
theorem c0R {l:List Mn} {i:Nat} (hil:l.length≤i∨21≤i) (hi:i≤l.length) (h:∀ j,j < i→(l.getD j default).on.length≤50∧(l.getD j default).name.length≤50):b7n l=decide (l.length≤20):=by
 unfold b7n
 by_cases h20:l.length≤20
 ·have:l.all (fun x=>decide (x.on.length≤50)&&decide (x.name.length≤50))=true:=by
   rw [List.all_eq_true]
   intro x hx
   obtain ⟨j,hj,rfl⟩:=List.mem_iff_getElem.1 hx
   have:=h j (by omega)
   rw [List.getD_eq_getElem?_getD,List.getElem?_eq_getElem hj] at this
   simpa using this
  rw [this,Bool.and_true]
 ·rw [decide_eq_false h20];rfl
theorem b5n {l:List Mn} (h:b7n l=true):MnB l∧l.length≤20:=by
 unfold b7n at h
 rw [Bool.and_eq_true,decide_eq_true_eq,List.all_eq_true] at h
 refine ⟨⟨by omega,fun i hi=>?_⟩,h.1⟩
 have:=h.2 _ (List.getElem_mem hi)
 rw [List.getD_eq_getElem?_getD,List.getElem?_eq_getElem hi]
 simp at this
 show (l[i]).on.length≤_
 omega
theorem a5L (l:List Mn):HPure Tryz.prog 40 [mnsV l] (boolV (b7n l)):=by
 refine a0k Tryz.func40 rfl kr _ _ _ rfl 33 rfl rfl (fun w F=>?_)
 refine ru 12 ?_
 refine a0l (α:=Nat) (fun x c=>⟨33,[(0,.v (mnsV l)),(3,.v (intV x))],[],c⟩) (fun x=>x≤l.length∧x≤21∧∀ j,j < x→(l.getD j default).on.length≤50∧(l.getD j default).name.length≤50) (fun x=>21 - x) (0) (by exact ⟨Nat.zero_le _,Nat.zero_le _,fun j hj=>absurd hj (Nat.not_lt_zero _)⟩) (a0c rfl (Nat.le_refl _) tsa a0f.nil) (fun i c hx NhL1 hL1=>?_)
 (try dsimp only at hx hL1 ⊢)
 obtain ⟨hi,hi21,hn⟩:=hx
 refine ru 13 ?_
 refine wdc (fun hr0 hc0=>?_) (fun hr0 hc0=>?_)
 ·skip
  have hil:i < l.length∧i < 21:=om;have hil1:=hil.1
  refine ru 24 ?_
  refine wdc (fun hr1 hc1=>?_) (fun hr1 hc1=>?_)
  ·refine ru 8 ?_
   refine a0o ?_
   refine ru 2 ?_
   refine rt1 ?_
   rw [c4P hil1 om];exact .imm _
  refine ru 8 ?_
  exact hL1 (i+1) _ _ (by (try dsimp only);exact ⟨by omega,by omega,fun j hj=>by rcases Nat.lt_or_ge j i with h | h;exact hn j h;obtain rfl:j=i:=om;omega⟩) (by (try dsimp only);omega) (a0c rfl (Nat.le_refl _) tsa a0f.nil)
 have hie:l.length≤i∨21≤i:=(by have h:=hr0;simp at h;omega)
 refine ru 2 ?_
 refine a0d ?_
 refine ru 11 ?_
 refine rt1 ?_
 rw [c0R hie hi hn];exact a3d (decide_eq_decide.2 om)
theorem c7m (l:List Mn) (hB:MnB l) (s:List UInt8):HPure Tryz.prog 41 [strV s,.fp 1 (fun _=>mnsV l)] (bagH (meansV l s)):=by
 have hml:=a2q (meansV l s)
 refine a0k Tryz.func41 rfl kr _ _ _ rfl 8 rfl rfl (fun w F=>?_)
 refine ru 9 ?_
 refine cll (c0q l hB s) ?_
 refine cll (c9p (meansV l s).list om) ?_
 refine ru 4 ?_
 refine rt1 ?_
 rw [Bag.of_list _ (a3O l s)];exact a1Z (by exact j4 rfl rfl rfl rfl)
theorem b9X (l:List Mn) (hB:MnB l):MeanOk 41 1 (fun i=>[HV.fp 1 (fun _=>mnsV l)].getD i default) [.fp 1 (fun _=>mnsV l)] (meansV l) :=
 ⟨rfl,fun i hi=>by obtain rfl:i=0:=(by omega);rfl,⟨.fp _ _ (Nat.le_refl _) _ _ (fun j hj=>Frz.fz),trivial⟩,fun sh=>.fn _ _ _ _ (fun i hi=>by obtain rfl:i=0:=(by omega);exact .fp _ _ (Nat.le_refl _) _ _ (fun j hj=>Frz.fz)),fun s _=>c7m l hB s,a3O l⟩
def noneE (l:List Mn) (e:List Pt):Bool:=e.any (fun p=>decide (p.kind=1)&&decide (meansV l p.name=Bag.zero))
@[reducible] def a1g:HV:=.imm (.slice none 0 0)
def ndF (on be:HV) (p:Pc):Nat→Nat→HV:=fun _ j=>match j with
 | 0=>on | 1=>be | 2=>a0m p.first.list | 3=>a0m p.ends.list | _=>boolV p.empty
@[reducible] def ndO (g:Nat) (on be:HV) (p:Pc):HObj:=⟨g,1,5,65,0,ndF on be p⟩
@[reducible] def ndV (p:Pc):HV:=.agg 5 (ndF a1g a1g p 0)
@[reducible] def lrF (β:Nat→Bag):Nat→Nat→HV:=fun i _=>a0m (β i).list
@[reducible] def lrO (g M:Nat) (β:Nat→Bag):HObj:=⟨g,M,1,49,0,lrF β⟩
theorem c3I {sh:List (Nat×HObj)} (p:Pc) (j:Nat):Fz sh (ndF a1g a1g p 0 j) (ndF a1g a1g p 0 j):=by unfold ndF;split <;> exact Frz.fz
instance frz_nd (p:Pc):Frz (ndV p):=⟨.agg _ _ _ fun j _=>c3I p j⟩
theorem jn5 {P:Nat→Prop} (h0:P 0) (h1:P 1) (h2:P 2) (h3:P 3) (h4:P 4):∀ j,j < 5→P j:=fun j hj=>by
 match j,hj with | 0,_=>exact h0 | 1,_=>exact h1 | 2,_=>exact h2 | 3,_=>exact h3 | 4,_=>exact h4
theorem a1d {kp sh:List (Nat×HObj)} {g M:Nat} {β β':Nat→Bag} (h:∀ p,p < M→β p=β' p):OKz kp sh (lrO g M β) (lrO g M β'):=.of fun i j hi hj=>by
 show Kz kp sh (a0m (β i).list) (a0m (β' i).list)
 rw [h i hi];exact .fz _ _ Frz.fz
theorem a4Z {g M:Nat} {f:Nat→Nat→HV} {β:Nat→Bag} (h:∀ i,i < M→f i 0=a0m (β i).list):a2X ⟨g,M,1,49,0,f⟩ (lrO g M β):=a2X.of fun i j hi hj=>by
 obtain rfl:j=0:=by omega
 rw [h i hi];exact .refl _
theorem b1g {γ:Nat→Bag} {x:Bag} {q i:Nat}:upd (lrF γ) q 0 1 (a0m x.list).cell i 0=a0m (if i=q then x else γ i).list:=by
 unfold upd inb
 have h0:(Nat.ble 0 0&&Nat.blt 0 (0+1))=true:=by simp
 by_cases e:i=q
 ·subst e
  have:Nat.beq i i=true:=by simp
  rw [h0,this,if_pos rfl];rfl
 ·have:Nat.beq i q=false:=(by rw [Bool.eq_false_iff];intro h;exact e (Nat.eq_of_beq_eq_true h))
  rw [this,if_neg e];rfl
theorem a4f {kp sh:List (Nat×HObj)} {g:Nat} {f f':Nat→Nat→HV} (h:∀ j,j < 5→Kz kp sh (f 0 j) (f' 0 j)):OKz kp sh ⟨g,1,5,65,0,f⟩ ⟨g,1,5,65,0,f'⟩:=.of fun i j hi hj=>by
 obtain rfl:i=0:=by omega
 exact h j hj
theorem a2U {kp sh:List (Nat×HObj)} {f:HV} {y:Bag} (x:Bag) (hf:f=a0m x.list) (h:x=y):Kz kp sh f (a0m y.list):=by subst hf;subst h;exact .fz _ _ Frz.fz
theorem a7g {kp sh:List (Nat×HObj)} {f:HV} {y:Bool} (x:Bool) (hf:f=boolV x) (h:x=y):Kz kp sh f (boolV y):=by subst hf;subst h;exact .fz _ _ (.imm _)
theorem a2f (a b:Pc):(a.join b).first=if a.empty then bun a.first b.first else a.first:=rfl
theorem a2R (a b:Pc):(a.join b).ends=if b.empty then bun a.ends b.ends else b.ends:=by rw [c2G]
theorem a2i (a b:Pc):(a.join b).empty=(a.empty&&b.empty):=rfl
theorem a9m {g:Nat} {f f':Nat→Nat→HV} (h0:Sb (f 0 0) (f' 0 0)) (h1:Sb (f 0 1) (f' 0 1)) (h2:Sb (f 0 2) (f' 0 2)) (h3:Sb (f 0 3) (f' 0 3)) (h4:Sb (f 0 4) (f' 0 4)):a2X ⟨g,1,5,65,0,f⟩ ⟨g,1,5,65,0,f'⟩:=a2X.of fun i j hi hj=>by
 obtain rfl:i=0:=by omega
 exact jn5 (P:=fun j=>Sb (f 0 j) (f' 0 j)) h0 h1 h2 h3 h4 j hj
theorem b7g (a b:Pc) (ha:a.ok) (hb:b.ok) (M g3 g4:Nat) (β:Nat→Bag) (hin:∀ p,p < 256→a.ends.has p=true→p < M) (hN:M≤256) :
  a4S Tryz.prog 96 [.pt 9210 g4 0 0,ndV b] [(9210,ndO g4 a1g (.os 9103 g3 0 M) a),(9103,lrO g3 M β)] (.tup 0 fun _=>default) [(9210,ndO g4 a1g (.os 9103 g3 0 M) (a.join b)),(9103,lrO g3 M (a1W β (a.ends,b.first)))]:=by
 intro c
 let k0:=c
 have hle:=a2q a.ends
 refine a0v Tryz.func96 rfl kr _ _ _ _ rfl 84 rfl rfl (fun X ok hX=>?_)
 refine ru 12 ?_
 refine a0l (α:=Nat) (fun x c=>⟨84,[(0,.v (.pt 9210 g4 0 0)),(3,.v (.pt 3 k0 0 0)),(4,.v (intV x))],[(9210,ndO g4 a1g (.os 9103 g3 0 M) a),(9103,lrO g3 M (a4o a.ends b.first β x)),(3,⟨k0,1,5,65,0,ndF a1g a1g b⟩)],c⟩) (fun x=>x≤a.ends.list.length) (fun x=>a.ends.list.length - x) (0) om (a0c rfl (Nat.le_refl _) tsa (hsr rfl (a0f.cons rfl (a2X.of fun i j hi hj=>by show Sb (a0m (β i).list) (a0m (a4o a.ends b.first β 0 i).list);rw [a7c];exact .refl _) (a0f.cons rfl (a2X.of fun i j hi hj=>by obtain rfl:i=0:=om;exact jn5 (P:=fun j=>Sb (ndF a1g a1g b 0 j) (ndF a1g a1g b 0 j)) (.refl _) (.refl _) (.refl _) (.refl _) (.refl _) j hj) a0f.nil)))) (fun i c hx NhL1 hL1=>?_)
 (try dsimp only at hx hL1 ⊢)
 refine ru 12 ?_
 refine wdc (fun hr0 hc0=>?_) (fun hr0 hc0=>?_)
 ·skip
  have hi':i < a.ends.list.length:=om;obtain ⟨q,hq256,hqA,hq⟩:=a4v a.ends hi';have hqN:=hin q hq256 hqA
  refine ru 7 ?_
  first
  | refine a3a 16 (HOp.val (v':=HV.pt 9210 g4 0 1) (b6h fd_65_1.h rfl) (rfl)) rfl rfl a0g rfl rfl (k':=3) rfl ?_
  | refine a3a 16 (HOp.val (v':=HV.pt 9210 g4 0 1) (a8u fd_65_1.h rfl (by first | exact Nat.le_of_ble_eq_true rfl | omega | (dsimp only;omega) | (simp <;> omega))) (rfl)) rfl rfl a0g rfl rfl (k':=3) rfl ?_
  refine ru 7 ?_
  first
  | refine a3a 24 (HOp.val (v':=intV (q:Int)) (a0D ty_3.h rfl (by first | exact Nat.le_of_ble_eq_true rfl | omega | (dsimp only;omega) | (simp <;> omega)) (by first | exact Nat.le_of_ble_eq_true rfl | omega | (dsimp only;omega) | (simp <;> omega)) (fun h=>(by first | rfl | cases h))) (congrArg intV hq)) rfl rfl (a0P rfl) rfl rfl (k':=11) rfl ?_
  | refine a3a 24 (HOp.val (v':=intV (q:Int)) (a0r ty_3.h rfl (by first | exact Nat.le_of_ble_eq_true rfl | omega | (dsimp only;omega) | (simp <;> omega)) (fun h=>(by first | rfl | cases h))) (congrArg intV hq)) rfl rfl a0g rfl rfl (k':=11) rfl ?_
  refine ru 10 ?_
  first
  | refine a3a 35 (HOp.val (v':=intV (q:Int)) (a0D ty_3.h rfl (by first | exact Nat.le_of_ble_eq_true rfl | omega | (dsimp only;omega) | (simp <;> omega)) (by first | exact Nat.le_of_ble_eq_true rfl | omega | (dsimp only;omega) | (simp <;> omega)) (fun h=>(by first | rfl | cases h))) (congrArg intV hq)) rfl rfl (a0P rfl) rfl rfl (k':=22) rfl ?_
  | refine a3a 35 (HOp.val (v':=intV (q:Int)) (a0r ty_3.h rfl (by first | exact Nat.le_of_ble_eq_true rfl | omega | (dsimp only;omega) | (simp <;> omega)) (fun h=>(by first | rfl | cases h))) (congrArg intV hq)) rfl rfl a0g rfl rfl (k':=22) rfl ?_
  refine ru 4 ?_
  refine d0 27 (a0e (xs:=[_,_]) (a3A (a4o a.ends b.first β i q) b.first) ⟨rfl,⟨rfl,trivial⟩⟩ ⟨(Fz.eq (by rw [Nat.zero_add];rfl)),⟨(Fz.eq rfl),trivial⟩⟩) ?_
  refine ru 10 ?_
  exact hL1 (i+1) _ _ (by (try dsimp only);omega) (by (try dsimp only);omega) (a0c rfl (Nat.le_refl _) tsa (hsr rfl (a0f.cons rfl (a4Z fun p hp=>b1g.trans (by rw [a5C a.ends b.first β hi' hq,Nat.zero_add];rfl)) hsa)))
 have hie:i=a.ends.list.length:=om
 refine ru 2 ?_
 refine a0d ?_
 refine ru 11 ?_
 refine wdc (fun hr1 hc1=>?_) (fun hr1 hc1=>?_)
 ·refine ru 8 ?_
  refine clx (a3A a.first b.first) ?_
  refine ru 12 ?_
  refine wdc (fun hr2 hc2=>?_) (fun hr2 hc2=>?_)
  ·refine ru 8 ?_
   refine clx (a3A a.ends b.ends) ?_
   refine ru 19 ?_
   refine a1Y ?_
   refine a1w ok hX a3g.one rfl  [] rfl a0g (()) (trivial) (by rfl) (by rfl) (kza) ?_
   exact ⟨⟨_,rfl,(a4f (by exact jn5 (.fz _ _ (.imm _)) (.os _ _ _ _ _ rfl rfl) (a2U (bun a.first b.first) rfl (by rw [a2f];simp [hc1])) (a2U (bun a.ends b.ends) rfl (by rw [a2R];simp [hc2])) (a7g (a.empty&&b.empty) rfl (a2i a b).symm)))⟩,⟨⟨_,rfl,(a1d (fun p hp=>by rw [hie];exact a1Q _ _ _ om))⟩,trivial⟩⟩
  refine ru 23 ?_
  refine a1Y ?_
  refine a1w ok hX a3g.one rfl  [] rfl a0g (()) (trivial) (by rfl) (by rfl) (kza) ?_
  exact ⟨⟨_,rfl,(a4f (by exact jn5 (.fz _ _ (.imm _)) (.os _ _ _ _ _ rfl rfl) (a2U (bun a.first b.first) rfl (by rw [a2f];simp [hc1])) (a2U (b.ends) rfl (by rw [a2R];simp [hc2])) (a7g (a.empty&&b.empty) rfl (a2i a b).symm)))⟩,⟨⟨_,rfl,(a1d (fun p hp=>by rw [hie];exact a1Q _ _ _ om))⟩,trivial⟩⟩
 refine ru 9 ?_
 refine wdc (fun hr2 hc2=>?_) (fun hr2 hc2=>?_)
 ·refine ru 8 ?_
  refine clx (a3A a.ends b.ends) ?_
  refine ru 19 ?_
  refine a1Y ?_
  refine a1w ok hX a3g.one rfl  [] rfl a0g (()) (trivial) (by rfl) (by rfl) (kza) ?_
  exact ⟨⟨_,rfl,(a4f (by exact jn5 (.fz _ _ (.imm _)) (.os _ _ _ _ _ rfl rfl) (a2U (a.first) rfl (by rw [a2f];simp [hc1])) (a2U (bun a.ends b.ends) rfl (by rw [a2R];simp [hc2])) (a7g (a.empty&&b.empty) rfl (a2i a b).symm)))⟩,⟨⟨_,rfl,(a1d (fun p hp=>by rw [hie];exact a1Q _ _ _ om))⟩,trivial⟩⟩
 refine ru 23 ?_
 refine a1Y ?_
 refine a1w ok hX a3g.one rfl  [] rfl a0g (()) (trivial) (by rfl) (by rfl) (kza) ?_
 exact ⟨⟨_,rfl,(a4f (by exact jn5 (.fz _ _ (.imm _)) (.os _ _ _ _ _ rfl rfl) (a2U (a.first) rfl (by rw [a2f];simp [hc1])) (a2U (b.ends) rfl (by rw [a2R];simp [hc2])) (a7g (a.empty&&b.empty) rfl (a2i a b).symm)))⟩,⟨⟨_,rfl,(a1d (fun p hp=>by rw [hie];exact a1Q _ _ _ om))⟩,trivial⟩⟩
theorem a8R (a b:Pc) (ha:a.ok) (hb:b.ok) (M g1 g2 g3 g4:Nat) (ρ β:Nat→Bag) (p0:Pc) (hin:∀ p,p < 256→a.ends.has p=true→p < M) (hN:M≤256) :
  a4S Tryz.prog 73 [.pt 9101 g1 0 0,.pt 9210 g4 0 0,ndV b] [(9101,ndO g1 (.os 9102 g2 0 M) (.os 9103 g3 0 M) p0),(9102,lrO g2 M ρ),(9103,lrO g3 M β),(9210,ndO g4 a1g a1g a)] (.tup 0 fun _=>default) [(9101,ndO g1 (.os 9102 g2 0 M) (.os 9103 g3 0 M) p0),(9102,lrO g2 M ρ),(9103,lrO g3 M (a1W β (a.ends,b.first))),(9210,ndO g4 a1g a1g (a.join b))]:=by
 intro c
 let k0:=c
 refine a0v Tryz.func73 rfl kr _ _ _ _ rfl 19 rfl rfl (fun X ok hX=>?_)
 refine ru 18 ?_
 refine (a1e 9210 (ndO g4 a1g (.os 9103 g3 0 M) a) rfl (by exact a9m (.refl _) (.refl _) (.refl _) (.refl _) (.refl _))).wp ?_
 refine ru 3 ?_
 refine rvl (ndV b) (rfl) ?_
 refine hm_ 15 (a1R (xs:=[_,_]) (pre:=[(9210,_),(9103,_)]) (b7g a b ha hb M g3 g4 β hin hN) ((a1f (.head _) rfl (a1f (.tail _ (.head _)) rfl a4q))) ⟨rfl,⟨rfl,trivial⟩⟩) rfl rfl (a0i rfl (a0i rfl a0g)) rfl rfl (c':=c+3) rfl ?_
 refine ru 8 ?_
 refine a1Y ?_
 refine a1w ok hX a3g.one rfl  [] rfl a0g (()) (trivial) (by rfl) (by rfl) (kza) ?_
 exact ⟨⟨_,rfl,(a4f (by exact jn5 (.os _ _ _ _ _ rfl rfl) (.os _ _ _ _ _ rfl rfl) (a2U p0.first rfl rfl) (a2U p0.ends rfl rfl) (a7g p0.empty rfl rfl)))⟩,⟨⟨_,rfl,(a1d (fun _ _=>rfl))⟩,⟨⟨_,rfl,(a1d (fun _ _=>rfl))⟩,⟨⟨_,rfl,(a4f (by exact jn5 (.fz _ _ (.imm _)) (.fz _ _ (.imm _)) (a2U (a.join b).first rfl rfl) (a2U (a.join b).ends rfl rfl) (a7g (a.join b).empty rfl rfl)))⟩,trivial⟩⟩⟩⟩
theorem b6u (a b:Pc) (ha:a.ok) (hb:b.ok) (M g3 g4:Nat) (β:Nat→Bag) (hin:∀ p,p < 256→a.ends.has p=true→p < M) (hN:M≤256) :
  a4S Tryz.prog 96 [.pt 9224 g4 0 0,ndV b] [(9224,ndO g4 a1g (.os 9103 g3 0 M) a),(9103,lrO g3 M β)] (.tup 0 fun _=>default) [(9224,ndO g4 a1g (.os 9103 g3 0 M) (a.join b)),(9103,lrO g3 M (a1W β (a.ends,b.first)))]:=by
 intro c
 let k0:=c
 have hle:=a2q a.ends
 refine a0v Tryz.func96 rfl kr _ _ _ _ rfl 84 rfl rfl (fun X ok hX=>?_)
 refine ru 12 ?_
 refine a0l (α:=Nat) (fun x c=>⟨84,[(0,.v (.pt 9224 g4 0 0)),(3,.v (.pt 3 k0 0 0)),(4,.v (intV x))],[(9224,ndO g4 a1g (.os 9103 g3 0 M) a),(9103,lrO g3 M (a4o a.ends b.first β x)),(3,⟨k0,1,5,65,0,ndF a1g a1g b⟩)],c⟩) (fun x=>x≤a.ends.list.length) (fun x=>a.ends.list.length - x) (0) om (a0c rfl (Nat.le_refl _) tsa (hsr rfl (a0f.cons rfl (a2X.of fun i j hi hj=>by show Sb (a0m (β i).list) (a0m (a4o a.ends b.first β 0 i).list);rw [a7c];exact .refl _) (a0f.cons rfl (a2X.of fun i j hi hj=>by obtain rfl:i=0:=om;exact jn5 (P:=fun j=>Sb (ndF a1g a1g b 0 j) (ndF a1g a1g b 0 j)) (.refl _) (.refl _) (.refl _) (.refl _) (.refl _) j hj) a0f.nil)))) (fun i c hx NhL1 hL1=>?_)
 (try dsimp only at hx hL1 ⊢)
 refine ru 12 ?_
 refine wdc (fun hr0 hc0=>?_) (fun hr0 hc0=>?_)
 ·skip
  have hi':i < a.ends.list.length:=om;obtain ⟨q,hq256,hqA,hq⟩:=a4v a.ends hi';have hqN:=hin q hq256 hqA
  refine ru 7 ?_
  first
  | refine a3a 16 (HOp.val (v':=HV.pt 9224 g4 0 1) (b6h fd_65_1.h rfl) (rfl)) rfl rfl a0g rfl rfl (k':=3) rfl ?_
  | refine a3a 16 (HOp.val (v':=HV.pt 9224 g4 0 1) (a8u fd_65_1.h rfl (by first | exact Nat.le_of_ble_eq_true rfl | omega | (dsimp only;omega) | (simp <;> omega))) (rfl)) rfl rfl a0g rfl rfl (k':=3) rfl ?_
  refine ru 7 ?_
  first
  | refine a3a 24 (HOp.val (v':=intV (q:Int)) (a0D ty_3.h rfl (by first | exact Nat.le_of_ble_eq_true rfl | omega | (dsimp only;omega) | (simp <;> omega)) (by first | exact Nat.le_of_ble_eq_true rfl | omega | (dsimp only;omega) | (simp <;> omega)) (fun h=>(by first | rfl | cases h))) (congrArg intV hq)) rfl rfl (a0P rfl) rfl rfl (k':=11) rfl ?_
  | refine a3a 24 (HOp.val (v':=intV (q:Int)) (a0r ty_3.h rfl (by first | exact Nat.le_of_ble_eq_true rfl | omega | (dsimp only;omega) | (simp <;> omega)) (fun h=>(by first | rfl | cases h))) (congrArg intV hq)) rfl rfl a0g rfl rfl (k':=11) rfl ?_
  refine ru 10 ?_
  first
  | refine a3a 35 (HOp.val (v':=intV (q:Int)) (a0D ty_3.h rfl (by first | exact Nat.le_of_ble_eq_true rfl | omega | (dsimp only;omega) | (simp <;> omega)) (by first | exact Nat.le_of_ble_eq_true rfl | omega | (dsimp only;omega) | (simp <;> omega)) (fun h=>(by first | rfl | cases h))) (congrArg intV hq)) rfl rfl (a0P rfl) rfl rfl (k':=22) rfl ?_
  | refine a3a 35 (HOp.val (v':=intV (q:Int)) (a0r ty_3.h rfl (by first | exact Nat.le_of_ble_eq_true rfl | omega | (dsimp only;omega) | (simp <;> omega)) (fun h=>(by first | rfl | cases h))) (congrArg intV hq)) rfl rfl a0g rfl rfl (k':=22) rfl ?_
  refine ru 4 ?_
  refine d0 27 (a0e (xs:=[_,_]) (a3A (a4o a.ends b.first β i q) b.first) ⟨rfl,⟨rfl,trivial⟩⟩ ⟨(Fz.eq (by rw [Nat.zero_add];rfl)),⟨(Fz.eq rfl),trivial⟩⟩) ?_
  refine ru 10 ?_
  exact hL1 (i+1) _ _ (by (try dsimp only);omega) (by (try dsimp only);omega) (a0c rfl (Nat.le_refl _) tsa (hsr rfl (a0f.cons rfl (a4Z fun p hp=>b1g.trans (by rw [a5C a.ends b.first β hi' hq,Nat.zero_add];rfl)) hsa)))
 have hie:i=a.ends.list.length:=om
 refine ru 2 ?_
 refine a0d ?_
 refine ru 11 ?_
 refine wdc (fun hr1 hc1=>?_) (fun hr1 hc1=>?_)
 ·refine ru 8 ?_
  refine clx (a3A a.first b.first) ?_
  refine ru 12 ?_
  refine wdc (fun hr2 hc2=>?_) (fun hr2 hc2=>?_)
  ·refine ru 8 ?_
   refine clx (a3A a.ends b.ends) ?_
   refine ru 19 ?_
   refine a1Y ?_
   refine a1w ok hX a3g.one rfl  [] rfl a0g (()) (trivial) (by rfl) (by rfl) (kza) ?_
   exact ⟨⟨_,rfl,(a4f (by exact jn5 (.fz _ _ (.imm _)) (.os _ _ _ _ _ rfl rfl) (a2U (bun a.first b.first) rfl (by rw [a2f];simp [hc1])) (a2U (bun a.ends b.ends) rfl (by rw [a2R];simp [hc2])) (a7g (a.empty&&b.empty) rfl (a2i a b).symm)))⟩,⟨⟨_,rfl,(a1d (fun p hp=>by rw [hie];exact a1Q _ _ _ om))⟩,trivial⟩⟩
  refine ru 23 ?_
  refine a1Y ?_
  refine a1w ok hX a3g.one rfl  [] rfl a0g (()) (trivial) (by rfl) (by rfl) (kza) ?_
  exact ⟨⟨_,rfl,(a4f (by exact jn5 (.fz _ _ (.imm _)) (.os _ _ _ _ _ rfl rfl) (a2U (bun a.first b.first) rfl (by rw [a2f];simp [hc1])) (a2U (b.ends) rfl (by rw [a2R];simp [hc2])) (a7g (a.empty&&b.empty) rfl (a2i a b).symm)))⟩,⟨⟨_,rfl,(a1d (fun p hp=>by rw [hie];exact a1Q _ _ _ om))⟩,trivial⟩⟩
 refine ru 9 ?_
 refine wdc (fun hr2 hc2=>?_) (fun hr2 hc2=>?_)
 ·refine ru 8 ?_
  refine clx (a3A a.ends b.ends) ?_
  refine ru 19 ?_
  refine a1Y ?_
  refine a1w ok hX a3g.one rfl  [] rfl a0g (()) (trivial) (by rfl) (by rfl) (kza) ?_
  exact ⟨⟨_,rfl,(a4f (by exact jn5 (.fz _ _ (.imm _)) (.os _ _ _ _ _ rfl rfl) (a2U (a.first) rfl (by rw [a2f];simp [hc1])) (a2U (bun a.ends b.ends) rfl (by rw [a2R];simp [hc2])) (a7g (a.empty&&b.empty) rfl (a2i a b).symm)))⟩,⟨⟨_,rfl,(a1d (fun p hp=>by rw [hie];exact a1Q _ _ _ om))⟩,trivial⟩⟩
 refine ru 23 ?_
 refine a1Y ?_
 refine a1w ok hX a3g.one rfl  [] rfl a0g (()) (trivial) (by rfl) (by rfl) (kza) ?_
 exact ⟨⟨_,rfl,(a4f (by exact jn5 (.fz _ _ (.imm _)) (.os _ _ _ _ _ rfl rfl) (a2U (a.first) rfl (by rw [a2f];simp [hc1])) (a2U (b.ends) rfl (by rw [a2R];simp [hc2])) (a7g (a.empty&&b.empty) rfl (a2i a b).symm)))⟩,⟨⟨_,rfl,(a1d (fun p hp=>by rw [hie];exact a1Q _ _ _ om))⟩,trivial⟩⟩
theorem b9M (a b:Pc) (ha:a.ok) (hb:b.ok) (M g1 g2 g3 g4:Nat) (ρ β:Nat→Bag) (p0:Pc) (hin:∀ p,p < 256→a.ends.has p=true→p < M) (hN:M≤256) :
  a4S Tryz.prog 73 [.pt 9101 g1 0 0,.pt 9224 g4 0 0,ndV b] [(9101,ndO g1 (.os 9102 g2 0 M) (.os 9103 g3 0 M) p0),(9102,lrO g2 M ρ),(9103,lrO g3 M β),(9224,ndO g4 a1g a1g a)] (.tup 0 fun _=>default) [(9101,ndO g1 (.os 9102 g2 0 M) (.os 9103 g3 0 M) p0),(9102,lrO g2 M ρ),(9103,lrO g3 M (a1W β (a.ends,b.first))),(9224,ndO g4 a1g a1g (a.join b))]:=by
 intro c
 let k0:=c
 refine a0v Tryz.func73 rfl kr _ _ _ _ rfl 19 rfl rfl (fun X ok hX=>?_)
 refine ru 18 ?_
 refine (a1e 9224 (ndO g4 a1g (.os 9103 g3 0 M) a) rfl (by exact a9m (.refl _) (.refl _) (.refl _) (.refl _) (.refl _))).wp ?_
 refine ru 3 ?_
 refine rvl (ndV b) (rfl) ?_
 refine hm_ 15 (a1R (xs:=[_,_]) (pre:=[(9224,_),(9103,_)]) (b6u a b ha hb M g3 g4 β hin hN) ((a1f (.head _) rfl (a1f (.tail _ (.head _)) rfl a4q))) ⟨rfl,⟨rfl,trivial⟩⟩) rfl rfl (a0i rfl (a0i rfl a0g)) rfl rfl (c':=c+3) rfl ?_
 refine ru 8 ?_
 refine a1Y ?_
 refine a1w ok hX a3g.one rfl  [] rfl a0g (()) (trivial) (by rfl) (by rfl) (kza) ?_
 exact ⟨⟨_,rfl,(a4f (by exact jn5 (.os _ _ _ _ _ rfl rfl) (.os _ _ _ _ _ rfl rfl) (a2U p0.first rfl rfl) (a2U p0.ends rfl rfl) (a7g p0.empty rfl rfl)))⟩,⟨⟨_,rfl,(a1d (fun _ _=>rfl))⟩,⟨⟨_,rfl,(a1d (fun _ _=>rfl))⟩,⟨⟨_,rfl,(a4f (by exact jn5 (.fz _ _ (.imm _)) (.fz _ _ (.imm _)) (a2U (a.join b).first rfl rfl) (a2U (a.join b).ends rfl rfl) (a7g (a.join b).empty rfl rfl)))⟩,trivial⟩⟩⟩⟩
@[reducible] def c9H (g1 g2 g3 M:Nat) (on:List Bag) (β:Nat→Bag) (p0:Pc):List (Nat×HObj):=[(9101,ndO g1 (.os 9102 g2 0 M) (.os 9103 g3 0 M) p0),(9102,lrO g2 M (onF on)),(9103,lrO g3 M β)]
def b7B (l:List Mn) (e:List Pt) (b:Nat) (t:T):Prop:=∀ (c g1 g2 g3 M:Nat) (on:List Bag) (β:Nat→Bag) (p0:Pc),on.length=M→M+t.w≤256→(∀ p,(β p).ok)→(∀ p,M≤p→p < 256→β p=Bag.zero) →
 a4s Tryz.prog 48 c [.pt 9101 g1 0 0,ptsV e,intV ((b+t.size - 1:Nat):Int),mnsV l] (c9H g1 g2 g3 M on β p0) (a9t (fun (y:Nat×Nat) _=>True) (fun _=>ndV (lay (meansV l) t M).pc) (fun y=>c9H g1 y.1 y.2 (M+t.w) (on++(lay (meansV l) t M).on) (links β (lay (meansV l) t M).lk) p0))
theorem b4N (n:Nat) (hn:n < 256):(a3f n).list=[(n:Int)]:=by
 rw [Bag.list_eq]
 have:(List.range 256).filter (a3f n).has=[n]:=by
  have h:(List.range 256).filter (a3f n).has=(List.range 256).filter (fun k=>k == n):=by
   apply List.filter_congr
   intro k hk
   rw [a5H n k (List.mem_range.1 hk)]
   by_cases e:k=n <;> simp [e]
  rw [h,List.filter_beq,List.count_range]
  simp [hn]
 rw [this];rfl
theorem c0J:Sb a1g (a0m Bag.zero.list):=by rw [a8p];exact .nil 0 1 _ (by decide) none
theorem a3i {g:Nat} {f:Nat→Nat→HV} {p:Pc} (h0:f 0 0=a1g) (h1:f 0 1=a1g) (h2:f 0 2=a1g) (h3:f 0 3=a1g) (h4:f 0 4=boolV p.empty) (h5:p.first=Bag.zero) (h6:p.ends=Bag.zero):a2X ⟨g,1,5,65,0,f⟩ (ndO g a1g a1g p):=by
 refine a9m ?_ ?_ ?_ ?_ ?_
 ·rw [h0];exact .refl _
 ·rw [h1];exact .refl _
 ·rw [h2];show Sb a1g (a0m p.first.list);rw [h5];exact c0J
 ·rw [h3];show Sb a1g (a0m p.ends.list);rw [h6];exact c0J
 ·rw [h4];exact .refl _
theorem a8f {g:Nat} {f:Nat→Nat→HV} {p:Pc} (h:∀ j,j < 5→f 0 j=ndF a1g a1g p 0 j):a2X ⟨g,1,5,65,0,f⟩ (ndO g a1g a1g p):=a2X.of fun i j hi hj=>by
 obtain rfl:i=0:=by omega
 rw [h j hj];exact .refl _
theorem c4D {kp sh:List (Nat×HObj)} {f:Nat→HV} {p:Pc} (h:∀ j,j < 5→f j=ndF a1g a1g p 0 j):Kz kp sh (.agg 5 f) (ndV p):=.fz _ _ (.agg _ _ _ fun j hj=>by rw [h j hj];exact c3I p j)
theorem a7S {kp sh:List (Nat×HObj)} {g1 g2 g3 M:Nat} {o2 o3:HObj} {p0:Pc} (h2:hget kp 9102=some o2) (e2:o2.g=g2) (h3:hget kp 9103=some o3) (e3:o3.g=g3):OKz kp sh (ndO g1 (.os 9102 g2 0 M) (.os 9103 g3 0 M) p0) (ndO g1 (.os 9102 g2 0 M) (.os 9103 g3 0 M) p0) :=
 a4f (by exact jn5 (.os _ _ _ _ _ h2 e2) (.os _ _ _ _ _ h3 e3) (a2U p0.first rfl rfl) (a2U p0.ends rfl rfl) (a7g p0.empty rfl rfl))
@[reducible] def c4A (l:List Pc):Nat→Nat→HV:=fun i=>ndF a1g a1g (l.getD i default) 0
theorem c8F {i:Nat} {o1 o2 o3 o4 p1 p2 p3 p4:HObj} (h1:p1.g=o1.g) (h2:p2.g=o2.g) (h3:p3.g=o3.g) (h4:p4.g=o4.g):a7J [(9101,o1),(9102,o2),(9103,o3),(i,o4)] [(9101,p1),(9102,p2),(9103,p3),(i,p4)] :=
 a1f (.head _) h1.symm (a1f (.tail _ (.head _)) h2.symm (a1f (.tail _ (.tail _ (.head _))) h3.symm (a1f (.tail _ (.tail _ (.tail _ (.head _)))) h4.symm a4q)))
theorem b2u {g M:Nat} {γ γ':Nat→Bag} {L:List HV} (h1:∀ i,i < M→γ i=γ' i) (h2:Sb (bsf L 0 0) (a0m (γ' M).list)):a2X ⟨g,M+1,1,49,0,cat M (lrF γ) (bsf L)⟩ (lrO g (M+1) γ'):=a2X.of fun i j hi hj=>by
 obtain rfl:j=0:=by omega
 unfold cat
 by_cases h:i < M
 ·have e:Nat.blt i M=true:=by simpa [Nat.blt_eq] using h
  rw [e];show Sb (a0m (γ i).list) (a0m (γ' i).list);rw [h1 i h];exact .refl _
 ·obtain rfl:i=M:=by omega
  have e:Nat.blt i i=false:=by rw [Bool.eq_false_iff];intro h';simp [Nat.blt_eq] at h'
  rw [e];show Sb (bsf L (i - i) 0) _;rw [Nat.sub_self];exact h2
theorem c7H {kp sh:List (Nat×HObj)} {id g fl M:Nat} {ty:TypeId} {f:Nat→Nat→HV} (ho:(id,(⟨g,1,1,ty,fl,f⟩:HObj))∈sh) (hf:f 0 0=intV (M:Int)) (h:M < 256):Kz kp sh (.os id g 0 1) (a0m (a3f M).list):=by
 rw [b4N M h]
 exact .fz _ _ (a2r (l:=[(M:Int)]) (enc:=fun x _=>intV x) (d:=0) ho rfl rfl (Nat.le_refl _) (fun i j hi hj=>by
  obtain rfl:i=0:=by simpa using hi
  obtain rfl:j=0:=by have:j < 1:=hj;omega
  show Fz sh (f 0 0) (intV (M:Int));rw [hf];exact .imm _))
theorem c9q {t:T} (hok:t.ok=true) (h1:t.kind≠1) (h3:t.kind≠3) (h2:t.kind≠2):t.kind=4:=by
 rcases c5v hok with h | h | h | h
 ·exact absurd h h1
 ·exact absurd h h2
 ·exact absurd h h3
 ·exact h
theorem c2m (l:List Mn) (hB:MnB l) (e:List Pt) (he:e.length≤100000) (b:Nat) (t:T) (hk4:t.kind≠4) (hok:t.ok=true) (hat:AtP e b (T.flat b t)) (hkl:t.kidsT.length≤100000)
  (ih:∀ i,i < t.kidsT.length→b7B l e (b+T.sizeL (t.kidsT.take i)) (t.kidsT.getD i default)):b7B l e b t:=by
 intro c g1 g2 g3 M0 on β p0 hon hw hβ hz
 have htop:=a3x hat
 have hps:=t.size_pos
 have hkid:=a6T b t
 have hrl:=a0K t.kidsT b
 generalize htp:t.top b=p at htop hkid
 have hpk:p.kind=t.kind:=by rw [←htp];exact a6s b t
 obtain ⟨m,hm⟩:∃ m,m=meansV l:=⟨_,rfl⟩
 have hmo:∀ s,(m s).ok:=by rw [hm];exact a3O l
 rw [←hm]
 let k0:=c
 refine a0v Tryz.func48 rfl kr _ _ _ _ rfl 233 rfl rfl (fun X ok hX=>?_)
 refine ru 2 ?_
 refine a0u 8 (a0X (id:=9208) (sz:=5) zc_65.h rfl rfl omx omx) rfl rfl a0g rfl rfl (c':=c+1) rfl ?_
 refine ru 8 ?_
 refine rvl (ptH p) (b8c om htop.1) ?_
 refine a0u 9 (a0X (id:=9209) (sz:=5) zc_105.h rfl rfl omx omx) rfl rfl a0g rfl rfl (c':=c+2) rfl ?_
 refine ru 6 ?_
 refine a0u 10 (a0X (id:=9210) (sz:=5) zc_65.h rfl rfl omx omx) rfl rfl a0g rfl rfl (c':=c+4) rfl ?_
 refine ru 11 ?_
 refine wdc (fun hr0 hc0=>?_) (fun hr0 hc0=>?_)
 ·skip
  obtain ⟨s,hts⟩:=c9O (by rw [←hpk];exact hc0) hok;have hpn:p.name=s:=(by rw [←htp,hts];rfl);have hl1:lay m t M0=⟨[m s],[],⟨a3f M0,a3f M0,false⟩⟩:=(by rw [hts];simp [lay]);have hw1:t.w=1:=(by rw [hts];rfl)
  refine ru 20 ?_
  refine clx (c0q l hB p.name) ?_
  refine a2n 47 (a0b (id:=9247) (hs:=[_]) ei_24.h omx rfl omx ⟨rfl,rfl,rfl,rfl,trivial⟩) rfl rfl a0g rfl rfl (k':=10) rfl ?_
  first
  | refine a2n 48 (a0a ei_24.h (by first | exact Nat.le_of_ble_eq_true rfl | omega | (dsimp only;omega) | (simp <;> omega)) rfl (by first | exact Nat.le_of_ble_eq_true rfl | omega | (dsimp only;omega) | (simp <;> omega)) (by first | exact Nat.le_of_ble_eq_true rfl | omega | (dsimp only;omega) | (simp <;> omega)) (a0x rfl (by first | exact Nat.le_of_ble_eq_true rfl | omega | (dsimp only;omega) | (simp <;> omega))) (by first | exact Nat.le_of_ble_eq_true rfl | omega | (dsimp only;omega) | (simp <;> omega)) rfl) rfl rfl (a0i rfl (a0P rfl)) rfl rfl (k':=11) rfl ?_
  | refine a2n 48 (a0a ei_24.h (by first | exact Nat.le_of_ble_eq_true rfl | omega | (dsimp only;omega) | (simp <;> omega)) rfl (by first | exact Nat.le_of_ble_eq_true rfl | omega | (dsimp only;omega) | (simp <;> omega)) (by first | exact Nat.le_of_ble_eq_true rfl | omega | (dsimp only;omega) | (simp <;> omega)) (a0S rfl (by first | exact Nat.le_of_ble_eq_true rfl | omega | (dsimp only;omega) | (simp <;> omega))) (by first | exact Nat.le_of_ble_eq_true rfl | omega | (dsimp only;omega) | (simp <;> omega)) rfl) rfl rfl (a0i rfl (a0P rfl)) rfl rfl (k':=11) rfl ?_
  | refine a2n 48 (a0a ei_24.h (by first | exact Nat.le_of_ble_eq_true rfl | omega | (dsimp only;omega) | (simp <;> omega)) rfl (by first | exact Nat.le_of_ble_eq_true rfl | omega | (dsimp only;omega) | (simp <;> omega)) (by first | exact Nat.le_of_ble_eq_true rfl | omega | (dsimp only;omega) | (simp <;> omega)) (a0O rfl) (by first | exact Nat.le_of_ble_eq_true rfl | omega | (dsimp only;omega) | (simp <;> omega)) rfl) rfl rfl (a0i rfl a0g) rfl rfl (k':=11) rfl ?_
  | refine a2n 48 (a0a ei_24.h (by first | exact Nat.le_of_ble_eq_true rfl | omega | (dsimp only;omega) | (simp <;> omega)) rfl (by first | exact Nat.le_of_ble_eq_true rfl | omega | (dsimp only;omega) | (simp <;> omega)) (by first | exact Nat.le_of_ble_eq_true rfl | omega | (dsimp only;omega) | (simp <;> omega)) (a0z 1 (fun _ _=>default) rfl) (by first | exact Nat.le_of_ble_eq_true rfl | omega | (dsimp only;omega) | (simp <;> omega)) rfl) rfl rfl (a0i rfl a0g) rfl rfl (k':=11) rfl ?_
  refine ru 12 ?_
  refine a0u 56 (a0b (id:=9256) (hs:=[_]) ei_24.h omx rfl omx ⟨rfl,rfl,rfl,rfl,trivial⟩) rfl rfl a0g rfl rfl (c':=c+20) rfl ?_
  first
  | refine a0u 57 (a0a ei_24.h (by first | exact Nat.le_of_ble_eq_true rfl | omega | (dsimp only;omega) | (simp <;> omega)) rfl (by first | exact Nat.le_of_ble_eq_true rfl | omega | (dsimp only;omega) | (simp <;> omega)) (by first | exact Nat.le_of_ble_eq_true rfl | omega | (dsimp only;omega) | (simp <;> omega)) (a0x rfl (by first | exact Nat.le_of_ble_eq_true rfl | omega | (dsimp only;omega) | (simp <;> omega))) (by first | exact Nat.le_of_ble_eq_true rfl | omega | (dsimp only;omega) | (simp <;> omega)) rfl) rfl rfl (a0i rfl (a0P rfl)) rfl rfl (c':=c+21) rfl ?_
  | refine a0u 57 (a0a ei_24.h (by first | exact Nat.le_of_ble_eq_true rfl | omega | (dsimp only;omega) | (simp <;> omega)) rfl (by first | exact Nat.le_of_ble_eq_true rfl | omega | (dsimp only;omega) | (simp <;> omega)) (by first | exact Nat.le_of_ble_eq_true rfl | omega | (dsimp only;omega) | (simp <;> omega)) (a0S rfl (by first | exact Nat.le_of_ble_eq_true rfl | omega | (dsimp only;omega) | (simp <;> omega))) (by first | exact Nat.le_of_ble_eq_true rfl | omega | (dsimp only;omega) | (simp <;> omega)) rfl) rfl rfl (a0i rfl (a0P rfl)) rfl rfl (c':=c+21) rfl ?_
  | refine a0u 57 (a0a ei_24.h (by first | exact Nat.le_of_ble_eq_true rfl | omega | (dsimp only;omega) | (simp <;> omega)) rfl (by first | exact Nat.le_of_ble_eq_true rfl | omega | (dsimp only;omega) | (simp <;> omega)) (by first | exact Nat.le_of_ble_eq_true rfl | omega | (dsimp only;omega) | (simp <;> omega)) (a0O rfl) (by first | exact Nat.le_of_ble_eq_true rfl | omega | (dsimp only;omega) | (simp <;> omega)) rfl) rfl rfl (a0i rfl a0g) rfl rfl (c':=c+21) rfl ?_
  | refine a0u 57 (a0a ei_24.h (by first | exact Nat.le_of_ble_eq_true rfl | omega | (dsimp only;omega) | (simp <;> omega)) rfl (by first | exact Nat.le_of_ble_eq_true rfl | omega | (dsimp only;omega) | (simp <;> omega)) (by first | exact Nat.le_of_ble_eq_true rfl | omega | (dsimp only;omega) | (simp <;> omega)) (a0z 1 (fun _ _=>default) rfl) (by first | exact Nat.le_of_ble_eq_true rfl | omega | (dsimp only;omega) | (simp <;> omega)) rfl) rfl rfl (a0i rfl a0g) rfl rfl (c':=c+21) rfl ?_
  refine ru 6 ?_
  have hsn:=b5m hon (m p.name);refine (a1e 9101 (ndO g1 (.os 9102 (c+5+10) 0 (M0+1)) (.os 9103 (c+20) 0 (M0+1)) p0) rfl (by exact a9m (.refl _) (.refl _) (.refl _) (.refl _) (.refl _))).wp ?_;refine (a1e 9102 (lrO (c+5+10) (M0+1) (onF (on++[m p.name]))) rfl (by exact b2u hsn.1 (by rw [hsn.2,hm];exact .refl _))).wp ?_;refine (a1e 9103 (lrO (c+20) (M0+1) β) rfl (by exact b2u (fun _ _=>rfl) (by rw [hz M0 (Nat.le_refl _) om];exact c0J))).wp ?_
  refine ru 2 ?_
  refine a0u 61 (a0b (id:=9261) (hs:=[_]) ei_49.h omx rfl omx ⟨rfl,rfl,rfl,rfl,trivial⟩) rfl rfl a0g rfl rfl (c':=c+23) rfl ?_
  refine ru 7 ?_
  refine a0u 64 (a0b (id:=9264) (hs:=[_]) ei_49.h omx rfl omx ⟨rfl,rfl,rfl,rfl,trivial⟩) rfl rfl a0g rfl rfl (c':=c+25) rfl ?_
  refine ru 12 ?_
  refine a1q ok hX a3g.one rfl (a0I rfl rfl ty_65.h rqc rfl rfl) [(9261,_),(9264,_)] rfl (a0i rfl (a0i rfl a0g)) ((c+5+10,c+20)) (trivial) (by rfl) (by rfl) ((by rw [hl1];exact .agg 5 _ _ (by exact jn5 (.fz _ _ (.imm _)) (.fz _ _ (.imm _)) (c7H (.head _) rfl om) (c7H (.tail _ (.head _)) rfl om) (.fz _ _ (.imm _))))) ?_
  exact ⟨⟨_,rfl,(by rw [hw1];exact a7S rfl rfl rfl rfl)⟩,⟨⟨_,rfl,(by rw [hw1,hl1,←hpn];exact a1d (fun _ _=>rfl))⟩,⟨⟨_,rfl,(by rw [hw1,hl1];exact a1d (fun _ _=>rfl))⟩,trivial⟩⟩⟩
 refine ru 10 ?_
 refine wdc (fun hr1 hc1=>?_) (fun hr1 hc1=>?_)
 ·skip
  have hkd3:t.kind=3:=(by rw [←hpk];exact hc1);have hwm:=b0k (t:=t) (by rw [hkd3];decide) (by rw [hkd3];decide);have hll:lay m t M0=a5J m t.kidsT M0 ⟨[],[],default⟩:=(by obtain ⟨ts,hts⟩:=b5z hkd3 hok;rw [hts];simp [lay,T.kidsT])
  refine ru 7 ?_
  refine a0l (α:=Nat×Nat×List Bag×(Nat→Bag)×Pc×Nat×Nat) (fun x c=>⟨233,[(0,.v (.pt 9101 g1 0 0)),(1,.v (ptsV e)),(3,.v (mnsV l)),(8,.v (.pt 9208 k0 0 0)),(9,.v (.pt 9209 (k0+1) 0 0)),(10,.v (.pt 9210 (k0+3) 0 0)),(12,.v (intV (x.1:Int)))],[(9101,ndO g1 (.os 9102 x.2.2.2.2.2.1 0 x.2.1) (.os 9103 x.2.2.2.2.2.2 0 x.2.1) p0),(9102,lrO x.2.2.2.2.2.1 x.2.1 (onF x.2.2.1)),(9103,lrO x.2.2.2.2.2.2 x.2.1 x.2.2.2.1),(9208,ndO k0 a1g a1g default),(9209,⟨k0+1,1,5,105,0,fun _=>ptF p⟩),(9210,ndO (k0+3) a1g a1g x.2.2.2.2.1)],c⟩) (fun x=>x.1≤t.kidsT.length∧x.2.1=M0+T.wL (t.kidsT.take x.1)∧x.2.2.1=on++(a5J m (t.kidsT.take x.1) M0 ⟨[],[],default⟩).on∧x.2.2.2.1=links β (a5J m (t.kidsT.take x.1) M0 ⟨[],[],default⟩).lk∧x.2.2.2.2.1=(a5J m (t.kidsT.take x.1) M0 ⟨[],[],default⟩).pc) (fun x=>t.kidsT.length - x.1) ((0,M0,on,β,default,g2,g3)) (by exact ⟨Nat.zero_le _,by simp [T.wL],by simp [a5J],by simp [a5J,links],by simp [a5J]⟩) (a0c rfl (Nat.le_refl _) tsa (hsr rfl (hsr rfl (hsr rfl (a0f.cons rfl (a3i rfl rfl rfl rfl rfl rfl rfl) (hsr rfl (a0f.cons rfl (a3i rfl rfl rfl rfl rfl rfl rfl) a0f.nil))))))) (fun x c hx NhL1 hL1=>?_)
  revert hx hL1;obtain ⟨ii,MM,on1,be1,ou1,y2,y3⟩:=x;intro hx hL1;dsimp only at hx hL1 ⊢
  obtain ⟨hi,hMM,hon1,hbe1,hou1⟩:=hx
  have hA:=b5V hmo t.kidsT ii M0 om
  refine ru 10 ?_
  refine wdc (fun hr2 hc2=>?_) (fun hr2 hc2=>?_)
  ·skip
   have him:ii < t.kidsT.length:=(by have h:=hr2;simp [hkid,hrl] at h;omega);have hka:=a2p hat him;have hkt:=a3x hka;have hks:=(t.kidsT.getD ii default).size_pos;have hroot:=a2T t.kidsT b ii him;have hwt:=a6i t.kidsT ii him;have hwl:=b4g t.kidsT (ii+1);have hxw:MM+(t.kidsT.getD ii default).w≤256:=om;have hlen1:on1.length=MM:=(by rw [hon1,List.length_append,hA.len,hon,hMM]);have hbok:∀ q,(be1 q).ok:=(by rw [hbe1];exact a1h hA.lk hβ);have hbz:∀ q,MM≤q→q < 256→be1 q=Bag.zero:=(by rw [hbe1,hMM];exact a2B hA.lk (fun q hq hq2=>hz q om hq2));have hsn:=a8l m (t.kidsT.take ii) M0 ⟨[],[],default⟩ (t.kidsT.getD ii default);rw [←a4n him] at hsn;have hih:=ih ii him;unfold b7B at hih;rw [←hm] at hih
   refine ru 13 ?_
   refine rvl (intV ((b+T.sizeL (t.kidsT.take ii)+(t.kidsT.getD ii default).size - 1:Nat):Int)) (by exact a1O (i:=ii) om (by rw [hkid,hroot];unfold T.root;omega)) ?_
   refine ru 1 ?_
   refine a0s 85 (xs:=[_,_,_,_]) (pre:=[(9101,_),(9102,_),(9103,_)]) (hih _ g1 y2 y3 MM on1 be1 p0 hlen1 hxw hbok hbz) ⟨rfl,⟨rfl,⟨rfl,⟨rfl,trivial⟩⟩⟩⟩ (a0i rfl (a0i rfl (a0i rfl a0g))) rfl rfl (fun x1 c1 hzz=>?_)
   obtain ⟨z2,z3⟩:=x1
   (try dsimp only)
   refine a0u 13 (a0X (id:=9213) (sz:=5) zc_65.h rfl rfl omx omx) rfl rfl a0g rfl rfl (c':=c1+1) rfl ?_
   refine ru 9 ?_
   refine cll (a3A ou1.first (lay m (t.kidsT.getD ii default) MM).pc.first) ?_
   refine ru 10 ?_
   refine cll (a3A ou1.ends (lay m (t.kidsT.getD ii default) MM).pc.ends) ?_
   refine ru 21 ?_
   exact hL1 ((ii+1,MM+(t.kidsT.getD ii default).w,on1++(lay m (t.kidsT.getD ii default) MM).on,links be1 (lay m (t.kidsT.getD ii default) MM).lk,⟨bun ou1.first (lay m (t.kidsT.getD ii default) MM).pc.first,bun ou1.ends (lay m (t.kidsT.getD ii default) MM).pc.ends,ou1.empty||(lay m (t.kidsT.getD ii default) MM).pc.empty⟩,z2,z3)) _ _ (by (try dsimp only);exact ⟨by omega,by rw [hMM,hwt,Nat.add_assoc],by rw [hsn,←hMM,hon1];simp only [stC,List.append_assoc],by rw [hsn,←hMM,hbe1];simp only [stC];rw [a0M],by rw [hsn,←hMM,hou1];rfl⟩) (by (try dsimp only);omega) (a0c rfl (Nat.le_refl _) tsa (hsr rfl (hsr rfl (hsr rfl (hsr rfl (hsr rfl (a0f.cons rfl (a8f (by exact jn5 rfl rfl rfl rfl rfl)) a0f.nil)))))))
  have hit:ii=t.kidsT.length:=(by have h:=hr2;simp [hkid,hrl] at h;omega);rw [hit,List.take_length] at hA hMM hon1 hbe1 hou1
  refine ru 2 ?_
  refine a0d ?_
  refine ru 10 ?_
  refine fr1 ok hX rw1 ((y2,y3)) (trivial) ((by rw [hll,←hou1];exact c4D (by exact jn5 rfl rfl rfl rfl rfl))) ?_
  exact ⟨⟨_,rfl,(by rw [hwm,←hMM];exact a7S rfl rfl rfl rfl)⟩,⟨⟨_,rfl,(by rw [hwm,←hMM,hll,←hon1];exact a1d (fun _ _=>rfl))⟩,⟨⟨_,rfl,(by rw [hwm,←hMM,hll,←hbe1];exact a1d (fun _ _=>rfl))⟩,trivial⟩⟩⟩
 refine ru 16 ?_
 refine wdc (fun hr3 hc3=>?_) (fun hr3 hc3=>?_)
 ·skip
  have hkd2:t.kind=2:=(by rw [←hpk];exact hc3);have hwm:=b0k (t:=t) (by rw [←hpk];exact hc0) (by rw [hkd2];decide);have hll:lay m t M0=a5I m t.kidsT M0 ⟨[],[],Pc.nil⟩:=(by obtain ⟨k,ts,hts,hk3⟩:=c8a (by rw [←hpk];exact hc0) (by rw [hkd2];decide) (by rw [←hpk];exact hc1) hok;rw [hts];simp [lay,hk3,T.kidsT])
  refine ru 7 ?_
  refine a0l (α:=Nat×Nat×List Bag×(Nat→Bag)×Pc×Nat×Nat) (fun x c=>⟨233,[(0,.v (.pt 9101 g1 0 0)),(1,.v (ptsV e)),(3,.v (mnsV l)),(8,.v (.pt 9208 k0 0 0)),(9,.v (.pt 9209 (k0+1) 0 0)),(10,.v (.pt 9210 (k0+3) 0 0)),(14,.v (intV (x.1:Int)))],[(9101,ndO g1 (.os 9102 x.2.2.2.2.2.1 0 x.2.1) (.os 9103 x.2.2.2.2.2.2 0 x.2.1) p0),(9102,lrO x.2.2.2.2.2.1 x.2.1 (onF x.2.2.1)),(9103,lrO x.2.2.2.2.2.2 x.2.1 x.2.2.2.1),(9208,ndO k0 a1g a1g default),(9209,⟨k0+1,1,5,105,0,fun _=>ptF p⟩),(9210,ndO (k0+3) a1g a1g x.2.2.2.2.1)],c⟩) (fun x=>x.1≤t.kidsT.length∧x.2.1=M0+T.wL (t.kidsT.take x.1)∧x.2.2.1=on++(a5I m (t.kidsT.take x.1) M0 ⟨[],[],Pc.nil⟩).on∧x.2.2.2.1=links β (a5I m (t.kidsT.take x.1) M0 ⟨[],[],Pc.nil⟩).lk∧x.2.2.2.2.1=(a5I m (t.kidsT.take x.1) M0 ⟨[],[],Pc.nil⟩).pc) (fun x=>t.kidsT.length - x.1) ((0,M0,on,β,Pc.nil,g2,g3)) (by exact ⟨Nat.zero_le _,by simp [T.wL],by simp [a5I],by simp [a5I,links],by simp [a5I]⟩) (a0c rfl (Nat.le_refl _) tsa (hsr rfl (hsr rfl (hsr rfl (a0f.cons rfl (a3i rfl rfl rfl rfl rfl rfl rfl) (hsr rfl (a0f.cons rfl (a3i rfl rfl rfl rfl rfl rfl rfl) a0f.nil))))))) (fun x c hx NhL2 hL2=>?_)
  revert hx hL2;obtain ⟨ii,MM,on1,be1,ou1,y2,y3⟩:=x;intro hx hL2;dsimp only at hx hL2 ⊢
  obtain ⟨hi,hMM,hon1,hbe1,hou1⟩:=hx
  have hA:=b5o hmo t.kidsT ii M0 om
  refine ru 10 ?_
  refine wdc (fun hr4 hc4=>?_) (fun hr4 hc4=>?_)
  ·skip
   have him:ii < t.kidsT.length:=(by have h:=hr4;simp [hkid,hrl] at h;omega);have hka:=a2p hat him;have hkt:=a3x hka;have hks:=(t.kidsT.getD ii default).size_pos;have hroot:=a2T t.kidsT b ii him;have hwt:=a6i t.kidsT ii him;have hwl:=b4g t.kidsT (ii+1);have hxw:MM+(t.kidsT.getD ii default).w≤256:=om;have hly:=a3N hmo (t.kidsT.getD ii default) MM hxw;have hlen1:on1.length=MM:=(by rw [hon1,List.length_append,hA.len,hon,hMM]);have hbok:∀ q,(be1 q).ok:=(by rw [hbe1];exact a1h hA.lk hβ);have hbz:∀ q,MM≤q→q < 256→be1 q=Bag.zero:=(by rw [hbe1,hMM];exact a2B hA.lk (fun q hq hq2=>hz q om hq2));have hou2:ou1.ok:=(by rw [hou1];exact hA.pc);have hino:InB M0 (MM+(t.kidsT.getD ii default).w) ou1.ends:=(by rw [hou1,hMM];exact hA.inB.2.mono (Nat.le_refl _) om);have hsn:=a9k m (t.kidsT.take ii) M0 ⟨[],[],Pc.nil⟩ (t.kidsT.getD ii default);rw [←a4n him] at hsn;have hih:=ih ii him;unfold b7B at hih;rw [←hm] at hih
   refine ru 13 ?_
   refine rvl (intV ((b+T.sizeL (t.kidsT.take ii)+(t.kidsT.getD ii default).size - 1:Nat):Int)) (by exact a1O (i:=ii) om (by rw [hkid,hroot];unfold T.root;omega)) ?_
   refine ru 1 ?_
   refine a0s 125 (xs:=[_,_,_,_]) (pre:=[(9101,_),(9102,_),(9103,_)]) (hih _ g1 y2 y3 MM on1 be1 p0 hlen1 hxw hbok hbz) ⟨rfl,⟨rfl,⟨rfl,⟨rfl,trivial⟩⟩⟩⟩ (a0i rfl (a0i rfl (a0i rfl a0g))) rfl rfl (fun x2 c2 hzz=>?_)
   obtain ⟨z2,z3⟩:=x2
   (try dsimp only)
   refine a0u 15 (a0X (id:=9215) (sz:=5) zc_65.h rfl rfl omx omx) rfl rfl a0g rfl rfl (c':=c2+1) rfl ?_
   refine ru 6 ?_
   refine rvl (ndV (lay m (t.kidsT.getD ii default) MM).pc) (rfl) ?_
   refine hm_ 128 (a1R (xs:=[_,_,_]) (pre:=[(9101,_),(9102,_),(9103,_),(9210,_)]) (a8R ou1 (lay m (t.kidsT.getD ii default) MM).pc hou2 hly.pc (MM+(t.kidsT.getD ii default).w) g1 z2 z3 (k0+3) (onF (on1++(lay m (t.kidsT.getD ii default) MM).on)) _ p0 (a5V hino) hxw) ((c8F rfl rfl rfl rfl)) ⟨rfl,⟨rfl,⟨rfl,trivial⟩⟩⟩) rfl rfl (a0i rfl (a0i rfl (a0i rfl (a0i rfl a0g)))) rfl rfl (c':=c2+3) rfl ?_
   refine ru 8 ?_
   exact hL2 ((ii+1,MM+(t.kidsT.getD ii default).w,on1++(lay m (t.kidsT.getD ii default) MM).on,a1W (links be1 (lay m (t.kidsT.getD ii default) MM).lk) (ou1.ends,(lay m (t.kidsT.getD ii default) MM).pc.first),ou1.join (lay m (t.kidsT.getD ii default) MM).pc,z2,z3)) _ _ (by (try dsimp only);exact ⟨by omega,by rw [hMM,hwt,Nat.add_assoc],by rw [hsn,←hMM,hon1];simp only [stR,List.append_assoc],by rw [hsn,←hMM,hbe1,hou1];simp only [stR];rw [a0M,a0M];rfl,by rw [hsn,←hMM,hou1];rfl⟩) (by (try dsimp only);omega) (a0c rfl (Nat.le_refl _) tsa hsa)
  have hit:ii=t.kidsT.length:=(by have h:=hr4;simp [hkid,hrl] at h;omega);rw [hit,List.take_length] at hA hMM hon1 hbe1 hou1
  refine ru 2 ?_
  refine a0d ?_
  refine ru 10 ?_
  refine fr1 ok hX rw1 ((y2,y3)) (trivial) ((by rw [hll,←hou1];exact c4D (by exact jn5 rfl rfl rfl rfl rfl))) ?_
  exact ⟨⟨_,rfl,(by rw [hwm,←hMM];exact a7S rfl rfl rfl rfl)⟩,⟨⟨_,rfl,(by rw [hwm,←hMM,hll,←hon1];exact a1d (fun _ _=>rfl))⟩,⟨⟨_,rfl,(by rw [hwm,←hMM,hll,←hbe1];exact a1d (fun _ _=>rfl))⟩,trivial⟩⟩⟩
 exfalso;exact hk4 (c9q hok (by rw [←hpk];exact hc0) (by rw [←hpk];exact hc1) (by rw [←hpk];exact hc3))
theorem c3u {l:List Pc} {i:Nat} {x:Pc} {f:Nat→HV} (h:l.getD i default=x) (hf:∀ j,f j=c4A l i j):HV.agg 5 f=ndV x:=by
 subst h
 show HV.agg 5 f=HV.agg 5 _
 congr 1;funext j;exact hf j
theorem b7f (l:List Mn) (hB:MnB l) (e:List Pt) (he:e.length≤100000) (b:Nat) (t:T) (hk4:t.kind=4) (hok:t.ok=true) (hat:AtP e b (T.flat b t)) (hkl:t.kidsT.length≤100000)
  (ih:∀ i,i < t.kidsT.length→b7B l e (b+T.sizeL (t.kidsT.take i)) (t.kidsT.getD i default)):b7B l e b t:=by
 intro c g1 g2 g3 M0 on β p0 hon hw hβ hz
 have htop:=a3x hat
 have hps:=t.size_pos
 have hkid:=a6T b t
 have hrl:=a0K t.kidsT b
 generalize htp:t.top b=p at htop hkid
 have hpk:p.kind=4:=by rw [←htp,a6s b t];exact hk4
 obtain ⟨m,hm⟩:∃ m,m=meansV l:=⟨_,rfl⟩
 have hmo:∀ s,(m s).ok:=by rw [hm];exact a3O l
 rw [←hm]
 obtain ⟨lo,hi,u,htu⟩:=b4S hk4 hok
 have hct:=a8z b hk4 hok
 rw [htp] at hct
 have hmi:=a6F p.low p.high hct.2.1
 have hpl:p.low=lo∧p.high=hi:=by rw [←htp,htu];exact ⟨rfl,rfl⟩
 have hk1:t.kidsT=[u]:=by rw [htu];rfl
 have hkl0:p.kids.length=1:=by rw [hkid,hrl,hk1];rfl
 have h0k:0 < t.kidsT.length:=by rw [hk1];exact Nat.zero_lt_one
 have hiu:b7B l e b u:=by have h:=ih 0 h0k;rw [hk1] at h;simpa [T.sizeL] using h
 have hka:=a2p hat h0k
 have hroot:=a2T t.kidsT b 0 h0k
 have hu0:t.kidsT.getD 0 default=u:=by rw [hk1];rfl
 have hs0:T.sizeL (t.kidsT.take 0)=0:=by simp [T.sizeL]
 rw [hu0,hs0,Nat.add_zero] at hroot
 have hus:=u.size_pos
 unfold b7B at hiu
 rw [←hm] at hiu
 have hll:lay m t M0=a6V p.low p.high (fun k=>lay m u (M0+k * u.w)):=by rw [htu,hpl.1,hpl.2];simp [lay]
 have htw:t.w=a0j p.low p.high * u.w:=by rw [hct.1,hk1,Nat.mul_comm];simp [T.wL]
 have hdoc:=b5u hct.2.1 (hi:=p.high) (fun k=>lay m u (M0+k * u.w)) β
 obtain ⟨many,hmany⟩:∃ k,k=a0j p.low p.high:=⟨_,rfl⟩
 obtain ⟨g,hg'⟩:∃ g,g=fun k=>lay m u (M0+k * u.w):=⟨_,rfl⟩
 have hgk:∀ k,lay m u (M0+k * u.w)=g k:=fun k=>by rw [hg']
 rw [←hmany] at hmi htw hdoc
 rw [←hg'] at hll hdoc
 have hm20:many≤20:=by rw [hmany];exact hct.2.2.2.2
 have hg:∀ k,k < many→(g k).Ok (M0+k * u.w) u.w:=fun k hk=>by rw [←hgk];exact a3N hmo u _ (by have:=c8s (w:=u.w) hk;omega)
 rw [htw] at hw ⊢
 rw [hll]
 obtain ⟨R,hR⟩:∃ R,R=a3Y p.low.toNat g many:=⟨_,rfl⟩
 rw [←hR] at hdoc
 have hRl:R.length=many - p.low.toNat:=by rw [hR];exact a4V _ _ _
 have hRo:∀ x∈R,x.ok∧x.inB M0 (M0+many * u.w):=by rw [hR];exact b6b hg many (Nat.le_refl _)
 let k0:=c
 refine a0v Tryz.func48 rfl kr _ _ _ _ rfl 233 rfl rfl (fun X ok hX=>?_)
 refine ru 2 ?_
 refine a0u 8 (a0X (id:=9208) (sz:=5) zc_65.h rfl rfl omx omx) rfl rfl a0g rfl rfl (c':=c+1) rfl ?_
 refine ru 8 ?_
 refine rvl (ptH p) (b8c om htop.1) ?_
 refine a0u 9 (a0X (id:=9209) (sz:=5) zc_105.h rfl rfl omx omx) rfl rfl a0g rfl rfl (c':=c+2) rfl ?_
 refine ru 6 ?_
 refine a0u 10 (a0X (id:=9210) (sz:=5) zc_65.h rfl rfl omx omx) rfl rfl a0g rfl rfl (c':=c+4) rfl ?_
 refine ru 11 ?_
 refine wdc (fun hr0 hc0=>?_) (fun hr0 hc0=>?_)
 ·skip
  exfalso;omega
 refine ru 10 ?_
 refine wdc (fun hr1 hc1=>?_) (fun hr1 hc1=>?_)
 ·skip
  exfalso;omega
 refine ru 16 ?_
 refine wdc (fun hr3 hc3=>?_) (fun hr3 hc3=>?_)
 ·skip
  exfalso;omega
 refine ru 9 ?_
 refine a6L (α:=Nat) (fun x c=>⟨233,[(0,.v (.pt 9101 g1 0 0)),(1,.v (ptsV e)),(3,.v (mnsV l)),(8,.v (.pt 9208 k0 0 0)),(9,.v (.pt 9209 (k0+1) 0 0)),(10,.v (.pt 9210 (k0+3) 0 0)),(16,.v (intV (many:Int)))],[(9101,ndO g1 (.os 9102 g2 0 M0) (.os 9103 g3 0 M0) p0),(9102,lrO g2 M0 (onF on)),(9103,lrO g3 M0 β),(9208,ndO k0 a1g a1g default),(9209,⟨k0+1,1,5,105,0,fun _=>ptF p⟩),(9210,ndO (k0+3) a1g a1g Pc.nil)],c⟩) (fun x=>x≤0) (fun NhJ1 hJ1=>?_) (fun q c hx=>?_)
 ·refine ru 6 ?_
  refine wdc (fun hr5 hc5=>?_) (fun hr5 hc5=>?_)
  ·refine ru 4 ?_
   refine rvl (intV (many:Int)) (by rw [←hmi,if_pos hc5]) ?_
   refine ru 2 ?_
   exact hJ1 (0) _ _ (by (try dsimp only);first | done | exact Nat.le_refl _) (a0c rfl (Nat.le_refl _) tsa (hsr rfl (hsr rfl (hsr rfl (a0f.cons rfl (a3i rfl rfl rfl rfl rfl rfl rfl) (hsr rfl (a0f.cons rfl (a3i rfl rfl rfl rfl rfl rfl rfl) a0f.nil)))))))
  refine ru 1 ?_
  exact hJ1 (0) _ _ (by (try dsimp only);first | done | exact Nat.le_refl _) (a0c rfl (Nat.le_refl _) (tsr rfl (tsr rfl (tsr rfl (tsr rfl (tsr rfl (tsr rfl (a0t.cons rfl (by rw [←hmi,if_neg hc5];exact .refl _) a0t.nil))))))) (hsr rfl (hsr rfl (hsr rfl (a0f.cons rfl (a3i rfl rfl rfl rfl rfl rfl rfl) (hsr rfl (a0f.cons rfl (a3i rfl rfl rfl rfl rfl rfl rfl) a0f.nil)))))))
 ·skip
  (try dsimp only at hx ⊢)
  refine ru 12 ?_
  refine a4O 17 9117 5 65 ((c4A [])) rfl (by decide) rfl (c':=c+1) rfl ?_
  refine a0l (α:=Nat×Nat×List Bag×(Nat→Bag)×Nat×Nat×Nat) (fun x c=>⟨233,[(0,.v (.pt 9101 g1 0 0)),(1,.v (ptsV e)),(3,.v (mnsV l)),(8,.v (.pt 9208 k0 0 0)),(9,.v (.pt 9209 (k0+1) 0 0)),(10,.v (.pt 9210 (k0+3) 0 0)),(16,.v (intV (many:Int))),(17,.v (.os 9117 x.2.2.2.2.2.2 0 (a8L g x.1).length)),(18,.v (intV (x.1:Int)))],[(9101,ndO g1 (.os 9102 x.2.2.2.2.1 0 x.2.1) (.os 9103 x.2.2.2.2.2.1 0 x.2.1) p0),(9102,lrO x.2.2.2.2.1 x.2.1 (onF x.2.2.1)),(9103,lrO x.2.2.2.2.2.1 x.2.1 x.2.2.2.1),(9208,ndO k0 a1g a1g default),(9209,⟨k0+1,1,5,105,0,fun _=>ptF p⟩),(9210,ndO (k0+3) a1g a1g Pc.nil),(9117,⟨x.2.2.2.2.2.2,(a8L g x.1).length,5,65,0,c4A (a8L g x.1)⟩)],c⟩) (fun x=>x.1≤many∧x.2.1=M0+x.1 * u.w∧x.2.2.1=on++onP g x.1∧x.2.2.2.1=links β (lkP p.high g many x.1)) (fun x=>many - x.1) ((0,M0,on,β,g2,g3,c)) (by exact ⟨Nat.zero_le _,by simp,by simp [onP],by simp [lkP,links]⟩) (a0c rfl (Nat.le_refl _) tsa hsa) (fun x c hx NhL2 hL2=>?_)
  revert hx hL2;obtain ⟨kk,MM,on1,be1,y2,y3,gr⟩:=x;intro hx hL2;dsimp only at hx hL2 ⊢
  obtain ⟨hk,hMM,hon1,hbe1⟩:=hx
  have hpl2:=b0D g kk
  refine ru 8 ?_
  refine wdc (fun hr6 hc6=>?_) (fun hr6 hc6=>?_)
  ·skip
   have hkm:kk < many:=om;have hgo:=hg kk hkm;have hkw:=c8s (w:=u.w) hkm;have hMw:MM+u.w≤256:=om;have hL:=c0x (hi:=p.high) hg kk hk;have hlen1:on1.length=MM:=(by rw [hon1,List.length_append,hon,b4i hg kk hk,hMM]);have hbok:∀ q,(be1 q).ok:=(by rw [hbe1];exact a1h hL hβ);have hbz:∀ q,MM≤q→q < 256→be1 q=Bag.zero:=(by rw [hbe1,hMM];exact a2B hL (fun q hq hq2=>hz q om hq2));have hMg:lay m u MM=g kk:=(by rw [hMM];exact hgk kk);have hih:=fun c=>hiu c g1 y2 y3 MM on1 be1 p0 hlen1 hMw hbok hbz;simp only [hMg] at hih;have hine:InB (M0+kk * u.w) (MM+u.w) (g kk).pc.ends:=(by rw [hMM];exact hgo.inB.2);have hle:=a2q (g kk).pc.ends
   refine ru 12 ?_
   refine rvl (intV ((b+u.size - 1:Nat):Int)) (by exact a1O (i:=0) om (by rw [hkid,hroot];unfold T.root;omega)) ?_
   refine ru 1 ?_
   refine a0s 149 (xs:=[_,_,_,_]) (pre:=[(9101,_),(9102,_),(9103,_)]) (hih _) ⟨rfl,⟨rfl,⟨rfl,⟨rfl,trivial⟩⟩⟩⟩ (a0i rfl (a0i rfl (a0i rfl a0g))) rfl rfl (fun x1 c1 hzz=>?_)
   obtain ⟨z2,z3⟩:=x1
   (try dsimp only)
   refine a0u 19 (a0X (id:=9219) (sz:=5) zc_65.h rfl rfl omx omx) rfl rfl a0g rfl rfl (c':=c1+1) rfl ?_
   refine ru 3 ?_
   refine a6L (α:=Nat→Bag) (fun x c=>⟨233,[(0,.v (.pt 9101 g1 0 0)),(1,.v (ptsV e)),(3,.v (mnsV l)),(8,.v (.pt 9208 k0 0 0)),(9,.v (.pt 9209 (k0+1) 0 0)),(10,.v (.pt 9210 (k0+3) 0 0)),(16,.v (intV (many:Int))),(17,.v (.os 9117 gr 0 (a8L g kk).length)),(18,.v (intV (kk:Int))),(19,.v (.pt 9219 c1 0 0))],[(9101,ndO g1 (.os 9102 z2 0 (MM+u.w)) (.os 9103 z3 0 (MM+u.w)) p0),(9102,lrO z2 (MM+u.w) (onF (on1++(g kk).on))),(9103,lrO z3 (MM+u.w) x),(9208,ndO k0 a1g a1g default),(9209,⟨k0+1,1,5,105,0,fun _=>ptF p⟩),(9210,ndO (k0+3) a1g a1g Pc.nil),(9117,⟨gr,(a8L g kk).length,5,65,0,c4A (a8L g kk)⟩),(9219,ndO c1 a1g a1g (g kk).pc)],c⟩) (fun x=>x=links β (lkP p.high g many (kk+1))) (fun NhJ3 hJ3=>?_) (fun be2 c hx=>?_)
   ·refine ru 13 ?_
    refine wdc (fun hr7 hc7=>?_) (fun hr7 hc7=>?_)
    ·refine ru 6 ?_
     refine a0l (α:=Nat) (fun x c=>⟨233,[(0,.v (.pt 9101 g1 0 0)),(1,.v (ptsV e)),(3,.v (mnsV l)),(8,.v (.pt 9208 k0 0 0)),(9,.v (.pt 9209 (k0+1) 0 0)),(10,.v (.pt 9210 (k0+3) 0 0)),(16,.v (intV (many:Int))),(17,.v (.os 9117 gr 0 (a8L g kk).length)),(18,.v (intV (kk:Int))),(19,.v (.pt 9219 c1 0 0)),(20,.v (intV (x:Int)))],[(9101,ndO g1 (.os 9102 z2 0 (MM+u.w)) (.os 9103 z3 0 (MM+u.w)) p0),(9102,lrO z2 (MM+u.w) (onF (on1++(g kk).on))),(9103,lrO z3 (MM+u.w) (a4o (g kk).pc.ends (g kk).pc.first (links be1 (g kk).lk) x)),(9208,ndO k0 a1g a1g default),(9209,⟨k0+1,1,5,105,0,fun _=>ptF p⟩),(9210,ndO (k0+3) a1g a1g Pc.nil),(9117,⟨gr,(a8L g kk).length,5,65,0,c4A (a8L g kk)⟩),(9219,ndO c1 a1g a1g (g kk).pc)],c⟩) (fun x=>x≤(g kk).pc.ends.list.length) (fun x=>(g kk).pc.ends.list.length - x) (0) om (a0c rfl (Nat.le_refl _) tsa (hsr rfl (hsr rfl (a0f.cons rfl (a4Z fun p hp=>by show a0m _=_;rw [a7c]) (hsr rfl (hsr rfl (hsr rfl (hsr rfl (a0f.cons rfl (a8f (by exact jn5 rfl rfl rfl rfl rfl)) a0f.nil))))))))) (fun j c hx NhL4 hL4=>?_)
     (try dsimp only at hx hL4 ⊢)
     obtain hj:=hx
     refine ru 10 ?_
     refine wdc (fun hr8 hc8=>?_) (fun hr8 hc8=>?_)
     ·skip
      have hj':j < (g kk).pc.ends.list.length:=om;obtain ⟨q,hq256,hqA,hq⟩:=a4v (g kk).pc.ends hj';have hqM:=a5V hine q hq256 hqA
      refine ru 13 ?_
      first
      | refine a3a 174 (HOp.val (v':=intV (q:Int)) (a0D ty_3.h rfl (by first | exact Nat.le_of_ble_eq_true rfl | omega | (dsimp only;omega) | (simp <;> omega)) (by first | exact Nat.le_of_ble_eq_true rfl | omega | (dsimp only;omega) | (simp <;> omega)) (fun h=>(by first | rfl | cases h))) (congrArg intV hq)) rfl rfl (a0P rfl) rfl rfl (k':=9) rfl ?_
      | refine a3a 174 (HOp.val (v':=intV (q:Int)) (a0r ty_3.h rfl (by first | exact Nat.le_of_ble_eq_true rfl | omega | (dsimp only;omega) | (simp <;> omega)) (fun h=>(by first | rfl | cases h))) (congrArg intV hq)) rfl rfl a0g rfl rfl (k':=9) rfl ?_
      refine ru 8 ?_
      first
      | refine a3a 183 (HOp.val (v':=intV (q:Int)) (a0D ty_3.h rfl (by first | exact Nat.le_of_ble_eq_true rfl | omega | (dsimp only;omega) | (simp <;> omega)) (by first | exact Nat.le_of_ble_eq_true rfl | omega | (dsimp only;omega) | (simp <;> omega)) (fun h=>(by first | rfl | cases h))) (congrArg intV hq)) rfl rfl (a0P rfl) rfl rfl (k':=18) rfl ?_
      | refine a3a 183 (HOp.val (v':=intV (q:Int)) (a0r ty_3.h rfl (by first | exact Nat.le_of_ble_eq_true rfl | omega | (dsimp only;omega) | (simp <;> omega)) (fun h=>(by first | rfl | cases h))) (congrArg intV hq)) rfl rfl a0g rfl rfl (k':=18) rfl ?_
      refine ru 4 ?_
      refine d0 23 (a0e (xs:=[_,_]) (a3A (a4o (g kk).pc.ends (g kk).pc.first (links be1 (g kk).lk) j q) (g kk).pc.first) ⟨rfl,⟨rfl,trivial⟩⟩ ⟨(Fz.eq (by rw [Nat.zero_add];rfl)),⟨(Fz.eq rfl),trivial⟩⟩) ?_
      refine ru 10 ?_
      exact hL4 (j+1) _ _ (by (try dsimp only);omega) (by (try dsimp only);omega) (a0c rfl (Nat.le_refl _) tsa (hsr rfl (hsr rfl (a0f.cons rfl (a4Z fun p hp=>b1g.trans (by rw [a5C _ _ _ hj' hq,Nat.zero_add];rfl)) hsa))))
     have hje:j=(g kk).pc.ends.list.length:=om
     refine ru 2 ?_
     refine a0d ?_
     refine ru 1 ?_
     exact hJ3 (a1W (links be1 (g kk).lk) ((g kk).pc.ends,(g kk).pc.first)) _ _ (by (try dsimp only);rw [hbe1];simp only [lkP];rw [if_pos om,a0M,a0M];rfl) (a0c rfl (Nat.le_refl _) tsa (hsr rfl (hsr rfl (a0f.cons rfl (a4Z fun p hp=>by show a0m _=_;rw [hje,a1Q _ _ _ om]) hsa))))
    refine ru 1 ?_
    exact hJ3 (links be1 (g kk).lk) _ _ (by (try dsimp only);rw [hbe1];simp only [lkP];rw [if_neg (fun h=>by simp [h.1] at hc7;omega),List.append_nil,a0M]) (a0c rfl (Nat.le_refl _) tsa (hsr rfl (hsr rfl (hsr rfl (hsr rfl (hsr rfl (hsr rfl (hsr rfl (a0f.cons rfl (a8f (by exact jn5 rfl rfl rfl rfl rfl)) a0f.nil)))))))))
   ·skip
    (try dsimp only at hx ⊢)
    refine ru 3 ?_
    refine rvl (ndV (g kk).pc) (rfl) ?_
    refine a0u 192 (a0b (id:=9392) (hs:=[_]) ei_152.h omx rfl omx ⟨rfl,rfl,rfl,rfl,trivial⟩) rfl rfl a0g rfl rfl (c':=c+1) rfl ?_
    first
    | refine a0u 193 (a0a ei_152.h (by first | exact Nat.le_of_ble_eq_true rfl | omega | (dsimp only;omega) | (simp <;> omega)) rfl (by first | exact Nat.le_of_ble_eq_true rfl | omega | (dsimp only;omega) | (simp <;> omega)) (by first | exact Nat.le_of_ble_eq_true rfl | omega | (dsimp only;omega) | (simp <;> omega)) (a0x rfl (by first | exact Nat.le_of_ble_eq_true rfl | omega | (dsimp only;omega) | (simp <;> omega))) (by first | exact Nat.le_of_ble_eq_true rfl | omega | (dsimp only;omega) | (simp <;> omega)) rfl) rfl rfl (a0i rfl (a0P rfl)) rfl rfl (c':=c+2) rfl ?_
    | refine a0u 193 (a0a ei_152.h (by first | exact Nat.le_of_ble_eq_true rfl | omega | (dsimp only;omega) | (simp <;> omega)) rfl (by first | exact Nat.le_of_ble_eq_true rfl | omega | (dsimp only;omega) | (simp <;> omega)) (by first | exact Nat.le_of_ble_eq_true rfl | omega | (dsimp only;omega) | (simp <;> omega)) (a0S rfl (by first | exact Nat.le_of_ble_eq_true rfl | omega | (dsimp only;omega) | (simp <;> omega))) (by first | exact Nat.le_of_ble_eq_true rfl | omega | (dsimp only;omega) | (simp <;> omega)) rfl) rfl rfl (a0i rfl (a0P rfl)) rfl rfl (c':=c+2) rfl ?_
    | refine a0u 193 (a0a ei_152.h (by first | exact Nat.le_of_ble_eq_true rfl | omega | (dsimp only;omega) | (simp <;> omega)) rfl (by first | exact Nat.le_of_ble_eq_true rfl | omega | (dsimp only;omega) | (simp <;> omega)) (by first | exact Nat.le_of_ble_eq_true rfl | omega | (dsimp only;omega) | (simp <;> omega)) (a0O rfl) (by first | exact Nat.le_of_ble_eq_true rfl | omega | (dsimp only;omega) | (simp <;> omega)) rfl) rfl rfl (a0i rfl a0g) rfl rfl (c':=c+2) rfl ?_
    | refine a0u 193 (a0a ei_152.h (by first | exact Nat.le_of_ble_eq_true rfl | omega | (dsimp only;omega) | (simp <;> omega)) rfl (by first | exact Nat.le_of_ble_eq_true rfl | omega | (dsimp only;omega) | (simp <;> omega)) (by first | exact Nat.le_of_ble_eq_true rfl | omega | (dsimp only;omega) | (simp <;> omega)) (a0z 5 (fun _ _=>default) rfl) (by first | exact Nat.le_of_ble_eq_true rfl | omega | (dsimp only;omega) | (simp <;> omega)) rfl) rfl rfl (a0i rfl a0g) rfl rfl (c':=c+2) rfl ?_
    refine ru 9 ?_
    exact hL2 ((kk+1,MM+u.w,on1++(g kk).on,be2,z2,z3,c+1)) _ _ (by (try dsimp only);exact ⟨by omega,by rw [hMM,Nat.succ_mul,Nat.add_assoc],by rw [hon1,List.append_assoc];rfl,hx⟩) (by (try dsimp only);omega) (a0c rfl (Nat.le_refl _) (tsr rfl (tsr rfl (tsr rfl (tsr rfl (tsr rfl (tsr rfl (tsr rfl (a0t.cons rfl (a3k (by simp [a8L])) tsa)))))))) (hsr rfl (hsr rfl (hsr rfl (hsr rfl (hsr rfl (hsr rfl (a0f.cons rfl (by exact a0G (enc:=fun x=>ndF a1g a1g x 0) (d:=default) rfl (fun i j _ _=>.refl _) (fun j hj=>.refl _)) a0f.nil))))))))
  have hkm:kk=many:=om;have hMm:MM=M0+many * u.w:=(by rw [hMM,hkm]);have hM256:MM≤256:=om;have hL:=c0x (hi:=p.high) hg kk hk;have hbok:∀ q,(be1 q).ok:=(by rw [hbe1];exact a1h hL hβ)
  refine ru 2 ?_
  refine a0d ?_
  refine ru 9 ?_
  refine a0l (α:=Nat×(Nat→Bag)) (fun x c=>⟨233,[(0,.v (.pt 9101 g1 0 0)),(8,.v (.pt 9208 k0 0 0)),(9,.v (.pt 9209 (k0+1) 0 0)),(10,.v (.pt 9210 (k0+3) 0 0)),(16,.v (intV (many:Int))),(17,.v (.os 9117 gr 0 (a8L g kk).length)),(21,.v (intV (x.1:Int)))],[(9101,ndO g1 (.os 9102 y2 0 MM) (.os 9103 y3 0 MM) p0),(9102,lrO y2 MM (onF on1)),(9103,lrO y3 MM x.2),(9208,ndO k0 a1g a1g default),(9209,⟨k0+1,1,5,105,0,fun _=>ptF p⟩),(9210,ndO (k0+3) a1g a1g (b2X g x.1)),(9117,⟨gr,(a8L g kk).length,5,65,0,c4A (a8L g kk)⟩)],c⟩) (fun x=>x.1≤many∧x.1≤p.low.toNat∧x.2=links be1 (lkJ g x.1)) (fun x=>many - x.1) ((0,be1)) (by exact ⟨Nat.zero_le _,Nat.zero_le _,by simp [lkJ,links]⟩) (a0c rfl (Nat.le_refl _) tsa hsa) (fun x c hx NhL5 hL5=>?_)
  revert hx hL5;obtain ⟨k2,be3⟩:=x;intro hx hL5;dsimp only at hx hL5 ⊢
  obtain ⟨hk2,hk2l,hbe3⟩:=hx
  have hJ:=c3z hg k2 hk2;have hO:=b4K hg k2 hk2;have hkk2:M0+k2 * u.w≤MM:=(by have:=Nat.mul_le_mul_right u.w hk2;omega);have hb3:∀ q,(be3 q).ok:=(by rw [hbe3];exact a1h hJ hbok);have hino:InB M0 MM (b2X g k2).ends:=hO.2.2.mono (Nat.le_refl _) hkk2
  refine ru 14 ?_
  refine wdc (fun hr9 hc9=>?_) (fun hr9 hc9=>?_)
  ·skip
   have hk2m:k2 < many:=om;have hk2p:k2 < p.low.toNat:=om;have hgo:=hg k2 hk2m
   refine ru 10 ?_
   refine rvl (ndV (g k2).pc) (c3u (l:=a8L g kk) (i:=k2) (by rw [hkm];exact b1t g many k2 hk2m) (fun j=>by simp only [Nat.zero_add];rfl)) ?_
   refine hm_ 210 (a1R (xs:=[_,_,_]) (pre:=[(9101,_),(9102,_),(9103,_),(9210,_)]) (a8R (b2X g k2) (g k2).pc hO.1 hgo.pc MM g1 y2 y3 (k0+3) (onF on1) be3 p0 (a5V hino) hM256) ((c8F rfl rfl rfl rfl)) ⟨rfl,⟨rfl,⟨rfl,trivial⟩⟩⟩) rfl rfl (a0i rfl (a0i rfl (a0i rfl (a0i rfl a0g)))) rfl rfl (c':=c+1) rfl ?_
   refine ru 8 ?_
   exact hL5 ((k2+1,a1W be3 ((b2X g k2).ends,(g k2).pc.first))) _ _ (by (try dsimp only);exact ⟨by omega,by omega,by rw [hbe3];simp only [lkJ];rw [a0M];rfl⟩) (by (try dsimp only);omega) (a0c rfl (Nat.le_refl _) tsa hsa)
  have hke:k2=min many p.low.toNat:=(by have h:=hr9;simp at h;omega);let kt:=c
  refine ru 2 ?_
  refine a0d ?_
  refine ru 5 ?_
  refine a0u 22 (a0X (id:=9222) (sz:=5) zc_65.h rfl rfl omx omx) rfl rfl a0g rfl rfl (c':=c+1) rfl ?_
  refine ru 12 ?_
  refine a0l (α:=Nat×(Nat→Bag)×Pc) (fun x c=>⟨233,[(0,.v (.pt 9101 g1 0 0)),(8,.v (.pt 9208 k0 0 0)),(9,.v (.pt 9209 (k0+1) 0 0)),(10,.v (.pt 9210 (k0+3) 0 0)),(17,.v (.os 9117 gr 0 (a8L g kk).length)),(22,.v (.pt 9222 kt 0 0)),(23,.v (intV ((many:Int) - 1 - (x.1:Int))))],[(9101,ndO g1 (.os 9102 y2 0 MM) (.os 9103 y3 0 MM) p0),(9102,lrO y2 MM (onF on1)),(9103,lrO y3 MM x.2.1),(9208,ndO k0 a1g a1g default),(9209,⟨k0+1,1,5,105,0,fun _=>ptF p⟩),(9210,ndO (k0+3) a1g a1g (b2X g k2)),(9117,⟨gr,(a8L g kk).length,5,65,0,c4A (a8L g kk)⟩),(9222,ndO kt a1g a1g x.2.2)],c⟩) (fun x=>x.1≤R.length∧x.2.1=links be3 (a1X (R.drop (R.length - x.1))).1∧x.2.2=(a1X (R.drop (R.length - x.1))).2) (fun x=>R.length - x.1) ((0,be3,Pc.nil)) (by exact ⟨Nat.zero_le _,by simp [a1X,links],by simp [a1X]⟩) (a0c rfl (Nat.le_refl _) (tsr rfl (tsr rfl (tsr rfl (tsr rfl (tsr rfl (tsr rfl (a0t.cons rfl (a0H om) a0t.nil))))))) (hsr rfl (hsr rfl (hsr rfl (hsr rfl (hsr rfl (hsr rfl (hsr rfl (a0f.cons rfl (a3i rfl rfl rfl rfl rfl rfl rfl) a0f.nil))))))))) (fun x c hx NhL6 hL6=>?_)
  revert hx hL6;obtain ⟨j4,be4,ta4⟩:=x;intro hx hL6;dsimp only at hx hL6 ⊢
  obtain ⟨hj4,hbe4,hta4⟩:=hx
  have htt:=a6v (N:=M0) (M:=M0+many * u.w) (l:=R.drop (R.length - j4)) (fun x hx=>hRo x (List.mem_of_mem_drop hx));have hto:ta4.ok:=(by rw [hta4];exact htt.2.1);have hb4:∀ q,(be4 q).ok:=(by rw [hbe4];exact a1h htt.1 hb3)
  refine ru 9 ?_
  refine wdc (fun hr10 hc10=>?_) (fun hr10 hc10=>?_)
  ·skip
   have hjl:j4 < R.length:=om;have hxm:=hRo _ (b5i (l:=R) (j:=R.length - 1 - j4) om);have hxin:InB M0 MM (R.getD (R.length - 1 - j4) default).ends:=(by rw [hMm];exact hxm.2.2);have hidx:many - 1 - j4 < many:=om;have hRg:(g (many - 1 - j4)).pc=R.getD (R.length - 1 - j4) default:=(by rw [hR,a9b _ _ _ _ (by rw [a4V] ; omega),a4V];congr 2;omega)
   refine ru 8 ?_
   refine rvl (intV ((many - 1 - j4:Nat):Int)) (congrArg intV om) ?_
   refine ru 2 ?_
   refine rvl (ndV (R.getD (R.length - 1 - j4) default)) (c3u (l:=a8L g kk) (i:=many - 1 - j4) (by rw [hkm,b1t g many _ hidx];exact hRg) (fun j=>by simp only [Nat.zero_add];rfl)) ?_
   refine a0u 24 (a0X (id:=9224) (sz:=5) zc_65.h rfl rfl omx omx) rfl rfl a0g rfl rfl (c':=c+1) rfl ?_
   refine ru 7 ?_
   refine rvl (ndV ta4) (rfl) ?_
   refine hm_ 226 (a1R (xs:=[_,_,_]) (pre:=[(9101,_),(9102,_),(9103,_),(9224,_)]) (b9M (R.getD (R.length - 1 - j4) default) ta4 hxm.1 hto MM g1 y2 y3 _ (onF on1) be4 p0 (a5V hxin) hM256) ((c8F rfl rfl rfl rfl)) ⟨rfl,⟨rfl,⟨rfl,trivial⟩⟩⟩) rfl rfl (a0i rfl (a0i rfl (a0i rfl (a0i rfl a0g)))) rfl rfl (c':=c+3) rfl ?_
   refine ru 19 ?_
   exact hL6 ((j4+1,a1W be4 ((R.getD (R.length - 1 - j4) default).ends,ta4.first),{ (R.getD (R.length - 1 - j4) default).join ta4 with empty:=true })) _ _ (by (try dsimp only);exact ⟨by omega,by rw [b0J hjl,hbe4,hta4];simp only [a1X];rw [a0M];rfl,by rw [b0J hjl,hta4];rfl⟩) (by (try dsimp only);omega) (a0c rfl (Nat.le_refl _) (tsr rfl (tsr rfl (tsr rfl (tsr rfl (tsr rfl (tsr rfl (a0t.cons rfl (a0H om) a0t.nil))))))) (hsr rfl (hsr rfl (hsr rfl (hsr rfl (hsr rfl (hsr rfl (hsr rfl (a0f.cons rfl (a8f (by exact jn5 rfl rfl rfl rfl rfl)) a0f.nil)))))))))
  have hje:j4=R.length:=om;have hta:ta4=(a1X R).2:=(by rw [hta4,hje,Nat.sub_self,List.drop_zero]);have hbe:be4=links be3 (a1X R).1:=(by rw [hbe4,hje,Nat.sub_self,List.drop_zero])
  refine ru 2 ?_
  refine a0d ?_
  refine ru 6 ?_
  refine rvl (ndV ta4) (rfl) ?_
  refine hm_ 231 (a1R (xs:=[_,_,_]) (pre:=[(9101,_),(9102,_),(9103,_),(9210,_)]) (a8R (b2X g k2) ta4 hO.1 hto MM g1 y2 y3 (k0+3) (onF on1) be4 p0 (a5V hino) hM256) ((c8F rfl rfl rfl rfl)) ⟨rfl,⟨rfl,⟨rfl,trivial⟩⟩⟩) rfl rfl (a0i rfl (a0i rfl (a0i rfl (a0i rfl a0g)))) rfl rfl (c':=c+1) rfl ?_
  refine ru 9 ?_
  refine fr1 ok hX rw1 ((y2,y3)) (trivial) ((by rw [hdoc.2.2,←hke,←hta];exact c4D (by exact jn5 rfl rfl rfl rfl rfl))) ?_
  exact ⟨⟨_,rfl,(by rw [←hMm];exact a7S rfl rfl rfl rfl)⟩,⟨⟨_,rfl,(by rw [←hMm,hdoc.1,hon1,hkm];exact a1d (fun _ _=>rfl))⟩,⟨⟨_,rfl,(by rw [←hMm,←hdoc.2.1,←hke,←hta];exact a1d (fun q _=>by rw [hbe,hbe3,hbe1,hkm];rfl))⟩,trivial⟩⟩⟩
theorem b6p (k:Int) (out:List Pt) (ks:List Int):∃ y,a9K k out ks y:=by
 unfold a9K
 split
 ·exact ⟨(0,out,ks.getD 0 0),rfl⟩
 ·exact ⟨(0,out++[⟨k,0,0,[],ks⟩],(out.length:Int)),rfl⟩
theorem c3X {l:List Sg} (hk:b7C l) (hne:l≠[]) {p:Nat} (hp:p≤l.length) (out:List Pt) (hc:∀ p',p < p'→p'≤l.length→∀ out,∃ x,a5N l 3 p' out x):∃ x,a5N l 1 p out x:=by
  by_cases h1:kd l p=1
  · by_cases h5:kd l (p+1)=5
    · exact ⟨_,b4Y (g:=0) h1 h5⟩
    · exact ⟨_,b8H (g:=0) h1 h5⟩
  · by_cases h2:kd l p=2
    · have hlt:=a2m (l:=l) (i:=p) (by rw [h2];decide)
      obtain ⟨⟨t,q,g,o,r⟩,hx⟩:=hc (p+1) (by omega) (by omega) out
      cases t with
      | none=>exact ⟨_,b9h hk hx h2 (.inl rfl)⟩
      | some t =>
        by_cases h3:kd l q=3
        · by_cases h5:kd l (q+1)=5
          · exact ⟨_,b2g (g':=0) hx h2 h3 h5⟩
          · exact ⟨_,b6k hx h2 h3 h5⟩
        · exact ⟨_,b9h hk hx h2 (.inr h3)⟩
    · exact ⟨⟨none,p,0,out,-1⟩,b2C hne hp h1 h2,by simp⟩
theorem c0j {l:List Sg} {p:Nat} {out:List Pt} (hi:∀ p',p≤p'→p'≤l.length→∀ out,∃ x,a5N l 1 p' out x):∀ (n:Nat) (bad:Bool) (q:Nat) (o:List Pt) (ks:List Int),2 * (l.length - q)+(if bad then 0 else 1) < n→c3L l p out bad q o ks→∃ x,a5N l 2 p out x
  | 0,_,_,_,_,h,_=>absurd h (Nat.not_lt_zero _)
  | n + 1, bad, q, o, ks, h, hI => by
    by_cases hk:bad=true∨(kd l q≠1∧kd l q≠2)
    · obtain ⟨tt,_,hd⟩:=b5A hI hk
      obtain ⟨y,hy⟩:=b6p 2 o ks
      exact ⟨_,hd y hy⟩
    · have hb:bad=false:=by cases bad with | true=>exact absurd (.inl rfl) hk | false=>rfl
      subst hb
      have hkq:kd l q=1∨kd l q=2:=by
        by_cases h1:kd l q=1
        · exact .inl h1
        · by_cases h2:kd l q=2
          · exact .inr h2
          · exact absurd (.inr ⟨h1,h2⟩) hk
      obtain ⟨⟨t,q',g,o',r⟩,hx⟩:=hi q hI.2.1 hI.2.2.1 o
      have:=b9p hx
      exact c0j hi n t.isNone q' o' (ks++[r]) (by omega) (b5I hI hkq hx)
theorem c7q {l:List Sg} {p:Nat} (hp:p≤l.length) (out:List Pt) (hi:∀ p',p≤p'→p'≤l.length→∀ out,∃ x,a5N l 1 p' out x):∃ x,a5N l 2 p out x:=by
 obtain ⟨⟨t,q,g,o,r⟩,hx⟩:=hi p (Nat.le_refl _) hp out
 exact c0j hi _ _ _ _ _ (Nat.lt_succ_self _) (b3j hx)
theorem c3B {l:List Sg} {p:Nat} {out:List Pt} (hi:∀ p',p≤p'→p'≤l.length→∀ out,∃ x,a5N l 2 p' out x):∀ (n:Nat) (bad:Bool) (q:Nat) (o:List Pt) (ks:List Int),2 * (l.length - q)+(if bad then 0 else 1) < n→ChI l p out bad q o ks→∃ x,a5N l 3 p out x
  | 0,_,_,_,_,h,_=>absurd h (Nat.not_lt_zero _)
  | n + 1, bad, q, o, ks, h, hI => by
    by_cases hk:bad=true∨kd l q≠4
    · obtain ⟨tt,_,hd⟩:=b8b hI hk
      obtain ⟨y,hy⟩:=b6p 3 o ks
      exact ⟨_,hd y hy⟩
    · have hb:bad=false:=by cases bad with | true=>exact absurd (.inl rfl) hk | false=>rfl
      subst hb
      have hkq:kd l q=4:=Classical.byContradiction fun h'=>hk (.inr h')
      have hlt:=a2m (l:=l) (i:=q) (by rw [hkq];decide)
      have hpq:=hI.2.1
      obtain ⟨⟨t,q',g,o',r⟩,hx⟩:=hi (q+1) (by omega) (by omega) o
      have:=c0k hlt hx
      exact c3B hi n t.isNone q' o' (ks++[r]) (by omega) (c0e hI hkq hx)
theorem b7Q {l:List Sg} {p:Nat} (hp:p≤l.length) (out:List Pt) (hi:∀ p',p≤p'→p'≤l.length→∀ out,∃ x,a5N l 2 p' out x):∃ x,a5N l 3 p out x:=by
 obtain ⟨⟨t,q,g,o,r⟩,hx⟩:=hi p (Nat.le_refl _) hp out
 exact c3B hi _ _ _ _ _ (Nat.lt_succ_self _) (b6n hx)
theorem c0K {l:List Sg} (hk:b7C l) (hne:l≠[]):∀ n p,l.length - p < n→p≤l.length→∀ out,∃ x,a5N l 3 p out x
 | 0,p,h,_,_=>absurd h (Nat.not_lt_zero _)
 | n+1,p,h,hp,out=>b7Q hp out fun p1 h1 hp1 out1=>c7q hp1 out1 fun p2 h2 hp2 out2=>c3X hk hne hp2 out2 fun p3 h3 hp3 out3=>c0K hk hne n p3 (by omega) hp3 out3
theorem c1Y (s:List UInt8):∃ r,ParseIs s r:=by
  cases hv:lexV s with
  | error e=>exact ⟨_,.err e hv⟩
  | ok l =>
    by_cases hne:l=[]
    · subst hne;exact ⟨_,.none hv⟩
    · have hk:=c3d (b3i hv)
      obtain ⟨x,hx⟩:=c0K hk hne _ 0 (Nat.lt_succ_self _) (Nat.zero_le _) []
      by_cases hq:x.q < l.length
      · exact ⟨_,b3f hv hk hne hx hq⟩
      · cases hb : x.t.isNone with
        | true=>exact ⟨_,b2x hv hne hx (by omega) hb⟩
        | false=>exact ⟨_,b6q hv hx (by omega) hb⟩
theorem b1p (l:List Mn) (hB:MnB l) (e:List Pt) (he:e.length≤100000) (b:Nat) (t:T) (hok:t.ok=true) (hat:AtP e b (T.flat b t)) (hkl:t.kidsT.length≤100000)
  (ih:∀ i,i < t.kidsT.length→b7B l e (b+T.sizeL (t.kidsT.take i)) (t.kidsT.getD i default)):b7B l e b t:=by
 by_cases h:t.kind=4
 ·exact b7f l hB e he b t h hok hat hkl ih
 ·exact c2m l hB e he b t h hok hat hkl ih
mutual
theorem b3M (l:List Mn) (hB:MnB l) (e:List Pt) (he:e.length≤100000):∀ (t:T) (b:Nat),t.ok=true→AtP e b (T.flat b t)→b7B l e b t
  | .name s,b,hok,hat=>b1p l hB e he b (.name s) hok hat (Nat.zero_le _) (fun i hi=>absurd hi (Nat.not_lt_zero _))
  | .times lo hi t, b, hok, hat => by
    have hok':t.ok=true:=by simp only [T.ok,Bool.and_eq_true] at hok;exact hok.2
    refine b1p l hB e he b (.times lo hi t) hok hat (by simp [T.kidsT]) (fun i hi=>?_)
    obtain rfl:i=0:=by simpa [T.kidsT] using hi
    have:=b3M l hB e he t b hok' (by simp only [T.flat] at hat;exact a4J hat)
    simpa [T.kidsT,T.sizeL] using this
  | .many k ts, b, hok, hat => by
    have hok':T.okL ts=true:=by simp only [T.ok,Bool.and_eq_true] at hok;exact hok.2
    have hkl:(T.many k ts).kidsT.length≤100000:=by
      have:=a6I (t:=.many k ts);have:=(a3x hat).2;omega
    exact b1p l hB e he b (.many k ts) hok hat hkl (fun i hi=>b8w l hB e he ts hok' i hi _ (a2p hat hi))
theorem b8w (l:List Mn) (hB:MnB l) (e:List Pt) (he:e.length≤100000):∀ ts:List T,T.okL ts=true→∀ i,i < ts.length→∀ b,AtP e b (T.flat b (ts.getD i default))→b7B l e b (ts.getD i default)
  | [],_,i,hi=>absurd hi (Nat.not_lt_zero _)
  | t :: ts, hok, i, hi => fun b hat => by
    simp only [T.okL,Bool.and_eq_true] at hok
    cases i with
    | zero=>exact b3M l hB e he t b hok.1 hat
    | succ i=>exact b8w l hB e he ts hok.2 i (by simpa using hi) b (by simpa using hat)
end
@[reducible] def ndR (M:Nat) (on:List Bag) (β:Nat→Bag) (p:Pc):HV:=.agg 5 (ndF (.sl 1 M (lrF (onF on))) (.sl 1 M (lrF β)) p 0)
instance frz_ndR (M:Nat) (on:List Bag) (β:Nat→Bag) (p:Pc):Frz (ndR M on β p):=⟨.agg _ _ _ (by exact jn5 (.sl _ _ _ _ fun _ _ _ _=>Frz.fz) (.sl _ _ _ _ fun _ _ _ _=>Frz.fz) (show Fz _ (a0m p.first.list) (a0m p.first.list) from Frz.fz) (show Fz _ (a0m p.ends.list) (a0m p.ends.list) from Frz.fz) (.imm _))⟩
theorem c2P {sh:List (Nat×HObj)} {M:Nat} {on:List Bag} {β:Nat→Bag} {p:Pc} {f:Nat→HV} (h0:Fz sh (f 0) (.sl 1 M (lrF (onF on)))) (h1:Fz sh (f 1) (.sl 1 M (lrF β))) (h2:Fz sh (f 2) (a0m p.first.list)) (h3:Fz sh (f 3) (a0m p.ends.list)) (h4:f 4=boolV p.empty):Fz sh (.agg 5 f) (ndR M on β p) :=
 .agg _ _ _ (by exact jn5 h0 h1 h2 h3 (by rw [h4];exact .imm _))
theorem c8b {sh:List (Nat×HObj)}:Fz sh a1g (a0m Bag.zero.list):=by rw [a8p];exact .nil 0 1 _ (by decide) none
theorem b9q {sh:List (Nat×HObj)} {id g n n':Nat} {γ γ':Nat→Bag} (ho:(id,lrO g n γ)∈sh) (hn:n'=n) (h:∀ i,i < n→γ i=γ' i):Fz sh (.os id g 0 n') (.sl 1 n' (lrF γ')):=by
 subst hn
 refine Fz.os id g 0 n' (lrO g n' γ) _ ho rfl (by show 0+n'≤n';omega) (fun i j hi hj=>?_)
 show Fz sh (a0m (γ (0+i)).list) (a0m (γ' i).list)
 rw [Nat.zero_add,h i hi];exact Frz.fz
def nd2 (a b:HV):Nat→Nat→HV:=fun _ j=>match j with | 0=>a | 1=>b | 2=>a1g | 3=>a1g | _=>boolV true
theorem c1P (l:List Mn):HPure Tryz.prog 23 [ptsV [],mnsV l] (ndR 0 [] (fun _=>Bag.zero) Pc.nil):=by
 refine a0k Tryz.func23 rfl kr _ _ _ rfl 28 rfl rfl (fun w F=>?_)
 refine ru 20 ?_
 refine wdc (fun hr0 hc0=>?_) (fun hr0 hc0=>?_)
 ·refine ru 8 ?_
  refine rt1 ?_
  exact c2P (.nil 0 1 _ (by decide) none) (.nil 0 1 _ (by decide) none) c8b c8b rfl
 exfalso;exact absurd hc0 (by simp)
theorem c2x (l:List Mn) (hB:MnB l) (t:T) (hok:t.ok=true) (he:(T.flat 0 t).length≤100000) (hw:t.w≤256):HPure Tryz.prog 23 [ptsV (T.flat 0 t),mnsV l] (ndR (0+t.w) (lay (meansV l) t 0).on (links (fun _=>Bag.zero) (lay (meansV l) t 0).lk) (lay (meansV l) t 0).pc):=by
 have hat:AtP (T.flat 0 t) 0 (T.flat 0 t):=⟨[],[],by simp,rfl⟩
 have hsz:(T.flat 0 t).length=t.size:=T.flat_len 0 t
 have hps:=t.size_pos
 obtain ⟨e,hee⟩:∃ e,e=T.flat 0 t:=⟨_,rfl⟩
 have hP:=b3M l hB e (by rw [hee];exact he) t 0 hok (by rw [hee];exact hat)
 rw [←hee] at he hsz ⊢
 refine a0k Tryz.func23 rfl kr _ _ _ rfl 28 rfl rfl (fun w F=>?_)
 refine ru 8 ?_
 refine a0u 5 (a0X (id:=9101) (sz:=5) zc_65.h rfl rfl (by decide) (by decide)) rfl rfl a0g rfl rfl (c':=2) rfl ?_
 refine ru 11 ?_
 refine wdc (fun hr0 hc0=>?_) (fun hr0 hc0=>?_)
 ·skip
  exfalso;omega
 refine ru 3 ?_
 refine (a1x 9101 0 9102 1 49 (lrF (onF [])) (nd2 (.os 9102 3 0 0) a1g) rfl rfl (by exact jn5 (.inl ⟨rfl,rfl⟩) (.inr rfl) (.inr rfl) (.inr rfl) (.inr rfl)) (by decide) (by decide) (c':=4) rfl).wp ?_;refine (a1x 9101 1 9103 1 49 (lrF (fun _=>Bag.zero)) (nd2 (.os 9102 3 0 0) (.os 9103 4 0 0)) rfl rfl (by exact jn5 (.inr rfl) (.inl ⟨rfl,rfl⟩) (.inr rfl) (.inr rfl) (.inr rfl)) (by decide) (by decide) (c':=5) rfl).wp ?_;refine (a1e 9101 (ndO 1 (.os 9102 3 0 0) (.os 9103 4 0 0) Pc.nil) rfl (by exact a9m (.refl _) (.refl _) c0J c0J (.refl _))).wp ?_
 refine ru 5 ?_
 refine rvl (intV ((0+t.size - 1:Nat):Int)) (congrArg intV om) ?_
 refine ru 1 ?_
 refine a0s 17 (xs:=[_,_,_,_]) (pre:=[(9101,_),(9102,_),(9103,_)]) (hP _ 1 3 4 0 [] (fun _=>Bag.zero) Pc.nil rfl om (fun _=>Bag.zero_ok) (fun _ _ _=>rfl)) ⟨rfl,⟨rfl,⟨rfl,⟨rfl,trivial⟩⟩⟩⟩ (a0i rfl (a0i rfl (a0i rfl a0g))) rfl rfl (fun x1 c1 hyy=>?_)
 obtain ⟨y2,y3⟩:=x1
 (try dsimp only)
 refine ru 35 ?_
 refine a5f rfl (a0I rfl rfl ty_65.h rqc rfl rfl) [(9102,_),(9103,_)] rfl (a0i rfl (a0i rfl a0g)) ?_
 exact c2P (b9q (.head _) rfl (fun _ _=>rfl)) (b9q (.tail _ (.head _)) rfl (fun _ _=>rfl)) (show Fz _ (a0m (lay (meansV l) t 0).pc.first.list) (a0m (lay (meansV l) t 0).pc.first.list) from Frz.fz) (show Fz _ (a0m (lay (meansV l) t 0).pc.ends.list) (a0m (lay (meansV l) t 0).pc.ends.list) from Frz.fz) rfl
@[reducible] def t4 (a b c d:HV):HV:=.tup 4 (fun i=>match i with | 0=>a | 1=>b | 2=>c | _=>d)
theorem a3Z {P:Program} {w:World} {F:Addr→Prop} {fn:Func} {rv1 rv2 rv3 rv4:ResultVar} {s:HSt} {x1 x2 x3 x4 y:HV} (hres:fn.results=#[rv1,rv2,rv3,rv4]) (hrv1:a6k P s rv1 x1) (hrv2:a6k P s rv2 x2) (hrv3:a6k P s rv3 x3) (hrv4:a6k P s rv4 x4) (sh:List (Nat×HObj)) (hd:a1n (sh.map (·.1))=true) (hsh:∀ p∈sh,hget s.hp p.1=some p.2)
  (hz:Fz sh (t4 x1 x2 x3 x4) y):HQ (Ctx.top w F) (bodyPost P fn (a0Z w F y)) .ret s:=by
 intro a w' ⟨E,e0,r,hG,hsz,hdf,ht⟩
 obtain ⟨v1,h1,g1⟩:=hrv1 (Ctx.top w F) a w' E r ht
 obtain ⟨v2,h2,g2⟩:=hrv2 (Ctx.top w F) a w' E r ht
 obtain ⟨v3,h3,g3⟩:=hrv3 (Ctx.top w F) a w' E r ht
 obtain ⟨v4,h4,g4⟩:=hrv4 (Ctx.top w F) a w' E r ht
 have hrep:Rep w' E (.tuple #[v1,v2,v3,v4]) (.tup 4 (fun i=>match i with | 0=>x1 | 1=>x2 | 2=>x3 | _=>x4)) :=
  .tup _ 4 _ (fun i=>match i with | 0=>v1 | 1=>v2 | 2=>v3 | _=>v4) rfl (fun i hi=>by match i,hi with | 0,_=>rfl | 1,_=>rfl | 2,_=>rfl | 3,_=>rfl) (fun i hi=>by match i,hi with | 0,_=>exact g1 | 1,_=>exact g2 | 2,_=>exact g3 | 3,_=>exact g4)
 refine ⟨hdf,_,?_,a0Z.of e0 r sh hd hsh hz hrep⟩
 have:(results fn a.tmps).run P w'=.ok (.tuple #[v1,v2,v3,v4]) w':=by
  unfold results
  rw [hres]
  cases rv1 <;> cases rv2 <;> cases rv3 <;> cases rv4 <;> (simp [Sem.run_bind] at h1 h2 h3 h4 ⊢)
  all_goals first | done | (try (first | rw [a0N h1] | skip);try (first | rw [a0N h2] | skip);try (first | rw [a0N h3] | skip);try (first | rw [a0N h4] | skip);try simp [h1,h2,h3,h4])
 exact this
theorem a9x {sh:List (Nat×HObj)} {x1 x2 x3 x4 y1 y2 y3 y4:HV} (h1:Fz sh x1 y1) (h2:Fz sh x2 y2) (h3:Fz sh x3 y3) (h4:Fz sh x4 y4):Fz sh (t4 x1 x2 x3 x4) (t4 y1 y2 y3 y4):=.tup _ _ _ fun i hi=>by
 match i,hi with
 | 0,_=>exact h1 | 1,_=>exact h2 | 2,_=>exact h3 | 3,_=>exact h4
@[reducible] def a9s:HV:=.imm (.pointer none)
theorem c1Q (wd:Nat) (on:List Bag) (β:Nat→Bag) (p:Pc):HPure Tryz.prog 30 [netP wd on β p] (boolV p.empty):=by
 refine a0k Tryz.func30 rfl kr _ _ _ rfl 11 rfl rfl (fun w F=>?_)
 refine ru 19 ?_
 refine rt1 ?_
 exact Frz.fz
theorem b2f:∀ (l:List Pt) (o:List (List UInt8)) (s:List UInt8),(s∈o∨∃ x∈l,x.kind=1∧x.name=s)→s∈l.foldl b7d o
  | [],o,s,h=>by rcases h with h | ⟨x,hx,_⟩;exact h;cases hx
  | y :: l, o, s, h => by
    refine b2f l (b7d o y) s ?_
    have hsub:s∈o→s∈b7d o y:=fun h=>by unfold b7d;split;exact List.mem_append_left _ h;exact h
    rcases h with h | ⟨x,hx,hk,hn⟩
    · exact .inl (hsub h)
    · rcases List.mem_cons.1 hx with rfl | hx
      · left
        by_cases hm:x.name∈o
        · exact hsub (hn▸hm)
        · unfold b7d;rw [if_pos ⟨hk,hm⟩,←hn];exact List.mem_append_right _ (List.mem_singleton_self _)
      · exact .inr ⟨x,hx,hk,hn⟩
theorem c0t (l:List Mn) (e:List Pt):noneV (meansV l) e=noneE l e:=by
 rw [Bool.eq_iff_iff]
 unfold noneV noneE
 rw [List.any_eq_true,List.any_eq_true]
 constructor
 ·rintro ⟨s,hs,h⟩
  rcases a7r e [] s hs with h' | ⟨x,hx,hk,hn⟩
  ·cases h'
  ·exact ⟨x,hx,by rw [hn,decide_eq_true hk];simpa using h⟩
 ·rintro ⟨x,hx,h⟩
  rw [Bool.and_eq_true,decide_eq_true_eq,decide_eq_true_eq] at h
  exact ⟨x.name,b2f e [] _ (.inr ⟨x,hx,h.1,rfl⟩),by simpa using h.2⟩
theorem b6H {s:List UInt8} (hv:lexV s=.ok []) {r:List Pt×Int×Int} (h:ParseIs s r):r=([],0,0):=by
 have hC:chk ([]:List Sg) 0 0 true true=(-1,false):=by rw [a7x (l:=[]) (i:=0) (Nat.le_refl _)];rfl
 cases h with
 | err e hv'=>rw [hv] at hv';cases hv'
 | none=>rfl
 | odd l q hv' hne=>rw [hv] at hv';injection hv' with hv';exact absurd hv'.symm hne
 | end_ l hv' hne=>rw [hv] at hv';injection hv' with hv';exact absurd hv'.symm hne
 | ok l t hv' hs=>rw [hv] at hv';injection hv' with hv';subst hv';have:=a0W hs;simp at this
@[reducible] def NetP (s:List UInt8) (l:List Mn) (y:HV):Prop:=HPure Tryz.prog 19 [strV s,mnsV l] y
structure NetOk (s:List UInt8) (l:List Mn) (w:Nat) (on:List Bag) (β:Nat→Bag) (p:Pc) (e:List Pt):Prop where
 net:NetP s l (t4 (netP w on β p) (ptsV e) (intV 0) (boolV true))
 doc:HPure Tryz.prog 23 [ptsV e,mnsV l] (ndR w on β p)
 none:noneE l e=false
 w60:w≤60
 len:on.length=w
 onk:∀ i,(onF on i).ok
 bek:∀ i,(β i).ok
 pck:p.ok
 eln:e.length≤100000
 mnb:MnB l
 ptb:PtB e
 is:(e=[]∧w=0∧on=[]∧(∀ i,β i=Bag.zero)∧p=Pc.nil)∨∃ t:T,t.ok=true∧e=T.flat 0 t∧w=0+t.w∧on=(lay (meansV l) t 0).on∧β=links (fun _=>Bag.zero) (lay (meansV l) t 0).lk∧p=(lay (meansV l) t 0).pc
theorem b3Z (s:List UInt8) (l:List Mn) (hs:s.length≤9223372036854775807) (a b:Int) (hp:ParseIs s ([],a,b)) (hb:b≠0):NetP s l (t4 a9s a1g (intV b) (boolV false)):=by
 refine a0k Tryz.func19 rfl kr _ _ _ rfl 63 rfl rfl (fun w F=>?_)
 refine ru 12 ?_
 refine a0s 18 (xs:=[_]) (pre:=[]) (a4j s ([],a,b) hs hp _) ⟨rfl,trivial⟩ a0g rfl rfl (fun u c1 hu=>?_)
 (try dsimp only)
 refine ru 21 ?_
 first
 | refine stg 29 (fun hb=>a0e (xs:=[_]) (a5L l) ⟨rfl,trivial⟩ ⟨(Fz.eq rfl),trivial⟩) rfl rfl rfl rfl rfl ?_
 | refine sth 29 (fun hb=>a0e (xs:=[_]) (a5L l) ⟨rfl,trivial⟩ ⟨(Fz.eq rfl),trivial⟩) rfl rfl rfl rfl rfl ?_
 refine ru 11 ?_
 refine sth (v:=intV 0) 38 (fun hb=>by simp at hb) rfl rfl rfl rfl rfl ?_
 refine ru 5 ?_
 refine wdc (fun hr0 hc0=>?_) (fun hr0 hc0=>?_)
 ·refine ru 11 ?_
  refine a3Z rfl (a0h rfl) (a0h rfl) (a0h rfl) (a0h rfl) [] rfl a0g ?_
  exact a9x (.imm _) (.imm _) (.imm _) (.imm _)
 exfalso;simp [hb] at hr0
theorem c1O (s:List UInt8) (l:List Mn) (hs:s.length≤9223372036854775807) (hp:ParseIs s ([],0,0)) (hf:¬ (s.length≤500∧b7n l=true)):NetP s l (t4 a9s a1g (intV 0) (boolV false)):=by
 refine a0k Tryz.func19 rfl kr _ _ _ rfl 63 rfl rfl (fun w F=>?_)
 refine ru 12 ?_
 refine a0s 18 (xs:=[_]) (pre:=[]) (a4j s ([],0,0) hs hp _) ⟨rfl,trivial⟩ a0g rfl rfl (fun u c1 hu=>?_)
 (try dsimp only)
 refine ru 21 ?_
 first
 | refine stg 29 (fun hb=>a0e (xs:=[_]) (a5L l) ⟨rfl,trivial⟩ ⟨(Fz.eq rfl),trivial⟩) rfl rfl rfl rfl rfl ?_
 | refine sth 29 (fun hb=>a0e (xs:=[_]) (a5L l) ⟨rfl,trivial⟩ ⟨(Fz.eq rfl),trivial⟩) rfl rfl rfl rfl rfl ?_
 refine ru 11 ?_
 refine sth (v:=intV 0) 38 (fun hb=>by simp at hb) rfl rfl rfl rfl rfl ?_
 refine ru 5 ?_
 refine wdc (fun hr0 hc0=>?_) (fun hr0 hc0=>?_)
 ·refine ru 11 ?_
  refine a3Z rfl (a0h rfl) (a0h rfl) (a0h rfl) (a0h rfl) [] rfl a0g ?_
  exact a9x (.imm _) (.imm _) (.imm _) (.imm _)
 exfalso;have h:=hr0;simp at h;exact hf ⟨by omega,by simpa using h.2⟩
theorem c4r (s:List UInt8) (l:List Mn) (hs:s.length≤9223372036854775807) (t:T) (hok:t.ok=true) (hB:PtB (T.flat 0 t)) (hp:ParseIs s (T.flat 0 t,0,0)) (hf:¬ (s.length≤500∧b7n l=true∧t.w≤60)):NetP s l (t4 a9s a1g (intV 0) (boolV false)):=by
 have hel:=hB.1
 have hat:AtP (T.flat 0 t) 0 (T.flat 0 t):=⟨[],[],by simp,rfl⟩
 have hsz:(T.flat 0 t).length=t.size:=T.flat_len 0 t
 have hps:=t.size_pos
 have hwm:a3J t.w≤60↔t.w≤60:=by unfold a3J;split <;> omega
 have hmn:=a9j (T.flat 0 t) hel t 0 hok hat
 generalize T.flat 0 t=e at hel hat hsz hmn hp hB
 have hel0:0 < e.length:=by omega
 refine a0k Tryz.func19 rfl kr _ _ _ rfl 63 rfl rfl (fun w F=>?_)
 refine ru 12 ?_
 refine a0s 18 (xs:=[_]) (pre:=[]) (a4j s (e,0,0) hs hp _) ⟨rfl,trivial⟩ a0g rfl rfl (fun u c1 hu=>?_)
 (try dsimp only)
 refine ru 21 ?_
 first
 | refine stg 29 (fun hb=>a0e (xs:=[_]) (a5L l) ⟨rfl,trivial⟩ ⟨(Fz.eq rfl),trivial⟩) rfl rfl rfl rfl rfl ?_
 | refine sth 29 (fun hb=>a0e (xs:=[_]) (a5L l) ⟨rfl,trivial⟩ ⟨(Fz.eq rfl),trivial⟩) rfl rfl rfl rfl rfl ?_
 refine ru 11 ?_
 refine ry3 (intV ((0+t.size - 1:Nat):Int)) rfl rfl (fun hb hb2=>congrArg intV (by dsimp only;omega)) ?_
 first
 | refine stg 38 (fun hb=>a0e (xs:=[_,_]) (hmn) ⟨rfl,⟨rfl,trivial⟩⟩ ⟨(Fz.eq rfl),⟨(Fz.eq rfl),trivial⟩⟩) rfl rfl rfl rfl rfl ?_
 | refine a4R 43 16 38 34 false true _ _ (fun hb hb2=>a0e (xs:=[_,_]) (hmn) ⟨rfl,⟨rfl,trivial⟩⟩ ⟨(Fz.eq rfl),⟨(Fz.eq rfl),trivial⟩⟩) rfl rfl rfl rfl rfl a0g rfl rfl rfl ?_
 | refine sth 38 (fun hb=>a0e (xs:=[_,_]) (hmn) ⟨rfl,⟨rfl,trivial⟩⟩ ⟨(Fz.eq rfl),⟨(Fz.eq rfl),trivial⟩⟩) rfl rfl rfl rfl rfl ?_
 refine ru 5 ?_
 refine wdc (fun hr0 hc0=>?_) (fun hr0 hc0=>?_)
 ·refine ru 11 ?_
  refine a3Z rfl (a0h rfl) (a0h rfl) (a0h rfl) (a0h rfl) [] rfl a0g ?_
  exact a9x (.imm _) (.imm _) (.imm _) (.imm _)
 exfalso;have h:=hc0;have h60:=h.2;rw [decide_eq_true (by omega:(0:Int) < (e.length:Int)),Bool.true_and,decide_eq_false_iff_not] at h60;exact hf ⟨by omega,h.1.2,hwm.1 om⟩
theorem c2Y {sh:List (Nat×HObj)} {g ty fl:Nat} {l:List Mn} {f:Nat→Nat→HV} (ho:(3,(⟨g,1,1,ty,fl,f⟩:HObj))∈sh) (hf:f 0 0=mnsV l):Fz sh (.fn (.func 41) 1 (fun i=>[HV.pt 3 g 0 0].getD i default)) (.fn (.func 41) 1 (fun i=>[HV.fp 1 (fun _=>mnsV l)].getD i default)) :=
 .fn _ _ _ _ (fun i hi=>by
  obtain rfl:i=0:=by omega
  exact .pt 3 _ 0 0 1 _ _ ho rfl (Nat.lt_succ_self 0) (Nat.le_refl _) (fun j hj=>by
   obtain rfl:j=0:=by omega
   show Fz sh (f 0 0) (mnsV l);rw [hf];exact Frz.fz))
theorem b9l (s:List UInt8) (l:List Mn) (hs5:s.length≤500) (hF:b7n l=true) (hv:lexV s=.ok []):NetP s l (t4 (netP 0 [] (fun _=>Bag.zero) ⟨Bag.zero,Bag.zero,true⟩) (ptsV []) (intV 0) (boolV true)):=by
 have hB:=(b5n hF).1
 refine a0k Tryz.func19 rfl kr _ _ _ rfl 63 rfl rfl (fun w F=>?_)
 refine ru 12 ?_
 refine a0s 18 (xs:=[_]) (pre:=[]) (a4j s ([],0,0) om (.none hv) _) ⟨rfl,trivial⟩ a0g rfl rfl (fun u c1 hu=>?_)
 (try dsimp only)
 refine ru 21 ?_
 first
 | refine stg 29 (fun hb=>a0e (xs:=[_]) (a5L l) ⟨rfl,trivial⟩ ⟨(Fz.eq rfl),trivial⟩) rfl rfl rfl rfl rfl ?_
 | refine sth 29 (fun hb=>a0e (xs:=[_]) (a5L l) ⟨rfl,trivial⟩ ⟨(Fz.eq rfl),trivial⟩) rfl rfl rfl rfl rfl ?_
 refine ru 11 ?_
 refine sth (v:=intV 0) 38 (fun hb=>by simp at hb) rfl rfl rfl rfl rfl ?_
 refine ru 5 ?_
 refine wdc (fun hr0 hc0=>?_) (fun hr0 hc0=>?_)
 ·skip
  exfalso;have h:=hr0;simp [hF] at h;omega
 refine ru 5 ?_
 refine a0s 50 (xs:=[_]) (pre:=[]) (b3y _ s om) ⟨rfl,trivial⟩ a0g rfl rfl (fun r c2 hr=>?_)
 (try dsimp only)
 refine ru 10 ?_
 obtain rfl:=b6H hv hr
 refine ru 3 ?_
 refine (a1a 56 [(3,_)] rfl (a0i rfl a0g) rfl (c2Y (.head _) rfl)).seq ?_
 refine s0 (a0e (xs:=[_,_]) (c4b (b9X l hB) [] ⟨Nat.zero_le _,fun i hi=>absurd hi (Nat.not_lt_zero _)⟩ _ (.nil rfl)) ⟨rfl,⟨rfl,trivial⟩⟩ ⟨(Fz.eq rfl),⟨(.fn _ _ _ _ (fun i hi=>by obtain rfl:i=0:=om;exact .fp _ _ (Nat.le_refl _) _ _ (fun j hj=>show Fz _ (mnsV l) (mnsV l) from Frz.fz))),trivial⟩⟩) ?_
 refine ru 19 ?_
 refine a3Z rfl (a0h rfl) (a0h rfl) (a0h rfl) (a0h rfl) [] rfl a0g ?_
 exact a9x (.fp _ _ (Nat.le_refl _) _ _ (fun j hj=>Frz.fz)) (show Fz _ (ptsV []) (ptsV []) from Frz.fz) (.imm _) (.imm _)
theorem b5h (s:List UInt8) (l:List Mn) (hs5:s.length≤500) (hF:b7n l=true) (lx:List Sg) (t:T) (hok:t.ok=true) (hv:lexV s=.ok lx) (hsg:Seg lx 3 0 lx.length t) (hPB:PtB (T.flat 0 t)) (hw:t.w≤60) (y:HV) (z:Int)
  (hn:NewIs (meansV l) (T.flat 0 t) (t2 y (intV z))) (hy:∀ sh,Fz sh y y):NetP s l (t4 y (ptsV (T.flat 0 t)) (intV z) (boolV true)):=by
 have hB:=(b5n hF).1
 have hel:=hPB.1
 have hat:AtP (T.flat 0 t) 0 (T.flat 0 t):=⟨[],[],by simp,rfl⟩
 have hsz:(T.flat 0 t).length=t.size:=T.flat_len 0 t
 have hps:=t.size_pos
 have hwm:a3J t.w≤60:=by unfold a3J;split <;> omega
 have hmn:=a9j (T.flat 0 t) hel t 0 hok hat
 have hpt:=fun r (h:ParseIs s r)=>b6w hv hsg h
 have hp:ParseIs s (T.flat 0 t,0,0):=.ok lx t hv hsg
 generalize T.flat 0 t=e at hel hat hsz hmn hp hpt hPB hn ⊢
 have hel0:0 < e.length:=by omega
 refine a0k Tryz.func19 rfl kr _ _ _ rfl 63 rfl rfl (fun w F=>?_)
 refine ru 12 ?_
 refine a0s 18 (xs:=[_]) (pre:=[]) (a4j s (e,0,0) om hp _) ⟨rfl,trivial⟩ a0g rfl rfl (fun u c1 hu=>?_)
 (try dsimp only)
 refine ru 21 ?_
 first
 | refine stg 29 (fun hb=>a0e (xs:=[_]) (a5L l) ⟨rfl,trivial⟩ ⟨(Fz.eq rfl),trivial⟩) rfl rfl rfl rfl rfl ?_
 | refine sth 29 (fun hb=>a0e (xs:=[_]) (a5L l) ⟨rfl,trivial⟩ ⟨(Fz.eq rfl),trivial⟩) rfl rfl rfl rfl rfl ?_
 refine ru 11 ?_
 refine ry3 (intV ((0+t.size - 1:Nat):Int)) rfl rfl (fun hb hb2=>congrArg intV (by dsimp only;omega)) ?_
 first
 | refine stg 38 (fun hb=>a0e (xs:=[_,_]) (hmn) ⟨rfl,⟨rfl,trivial⟩⟩ ⟨(Fz.eq rfl),⟨(Fz.eq rfl),trivial⟩⟩) rfl rfl rfl rfl rfl ?_
 | refine a4R 43 16 38 34 false true _ _ (fun hb hb2=>a0e (xs:=[_,_]) (hmn) ⟨rfl,⟨rfl,trivial⟩⟩ ⟨(Fz.eq rfl),⟨(Fz.eq rfl),trivial⟩⟩) rfl rfl rfl rfl rfl a0g rfl rfl rfl ?_
 | refine sth 38 (fun hb=>a0e (xs:=[_,_]) (hmn) ⟨rfl,⟨rfl,trivial⟩⟩ ⟨(Fz.eq rfl),⟨(Fz.eq rfl),trivial⟩⟩) rfl rfl rfl rfl rfl ?_
 refine ru 5 ?_
 refine wdc (fun hr0 hc0=>?_) (fun hr0 hc0=>?_)
 ·skip
  exfalso;have h:=hr0;simp [hF] at h;omega
 refine ru 5 ?_
 refine a0s 50 (xs:=[_]) (pre:=[]) (b3y _ s om) ⟨rfl,trivial⟩ a0g rfl rfl (fun r c2 hr=>?_)
 (try dsimp only)
 refine ru 10 ?_
 obtain rfl:=hpt _ hr
 refine ru 3 ?_
 refine (a1a 56 [(3,_)] rfl (a0i rfl a0g) rfl (c2Y (.head _) rfl)).seq ?_
 refine s0 (a0e (xs:=[_,_]) (c4b (b9X l hB) e hPB _ hn) ⟨rfl,⟨rfl,trivial⟩⟩ ⟨(Fz.eq rfl),⟨(.fn _ _ _ _ (fun i hi=>by obtain rfl:i=0:=om;exact .fp _ _ (Nat.le_refl _) _ _ (fun j hj=>show Fz _ (mnsV l) (mnsV l) from Frz.fz))),trivial⟩⟩) ?_
 refine ru 19 ?_
 refine a3Z rfl (a0h rfl) (a0h rfl) (a0h rfl) (a0h rfl) [] rfl a0g ?_
 exact a9x (hy _) (show Fz _ (ptsV e) (ptsV e) from Frz.fz) (.imm _) (.imm _)
theorem b9T (s:List UInt8) (l:List Mn) (hs:s.length≤9223372036854775807):(∃ x:Int,NetP s l (t4 a9s a1g (intV x) (boolV false)))∨(∃ e,NetP s l (t4 a9s (ptsV e) (intV 6) (boolV true))∧noneE l e=true∧e.length≤100000∧MnB l)∨∃ w on β p e,NetOk s l w on β p e:=by
  obtain ⟨r,hp⟩:=c1Y s
  have hpr:=b4J hp
  cases hp with
  | err e hv=>exact .inl ⟨_,b3Z s l hs _ _ (.err e hv) (a6K hv)⟩
  | odd lx q hv hne hq hC=>exact .inl ⟨_,b3Z s l hs _ _ (.odd lx q hv hne hq hC) (by decide)⟩
  | end_ lx hv hne hC=>exact .inl ⟨_,b3Z s l hs _ _ (.end_ lx hv hne hC) (by decide)⟩
  | none hv =>
    by_cases h:s.length≤500∧b7n l=true
    · have hB:=(b5n h.2).1
      exact .inr (.inr ⟨0,[],fun _=>Bag.zero,Pc.nil,[],⟨b9l s l h.1 h.2 hv,c1P l,rfl,Nat.zero_le _,rfl,fun i=>Bag.zero_ok,fun i=>Bag.zero_ok,Pc.nil_ok,Nat.zero_le _,hB,⟨Nat.zero_le _,fun i hi=>absurd hi (Nat.not_lt_zero _)⟩,.inl ⟨rfl,rfl,rfl,fun _=>rfl,rfl⟩⟩⟩)
    · exact .inl ⟨_,c1O s l hs (.none hv) h⟩
  | ok lx t hv hsg =>
    have hok:=c3g (b3i hv) hsg
    have hPB:=hpr.1
    by_cases h:s.length≤500∧b7n l=true∧t.w≤60
    · have hB:=(b5n h.2.1).1
      have hR:rightV (T.flat 0 t)=true:=a4y hok
      have hmo:=a3O l
      cases hn:noneE l (T.flat 0 t) with
      | true=>exact .inr (.inl ⟨_,b5h s l h.1 h.2.1 lx t hok hv hsg hPB h.2.2 _ _ (.none hR (by rw [c0t];exact hn)) (fun sh=>.imm _),hn,hPB.1,hB⟩)
      | false =>
        have hly:=a3N hmo t 0 (by omega)
        refine .inr (.inr ⟨0+t.w,_,_,_,_,⟨b5h s l h.1 h.2.1 lx t hok hv hsg hPB h.2.2 (treeNet (meansV l) t) 0 (.fine t hok rfl (by rw [c0t];exact hn) (by omega)) (fun sh=>.fp _ _ (Nat.le_refl _) _ _ (fun j hj=>Frz.fz)),c2x l hB t hok hPB.1 (by omega),hn,by omega,?_,?_,?_,hly.pc,hPB.1,hB,hPB,.inr ⟨t,hok,rfl,rfl,rfl,rfl,rfl⟩⟩⟩)
        · rw [Nat.zero_add];exact hly.len
        · intro i
          show ((lay (meansV l) t 0).on.getD i Bag.zero).ok
          by_cases hi:i < (lay (meansV l) t 0).on.length
          · rw [List.getD_eq_getElem?_getD,List.getElem?_eq_getElem hi];exact hly.on _ (List.getElem_mem hi)
          · rw [List.getD_eq_getElem?_getD,List.getElem?_eq_none (by omega)];exact Bag.zero_ok
        · exact a1h hly.lk (fun _=>Bag.zero_ok)
    · exact .inl ⟨_,c4r s l hs t hok hPB (.ok lx t hv hsg) h⟩
@[reducible] def c9x (b:Bag):Value:=.agg b.cells.toArray
theorem c2X:KeyOk Tryz.prog 88 Bag c9x (.int .i64 0) :=
 b2I (et:=3) (by kernel_rfl) Tryz.underlying47 (fun w=>by kernel_rfl) (fun b a w=>by obtain ⟨x,y,z,u⟩:=a;kernel_rfl) (fun p q w=>a8W w p q (Op.maxDepth - 3)) (fun a=>by simp [Instr.sameBits,Bag.cells])
theorem b1T {b:Bag} {f:Nat→HV} (hf:∀ j,j < 4→f j=a2I b j):b8N (.agg 4 f) (c9x b):=fun w E u h=>a6r hf h
def kn:List Bag→Nat→List (Bag×Value)
 | [],_=>[]
 | b::r,i=>(b,.int .i64 (i:Int))::kn r (i+1)
@[reducible] def knS (S:List Bag):List (Bag×Value):=kn (S.drop 1) 1
theorem b4o (b:Bag):∀ (l:List Bag) (i k:Nat),(mfind b (kn l i) k).map (·.2)=(ixA b l i).map (fun n=>Value.int .i64 (n:Int))
  | [],i,k=>rfl
  | x :: r, i, k => by
    show (if b=x then some (k,Value.int .i64 (i:Int)) else mfind b (kn r (i+1)) (k+1)).map (·.2)=(if x=b then some i else ixA b r (i+1)).map (fun n=>Value.int .i64 (n:Int))
    by_cases e:x=b
    · rw [if_pos e,if_pos e.symm];rfl
    · rw [if_neg e,if_neg (fun h=>e h.symm)];exact b4o b r (i+1) (k+1)
theorem b9L (b:Bag):∀ (l:List Bag) (i:Nat),kn (l++[b]) i=kn l i++[(b,.int .i64 ((i+l.length:Nat):Int))]
  | [],i=>rfl
  | x :: r, i => by
    show (x,_)::kn (r++[b]) (i+1)=(x,_)::(kn r (i+1)++_)
    rw [b9L b r (i+1),show i+1+r.length=i+(x::r).length by simp;omega]
theorem c4R (S:List Bag) (b:Bag):c6t (knS S) b=(idA S b).map (fun n=>Value.int .i64 (n:Int)):=b4o b _ _ _
theorem c3V {S:List Bag} {b:Bag} (hS:0 < S.length) (h:idA S b=none):c7Y (knS S) b (.int .i64 (S.length:Int))=knS (S++[b]):=by
 have h1:=b4o b (S.drop 1) 1 0
 rw [show ixA b (S.drop 1) 1=none from h] at h1
 have h2:mfind b (knS S) 0=none:=by
  cases hm:mfind b (knS S) 0 with
  | none=>rfl
  | some p=>rw [show mfind b (kn (S.drop 1) 1) 0=some p from hm] at h1;cases h1
 unfold c7Y;rw [h2]
 show knS S++_=kn ((S++[b]).drop 1) 1
 rw [List.drop_append_of_le_length (by omega),b9L,List.length_drop,show 1+(S.length - 1)=S.length by omega]
theorem c8g {S:List Bag} {s:Bag} (h:s=Bag.zero):a4g Bag.zero S s=(S,-1):=by unfold a4g;rw [if_pos h]
theorem c2k {S:List Bag} {s:Bag} {n:Nat} (h:s≠Bag.zero) (hn:idA S s=some n):a4g Bag.zero S s=(S,(n:Int)):=by unfold a4g;rw [if_neg h,hn]
theorem c2I {S:List Bag} {s:Bag} (h:s≠Bag.zero) (hn:idA S s=none):a4g Bag.zero S s=(S++[s],(S.length:Int)):=by unfold a4g;rw [if_neg h,hn]
def b7c (E:Bag) (S:List Bag) (A:List Bool) (s:Bag):List Bool:=if s=Bag.zero then A else match idA S s with
 | some _=>A
 | none=>A++[decide (s.mix a6U E 4≠Bag.zero)]
theorem c0X {E:Bag} {S:List Bag} {A:List Bool} {s:Bag} (h:A.length=S.length):(b7c E S A s).length=(a4g Bag.zero S s).1.length:=by
  unfold b7c a4g
  split
  · exact h
  · cases idA S s with
    | some n=>exact h
    | none=>simp [h]
@[reducible] def mkF (N:HV) (g2 g3 n g5:Nat):Nat→HV:=fun j=>match j with
 | 0=>N
 | 1=>.pt 9002 g2 0 0
 | 2=>.os 9003 g3 0 n
 | _=>.mp 9005 g5
@[reducible] def mkO (g:Nat) (N:HV) (g2 g3 n g5:Nat):HObj:=⟨g,1,4,90,0,fun _=>mkF N g2 g3 n g5⟩
@[reducible] def tbO (g g4 n:Nat):HObj:=⟨g,1,1,86,0,fun _ _=>.os 9004 g4 0 n⟩
@[reducible] def seO (g:Nat) (S:List Bag):HObj:=⟨g,S.length,4,47,0,fun i j=>a6R ((S.getD i Bag.zero).word j)⟩
@[reducible] def stO (g n:Nat) (R:List (List Int)) (A:List Bool):HObj:=⟨g,n,33,83,0,tbF R A⟩
@[reducible] def knO (g:Nat) (S:List Bag):HObj:=b4l g (encL c9x (knS S))
section
variable {kp sh:List (Nat×HObj)}
theorem b1P {g:Nat} {l l':List (Value×Value)} (h:l=l':=by rfl):OKz kp sh (b4l g l) (b4l g l'):=by subst h;exact ⟨rfl,rfl,rfl,rfl,Nat.le_refl _,fun i j hi=>absurd hi (Nat.not_lt_zero _),fun _=>rfl⟩
theorem b5e {g g2 g3 n n' g5:Nat} {N:HV} {F:Nat→Nat→HV} {o2 o3 o5:HObj} (h0:F 0 0=N) (h1:F 0 1=.pt 9002 g2 0 0) (h2:F 0 2=.os 9003 g3 0 n) (h3:F 0 3=.mp 9005 g5) (hN:∀ sh,Fz sh N N) (hn:n=n') (k2:hget kp 9002=some o2) (e2:o2.g=g2) (k3:hget kp 9003=some o3) (e3:o3.g=g3) (k5:hget kp 9005=some o5) (e5:o5.g=g5):OKz kp sh ⟨g,1,4,90,0,F⟩ (mkO g N g2 g3 n' g5):=by
 subst hn
 exact c8E (by rw [h0];exact .fz _ _ (hN _)) (by rw [h1];exact .pt _ _ _ _ _ k2 e2) (by rw [h2];exact .os _ _ _ _ _ k3 e3) (by rw [h3];exact .mp _ _ _ k5 e5)
theorem b5W {g g4 n n':Nat} {F:Nat→Nat→HV} {o4:HObj} (h0:F 0 0=.os 9004 g4 0 n) (hn:n=n') (k4:hget kp 9004=some o4) (e4:o4.g=g4):OKz kp sh ⟨g,1,1,86,0,F⟩ (tbO g g4 n'):=by
 subst hn
 exact c6q (by rw [h0];exact .os _ _ _ _ _ k4 e4)
theorem a3y {g n n' sz ty:Nat} {f f':Nat→Nat→HV} (hn:n=n') (h:∀ i j,i < n→j < sz→Fz sh (f i j) (f' i j)):OKz kp sh ⟨g,n,sz,ty,0,f⟩ ⟨g,n',sz,ty,0,f'⟩:=by
 subst hn;exact .of fun i j hi hj=>.fz _ _ (h i j hi hj)
end
theorem c2R {sh:List (Nat×HObj)} {a b:Nat} (h:a=b):Fz sh (a6R a) (a6R b):=by subst h;exact .imm _
theorem c6O {zs:List Value} {x:HV} {w:Nat} (hw:w=1) (hz:zs=List.replicate 32 (Value.int .i64 0)++[Value.bool false]):(∀ j,j < 32→bld [(32,w,x)] (fun j=>.imm (zs.getD j undef)) j=intV 0):=fun j hj=>by
 subst hz;subst hw
 show (match inr 32 1 j with | true=>x.cell (j - 32) | false=>HV.imm ((List.replicate 32 (Value.int .i64 0)++[Value.bool false]).getD j undef))=_
 rw [show inr 32 1 j=false from by rw [←Bool.not_eq_true,b3E];omega]
 rw [List.getD_eq_getElem?_getD,List.getElem?_append_left (by simpa using hj),List.getElem?_replicate,if_pos hj];rfl
theorem c6d {sh:List (Nat×HObj)} {S:List Bag} {s:Bag} {f:Nat→HV} (hf:∀ j,j < 4→f j=a2I s j):∀ i j,i < S.length+1→j < 4→Fz sh (cat S.length (fun i j=>a6R ((S.getD i Bag.zero).word j)) (bsf [.agg 4 f]) i j) (a6R (((S++[s]).getD i Bag.zero).word j)):=fun i j hi hj=>by
 by_cases h:i < S.length
 ·rw [a9n h];exact c2R (by rw [List.getD_eq_getElem?_getD,List.getD_eq_getElem?_getD,List.getElem?_append_left h])
 ·obtain rfl:i=S.length:=by omega
  rw [a9i (by omega),Nat.sub_self]
  show Fz sh (f j) _
  rw [hf j hj];exact c2R (by rw [List.getD_eq_getElem?_getD,List.getElem?_append_right (by omega),Nat.sub_self];rfl)
theorem c5C {sh:List (Nat×HObj)} {R:List (List Int)} {A:List Bool} {n:Nat} {b:Bool} {f:Nat→HV} (hA:A.length=n) (hR:R.length≤n) (h0:∀ j,j < 32→f j=intV 0) (h1:f 32=boolV b):∀ i j,i < n+1→j < 33→Fz sh (cat n (tbF R A) (bsf [.agg 33 f]) i j) (tbF R (A++[b]) i j):=fun i j hi hj=>by
 by_cases h:i < n
 ·rw [a9n h]
  by_cases hj2:j < 32
  ·rw [a2u hj2,a2u hj2];exact .imm _
  ·obtain rfl:j=32:=by omega
   rw [b3w,b3w]
   rw [show (A++[b]).getD i false=A.getD i false by rw [List.getD_eq_getElem?_getD,List.getD_eq_getElem?_getD,List.getElem?_append_left (by omega)]];exact .imm _
 ·obtain rfl:i=n:=by omega
  rw [a9i (by omega),Nat.sub_self]
  show Fz sh (f j) _
  by_cases hj2:j < 32
  ·rw [h0 j hj2,a2u hj2,show R.getD i []=[] by rw [List.getD_eq_getElem?_getD,List.getElem?_eq_none (by omega)];rfl];exact .imm _
  ·obtain rfl:j=32:=by omega
   rw [h1,b3w,show (A++[b]).getD i false=b by rw [List.getD_eq_getElem?_getD,List.getElem?_append_right (by omega),hA,Nat.sub_self];rfl];exact .imm _
theorem c7p (S:List Bag) (s:Bag):lkV true (c6t (knS S) s) (.int .i64 0)=t2 (intV ((idA S s).getD 0:Nat)) (boolV (idA S s).isSome):=by
 rw [c4R];cases idA S s <;> rfl
theorem c7k (c g1 g2 g3 g4 g5:Nat) (wd:Nat) (on:List Bag) (β:Nat→Bag) (p:Pc) (hpk:p.ok) (S:List Bag) (A:List Bool) (R:List (List Int)) (s:Bag) (hs:s.ok) (hS:0 < S.length∧S.length≤1000) (hA:A.length=S.length) (hR:R.length≤S.length):a4s Tryz.prog 58 c [.pt 9001 g1 0 0,bagH s] [(9001,mkO g1 (netP wd on β p) g2 g3 S.length g5),(9002,tbO g2 g4 S.length),(9003,seO g3 S),(9004,stO g4 S.length R A),(9005,knO g5 S)] (a9t (fun (_:Nat×Nat) _=>True) (fun _=>intV (a4g Bag.zero S s).2) (fun q=>[(9001,mkO g1 (netP wd on β p) g2 q.1 (a4g Bag.zero S s).1.length g5),(9002,tbO g2 q.2 (a4g Bag.zero S s).1.length),(9003,seO q.1 (a4g Bag.zero S s).1),(9004,stO q.2 (a4g Bag.zero S s).1.length R (b7c p.ends S A s)),(9005,knO g5 (a4g Bag.zero S s).1)])):=by
 have hN:∀ sh,Fz sh (netP wd on β p) (netP wd on β p):=fun sh=>Frz.fz
 refine a0v Tryz.func58 rfl kr _ _ _ _ rfl 72 rfl rfl (fun X ok hX=>?_)
 refine ru 11 ?_
 refine s0 (a6e s Bag.zero rfl rfl rfl (by exact j4 rfl rfl rfl rfl) (by exact j4 rfl rfl rfl rfl)) ?_
 refine ru 2 ?_
 refine wdc (fun hr0 hc0=>?_) (fun hr0 hc0=>?_)
 ·skip
  have hP:=c8g (S:=S) (show s=Bag.zero by simpa using hr0);have hB:b7c p.ends S A s=A:=(by unfold b7c;rw [if_pos (by simpa using hr0)])
  refine ru 7 ?_
  refine fr1 ok hX rw1 ((g3,g4)) (trivial) ((by rw [hP];exact kza)) ?_
  exact ⟨⟨_,rfl,(by rw [hP];exact b5e rfl rfl rfl rfl hN rfl rfl rfl rfl rfl rfl rfl)⟩,⟨⟨_,rfl,(by rw [hP];exact b5W rfl rfl rfl rfl)⟩,⟨⟨_,rfl,(by rw [hP];exact a3y rfl fun _ _ _ _=>.imm _)⟩,⟨⟨_,rfl,(by rw [hP,hB];exact a3y rfl fun _ _ _ _=>b3e _ _ _ _)⟩,⟨⟨_,rfl,(by rw [hP];exact b1P)⟩,trivial⟩⟩⟩⟩⟩
 have hz:s≠Bag.zero:=(by simpa using hr0)
 refine ru 10 ?_
 refine a3a 16 (HOp.val (v':=t2 (intV ((idA S s).getD 0:Nat)) (boolV (idA S s).isSome)) (b6N c2X (l:=knS S) (a:=s) rfl rfl (b1T (by exact j4 rfl rfl rfl rfl))) (c7p S s)) rfl rfl (a0P rfl) rfl rfl (k':=6) rfl ?_
 refine ru 12 ?_
 refine wdc (fun hr1 hc1=>?_) (fun hr1 hc1=>?_)
 ·skip
  obtain ⟨m,hm⟩:=Option.isSome_iff_exists.1 (show (idA S s).isSome=true from hr1);have hP:=c2k hz hm;have hB:b7c p.ends S A s=A:=(by unfold b7c;rw [if_neg hz,hm])
  refine ru 8 ?_
  refine fr1 ok hX rw1 ((g3,g4)) (trivial) ((by rw [hP,hm];exact kza)) ?_
  exact ⟨⟨_,rfl,(by rw [hP];exact b5e rfl rfl rfl rfl hN rfl rfl rfl rfl rfl rfl rfl)⟩,⟨⟨_,rfl,(by rw [hP];exact b5W rfl rfl rfl rfl)⟩,⟨⟨_,rfl,(by rw [hP];exact a3y rfl fun _ _ _ _=>.imm _)⟩,⟨⟨_,rfl,(by rw [hP,hB];exact a3y rfl fun _ _ _ _=>b3e _ _ _ _)⟩,⟨⟨_,rfl,(by rw [hP];exact b1P)⟩,trivial⟩⟩⟩⟩⟩
 have hm:idA S s=none:=(by have h9:(idA S s).isSome=false:=hr1;cases h8:idA S s with | none=>rfl | some q=>rw [h8] at h9;cases h9);have hP:=c2I hz hm;have hB:b7c p.ends S A s=A++[decide (s.mix a6U p.ends 4≠Bag.zero)]:=(by unfold b7c;rw [if_neg hz,hm])
 refine ru 14 ?_
 refine c4n (b0o c2X (l:=knS S) (a:=s) (v:=.int .i64 (S.length:Int)) rfl rfl (b1T (by exact j4 rfl rfl rfl rfl)) rfl) rfl rfl (a0P rfl) (k':=11) rfl ?_
 refine ru 10 ?_
 refine a2n 37 (a0b (id:=37) (hs:=[_]) ei_87.h omx rfl omx ⟨rfl,rfl,rfl,rfl,trivial⟩) rfl rfl a0g rfl rfl (k':=7) rfl ?_
 first
 | refine a2n 38 (a0a ei_87.h (by first | exact Nat.le_of_ble_eq_true rfl | omega | (dsimp only;omega) | (simp <;> omega)) rfl (by first | exact Nat.le_of_ble_eq_true rfl | omega | (dsimp only;omega) | (simp <;> omega)) (by first | exact Nat.le_of_ble_eq_true rfl | omega | (dsimp only;omega) | (simp <;> omega)) (a0x rfl (by first | exact Nat.le_of_ble_eq_true rfl | omega | (dsimp only;omega) | (simp <;> omega))) (by first | exact Nat.le_of_ble_eq_true rfl | omega | (dsimp only;omega) | (simp <;> omega)) rfl) rfl rfl (a0i rfl (a0P rfl)) rfl rfl (k':=8) rfl ?_
 | refine a2n 38 (a0a ei_87.h (by first | exact Nat.le_of_ble_eq_true rfl | omega | (dsimp only;omega) | (simp <;> omega)) rfl (by first | exact Nat.le_of_ble_eq_true rfl | omega | (dsimp only;omega) | (simp <;> omega)) (by first | exact Nat.le_of_ble_eq_true rfl | omega | (dsimp only;omega) | (simp <;> omega)) (a0S rfl (by first | exact Nat.le_of_ble_eq_true rfl | omega | (dsimp only;omega) | (simp <;> omega))) (by first | exact Nat.le_of_ble_eq_true rfl | omega | (dsimp only;omega) | (simp <;> omega)) rfl) rfl rfl (a0i rfl (a0P rfl)) rfl rfl (k':=8) rfl ?_
 | refine a2n 38 (a0a ei_87.h (by first | exact Nat.le_of_ble_eq_true rfl | omega | (dsimp only;omega) | (simp <;> omega)) rfl (by first | exact Nat.le_of_ble_eq_true rfl | omega | (dsimp only;omega) | (simp <;> omega)) (by first | exact Nat.le_of_ble_eq_true rfl | omega | (dsimp only;omega) | (simp <;> omega)) (a0O rfl) (by first | exact Nat.le_of_ble_eq_true rfl | omega | (dsimp only;omega) | (simp <;> omega)) rfl) rfl rfl (a0i rfl a0g) rfl rfl (k':=8) rfl ?_
 | refine a2n 38 (a0a ei_87.h (by first | exact Nat.le_of_ble_eq_true rfl | omega | (dsimp only;omega) | (simp <;> omega)) rfl (by first | exact Nat.le_of_ble_eq_true rfl | omega | (dsimp only;omega) | (simp <;> omega)) (by first | exact Nat.le_of_ble_eq_true rfl | omega | (dsimp only;omega) | (simp <;> omega)) (a0z 4 (fun _ _=>default) rfl) (by first | exact Nat.le_of_ble_eq_true rfl | omega | (dsimp only;omega) | (simp <;> omega)) rfl) rfl rfl (a0i rfl a0g) rfl rfl (k':=8) rfl ?_
 refine ru 23 ?_
 refine clx (c4H wd on β p) ?_
 refine d0 18 (a0e (xs:=[_,_]) (c9g s p.ends hs hpk.2) ⟨rfl,⟨rfl,trivial⟩⟩ ⟨(a1Z (by exact j4 rfl rfl rfl rfl)),⟨(a1Z (by exact j4 rfl rfl rfl rfl)),trivial⟩⟩) ?_
 refine ru 1 ?_
 refine d0 20 (a8I (s.mix a6U p.ends 4) Bag.zero rfl rfl rfl (by exact j4 rfl rfl rfl rfl) (by exact j4 rfl rfl rfl rfl)) ?_
 refine ru 1 ?_
 refine a2n 62 (a0b (id:=62) (hs:=[_]) ei_84.h omx rfl omx ⟨rfl,rfl,rfl,rfl,trivial⟩) rfl rfl a0g rfl rfl (k':=22) rfl ?_
 first
 | refine a2n 63 (a0a ei_84.h (by first | exact Nat.le_of_ble_eq_true rfl | omega | (dsimp only;omega) | (simp <;> omega)) rfl (by first | exact Nat.le_of_ble_eq_true rfl | omega | (dsimp only;omega) | (simp <;> omega)) (by first | exact Nat.le_of_ble_eq_true rfl | omega | (dsimp only;omega) | (simp <;> omega)) (a0x rfl (by first | exact Nat.le_of_ble_eq_true rfl | omega | (dsimp only;omega) | (simp <;> omega))) (by first | exact Nat.le_of_ble_eq_true rfl | omega | (dsimp only;omega) | (simp <;> omega)) rfl) rfl rfl (a0i rfl (a0P rfl)) rfl rfl (k':=23) rfl ?_
 | refine a2n 63 (a0a ei_84.h (by first | exact Nat.le_of_ble_eq_true rfl | omega | (dsimp only;omega) | (simp <;> omega)) rfl (by first | exact Nat.le_of_ble_eq_true rfl | omega | (dsimp only;omega) | (simp <;> omega)) (by first | exact Nat.le_of_ble_eq_true rfl | omega | (dsimp only;omega) | (simp <;> omega)) (a0S rfl (by first | exact Nat.le_of_ble_eq_true rfl | omega | (dsimp only;omega) | (simp <;> omega))) (by first | exact Nat.le_of_ble_eq_true rfl | omega | (dsimp only;omega) | (simp <;> omega)) rfl) rfl rfl (a0i rfl (a0P rfl)) rfl rfl (k':=23) rfl ?_
 | refine a2n 63 (a0a ei_84.h (by first | exact Nat.le_of_ble_eq_true rfl | omega | (dsimp only;omega) | (simp <;> omega)) rfl (by first | exact Nat.le_of_ble_eq_true rfl | omega | (dsimp only;omega) | (simp <;> omega)) (by first | exact Nat.le_of_ble_eq_true rfl | omega | (dsimp only;omega) | (simp <;> omega)) (a0O rfl) (by first | exact Nat.le_of_ble_eq_true rfl | omega | (dsimp only;omega) | (simp <;> omega)) rfl) rfl rfl (a0i rfl a0g) rfl rfl (k':=23) rfl ?_
 | refine a2n 63 (a0a ei_84.h (by first | exact Nat.le_of_ble_eq_true rfl | omega | (dsimp only;omega) | (simp <;> omega)) rfl (by first | exact Nat.le_of_ble_eq_true rfl | omega | (dsimp only;omega) | (simp <;> omega)) (by first | exact Nat.le_of_ble_eq_true rfl | omega | (dsimp only;omega) | (simp <;> omega)) (a0z 33 (fun _ _=>default) rfl) (by first | exact Nat.le_of_ble_eq_true rfl | omega | (dsimp only;omega) | (simp <;> omega)) rfl) rfl rfl (a0i rfl a0g) rfl rfl (k':=23) rfl ?_
 refine ru 17 ?_
 refine fr1 ok hX rw1 ((c+23+7,c+34+22)) (trivial) ((by rw [hP];exact a6C (by simp))) ?_
 exact ⟨⟨_,rfl,(by rw [hP];exact b5e rfl rfl rfl rfl hN (by simp) rfl rfl rfl rfl rfl rfl)⟩,⟨⟨_,rfl,(by rw [hP];exact b5W rfl (by simp) rfl rfl)⟩,⟨⟨_,rfl,(by rw [hP];exact a3y (by simp) (c6d (by exact j4 rfl rfl rfl rfl)))⟩,⟨⟨_,rfl,(by rw [hP,hB];exact a3y (by simp) (c5C hA hR (c6O rfl rfl) (show boolV (!decide (s.mix a6U p.ends 4=Bag.zero))=_ from congrArg boolV (by simp))))⟩,⟨⟨_,rfl,(by rw [hP];exact b1P (by rw [c3V hS.1 hm]))⟩,trivial⟩⟩⟩⟩⟩
end Go.Proofs.YtdbbbafiegpbpaaGreatDoor
