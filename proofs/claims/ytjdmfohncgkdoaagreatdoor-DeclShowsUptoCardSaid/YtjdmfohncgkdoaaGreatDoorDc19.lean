/-
  The options of a node; maps by texts that count.
-/
import Derived.Test.YtjdmfohncgkdoaaGreatDoorHmk
import Derived.Test.YtjdmfohncgkdoaaGreatDoorHq4
import Derived.Test.YtjdmfohncgkdoaaGreatDoorLexB
import Derived.Lib.OthersKept
import Derived.Deep.WholeRow
namespace Go.Proofs.YtjdmfohncgkdoaaGreatDoor
set_option linter.unusedSimpArgs false
set_option linter.unusedVariables false
set_option maxRecDepth 100000
set_option maxHeartbeats 1000000
open Go.RowKit
theorem a5c {C:Ctx} {P:Program} {ops:Array Oper} {Q:Exit→Act→World→Prop} {s:HSt} {rest:List Oper} {d:Option Tmp} {op:Op} {ty:TypeId} {pos:String} {af:Array Edge} (gi j:Nat) (b:Bool)
  (hgi:(ops[gi]?).bind (·.dst)=some j) (hc:tget s.tm j=some (.v (.imm (.bool b)))) (h:HSeq C P ops (⟨d,op,ty,pos,af,none⟩::rest) s Q):HSeq C P ops (⟨d,op,ty,pos,af,some (gi,b)⟩::rest) s Q:=by
 intro a w hs
 have h0:=h a w hs
 obtain ⟨E,e0,r,hG,hsz,hdf,ht⟩:=hs
 have hj:a.tmps.getD j undef=.bool b:=Rep.imm_inv (ht j _ hc)
 unfold a7b at h0 ⊢
 rw [if_pos (by simp [Region.wanted])] at h0
 rw [if_pos ?_]
 ·exact h0
 ·unfold Region.wanted yielded
  simp only [hgi,Option.bind_some]
  by_cases hj2:j < a.tmps.size
  ·have e1:a.tmps[j]?=some a.tmps[j]:=Array.getElem?_eq_getElem hj2
   have e2:a.tmps.getD j undef=a.tmps[j]:=by simp [hj2]
   rw [e1,←e2,hj];simp
  ·have e1:a.tmps.getD j undef=undef:=by simp [hj2]
   rw [e1] at hj;cases hj
theorem b8Q (a b:Bs):((⟨a.toArray⟩:ByteArray) == ⟨b.toArray⟩)=decide (a=b):=by
 show (a.toArray == b.toArray)=_
 rw [Bool.eq_iff_iff];simp
theorem c4f {P:Program} {T kt et:TypeId} {zero:Value} (h1:P.underlying T=some (.map kt et)) (h2:P.underlying kt=some .string) (h3:∀ w,(zeroValue et).run P w=.ok zero w):KeyOk P T Bs (fun x=>Value.string ⟨x.toArray⟩) zero where
  all:=⟨kt,et,h1,h3,fun b a w=>by
    unfold Instr.checkKey
    simp only [Sem.run_bind,run_underlying h2,Result.andThen_ok,Sem.run_pure],fun a es l he w=>by
    have key:∀ (es:List MapEntry) (l:List (Bs×Value)) (i:Nat),es.map (fun e=>(e.key,e.val))=encL (fun x=>Value.string ⟨x.toArray⟩) l→Instr.findNow .string (.string ⟨a.toArray⟩) es i=some (mfind a l i):=by
      intro es
      induction es with
      | nil => intro l i h; cases l with
        | nil=>rfl
        | cons p l=>simp [encL] at h
      | cons e es ih => intro l i h; cases l with
        | nil=>simp [encL] at h
        | cons p l =>
          simp only [encL,List.map_cons,List.cons.injEq,Prod.mk.injEq] at h
          obtain ⟨⟨h1,h2⟩,h3⟩:=h
          have ih:=ih l (i+1) h3
          unfold Instr.findNow mfind
          rw [h1]
          simp only [Instr.sameNow]
          by_cases e1:a=p.1
          · rw [b8Q,if_pos e1,h2,decide_eq_true e1]
          · rw [b8Q,if_neg e1,decide_eq_false e1];exact ih
    unfold Instr.findKey
    simp only [Sem.run_bind,run_underlying h2,Result.andThen_ok,key es l 0 he,Sem.run_pure]⟩
  stay a:=by
    show ((⟨a.toArray⟩:ByteArray) == ⟨a.toArray⟩)=true
    rw [b8Q];simp
def alk {α:Type} [DecidableEq α] (b:α):List (α×Value)→Option Value
 | []=>none
 | p::r=>if b=p.1 then some p.2 else alk b r
def c2A {α:Type} [DecidableEq α] (a:α) (v:Value):List (α×Value)→List (α×Value)
 | []=>[(a,v)]
 | p::r=>if a=p.1 then (a,v)::r else p::c2A a v r
theorem b2o {α:Type} [DecidableEq α] (b:α):∀ (l:List (α×Value)) (i:Nat),(mfind b l i).map (·.2)=alk b l
  | [],i=>rfl
  | p :: r, i => by
    unfold mfind alk
    split
    · rfl
    · exact b2o b r (i+1)
theorem c3N {α:Type} [DecidableEq α] (a:α) (v:Value) (l:List (α×Value)):c4Q l a v=c2A a v l:=by
  have key:∀ (l:List (α×Value)) (k:Nat),(match mfind a l k with | some (i,_)=>l.set (i - k) (a,v) | none=>l++[(a,v)])=c2A a v l:=by
    intro l
    induction l with
    | nil=>intro k;rfl
    | cons p r ih =>
      intro k
      have ih:=ih (k+1)
      unfold mfind c2A
      by_cases h:a=p.1
      · rw [if_pos h,if_pos h];simp
      · rw [if_neg h,if_neg h]
        rw [←ih]
        cases hm:mfind a r (k+1) with
        | none=>rfl
        | some q =>
          obtain ⟨i,x⟩:=q
          obtain ⟨j,hj,_⟩:=a8c hm
          subst hj
          simp only
          rw [show k+1+j - k=j+1 by omega,show k+1+j - (k+1)=j by omega];rfl
  have:=key l 0
  rw [←this];rfl
theorem b7V {α:Type} [DecidableEq α] (a b:α) (v:Value):∀ l:List (α×Value),alk b (c2A a v l)=if b=a then some v else alk b l
  | []=>rfl
  | p :: r => by
    unfold c2A
    by_cases h:a=p.1
    · rw [if_pos h]
      show (if b=a then some v else alk b r)=if b=a then some v else (if b=p.1 then some p.2 else alk b r)
      by_cases h2:b=a
      · rw [if_pos h2,if_pos h2]
      · rw [if_neg h2,if_neg h2,if_neg (fun e=>h2 (e.trans h.symm))]
    · rw [if_neg h]
      show (if b=p.1 then some p.2 else alk b (c2A a v r))=if b=a then some v else (if b=p.1 then some p.2 else alk b r)
      rw [b7V a b v r]
      by_cases h2:b=p.1
      · rw [if_pos h2,if_pos h2,if_neg (fun e=>h (e.symm.trans h2))]
      · rw [if_neg h2,if_neg h2]
def a5A:List Bs→List (Bs×Value)
 | []=>[]
 | w::met=>c4Q (a5A met) w (.int .i64 ((met.count w:Int)+1))
theorem b4s (w:Bs):∀ met,c1X (a5A met) w=if w∈met then some (.int .i64 (met.count w:Int)) else none
  | []=>rfl
  | x :: met => by
    have ih:=b4s w met
    unfold c1X at ih ⊢
    rw [b2o] at ih ⊢
    unfold a5A
    rw [c3N,b7V,ih]
    by_cases h:w=x
    · subst h;simp
    · rw [if_neg h]
      have:(x::met).count w=met.count w:=by rw [List.count_cons];simp [Ne.symm h]
      rw [this];simp [h]
theorem a1X (w:Bs) (met:List Bs):lkV false (c1X (a5A met) w) (.int .i64 0)=a0h (met.count w:Int):=by
 rw [b4s]
 by_cases h:w∈met
 ·rw [if_pos h];rfl
 ·rw [if_neg h,List.count_eq_zero_of_not_mem h];rfl
def c2a:List (Bs×Bool×Nat):=[(a2a,true,85),(a3L,false,86),(a1I,false,87),(a1W,true,88),(a1j,true,89)]
@[reducible] def c5e (o:Bs×Bool×Nat):Nat→HV:=fun j=>match j with
 | 0=>a0p o.1
 | 1=>a0s o.2.1
 | _=>.fn (.func o.2.2) 0 (fun _=>default)
@[reducible] def c5N:HV:=.sl 3 5 (fun i=>c5e (c2a.getD i default))
theorem c1l {sh:List (Nat×HObj)} (o:Bs×Bool×Nat) (j:Nat):Fz sh (c5e o j) (c5e o j):=by
 match j with
 | 0=>exact .imm _
 | 1=>exact .imm _
 | _+2=>exact .fn _ _ _ _ fun i hi=>absurd hi (Nat.not_lt_zero _)
theorem a4q:a0q Tryz.prog 59 [] c5N:=by
 refine a0m Tryz.func59 rfl kr _ _ _ rfl 7 rfl rfl (fun w F=>?_)
 refine ru 12 ?_
 refine a0t 6 (a0b (id:=6) (hs:=[_,_,_,_,_]) ei_112.h omx rfl omx ⟨rfl,rfl,rfl,rfl,⟨rfl,rfl,rfl,rfl,⟨rfl,rfl,rfl,rfl,⟨rfl,rfl,rfl,rfl,⟨rfl,rfl,rfl,rfl,trivial⟩⟩⟩⟩⟩) rfl rfl a0e rfl rfl (c':=1) rfl ?_
 refine ru 4 ?_
 refine a8h rfl (a0r rfl) [(6,_)] rfl (a0g rfl a0e) ?_
 exact .os 6 _ 0 5 _ _ (List.mem_cons_self ..) rfl (Nat.le_refl _) (fun i j hi hj=>by have hj:j < 3:=hj;rcases (show i=0∨i=1∨i=2∨i=3∨i=4 by omega) with rfl | rfl | rfl | rfl | rfl <;> rcases (show j=0∨j=1∨j=2 by omega) with rfl | rfl | rfl <;> first | exact .imm _ | exact .fn _ _ _ _ (fun i hi=>absurd hi (Nat.not_lt_zero _)))
theorem c5a (o:Bs×Bool×Nat) (word:Bs) (has:Bool):a0q Tryz.prog 60 ([.agg 3 (c5e o)]++[.fp 1 (fun _=>a0p word),.fp 1 (fun _=>a0s has)]) (a0s (decide (o.1=word)&&(o.2.1 == has))):=by
 show a0q _ _ [.agg 3 (c5e o),.fp 1 (fun _=>a0p word),.fp 1 (fun _=>a0s has)] _
 refine a0m Tryz.func60 rfl kr _ _ _ rfl 15 rfl rfl (fun w F=>?_)
 refine ru 22 ?_
 refine rt1 ?_
 exact Frz.fz
theorem c2g (word:Bs) (has:Bool):c0D (fun o:Bs×Bool×Nat=>decide (o.1=word)&&(o.2.1 == has)) c2a=a2M word has:=by
 have yes:∀ {s:Bs} {b:Bool},s=word∧b=has→(decide (s=word)&&(b == has))=true:=fun h=>by rw [decide_eq_true h.1,h.2];simp
 have no:∀ {s:Bs} {b:Bool},¬ (s=word∧b=has)→(decide (s=word)&&(b == has))=false:=fun h=>by rw [←Bool.not_eq_true];simpa using h
 have hl:c2a.length=5:=rfl
 unfold a2M
 by_cases h0:a2a=word∧true=has
 ·rw [if_pos h0];exact a3W (d:=default) (i:=0) (by rw [hl];omega) (yes h0) (fun j hj=>absurd hj (Nat.not_lt_zero _))
 rw [if_neg h0]
 by_cases h1:a3L=word∧false=has
 ·rw [if_pos h1];exact a3W (d:=default) (i:=1) (by rw [hl];omega) (yes h1) (fun j hj=>by have e:j=0:=(by omega);subst e;exact no h0)
 rw [if_neg h1]
 by_cases h2:a1I=word∧false=has
 ·rw [if_pos h2];exact a3W (d:=default) (i:=2) (by rw [hl];omega) (yes h2) (fun j hj=>by rcases (show j=0∨j=1 by omega) with rfl | rfl;exact no h0;exact no h1)
 rw [if_neg h2]
 by_cases h3:a1W=word∧true=has
 ·rw [if_pos h3];exact a3W (d:=default) (i:=3) (by rw [hl];omega) (yes h3) (fun j hj=>by rcases (show j=0∨j=1∨j=2 by omega) with rfl | rfl | rfl;exact no h0;exact no h1;exact no h2)
 rw [if_neg h3]
 by_cases h4:a1j=word∧true=has
 ·rw [if_pos h4];exact a3W (d:=default) (i:=4) (by rw [hl];omega) (yes h4) (fun j hj=>by rcases (show j=0∨j=1∨j=2∨j=3 by omega) with rfl | rfl | rfl | rfl;exact no h0;exact no h1;exact no h2;exact no h3)
 rw [if_neg h4]
 exact a6m (d:=default) (fun j hj=>by rw [hl] at hj;rcases (show j=0∨j=1∨j=2∨j=3∨j=4 by omega) with rfl | rfl | rfl | rfl | rfl;exact no h0;exact no h1;exact no h2;exact no h3;exact no h4)
theorem c3s (word:Bs) (has:Bool):a0q Tryz.prog 58 [c5N,.fn (.func 60) 2 (fun i=>[HV.fp 1 (fun _=>a0p word),HV.fp 1 (fun _=>a0s has)].getD i default)] (a0h (a2M word has)):=by
 rw [←c2g]
 have hlen:c2a.length=5:=rfl
 refine a0m Tryz.func58 rfl kr _ _ _ rfl 19 rfl rfl (fun w F=>?_)
 refine ru 14 ?_
 refine a0n (α:=Nat) (fun x c=>⟨19,[(0,.v c5N),(1,.v (.fn (.func 60) 2 (fun x=>[HV.fp 1 (fun _=>a0p word),HV.fp 1 (fun _=>a0s has)].getD x default))),(7,.v (a0h 5)),(8,.v (a0h (x:Int)))],[],c⟩) (fun x=>x≤5∧∀ j,j < x→(decide ((c2a.getD j default).1=word)&&((c2a.getD j default).2.1 == has))=false) (fun x=>5 - x) (0) (by exact ⟨Nat.zero_le _,fun j hj=>absurd hj (Nat.not_lt_zero _)⟩) (a0c rfl (Nat.le_refl _) tsa a0k.nil) (fun i c hx NhL1 hL1=>?_)
 (try dsimp only at hx hL1 ⊢)
 obtain ⟨hil,hno⟩:=hx
 refine ru 6 ?_
 refine wdc (fun hr0 hc0=>?_) (fun hr0 hc0=>?_)
 ·refine ru 17 ?_
  refine s0 (a6G (xs:=[_]) (cs:=[HV.fp 1 (fun _=>a0p word),HV.fp 1 (fun _=>a0s has)]) (c5a (c2a.getD i default) word has) rfl rfl (fun i hi=>by match i,hi with | 0,_=>rfl | 1,_=>rfl) ⟨rfl,trivial⟩ ⟨.agg _ _ _ (fun j _=>c1l _ j),(.fp _ _ (Nat.le_refl _) _ _ fun _ _=>.imm _),(.fp _ _ (Nat.le_refl _) _ _ fun _ _=>.imm _),trivial⟩) ?_
  refine ru 2 ?_
  refine wdc (fun hr1 hc1=>?_) (fun hr1 hc1=>?_)
  ·refine ru 9 ?_
   refine a0f ?_
   refine ru 2 ?_
   refine rt1 ?_
   exact Fz.eq (by rw [a3W (d:=default) (by rw [hlen];omega) hr1 hno])
  refine ru 7 ?_
  exact hL1 (i+1) _ _ (by (try dsimp only);exact ⟨by omega,fun j hj=>by rcases Nat.lt_or_ge j i with h | h;exact hno j h;obtain rfl:j=i:=om;exact hr1⟩) (by (try dsimp only);omega) (a0c rfl (Nat.le_refl _) (tsr rfl (tsr rfl (tsr rfl (a0K.cons rfl (a0Y om) a0K.nil)))) a0k.nil)
 refine ru 2 ?_
 refine a0d ?_
 refine ru 8 ?_
 refine rt1 ?_
 exact Fz.eq (by rw [a6m (d:=default) (fun j hj=>hno j (by rw [hlen] at hj;omega))])
set_option maxHeartbeats 2000000
@[reducible] def a5B (n:Nd):Nat→HV:=fun j=>match j with
 | 0=>a0p n.name
 | 1=>a0M n.groups
 | 2=>a0s n.inl
 | 3=>a0s n.pick
 | 4=>a0s n.leaf
 | 5=>a0h n.attr
 | 6=>a0s n.all
 | 7=>a0M n.marks
 | _=>a0p n.expr
@[reducible] def b9B (n:Nd):HV:=.agg 9 (a5B n)
@[reducible] def c6a (x:Nd×Bool):HV:=t2 (b9B x.1) (a0s x.2)
theorem a6C:KeyOk Tryz.prog 107 Bs (fun x=>Value.string ⟨x.toArray⟩) (.int .i64 0):=c4f (et:=3) (by kernel_rfl) Tryz.underlying9 (fun w=>by kernel_rfl)
theorem b8C (s:Bs):a0q Tryz.prog 56 [a5N (exprV s).1] (a0p (exprS s)):=by
 unfold exprS
 by_cases h:∃ t:T,t.ok=true∧t.size≤250∧exprV s=(T.flat 0 t,0,0)
 ·rw [dif_pos h]
  obtain ⟨h1,h2,h3⟩:=Classical.choose_spec h
  have:=b5C (Classical.choose h) h1 h2
  exact (congrArg (fun q:List Pt=>a0q Tryz.prog 56 [a5N q] (a0p (a6N (Classical.choose h).sig))) (congrArg Prod.fst h3)).mpr this
 ·rw [dif_neg h]
  rcases a9k s with h2 | h2
  ·rw [h2];exact b7Z
  ·exact absurd h2 h
@[reducible] def ndZ (s:Bs) (g:Nat):Nat→HV:=fun j=>match j with
 | 0=>a0p s
 | 1=>.os 8001 g 0 0
 | 2=>a0s false
 | 3=>a0s false
 | 4=>a0s true
 | 5=>a0h 0
 | 6=>a0s false
 | 7=>.imm (.slice none 0 0)
 | _=>a0p []
@[reducible] def zNd:Nat→HV:=fun j=>match j with
 | 0=>a0p []
 | 1=>.imm (.slice none 0 0)
 | 2=>a0s false
 | 3=>a0s false
 | 4=>a0s false
 | 5=>a0h 0
 | 6=>a0s false
 | 7=>.imm (.slice none 0 0)
 | _=>a0p []
theorem a8H {g ty fl:Nat} {f f':Nat→Nat→HV} (h:∀ j,j < 9→Sb (f 0 j) (f' 0 j)) (hfn:fl≤1:=by exact Nat.zero_le _):a5M ⟨g,1,9,ty,fl,f⟩ ⟨g,1,9,ty,fl,f'⟩:=.of (hfn:=hfn) fun i j hi hj=>by
 obtain rfl:i=0:=by omega
 exact h j hj
@[reducible] def c4D (l:List Bs):HV:=.sl 1 (l.length - 2) (fun i _=>a0p (l.getD (2+i) []))
theorem c4x (l:List Bs) (hl:2≤l.length∧l.length≤100000) (hw:∀ w∈l,w.length≤100000) (hj:(joinL l).length≤1000000):a0q Tryz.prog 38 [a0M l] (c6a (a3s l)):=by
 refine a0m Tryz.func38 rfl kr _ _ _ rfl 85 rfl rfl (fun w F=>?_)
 refine ru 11 ?_
 refine rvl (a0p (l.getD 1 [])) (rfl) ?_
 refine ru 7 ?_
 refine a0t 19 (a8f (id:=19)) rfl rfl a0e rfl rfl (c':=4) rfl ?_
 refine ru 13 ?_
 refine (a1q 4 1 8001 1 9 (b8K []) (fun _=>ndZ (l.getD 1 []) 4) rfl rfl (by exact q9 (.inr rfl) (.inl ⟨rfl,rfl⟩) (.inr rfl) (.inr rfl) (.inr rfl) (.inr rfl) (.inr rfl) (.inr rfl) (.inr rfl)) (by decide) (by decide) (c':=5) rfl).wp ?_
 refine a0n (α:=Nat×Nd×List Bs×Nat×Nat) (fun x c=>⟨85,[(0,.v (a0M l)),(2,.v (.pt 2 0 0 0)),(4,.v (.pt 4 1 0 0)),(5,.v (.mp 19 x.2.2.2.2)),(21,.v (c4D l)),(22,.v (a0h ((l.length - 2:Nat):Int))),(23,.v (a0h (x.1:Int)))],[(2,⟨0,1,9,46,0,fun _=>zNd⟩),(4,ndO 1 x.2.1 x.2.2.2.1 x.2.1.groups.length),(8001,a3U x.2.2.2.1 x.2.1.groups),(19,b5a x.2.2.2.2 (encL (fun x=>Value.string ⟨x.toArray⟩) (a5A x.2.2.1)))],c⟩) (fun x=>x.1≤l.length - 2∧x.2.1.groups.length≤4∧x.2.2.1.length=x.1∧a8T (l.drop (2+x.1)) x.2.2.1.reverse x.2.1=a3s l) (fun x=>l.length - x.1) ((0,⟨l.getD 1 [],[],false,false,true,0,false,[],[]⟩,[],4,3)) (by exact ⟨Nat.zero_le _,Nat.zero_le _,rfl,rfl⟩) (a0c rfl (Nat.le_refl _) (tsr rfl (tsr rfl (tsr rfl (tsr rfl (a0K.cons rfl (by rw [show ((l.length:Int) - 2).toNat=l.length - 2 by omega];exact .refl _) (a0K.cons rfl (a0Y om) tsa)))))) (a0k.cons rfl (a8H (by exact q9 (.refl _) (.refl _) (.refl _) (.refl _) (.refl _) (.refl _) (.refl _) (.refl _) (.refl _))) (a0k.cons rfl (a8H (by exact q9 (.refl _) (.refl _) (.refl _) (.refl _) (.refl _) (.refl _) (.refl _) (.nil _ _ _ (by decide) _) (.refl _))) hsa))) (fun x c hx NhL1 hL1=>?_)
 revert hx hL1;obtain ⟨i,n,met,g,gm⟩:=x;intro hx hL1;dsimp only at hx hL1 ⊢
 obtain ⟨ha1,ha2,ha4,ha3⟩:=hx
 refine ru 6 ?_
 refine wdc (fun hr0 hc0=>?_) (fun hr0 hc0=>?_)
 ·skip
  have hil:2+i < l.length:=om;obtain ⟨v_,hv_⟩:∃ v_,l.getD (2+i) []=v_:=⟨_,rfl⟩;have hd_:l.drop (2+i)=v_::l.drop (2+i+1):=(by rw [List.drop_eq_getElem_cons hil,←hv_,List.getD_eq_getElem?_getD,List.getElem?_eq_getElem hil];rfl);have hvl:v_.length≤1000000:=(by have:=hw v_ (by rw [←hv_];exact a2k hil);omega);rw [hd_] at ha3
  refine ru 9 ?_
  refine rvl (a0p v_) ((by rw [←hv_];show a0p (l.getD (2+((i:Nat):Int).toNat) [])=_;rw [show ((i:Nat):Int).toNat=i by omega])) ?_
  refine ru 11 ?_
  refine wdc (fun hr1 hc1=>?_) (fun hr1 hc1=>?_)
  ·skip
   have hv58:v_=[58]:=(by simpa using hr1);have hjl:=a6S l (2+i+1);subst hv58;rw [a4y] at ha3
   refine ru 6 ?_
   refine s0 (a0i (xs:=[_]) (b3H (l.drop (2+i+1)) (by rw [List.length_drop];omega) om) ⟨rfl,trivial⟩ ⟨(b3l (l.drop (2+i+1)) (by rw [List.length_drop];omega) (fun k hk=>by show a0p (l.getD ((((i:Nat):Int)+3).toNat+k) [])=_;rw [show (((i:Nat):Int)+3).toNat+k=2+i+1+k by omega,List.getD_eq_getElem?_getD,List.getD_eq_getElem?_getD,List.getElem?_drop])),trivial⟩) ?_
   refine a0l 36 (xs:=[_]) (pre:=[]) (b6G _ (joinL (l.drop (2+i+1))) om) ⟨rfl,trivial⟩ a0e rfl rfl (fun r c1 hr=>?_)
   (try dsimp only)
   refine ru 12 ?_
   refine s0 (a0i (xs:=[_]) (b8C (joinL (l.drop (2+i+1)))) ⟨rfl,trivial⟩ ⟨(show Fz _ (a5N r.1) (a5N (exprV (joinL (l.drop (2+i+1)))).1) from by rw [b0O hr];exact Frz.fz),trivial⟩) ?_
   refine ru 19 ?_
   refine a0f ?_
   refine ru 2 ?_
   refine a4X rfl (a0Q rfl rfl ty_46.h rqc rfl rfl) (a0r rfl) [(8001,_)] rfl (a0g rfl a0e) ?_
   rw [←ha3,b0O hr];exact a1y (.agg _ _ _ (by exact q9 (.imm _) (a1x (l:=n.groups) (enc:=fun x _=>a0p x) (d:=[]) (List.mem_cons_self ..) rfl rfl (Nat.le_refl _) (fun i j hi hj=>.imm _)) (.imm _) (.imm _) (.imm _) (.imm _) (.imm _) (show Fz _ (a0M n.marks) (a0M n.marks) from .sl _ _ _ _ fun _ _ _ _=>.imm _) (.imm _))) (a1d (by simp [a8D]))
  have hv58:v_≠[58]:=(by simpa using hr1);obtain ⟨⟨W_,V_,H_⟩,hC_⟩:∃ q,a4k 61 v_=q:=⟨_,rfl⟩;have hcut:a0q Tryz.prog 57 [a0p v_,a0p [61]] (c3E (W_,V_,H_)):=(by rw [←hC_];exact c3Y v_ 61 hvl);have hmc:met.count W_≤met.length:=List.count_le_length;have hVl:V_.length≤1000000:=(by have:=a4z 61 v_;rw [hC_] at this;have h9:V_.length≤v_.length:=this;omega)
  refine ru 5 ?_
  refine cll (hcut) ?_
  refine ru 13 ?_
  refine cll (a4q) ?_
  refine ru 1 ?_
  refine hm_ 55 (a7H (xs:=[_,_]) [(11,_),(13,_)] (c3s W_ H_) ⟨rfl,⟨rfl,trivial⟩⟩ ⟨(.sl _ _ _ _ fun i j _ _=>c1l _ _),⟨(.fn _ _ _ _ (fun i hi=>by match i,hi with | 0,_=>exact .pt 11 _ 0 0 1 _ (fun _=>a0p W_) (List.mem_cons_self ..) rfl (Nat.lt_succ_self 0) (Nat.le_refl 1) (fun j hj=>.imm _) | 1,_=>exact .pt 13 _ 0 0 1 _ (fun _=>a0s H_) (List.mem_cons_of_mem _ (List.mem_cons_self ..)) rfl (Nat.lt_succ_self 0) (Nat.le_refl 1) (fun j hj=>.imm _))),trivial⟩⟩ rfl) rfl rfl (a0g rfl (a0g rfl a0e)) rfl rfl (c':=c+5) rfl ?_
  refine ru 7 ?_
  refine st1 (HOp.val (v':=a0h (met.count W_:Int)) (a0H a6C (l:=a5A met) (a:=W_) rfl rfl (fun _ _ _ h=>h.imm_inv)) (a1X _ _)) rfl rfl rfl ?_
  first
  | refine hq_ 59 (b4H rfl rfl rfl omy omy) rfl rfl a0e rfl rfl ?_
  | refine hq_ 59 (b2Z rfl rfl) rfl rfl a0e rfl rfl ?_
  refine b5i (a3x a6C (l:=a5A met) (a:=W_) (v:=.int .i64 ((met.count W_:Int)+1)) rfl rfl (fun _ _ _ h=>h.imm_inv) rfl) rfl rfl (a0C rfl) (c':=c+6) rfl ?_
  refine ru 3 ?_
  rcases b6R W_ H_ met with h0 | h0 | h0 | h0 | h0 | h0 | h0
  ·refine ru 6 ?_
   first
   | refine a4x 65 2 62 false _ (fun hb=>HOp.val (v':=a0h ((W_::met).count W_:Int)) (a0H a6C (l:=a5A (W_::met)) (a:=W_) rfl rfl (fun _ _ _ h=>h.imm_inv)) (a1X _ _)) rfl rfl rfl rfl (a0C rfl) rfl rfl rfl ?_
   | refine a3S 65 2 62 _ _ false _ (fun hb=>HOp.val (v':=a0h ((W_::met).count W_:Int)) (a0H a6C (l:=a5A (W_::met)) (a:=W_) rfl rfl (fun _ _ _ h=>h.imm_inv)) (a1X _ _)) rfl rfl rfl rfl (a0C rfl) rfl rfl rfl ?_
   refine ru 7 ?_
   refine rvl (a0s true) ((congrArg a0s (by rw [a4T];simp [h0]))) ?_
   refine a4x 73 12 72 false true (v:=.imm undef) (fun h=>absurd h (by decide)) rfl rfl rfl rfl a0e rfl rfl rfl ?_
   refine a4x 74 12 72 false true (v:=.imm undef) (fun h=>absurd h (by decide)) rfl rfl rfl rfl a0e rfl rfl rfl ?_
   refine a4x 75 12 72 false true (v:=.imm undef) (fun h=>absurd h (by decide)) rfl rfl rfl rfl a0e rfl rfl rfl ?_
   refine a4x 76 12 72 false true (v:=.imm undef) (fun h=>absurd h (by decide)) rfl rfl rfl rfl a0e rfl rfl rfl ?_
   refine a4x 77 12 72 false true (v:=.imm undef) (fun h=>absurd h (by decide)) rfl rfl rfl rfl a0e rfl rfl rfl ?_
   refine a4x 78 12 72 false true (v:=.imm undef) (fun h=>absurd h (by decide)) rfl rfl rfl rfl a0e rfl rfl rfl ?_
   refine a4x 79 12 72 false true (v:=.imm undef) (fun h=>absurd h (by decide)) rfl rfl rfl rfl a0e rfl rfl rfl ?_
   refine a4x 80 12 72 false true (v:=.imm undef) (fun h=>absurd h (by decide)) rfl rfl rfl rfl a0e rfl rfl rfl ?_
   refine s0 (a9r rfl rfl) ?_
   refine ru 2 ?_
   refine wdc (fun hr2 hc2=>?_) (fun hr2 hc2=>?_)
   ·skip
    have hbad:=a1Q (r:=l.drop (2+i+1)) (met:=met.reverse) (n:=n) hv58 hC_ (.inl h0)
    refine ru 10 ?_
    refine a0f ?_
    refine ru 2 ?_
    refine rt2 ?_
    rw [←ha3,hbad];exact a1y (.agg _ _ _ (by exact q9 (.imm _) (.nil _ _ _ (by decide) _) (.imm _) (.imm _) (.imm _) (.imm _) (.imm _) (.nil _ _ _ (by decide) _) (.imm _))) (.imm _)
   exfalso;simp at hr2
  ·refine ru 6 ?_
   first
   | refine a4x 65 2 62 false _ (fun hb=>HOp.val (v':=a0h ((W_::met).count W_:Int)) (a0H a6C (l:=a5A (W_::met)) (a:=W_) rfl rfl (fun _ _ _ h=>h.imm_inv)) (a1X _ _)) rfl rfl rfl rfl (a0C rfl) rfl rfl rfl ?_
   | refine a3S 65 2 62 _ _ false _ (fun hb=>HOp.val (v':=a0h ((W_::met).count W_:Int)) (a0H a6C (l:=a5A (W_::met)) (a:=W_) rfl rfl (fun _ _ _ h=>h.imm_inv)) (a1X _ _)) rfl rfl rfl rfl (a0C rfl) rfl rfl rfl ?_
   refine ru 7 ?_
   refine rvl (a0s true) ((congrArg a0s (by rw [a4T];simp [h0.2.1,h0.2.2]))) ?_
   refine a4x 73 12 72 false true (v:=.imm undef) (fun h=>absurd h (by decide)) rfl rfl rfl rfl a0e rfl rfl rfl ?_
   refine a4x 74 12 72 false true (v:=.imm undef) (fun h=>absurd h (by decide)) rfl rfl rfl rfl a0e rfl rfl rfl ?_
   refine a4x 75 12 72 false true (v:=.imm undef) (fun h=>absurd h (by decide)) rfl rfl rfl rfl a0e rfl rfl rfl ?_
   refine a4x 76 12 72 false true (v:=.imm undef) (fun h=>absurd h (by decide)) rfl rfl rfl rfl a0e rfl rfl rfl ?_
   refine a4x 77 12 72 false true (v:=.imm undef) (fun h=>absurd h (by decide)) rfl rfl rfl rfl a0e rfl rfl rfl ?_
   refine a4x 78 12 72 false true (v:=.imm undef) (fun h=>absurd h (by decide)) rfl rfl rfl rfl a0e rfl rfl rfl ?_
   refine a4x 79 12 72 false true (v:=.imm undef) (fun h=>absurd h (by decide)) rfl rfl rfl rfl a0e rfl rfl rfl ?_
   refine a4x 80 12 72 false true (v:=.imm undef) (fun h=>absurd h (by decide)) rfl rfl rfl rfl a0e rfl rfl rfl ?_
   refine s0 (a9r rfl rfl) ?_
   refine ru 2 ?_
   refine wdc (fun hr2 hc2=>?_) (fun hr2 hc2=>?_)
   ·skip
    have hbad:=a1Q (r:=l.drop (2+i+1)) (met:=met.reverse) (n:=n) hv58 hC_ (.inr (.inl ⟨List.mem_reverse.2 h0.2.1,h0.2.2⟩))
    refine ru 10 ?_
    refine a0f ?_
    refine ru 2 ?_
    refine rt2 ?_
    rw [←ha3,hbad];exact a1y (.agg _ _ _ (by exact q9 (.imm _) (.nil _ _ _ (by decide) _) (.imm _) (.imm _) (.imm _) (.imm _) (.imm _) (.nil _ _ _ (by decide) _) (.imm _))) (.imm _)
   exfalso;simp at hr2
  ·refine ru 6 ?_
   first
   | refine a4x 65 2 62 false _ (fun hb=>HOp.val (v':=a0h ((W_::met).count W_:Int)) (a0H a6C (l:=a5A (W_::met)) (a:=W_) rfl rfl (fun _ _ _ h=>h.imm_inv)) (a1X _ _)) rfl rfl rfl rfl (a0C rfl) rfl rfl rfl ?_
   | refine a3S 65 2 62 _ _ false _ (fun hb=>HOp.val (v':=a0h ((W_::met).count W_:Int)) (a0H a6C (l:=a5A (W_::met)) (a:=W_) rfl rfl (fun _ _ _ h=>h.imm_inv)) (a1X _ _)) rfl rfl rfl rfl (a0C rfl) rfl rfl rfl ?_
   refine ru 7 ?_
   refine rvl (a0s false) ((congrArg a0s (by rw [a4T];have h9:=h0.1;have h8:=h0.2;simp at h9;rw [h8];simpa using h9))) ?_
   refine a3v 73 72 false (a0i (xs:=[]) (a4q) trivial trivial) rfl rfl rfl rfl a0e rfl rfl ?_
   refine a3v 74 72 false (HOp.val (v':=a0h 0) (a1Y rfl) ((congrArg a0h h0.2))) rfl rfl rfl rfl a0e rfl rfl ?_
   first
   | refine a3v 75 72 false (a4u el_112.h rfl rfl (by first | exact Nat.le_of_ble_eq_true rfl | (simp at hb;first | omega | (dsimp only;omega) | (simp <;> omega)) | omega | (dsimp only;omega)) (by first | exact Nat.le_of_ble_eq_true rfl | (simp at hb;first | omega | (dsimp only;omega) | (simp <;> omega)) | omega | (dsimp only;omega)) (by first | exact Nat.le_of_ble_eq_true rfl | (simp at hb;first | omega | (dsimp only;omega) | (simp <;> omega)) | omega | (dsimp only;omega))) rfl rfl rfl rfl a0e rfl rfl ?_
   | refine a3v 75 72 false (a3h el_112.h rfl rfl (by first | exact Nat.le_of_ble_eq_true rfl | (simp at hb;first | omega | (dsimp only;omega) | (simp <;> omega)) | omega | (dsimp only;omega)) (by first | exact Nat.le_of_ble_eq_true rfl | (simp at hb;first | omega | (dsimp only;omega) | (simp <;> omega)) | omega | (dsimp only;omega))) rfl rfl rfl rfl (a0C rfl) rfl rfl ?_
   first
   | refine a3v 76 72 false (a4Y fd_115_2.h rfl) rfl rfl rfl rfl a0e rfl rfl ?_
   | refine a3v 76 72 false (a2n fd_115_2.h rfl (by first | exact Nat.le_of_ble_eq_true rfl | (simp at hb;first | omega | (dsimp only;omega) | (simp <;> omega)) | omega | (dsimp only;omega))) rfl rfl rfl rfl a0e rfl rfl ?_
   first
   | refine a3v 77 72 false (HOp.val (v':=.fn (.func 85) 0 (fun _=>default)) (a0A ty_113.h rfl (by first | exact Nat.le_of_ble_eq_true rfl | (simp at hb;first | omega | (dsimp only;omega) | (simp <;> omega)) | omega | (dsimp only;omega)) (by first | exact Nat.le_of_ble_eq_true rfl | (simp at hb;first | omega | (dsimp only;omega) | (simp <;> omega)) | omega | (dsimp only;omega)) (fun h=>(by first | rfl | cases h))) (rfl)) rfl rfl rfl rfl (a0C rfl) rfl rfl ?_
   | refine a3v 77 72 false (HOp.val (v':=.fn (.func 85) 0 (fun _=>default)) (a0o ty_113.h rfl (by first | exact Nat.le_of_ble_eq_true rfl | (simp at hb;first | omega | (dsimp only;omega) | (simp <;> omega)) | omega | (dsimp only;omega)) (fun h=>(by first | rfl | cases h))) (rfl)) rfl rfl rfl rfl a0e rfl rfl ?_
   refine a3v 78 72 false (a1Y rfl) rfl rfl rfl rfl a0e rfl rfl ?_
   refine a5c 12 72 false rfl rfl ?_
   refine a3H 79 (xs:=[_,_]) (cs:=[]) (pre:=[(4,_),(8001,_)]) (c1K _ 1 g n V_ hVl ha2) rfl rfl (fun i hi=>by first | rfl | (rcases i with i <;> first | rfl | (exact absurd hi om) | (simp at hi))) ⟨rfl,⟨rfl,trivial⟩⟩ (a0g rfl (a0g rfl a0e)) rfl rfl (fun q c2 hx2=>?_)
   (try dsimp only)
   refine a3v 80 72 false (a6R rfl) rfl rfl rfl rfl a0e rfl rfl ?_
   refine s0 (a4p rfl rfl) ?_
   refine ru 2 ?_
   refine wdc (fun hr2 hc2=>?_) (fun hr2 hc2=>?_)
   ·skip
    have hR:a1E (a2M W_ H_) n V_=((a1E 0 n V_).1,(a1E 0 n V_).2):=(by rw [h0.2];first | done | rfl);have hbad:=a1Q (r:=l.drop (2+i+1)) (met:=met.reverse) (n:=n) hv58 hC_ (.inr (.inr (by rw [hR];simpa using hr2)))
    refine ru 10 ?_
    refine a0f ?_
    refine ru 2 ?_
    refine rt2 ?_
    rw [←ha3,hbad];exact a1y (.agg _ _ _ (by exact q9 (.imm _) (.nil _ _ _ (by decide) _) (.imm _) (.imm _) (.imm _) (.imm _) (.imm _) (.nil _ _ _ (by decide) _) (.imm _))) (.imm _)
   have hR:a1E (a2M W_ H_) n V_=((a1E 0 n V_).1,(a1E 0 n V_).2):=(by rw [h0.2];first | done | rfl);have hon:=a2g (r:=l.drop (2+i+1)) (met:=met.reverse) (n:=n) hv58 hC_ (by rw [hR];rintro (h | h | h);(rw [h0.2] at h;omega);exact h0.1 ⟨List.mem_reverse.1 h.1,h.2⟩;(have h9:=hr2;have h8:(a1E 0 n V_).2=false:=h;rw [h8] at h9;cases h9));rw [ha3,hR] at hon
   refine ru 7 ?_
   exact hL1 ((i+1,(a1E 0 n V_).1,W_::met,q,gm)) _ _ (by (try dsimp only);exact ⟨by omega,by unfold a1E;rw [if_pos rfl];split;(simp;omega);exact ha2,by simp [ha4],by rw [List.reverse_cons];exact hon.symm⟩) (by (try dsimp only);omega) (a0c rfl (Nat.le_refl _) (tsr rfl (tsr rfl (tsr rfl (tsr rfl (tsr rfl (tsr rfl (a0K.cons rfl (a0Y om) a0K.nil))))))) hsa)
  ·refine ru 6 ?_
   first
   | refine a4x 65 2 62 false _ (fun hb=>HOp.val (v':=a0h ((W_::met).count W_:Int)) (a0H a6C (l:=a5A (W_::met)) (a:=W_) rfl rfl (fun _ _ _ h=>h.imm_inv)) (a1X _ _)) rfl rfl rfl rfl (a0C rfl) rfl rfl rfl ?_
   | refine a3S 65 2 62 _ _ false _ (fun hb=>HOp.val (v':=a0h ((W_::met).count W_:Int)) (a0H a6C (l:=a5A (W_::met)) (a:=W_) rfl rfl (fun _ _ _ h=>h.imm_inv)) (a1X _ _)) rfl rfl rfl rfl (a0C rfl) rfl rfl rfl ?_
   refine ru 7 ?_
   refine rvl (a0s false) ((congrArg a0s (by rw [a4T];have h9:=h0.1;have h8:=h0.2;simp at h9;rw [h8];simpa using h9))) ?_
   refine a3v 73 72 false (a0i (xs:=[]) (a4q) trivial trivial) rfl rfl rfl rfl a0e rfl rfl ?_
   refine a3v 74 72 false (HOp.val (v':=a0h 1) (a1Y rfl) ((congrArg a0h h0.2))) rfl rfl rfl rfl a0e rfl rfl ?_
   first
   | refine a3v 75 72 false (a4u el_112.h rfl rfl (by first | exact Nat.le_of_ble_eq_true rfl | (simp at hb;first | omega | (dsimp only;omega) | (simp <;> omega)) | omega | (dsimp only;omega)) (by first | exact Nat.le_of_ble_eq_true rfl | (simp at hb;first | omega | (dsimp only;omega) | (simp <;> omega)) | omega | (dsimp only;omega)) (by first | exact Nat.le_of_ble_eq_true rfl | (simp at hb;first | omega | (dsimp only;omega) | (simp <;> omega)) | omega | (dsimp only;omega))) rfl rfl rfl rfl a0e rfl rfl ?_
   | refine a3v 75 72 false (a3h el_112.h rfl rfl (by first | exact Nat.le_of_ble_eq_true rfl | (simp at hb;first | omega | (dsimp only;omega) | (simp <;> omega)) | omega | (dsimp only;omega)) (by first | exact Nat.le_of_ble_eq_true rfl | (simp at hb;first | omega | (dsimp only;omega) | (simp <;> omega)) | omega | (dsimp only;omega))) rfl rfl rfl rfl (a0C rfl) rfl rfl ?_
   first
   | refine a3v 76 72 false (a4Y fd_115_2.h rfl) rfl rfl rfl rfl a0e rfl rfl ?_
   | refine a3v 76 72 false (a2n fd_115_2.h rfl (by first | exact Nat.le_of_ble_eq_true rfl | (simp at hb;first | omega | (dsimp only;omega) | (simp <;> omega)) | omega | (dsimp only;omega))) rfl rfl rfl rfl a0e rfl rfl ?_
   first
   | refine a3v 77 72 false (HOp.val (v':=.fn (.func 86) 0 (fun _=>default)) (a0A ty_113.h rfl (by first | exact Nat.le_of_ble_eq_true rfl | (simp at hb;first | omega | (dsimp only;omega) | (simp <;> omega)) | omega | (dsimp only;omega)) (by first | exact Nat.le_of_ble_eq_true rfl | (simp at hb;first | omega | (dsimp only;omega) | (simp <;> omega)) | omega | (dsimp only;omega)) (fun h=>(by first | rfl | cases h))) (rfl)) rfl rfl rfl rfl (a0C rfl) rfl rfl ?_
   | refine a3v 77 72 false (HOp.val (v':=.fn (.func 86) 0 (fun _=>default)) (a0o ty_113.h rfl (by first | exact Nat.le_of_ble_eq_true rfl | (simp at hb;first | omega | (dsimp only;omega) | (simp <;> omega)) | omega | (dsimp only;omega)) (fun h=>(by first | rfl | cases h))) (rfl)) rfl rfl rfl rfl a0e rfl rfl ?_
   refine a3v 78 72 false (a1Y rfl) rfl rfl rfl rfl a0e rfl rfl ?_
   refine a5c 12 72 false rfl rfl ?_
   refine a3H 79 (xs:=[_,_]) (cs:=[]) (pre:=[(4,_),(8001,_)]) (b9O _ 1 g n V_) rfl rfl (fun i hi=>by first | rfl | (rcases i with i <;> first | rfl | (exact absurd hi om) | (simp at hi))) ⟨rfl,⟨rfl,trivial⟩⟩ (a0g rfl (a0g rfl a0e)) rfl rfl (fun x3 c3 hx3=>?_)
   (try dsimp only)
   refine a3v 80 72 false (a6R rfl) rfl rfl rfl rfl a0e rfl rfl ?_
   refine s0 (a4p rfl rfl) ?_
   refine ru 2 ?_
   refine wdc (fun hr2 hc2=>?_) (fun hr2 hc2=>?_)
   ·skip
    exfalso;simp at hr2
   have hR:a1E (a2M W_ H_) n V_=({ n with inl:=true },true):=(by rw [h0.2];first | done | rfl);have hon:=a2g (r:=l.drop (2+i+1)) (met:=met.reverse) (n:=n) hv58 hC_ (by rw [hR];rintro (h | h | h);(rw [h0.2] at h;omega);exact h0.1 ⟨List.mem_reverse.1 h.1,h.2⟩;cases h);rw [ha3,hR] at hon
   refine ru 7 ?_
   exact hL1 ((i+1,{ n with inl:=true },W_::met,g,gm)) _ _ (by (try dsimp only);exact ⟨by omega,ha2,by simp [ha4],by rw [List.reverse_cons];exact hon.symm⟩) (by (try dsimp only);omega) (a0c rfl (Nat.le_refl _) (tsr rfl (tsr rfl (tsr rfl (tsr rfl (tsr rfl (tsr rfl (a0K.cons rfl (a0Y om) a0K.nil))))))) hsa)
  ·refine ru 6 ?_
   first
   | refine a4x 65 2 62 false _ (fun hb=>HOp.val (v':=a0h ((W_::met).count W_:Int)) (a0H a6C (l:=a5A (W_::met)) (a:=W_) rfl rfl (fun _ _ _ h=>h.imm_inv)) (a1X _ _)) rfl rfl rfl rfl (a0C rfl) rfl rfl rfl ?_
   | refine a3S 65 2 62 _ _ false _ (fun hb=>HOp.val (v':=a0h ((W_::met).count W_:Int)) (a0H a6C (l:=a5A (W_::met)) (a:=W_) rfl rfl (fun _ _ _ h=>h.imm_inv)) (a1X _ _)) rfl rfl rfl rfl (a0C rfl) rfl rfl rfl ?_
   refine ru 7 ?_
   refine rvl (a0s false) ((congrArg a0s (by rw [a4T];have h9:=h0.1;have h8:=h0.2;simp at h9;rw [h8];simpa using h9))) ?_
   refine a3v 73 72 false (a0i (xs:=[]) (a4q) trivial trivial) rfl rfl rfl rfl a0e rfl rfl ?_
   refine a3v 74 72 false (HOp.val (v':=a0h 2) (a1Y rfl) ((congrArg a0h h0.2))) rfl rfl rfl rfl a0e rfl rfl ?_
   first
   | refine a3v 75 72 false (a4u el_112.h rfl rfl (by first | exact Nat.le_of_ble_eq_true rfl | (simp at hb;first | omega | (dsimp only;omega) | (simp <;> omega)) | omega | (dsimp only;omega)) (by first | exact Nat.le_of_ble_eq_true rfl | (simp at hb;first | omega | (dsimp only;omega) | (simp <;> omega)) | omega | (dsimp only;omega)) (by first | exact Nat.le_of_ble_eq_true rfl | (simp at hb;first | omega | (dsimp only;omega) | (simp <;> omega)) | omega | (dsimp only;omega))) rfl rfl rfl rfl a0e rfl rfl ?_
   | refine a3v 75 72 false (a3h el_112.h rfl rfl (by first | exact Nat.le_of_ble_eq_true rfl | (simp at hb;first | omega | (dsimp only;omega) | (simp <;> omega)) | omega | (dsimp only;omega)) (by first | exact Nat.le_of_ble_eq_true rfl | (simp at hb;first | omega | (dsimp only;omega) | (simp <;> omega)) | omega | (dsimp only;omega))) rfl rfl rfl rfl (a0C rfl) rfl rfl ?_
   first
   | refine a3v 76 72 false (a4Y fd_115_2.h rfl) rfl rfl rfl rfl a0e rfl rfl ?_
   | refine a3v 76 72 false (a2n fd_115_2.h rfl (by first | exact Nat.le_of_ble_eq_true rfl | (simp at hb;first | omega | (dsimp only;omega) | (simp <;> omega)) | omega | (dsimp only;omega))) rfl rfl rfl rfl a0e rfl rfl ?_
   first
   | refine a3v 77 72 false (HOp.val (v':=.fn (.func 87) 0 (fun _=>default)) (a0A ty_113.h rfl (by first | exact Nat.le_of_ble_eq_true rfl | (simp at hb;first | omega | (dsimp only;omega) | (simp <;> omega)) | omega | (dsimp only;omega)) (by first | exact Nat.le_of_ble_eq_true rfl | (simp at hb;first | omega | (dsimp only;omega) | (simp <;> omega)) | omega | (dsimp only;omega)) (fun h=>(by first | rfl | cases h))) (rfl)) rfl rfl rfl rfl (a0C rfl) rfl rfl ?_
   | refine a3v 77 72 false (HOp.val (v':=.fn (.func 87) 0 (fun _=>default)) (a0o ty_113.h rfl (by first | exact Nat.le_of_ble_eq_true rfl | (simp at hb;first | omega | (dsimp only;omega) | (simp <;> omega)) | omega | (dsimp only;omega)) (fun h=>(by first | rfl | cases h))) (rfl)) rfl rfl rfl rfl a0e rfl rfl ?_
   refine a3v 78 72 false (a1Y rfl) rfl rfl rfl rfl a0e rfl rfl ?_
   refine a5c 12 72 false rfl rfl ?_
   refine a3H 79 (xs:=[_,_]) (cs:=[]) (pre:=[(4,_),(8001,_)]) (b8J _ 1 g n V_) rfl rfl (fun i hi=>by first | rfl | (rcases i with i <;> first | rfl | (exact absurd hi om) | (simp at hi))) ⟨rfl,⟨rfl,trivial⟩⟩ (a0g rfl (a0g rfl a0e)) rfl rfl (fun x4 c4 hx4=>?_)
   (try dsimp only)
   refine a3v 80 72 false (a6R rfl) rfl rfl rfl rfl a0e rfl rfl ?_
   refine s0 (a4p rfl rfl) ?_
   refine ru 2 ?_
   refine wdc (fun hr2 hc2=>?_) (fun hr2 hc2=>?_)
   ·skip
    exfalso;simp at hr2
   have hR:a1E (a2M W_ H_) n V_=({ n with pick:=true },true):=(by rw [h0.2];first | done | rfl);have hon:=a2g (r:=l.drop (2+i+1)) (met:=met.reverse) (n:=n) hv58 hC_ (by rw [hR];rintro (h | h | h);(rw [h0.2] at h;omega);exact h0.1 ⟨List.mem_reverse.1 h.1,h.2⟩;cases h);rw [ha3,hR] at hon
   refine ru 7 ?_
   exact hL1 ((i+1,{ n with pick:=true },W_::met,g,gm)) _ _ (by (try dsimp only);exact ⟨by omega,ha2,by simp [ha4],by rw [List.reverse_cons];exact hon.symm⟩) (by (try dsimp only);omega) (a0c rfl (Nat.le_refl _) (tsr rfl (tsr rfl (tsr rfl (tsr rfl (tsr rfl (tsr rfl (a0K.cons rfl (a0Y om) a0K.nil))))))) hsa)
  ·refine ru 6 ?_
   first
   | refine a4x 65 2 62 false _ (fun hb=>HOp.val (v':=a0h ((W_::met).count W_:Int)) (a0H a6C (l:=a5A (W_::met)) (a:=W_) rfl rfl (fun _ _ _ h=>h.imm_inv)) (a1X _ _)) rfl rfl rfl rfl (a0C rfl) rfl rfl rfl ?_
   | refine a3S 65 2 62 _ _ false _ (fun hb=>HOp.val (v':=a0h ((W_::met).count W_:Int)) (a0H a6C (l:=a5A (W_::met)) (a:=W_) rfl rfl (fun _ _ _ h=>h.imm_inv)) (a1X _ _)) rfl rfl rfl rfl (a0C rfl) rfl rfl rfl ?_
   refine ru 7 ?_
   refine rvl (a0s false) ((congrArg a0s (by rw [a4T];have h9:=h0.1;have h8:=h0.2;simp at h9;rw [h8];simpa using h9))) ?_
   refine a3v 73 72 false (a0i (xs:=[]) (a4q) trivial trivial) rfl rfl rfl rfl a0e rfl rfl ?_
   refine a3v 74 72 false (HOp.val (v':=a0h 3) (a1Y rfl) ((congrArg a0h h0.2))) rfl rfl rfl rfl a0e rfl rfl ?_
   first
   | refine a3v 75 72 false (a4u el_112.h rfl rfl (by first | exact Nat.le_of_ble_eq_true rfl | (simp at hb;first | omega | (dsimp only;omega) | (simp <;> omega)) | omega | (dsimp only;omega)) (by first | exact Nat.le_of_ble_eq_true rfl | (simp at hb;first | omega | (dsimp only;omega) | (simp <;> omega)) | omega | (dsimp only;omega)) (by first | exact Nat.le_of_ble_eq_true rfl | (simp at hb;first | omega | (dsimp only;omega) | (simp <;> omega)) | omega | (dsimp only;omega))) rfl rfl rfl rfl a0e rfl rfl ?_
   | refine a3v 75 72 false (a3h el_112.h rfl rfl (by first | exact Nat.le_of_ble_eq_true rfl | (simp at hb;first | omega | (dsimp only;omega) | (simp <;> omega)) | omega | (dsimp only;omega)) (by first | exact Nat.le_of_ble_eq_true rfl | (simp at hb;first | omega | (dsimp only;omega) | (simp <;> omega)) | omega | (dsimp only;omega))) rfl rfl rfl rfl (a0C rfl) rfl rfl ?_
   first
   | refine a3v 76 72 false (a4Y fd_115_2.h rfl) rfl rfl rfl rfl a0e rfl rfl ?_
   | refine a3v 76 72 false (a2n fd_115_2.h rfl (by first | exact Nat.le_of_ble_eq_true rfl | (simp at hb;first | omega | (dsimp only;omega) | (simp <;> omega)) | omega | (dsimp only;omega))) rfl rfl rfl rfl a0e rfl rfl ?_
   first
   | refine a3v 77 72 false (HOp.val (v':=.fn (.func 88) 0 (fun _=>default)) (a0A ty_113.h rfl (by first | exact Nat.le_of_ble_eq_true rfl | (simp at hb;first | omega | (dsimp only;omega) | (simp <;> omega)) | omega | (dsimp only;omega)) (by first | exact Nat.le_of_ble_eq_true rfl | (simp at hb;first | omega | (dsimp only;omega) | (simp <;> omega)) | omega | (dsimp only;omega)) (fun h=>(by first | rfl | cases h))) (rfl)) rfl rfl rfl rfl (a0C rfl) rfl rfl ?_
   | refine a3v 77 72 false (HOp.val (v':=.fn (.func 88) 0 (fun _=>default)) (a0o ty_113.h rfl (by first | exact Nat.le_of_ble_eq_true rfl | (simp at hb;first | omega | (dsimp only;omega) | (simp <;> omega)) | omega | (dsimp only;omega)) (fun h=>(by first | rfl | cases h))) (rfl)) rfl rfl rfl rfl a0e rfl rfl ?_
   refine a3v 78 72 false (a1Y rfl) rfl rfl rfl rfl a0e rfl rfl ?_
   refine a5c 12 72 false rfl rfl ?_
   refine a3H 79 (xs:=[_,_]) (cs:=[]) (pre:=[(4,_),(8001,_)]) (c4U _ 1 g n V_ hVl) rfl rfl (fun i hi=>by first | rfl | (rcases i with i <;> first | rfl | (exact absurd hi om) | (simp at hi))) ⟨rfl,⟨rfl,trivial⟩⟩ (a0g rfl (a0g rfl a0e)) rfl rfl (fun x5 c5 hx5=>?_)
   (try dsimp only)
   refine a3v 80 72 false (a6R rfl) rfl rfl rfl rfl a0e rfl rfl ?_
   refine s0 (a4p rfl rfl) ?_
   refine ru 2 ?_
   refine wdc (fun hr2 hc2=>?_) (fun hr2 hc2=>?_)
   ·skip
    have hR:a1E (a2M W_ H_) n V_=({ n with attr:=(a3f V_).getD 0 },(a1C V_).isSome):=(by rw [h0.2];first | done | rfl);have hbad:=a1Q (r:=l.drop (2+i+1)) (met:=met.reverse) (n:=n) hv58 hC_ (.inr (.inr (by rw [hR];simpa using hr2)))
    refine ru 10 ?_
    refine a0f ?_
    refine ru 2 ?_
    refine rt2 ?_
    rw [←ha3,hbad];exact a1y (.agg _ _ _ (by exact q9 (.imm _) (.nil _ _ _ (by decide) _) (.imm _) (.imm _) (.imm _) (.imm _) (.imm _) (.nil _ _ _ (by decide) _) (.imm _))) (.imm _)
   have hR:a1E (a2M W_ H_) n V_=({ n with attr:=(a3f V_).getD 0 },(a1C V_).isSome):=(by rw [h0.2];first | done | rfl);have hon:=a2g (r:=l.drop (2+i+1)) (met:=met.reverse) (n:=n) hv58 hC_ (by rw [hR];rintro (h | h | h);(rw [h0.2] at h;omega);exact h0.1 ⟨List.mem_reverse.1 h.1,h.2⟩;(have h9:=hr2;have h8:(a1C V_).isSome=false:=h;rw [h8] at h9;cases h9));rw [ha3,hR] at hon
   refine ru 7 ?_
   exact hL1 ((i+1,{ n with attr:=(a3f V_).getD 0 },W_::met,g,gm)) _ _ (by (try dsimp only);exact ⟨by omega,ha2,by simp [ha4],by rw [List.reverse_cons];exact hon.symm⟩) (by (try dsimp only);omega) (a0c rfl (Nat.le_refl _) (tsr rfl (tsr rfl (tsr rfl (tsr rfl (tsr rfl (tsr rfl (a0K.cons rfl (a0Y om) a0K.nil))))))) hsa)
  ·refine ru 6 ?_
   first
   | refine a4x 65 2 62 false _ (fun hb=>HOp.val (v':=a0h ((W_::met).count W_:Int)) (a0H a6C (l:=a5A (W_::met)) (a:=W_) rfl rfl (fun _ _ _ h=>h.imm_inv)) (a1X _ _)) rfl rfl rfl rfl (a0C rfl) rfl rfl rfl ?_
   | refine a3S 65 2 62 _ _ false _ (fun hb=>HOp.val (v':=a0h ((W_::met).count W_:Int)) (a0H a6C (l:=a5A (W_::met)) (a:=W_) rfl rfl (fun _ _ _ h=>h.imm_inv)) (a1X _ _)) rfl rfl rfl rfl (a0C rfl) rfl rfl rfl ?_
   refine ru 7 ?_
   refine rvl (a0s false) ((congrArg a0s (by rw [a4T];have h9:=h0.1;have h8:=h0.2;simp at h9;rw [h8];simpa using h9))) ?_
   refine a3v 73 72 false (a0i (xs:=[]) (a4q) trivial trivial) rfl rfl rfl rfl a0e rfl rfl ?_
   refine a3v 74 72 false (HOp.val (v':=a0h 4) (a1Y rfl) ((congrArg a0h h0.2))) rfl rfl rfl rfl a0e rfl rfl ?_
   first
   | refine a3v 75 72 false (a4u el_112.h rfl rfl (by first | exact Nat.le_of_ble_eq_true rfl | (simp at hb;first | omega | (dsimp only;omega) | (simp <;> omega)) | omega | (dsimp only;omega)) (by first | exact Nat.le_of_ble_eq_true rfl | (simp at hb;first | omega | (dsimp only;omega) | (simp <;> omega)) | omega | (dsimp only;omega)) (by first | exact Nat.le_of_ble_eq_true rfl | (simp at hb;first | omega | (dsimp only;omega) | (simp <;> omega)) | omega | (dsimp only;omega))) rfl rfl rfl rfl a0e rfl rfl ?_
   | refine a3v 75 72 false (a3h el_112.h rfl rfl (by first | exact Nat.le_of_ble_eq_true rfl | (simp at hb;first | omega | (dsimp only;omega) | (simp <;> omega)) | omega | (dsimp only;omega)) (by first | exact Nat.le_of_ble_eq_true rfl | (simp at hb;first | omega | (dsimp only;omega) | (simp <;> omega)) | omega | (dsimp only;omega))) rfl rfl rfl rfl (a0C rfl) rfl rfl ?_
   first
   | refine a3v 76 72 false (a4Y fd_115_2.h rfl) rfl rfl rfl rfl a0e rfl rfl ?_
   | refine a3v 76 72 false (a2n fd_115_2.h rfl (by first | exact Nat.le_of_ble_eq_true rfl | (simp at hb;first | omega | (dsimp only;omega) | (simp <;> omega)) | omega | (dsimp only;omega))) rfl rfl rfl rfl a0e rfl rfl ?_
   first
   | refine a3v 77 72 false (HOp.val (v':=.fn (.func 89) 0 (fun _=>default)) (a0A ty_113.h rfl (by first | exact Nat.le_of_ble_eq_true rfl | (simp at hb;first | omega | (dsimp only;omega) | (simp <;> omega)) | omega | (dsimp only;omega)) (by first | exact Nat.le_of_ble_eq_true rfl | (simp at hb;first | omega | (dsimp only;omega) | (simp <;> omega)) | omega | (dsimp only;omega)) (fun h=>(by first | rfl | cases h))) (rfl)) rfl rfl rfl rfl (a0C rfl) rfl rfl ?_
   | refine a3v 77 72 false (HOp.val (v':=.fn (.func 89) 0 (fun _=>default)) (a0o ty_113.h rfl (by first | exact Nat.le_of_ble_eq_true rfl | (simp at hb;first | omega | (dsimp only;omega) | (simp <;> omega)) | omega | (dsimp only;omega)) (fun h=>(by first | rfl | cases h))) (rfl)) rfl rfl rfl rfl a0e rfl rfl ?_
   refine a3v 78 72 false (a1Y rfl) rfl rfl rfl rfl a0e rfl rfl ?_
   refine a5c 12 72 false rfl rfl ?_
   refine a3H 79 (xs:=[_,_]) (cs:=[]) (pre:=[(4,_),(8001,_)]) (c2F _ 1 g n V_ hVl) rfl rfl (fun i hi=>by first | rfl | (rcases i with i <;> first | rfl | (exact absurd hi om) | (simp at hi))) ⟨rfl,⟨rfl,trivial⟩⟩ (a0g rfl (a0g rfl a0e)) rfl rfl (fun x6 c6 hx6=>?_)
   (try dsimp only)
   refine a3v 80 72 false (a6R rfl) rfl rfl rfl rfl a0e rfl rfl ?_
   refine s0 (a4p rfl rfl) ?_
   refine ru 2 ?_
   refine wdc (fun hr2 hc2=>?_) (fun hr2 hc2=>?_)
   ·skip
    have hR:a1E (a2M W_ H_) n V_=({ n with all:=((a0Z V_).getD (false,[])).1,marks:=((a0Z V_).getD (false,[])).2 },(a0Z V_).isSome):=(by rw [h0.2];first | done | rfl);have hbad:=a1Q (r:=l.drop (2+i+1)) (met:=met.reverse) (n:=n) hv58 hC_ (.inr (.inr (by rw [hR];simpa using hr2)))
    refine ru 10 ?_
    refine a0f ?_
    refine ru 2 ?_
    refine rt2 ?_
    rw [←ha3,hbad];exact a1y (.agg _ _ _ (by exact q9 (.imm _) (.nil _ _ _ (by decide) _) (.imm _) (.imm _) (.imm _) (.imm _) (.imm _) (.nil _ _ _ (by decide) _) (.imm _))) (.imm _)
   have hR:a1E (a2M W_ H_) n V_=({ n with all:=((a0Z V_).getD (false,[])).1,marks:=((a0Z V_).getD (false,[])).2 },(a0Z V_).isSome):=(by rw [h0.2];first | done | rfl);have hon:=a2g (r:=l.drop (2+i+1)) (met:=met.reverse) (n:=n) hv58 hC_ (by rw [hR];rintro (h | h | h);(rw [h0.2] at h;omega);exact h0.1 ⟨List.mem_reverse.1 h.1,h.2⟩;(have h9:=hr2;have h8:(a0Z V_).isSome=false:=h;rw [h8] at h9;cases h9));rw [ha3,hR] at hon
   refine ru 7 ?_
   exact hL1 ((i+1,{ n with all:=((a0Z V_).getD (false,[])).1,marks:=((a0Z V_).getD (false,[])).2 },W_::met,g,gm)) _ _ (by (try dsimp only);exact ⟨by omega,ha2,by simp [ha4],by rw [List.reverse_cons];exact hon.symm⟩) (by (try dsimp only);omega) (a0c rfl (Nat.le_refl _) (tsr rfl (tsr rfl (tsr rfl (tsr rfl (tsr rfl (tsr rfl (a0K.cons rfl (a0Y om) a0K.nil))))))) hsa)
 rw [List.drop_of_length_le (show l.length≤2+i by omega)] at ha3
 refine ru 2 ?_
 refine a0d ?_
 refine ru 10 ?_
 refine a4X rfl (a0Q rfl rfl ty_46.h rqc rfl rfl) (a0r rfl) [(8001,_)] rfl (a0g rfl a0e) ?_
 rw [←ha3];exact a1y (.agg _ _ _ (by exact q9 (.imm _) (a1x (l:=n.groups) (enc:=fun x _=>a0p x) (d:=[]) (List.mem_cons_self ..) rfl rfl (Nat.le_refl _) (fun i j hi hj=>.imm _)) (.imm _) (.imm _) (.imm _) (.imm _) (.imm _) (show Fz _ (a0M n.marks) (a0M n.marks) from .sl _ _ _ _ fun _ _ _ _=>.imm _) (.imm _))) (.imm _)
@[reducible] def a5E (m:Mk):Nat→HV:=fun j=>match j with
 | 0=>a0p m.name
 | 1=>a0h m.val
 | 2=>a0s m.all
 | _=>a0M m.bars
@[reducible] def mkV (m:Mk):HV:=.agg 4 (a5E m)
@[reducible] def c6d (x:Mk×Bool):HV:=t2 (mkV x.1) (a0s x.2)
@[reducible] def zMk (s:Bs):Nat→HV:=fun j=>match j with
 | 0=>a0p s
 | 1=>a0h 0
 | 2=>a0s false
 | _=>.imm (.slice none 0 0)
@[reducible] def c6n (g:Nat) (m:Mk):HObj:=⟨g,1,4,58,0,fun _=>a5E m⟩
theorem qm4 {p:Nat→Prop} (h0:p 0) (h1:p 1) (h2:p 2) (h3:p 3):∀ j,j < 4→p j:=fun j hj=>by
 match j,hj with
 | 0,_=>exact h0
 | 1,_=>exact h1
 | 2,_=>exact h2
 | 3,_=>exact h3
theorem b0J {g ty fl:Nat} {f f':Nat→Nat→HV} (h:∀ j,j < 4→Sb (f 0 j) (f' 0 j)) (hfn:fl≤1:=by exact Nat.zero_le _):a5M ⟨g,1,4,ty,fl,f⟩ ⟨g,1,4,ty,fl,f'⟩:=.of (hfn:=hfn) fun i j hi hj=>by
 obtain rfl:i=0:=by omega
 exact h j hj
theorem a4r {w:Bs} {r met:List Bs} {m:Mk} {W V:Bs} {H:Bool} (hc:a4k 61 w=(W,V,H)) (h:H=false∨(a3p W m V).2=false∨W∈met):b0f (w::r) met m=(Mk.zero,false):=by
 show (if _ then _ else _)=_
 rw [hc,if_pos h]
theorem a7J {w:Bs} {r met:List Bs} {m:Mk} {W V:Bs} {H:Bool} (hc:a4k 61 w=(W,V,H)) (h:¬ (H=false∨(a3p W m V).2=false∨W∈met)):b0f (w::r) met m=b0f r (met++[W]) (a3p W m V).1:=by
 show (if _ then _ else _)=_
 rw [hc,if_neg h]
theorem c4k (l:List Bs) (hl:2≤l.length∧l.length≤100000) (hw:∀ w∈l,w.length≤100000):a0q Tryz.prog 41 [a0M l] (c6d (a5i l)):=by
 refine a0m Tryz.func41 rfl kr _ _ _ rfl 68 rfl rfl (fun w F=>?_)
 refine ru 11 ?_
 refine rvl (a0p (l.getD 1 [])) (rfl) ?_
 refine ru 7 ?_
 refine a0t 16 (a8f (id:=16)) rfl rfl a0e rfl rfl (c':=4) rfl ?_
 refine ru 13 ?_
 refine a0n (α:=Nat×Mk×List Bs×Nat) (fun x c=>⟨68,[(0,.v (a0M l)),(2,.v (.pt 2 0 0 0)),(4,.v (.pt 4 1 0 0)),(5,.v (.mp 16 x.2.2.2)),(18,.v (c4D l)),(19,.v (a0h ((l.length - 2:Nat):Int))),(20,.v (a0h (x.1:Int)))],[(2,⟨0,1,4,58,0,fun _=>zMk []⟩),(4,c6n 1 x.2.1),(16,b5a x.2.2.2 (encL (fun x=>Value.string ⟨x.toArray⟩) (a5A x.2.2.1)))],c⟩) (fun x=>x.1≤l.length - 2∧x.2.2.1.length=x.1∧b0f (l.drop (2+x.1)) x.2.2.1.reverse x.2.1=a5i l) (fun x=>l.length - x.1) ((0,⟨l.getD 1 [],0,false,[]⟩,[],3)) (by exact ⟨Nat.zero_le _,rfl,rfl⟩) (a0c rfl (Nat.le_refl _) (tsr rfl (tsr rfl (tsr rfl (tsr rfl (a0K.cons rfl (by rw [show ((l.length:Int) - 2).toNat=l.length - 2 by omega];exact .refl _) (a0K.cons rfl (a0Y om) tsa)))))) (a0k.cons rfl (b0J (by exact qm4 (.refl _) (.refl _) (.refl _) (.refl _))) (a0k.cons rfl (b0J (by exact qm4 (.refl _) (.refl _) (.refl _) (.nil _ _ _ (by decide) _))) hsa))) (fun x c hx NhL1 hL1=>?_)
 revert hx hL1;obtain ⟨i,m,met,gm⟩:=x;intro hx hL1;dsimp only at hx hL1 ⊢
 obtain ⟨ha1,ha4,ha3⟩:=hx
 refine ru 6 ?_
 refine wdc (fun hr0 hc0=>?_) (fun hr0 hc0=>?_)
 ·skip
  have hil:2+i < l.length:=om;obtain ⟨v_,hv_⟩:∃ v_,l.getD (2+i) []=v_:=⟨_,rfl⟩;have hd_:l.drop (2+i)=v_::l.drop (2+i+1):=(by rw [List.drop_eq_getElem_cons hil,←hv_,List.getD_eq_getElem?_getD,List.getElem?_eq_getElem hil];rfl);have hvl:v_.length≤1000000:=(by have:=hw v_ (by rw [←hv_];exact a2k hil);omega);rw [hd_] at ha3;obtain ⟨⟨W_,V_,H_⟩,hC_⟩:∃ q,a4k 61 v_=q:=⟨_,rfl⟩;have hcut:a0q Tryz.prog 57 [a0p v_,a0p [61]] (c3E (W_,V_,H_)):=(by rw [←hC_];exact c3Y v_ 61 hvl);have hmc:met.count W_≤met.length:=List.count_le_length;have hVl:V_.length≤1000000:=(by have:=a4z 61 v_;rw [hC_] at this;have h9:V_.length≤v_.length:=this;omega)
  refine ru 8 ?_
  refine rvl (a0p v_) ((by rw [←hv_];show a0p (l.getD (2+((i:Nat):Int).toNat) [])=_;rw [show ((i:Nat):Int).toNat=i by omega])) ?_
  refine ru 6 ?_
  refine cll (hcut) ?_
  refine ru 27 ?_
  refine wdc (fun hr1 hc1=>?_) (fun hr1 hc1=>?_)
  ·skip
   have hWv:W_=a7O:=(by simpa using hr1)
   refine ru 2 ?_
   refine cll (b7o V_ hVl) ?_
   refine ru 13 ?_
   refine st1 (HOp.val (v':=a0h (met.count W_:Int)) (a0H a6C (l:=a5A met) (a:=W_) rfl rfl (fun _ _ _ h=>h.imm_inv)) (a1X _ _)) rfl rfl rfl ?_
   refine ru 1 ?_
   refine b5i (a3x a6C (l:=a5A met) (a:=W_) (v:=.int .i64 ((met.count W_:Int)+1)) rfl rfl (fun _ _ _ h=>h.imm_inv) rfl) rfl rfl (a0C rfl) (c':=c+2) rfl ?_
   refine ru 13 ?_
   first
   | refine a4x 62 6 59 false _ (fun hb=>HOp.val (v':=a0h ((W_::met).count W_:Int)) (a0H a6C (l:=a5A (W_::met)) (a:=W_) rfl rfl (fun _ _ _ h=>h.imm_inv)) (a1X _ _)) rfl rfl rfl rfl (a0C rfl) rfl rfl rfl ?_
   | refine a3S 62 6 59 _ _ false _ (fun hb=>HOp.val (v':=a0h ((W_::met).count W_:Int)) (a0H a6C (l:=a5A (W_::met)) (a:=W_) rfl rfl (fun _ _ _ h=>h.imm_inv)) (a1X _ _)) rfl rfl rfl rfl (a0C rfl) rfl rfl rfl ?_
   refine ru 4 ?_
   refine wdc (fun hr3 hc3=>?_) (fun hr3 hc3=>?_)
   ·skip
    have hR:a3p W_ m V_=({ m with val:=(a3f V_).getD 0 },(a1C V_).isSome):=(by unfold a3p;rw [if_pos hWv]);have hcg:(1 < ((W_::met).count W_:Int))↔W_∈met:=(by have:=a4T W_ met;simpa using this);have hbad:=a4r (r:=l.drop (2+i+1)) (met:=met.reverse) (m:=m) hC_ (by rw [hR];have h9:=hc3;rw [hcg] at h9;rcases h9 with (h | h) | h;exact .inl h;exact .inr (.inl h);exact .inr (.inr (List.mem_reverse.2 h)))
    refine ru 10 ?_
    refine a0f ?_
    refine ru 2 ?_
    refine rt2 ?_
    rw [←ha3,hbad];exact a1y (.agg _ _ _ (by exact qm4 (.imm _) (.imm _) (.imm _) (.nil _ _ _ (by decide) _))) (.imm _)
   have hR:a3p W_ m V_=({ m with val:=(a3f V_).getD 0 },(a1C V_).isSome):=(by unfold a3p;rw [if_pos hWv]);have hcg:(1 < ((W_::met).count W_:Int))↔W_∈met:=(by have:=a4T W_ met;simpa using this);have hon:=a7J (r:=l.drop (2+i+1)) (met:=met.reverse) (m:=m) hC_ (by rw [hR];have h9:=hc3;rw [hcg] at h9;obtain ⟨⟨b1,b2⟩,b3⟩:=h9;rintro (h | h | h);(rw [h] at b1;cases b1);(have h8:(a1C V_).isSome=false:=h;rw [h8] at b2;cases b2);exact b3 (List.mem_reverse.1 h));rw [ha3,hR] at hon
   refine ru 7 ?_
   exact hL1 ((i+1,{ m with val:=(a3f V_).getD 0 },W_::met,gm)) _ _ (by (try dsimp only);exact ⟨by omega,by simp [ha4],by rw [List.reverse_cons];exact hon.symm⟩) (by (try dsimp only);omega) (a0c rfl (Nat.le_refl _) (tsr rfl (tsr rfl (tsr rfl (tsr rfl (tsr rfl (tsr rfl (a0K.cons rfl (a0Y om) a0K.nil))))))) (hsr rfl (a0k.cons rfl (b0J (by exact qm4 (.refl _) (.refl _) (.refl _) (.refl _))) hsa)))
  have hWv:W_≠a7O:=(by simpa using hr1)
  refine ru 6 ?_
  refine wdc (fun hr2 hc2=>?_) (fun hr2 hc2=>?_)
  ·skip
   have hWb:W_=a3l:=(by simpa using hr2)
   refine ru 2 ?_
   refine cll (c1G V_ hVl) ?_
   refine ru 16 ?_
   refine st1 (HOp.val (v':=a0h (met.count W_:Int)) (a0H a6C (l:=a5A met) (a:=W_) rfl rfl (fun _ _ _ h=>h.imm_inv)) (a1X _ _)) rfl rfl rfl ?_
   refine ru 1 ?_
   refine b5i (a3x a6C (l:=a5A met) (a:=W_) (v:=.int .i64 ((met.count W_:Int)+1)) rfl rfl (fun _ _ _ h=>h.imm_inv) rfl) rfl rfl (a0C rfl) (c':=c+3) rfl ?_
   refine ru 13 ?_
   first
   | refine a4x 62 6 59 false _ (fun hb=>HOp.val (v':=a0h ((W_::met).count W_:Int)) (a0H a6C (l:=a5A (W_::met)) (a:=W_) rfl rfl (fun _ _ _ h=>h.imm_inv)) (a1X _ _)) rfl rfl rfl rfl (a0C rfl) rfl rfl rfl ?_
   | refine a3S 62 6 59 _ _ false _ (fun hb=>HOp.val (v':=a0h ((W_::met).count W_:Int)) (a0H a6C (l:=a5A (W_::met)) (a:=W_) rfl rfl (fun _ _ _ h=>h.imm_inv)) (a1X _ _)) rfl rfl rfl rfl (a0C rfl) rfl rfl rfl ?_
   refine ru 4 ?_
   refine wdc (fun hr3 hc3=>?_) (fun hr3 hc3=>?_)
   ·skip
    have hR:a3p W_ m V_=({ m with all:=((a0Z V_).getD (false,[])).1,bars:=((a0Z V_).getD (false,[])).2 },(a0Z V_).isSome):=(by unfold a3p;rw [if_neg hWv,if_pos hWb]);have hcg:(1 < ((W_::met).count W_:Int))↔W_∈met:=(by have:=a4T W_ met;simpa using this);have hbad:=a4r (r:=l.drop (2+i+1)) (met:=met.reverse) (m:=m) hC_ (by rw [hR];have h9:=hc3;rw [hcg] at h9;rcases h9 with (h | h) | h;exact .inl h;exact .inr (.inl h);exact .inr (.inr (List.mem_reverse.2 h)))
    refine ru 10 ?_
    refine a0f ?_
    refine ru 2 ?_
    refine rt2 ?_
    rw [←ha3,hbad];exact a1y (.agg _ _ _ (by exact qm4 (.imm _) (.imm _) (.imm _) (.nil _ _ _ (by decide) _))) (.imm _)
   have hR:a3p W_ m V_=({ m with all:=((a0Z V_).getD (false,[])).1,bars:=((a0Z V_).getD (false,[])).2 },(a0Z V_).isSome):=(by unfold a3p;rw [if_neg hWv,if_pos hWb]);have hcg:(1 < ((W_::met).count W_:Int))↔W_∈met:=(by have:=a4T W_ met;simpa using this);have hon:=a7J (r:=l.drop (2+i+1)) (met:=met.reverse) (m:=m) hC_ (by rw [hR];have h9:=hc3;rw [hcg] at h9;obtain ⟨⟨b1,b2⟩,b3⟩:=h9;rintro (h | h | h);(rw [h] at b1;cases b1);(have h8:(a0Z V_).isSome=false:=h;rw [h8] at b2;cases b2);exact b3 (List.mem_reverse.1 h));rw [ha3,hR] at hon
   refine ru 7 ?_
   exact hL1 ((i+1,{ m with all:=((a0Z V_).getD (false,[])).1,bars:=((a0Z V_).getD (false,[])).2 },W_::met,gm)) _ _ (by (try dsimp only);exact ⟨by omega,by simp [ha4],by rw [List.reverse_cons];exact hon.symm⟩) (by (try dsimp only);omega) (a0c rfl (Nat.le_refl _) (tsr rfl (tsr rfl (tsr rfl (tsr rfl (tsr rfl (tsr rfl (a0K.cons rfl (a0Y om) a0K.nil))))))) (hsr rfl (a0k.cons rfl (b0J (by exact qm4 (.refl _) (.refl _) (.refl _) (.refl _))) hsa)))
  have hWb:W_≠a3l:=(by simpa using hr2)
  refine ru 7 ?_
  refine st1 (HOp.val (v':=a0h (met.count W_:Int)) (a0H a6C (l:=a5A met) (a:=W_) rfl rfl (fun _ _ _ h=>h.imm_inv)) (a1X _ _)) rfl rfl rfl ?_
  refine ru 1 ?_
  refine b5i (a3x a6C (l:=a5A met) (a:=W_) (v:=.int .i64 ((met.count W_:Int)+1)) rfl rfl (fun _ _ _ h=>h.imm_inv) rfl) rfl rfl (a0C rfl) (c':=c+1) rfl ?_
  refine ru 13 ?_
  first
  | refine a4x 62 6 59 false _ (fun hb=>HOp.val (v':=a0h ((W_::met).count W_:Int)) (a0H a6C (l:=a5A (W_::met)) (a:=W_) rfl rfl (fun _ _ _ h=>h.imm_inv)) (a1X _ _)) rfl rfl rfl rfl (a0C rfl) rfl rfl rfl ?_
  | refine a3S 62 6 59 _ _ false _ (fun hb=>HOp.val (v':=a0h ((W_::met).count W_:Int)) (a0H a6C (l:=a5A (W_::met)) (a:=W_) rfl rfl (fun _ _ _ h=>h.imm_inv)) (a1X _ _)) rfl rfl rfl rfl (a0C rfl) rfl rfl rfl ?_
  refine ru 4 ?_
  refine wdc (fun hr3 hc3=>?_) (fun hr3 hc3=>?_)
  ·skip
   have hR:a3p W_ m V_=(m,false):=(by unfold a3p;rw [if_neg hWv,if_neg hWb]);have hcg:(1 < ((W_::met).count W_:Int))↔W_∈met:=(by have:=a4T W_ met;simpa using this);have hbad:=a4r (r:=l.drop (2+i+1)) (met:=met.reverse) (m:=m) hC_ (by rw [hR];exact .inr (.inl rfl))
   refine ru 10 ?_
   refine a0f ?_
   refine ru 2 ?_
   refine rt2 ?_
   rw [←ha3,hbad];exact a1y (.agg _ _ _ (by exact qm4 (.imm _) (.imm _) (.imm _) (.nil _ _ _ (by decide) _))) (.imm _)
  exfalso;simp at hr3
 rw [List.drop_of_length_le (show l.length≤2+i by omega)] at ha3
 refine ru 2 ?_
 refine a0d ?_
 refine ru 10 ?_
 refine rt2 ?_
 rw [←ha3];exact a1y (.agg _ _ _ (by exact qm4 (.imm _) (.imm _) (.imm _) (show Fz _ (a0M m.bars) (a0M m.bars) from .sl _ _ _ _ fun _ _ _ _=>.imm _))) (.imm _)
@[reducible] def b5U (l:List Nd):Nat→Nat→HV:=fun i=>a5B (l.getD i default)
@[reducible] def b6k (g:Nat) (l:List Nd):HObj:=⟨g,l.length,9,46,0,b5U l⟩
@[reducible] def b5W (l:List Mk):Nat→Nat→HV:=fun i=>a5E (l.getD i default)
@[reducible] def b6o (g:Nat) (l:List Mk):HObj:=⟨g,l.length,4,58,0,b5W l⟩
theorem a4d {sh:List (Nat×HObj)} (n:Nd):∀ j,j < 9→Fz sh (a5B n j) (a5B n j):=by
 exact q9 (.imm _) (.sl _ _ _ _ fun _ _ _ _=>.imm _) (.imm _) (.imm _) (.imm _) (.imm _) (.imm _) (.sl _ _ _ _ fun _ _ _ _=>.imm _) (.imm _)
theorem a4f {sh:List (Nat×HObj)} (m:Mk):∀ j,j < 4→Fz sh (a5E m j) (a5E m j):=by
 exact qm4 (.imm _) (.imm _) (.imm _) (.sl _ _ _ _ fun _ _ _ _=>.imm _)
theorem a7P {kp sh:List (Nat×HObj)} {g:Nat} {n:Nd}:OKz kp sh ⟨g,1,9,46,0,fun _=>a5B n⟩ ⟨g,1,9,46,0,fun _=>a5B n⟩:=.of fun i j hi hj=>.fz _ _ (a4d n j hj)
theorem a2t {kp sh:List (Nat×HObj)} {g:Nat} {l:List Nd}:OKz kp sh (b6k g l) (b6k g l):=.of fun i j hi hj=>.fz _ _ (a4d _ j hj)
theorem c2w (c g5:Nat) (o n:Nd):a3c Tryz.prog 40 c ([.agg 9 (a5B o)]++[.pt 5 g5 0 0]) [(5,⟨g5,1,9,46,0,fun _=>a5B n⟩)] (a4W (fun (_:Unit) _=>True) (fun _=>a0s (decide (o.name=n.name))) (fun _=>[(5,⟨g5,1,9,46,0,fun _=>a5B n⟩)])):=by
 show a3c _ _ _ [.agg 9 (a5B o),.pt 5 g5 0 0] _ _
 refine a0v Tryz.func40 rfl kr _ _ _ _ rfl 9 rfl rfl (fun X ok hX=>?_)
 refine ru 17 ?_
 refine fr1 ok hX rw1 (()) (trivial) (kza) ?_
 exact ⟨⟨_,rfl,a7P⟩,trivial⟩
theorem b9S (g g5:Nat) (l:List Nd) (n:Nd) (hl:l.length≤100000):a5F Tryz.prog 61 [.os 8101 g 0 l.length,.fn (.func 40) 1 (fun i=>[HV.pt 5 g5 0 0].getD i default)] [(8101,b6k g l),(5,⟨g5,1,9,46,0,fun _=>a5B n⟩)] (a0h (c0D (fun o=>decide (o.name=n.name)) l)) [(8101,b6k g l),(5,⟨g5,1,9,46,0,fun _=>a5B n⟩)]:=by
 intro c
 refine a0v Tryz.func61 rfl kr _ _ _ _ rfl 19 rfl rfl (fun X ok hX=>?_)
 refine ru 14 ?_
 refine a0n (α:=Nat) (fun x c=>⟨19,[(0,.v (.os 8101 g 0 l.length)),(1,.v (.fn (.func 40) 1 (fun i=>[HV.pt 5 g5 0 0].getD i default))),(7,.v (a0h l.length)),(8,.v (a0h x))],[(8101,b6k g l),(5,⟨g5,1,9,46,0,fun _=>a5B n⟩)],c⟩) (fun x=>x≤l.length∧∀ i,i < x→decide ((l.getD i default).name=n.name)=false) (fun x=>l.length - x) (0) (by exact ⟨Nat.zero_le _,fun i h=>absurd h (Nat.not_lt_zero _)⟩) (a0c rfl (Nat.le_refl _) tsa hsa) (fun k c hx NhL1 hL1=>?_)
 (try dsimp only at hx hL1 ⊢)
 obtain ⟨hk,hE⟩:=hx
 refine ru 6 ?_
 refine wdc (fun hr0 hc0=>?_) (fun hr0 hc0=>?_)
 ·refine ru 17 ?_
  refine rvl (.agg 9 (a5B (l.getD k default))) ((by simp only [Nat.zero_add];rfl)) ?_
  refine a3H 16 (xs:=[_]) (cs:=[_]) (pre:=[(5,_)]) (c2w _ g5 (l.getD k default) n) rfl rfl (fun i hi=>by first | rfl | (rcases i with _ | i <;> first | rfl | (exact absurd hi om) | (simp at hi))) ⟨rfl,trivial⟩ (a0g rfl a0e) rfl rfl (fun x1 c1 hx1=>?_)
  (try dsimp only)
  refine ru 2 ?_
  refine wdc (fun hr1 hc1=>?_) (fun hr1 hc1=>?_)
  ·refine ru 9 ?_
   refine a0f ?_
   refine ru 2 ?_
   refine fr1 ok hX rw1 (()) (trivial) (by rw [a3W (d:=default) om hr1 hE];exact kza) ?_
   exact ⟨⟨_,rfl,a2t⟩,⟨⟨_,rfl,a7P⟩,trivial⟩⟩
  refine ru 7 ?_
  exact hL1 (k+1) _ _ (by (try dsimp only);exact ⟨by omega,fun i hi=>by by_cases e:i=k;(subst e;exact hr1);exact hE i om⟩) (by (try dsimp only);omega) (a0c rfl (Nat.le_refl _) (tsr rfl (tsr rfl (tsr rfl (a0K.cons rfl (a0Y om) a0K.nil)))) hsa)
 refine ru 2 ?_
 refine a0d ?_
 refine ru 8 ?_
 refine fr1 ok hX rw1 (()) (trivial) (by rw [a6m (d:=default) (fun i hi=>hE i om)];exact kza) ?_
 exact ⟨⟨_,rfl,a2t⟩,⟨⟨_,rfl,a7P⟩,trivial⟩⟩
theorem c1m (g g5:Nat) (l:List Nd) (n:Nd) (hl:l.length≤100000):a5F Tryz.prog 39 [.os 8101 g 0 l.length,.fn (.func 40) 1 (fun i=>[HV.pt 5 g5 0 0].getD i default)] [(8101,b6k g l),(5,⟨g5,1,9,46,0,fun _=>a5B n⟩)] (a0s (l.any fun o=>decide (o.name=n.name))) [(8101,b6k g l),(5,⟨g5,1,9,46,0,fun _=>a5B n⟩)]:=by
 intro c
 refine a0v Tryz.func39 rfl kr _ _ _ _ rfl 9 rfl rfl (fun X ok hX=>?_)
 refine ru 9 ?_
 refine a0l 7 (xs:=[_,_]) (pre:=[(8101,_),(5,_)]) (b9S g g5 l n hl _) ⟨rfl,⟨rfl,trivial⟩⟩ (a0g rfl (a0g rfl a0e)) rfl rfl (fun u c1 hx1=>?_)
 (try dsimp only)
 refine ru 5 ?_
 refine fr1 ok hX rw1 (()) (trivial) (by rw [←b3e];exact kza) ?_
 exact ⟨⟨_,rfl,a2t⟩,⟨⟨_,rfl,a7P⟩,trivial⟩⟩
theorem a7D {kp sh:List (Nat×HObj)} {g:Nat} {n:Mk}:OKz kp sh ⟨g,1,4,58,0,fun _=>a5E n⟩ ⟨g,1,4,58,0,fun _=>a5E n⟩:=.of fun i j hi hj=>.fz _ _ (a4f n j hj)
theorem a2q {kp sh:List (Nat×HObj)} {g:Nat} {l:List Mk}:OKz kp sh (b6o g l) (b6o g l):=.of fun i j hi hj=>.fz _ _ (a4f _ j hj)
theorem c3d (c g5:Nat) (o n:Mk):a3c Tryz.prog 43 c ([.agg 4 (a5E o)]++[.pt 7 g5 0 0]) [(7,⟨g5,1,4,58,0,fun _=>a5E n⟩)] (a4W (fun (_:Unit) _=>True) (fun _=>a0s (decide (o.name=n.name))) (fun _=>[(7,⟨g5,1,4,58,0,fun _=>a5E n⟩)])):=by
 show a3c _ _ _ [.agg 4 (a5E o),.pt 7 g5 0 0] _ _
 refine a0v Tryz.func43 rfl kr _ _ _ _ rfl 9 rfl rfl (fun X ok hX=>?_)
 refine ru 17 ?_
 refine fr1 ok hX rw1 (()) (trivial) (kza) ?_
 exact ⟨⟨_,rfl,a7D⟩,trivial⟩
theorem c0n (g g5:Nat) (l:List Mk) (n:Mk) (hl:l.length≤100000):a5F Tryz.prog 64 [.os 8102 g 0 l.length,.fn (.func 43) 1 (fun i=>[HV.pt 7 g5 0 0].getD i default)] [(8102,b6o g l),(7,⟨g5,1,4,58,0,fun _=>a5E n⟩)] (a0h (c0D (fun o=>decide (o.name=n.name)) l)) [(8102,b6o g l),(7,⟨g5,1,4,58,0,fun _=>a5E n⟩)]:=by
 intro c
 refine a0v Tryz.func64 rfl kr _ _ _ _ rfl 19 rfl rfl (fun X ok hX=>?_)
 refine ru 14 ?_
 refine a0n (α:=Nat) (fun x c=>⟨19,[(0,.v (.os 8102 g 0 l.length)),(1,.v (.fn (.func 43) 1 (fun i=>[HV.pt 7 g5 0 0].getD i default))),(7,.v (a0h l.length)),(8,.v (a0h x))],[(8102,b6o g l),(7,⟨g5,1,4,58,0,fun _=>a5E n⟩)],c⟩) (fun x=>x≤l.length∧∀ i,i < x→decide ((l.getD i default).name=n.name)=false) (fun x=>l.length - x) (0) (by exact ⟨Nat.zero_le _,fun i h=>absurd h (Nat.not_lt_zero _)⟩) (a0c rfl (Nat.le_refl _) tsa hsa) (fun k c hx NhL1 hL1=>?_)
 (try dsimp only at hx hL1 ⊢)
 obtain ⟨hk,hE⟩:=hx
 refine ru 6 ?_
 refine wdc (fun hr0 hc0=>?_) (fun hr0 hc0=>?_)
 ·refine ru 17 ?_
  refine rvl (.agg 4 (a5E (l.getD k default))) ((by simp only [Nat.zero_add];rfl)) ?_
  refine a3H 16 (xs:=[_]) (cs:=[_]) (pre:=[(7,_)]) (c3d _ g5 (l.getD k default) n) rfl rfl (fun i hi=>by first | rfl | (rcases i with _ | i <;> first | rfl | (exact absurd hi om) | (simp at hi))) ⟨rfl,trivial⟩ (a0g rfl a0e) rfl rfl (fun x1 c1 hx1=>?_)
  (try dsimp only)
  refine ru 2 ?_
  refine wdc (fun hr1 hc1=>?_) (fun hr1 hc1=>?_)
  ·refine ru 9 ?_
   refine a0f ?_
   refine ru 2 ?_
   refine fr1 ok hX rw1 (()) (trivial) (by rw [a3W (d:=default) om hr1 hE];exact kza) ?_
   exact ⟨⟨_,rfl,a2q⟩,⟨⟨_,rfl,a7D⟩,trivial⟩⟩
  refine ru 7 ?_
  exact hL1 (k+1) _ _ (by (try dsimp only);exact ⟨by omega,fun i hi=>by by_cases e:i=k;(subst e;exact hr1);exact hE i om⟩) (by (try dsimp only);omega) (a0c rfl (Nat.le_refl _) (tsr rfl (tsr rfl (tsr rfl (a0K.cons rfl (a0Y om) a0K.nil)))) hsa)
 refine ru 2 ?_
 refine a0d ?_
 refine ru 8 ?_
 refine fr1 ok hX rw1 (()) (trivial) (by rw [a6m (d:=default) (fun i hi=>hE i om)];exact kza) ?_
 exact ⟨⟨_,rfl,a2q⟩,⟨⟨_,rfl,a7D⟩,trivial⟩⟩
theorem c4Z (g g5:Nat) (l:List Mk) (n:Mk) (hl:l.length≤100000):a5F Tryz.prog 42 [.os 8102 g 0 l.length,.fn (.func 43) 1 (fun i=>[HV.pt 7 g5 0 0].getD i default)] [(8102,b6o g l),(7,⟨g5,1,4,58,0,fun _=>a5E n⟩)] (a0s (l.any fun o=>decide (o.name=n.name))) [(8102,b6o g l),(7,⟨g5,1,4,58,0,fun _=>a5E n⟩)]:=by
 intro c
 refine a0v Tryz.func42 rfl kr _ _ _ _ rfl 9 rfl rfl (fun X ok hX=>?_)
 refine ru 9 ?_
 refine a0l 7 (xs:=[_,_]) (pre:=[(8102,_),(7,_)]) (c0n g g5 l n hl _) ⟨rfl,⟨rfl,trivial⟩⟩ (a0g rfl (a0g rfl a0e)) rfl rfl (fun u c1 hx1=>?_)
 (try dsimp only)
 refine ru 5 ?_
 refine fr1 ok hX rw1 (()) (trivial) (by rw [←b3e];exact kza) ?_
 exact ⟨⟨_,rfl,a2q⟩,⟨⟨_,rfl,a7D⟩,trivial⟩⟩
@[reducible] def dcG (g1 n1 g2 n2:Nat):Nat→HV:=fun j=>match j with
 | 0=>.os 8101 g1 0 n1
 | _=>.os 8102 g2 0 n2
@[reducible] def dcO (g g1 n1 g2 n2:Nat):HObj:=⟨g,1,2,26,0,fun _=>dcG g1 n1 g2 n2⟩
theorem a1M {kp sh:List (Nat×HObj)} {a b:Int} (h:a=b):Kz kp sh (a0h a) (a0h b):=by subst h;exact .fz _ _ (.imm _)
theorem a5n {kp sh:List (Nat×HObj)} {g g1 n1 g2 n2:Nat} {o1 o2:HObj} (h1:hget kp 8101=some o1:=by rfl) (e1:o1.g=g1:=by rfl) (h2:hget kp 8102=some o2:=by rfl) (e2:o2.g=g2:=by rfl):OKz kp sh (dcO g g1 n1 g2 n2) (dcO g g1 n1 g2 n2):=.of fun i j hi hj=>by
 match j,hj with
 | 0,_=>exact .os _ _ _ _ _ h1 e1
 | 1,_=>exact .os _ _ _ _ _ h2 e2
theorem b6C {kp sh:List (Nat×HObj)} {g g1 n1 n1' g2 n2 n2':Nat} {F:Nat→Nat→HV} {o1 o2:HObj} (f0:F 0 0=.os 8101 g1 0 n1) (f1:F 0 1=.os 8102 g2 0 n2) (k1:n1=n1') (k2:n2=n2') (h1:hget kp 8101=some o1:=by rfl) (e1:o1.g=g1:=by rfl) (h2:hget kp 8102=some o2:=by rfl) (e2:o2.g=g2:=by rfl):OKz kp sh ⟨g,1,2,26,0,F⟩ (dcO g g1 n1' g2 n2'):=by
 subst k1;subst k2
 exact .of fun i j hi hj=>by
  obtain rfl:i=0:=by omega
  match j,hj with
  | 0,_=>rw [f0];exact .os _ _ _ _ _ h1 e1
  | 1,_=>rw [f1];exact .os _ _ _ _ _ h2 e2
theorem a6t {α:Type} {kp sh:List (Nat×HObj)} {enc:α→Nat→HV} {d x:α} {l:List α} {g n sz ty:Nat} {F:Nat→Nat→HV} (hn:n=l.length+1) (hz:∀ (a:α) j,j < sz→Fz sh (enc a j) (enc a j)) (h0:∀ j,j < sz→F 0 j=enc x j):OKz kp sh ⟨g,n,sz,ty,0,cat l.length (fun i=>enc (l.getD i d)) F⟩ ⟨g,(l++[x]).length,sz,ty,0,fun i=>enc ((l++[x]).getD i d)⟩:=by
 subst hn
 have e:(⟨g,l.length+1,sz,ty,0,cat l.length (fun i=>enc (l.getD i d)) F⟩:HObj)=⟨g,(l++[x]).length,sz,ty,0,cat l.length (fun i=>enc (l.getD i d)) F⟩:=by simp
 rw [e]
 refine .of fun i j hi hj=>?_
 have hi:i < l.length+1:=by simpa using hi
 by_cases h:i < l.length
 ·rw [a7u h,List.getD_eq_getElem?_getD,List.getD_eq_getElem?_getD,List.getElem?_append_left h];exact .fz _ _ (hz _ j hj)
 ·obtain rfl:i=l.length:=by omega
  rw [a7l (Nat.le_refl _),Nat.sub_self,h0 j hj,List.getD_eq_getElem?_getD,List.getElem?_append_right (Nat.le_refl _),Nat.sub_self];exact .fz _ _ (hz _ j hj)
theorem c4C (c g g1 g2:Nat) (d:Dc) (l:List Bs) (hd:d.nodes.length≤24∧d.marks.length≤8) (hl:l.length≤100000) (hw:∀ w∈l,w.length≤100000) (hj:(joinL l).length≤1000000):a3c Tryz.prog 18 c [.pt 8 g 0 0,a0M l] [(8,dcO g g1 d.nodes.length g2 d.marks.length),(8101,b6k g1 d.nodes),(8102,b6o g2 d.marks)]
  (a4W (fun (q:Nat×Nat) _=>True) (fun _=>a0h (a1P d l).2) (fun q=>[(8,dcO g q.1 (a1P d l).1.nodes.length q.2 (a1P d l).1.marks.length),(8101,b6k q.1 (a1P d l).1.nodes),(8102,b6o q.2 (a1P d l).1.marks)])):=by
 have hw1:∀ i,(l.getD i []).length≤1000000:=fun i=>by
  rcases Nat.lt_or_ge i l.length with h | h
  ·have:=hw (l.getD i []) (a2k h);omega
  ·rw [List.getD_eq_getElem?_getD,List.getElem?_eq_none h];exact Nat.zero_le _
 refine a0v Tryz.func18 rfl kr _ _ _ _ rfl 95 rfl rfl (fun X ok hX=>?_)
 refine ru 15 ?_
 refine ry (a0p (l.getD 1 [])) rfl (fun hb=>rfl) ?_
 first
 | refine stg 12 (fun hb=>a0i (xs:=[_]) (a7E (l.getD 1 []) (hw1 1)) ⟨rfl,trivial⟩ ⟨(Fz.eq rfl),trivial⟩) rfl rfl rfl rfl rfl ?_
 | refine sth 12 (fun hb=>a0i (xs:=[_]) (a7E (l.getD 1 []) (hw1 1)) ⟨rfl,trivial⟩ ⟨(Fz.eq rfl),trivial⟩) rfl rfl rfl rfl rfl ?_
 refine ru 4 ?_
 refine wdc (fun hr0 hc0=>?_) (fun hr0 hc0=>?_)
 ·skip
  have hA:a1P d l=(d,2):=(by unfold a1P;rw [if_pos (by rcases hc0 with h | h;exact .inl om;exact .inr h)])
  refine ru 7 ?_
  refine fr1 ok hX rw1 ((g1,g2)) (trivial) ((a1M (by rw [hA]))) ?_
  exact ⟨⟨_,rfl,(by rw [hA];exact a5n)⟩,⟨⟨_,rfl,(by rw [hA];exact a2t)⟩,⟨⟨_,rfl,(by rw [hA];exact a2q)⟩,trivial⟩⟩⟩
 have h0:¬ (l.length < 2∨nameV (l.getD 1 [])=false):=(by have h9:=hc0;rintro (h | h);exact absurd h9.1 om;rw [h] at h9;simp at h9)
 refine ru 8 ?_
 refine rvl (a0p (l.getD 0 [])) (rfl) ?_
 refine ru 9 ?_
 refine wdc (fun hr1 hc1=>?_) (fun hr1 hc1=>?_)
 ·skip
  have hn:l.getD 0 []=a0S:=(by simpa using hr1)
  refine ru 3 ?_
  refine cll (c4x l ⟨by omega,hl⟩ hw hj) ?_
  refine ru 17 ?_
  refine wdc (fun hr2 hc2=>?_) (fun hr2 hc2=>?_)
  ·skip
   have hA:a1P d l=(d,2):=(by unfold a1P;rw [if_neg h0,if_pos hn,if_pos (by simpa using hr2)])
   refine ru 10 ?_
   refine fr1 ok hX rw1 ((g1,g2)) (trivial) ((a1M (by rw [hA]))) ?_
   exact ⟨⟨_,rfl,(by rw [hA];exact a5n)⟩,⟨⟨_,rfl,(by rw [hA];exact a2t)⟩,⟨⟨_,rfl,(by rw [hA];exact a2q)⟩,trivial⟩⟩⟩
  have hok:¬ (a3s l).2=false:=(by simpa using hr2)
  refine ru 4 ?_
  refine rvl (a0p (a3s l).1.name) (rfl) ?_
  refine ru 7 ?_
  first
  | refine a4x 42 3 36 false _ (fun hb=>a0B (xs:=[_,_]) (pre:=[(8101,_),(5,_)]) (c1m g1 _ d.nodes (a3s l).1 (by omega)) ⟨rfl,⟨rfl,trivial⟩⟩) rfl rfl rfl rfl (a0g rfl (a0g rfl a0e)) rfl rfl rfl ?_
  | refine a3S 42 3 36 _ _ false _ (fun hb=>a0B (xs:=[_,_]) (pre:=[(8101,_),(5,_)]) (c1m g1 _ d.nodes (a3s l).1 (by omega)) ⟨rfl,⟨rfl,trivial⟩⟩) rfl rfl rfl rfl (a0g rfl (a0g rfl a0e)) rfl rfl rfl ?_
  refine ru 4 ?_
  refine wdc (fun hr3 hc3=>?_) (fun hr3 hc3=>?_)
  ·skip
   have hA:a1P d l=(d,9):=(by unfold a1P;rw [if_neg h0,if_pos hn,if_neg hok,if_pos hc3])
   refine ru 10 ?_
   refine fr1 ok hX rw1 ((g1,g2)) (trivial) ((a1M (by rw [hA]))) ?_
   exact ⟨⟨_,rfl,(by rw [hA];exact a5n)⟩,⟨⟨_,rfl,(by rw [hA];exact a2t)⟩,⟨⟨_,rfl,(by rw [hA];exact a2q)⟩,trivial⟩⟩⟩
  have hn3:¬ ((a3s l).1.name=sText∨(d.nodes.any fun o=>decide (o.name=(a3s l).1.name))=true):=(by rintro (h | h);exact hc3.1 h;rw [h] at hc3;cases hc3.2)
  refine ru 11 ?_
  refine wdc (fun hr4 hc4=>?_) (fun hr4 hc4=>?_)
  ·skip
   have hA:a1P d l=(d,4):=(by unfold a1P;rw [if_neg h0,if_pos hn,if_neg hok,if_neg hn3,if_pos om])
   refine ru 10 ?_
   refine fr1 ok hX rw1 ((g1,g2)) (trivial) ((a1M (by rw [hA]))) ?_
   exact ⟨⟨_,rfl,(by rw [hA];exact a5n)⟩,⟨⟨_,rfl,(by rw [hA];exact a2t)⟩,⟨⟨_,rfl,(by rw [hA];exact a2q)⟩,trivial⟩⟩⟩
  have hA:a1P d l=(⟨d.nodes++[(a3s l).1],d.marks⟩,0):=(by unfold a1P;rw [if_neg h0,if_pos hn,if_neg hok,if_neg hn3,if_neg om])
  refine ru 10 ?_
  refine a2f 57 (a0b (id:=57) (hs:=[_]) ei_23.h omx rfl omx ⟨rfl,rfl,rfl,rfl,trivial⟩) rfl rfl a0e rfl rfl (k':=7) rfl ?_
  first
  | refine a2f 58 (a0a ei_23.h omy rfl omy omy (a0u rfl omy) omy rfl) rfl rfl (a0g rfl (a0C rfl)) rfl rfl (k':=8) rfl ?_
  | refine a2f 58 (a0a ei_23.h omy rfl omy omy (a0G rfl omy) omy rfl) rfl rfl (a0g rfl (a0C rfl)) rfl rfl (k':=8) rfl ?_
  | refine a2f 58 (a0a ei_23.h omy rfl omy omy (a0F rfl) omy rfl) rfl rfl (a0g rfl a0e) rfl rfl (k':=8) rfl ?_
  | refine a2f 58 (a0a ei_23.h omy rfl omy omy (a0w 9 (fun _ _=>default) rfl) omy rfl) rfl rfl (a0g rfl a0e) rfl rfl (k':=8) rfl ?_
  refine ru 12 ?_
  refine fr1 ok hX rw1 ((c+2+7,g2)) (trivial) ((a1M (by rw [hA]))) ?_
  exact ⟨⟨_,rfl,(by rw [hA];exact b6C rfl rfl (by simp) rfl)⟩,⟨⟨_,rfl,(by rw [hA];exact a6t (by simp) a4d (by exact q9 rfl rfl rfl rfl rfl rfl rfl rfl rfl))⟩,⟨⟨_,rfl,(by rw [hA];exact a2q)⟩,trivial⟩⟩⟩
 have hn:l.getD 0 []≠a0S:=(by simpa using hr1)
 refine ru 6 ?_
 refine wdc (fun hr5 hc5=>?_) (fun hr5 hc5=>?_)
 ·skip
  have hm:l.getD 0 []=a3g:=(by simpa using hr5)
  refine ru 3 ?_
  refine cll (c4k l ⟨by omega,hl⟩ hw) ?_
  refine ru 17 ?_
  refine wdc (fun hr6 hc6=>?_) (fun hr6 hc6=>?_)
  ·skip
   have hA:a1P d l=(d,2):=(by unfold a1P;rw [if_neg h0,if_neg hn,if_pos hm,if_pos (by simpa using hr6)])
   refine ru 10 ?_
   refine fr1 ok hX rw1 ((g1,g2)) (trivial) ((a1M (by rw [hA]))) ?_
   exact ⟨⟨_,rfl,(by rw [hA];exact a5n)⟩,⟨⟨_,rfl,(by rw [hA];exact a2t)⟩,⟨⟨_,rfl,(by rw [hA];exact a2q)⟩,trivial⟩⟩⟩
  have hok:¬ (a5i l).2=false:=(by simpa using hr6)
  refine ru 7 ?_
  refine a0l 77 (xs:=[_,_]) (pre:=[(8102,_),(7,_)]) (c4Z g2 _ d.marks (a5i l).1 om _) ⟨rfl,⟨rfl,trivial⟩⟩ (a0g rfl (a0g rfl a0e)) rfl rfl (fun u c1 hx1=>?_)
  (try dsimp only)
  refine ru 3 ?_
  refine wdc (fun hr7 hc7=>?_) (fun hr7 hc7=>?_)
  ·skip
   have hA:a1P d l=(d,9):=(by unfold a1P;rw [if_neg h0,if_neg hn,if_pos hm,if_neg hok,if_pos hc7])
   refine ru 10 ?_
   refine fr1 ok hX rw1 ((g1,g2)) (trivial) ((a1M (by rw [hA]))) ?_
   exact ⟨⟨_,rfl,(by rw [hA];exact a5n)⟩,⟨⟨_,rfl,(by rw [hA];exact a2t)⟩,⟨⟨_,rfl,(by rw [hA];exact a2q)⟩,trivial⟩⟩⟩
  have hn7:¬ (d.marks.any fun o=>decide (o.name=(a5i l).1.name))=true:=(by rw [hc7];simp)
  refine ru 11 ?_
  refine wdc (fun hr8 hc8=>?_) (fun hr8 hc8=>?_)
  ·skip
   have hA:a1P d l=(d,4):=(by unfold a1P;rw [if_neg h0,if_neg hn,if_pos hm,if_neg hok,if_neg hn7,if_pos om])
   refine ru 10 ?_
   refine fr1 ok hX rw1 ((g1,g2)) (trivial) ((a1M (by rw [hA]))) ?_
   exact ⟨⟨_,rfl,(by rw [hA];exact a5n)⟩,⟨⟨_,rfl,(by rw [hA];exact a2t)⟩,⟨⟨_,rfl,(by rw [hA];exact a2q)⟩,trivial⟩⟩⟩
  have hA:a1P d l=(⟨d.nodes,d.marks++[(a5i l).1]⟩,0):=(by unfold a1P;rw [if_neg h0,if_neg hn,if_pos hm,if_neg hok,if_neg hn7,if_neg om])
  refine ru 10 ?_
  refine a2f 91 (a0b (id:=91) (hs:=[_]) ei_24.h omx rfl omx ⟨rfl,rfl,rfl,rfl,trivial⟩) rfl rfl a0e rfl rfl (k':=7) rfl ?_
  first
  | refine a2f 92 (a0a ei_24.h omy rfl omy omy (a0u rfl omy) omy rfl) rfl rfl (a0g rfl (a0C rfl)) rfl rfl (k':=8) rfl ?_
  | refine a2f 92 (a0a ei_24.h omy rfl omy omy (a0G rfl omy) omy rfl) rfl rfl (a0g rfl (a0C rfl)) rfl rfl (k':=8) rfl ?_
  | refine a2f 92 (a0a ei_24.h omy rfl omy omy (a0F rfl) omy rfl) rfl rfl (a0g rfl a0e) rfl rfl (k':=8) rfl ?_
  | refine a2f 92 (a0a ei_24.h omy rfl omy omy (a0w 4 (fun _ _=>default) rfl) omy rfl) rfl rfl (a0g rfl a0e) rfl rfl (k':=8) rfl ?_
  refine ru 12 ?_
  refine fr1 ok hX rw1 ((g1,c1+7)) (trivial) ((a1M (by rw [hA]))) ?_
  exact ⟨⟨_,rfl,(by rw [hA];exact b6C rfl rfl rfl (by simp))⟩,⟨⟨_,rfl,(by rw [hA];exact a2t)⟩,⟨⟨_,rfl,(by rw [hA];exact a6t (by simp) a4f (by exact qm4 rfl rfl rfl rfl))⟩,trivial⟩⟩⟩
 have hA:a1P d l=(d,2):=(by unfold a1P;rw [if_neg h0,if_neg hn,if_neg (by simpa using hr5)])
 refine ru 8 ?_
 refine fr1 ok hX rw1 ((g1,g2)) (trivial) ((a1M (by rw [hA]))) ?_
 exact ⟨⟨_,rfl,(by rw [hA];exact a5n)⟩,⟨⟨_,rfl,(by rw [hA];exact a2t)⟩,⟨⟨_,rfl,(by rw [hA];exact a2q)⟩,trivial⟩⟩⟩
@[reducible] def b2D (l:List Nd):HV:=.sl 9 l.length (b5U l)
@[reducible] def b4J (l:List Mk):HV:=.sl 4 l.length (b5W l)
@[reducible] def dcF (d:Dc):Nat→HV:=fun j=>match j with
 | 0=>b2D d.nodes
 | _=>b4J d.marks
@[reducible] def dcV (d:Dc):HV:=.agg 2 (dcF d)
@[reducible] def c0S (x:Dc×Int×Int):HV:=t3 (dcV x.1) (a0h x.2.1) (a0h x.2.2)
theorem b8I {sh:List (Nat×HObj)} (l:List Nd):Fz sh (b2D l) (b2D l):=.sl _ _ _ _ fun i j _ hj=>a4d _ j hj
theorem a8a {sh:List (Nat×HObj)} (l:List Mk):Fz sh (b4J l) (b4J l):=.sl _ _ _ _ fun i j _ hj=>a4f _ j hj
theorem a3t {sh:List (Nat×HObj)} (d:Dc):Fz sh (dcV d) (dcV d):=.agg _ _ _ fun j hj=>by
 match j,hj with
 | 0,_=>exact b8I _
 | 1,_=>exact a8a _
@[reducible] def zDc:Nat→HV:=fun _=>.imm (.slice none 0 0)
theorem a7j {sh:List (Nat×HObj)} {f:Nat→HV} (h0:f 0=.imm (.slice none 0 0)) (h1:f 1=.imm (.slice none 0 0)):Fz sh (.agg 2 f) (dcV Dc.zero):=.agg _ _ _ fun j hj=>by
 match j,hj with
 | 0,_=>rw [h0];exact .nil _ _ _ (by decide) _
 | 1,_=>rw [h1];exact .nil _ _ _ (by decide) _
theorem a9u (s:Bs) (r:List Bs) (i:Nat) (d:Dc):a3M (s::r) i d=match a2m s with
  | none=>(Dc.zero,((i+1:Nat):Int),2)
  | some l=>if l=[] then a3M r (i+1) d else if (a1P d l).2=0 then a3M r (i+1) (a1P d l).1 else (Dc.zero,((i+1:Nat):Int),(a1P d l).2):=rfl
theorem b4p (s:Bs) (hs:s.length≤1000000):a0q Tryz.prog 7 [a0p s] (c0S (declV s)):=by
 refine a0m Tryz.func7 rfl kr _ _ _ rfl 53 rfl rfl (fun w F=>?_)
 refine ru 10 ?_
 refine cll (c3i s hs) ?_
 refine ru 16 ?_
 refine wdc (fun hr0 hc0=>?_) (fun hr0 hc0=>?_)
 ·skip
  have hD:declV s=(Dc.zero,((a1w s).2.1:Int),(a1w s).2.2):=(by unfold declV;rw [if_pos (by simpa using hr0)])
  refine ru 12 ?_
  refine rt3 ?_
  rw [hD];exact a1r (a7j rfl rfl) (.imm _) (.imm _)
 have he0:(a1w s).2.2=0:=(by simpa using hr0);have hD:declV s=a3M (a1w s).1 0 Dc.zero:=(by unfold declV;rw [if_neg (by simpa using hr0)]);obtain ⟨hL1,hL2,hL3⟩:=a8E he0;obtain ⟨L_,hL_⟩:∃ L_,(a1w s).1=L_:=⟨_,rfl⟩;rw [hL_] at hD hL2 hL3
 refine ru 11 ?_
 refine rvl (a0M L_) ((by show a0M (a1w s).1=_;rw [hL_])) ?_
 refine ru 5 ?_
 refine (a1q 8 0 8101 9 46 (b5U []) (fun _ j=>match j with | 0=>.os 8101 2 0 0 | _=>.imm (.slice none 0 0)) rfl rfl (fun j hj=>by match j,hj with | 0,_=>exact .inl ⟨rfl,rfl⟩ | 1,_=>exact .inr rfl) (by decide) (by decide) (c':=3) rfl).wp ?_;refine (a1q 8 1 8102 4 58 (b5W []) (fun _=>dcG 2 0 3 0) rfl rfl (fun j hj=>by match j,hj with | 0,_=>exact .inr rfl | 1,_=>exact .inl ⟨rfl,rfl⟩) (by decide) (by decide) (c':=4) rfl).wp ?_
 refine a0n (α:=Nat×Dc×Nat×Nat) (fun x c=>⟨53,[(2,.v (.pt 2 0 0 0)),(8,.v (.pt 8 1 0 0)),(24,.v (a0M L_)),(25,.v (a0h (L_.length:Int))),(26,.v (a0h (x.1:Int)))],[(2,⟨0,1,2,26,0,fun _=>zDc⟩),(8,dcO 1 x.2.2.1 x.2.1.nodes.length x.2.2.2 x.2.1.marks.length),(8101,b6k x.2.2.1 x.2.1.nodes),(8102,b6o x.2.2.2 x.2.1.marks)],c⟩) (fun x=>x.1≤L_.length∧(x.2.1.nodes.length≤24∧x.2.1.marks.length≤8)∧a3M (L_.drop x.1) x.1 x.2.1=declV s) (fun x=>L_.length - x.1) ((0,Dc.zero,2,3)) (by exact ⟨Nat.zero_le _,⟨Nat.zero_le _,Nat.zero_le _⟩,hD.symm⟩) (a0c rfl (Nat.le_refl _) tsa (a0k.cons rfl (a2X (.refl _) (.refl _)) hsa)) (fun x c hx NhL1 hL1=>?_)
 revert hx hL1;obtain ⟨i,d,g1,g2⟩:=x;intro hx hL1;dsimp only at hx hL1 ⊢
 obtain ⟨ha1,ha2,ha3⟩:=hx
 refine ru 6 ?_
 refine wdc (fun hr1 hc1=>?_) (fun hr1 hc1=>?_)
 ·skip
  have hil:i < L_.length:=om;obtain ⟨v_,hv_⟩:∃ v_,L_.getD i []=v_:=⟨_,rfl⟩;have hd_:L_.drop i=v_::L_.drop (i+1):=(by rw [List.drop_eq_getElem_cons hil,←hv_,List.getD_eq_getElem?_getD,List.getElem?_eq_getElem hil];rfl);have hvl:v_.length≤65536:=(by have:=hL3 v_ (by rw [←hv_];exact a2k hil);omega);rw [hd_,a9u] at ha3;obtain ⟨o_,ho_⟩:∃ o_,a2m v_=o_:=⟨_,rfl⟩;have hsp:a0q Tryz.prog 17 [a0p v_] (b4T o_):=(by rw [←ho_];exact b7W v_ om);rw [ho_] at ha3
  refine ru 9 ?_
  refine rvl (a0p v_) ((by rw [←hv_];show a0p (L_.getD (((i:Nat):Int)).toNat [])=_;rw [show ((i:Nat):Int).toNat=i by omega])) ?_
  refine ru 5 ?_
  rcases o_ with _ | wl
  ·refine ru 2 ?_
   refine cll (hsp) ?_
   refine ru 19 ?_
   refine wdc (fun hr2 hc2=>?_) (fun hr2 hc2=>?_)
   ·skip
    exfalso;simp at hr2
   refine ru 8 ?_
   refine wdc (fun hr3 hc3=>?_) (fun hr3 hc3=>?_)
   ·skip
    have ha4:(Dc.zero,((i+1:Nat):Int),(2:Int))=declV s:=ha3
    refine ru 14 ?_
    refine a0f ?_
    refine ru 2 ?_
    refine rt3 ?_
    rw [←ha4];exact a1r (a7j rfl rfl) (Fz.eq (congrArg a0h (show ((i:Nat):Int)+1=((i+1:Nat):Int) from by omega))) (.imm _)
   exfalso;simp at hr3
  ·refine ru 2 ?_
   refine cll (hsp) ?_
   refine ru 19 ?_
   refine wdc (fun hr2 hc2=>?_) (fun hr2 hc2=>?_)
   ·skip
    have hne:wl≠[]:=(by rintro rfl;simp at hr2);have ha5:(if wl=[] then a3M (L_.drop (i+1)) (i+1) d else if (a1P d wl).2=0 then a3M (L_.drop (i+1)) (i+1) (a1P d wl).1 else (Dc.zero,((i+1:Nat):Int),(a1P d wl).2))=declV s:=ha3;rw [if_neg hne] at ha5;obtain ⟨hW1,hW2⟩:=a8y ho_;have hWj:=a8t ho_
    refine ru 2 ?_
    refine a0l 44 (xs:=[_,_]) (pre:=[(8,_),(8101,_),(8102,_)]) (c4C _ 1 g1 g2 d wl ha2 om (fun w hw=>by have:=hW2 w hw;omega) (by rw [hWj];omega)) ⟨rfl,⟨rfl,trivial⟩⟩ (a0g rfl (a0g rfl (a0g rfl a0e))) rfl rfl (fun x1 c1 hx1=>?_)
    obtain ⟨q1,q2⟩:=x1
    (try dsimp only)
    refine ru 9 ?_
    refine wdc (fun hr3 hc3=>?_) (fun hr3 hc3=>?_)
    ·skip
     have ha4:(Dc.zero,((i+1:Nat):Int),(a1P d wl).2)=declV s:=(by rw [if_neg (by simpa using hr3)] at ha5;exact ha5)
     refine ru 14 ?_
     refine a0f ?_
     refine ru 2 ?_
     refine rt3 ?_
     rw [←ha4];exact a1r (a7j rfl rfl) (Fz.eq (congrArg a0h (show ((i:Nat):Int)+1=((i+1:Nat):Int) from by omega))) (.imm _)
    have ha4:a3M (L_.drop (i+1)) (i+1) (a1P d wl).1=declV s:=(by rw [if_pos (by simpa using hr3)] at ha5;exact ha5)
    refine ru 7 ?_
    exact hL1 ((i+1,(a1P d wl).1,q1,q2)) _ _ (by (try dsimp only);exact ⟨by omega,b0A ha2,ha4⟩) (by (try dsimp only);omega) (a0c rfl (Nat.le_refl _) (tsr rfl (tsr rfl (tsr rfl (tsr rfl (a0K.cons rfl (a0Y om) a0K.nil))))) hsa)
   have hwe:wl=[]:=(by have h9:=hr2;simp at h9;first | exact h9 | exact List.eq_nil_of_length_eq_zero om);have ha4:a3M (L_.drop (i+1)) (i+1) d=declV s:=(by subst hwe;exact ha3)
   refine ru 8 ?_
   refine wdc (fun hr3 hc3=>?_) (fun hr3 hc3=>?_)
   ·skip
    exfalso;simp at hr3
   refine ru 7 ?_
   exact hL1 ((i+1,d,g1,g2)) _ _ (by (try dsimp only);exact ⟨by omega,ha2,ha4⟩) (by (try dsimp only);omega) (a0c rfl (Nat.le_refl _) (tsr rfl (tsr rfl (tsr rfl (tsr rfl (a0K.cons rfl (a0Y om) a0K.nil))))) hsa)
 rw [List.drop_of_length_le (show L_.length≤i by omega)] at ha3
 refine ru 2 ?_
 refine a0d ?_
 refine ru 11 ?_
 refine a5f rfl (a0Q rfl rfl ty_26.h rqc rfl rfl) (a0r rfl) (a0r rfl) [(8101,_),(8102,_)] rfl (a0g rfl (a0g rfl a0e)) ?_
 rw [←ha3];exact a1r (.agg _ _ _ (fun j hj=>by match j,hj with | 0,_=>exact a1x (l:=d.nodes) (enc:=a5B) (d:=default) (List.mem_cons_self ..) rfl rfl (Nat.le_refl _) (fun i j hi hj=>a4d _ j hj) | 1,_=>exact a1x (l:=d.marks) (enc:=a5E) (d:=default) (List.mem_cons_of_mem _ (List.mem_cons_self ..)) rfl rfl (Nat.le_refl _) (fun i j hi hj=>a4f _ j hj))) (.imm _) (.imm _)
theorem b7m (s:Bs) (hs:s.length≤1000000) (hb:200 < s.length):a0q Tryz.prog 92 [a0p s] (c5n none):=by
 refine a0m Tryz.func92 rfl kr _ _ _ rfl 64 rfl rfl (fun w F=>?_)
 refine ru 19 ?_
 refine wdc (fun hr0 hc0=>?_) (fun hr0 hc0=>?_)
 ·refine ru 8 ?_
  refine rt2 ?_
  exact a1y (.imm _) (.imm _)
 exfalso;omega
theorem b7B (s:Bs) (hs:s.length≤1000000):a0q Tryz.prog 92 [a0p s] (c5n (a3f s)):=by
 rcases Nat.lt_or_ge 200 s.length with h | h
 ·have hn:a3f s=none:=by rw [←b7g];unfold a8Z;rw [if_pos (by omega)]
  rw [hn];exact b7m s hs h
 ·exact c0P s h
theorem b4t (s:Bs) (hs:s.length≤1000000):a0q Tryz.prog 67 [a0p s] (a0h ((a1C s).getD (-1))):=by
 refine a0m Tryz.func67 rfl kr _ _ _ rfl 21 rfl rfl (fun w F=>?_)
 refine ru 8 ?_
 refine cll (b7B s hs) ?_
 refine ru 22 ?_
 refine wdc (fun hr0 hc0=>?_) (fun hr0 hc0=>?_)
 ·refine ru 7 ?_
  refine rt1 ?_
  exact b2n (by symm;unfold a1C;cases h:a3f s with | none=>rfl | some n=>rw [h] at hr0;simp at hr0;show ((if 0≤n∧n≤999 then some n else none).getD (-1):Int)=-1;rw [if_neg om];rfl)
 refine ru 9 ?_
 refine rt1 ?_
 exact b2n (by symm;unfold a1C;cases h:a3f s with | none=>rw [h] at hr0;simp at hr0 | some n=>rw [h] at hr0;simp at hr0;show ((if 0≤n∧n≤999 then some n else none).getD (-1):Int)=n;rw [if_pos om];rfl)
theorem c5O {s:Bs} {k:Nat} (h:k < s.length):bz s k=((s.getD k 0).toNat:Int):=by unfold bz;rw [if_pos h]
theorem c0e {s:Bs} {k:Nat} (h:k < s.length) (ha:alnumZ (bz s k)=false∨k=0∧smallZ (bz s 0)=false):b2W s=false:=by
 unfold b2W
 rcases ha with ha | ⟨_,ha⟩
 ·rw [show ((List.range s.length).all fun j=>alnumZ (bz s j))=false from by rw [List.all_eq_false];exact ⟨k,List.mem_range.2 h,by simp [ha]⟩];simp
 ·simp [ha]
theorem b7k {s:Bs} (h:∀ j,j < s.length→alnumZ (bz s j)=true) (h0:0 < s.length→smallZ (bz s 0)=true):b2W s=(decide (0 < s.length)&&decide (s.length < 13)):=by
 unfold b2W
 rw [show ((List.range s.length).all fun j=>alnumZ (bz s j))=true from by rw [List.all_eq_true];exact fun j hj=>h j (List.mem_range.1 hj)]
 by_cases h1:0 < s.length
 ·simp [h0 h1,h1]
 ·simp [h1]
theorem a9Q (s:Bs) (hs:s.length≤1000000):a0q Tryz.prog 45 [a0p s] (a0s (nameV s)):=by
 rw [←c0K]
 refine a0m Tryz.func45 rfl kr _ _ _ rfl 47 rfl rfl (fun w F=>?_)
 refine ru 12 ?_
 refine a0n (α:=Nat) (fun x c=>⟨47,[(0,.v (a0p s)),(3,.v (a0h x))],[],c⟩) (fun x=>x≤s.length∧(∀ j,j < x→alnumZ (bz s j)=true)∧(0 < x→smallZ (bz s 0)=true)) (fun x=>s.length - x) (0) (by exact ⟨Nat.zero_le _,(fun j h=>absurd h (Nat.not_lt_zero _)),fun h=>absurd h (Nat.not_lt_zero _)⟩) (a0c rfl (Nat.le_refl _) tsa a0k.nil) (fun k c hx NhL1 hL1=>?_)
 (try dsimp only at hx hL1 ⊢)
 obtain ⟨hk,ha,h0⟩:=hx
 refine ru 9 ?_
 refine wdc (fun hr0 hc0=>?_) (fun hr0 hc0=>?_)
 ·skip
  have hbz:=c5O (s:=s) (k:=k) om
  refine ru 41 ?_
  refine wdc (fun hr1 hc1=>?_) (fun hr1 hc1=>?_)
  ·refine ru 8 ?_
   refine a0f ?_
   refine ru 2 ?_
   refine rt1 ?_
   exact a1d (by symm;refine c0e (k:=k) om ?_;unfold alnumZ smallZ a0W;simp at hr1;rw [hbz];rcases Nat.eq_zero_or_pos k with hz | hz;(right;refine ⟨hz,?_⟩;subst hz;rw [hbz];simp;omega);(left;simp;omega))
  refine ru 8 ?_
  exact hL1 (k+1) _ _ (by (try dsimp only);exact ⟨by omega,(fun j hj=>by rcases Nat.lt_or_ge j k with h | h;exact ha j h;have hjk:j=k:=om;subst hjk;rw [hbz];unfold alnumZ smallZ a0W;simp at hr1 ⊢;omega),(fun _=>by rcases Nat.eq_zero_or_pos k with hz | hz;(subst hz;rw [hbz];unfold smallZ;simp at hr1 ⊢;omega);exact h0 hz)⟩) (by (try dsimp only);omega) (a0c rfl (Nat.le_refl _) tsa a0k.nil)
 refine ru 2 ?_
 refine a0d ?_
 refine ru 16 ?_
 refine rt1 ?_
 exact a1d (by rw [b7k (fun j hj=>ha j om) (fun h=>h0 om)];rw [Bool.eq_iff_iff];simp only [Bool.and_eq_true,decide_eq_true_eq];omega)
theorem a9X (g:Nat) (l:List Bs) (s:Bs) (hl:l.length≤1000000):a5F Tryz.prog 66 [.os 8001 g 0 l.length,a0p s] [(8001,a3U g l)] (a0s (decide (s∈l))) [(8001,a3U g l)]:=by
 intro c
 refine a0v Tryz.func66 rfl kr _ _ _ _ rfl 18 rfl rfl (fun X ok hX=>?_)
 refine ru 12 ?_
 refine a0n (α:=Nat) (fun x c=>⟨18,[(0,.v (.os 8001 g 0 l.length)),(1,.v (a0p s)),(5,.v (a0h x))],[(8001,a3U g l)],c⟩) (fun x=>x≤l.length∧∀ j,j < x→l.getD j []≠s) (fun x=>l.length - x) (0) (by exact ⟨Nat.zero_le _,fun j h=>absurd h (Nat.not_lt_zero _)⟩) (a0c rfl (Nat.le_refl _) tsa hsa) (fun k c hx NhL1 hL1=>?_)
 (try dsimp only at hx hL1 ⊢)
 obtain ⟨hk,hno⟩:=hx
 refine ru 9 ?_
 refine wdc (fun hr0 hc0=>?_) (fun hr0 hc0=>?_)
 ·refine ru 14 ?_
  refine wdc (fun hr1 hc1=>?_) (fun hr1 hc1=>?_)
  ·refine ru 8 ?_
   refine a0f ?_
   refine ru 2 ?_
   refine fr1 ok hX rw1 (()) (trivial) (by rw [decide_eq_true (show s∈l from by have h9:l.getD k []=s:=(by simpa using hr1);rw [←h9];exact a2k om)];exact kza) ?_
   exact ⟨⟨_,rfl,a1V⟩,trivial⟩
  refine ru 8 ?_
  exact hL1 (k+1) _ _ (by (try dsimp only);exact ⟨by omega,fun j hj=>by rcases Nat.lt_or_ge j k with h | h;exact hno j h;have hjk:j=k:=om;subst hjk;simpa using hr1⟩) (by (try dsimp only);omega) (a0c rfl (Nat.le_refl _) tsa hsa)
 refine ru 2 ?_
 refine a0d ?_
 refine ru 8 ?_
 refine fr1 ok hX rw1 (()) (trivial) (by rw [decide_eq_false (show ¬ s∈l from fun h=>by obtain ⟨j,hj,h9⟩:=List.getElem_of_mem h;exact hno j om (by rw [List.getD_eq_getElem?_getD,List.getElem?_eq_getElem hj];exact h9))];exact kza) ?_
 exact ⟨⟨_,rfl,a1V⟩,trivial⟩
theorem b2R (g:Nat) (l:List Bs) (s:Bs) (hl:l.length≤1000000):a5F Tryz.prog 66 [.os 8002 g 0 l.length,a0p s] [(8002,a3U g l)] (a0s (decide (s∈l))) [(8002,a3U g l)]:=by
 intro c
 refine a0v Tryz.func66 rfl kr _ _ _ _ rfl 18 rfl rfl (fun X ok hX=>?_)
 refine ru 12 ?_
 refine a0n (α:=Nat) (fun x c=>⟨18,[(0,.v (.os 8002 g 0 l.length)),(1,.v (a0p s)),(5,.v (a0h x))],[(8002,a3U g l)],c⟩) (fun x=>x≤l.length∧∀ j,j < x→l.getD j []≠s) (fun x=>l.length - x) (0) (by exact ⟨Nat.zero_le _,fun j h=>absurd h (Nat.not_lt_zero _)⟩) (a0c rfl (Nat.le_refl _) tsa hsa) (fun k c hx NhL1 hL1=>?_)
 (try dsimp only at hx hL1 ⊢)
 obtain ⟨hk,hno⟩:=hx
 refine ru 9 ?_
 refine wdc (fun hr0 hc0=>?_) (fun hr0 hc0=>?_)
 ·refine ru 14 ?_
  refine wdc (fun hr1 hc1=>?_) (fun hr1 hc1=>?_)
  ·refine ru 8 ?_
   refine a0f ?_
   refine ru 2 ?_
   refine fr1 ok hX rw1 (()) (trivial) (by rw [decide_eq_true (show s∈l from by have h9:l.getD k []=s:=(by simpa using hr1);rw [←h9];exact a2k om)];exact kza) ?_
   exact ⟨⟨_,rfl,a1V⟩,trivial⟩
  refine ru 8 ?_
  exact hL1 (k+1) _ _ (by (try dsimp only);exact ⟨by omega,fun j hj=>by rcases Nat.lt_or_ge j k with h | h;exact hno j h;have hjk:j=k:=om;subst hjk;simpa using hr1⟩) (by (try dsimp only);omega) (a0c rfl (Nat.le_refl _) tsa hsa)
 refine ru 2 ?_
 refine a0d ?_
 refine ru 8 ?_
 refine fr1 ok hX rw1 (()) (trivial) (by rw [decide_eq_false (show ¬ s∈l from fun h=>by obtain ⟨j,hj,h9⟩:=List.getElem_of_mem h;exact hno j om (by rw [List.getD_eq_getElem?_getD,List.getElem?_eq_getElem hj];exact h9))];exact kza) ?_
 exact ⟨⟨_,rfl,a1V⟩,trivial⟩
theorem b7C {c:UInt8}:∀ {s:Bs} {k:Nat},k < s.length→(∀ j,j < k→s.getD j 0≠c)→s.getD k 0=c→a4k c s=(s.take k,s.drop (k+1),true)
  | [],k,h,_,_=>absurd h (Nat.not_lt_zero _)
  | b :: l, 0, _, _, h => by
    have h:b=c:=h
    show (if b=c then _ else _)=_
    rw [if_pos h];rfl
  | b :: l, k + 1, h, hn, hc => by
    have hb:¬ b=c:=hn 0 (Nat.succ_pos _)
    show (if b=c then _ else _)=_
    rw [if_neg hb,b7C (s:=l) (k:=k) (Nat.lt_of_succ_lt_succ h) (fun j hj=>hn (j+1) (by omega)) hc];rfl
theorem b7e {c:UInt8}:∀ {s:Bs},(∀ j,j < s.length→s.getD j 0≠c)→a4k c s=(s,[],false)
  | [],_=>rfl
  | b :: l, h => by
    have hb:¬ b=c:=h 0 (Nat.succ_pos _)
    show (if b=c then _ else _)=_
    rw [if_neg hb,b7e (s:=l) (fun j hj=>h (j+1) (Nat.succ_lt_succ hj))]
theorem c1N {c:UInt8} {l:Bs} {f p:Nat} (hf:f≤p) (hp:p < l.length) (h:∀ b∈(l.drop f).take (p - f),b≠c) (hb:l.getD p 0≠c):∀ b∈(l.drop f).take (p+1 - f),b≠c:=by
 intro b hm
 have e:p+1 - f=p - f+1:=by omega
 have hlt:p - f < (l.drop f).length:=by rw [List.length_drop];omega
 rw [e,List.take_succ_eq_append_getElem hlt] at hm
 rcases List.mem_append.1 hm with hm | hm
 ·exact h b hm
 ·have h9:b=(l.drop f)[p - f]:=List.mem_singleton.1 hm
  rw [h9,List.getElem_drop]
  intro h8
  refine hb ?_
  rw [List.getD_eq_getElem?_getD,List.getElem?_eq_getElem hp,Option.getD_some,←h8]
  congr 1;omega
theorem b2S {c:UInt8} {l:Bs} {f p:Nat} (hf:f≤p) (hp:p≤l.length) (h:∀ b∈(l.drop f).take (p - f),b≠c) (hb:p < l.length→l.getD p 0=c):a0j c (l.drop f)=(l.drop f).take (p - f)::(if p < l.length then a0j c (l.drop (p+1)) else []):=by
 by_cases hlt:p < l.length
 ·rw [if_pos hlt]
  have e:l.drop f=(l.drop f).take (p - f)++c::l.drop (p+1):=by
   have h1:(l.drop f).drop (p - f)=l.drop p:=by rw [List.drop_drop];congr 1;omega
   have:=List.take_append_drop (p - f) (l.drop f)
   rw [h1,b3u hlt,hb hlt] at this
   exact this.symm
  have:=b2u c ((l.drop f).take (p - f)) (l.drop (p+1)) h
  rw [←e] at this
  exact this
 ·rw [if_neg hlt]
  have e:(l.drop f).take (p - f)=l.drop f:=List.take_of_length_le (by rw [List.length_drop];omega)
  rw [e] at h ⊢
  exact a8l c _ h
theorem c1h (s:Bs) (hs:s.length≤1000000):a0q Tryz.prog 65 [a0p s] (c3E (a4k 61 s)):=by
 refine a0m Tryz.func65 rfl kr _ _ _ rfl 24 rfl rfl (fun w F=>?_)
 refine ru 14 ?_
 refine a0n (α:=Nat) (fun x c=>⟨24,[(0,.v (a0p s)),(5,.v (a0h x))],[],c⟩) (fun x=>x≤s.length∧∀ j,j < x→s.getD j 0≠61) (fun x=>s.length - x) (0) (by exact ⟨Nat.zero_le _,fun j h=>absurd h (Nat.not_lt_zero _)⟩) (a0c rfl (Nat.le_refl _) tsa a0k.nil) (fun k c hx NhL1 hL1=>?_)
 (try dsimp only at hx hL1 ⊢)
 obtain ⟨hk,hno⟩:=hx
 refine ru 9 ?_
 refine wdc (fun hr0 hc0=>?_) (fun hr0 hc0=>?_)
 ·refine ru 12 ?_
  refine wdc (fun hr1 hc1=>?_) (fun hr1 hc1=>?_)
  ·refine ru 8 ?_
   refine d0 7 (HOp.val (v':=a0p (s.drop (k+1))) (a7f (by kernel_rfl) rfl (.inr ⟨_,_,rfl,rfl⟩) (.inl ⟨rfl,rfl⟩) omy omy omy) ((by show a0p (List.take ((s.length:Int).toNat - ((k:Int)+1).toNat) (s.drop ((k:Int)+1).toNat))=_;rw [show ((k:Int)+1).toNat=k+1 by omega,List.take_of_length_le (by rw [List.length_drop];omega)]))) ?_
   refine ru 8 ?_
   refine a0f ?_
   refine ru 2 ?_
   refine rt3 ?_
   rw [b7C om hno (b4r (by show _=61;omega))];exact a1r (.imm _) (.imm _) (.imm _)
  refine ru 8 ?_
  exact hL1 (k+1) _ _ (by (try dsimp only);exact ⟨by omega,fun j hj=>by rcases Nat.lt_or_ge j k with h | h;exact hno j h;have hjk:j=k:=om;subst hjk;exact fun h=>hc1 (by rw [h];rfl)⟩) (by (try dsimp only);omega) (a0c rfl (Nat.le_refl _) tsa a0k.nil)
 refine ru 2 ?_
 refine a0d ?_
 refine ru 11 ?_
 refine rt3 ?_
 rw [b7e (fun j hj=>hno j om)];exact a1r (.imm _) (.imm _) (.imm _)
theorem b8N (s:Bs) (hs:s.length≤1000000):a0q Tryz.prog 68 [a0p s] (t3 (a0s ((a0Z s).getD (false,[])).1) (a0M ((a0Z s).getD (false,[])).2) (a0s (a0Z s).isSome)):=by
 refine a0m Tryz.func68 rfl kr _ _ _ rfl 50 rfl rfl (fun w F=>?_)
 refine ru 14 ?_
 refine wdc (fun hr0 hc0=>?_) (fun hr0 hc0=>?_)
 ·skip
  have hl:a0Z s=some (true,[]):=(by unfold a0Z;rw [if_pos (by simpa using hr0)])
  refine ru 9 ?_
  refine rt3 ?_
  rw [hl];exact a1r (.imm _) (.nil _ _ _ (by decide) _) (.imm _)
 have hl:a0Z s=(b3r s).map (fun l=>(false,l)):=(by unfold a0Z;rw [if_neg (by simpa using hr0)])
 refine ru 19 ?_
 refine a4v 5 8001 1 9 ((b8K [])) rfl (by decide) rfl (c':=1) rfl ?_
 refine a0n (α:=Nat×List Bs×Nat×Nat) (fun x c=>⟨50,[(0,.v (a0p s)),(5,.v (.os 8001 x.2.2.2 0 x.2.1.length)),(6,.v (a0h x.2.2.1)),(7,.v (a0h x.1))],[(8001,a3U x.2.2.2 x.2.1)],c⟩) (fun x=>(x.1≤s.length∧x.2.2.1≤x.1∧x.2.1.length≤x.2.2.1∧(∀ b∈(s.drop x.2.2.1).take (x.1 - x.2.2.1),b≠44)∧a8M (a0j 44 (s.drop x.2.2.1)) x.2.1=b3r s)∨(x.1=s.length+1∧x.2.1.length≤x.1∧b3r s=some x.2.1)) (fun x=>s.length+1 - x.1) ((0,[],0,0)) (by exact .inl ⟨Nat.zero_le _,Nat.le_refl _,Nat.le_refl _,(fun b h=>by simp at h),rfl⟩) (a0c rfl (Nat.le_refl _) tsa hsa) (fun x c hx NhL1 hL1=>?_)
 revert hx hL1;obtain ⟨p,out,f,g⟩:=x;intro hx hL1;dsimp only at hx hL1 ⊢
 refine ru 9 ?_
 refine wdc (fun hr1 hc1=>?_) (fun hr1 hc1=>?_)
 ·skip
  obtain ⟨hp,hf,ho,hno,hF⟩:=hx.resolve_right (fun h=>by omega)
  refine ru 19 ?_
  refine wdc (fun hr2 hc2=>?_) (fun hr2 hc2=>?_)
  ·refine ru 9 ?_
   exact hL1 ((p+1,out,f,g)) _ _ (by (try dsimp only);exact .inl ⟨by omega,by omega,ho,c1N hf om hno (fun h=>by have h9:=hc2.2;rw [h] at h9;exact h9 rfl),hF⟩) (by (try dsimp only);omega) (a0c rfl (Nat.le_refl _) tsa hsa)
  have hS:=b2S hf hp hno (fun h=>b4r (by rcases Bool.and_eq_false_iff.1 hc2 with h9 | h9;(exact absurd (show (p:Int) < s.length by omega) (of_decide_eq_false h9));(have h8:=bne_eq_false_iff_eq.1 h9;show _=44;omega)));obtain ⟨w_,hw_⟩:∃ w_,(s.drop f).take (p - f)=w_:=⟨_,rfl⟩;have hwl:w_.length≤1000000:=(by rw [←hw_,List.length_take,List.length_drop];omega);rw [hS,hw_] at hF
  refine ru 9 ?_
  refine rvl (a0p w_) ((by rw [←hw_];first | done | rfl)) ?_
  refine cll (a9Q w_ hwl) ?_
  refine ru 7 ?_
  refine ry (a0p w_) rfl (fun hb=>(by rw [←hw_];first | done | rfl)) ?_
  first
  | refine a4x 38 6 32 false _ (fun hb=>a0B (xs:=[_,_]) (pre:=[(8001,_)]) (a9X g out w_ (by omega)) ⟨rfl,⟨rfl,trivial⟩⟩) rfl rfl rfl rfl (a0g rfl a0e) rfl rfl rfl ?_
  | refine a3S 38 6 32 _ _ false _ (fun hb=>a0B (xs:=[_,_]) (pre:=[(8001,_)]) (a9X g out w_ (by omega)) ⟨rfl,⟨rfl,trivial⟩⟩) rfl rfl rfl rfl (a0g rfl a0e) rfl rfl rfl ?_
  refine ru 3 ?_
  refine wdc (fun hr3 hc3=>?_) (fun hr3 hc3=>?_)
  ·skip
   have hnn:b3r s=none:=(by rw [←hF];unfold a8M;rw [if_neg (fun hh=>by rcases hc3 with h | h;(rw [hh.1] at h;cases h);exact hh.2 h)])
   refine ru 11 ?_
   refine a0f ?_
   refine ru 2 ?_
   refine rt3 ?_
   rw [hl,hnn];exact a1r (.imm _) (.nil _ _ _ (by decide) _) (.imm _)
  have hx4:a8M (if p < s.length then a0j 44 (s.drop (p+1)) else []) (out++[w_])=b3r s:=(by rw [←hF];show _=(if nameV w_=true∧w_∉out then _ else _);exact (if_pos (by simpa using hc3)).symm)
  refine ru 9 ?_
  refine rvl (a0p w_) ((by rw [←hw_];first | done | rfl)) ?_
  refine a0t 45 (a0b (id:=45) (hs:=[_]) ei_44.h omx rfl omx ⟨rfl,rfl,rfl,rfl,trivial⟩) rfl rfl a0e rfl rfl (c':=c+1) rfl ?_
  first
  | refine a0t 46 (a0a ei_44.h omy rfl omy omy (a0u rfl omy) omy rfl) rfl rfl (a0g rfl (a0C rfl)) rfl rfl (c':=c+2) rfl ?_
  | refine a0t 46 (a0a ei_44.h omy rfl omy omy (a0G rfl omy) omy rfl) rfl rfl (a0g rfl (a0C rfl)) rfl rfl (c':=c+2) rfl ?_
  | refine a0t 46 (a0a ei_44.h omy rfl omy omy (a0F rfl) omy rfl) rfl rfl (a0g rfl a0e) rfl rfl (c':=c+2) rfl ?_
  | refine a0t 46 (a0a ei_44.h omy rfl omy omy (a0w 1 (fun _ _=>default) rfl) omy rfl) rfl rfl (a0g rfl a0e) rfl rfl (c':=c+2) rfl ?_
  refine ru 15 ?_
  exact hL1 ((p+1,out++[w_],p+1,_)) _ _ (by (try dsimp only);(by_cases hlt:p < s.length;(rw [if_pos hlt] at hx4;exact .inl ⟨by omega,Nat.le_refl _,by simp;omega,(fun b h=>by simp at h),hx4⟩);(rw [if_neg hlt] at hx4;exact .inr ⟨by omega,by simp;omega,hx4.symm⟩))) (by (try dsimp only);omega) (a0c rfl (Nat.le_refl _) (tsr rfl (a0K.cons rfl (a1N (by simp)) tsa)) (a0k.cons rfl (a0x (enc:=fun x _=>a0p x) (d:=[]) rfl (fun i j hi hj=>.refl _) (fun j hj=>.refl _)) a0k.nil))
 refine ru 2 ?_
 refine a0d ?_
 refine ru 3 ?_
 have hx5:b3r s=some out:=(by rcases hx with h | h;omega;exact h.2.2)
 refine ru 8 ?_
 refine a5f rfl (a0r rfl) (a0r rfl) (a0r rfl) [(8001,_)] rfl (a0g rfl a0e) ?_
 rw [hl,hx5];exact a1r (.imm _) (a1x (l:=out) (enc:=fun x _=>a0p x) (d:=[]) (List.mem_cons_self ..) rfl rfl (Nat.le_refl _) (fun i j hi hj=>.imm _)) (.imm _)
theorem a5y:∀ {l:List Bs} {w:Bs},l≠[]→joinL (l++[w])=joinL l++32::w
  | [],_,h=>absurd rfl h
  | [a],w,_=>rfl
  | a :: b :: r, w, _ => by
    show a++32::joinL (b::r++[w])=(a++32::joinL (b::r))++32::w
    rw [a5y (l:=b::r) (fun h=>by cases h)];simp
theorem b5I {l:List Bs} {k:Nat} (h:k < l.length):joinL (l.take (k+1))=(if 0 < k then joinL (l.take k)++[32] else joinL (l.take k))++l.getD k []:=by
 rw [List.take_succ_eq_append_getElem h,List.getD_eq_getElem?_getD,List.getElem?_eq_getElem h,Option.getD_some]
 by_cases h0:0 < k
 ·rw [if_pos h0,a5y (by intro h9;have:=congrArg List.length h9;rw [List.length_take,List.length_nil] at this;omega)];simp
 ·have:k=0:=by omega
  subst this;rfl
theorem a5g:∀ (l:List Bs) (k:Nat),(joinL (l.take k)).length≤(joinL l).length
  | [],k=>by simp
  | a::l,0=>Nat.zero_le _
  | [a],k+1=>by simp
  | a::b::l,1=>by show a.length≤(a++32::joinL (b::l)).length;simp
  | a :: b :: l, k + 2 => by
    have:=a5g (b::l) (k+1)
    show (a++32::joinL ((b::l).take (k+1))).length≤(a++32::joinL (b::l)).length
    simp only [List.length_append,List.length_cons] at this ⊢;omega
theorem c3v (l:List Bs) (hl:l.length≤1000000) (hj:(joinL l).length≤1000000):a0q Tryz.prog 70 [a0M l] (a0p (joinL l)):=by
 refine a0m Tryz.func70 rfl kr _ _ _ rfl 22 rfl rfl (fun w F=>?_)
 refine ru 17 ?_
 refine a0n (α:=Nat) (fun x c=>⟨22,[(0,.v (a0M l)),(3,.v (a0p (joinL (l.take x)))),(4,.v (a0h x))],[],c⟩) (fun x=>x≤l.length) (fun x=>l.length - x) (0) (by exact Nat.zero_le _) (a0c rfl (Nat.le_refl _) tsa a0k.nil) (fun k c hx NhL1 hL1=>?_)
 (try dsimp only at hx hL1 ⊢)
 refine ru 9 ?_
 refine wdc (fun hr0 hc0=>?_) (fun hr0 hc0=>?_)
 ·skip
  have hT:=b5I (l:=l) (k:=k) om;have hT1:=a5g l (k+1);have hT0:(joinL (l.take k)).length+1≤9223372036854775807:=(by have:=a5g l k;omega)
  refine ru 11 ?_
  refine wdc (fun hr1 hc1=>?_) (fun hr1 hc1=>?_)
  ·skip
   have hT2:joinL (l.take (k+1))=joinL (l.take k)++[32]++l.getD k []:=(by rw [hT,if_pos om]);have hLn:(joinL (l.take k)++[32]).length+(l.getD k []).length≤1000000:=(by rw [←List.length_append,←hT2];omega)
   refine ru 12 ?_
   refine rvl (a0p (l.getD k [])) (rfl) ?_
   refine ru 1 ?_
   refine rvl (a0p (joinL (l.take (k+1)))) ((by rw [hT2])) ?_
   refine ru 9 ?_
   exact hL1 (k+1) _ _ (by (try dsimp only);omega) (by (try dsimp only);omega) (a0c rfl (Nat.le_refl _) tsa a0k.nil)
  have hk0:¬ 0 < k:=om;have hT2:joinL (l.take (k+1))=joinL (l.take k)++l.getD k []:=(by rw [hT,if_neg hk0]);have hLn:(joinL (l.take k)).length+(l.getD k []).length≤1000000:=(by rw [←List.length_append,←hT2];omega)
  refine ru 8 ?_
  refine rvl (a0p (l.getD k [])) (rfl) ?_
  refine ru 1 ?_
  refine rvl (a0p (joinL (l.take (k+1)))) ((by rw [hT2])) ?_
  refine ru 9 ?_
  exact hL1 (k+1) _ _ (by (try dsimp only);omega) (by (try dsimp only);omega) (a0c rfl (Nat.le_refl _) tsa a0k.nil)
 refine ru 2 ?_
 refine a0d ?_
 refine ru 9 ?_
 refine rt1 ?_
 rw [List.take_of_length_le om];exact .imm _
theorem a7N (s:Bs):0≤(a1C s).getD (-1)↔(a1C s).isSome=true:=by
  unfold a1C
  cases a3f s with
  | none=>simp
  | some n =>
    show 0≤(if 0≤n∧n≤999 then some n else none).getD (-1)↔(if 0≤n∧n≤999 then some n else none).isSome=true
    split <;> simp;omega
theorem b4l {s:Bs} (h:(a1C s).isSome=true):(a1C s).getD (-1)=(a3f s).getD 0:=by
  unfold a1C at h ⊢
  cases hn:a3f s with
  | none=>rw [hn] at h;cases h
  | some n =>
    rw [hn] at h
    have h:(if 0≤n∧n≤999 then some n else none).isSome=true:=h
    show (if 0≤n∧n≤999 then some n else none).getD (-1)=n
    split at h
    · rw [if_pos (by assumption)];rfl
    · cases h
@[reducible] def rmO (m:Mk):HObj:=⟨1,1,4,57,0,fun _=>a5E m⟩
theorem c3h (l:List Bs) (hl:2≤l.length∧l.length≤100000) (hw:∀ w∈l,w.length≤100000):a0q Tryz.prog 46 [a0M l] (c6d (a5i l)):=by
 refine a0m Tryz.func46 rfl kr _ _ _ rfl 75 rfl rfl (fun w F=>?_)
 refine ru 11 ?_
 refine rvl (a0p (l.getD 1 [])) (rfl) ?_
 refine ru 17 ?_
 refine a4v 5 8002 1 9 ((b8K [])) rfl (by decide) rfl (c':=4) rfl ?_
 refine a0n (α:=Nat×Mk×List Bs×Nat) (fun x c=>⟨75,[(0,.v (a0M l)),(2,.v (.pt 2 0 0 0)),(4,.v (.pt 4 1 0 0)),(5,.v (.os 8002 x.2.2.2 0 x.2.2.1.length)),(6,.v (a0h (x.1:Int)))],[(2,⟨0,1,4,57,0,fun _=>zMk []⟩),(4,rmO x.2.1),(8002,a3U x.2.2.2 x.2.2.1)],c⟩) (fun x=>2≤x.1∧x.1≤l.length∧x.2.2.1.length+2=x.1∧b0f (l.drop x.1) x.2.2.1 x.2.1=a5i l) (fun x=>l.length - x.1) ((2,⟨l.getD 1 [],0,false,[]⟩,[],3)) (by exact ⟨Nat.le_refl _,hl.1,rfl,rfl⟩) (a0c rfl (Nat.le_refl _) tsa (a0k.cons rfl (b0J (by exact qm4 (.refl _) (.refl _) (.refl _) (.refl _))) (a0k.cons rfl (b0J (by exact qm4 (.refl _) (.refl _) (.refl _) (.nil _ _ _ (by decide) _))) hsa))) (fun x c hx NhL1 hL1=>?_)
 revert hx hL1;obtain ⟨i,m,met,gm⟩:=x;intro hx hL1;dsimp only at hx hL1 ⊢
 obtain ⟨ha0,ha1,ha4,ha3⟩:=hx
 refine ru 9 ?_
 refine wdc (fun hr0 hc0=>?_) (fun hr0 hc0=>?_)
 ·skip
  have hil:i < l.length:=om;obtain ⟨v_,hv_⟩:∃ v_,l.getD i []=v_:=⟨_,rfl⟩;have hd_:l.drop i=v_::l.drop (i+1):=(by rw [List.drop_eq_getElem_cons hil,←hv_,List.getD_eq_getElem?_getD,List.getElem?_eq_getElem hil];rfl);have hvl:v_.length≤1000000:=(by have:=hw v_ (by rw [←hv_];exact a2k hil);omega);rw [hd_] at ha3;obtain ⟨⟨W_,V_,H_⟩,hC_⟩:∃ q,a4k 61 v_=q:=⟨_,rfl⟩;have hcut:a0q Tryz.prog 65 [a0p v_] (c3E (W_,V_,H_)):=(by rw [←hC_];exact c1h v_ hvl);have hVl:V_.length≤1000000:=(by have:=a4z 61 v_;rw [hC_] at this;have h9:V_.length≤v_.length:=this;omega)
  refine ru 10 ?_
  refine rvl (a0p v_) ((by rw [←hv_];first | done | rfl)) ?_
  refine cll (hcut) ?_
  refine ru 15 ?_
  first
  | refine a4x 37 1 34 true _ (fun hb=>a0B (xs:=[_,_]) (pre:=[(8002,_)]) (b2R gm met W_ (by omega)) ⟨rfl,⟨rfl,trivial⟩⟩) rfl rfl rfl rfl (a0g rfl a0e) rfl rfl rfl ?_
  | refine a3S 37 1 34 _ _ true _ (fun hb=>a0B (xs:=[_,_]) (pre:=[(8002,_)]) (b2R gm met W_ (by omega)) ⟨rfl,⟨rfl,trivial⟩⟩) rfl rfl rfl rfl (a0g rfl a0e) rfl rfl rfl ?_
  refine ru 9 ?_
  refine a0t 42 (a0b (id:=42) (hs:=[_]) ei_44.h omx rfl omx ⟨rfl,rfl,rfl,rfl,trivial⟩) rfl rfl a0e rfl rfl (c':=c+1) rfl ?_
  first
  | refine a0t 43 (a0a ei_44.h omy rfl omy omy (a0u rfl omy) omy rfl) rfl rfl (a0g rfl (a0C rfl)) rfl rfl (c':=c+2) rfl ?_
  | refine a0t 43 (a0a ei_44.h omy rfl omy omy (a0G rfl omy) omy rfl) rfl rfl (a0g rfl (a0C rfl)) rfl rfl (c':=c+2) rfl ?_
  | refine a0t 43 (a0a ei_44.h omy rfl omy omy (a0F rfl) omy rfl) rfl rfl (a0g rfl a0e) rfl rfl (c':=c+2) rfl ?_
  | refine a0t 43 (a0a ei_44.h omy rfl omy omy (a0w 1 (fun _ _=>default) rfl) omy rfl) rfl rfl (a0g rfl a0e) rfl rfl (c':=c+2) rfl ?_
  refine ru 10 ?_
  refine wdc (fun hr1 hc1=>?_) (fun hr1 hc1=>?_)
  ·skip
   have hWv:W_=a7O:=(by simpa using hr1)
   refine ru 3 ?_
   refine cll (b4t V_ hVl) ?_
   refine ru 20 ?_
   refine wdc (fun hr3 hc3=>?_) (fun hr3 hc3=>?_)
   ·skip
    have hR:a3p W_ m V_=({ m with val:=(a3f V_).getD 0 },(a1C V_).isSome):=(by unfold a3p;rw [if_pos hWv]);have hq3:=hr3;have hbad:=a4r (r:=l.drop (i+1)) (met:=met) (m:=m) hC_ (by rw [hR];have hvd:=a7N V_;cases H_ <;> by_cases hm:W_∈met <;> cases hs:(a1C V_).isSome <;> simp_all)
    refine ru 10 ?_
    refine a0f ?_
    refine ru 2 ?_
    refine rt2 ?_
    rw [←ha3,hbad];exact a1y (.agg _ _ _ (by exact qm4 (.imm _) (.imm _) (.imm _) (.nil _ _ _ (by decide) _))) (.imm _)
   have hR:a3p W_ m V_=({ m with val:=(a3f V_).getD 0 },(a1C V_).isSome):=(by unfold a3p;rw [if_pos hWv]);have hq3:=hr3;have hvs:(a1C V_).isSome=true:=(by rw [←a7N];simp at hq3;omega);have hon:=a7J (r:=l.drop (i+1)) (met:=met) (m:=m) hC_ (by rw [hR];cases H_ <;> by_cases hm:W_∈met <;> simp_all);rw [ha3,hR] at hon
   refine ru 8 ?_
   exact hL1 ((i+1,{ m with val:=(a3f V_).getD 0 },met++[W_],_)) _ _ (by (try dsimp only);exact ⟨by omega,by omega,by simp;omega,hon.symm⟩) (by (try dsimp only);omega) (a0c rfl (Nat.le_refl _) (tsr rfl (tsr rfl (tsr rfl (a0K.cons rfl (a1N (by simp)) tsa)))) (hsr rfl (a0k.cons rfl (b0J (by exact qm4 (.refl _) (a0Y (b4l hvs)) (.refl _) (.refl _))) (a0k.cons rfl (a0x (enc:=fun x _=>a0p x) (d:=[]) rfl (fun i j hi hj=>.refl _) (fun j hj=>.refl _)) a0k.nil))))
  have hWv:W_≠a7O:=(by simpa using hr1)
  refine ru 6 ?_
  refine wdc (fun hr2 hc2=>?_) (fun hr2 hc2=>?_)
  ·skip
   have hWb:W_=a3l:=(by simpa using hr2)
   refine ru 3 ?_
   refine cll (b8N V_ hVl) ?_
   refine ru 37 ?_
   refine wdc (fun hr3 hc3=>?_) (fun hr3 hc3=>?_)
   ·skip
    have hR:a3p W_ m V_=({ m with all:=((a0Z V_).getD (false,[])).1,bars:=((a0Z V_).getD (false,[])).2 },(a0Z V_).isSome):=(by unfold a3p;rw [if_neg hWv,if_pos hWb]);have hq3:=hr3;have hbad:=a4r (r:=l.drop (i+1)) (met:=met) (m:=m) hC_ (by rw [hR];cases H_ <;> by_cases hm:W_∈met <;> cases hs:(a0Z V_).isSome <;> simp_all)
    refine ru 10 ?_
    refine a0f ?_
    refine ru 2 ?_
    refine rt2 ?_
    rw [←ha3,hbad];exact a1y (.agg _ _ _ (by exact qm4 (.imm _) (.imm _) (.imm _) (.nil _ _ _ (by decide) _))) (.imm _)
   have hR:a3p W_ m V_=({ m with all:=((a0Z V_).getD (false,[])).1,bars:=((a0Z V_).getD (false,[])).2 },(a0Z V_).isSome):=(by unfold a3p;rw [if_neg hWv,if_pos hWb]);have hq3:=hr3;have hon:=a7J (r:=l.drop (i+1)) (met:=met) (m:=m) hC_ (by rw [hR];cases H_ <;> by_cases hm:W_∈met <;> cases hs:(a0Z V_).isSome <;> simp_all);rw [ha3,hR] at hon
   refine ru 8 ?_
   exact hL1 ((i+1,{ m with all:=((a0Z V_).getD (false,[])).1,bars:=((a0Z V_).getD (false,[])).2 },met++[W_],_)) _ _ (by (try dsimp only);exact ⟨by omega,by omega,by simp;omega,hon.symm⟩) (by (try dsimp only);omega) (a0c rfl (Nat.le_refl _) (tsr rfl (tsr rfl (tsr rfl (a0K.cons rfl (a1N (by simp)) tsa)))) (hsr rfl (a0k.cons rfl (b0J (by exact qm4 (.refl _) (.refl _) (.refl _) (.refl _))) (a0k.cons rfl (a0x (enc:=fun x _=>a0p x) (d:=[]) rfl (fun i j hi hj=>.refl _) (fun j hj=>.refl _)) a0k.nil))))
  have hWb:W_≠a3l:=(by simpa using hr2)
  refine ru 10 ?_
  refine wdc (fun hr3 hc3=>?_) (fun hr3 hc3=>?_)
  ·skip
   have hR:a3p W_ m V_=(m,false):=(by unfold a3p;rw [if_neg hWv,if_neg hWb]);have hbad:=a4r (r:=l.drop (i+1)) (met:=met) (m:=m) hC_ (by rw [hR];exact .inr (.inl rfl))
   refine ru 10 ?_
   refine a0f ?_
   refine ru 2 ?_
   refine rt2 ?_
   rw [←ha3,hbad];exact a1y (.agg _ _ _ (by exact qm4 (.imm _) (.imm _) (.imm _) (.nil _ _ _ (by decide) _))) (.imm _)
  exfalso;simp at hr3
 rw [List.drop_of_length_le (show l.length≤i by omega)] at ha3
 refine ru 2 ?_
 refine a0d ?_
 refine ru 10 ?_
 refine rt2 ?_
 rw [←ha3];exact a1y (.agg _ _ _ (by exact qm4 (.imm _) (.imm _) (.imm _) (show Fz _ (a0M m.bars) (a0M m.bars) from .sl _ _ _ _ fun _ _ _ _=>.imm _))) (.imm _)
@[reducible] def c5Z (e:List Pt) (b:Nat) (t:T):Prop:=∀ bin,a0q Tryz.prog 97 [a5N e,a0h ((b+t.size - 1:Nat):Int),a0s bin] (a3B (a1n bin t.sig))
theorem c2j (k:Int) (ts:List T) (i:Nat) (h:i < ts.length):(ts.getD i default).sig.length≤(T.sigL k true ts).length:=by
 have:=a2C (k:=k) h
 have h2:=(a3w (inB k (ts.getD i default).kind) (ts.getD i default).sig).2
 omega
theorem b1r:∀ ts:List T,ts.length≤T.sizeL ts
 | []=>Nat.zero_le _
 | t::ts=>by have:=b1r ts;have:=t.size_pos;simp only [List.length_cons,T.sizeL];omega
theorem c0F {t:T}:t.kidsT.length≤t.size:=by
 cases t with
 | name s=>exact Nat.zero_le _
 | times lo hi t=>simp [T.kidsT,T.size]
 | many k ts=>have:=b1r ts;simp only [T.kidsT,T.size];omega
mutual
theorem a8p (e:List Pt) (he:e.length≤100000):∀ (t:T) (b:Nat),t.ok=true→t.sig.length≤100000→AtP e b (T.flat b t)→c5Z e b t
  | .name s,b,hok,hl,hat=>b0F e he b (.name s) hok hat (Nat.zero_le _) hl (fun i hi=>absurd hi (Nat.not_lt_zero _))
  | .times lo hi t, b, hok, hl, hat => by
    have hok':t.ok=true:=by simp only [T.ok,Bool.and_eq_true] at hok;exact hok.2
    have hl':t.sig.length≤100000:=by
      have h2:=(a3w (inB 4 t.kind) t.sig).2
      simp only [T.sig,List.length_append] at hl;omega
    refine b0F e he b (.times lo hi t) hok hat (by simp [T.kidsT]) hl (fun i hi bin=>?_)
    obtain rfl:i=0:=by simpa [T.kidsT] using hi
    have:=a8p e he t b hok' hl' (by simp only [T.flat] at hat;exact a6f hat) bin
    simpa [T.kidsT,T.sizeL] using this
  | .many k ts, b, hok, hl, hat => by
    have hok':T.okL ts=true:=by simp only [T.ok,Bool.and_eq_true] at hok;exact hok.2
    have hkl:(T.many k ts).kidsT.length≤100000:=by
      have:=c0F (t:=.many k ts);have:=(a3Y hat).2;omega
    exact b0F e he b (.many k ts) hok hat hkl hl (fun i hi bin=>a9z e he ts hok' (fun j hj=>Nat.le_trans (c2j k ts j hj) hl) i hi _ (b3Z hat hi) bin)
theorem a9z (e:List Pt) (he:e.length≤100000):∀ ts:List T,T.okL ts=true→(∀ j,j < ts.length→(ts.getD j default).sig.length≤100000)→∀ i,i < ts.length→∀ b,AtP e b (T.flat b (ts.getD i default))→c5Z e b (ts.getD i default)
  | [],_,_,i,hi=>absurd hi (Nat.not_lt_zero _)
  | t :: ts, hok, hl, i, hi => fun b hat => by
    simp only [T.okL,Bool.and_eq_true] at hok
    cases i with
    | zero=>exact a8p e he t b hok.1 (hl 0 (by simp)) hat
    | succ i=>exact a9z e he ts hok.2 (fun j hj=>by have:=hl (j+1) (by simpa using hj);simpa using this) i (by simpa using hi) b (by simpa using hat)
end
theorem b6h (t:T) (h:t.ok=true) (hs:t.size≤250):a0q Tryz.prog 71 [a5N (T.flat 0 t)] (a0p (a6N t.sig)):=by
 have hfl:=T.flat_len 0 t
 have hsl:=a8b t h
 have hps:=t.size_pos
 have hat:AtP (T.flat 0 t) 0 (T.flat 0 t):=⟨[],[],by simp,rfl⟩
 refine a0m Tryz.func71 rfl kr _ _ _ rfl 9 rfl rfl (fun w F=>?_)
 refine ru 11 ?_
 refine rvl (a0h ((0+t.size - 1:Nat):Int)) (congrArg a0h (show ((T.flat 0 t).length:Int) - 1=((0+t.size - 1:Nat):Int) by omega)) ?_
 refine cll (a8p (T.flat 0 t) om t 0 h om hat false) ?_
 refine cll (b3B t.sig om (fun x hx=>(c0p t h x hx).ok)) ?_
 refine ru 4 ?_
 refine rt1 ?_
 exact Frz.fz
set_option maxHeartbeats 4000000
theorem b1M {s:Bs} (h:(exprV s).1=[]):exprS s=[]:=by
 unfold exprS
 refine dif_neg fun ⟨t,h1,h2,h3⟩=>?_
 rw [h3] at h
 have:=T.size_pos t
 rw [←T.flat_len 0 t,show T.flat 0 t=[] from h] at this
 exact absurd this (Nat.lt_irrefl 0)
theorem c3e (s:Bs) (hn:(exprV s).1≠[]):a0q Tryz.prog 71 [a5N (exprV s).1] (a0p (exprS s)):=by
 have h:∃ t:T,t.ok=true∧t.size≤250∧exprV s=(T.flat 0 t,0,0):=(a9k s).resolve_left hn
 unfold exprS
 rw [dif_pos h]
 obtain ⟨h1,h2,h3⟩:=Classical.choose_spec h
 have:=b6h (Classical.choose h) h1 h2
 exact (congrArg (fun q:List Pt=>a0q Tryz.prog 71 [a5N q] (a0p (a6N (Classical.choose h).sig))) (congrArg Prod.fst h3)).mpr this
@[reducible] def rnO (n:Nd) (g:Nat):HObj:=⟨1,1,9,54,0,fun _=>ndG n g n.groups.length⟩
theorem c1Q (l:List Bs) (hl:2≤l.length∧l.length≤100000) (hw:∀ w∈l,w.length≤100000) (hj:(joinL l).length≤1000000):a0q Tryz.prog 47 [a0M l] (c6a (a3s l)):=by
 refine a0m Tryz.func47 rfl kr _ _ _ rfl 151 rfl rfl (fun w F=>?_)
 refine ru 11 ?_
 refine rvl (a0p (l.getD 1 [])) (rfl) ?_
 refine ru 17 ?_
 refine a4v 5 8002 1 9 (b8K []) rfl (by decide) rfl (c':=4) rfl ?_;refine (a1q 4 1 8001 1 9 (b8K []) (fun _=>ndZ (l.getD 1 []) 4) rfl rfl (by exact q9 (.inr rfl) (.inl ⟨rfl,rfl⟩) (.inr rfl) (.inr rfl) (.inr rfl) (.inr rfl) (.inr rfl) (.inr rfl) (.inr rfl)) (by decide) (by decide) (c':=5) rfl).wp ?_
 refine a0n (α:=Nat×Nd×List Bs×Nat×Nat) (fun x c=>⟨151,[(0,.v (a0M l)),(2,.v (.pt 2 0 0 0)),(4,.v (.pt 4 1 0 0)),(5,.v (.os 8002 x.2.2.2.2 0 x.2.2.1.length)),(6,.v (a0h (x.1:Int)))],[(2,⟨0,1,9,54,0,fun _=>zNd⟩),(4,rnO x.2.1 x.2.2.2.1),(8001,a3U x.2.2.2.1 x.2.1.groups),(8002,a3U x.2.2.2.2 x.2.2.1)],c⟩) (fun x=>2≤x.1∧x.1≤l.length∧x.2.2.1.length+2=x.1∧x.2.1.groups.length≤4∧x.2.1.expr=[]∧a8T (l.drop x.1) x.2.2.1 x.2.1=a3s l) (fun x=>l.length - x.1) ((2,⟨l.getD 1 [],[],false,false,true,0,false,[],[]⟩,[],4,3)) (by exact ⟨Nat.le_refl _,hl.1,rfl,Nat.zero_le _,rfl,rfl⟩) (a0c rfl (Nat.le_refl _) tsa (a0k.cons rfl (a8H (by exact q9 (.refl _) (.refl _) (.refl _) (.refl _) (.refl _) (.refl _) (.refl _) (.refl _) (.refl _))) (a0k.cons rfl (a8H (by exact q9 (.refl _) (.refl _) (.refl _) (.refl _) (.refl _) (.refl _) (.refl _) (.nil _ _ _ (by decide) _) (.refl _))) hsa))) (fun x c hx NhL1 hL1=>?_)
 revert hx hL1;obtain ⟨i,n,met,g,gm⟩:=x;intro hx hL1;dsimp only at hx hL1 ⊢
 obtain ⟨ha0,ha1,ha4,ha2,ha5,ha3⟩:=hx
 refine ru 9 ?_
 refine wdc (fun hr0 hc0=>?_) (fun hr0 hc0=>?_)
 ·skip
  have hil:i < l.length:=om;obtain ⟨v_,hv_⟩:∃ v_,l.getD i []=v_:=⟨_,rfl⟩;have hd_:l.drop i=v_::l.drop (i+1):=(by rw [List.drop_eq_getElem_cons hil,←hv_,List.getD_eq_getElem?_getD,List.getElem?_eq_getElem hil];rfl);have hvl:v_.length≤1000000:=(by have:=hw v_ (by rw [←hv_];exact a2k hil);omega);rw [hd_] at ha3
  refine ru 11 ?_
  refine rvl (a0p v_) ((by rw [←hv_];first | done | rfl)) ?_
  refine ru 3 ?_
  refine wdc (fun hr1 hc1=>?_) (fun hr1 hc1=>?_)
  ·skip
   have hv58:v_=[58]:=(by simpa using hr1);have hjl:=a6S l (i+1);subst hv58;rw [a4y] at ha3
   refine ru 6 ?_
   refine s0 (a0i (xs:=[_]) (c3v (l.drop (i+1)) (by rw [List.length_drop];omega) om) ⟨rfl,trivial⟩ ⟨(b3l (l.drop (i+1)) (by rw [List.length_drop];omega) (fun k hk=>by show a0p (l.getD ((((i:Nat):Int)+1).toNat+k) [])=_;rw [show (((i:Nat):Int)+1).toNat+k=i+1+k by omega,List.getD_eq_getElem?_getD,List.getD_eq_getElem?_getD,List.getElem?_drop])),trivial⟩) ?_
   refine a0l 38 (xs:=[_]) (pre:=[]) (b6i (joinL (l.drop (i+1))) (exprV (joinL (l.drop (i+1)))) om (a9V _) _) ⟨rfl,trivial⟩ a0e rfl rfl (fun u_ c1 hu_=>?_)
   (try dsimp only)
   refine ru 23 ?_
   refine wdc (fun hr2 hc2=>?_) (fun hr2 hc2=>?_)
   ·skip
    have hne:(exprV (joinL (l.drop (i+1)))).1≠[]:=(fun h=>by rw [h] at hc2;simp at hc2)
    refine ru 2 ?_
    refine cll (c3e (joinL (l.drop (i+1))) hne) ?_
    refine ru 17 ?_
    refine a0f ?_
    refine ru 2 ?_
    refine a4X rfl (a0Q rfl rfl ty_54.h rqc rfl rfl) (a0r rfl) [(8001,_)] rfl (a0g rfl a0e) ?_
    rw [←ha3];exact a1y (.agg _ _ _ (by exact q9 (.imm _) (a1x (l:=n.groups) (enc:=fun x _=>a0p x) (d:=[]) (List.mem_cons_self ..) rfl rfl (Nat.le_refl _) (fun i j hi hj=>.imm _)) (.imm _) (.imm _) (.imm _) (.imm _) (.imm _) (show Fz _ (a0M n.marks) (a0M n.marks) from .sl _ _ _ _ fun _ _ _ _=>.imm _) (by first | exact .imm _ | exact (show Fz _ (a0p n.expr) (a0p (exprS (joinL (l.drop (i+1))))) from by rw [b1M hne,ha5];exact .imm _)))) (a1d (by simp [a8D]))
   have hne:(exprV (joinL (l.drop (i+1)))).1=[]:=List.eq_nil_of_length_eq_zero om
   refine ru 15 ?_
   refine a0f ?_
   refine ru 2 ?_
   refine a4X rfl (a0Q rfl rfl ty_54.h rqc rfl rfl) (a0r rfl) [(8001,_)] rfl (a0g rfl a0e) ?_
   rw [←ha3];exact a1y (.agg _ _ _ (by exact q9 (.imm _) (a1x (l:=n.groups) (enc:=fun x _=>a0p x) (d:=[]) (List.mem_cons_self ..) rfl rfl (Nat.le_refl _) (fun i j hi hj=>.imm _)) (.imm _) (.imm _) (.imm _) (.imm _) (.imm _) (show Fz _ (a0M n.marks) (a0M n.marks) from .sl _ _ _ _ fun _ _ _ _=>.imm _) (by first | exact .imm _ | exact (show Fz _ (a0p n.expr) (a0p (exprS (joinL (l.drop (i+1))))) from by rw [b1M hne,ha5];exact .imm _)))) (a1d (by simp [a8D]))
  have hv58:v_≠[58]:=(by simpa using hr1);obtain ⟨⟨W_,V_,H_⟩,hC_⟩:∃ q,a4k 61 v_=q:=⟨_,rfl⟩;have hcut:a0q Tryz.prog 65 [a0p v_] (c3E (W_,V_,H_)):=(by rw [←hC_];exact c1h v_ hvl);have hVl:V_.length≤1000000:=(by have:=a4z 61 v_;rw [hC_] at this;have h9:V_.length≤v_.length:=this;omega)
  refine ru 8 ?_
  refine rvl (a0p v_) ((by rw [←hv_];first | done | rfl)) ?_
  refine cll (hcut) ?_
  refine ru 13 ?_
  refine hq_ 63 (a0B (xs:=[_,_]) (pre:=[(8002,_)]) (b2R gm met W_ om) ⟨rfl,⟨rfl,trivial⟩⟩) rfl rfl (a0g rfl a0e) rfl rfl ?_
  refine ru 8 ?_
  refine a0t 67 (a0b (id:=67) (hs:=[_]) ei_44.h omx rfl omx ⟨rfl,rfl,rfl,rfl,trivial⟩) rfl rfl a0e rfl rfl (c':=c+1) rfl ?_
  first
  | refine a0t 68 (a0a ei_44.h omy rfl omy omy (a0u rfl omy) omy rfl) rfl rfl (a0g rfl (a0C rfl)) rfl rfl (c':=c+2) rfl ?_
  | refine a0t 68 (a0a ei_44.h omy rfl omy omy (a0G rfl omy) omy rfl) rfl rfl (a0g rfl (a0C rfl)) rfl rfl (c':=c+2) rfl ?_
  | refine a0t 68 (a0a ei_44.h omy rfl omy omy (a0F rfl) omy rfl) rfl rfl (a0g rfl a0e) rfl rfl (c':=c+2) rfl ?_
  | refine a0t 68 (a0a ei_44.h omy rfl omy omy (a0w 1 (fun _ _=>default) rfl) omy rfl) rfl rfl (a0g rfl a0e) rfl rfl (c':=c+2) rfl ?_
  refine ru 15 ?_
  refine wdc (fun hr3 hc3=>?_) (fun hr3 hc3=>?_)
  ·skip
   have hO:a2M W_ H_=0∧W_=a2a:=(by have h9:W_=a2a∧H_=true:=(by simpa using hc3);unfold a2M;rw [if_pos ⟨h9.1.symm,h9.2.symm⟩];exact ⟨rfl,h9.1⟩)
   refine ru 3 ?_
   refine cll (a9Q V_ hVl) ?_
   refine ru 4 ?_
   first
   | refine a4x 81 2 77 true _ (fun hb=>a0B (xs:=[_,_]) (pre:=[(8001,_)]) (a9X g n.groups V_ (by omega)) ⟨rfl,⟨rfl,trivial⟩⟩) rfl rfl rfl rfl (a0g rfl a0e) rfl rfl rfl ?_
   | refine a3S 81 2 77 _ _ true _ (fun hb=>a0B (xs:=[_,_]) (pre:=[(8001,_)]) (a9X g n.groups V_ (by omega)) ⟨rfl,⟨rfl,trivial⟩⟩) rfl rfl rfl rfl (a0g rfl a0e) rfl rfl rfl ?_
   refine ru 15 ?_
   refine a0t 93 (a0b (id:=93) (hs:=[_]) ei_44.h omx rfl omx ⟨rfl,rfl,rfl,rfl,trivial⟩) rfl rfl a0e rfl rfl (c':=c+3) rfl ?_
   first
   | refine a0t 94 (a0a ei_44.h omy rfl omy omy (a0u rfl omy) omy rfl) rfl rfl (a0g rfl (a0C rfl)) rfl rfl (c':=c+4) rfl ?_
   | refine a0t 94 (a0a ei_44.h omy rfl omy omy (a0G rfl omy) omy rfl) rfl rfl (a0g rfl (a0C rfl)) rfl rfl (c':=c+4) rfl ?_
   | refine a0t 94 (a0a ei_44.h omy rfl omy omy (a0F rfl) omy rfl) rfl rfl (a0g rfl a0e) rfl rfl (c':=c+4) rfl ?_
   | refine a0t 94 (a0a ei_44.h omy rfl omy omy (a0w 1 (fun _ _=>default) rfl) omy rfl) rfl rfl (a0g rfl a0e) rfl rfl (c':=c+4) rfl ?_
   refine ru 11 ?_
   refine wdc (fun hr8 hc8=>?_) (fun hr8 hc8=>?_)
   ·skip
    have hq8:=hr8;have hR:(a1E (a2M W_ H_) n V_).2=false:=(by rw [hO.1];unfold a1E;rw [if_pos rfl,if_neg (fun h=>by obtain ⟨h1,h2,h3⟩:=h;simp [h1,h2] at hq8;omega)]);have hbad:=a1Q (r:=l.drop (i+1)) (met:=met) (n:=n) hv58 hC_ (.inr (.inr hR))
    refine ru 10 ?_
    refine a0f ?_
    refine ru 2 ?_
    refine rt2 ?_
    rw [←ha3,hbad];exact a1y (.agg _ _ _ (by exact q9 (.imm _) (.nil _ _ _ (by decide) _) (.imm _) (.imm _) (.imm _) (.imm _) (.imm _) (.nil _ _ _ (by decide) _) (.imm _))) (.imm _)
   have hq8:=hr8;have hR:a1E (a2M W_ H_) n V_=({ n with groups:=n.groups++[V_] },true):=(by rw [hO.1];unfold a1E;rw [if_pos rfl,if_pos (by simp at hq8;exact ⟨hq8.1.1,hq8.1.2,by omega⟩)]);have hg4:n.groups.length < 4:=(by simp at hq8;omega);have hon:=a2g (r:=l.drop (i+1)) (met:=met) (n:=n) hv58 hC_ (by rw [hR,hO.1];rintro (h | h | h);omega;exact h.2 hO.2;cases h);rw [ha3,hR] at hon
   refine ru 8 ?_
   exact hL1 ((i+1,{ n with groups:=n.groups++[V_] },met++[W_],_,_)) _ _ (by (try dsimp only);exact ⟨by omega,by omega,by simp;omega,by simp;omega,ha5,hon.symm⟩) (by (try dsimp only);omega) (a0c rfl (Nat.le_refl _) (tsr rfl (tsr rfl (tsr rfl (a0K.cons rfl (a1N (by simp)) tsa)))) (hsr rfl (a0k.cons rfl (a8H (by exact q9 (.refl _) (a1N (by simp)) (.refl _) (.refl _) (.refl _) (.refl _) (.refl _) (.refl _) (.refl _))) (a0k.cons rfl (a0x (enc:=fun x _=>a0p x) (d:=[]) rfl (fun i j hi hj=>.refl _) (fun j hj=>.refl _)) (a0k.cons rfl (a0x (enc:=fun x _=>a0p x) (d:=[]) rfl (fun i j hi hj=>.refl _) (fun j hj=>.refl _)) a0k.nil)))))
  have hO3:¬ (a2a=W_∧true=H_):=(fun h=>by have h9:=hr3;simp [←h.1,←h.2] at h9)
  refine ru 11 ?_
  refine wdc (fun hr4 hc4=>?_) (fun hr4 hc4=>?_)
  ·skip
   have hO:a2M W_ H_=1∧W_≠a2a:=(by have h9:W_=a3L∧H_=false:=(by simpa using hc4);unfold a2M;rw [if_neg hO3,if_pos ⟨h9.1.symm,h9.2.symm⟩];exact ⟨rfl,by rw [h9.1];decide⟩)
   refine ru 12 ?_
   refine wdc (fun hr8 hc8=>?_) (fun hr8 hc8=>?_)
   ·skip
    have hR:a1E (a2M W_ H_) n V_=({ n with inl:=true },true):=(by rw [hO.1];first | done | rfl);have hq8:=hr8;have hbad:=a1Q (r:=l.drop (i+1)) (met:=met) (n:=n) hv58 hC_ (by rw [hR];exact .inr (.inl ⟨by simpa using hq8,hO.2⟩))
    refine ru 10 ?_
    refine a0f ?_
    refine ru 2 ?_
    refine rt2 ?_
    rw [←ha3,hbad];exact a1y (.agg _ _ _ (by exact q9 (.imm _) (.nil _ _ _ (by decide) _) (.imm _) (.imm _) (.imm _) (.imm _) (.imm _) (.nil _ _ _ (by decide) _) (.imm _))) (.imm _)
   have hR:a1E (a2M W_ H_) n V_=({ n with inl:=true },true):=(by rw [hO.1];first | done | rfl);have hq8:=hr8;have hon:=a2g (r:=l.drop (i+1)) (met:=met) (n:=n) hv58 hC_ (by rw [hR,hO.1];rintro (h | h | h);omega;exact absurd h.1 (by simpa using hq8);cases h);rw [ha3,hR] at hon
   refine ru 8 ?_
   exact hL1 ((i+1,{ n with inl:=true },met++[W_],g,_)) _ _ (by (try dsimp only);exact ⟨by omega,by omega,by simp;omega,ha2,ha5,hon.symm⟩) (by (try dsimp only);omega) (a0c rfl (Nat.le_refl _) (tsr rfl (tsr rfl (tsr rfl (a0K.cons rfl (a1N (by simp)) tsa)))) (hsr rfl (a0k.cons rfl (a8H (by exact q9 (.refl _) (.refl _) (.refl _) (.refl _) (.refl _) (.refl _) (.refl _) (.refl _) (.refl _))) (hsr rfl (a0k.cons rfl (a0x (enc:=fun x _=>a0p x) (d:=[]) rfl (fun i j hi hj=>.refl _) (fun j hj=>.refl _)) a0k.nil)))))
  have hO4:¬ (a3L=W_∧false=H_):=(fun h=>by have h9:=hr4;simp [←h.1,←h.2] at h9)
  refine ru 11 ?_
  refine wdc (fun hr5 hc5=>?_) (fun hr5 hc5=>?_)
  ·skip
   have hO:a2M W_ H_=2∧W_≠a2a:=(by have h9:W_=a1I∧H_=false:=(by simpa using hc5);unfold a2M;rw [if_neg hO3,if_neg hO4,if_pos ⟨h9.1.symm,h9.2.symm⟩];exact ⟨rfl,by rw [h9.1];decide⟩)
   refine ru 12 ?_
   refine wdc (fun hr8 hc8=>?_) (fun hr8 hc8=>?_)
   ·skip
    have hR:a1E (a2M W_ H_) n V_=({ n with pick:=true },true):=(by rw [hO.1];first | done | rfl);have hq8:=hr8;have hbad:=a1Q (r:=l.drop (i+1)) (met:=met) (n:=n) hv58 hC_ (by rw [hR];exact .inr (.inl ⟨by simpa using hq8,hO.2⟩))
    refine ru 10 ?_
    refine a0f ?_
    refine ru 2 ?_
    refine rt2 ?_
    rw [←ha3,hbad];exact a1y (.agg _ _ _ (by exact q9 (.imm _) (.nil _ _ _ (by decide) _) (.imm _) (.imm _) (.imm _) (.imm _) (.imm _) (.nil _ _ _ (by decide) _) (.imm _))) (.imm _)
   have hR:a1E (a2M W_ H_) n V_=({ n with pick:=true },true):=(by rw [hO.1];first | done | rfl);have hq8:=hr8;have hon:=a2g (r:=l.drop (i+1)) (met:=met) (n:=n) hv58 hC_ (by rw [hR,hO.1];rintro (h | h | h);omega;exact absurd h.1 (by simpa using hq8);cases h);rw [ha3,hR] at hon
   refine ru 8 ?_
   exact hL1 ((i+1,{ n with pick:=true },met++[W_],g,_)) _ _ (by (try dsimp only);exact ⟨by omega,by omega,by simp;omega,ha2,ha5,hon.symm⟩) (by (try dsimp only);omega) (a0c rfl (Nat.le_refl _) (tsr rfl (tsr rfl (tsr rfl (a0K.cons rfl (a1N (by simp)) tsa)))) (hsr rfl (a0k.cons rfl (a8H (by exact q9 (.refl _) (.refl _) (.refl _) (.refl _) (.refl _) (.refl _) (.refl _) (.refl _) (.refl _))) (hsr rfl (a0k.cons rfl (a0x (enc:=fun x _=>a0p x) (d:=[]) rfl (fun i j hi hj=>.refl _) (fun j hj=>.refl _)) a0k.nil)))))
  have hO5:¬ (a1I=W_∧false=H_):=(fun h=>by have h9:=hr5;simp [←h.1,←h.2] at h9)
  refine ru 10 ?_
  refine wdc (fun hr6 hc6=>?_) (fun hr6 hc6=>?_)
  ·skip
   have hO:a2M W_ H_=3∧W_≠a2a:=(by have h9:W_=a1W∧H_=true:=(by simpa using hc6);unfold a2M;rw [if_neg hO3,if_neg hO4,if_neg hO5,if_pos ⟨h9.1.symm,h9.2.symm⟩];exact ⟨rfl,by rw [h9.1];decide⟩)
   refine ru 3 ?_
   refine cll (b4t V_ hVl) ?_
   refine ru 21 ?_
   refine wdc (fun hr8 hc8=>?_) (fun hr8 hc8=>?_)
   ·skip
    have hR:a1E (a2M W_ H_) n V_=({ n with attr:=(a3f V_).getD 0 },(a1C V_).isSome):=(by rw [hO.1];first | done | rfl);have hq8:=hr8;have hbad:=a1Q (r:=l.drop (i+1)) (met:=met) (n:=n) hv58 hC_ (by rw [hR];have hvd:=a7N V_;by_cases hm:W_∈met;exact .inr (.inl ⟨hm,hO.2⟩);(refine .inr (.inr ?_);cases hs:(a1C V_).isSome;rfl;exfalso;rw [hs] at hvd;simp [hm] at hq8;simp at hvd;omega))
    refine ru 10 ?_
    refine a0f ?_
    refine ru 2 ?_
    refine rt2 ?_
    rw [←ha3,hbad];exact a1y (.agg _ _ _ (by exact q9 (.imm _) (.nil _ _ _ (by decide) _) (.imm _) (.imm _) (.imm _) (.imm _) (.imm _) (.nil _ _ _ (by decide) _) (.imm _))) (.imm _)
   have hR:a1E (a2M W_ H_) n V_=({ n with attr:=(a3f V_).getD 0 },(a1C V_).isSome):=(by rw [hO.1];first | done | rfl);have hq8:=hr8;have hvs:(a1C V_).isSome=true:=(by rw [←a7N];simp at hq8;omega);have hon:=a2g (r:=l.drop (i+1)) (met:=met) (n:=n) hv58 hC_ (by rw [hR,hO.1];rintro (h | h | h);omega;(simp at hq8;exact hq8.1 h.1);(rw [hvs] at h;cases h));rw [ha3,hR] at hon
   refine ru 8 ?_
   exact hL1 ((i+1,{ n with attr:=(a3f V_).getD 0 },met++[W_],g,_)) _ _ (by (try dsimp only);exact ⟨by omega,by omega,by simp;omega,ha2,ha5,hon.symm⟩) (by (try dsimp only);omega) (a0c rfl (Nat.le_refl _) (tsr rfl (tsr rfl (tsr rfl (a0K.cons rfl (a1N (by simp)) tsa)))) (hsr rfl (a0k.cons rfl (a8H (by exact q9 (.refl _) (.refl _) (.refl _) (.refl _) (.refl _) (a0Y (b4l hvs)) (.refl _) (.refl _) (.refl _))) (hsr rfl (a0k.cons rfl (a0x (enc:=fun x _=>a0p x) (d:=[]) rfl (fun i j hi hj=>.refl _) (fun j hj=>.refl _)) a0k.nil)))))
  have hO6:¬ (a1W=W_∧true=H_):=(fun h=>by have h9:=hr6;simp [←h.1,←h.2] at h9)
  refine ru 10 ?_
  refine wdc (fun hr7 hc7=>?_) (fun hr7 hc7=>?_)
  ·skip
   have hO:a2M W_ H_=4∧W_≠a2a:=(by have h9:W_=a1j∧H_=true:=(by simpa using hc7);unfold a2M;rw [if_neg hO3,if_neg hO4,if_neg hO5,if_neg hO6,if_pos ⟨h9.1.symm,h9.2.symm⟩];exact ⟨rfl,by rw [h9.1];decide⟩)
   refine ru 3 ?_
   refine cll (b8N V_ hVl) ?_
   refine ru 38 ?_
   refine wdc (fun hr8 hc8=>?_) (fun hr8 hc8=>?_)
   ·skip
    have hR:a1E (a2M W_ H_) n V_=({ n with all:=((a0Z V_).getD (false,[])).1,marks:=((a0Z V_).getD (false,[])).2 },(a0Z V_).isSome):=(by rw [hO.1];first | done | rfl);have hq8:=hr8;have hbad:=a1Q (r:=l.drop (i+1)) (met:=met) (n:=n) hv58 hC_ (by rw [hR];by_cases hm:W_∈met;exact .inr (.inl ⟨hm,hO.2⟩);(refine .inr (.inr ?_);cases hs:(a0Z V_).isSome;rfl;exfalso;rw [hs] at hq8;simp [hm] at hq8))
    refine ru 10 ?_
    refine a0f ?_
    refine ru 2 ?_
    refine rt2 ?_
    rw [←ha3,hbad];exact a1y (.agg _ _ _ (by exact q9 (.imm _) (.nil _ _ _ (by decide) _) (.imm _) (.imm _) (.imm _) (.imm _) (.imm _) (.nil _ _ _ (by decide) _) (.imm _))) (.imm _)
   have hR:a1E (a2M W_ H_) n V_=({ n with all:=((a0Z V_).getD (false,[])).1,marks:=((a0Z V_).getD (false,[])).2 },(a0Z V_).isSome):=(by rw [hO.1];first | done | rfl);have hq8:=hr8;have hon:=a2g (r:=l.drop (i+1)) (met:=met) (n:=n) hv58 hC_ (by rw [hR,hO.1];rintro (h | h | h);omega;(simp at hq8;exact hq8.1 h.1);(have h:(a0Z V_).isSome=false:=h;rw [h] at hq8;simp at hq8));rw [ha3,hR] at hon
   refine ru 8 ?_
   exact hL1 ((i+1,{ n with all:=((a0Z V_).getD (false,[])).1,marks:=((a0Z V_).getD (false,[])).2 },met++[W_],g,_)) _ _ (by (try dsimp only);exact ⟨by omega,by omega,by simp;omega,ha2,ha5,hon.symm⟩) (by (try dsimp only);omega) (a0c rfl (Nat.le_refl _) (tsr rfl (tsr rfl (tsr rfl (a0K.cons rfl (a1N (by simp)) tsa)))) (hsr rfl (a0k.cons rfl (a8H (by exact q9 (.refl _) (.refl _) (.refl _) (.refl _) (.refl _) (.refl _) (.refl _) (.refl _) (.refl _))) (hsr rfl (a0k.cons rfl (a0x (enc:=fun x _=>a0p x) (d:=[]) rfl (fun i j hi hj=>.refl _) (fun j hj=>.refl _)) a0k.nil)))))
  have hO7:¬ (a1j=W_∧true=H_):=(fun h=>by have h9:=hr7;simp [←h.1,←h.2] at h9);have hO:a2M W_ H_=-1:=(by unfold a2M;rw [if_neg hO3,if_neg hO4,if_neg hO5,if_neg hO6,if_neg hO7])
  refine ru 11 ?_
  refine wdc (fun hr8 hc8=>?_) (fun hr8 hc8=>?_)
  ·skip
   have hbad:=a1Q (r:=l.drop (i+1)) (met:=met) (n:=n) hv58 hC_ (.inl om)
   refine ru 10 ?_
   refine a0f ?_
   refine ru 2 ?_
   refine rt2 ?_
   rw [←ha3,hbad];exact a1y (.agg _ _ _ (by exact q9 (.imm _) (.nil _ _ _ (by decide) _) (.imm _) (.imm _) (.imm _) (.imm _) (.imm _) (.nil _ _ _ (by decide) _) (.imm _))) (.imm _)
  exfalso;simp at hr8
 rw [List.drop_of_length_le (show l.length≤i by omega)] at ha3
 refine ru 2 ?_
 refine a0d ?_
 refine ru 10 ?_
 refine a4X rfl (a0Q rfl rfl ty_54.h rqc rfl rfl) (a0r rfl) [(8001,_)] rfl (a0g rfl a0e) ?_
 rw [←ha3];exact a1y (.agg _ _ _ (by exact q9 (.imm _) (a1x (l:=n.groups) (enc:=fun x _=>a0p x) (d:=[]) (List.mem_cons_self ..) rfl rfl (Nat.le_refl _) (fun i j hi hj=>.imm _)) (.imm _) (.imm _) (.imm _) (.imm _) (.imm _) (show Fz _ (a0M n.marks) (a0M n.marks) from .sl _ _ _ _ fun _ _ _ _=>.imm _) (.imm _))) (.imm _)
@[reducible] def c2D (g:Nat) (l:List Nd):HObj:=⟨g,l.length,9,54,0,b5U l⟩
@[reducible] def c2H (g:Nat) (l:List Mk):HObj:=⟨g,l.length,4,57,0,b5W l⟩
@[reducible] def c5X (g g1 n1 g2 n2:Nat):HObj:=⟨g,1,2,33,0,fun _=>dcG g1 n1 g2 n2⟩
@[reducible] def rzO (g:Nat):HObj:=⟨g,1,2,33,0,fun _=>zDc⟩
theorem c0X {α:Type} {q:α→Bool} {l:List α} {d:α} (h:∀ j,j < l.length→q (l.getD j d)=false):l.any q=false:=by
 rw [←b3e,a6m h];rfl
theorem c1p {α:Type} {q:α→Bool} {l:List α} {d:α} {k:Nat} (hk:k < l.length) (h:q (l.getD k d)=true):l.any q=true:=by
 rw [List.any_eq_true]
 refine ⟨l[k],List.getElem_mem hk,?_⟩
 rw [List.getD_eq_getElem?_getD,List.getElem?_eq_getElem hk] at h
 exact h
theorem c0k {d:Dc} {l:List Bs} (h:l.length < 2∨nameV (l.getD 1 [])=false∨(l.getD 0 []≠a0S∧l.getD 0 []≠a3g)):a1P d l=(d,2):=by
 unfold a1P
 by_cases h1:l.length < 2∨nameV (l.getD 1 [])=false
 ·rw [if_pos h1]
 ·rcases h with h | h | h
  ·exact absurd (.inl h) h1
  ·exact absurd (.inr h) h1
  ·rw [if_neg h1,if_neg h.1,if_neg h.2]
theorem a5L {kp sh:List (Nat×HObj)} {g1 n1 n1' g2 n2 n2':Nat} {F:Nat→HV} {o1 o2:HObj} (f0:F 0=.os 8101 g1 0 n1) (f1:F 1=.os 8102 g2 0 n2) (k1:n1=n1':=by rfl) (k2:n2=n2':=by rfl) (h1:hget kp 8101=some o1:=by rfl) (e1:o1.g=g1:=by rfl) (h2:hget kp 8102=some o2:=by rfl) (e2:o2.g=g2:=by rfl):Kz kp sh (.agg 2 F) (.agg 2 (dcG g1 n1' g2 n2')):=by
 subst k1;subst k2
 exact .agg _ _ _ fun j hj=>by
  match j,hj with
  | 0,_=>rw [f0];exact .os _ _ _ _ _ h1 e1
  | 1,_=>rw [f1];exact .os _ _ _ _ _ h2 e2
theorem a6k {kp sh:List (Nat×HObj)} {g:Nat} {l:List Nd}:OKz kp sh (c2D g l) (c2D g l):=.of fun i j hi hj=>.fz _ _ (a4d _ j hj)
theorem a6x {kp sh:List (Nat×HObj)} {g:Nat} {l:List Mk}:OKz kp sh (c2H g l) (c2H g l):=.of fun i j hi hj=>.fz _ _ (a4f _ j hj)
theorem c3R (k0 g1 g2:Nat) (d:Dc) (l:List Bs) (hd:d.nodes.length≤24∧d.marks.length≤8) (hl:l.length≤100000) (hw:∀ w∈l,w.length≤100000) (hj:(joinL l).length≤1000000):a3c Tryz.prog 21 k0 [.agg 2 (dcG g1 d.nodes.length g2 d.marks.length),a0M l] [(8101,c2D g1 d.nodes),(8102,c2H g2 d.marks)]
  (a4W (fun (q:Nat×Nat) _=>True) (fun q=>t2 (.agg 2 (dcG q.1 (a1P d l).1.nodes.length q.2 (a1P d l).1.marks.length)) (a0h (a1P d l).2)) (fun q=>[(8101,c2D q.1 (a1P d l).1.nodes),(8102,c2H q.2 (a1P d l).1.marks)])):=by
 have hw1:∀ i,(l.getD i []).length≤1000000:=fun i=>by
  rcases Nat.lt_or_ge i l.length with h | h
  ·have:=hw (l.getD i []) (a2k h);omega
  ·rw [List.getD_eq_getElem?_getD,List.getElem?_eq_none h];exact Nat.zero_le _
 refine a0v Tryz.func21 rfl kr _ _ _ _ rfl 117 rfl rfl (fun X ok hX=>?_)
 refine ru 17 ?_
 refine ry (a0p (l.getD 1 [])) rfl (fun hb=>rfl) ?_
 first
 | refine stg 15 (fun hb=>a0i (xs:=[_]) (a9Q (l.getD 1 []) (hw1 1)) ⟨rfl,trivial⟩ ⟨(Fz.eq rfl),trivial⟩) rfl rfl rfl rfl rfl ?_
 | refine sth 15 (fun hb=>a0i (xs:=[_]) (a9Q (l.getD 1 []) (hw1 1)) ⟨rfl,trivial⟩ ⟨(Fz.eq rfl),trivial⟩) rfl rfl rfl rfl rfl ?_
 refine ru 6 ?_
 refine ry (a0p (l.getD 0 [])) rfl (fun hb=>rfl) ?_
 refine ru 5 ?_
 refine ry3 (a0p (l.getD 0 [])) rfl rfl (fun hb hb2=>rfl) ?_
 refine ru 5 ?_
 refine wdc (fun hr0 hc0=>?_) (fun hr0 hc0=>?_)
 ·skip
  have hA:a1P d l=(d,2):=(c0k (by rcases hc0 with (h | h) | h;exact .inl om;exact .inr (.inl h);exact .inr (.inr h)))
  refine ru 9 ?_
  refine fr2 ok hX rw2 ((g1,g2)) (trivial) ((by rw [hA];exact a8m (a5L rfl rfl) (a1M rfl))) ?_
  exact ⟨⟨_,rfl,(by rw [hA];exact a6k)⟩,⟨⟨_,rfl,(by rw [hA];exact a6x)⟩,trivial⟩⟩
 have h0:¬ (l.length < 2∨nameV (l.getD 1 [])=false):=(by have h9:=hc0;rintro (h | h);exact absurd h9.1.1 om;rw [h] at h9;simp at h9);have hnm:l.getD 0 []=a0S∨l.getD 0 []=a3g:=(by by_cases a_:l.getD 0 []=a0S;exact .inl a_;by_cases b_:l.getD 0 []=a3g;exact .inr b_;exfalso;have h9:=hr0;simp only [decide_eq_false a_,decide_eq_false b_,Bool.not_false] at h9;first | (simp at h9;done) | (rw [Bool.or_eq_false_iff] at h9;exact absurd h9.2 (by decide)));have hl2:2≤l.length:=(by rcases Nat.lt_or_ge l.length 2 with h | h;exact absurd (.inl h) h0;exact h)
 refine ru 8 ?_
 refine rvl (a0p (l.getD 0 [])) (rfl) ?_
 refine ru 3 ?_
 refine wdc (fun hr1 hc1=>?_) (fun hr1 hc1=>?_)
 ·skip
  have hm:l.getD 0 []=a3g:=(by simpa using hr1);have hn:l.getD 0 []≠a0S:=(by rw [hm];decide)
  refine ru 3 ?_
  refine cll (c3h l ⟨hl2,hl⟩ hw) ?_
  refine ru 15 ?_
  refine wdc (fun hr2 hc2=>?_) (fun hr2 hc2=>?_)
  ·skip
   have hA:a1P d l=(d,2):=(by unfold a1P;rw [if_neg h0,if_neg hn,if_pos hm,if_pos (by simpa using hr2)])
   refine ru 10 ?_
   refine fr2 ok hX rw2 ((g1,g2)) (trivial) ((by rw [hA];exact a8m (a5L rfl rfl) (a1M rfl))) ?_
   exact ⟨⟨_,rfl,(by rw [hA];exact a6k)⟩,⟨⟨_,rfl,(by rw [hA];exact a6x)⟩,trivial⟩⟩
  have hok:¬ (a5i l).2=false:=(by simpa using hr2)
  refine ru 9 ?_
  refine a0n (α:=Nat) (fun x c=>⟨117,[(1,.v (a0M l)),(2,.v (.pt 2 k0 0 0)),(4,.v (.pt 4 (k0+1) 0 0)),(6,.v (.pt 6 (k0+2) 0 0)),(8,.v (a0h x))],[(2,c5X k0 g1 d.nodes.length g2 d.marks.length),(4,rzO (k0+1)),(6,⟨k0+2,1,4,57,0,fun _=>a5E (a5i l).1⟩),(8101,c2D g1 d.nodes),(8102,c2H g2 d.marks)],c⟩) (fun x=>x≤d.marks.length∧∀ i,i < x→decide ((d.marks.getD i default).name=(a5i l).1.name)=false) (fun x=>d.marks.length - x) (0) (by exact ⟨Nat.zero_le _,fun i h=>absurd h (Nat.not_lt_zero _)⟩) (a0c rfl (Nat.le_refl _) tsa (a0k.cons rfl (a2X (.refl _) (.refl _)) (a0k.cons rfl (a2X (.refl _) (.refl _)) (a0k.cons rfl (b0J (by exact qm4 (.refl _) (.refl _) (.refl _) (.refl _))) hsa)))) (fun k c hx NhL1 hL1=>?_)
  (try dsimp only at hx hL1 ⊢)
  obtain ⟨hk,hE⟩:=hx
  refine ru 10 ?_
  refine wdc (fun hr3 hc3=>?_) (fun hr3 hc3=>?_)
  ·refine ru 11 ?_
   first
   | refine a3K 59 (HOp.val (v':=a0p (d.marks.getD k default).name) (a0A ty_9.h rfl omy omy (fun h=>(by first | rfl | cases h))) ((by simp only [Nat.zero_add];rfl))) rfl rfl (a0C rfl) rfl rfl (k':=6) rfl ?_
   | refine a3K 59 (HOp.val (v':=a0p (d.marks.getD k default).name) (a0o ty_9.h rfl omy (fun h=>(by first | rfl | cases h))) ((by simp only [Nat.zero_add];rfl))) rfl rfl a0e rfl rfl (k':=6) rfl ?_
   refine ru 5 ?_
   refine wdc (fun hr4 hc4=>?_) (fun hr4 hc4=>?_)
   ·skip
    have hA:a1P d l=(d,9):=(by unfold a1P;rw [if_neg h0,if_neg hn,if_pos hm,if_neg hok,if_pos (c1p (d:=default) (k:=k) om hr4)])
    refine ru 10 ?_
    refine a0f ?_
    refine ru 3 ?_
    refine fr2 ok hX rw2 ((g1,g2)) (trivial) ((by rw [hA];exact a8m (a5L rfl rfl) (a1M rfl))) ?_
    exact ⟨⟨_,rfl,(by rw [hA];exact a6k)⟩,⟨⟨_,rfl,(by rw [hA];exact a6x)⟩,trivial⟩⟩
   refine ru 8 ?_
   exact hL1 (k+1) _ _ (by (try dsimp only);exact ⟨by omega,fun i hi=>by by_cases e:i=k;(subst e;exact hr4);exact hE i om⟩) (by (try dsimp only);omega) (a0c rfl (Nat.le_refl _) tsa hsa)
  have hn7:¬ (d.marks.any fun o=>decide (o.name=(a5i l).1.name))=true:=(by rw [c0X (d:=default) (fun j hj=>hE j om)];simp)
  refine ru 2 ?_
  refine a0d ?_
  refine ru 11 ?_
  refine wdc (fun hr5 hc5=>?_) (fun hr5 hc5=>?_)
  ·skip
   have hA:a1P d l=(d,4):=(by unfold a1P;rw [if_neg h0,if_neg hn,if_pos hm,if_neg hok,if_neg hn7,if_pos om])
   refine ru 10 ?_
   refine fr2 ok hX rw2 ((g1,g2)) (trivial) ((by rw [hA];exact a8m (a5L rfl rfl) (a1M rfl))) ?_
   exact ⟨⟨_,rfl,(by rw [hA];exact a6k)⟩,⟨⟨_,rfl,(by rw [hA];exact a6x)⟩,trivial⟩⟩
  have hA:a1P d l=(⟨d.nodes,d.marks++[(a5i l).1]⟩,0):=(by unfold a1P;rw [if_neg h0,if_neg hn,if_pos hm,if_neg hok,if_neg hn7,if_neg om])
  refine ru 7 ?_
  refine a0t 72 (a0b (id:=72) (hs:=[_]) ei_31.h omx rfl omx ⟨rfl,rfl,rfl,rfl,trivial⟩) rfl rfl a0e rfl rfl (c':=c+1) rfl ?_
  first
  | refine a0t 73 (a0a ei_31.h omy rfl omy omy (a0u rfl omy) omy rfl) rfl rfl (a0g rfl (a0C rfl)) rfl rfl (c':=c+2) rfl ?_
  | refine a0t 73 (a0a ei_31.h omy rfl omy omy (a0G rfl omy) omy rfl) rfl rfl (a0g rfl (a0C rfl)) rfl rfl (c':=c+2) rfl ?_
  | refine a0t 73 (a0a ei_31.h omy rfl omy omy (a0F rfl) omy rfl) rfl rfl (a0g rfl a0e) rfl rfl (c':=c+2) rfl ?_
  | refine a0t 73 (a0a ei_31.h omy rfl omy omy (a0w 4 (fun _ _=>default) rfl) omy rfl) rfl rfl (a0g rfl a0e) rfl rfl (c':=c+2) rfl ?_
  refine ru 13 ?_
  refine fr2 ok hX rw2 ((g1,c+1)) (trivial) ((by rw [hA];exact a8m (a5L rfl rfl rfl (by simp)) (a1M rfl))) ?_
  exact ⟨⟨_,rfl,(by rw [hA];exact a6k)⟩,⟨⟨_,rfl,(by rw [hA];exact a6t (by simp) a4f (by exact qm4 rfl rfl rfl rfl))⟩,trivial⟩⟩
 have hm:¬ l.getD 0 []=a3g:=(by simpa using hr1);have hn:l.getD 0 []=a0S:=hnm.resolve_right hm
 refine ru 5 ?_
 refine cll (c1Q l ⟨hl2,hl⟩ hw hj) ?_
 refine ru 15 ?_
 refine wdc (fun hr6 hc6=>?_) (fun hr6 hc6=>?_)
 ·skip
  have hA:a1P d l=(d,2):=(by unfold a1P;rw [if_neg h0,if_pos hn,if_pos (by simpa using hr6)])
  refine ru 9 ?_
  refine fr2 ok hX rw2 ((g1,g2)) (trivial) ((by rw [hA];exact a8m (a5L rfl rfl) (a1M rfl))) ?_
  exact ⟨⟨_,rfl,(by rw [hA];exact a6k)⟩,⟨⟨_,rfl,(by rw [hA];exact a6x)⟩,trivial⟩⟩
 have hok:¬ (a3s l).2=false:=(by simpa using hr6)
 refine ru 7 ?_
 refine rvl (a0p (a3s l).1.name) (rfl) ?_
 refine ru 3 ?_
 refine wdc (fun hr7 hc7=>?_) (fun hr7 hc7=>?_)
 ·skip
  have hA:a1P d l=(d,9):=(by unfold a1P;rw [if_neg h0,if_pos hn,if_neg hok,if_pos (.inl (by simpa using hr7))])
  refine ru 9 ?_
  refine fr2 ok hX rw2 ((g1,g2)) (trivial) ((by rw [hA];exact a8m (a5L rfl rfl) (a1M rfl))) ?_
  exact ⟨⟨_,rfl,(by rw [hA];exact a6k)⟩,⟨⟨_,rfl,(by rw [hA];exact a6x)⟩,trivial⟩⟩
 have hnt:¬ (a3s l).1.name=sText:=(by simpa using hr7)
 refine ru 9 ?_
 refine a0n (α:=Nat) (fun x c=>⟨117,[(1,.v (a0M l)),(2,.v (.pt 2 k0 0 0)),(4,.v (.pt 4 (k0+1) 0 0)),(9,.v (.pt 9 (k0+2) 0 0)),(11,.v (a0h x))],[(2,c5X k0 g1 d.nodes.length g2 d.marks.length),(4,rzO (k0+1)),(9,⟨k0+2,1,9,54,0,fun _=>a5B (a3s l).1⟩),(8101,c2D g1 d.nodes),(8102,c2H g2 d.marks)],c⟩) (fun x=>x≤d.nodes.length∧∀ i,i < x→decide ((d.nodes.getD i default).name=(a3s l).1.name)=false) (fun x=>d.nodes.length - x) (0) (by exact ⟨Nat.zero_le _,fun i h=>absurd h (Nat.not_lt_zero _)⟩) (a0c rfl (Nat.le_refl _) tsa (a0k.cons rfl (a2X (.refl _) (.refl _)) (a0k.cons rfl (a2X (.refl _) (.refl _)) (a0k.cons rfl (a8H (by exact q9 (.refl _) (.refl _) (.refl _) (.refl _) (.refl _) (.refl _) (.refl _) (.refl _) (.refl _))) hsa)))) (fun k c hx NhL2 hL2=>?_)
 (try dsimp only at hx hL2 ⊢)
 obtain ⟨hk,hE⟩:=hx
 refine ru 10 ?_
 refine wdc (fun hr8 hc8=>?_) (fun hr8 hc8=>?_)
 ·refine ru 11 ?_
  first
  | refine a3K 100 (HOp.val (v':=a0p (d.nodes.getD k default).name) (a0A ty_9.h rfl omy omy (fun h=>(by first | rfl | cases h))) ((by simp only [Nat.zero_add];rfl))) rfl rfl (a0C rfl) rfl rfl (k':=6) rfl ?_
  | refine a3K 100 (HOp.val (v':=a0p (d.nodes.getD k default).name) (a0o ty_9.h rfl omy (fun h=>(by first | rfl | cases h))) ((by simp only [Nat.zero_add];rfl))) rfl rfl a0e rfl rfl (k':=6) rfl ?_
  refine ru 5 ?_
  refine wdc (fun hr9 hc9=>?_) (fun hr9 hc9=>?_)
  ·skip
   have hA:a1P d l=(d,9):=(by unfold a1P;rw [if_neg h0,if_pos hn,if_neg hok,if_pos (.inr (c1p (d:=default) (k:=k) om hr9))])
   refine ru 10 ?_
   refine a0f ?_
   refine ru 2 ?_
   refine fr2 ok hX rw2 ((g1,g2)) (trivial) ((by rw [hA];exact a8m (a5L rfl rfl) (a1M rfl))) ?_
   exact ⟨⟨_,rfl,(by rw [hA];exact a6k)⟩,⟨⟨_,rfl,(by rw [hA];exact a6x)⟩,trivial⟩⟩
  refine ru 8 ?_
  exact hL2 (k+1) _ _ (by (try dsimp only);exact ⟨by omega,fun i hi=>by by_cases e:i=k;(subst e;exact hr9);exact hE i om⟩) (by (try dsimp only);omega) (a0c rfl (Nat.le_refl _) tsa hsa)
 have hn3:¬ ((a3s l).1.name=sText∨(d.nodes.any fun o=>decide (o.name=(a3s l).1.name))=true):=(by rintro (h | h);exact hnt h;rw [c0X (d:=default) (fun j hj=>hE j om)] at h;cases h)
 refine ru 2 ?_
 refine a0d ?_
 refine ru 11 ?_
 refine wdc (fun hr10 hc10=>?_) (fun hr10 hc10=>?_)
 ·skip
  have hA:a1P d l=(d,4):=(by unfold a1P;rw [if_neg h0,if_pos hn,if_neg hok,if_neg hn3,if_pos om])
  refine ru 9 ?_
  refine fr2 ok hX rw2 ((g1,g2)) (trivial) ((by rw [hA];exact a8m (a5L rfl rfl) (a1M rfl))) ?_
  exact ⟨⟨_,rfl,(by rw [hA];exact a6k)⟩,⟨⟨_,rfl,(by rw [hA];exact a6x)⟩,trivial⟩⟩
 have hA:a1P d l=(⟨d.nodes++[(a3s l).1],d.marks⟩,0):=(by unfold a1P;rw [if_neg h0,if_pos hn,if_neg hok,if_neg hn3,if_neg om])
 refine ru 7 ?_
 refine a0t 113 (a0b (id:=113) (hs:=[_]) ei_30.h omx rfl omx ⟨rfl,rfl,rfl,rfl,trivial⟩) rfl rfl a0e rfl rfl (c':=c+1) rfl ?_
 first
 | refine a0t 114 (a0a ei_30.h omy rfl omy omy (a0u rfl omy) omy rfl) rfl rfl (a0g rfl (a0C rfl)) rfl rfl (c':=c+2) rfl ?_
 | refine a0t 114 (a0a ei_30.h omy rfl omy omy (a0G rfl omy) omy rfl) rfl rfl (a0g rfl (a0C rfl)) rfl rfl (c':=c+2) rfl ?_
 | refine a0t 114 (a0a ei_30.h omy rfl omy omy (a0F rfl) omy rfl) rfl rfl (a0g rfl a0e) rfl rfl (c':=c+2) rfl ?_
 | refine a0t 114 (a0a ei_30.h omy rfl omy omy (a0w 9 (fun _ _=>default) rfl) omy rfl) rfl rfl (a0g rfl a0e) rfl rfl (c':=c+2) rfl ?_
 refine ru 12 ?_
 refine fr2 ok hX rw2 ((c+1,g2)) (trivial) ((by rw [hA];exact a8m (a5L rfl rfl (by simp)) (a1M rfl))) ?_
 exact ⟨⟨_,rfl,(by rw [hA];exact a6t (by simp) a4d (by exact q9 rfl rfl rfl rfl rfl rfl rfl rfl rfl))⟩,⟨⟨_,rfl,(by rw [hA];exact a6x)⟩,trivial⟩⟩
theorem b8o (s:Bs) (hs:s.length≤65536):a0q Tryz.prog 8 [a0p s] (c0S (declV s)):=by
 obtain ⟨⟨L_,at_,e_⟩,hR_⟩:∃ R_,a1w s=R_:=⟨_,rfl⟩
 have hln:a0q Tryz.prog 19 [a0p s] (b1F (L_,at_,e_)):=by rw [←hR_];exact b5E s hs
 refine a0m Tryz.func8 rfl kr _ _ _ rfl 58 rfl rfl (fun w F=>?_)
 refine ru 10 ?_
 refine cll (hln) ?_
 refine ru 16 ?_
 refine wdc (fun hr0 hc0=>?_) (fun hr0 hc0=>?_)
 ·skip
  have hD:declV s=(Dc.zero,(at_:Int),e_):=(by unfold declV;rw [hR_,if_pos (by simpa using hr0)])
  refine ru 12 ?_
  refine rt3 ?_
  rw [hD];exact a1r (a7j rfl rfl) (.imm _) (.imm _)
 have he0:e_=0:=(by simpa using hr0);have hD:declV s=a3M L_ 0 Dc.zero:=(by unfold declV;rw [hR_,if_neg (by simpa using hr0)]);obtain ⟨hL1,hL2,hL3⟩:=a8E (s:=s) (by rw [hR_];exact he0);rw [hR_] at hL2 hL3;have hL2:L_.length≤65537:=hL2;have hL3:∀ w∈L_,w.length≤s.length:=hL3
 refine ru 16 ?_
 refine (a1q 8 0 8101 9 54 (b5U []) (fun _ j=>match j with | 0=>.os 8101 3 0 0 | _=>.imm (.slice none 0 0)) rfl rfl (by exact fun j hj=>by match j,hj with | 0,_=>exact .inl ⟨rfl,rfl⟩ | 1,_=>exact .inr rfl) (by decide) (by decide) (c':=4) rfl).wp ?_;refine (a1q 8 1 8102 4 57 (b5W []) (fun _=>dcG 3 0 4 0) rfl rfl (by exact fun j hj=>by match j,hj with | 0,_=>exact .inr rfl | 1,_=>exact .inl ⟨rfl,rfl⟩) (by decide) (by decide) (c':=5) rfl).wp ?_
 refine a0n (α:=Nat×Dc×Nat×Nat) (fun x c=>⟨58,[(2,.v (.pt 2 0 0 0)),(5,.v (a0M L_)),(8,.v (.pt 8 1 0 0)),(9,.v (a0h (x.1:Int)))],[(2,rzO 0),(8,c5X 1 x.2.2.1 x.2.1.nodes.length x.2.2.2 x.2.1.marks.length),(8101,c2D x.2.2.1 x.2.1.nodes),(8102,c2H x.2.2.2 x.2.1.marks)],c⟩) (fun x=>x.1≤L_.length∧(x.2.1.nodes.length≤24∧x.2.1.marks.length≤8)∧a3M (L_.drop x.1) x.1 x.2.1=declV s) (fun x=>L_.length - x.1) ((0,Dc.zero,3,4)) (by exact ⟨Nat.zero_le _,⟨Nat.zero_le _,Nat.zero_le _⟩,hD.symm⟩) (a0c rfl (Nat.le_refl _) tsa (a0k.cons rfl (a2X (.refl _) (.refl _)) hsa)) (fun x c hx NhL1 hL1=>?_)
 revert hx hL1;obtain ⟨i,d,g1,g2⟩:=x;intro hx hL1;dsimp only at hx hL1 ⊢
 obtain ⟨ha1,ha2,ha3⟩:=hx
 refine ru 9 ?_
 refine wdc (fun hr1 hc1=>?_) (fun hr1 hc1=>?_)
 ·skip
  have hil:i < L_.length:=om;obtain ⟨v_,hv_⟩:∃ v_,L_.getD i []=v_:=⟨_,rfl⟩;have hd_:L_.drop i=v_::L_.drop (i+1):=(by rw [List.drop_eq_getElem_cons hil,←hv_,List.getD_eq_getElem?_getD,List.getElem?_eq_getElem hil];rfl);have hvl:v_.length≤65536:=(by have:=hL3 v_ (by rw [←hv_];exact a2k hil);omega);rw [hd_,a9u] at ha3;obtain ⟨o_,ho_⟩:∃ o_,a2m v_=o_:=⟨_,rfl⟩;have hsp:a0q Tryz.prog 20 [a0p v_] (b4T o_):=(by rw [←ho_];exact b5H v_ om);rw [ho_] at ha3
  refine ru 10 ?_
  refine rvl (a0p v_) ((by rw [←hv_];first | done | rfl)) ?_
  refine cll (hsp) ?_
  refine ru 9 ?_
  rcases o_ with _ | wl
  ·refine ru 10 ?_
   refine wdc (fun hr2 hc2=>?_) (fun hr2 hc2=>?_)
   ·skip
    exfalso;simp at hr2
   refine ru 8 ?_
   refine wdc (fun hr3 hc3=>?_) (fun hr3 hc3=>?_)
   ·skip
    have ha4:(Dc.zero,((i+1:Nat):Int),(2:Int))=declV s:=ha3
    refine ru 14 ?_
    refine a0f ?_
    refine ru 2 ?_
    refine rt3 ?_
    rw [←ha4];exact a1r (a7j rfl rfl) (Fz.eq (congrArg a0h (show ((i:Nat):Int)+1=((i+1:Nat):Int) from by omega))) (.imm _)
   exfalso;simp at hr3
  ·refine ru 10 ?_
   refine wdc (fun hr2 hc2=>?_) (fun hr2 hc2=>?_)
   ·skip
    have hne:wl≠[]:=(by rintro rfl;simp at hr2);have ha5:(if wl=[] then a3M (L_.drop (i+1)) (i+1) d else if (a1P d wl).2=0 then a3M (L_.drop (i+1)) (i+1) (a1P d wl).1 else (Dc.zero,((i+1:Nat):Int),(a1P d wl).2))=declV s:=ha3;rw [if_neg hne] at ha5;obtain ⟨hW1,hW2⟩:=a8y ho_;have hWj:=a8t ho_
    refine ru 3 ?_
    refine a0l 48 (xs:=[_,_]) (pre:=[(8101,_),(8102,_)]) (c3R _ g1 g2 d wl ha2 om (fun w hw=>by have:=hW2 w hw;omega) (by rw [hWj];omega)) ⟨rfl,⟨rfl,trivial⟩⟩ (a0g rfl (a0g rfl a0e)) rfl rfl (fun x1 c1 hx1=>?_)
    obtain ⟨q1,q2⟩:=x1
    (try dsimp only)
    refine ru 13 ?_
    refine wdc (fun hr3 hc3=>?_) (fun hr3 hc3=>?_)
    ·skip
     have ha4:(Dc.zero,((i+1:Nat):Int),(a1P d wl).2)=declV s:=(by rw [if_neg (by simpa using hr3)] at ha5;exact ha5)
     refine ru 14 ?_
     refine a0f ?_
     refine ru 2 ?_
     refine rt3 ?_
     rw [←ha4];exact a1r (a7j rfl rfl) (Fz.eq (congrArg a0h (show ((i:Nat):Int)+1=((i+1:Nat):Int) from by omega))) (.imm _)
    have ha4:a3M (L_.drop (i+1)) (i+1) (a1P d wl).1=declV s:=(by rw [if_pos (by simpa using hr3)] at ha5;exact ha5)
    refine ru 8 ?_
    exact hL1 ((i+1,(a1P d wl).1,q1,q2)) _ _ (by (try dsimp only);exact ⟨by omega,b0A ha2,ha4⟩) (by (try dsimp only);omega) (a0c rfl (Nat.le_refl _) tsa (hsr rfl (a0k.cons rfl (a2X (.refl _) (.refl _)) hsa)))
   have hwe:wl=[]:=(by have h9:=hr2;simp at h9;first | exact h9 | exact List.eq_nil_of_length_eq_zero om);have ha4:a3M (L_.drop (i+1)) (i+1) d=declV s:=(by subst hwe;exact ha3)
   refine ru 8 ?_
   refine wdc (fun hr3 hc3=>?_) (fun hr3 hc3=>?_)
   ·skip
    exfalso;simp at hr3
   refine ru 8 ?_
   exact hL1 ((i+1,d,g1,g2)) _ _ (by (try dsimp only);exact ⟨by omega,ha2,ha4⟩) (by (try dsimp only);omega) (a0c rfl (Nat.le_refl _) tsa hsa)
 rw [List.drop_of_length_le (show L_.length≤i by omega)] at ha3
 refine ru 2 ?_
 refine a0d ?_
 refine ru 11 ?_
 refine a5f rfl (a0Q rfl rfl ty_33.h rqc rfl rfl) (a0r rfl) (a0r rfl) [(8101,_),(8102,_)] rfl (a0g rfl (a0g rfl a0e)) ?_
 rw [←ha3];exact a1r (.agg _ _ _ (fun j hj=>by match j,hj with | 0,_=>exact a1x (l:=d.nodes) (enc:=a5B) (d:=default) (List.mem_cons_self ..) rfl rfl (Nat.le_refl _) (fun i j hi hj=>a4d _ j hj) | 1,_=>exact a1x (l:=d.marks) (enc:=a5E) (d:=default) (List.mem_cons_of_mem _ (List.mem_cons_self ..)) rfl rfl (Nat.le_refl _) (fun i j hi hj=>a4f _ j hj))) (.imm _) (.imm _)
def c0c (d:Dc):Prop:=d.nodes.length≤1000000∧d.marks.length≤1000000∧(∀ k,(d.nodes.getD k default).groups.length≤1000000∧(d.nodes.getD k default).marks.length≤1000000)∧∀ k,(d.marks.getD k default).bars.length≤1000000
@[reducible] def rcO (g:Nat) (d:Dc):HObj:=⟨g,1,2,33,0,fun _=>dcF d⟩
theorem b6P (a b:Dc) (hs:c0c a):a0q Tryz.prog 9 [dcV a,dcV b] (a0s (decide (a=b))):=by
 obtain ⟨hs1,hs2,hs3,hs4⟩:=hs
 refine a0m Tryz.func9 rfl kr _ _ _ rfl 151 rfl rfl (fun w F=>?_)
 refine ru 28 ?_
 refine wdc (fun hr0 hc0=>?_) (fun hr0 hc0=>?_)
 ·skip
  have hne:a≠b:=(by rintro rfl;simp at hr0)
  refine ru 7 ?_
  refine rt1 ?_
  exact a1d (by rw [decide_eq_false hne])
 have hl0:a.nodes.length=b.nodes.length∧a.marks.length=b.marks.length:=(by have h9:=hr0;simp at h9;omega)
 refine ru 9 ?_
 refine a0n (α:=Nat) (fun x c=>⟨151,[(2,.v (.pt 2 0 0 0)),(3,.v (.pt 3 1 0 0)),(5,.v (a0h x))],[(2,rcO 0 a),(3,rcO 1 b)],c⟩) (fun x=>x≤a.nodes.length∧∀ i,i < x→a.nodes.getD i default=b.nodes.getD i default) (fun x=>a.nodes.length - x) (0) (by exact ⟨Nat.zero_le _,fun i h=>absurd h (Nat.not_lt_zero _)⟩) (a0c rfl (Nat.le_refl _) tsa hsa) (fun k c hx NhL1 hL1=>?_)
 (try dsimp only at hx hL1 ⊢)
 obtain ⟨hk,hE⟩:=hx
 refine ru 10 ?_
 refine wdc (fun hr1 hc1=>?_) (fun hr1 hc1=>?_)
 ·skip
  have hg1:=hs3 k;obtain ⟨x_,hx_⟩:∃ x_,a.nodes.getD k default=x_:=⟨_,rfl⟩;obtain ⟨y_,hy_⟩:∃ y_,b.nodes.getD k default=y_:=⟨_,rfl⟩;rw [hx_] at hg1
  refine ru 11 ?_
  refine rvl (.agg 9 (a5B x_)) ((by rw [←hx_];first | done | rfl)) ?_
  refine ru 11 ?_
  refine rvl (.agg 9 (a5B y_)) ((by rw [←hy_];first | done | rfl)) ?_
  refine ru 58 ?_
  first
  | refine stg 91 (fun hb=>a0i (xs:=[_,_]) (a6Y x_.groups y_.groups hg1.1) ⟨rfl,⟨rfl,trivial⟩⟩ ⟨(Fz.eq rfl),⟨(Fz.eq rfl),trivial⟩⟩) rfl rfl rfl rfl rfl ?_
  | refine sth 91 (fun hb=>a0i (xs:=[_,_]) (a6Y x_.groups y_.groups hg1.1) ⟨rfl,⟨rfl,trivial⟩⟩ ⟨(Fz.eq rfl),⟨(Fz.eq rfl),trivial⟩⟩) rfl rfl rfl rfl rfl ?_
  refine ru 7 ?_
  first
  | refine stg 99 (fun hb=>a0i (xs:=[_,_]) (a6Y x_.marks y_.marks hg1.2) ⟨rfl,⟨rfl,trivial⟩⟩ ⟨(Fz.eq rfl),⟨(Fz.eq rfl),trivial⟩⟩) rfl rfl rfl rfl rfl ?_
  | refine sth 99 (fun hb=>a0i (xs:=[_,_]) (a6Y x_.marks y_.marks hg1.2) ⟨rfl,⟨rfl,trivial⟩⟩ ⟨(Fz.eq rfl),⟨(Fz.eq rfl),trivial⟩⟩) rfl rfl rfl rfl rfl ?_
  refine ru 4 ?_
  refine wdc (fun hr2 hc2=>?_) (fun hr2 hc2=>?_)
  ·skip
   have hne:a≠b:=(by rintro rfl;have h9:=hr2;obtain rfl:x_=y_:=hx_.symm.trans hy_;simp at h9)
   refine ru 8 ?_
   refine a0f ?_
   refine ru 2 ?_
   refine rt1 ?_
   exact a1d (by rw [decide_eq_false hne])
  have hxy:x_=y_:=(by have h9:=hr2;simp at h9;obtain ⟨b1,b2,b3,b4,b5,b6,b7,b8,b9⟩:=x_;obtain ⟨d1,d2,d3,d4,d5,d6,d7,d8,d9⟩:=y_;simp at h9;simp [h9])
  refine ru 8 ?_
  exact hL1 (k+1) _ _ (by (try dsimp only);exact ⟨by omega,fun i hi=>by by_cases e:i=k;(subst e;rw [hx_,hy_];exact hxy);exact hE i om⟩) (by (try dsimp only);omega) (a0c rfl (Nat.le_refl _) tsa hsa)
 have hN:a.nodes=b.nodes:=a4L (d:=default) hl0.1 (fun i hi=>hE i om)
 refine ru 2 ?_
 refine a0d ?_
 refine ru 9 ?_
 refine a0n (α:=Nat) (fun x c=>⟨151,[(2,.v (.pt 2 0 0 0)),(3,.v (.pt 3 1 0 0)),(8,.v (a0h x))],[(2,rcO 0 a),(3,rcO 1 b)],c⟩) (fun x=>x≤a.marks.length∧∀ i,i < x→a.marks.getD i default=b.marks.getD i default) (fun x=>a.marks.length - x) (0) (by exact ⟨Nat.zero_le _,fun i h=>absurd h (Nat.not_lt_zero _)⟩) (a0c rfl (Nat.le_refl _) tsa hsa) (fun k c hx NhL2 hL2=>?_)
 (try dsimp only at hx hL2 ⊢)
 obtain ⟨hk,hE⟩:=hx
 refine ru 10 ?_
 refine wdc (fun hr3 hc3=>?_) (fun hr3 hc3=>?_)
 ·skip
  have hg1:=hs4 k;obtain ⟨x_,hx_⟩:∃ x_,a.marks.getD k default=x_:=⟨_,rfl⟩;obtain ⟨y_,hy_⟩:∃ y_,b.marks.getD k default=y_:=⟨_,rfl⟩;rw [hx_] at hg1
  refine ru 11 ?_
  refine rvl (.agg 4 (a5E x_)) ((by rw [←hx_];first | done | rfl)) ?_
  refine ru 11 ?_
  refine rvl (.agg 4 (a5E y_)) ((by rw [←hy_];first | done | rfl)) ?_
  refine ru 30 ?_
  first
  | refine stg 143 (fun hb=>a0i (xs:=[_,_]) (a6Y x_.bars y_.bars hg1) ⟨rfl,⟨rfl,trivial⟩⟩ ⟨(Fz.eq rfl),⟨(Fz.eq rfl),trivial⟩⟩) rfl rfl rfl rfl rfl ?_
  | refine sth 143 (fun hb=>a0i (xs:=[_,_]) (a6Y x_.bars y_.bars hg1) ⟨rfl,⟨rfl,trivial⟩⟩ ⟨(Fz.eq rfl),⟨(Fz.eq rfl),trivial⟩⟩) rfl rfl rfl rfl rfl ?_
  refine ru 4 ?_
  refine wdc (fun hr4 hc4=>?_) (fun hr4 hc4=>?_)
  ·skip
   have hne:a≠b:=(by rintro rfl;have h9:=hr4;obtain rfl:x_=y_:=hx_.symm.trans hy_;simp at h9)
   refine ru 8 ?_
   refine a0f ?_
   refine ru 2 ?_
   refine rt1 ?_
   exact a1d (by rw [decide_eq_false hne])
  have hxy:x_=y_:=(by have h9:=hr4;simp at h9;obtain ⟨b1,b2,b3,b4⟩:=x_;obtain ⟨d1,d2,d3,d4⟩:=y_;simp at h9;simp [h9])
  refine ru 8 ?_
  exact hL2 (k+1) _ _ (by (try dsimp only);exact ⟨by omega,fun i hi=>by by_cases e:i=k;(subst e;rw [hx_,hy_];exact hxy);exact hE i om⟩) (by (try dsimp only);omega) (a0c rfl (Nat.le_refl _) tsa hsa)
 have hM:a.marks=b.marks:=a4L (d:=default) hl0.2 (fun i hi=>hE i om)
 refine ru 2 ?_
 refine a0d ?_
 refine ru 8 ?_
 refine rt1 ?_
 exact a1d (by rw [decide_eq_true (show a=b by obtain ⟨b1,b2⟩:=a;obtain ⟨d1,d2⟩:=b;simp at hN hM;simp [hN,hM])])
theorem a5s (a b:List Bs) (ha:a.length≤1000000) (hb:b.length≤1000000):a0q Tryz.prog 32 [a0M a,a0M b] (a0s (decide (a=b))):=by
 refine a0m Tryz.func32 rfl kr _ _ _ rfl 26 rfl rfl (fun w F=>?_)
 refine ru 15 ?_
 refine wdc (fun hr0 hc0=>?_) (fun hr0 hc0=>?_)
 ·refine ru 7 ?_
  refine rt1 ?_
  rw [decide_eq_false (fun h=>hc0 (by rw [h]))];exact .imm _
 refine ru 11 ?_
 refine a0n (α:=Nat) (fun x c=>⟨26,[(0,.v (a0M a)),(1,.v (a0M b)),(12,.v (a0h a.length)),(13,.v (a0h x))],[],c⟩) (fun x=>x≤a.length∧∀ j,j < x→a.getD j []=b.getD j []) (fun x=>a.length - x) (0) (by exact ⟨Nat.zero_le _,fun j hj=>absurd hj (Nat.not_lt_zero _)⟩) (a0c rfl (Nat.le_refl _) tsa a0k.nil) (fun k c hx NhL1 hL1=>?_)
 (try dsimp only at hx hL1 ⊢)
 obtain ⟨hk,hE⟩:=hx
 refine ru 6 ?_
 refine wdc (fun hr1 hc1=>?_) (fun hr1 hc1=>?_)
 ·refine ru 15 ?_
  first
  | refine a3K 19 (HOp.val (v':=a0p (a.getD k [])) (a0A ty_9.h rfl omy omy (fun h=>(by first | rfl | cases h))) (rfl)) rfl rfl (a0C rfl) rfl rfl (k':=4) rfl ?_
  | refine a3K 19 (HOp.val (v':=a0p (a.getD k [])) (a0o ty_9.h rfl omy (fun h=>(by first | rfl | cases h))) (rfl)) rfl rfl a0e rfl rfl (k':=4) rfl ?_
  refine ru 3 ?_
  first
  | refine a3K 23 (HOp.val (v':=a0p (b.getD k [])) (a0A ty_9.h rfl omy omy (fun h=>(by first | rfl | cases h))) (rfl)) rfl rfl (a0C rfl) rfl rfl (k':=8) rfl ?_
  | refine a3K 23 (HOp.val (v':=a0p (b.getD k [])) (a0o ty_9.h rfl omy (fun h=>(by first | rfl | cases h))) (rfl)) rfl rfl a0e rfl rfl (k':=8) rfl ?_
  refine ru 3 ?_
  refine wdc (fun hr2 hc2=>?_) (fun hr2 hc2=>?_)
  ·refine ru 8 ?_
   refine a0f ?_
   refine ru 2 ?_
   refine rt1 ?_
   rw [decide_eq_false (fun h=>by rw [h] at hr2;simp at hr2)];exact .imm _
  refine ru 7 ?_
  exact hL1 (k+1) _ _ (by (try dsimp only);exact ⟨by omega,fun j hj=>by by_cases e:j=k;(· subst e;simpa using hr2);exact hE j om⟩) (by (try dsimp only);omega) (a0c rfl (Nat.le_refl _) tsa a0k.nil)
 refine ru 2 ?_
 refine a0d ?_
 refine ru 8 ?_
 refine rt1 ?_
 rw [decide_eq_true (a4L [] om (fun j hj=>hE j om))];exact .imm _
theorem c4P {x y:Nd} (h1:x.name=y.name) (h2:x.groups=y.groups) (h3:x.inl=y.inl) (h4:x.pick=y.pick) (h5:x.leaf=y.leaf) (h6:x.attr=y.attr) (h7:x.all=y.all) (h8:x.marks=y.marks) (h9:x.expr=y.expr):x=y:=by
 cases x;cases y;simp_all
theorem c4g {x y:Mk} (h1:x.name=y.name) (h2:x.val=y.val) (h3:x.all=y.all) (h4:x.bars=y.bars):x=y:=by
 cases x;cases y;simp_all
theorem b9Z (x y:Nd) (hx:x.groups.length≤1000000∧x.marks.length≤1000000) (hy:y.groups.length≤1000000∧y.marks.length≤1000000):a0q Tryz.prog 31 [b9B x,b9B y] (a0s (decide (x=y))):=by
 refine a0m Tryz.func31 rfl kr _ _ _ rfl 68 rfl rfl (fun w F=>?_)
 refine ru 65 ?_
 refine ry (a0M x.groups) rfl (fun hb=>rfl) ?_
 refine ru 2 ?_
 refine ry (a0M y.groups) rfl (fun hb=>rfl) ?_
 first
 | refine stg 54 (fun hb=>a0i (xs:=[_,_]) (a5s x.groups y.groups hx.1 hy.1) ⟨rfl,⟨rfl,trivial⟩⟩ ⟨(Fz.eq rfl),⟨(Fz.eq rfl),trivial⟩⟩) rfl rfl rfl rfl rfl ?_
 | refine sth 54 (fun hb=>a0i (xs:=[_,_]) (a5s x.groups y.groups hx.1 hy.1) ⟨rfl,⟨rfl,trivial⟩⟩ ⟨(Fz.eq rfl),⟨(Fz.eq rfl),trivial⟩⟩) rfl rfl rfl rfl rfl ?_
 refine ru 4 ?_
 refine ry (a0M x.marks) rfl (fun hb=>rfl) ?_
 refine ru 2 ?_
 refine ry (a0M y.marks) rfl (fun hb=>rfl) ?_
 first
 | refine stg 61 (fun hb=>a0i (xs:=[_,_]) (a5s x.marks y.marks hx.2 hy.2) ⟨rfl,⟨rfl,trivial⟩⟩ ⟨(Fz.eq rfl),⟨(Fz.eq rfl),trivial⟩⟩) rfl rfl rfl rfl rfl ?_
 | refine sth 61 (fun hb=>a0i (xs:=[_,_]) (a5s x.marks y.marks hx.2 hy.2) ⟨rfl,⟨rfl,trivial⟩⟩ ⟨(Fz.eq rfl),⟨(Fz.eq rfl),trivial⟩⟩) rfl rfl rfl rfl rfl ?_
 refine ru 5 ?_
 refine rt1 ?_
 exact a1d (by rw [Bool.eq_iff_iff];simp;constructor;(intro h9;apply c4P <;> simp_all);(rintro rfl;simp))
theorem b9k (x y:Mk) (hx:x.bars.length≤1000000) (hy:y.bars.length≤1000000):a0q Tryz.prog 34 [mkV x,mkV y] (a0s (decide (x=y))):=by
 refine a0m Tryz.func34 rfl kr _ _ _ rfl 31 rfl rfl (fun w F=>?_)
 refine ru 31 ?_
 refine ry (a0M x.bars) rfl (fun hb=>rfl) ?_
 refine ru 2 ?_
 refine ry (a0M y.bars) rfl (fun hb=>rfl) ?_
 first
 | refine stg 24 (fun hb=>a0i (xs:=[_,_]) (a5s x.bars y.bars hx hy) ⟨rfl,⟨rfl,trivial⟩⟩ ⟨(Fz.eq rfl),⟨(Fz.eq rfl),trivial⟩⟩) rfl rfl rfl rfl rfl ?_
 | refine sth 24 (fun hb=>a0i (xs:=[_,_]) (a5s x.bars y.bars hx hy) ⟨rfl,⟨rfl,trivial⟩⟩ ⟨(Fz.eq rfl),⟨(Fz.eq rfl),trivial⟩⟩) rfl rfl rfl rfl rfl ?_
 refine ru 5 ?_
 refine rt1 ?_
 exact a1d (by rw [Bool.eq_iff_iff];simp;constructor;(intro h9;apply c4g <;> simp_all);(rintro rfl;simp))
instance frz_nodV9 (n:Nd):Frz (b9B n):=⟨.agg _ _ _ (a4d n)⟩
instance frz_mkV (m:Mk):Frz (mkV m):=⟨.agg _ _ _ (a4f m)⟩
theorem c3k (a b:List Nd) (hla:a.length≤1000000) (hlb:b.length≤1000000) (ha:∀ k,(a.getD k default).groups.length≤1000000∧(a.getD k default).marks.length≤1000000) (hb:∀ k,(b.getD k default).groups.length≤1000000∧(b.getD k default).marks.length≤1000000):a0q Tryz.prog 30 [b2D a,b2D b,.fn (.func 31) 0 (fun _=>default)] (a0s (decide (a=b))):=by
 refine a0m Tryz.func30 rfl kr _ _ _ rfl 32 rfl rfl (fun w F=>?_)
 refine ru 15 ?_
 refine wdc (fun hr0 hc0=>?_) (fun hr0 hc0=>?_)
 ·refine ru 7 ?_
  refine rt1 ?_
  rw [decide_eq_false (fun h=>hc0 (by rw [h]))];exact .imm _
 refine ru 11 ?_
 refine a0n (α:=Nat) (fun x c=>⟨32,[(0,.v (b2D a)),(1,.v (b2D b)),(2,.v (.fn (.func 31) 0 (fun _=>default))),(15,.v (b2D a)),(16,.v (a0h a.length)),(17,.v (a0h x))],[],c⟩) (fun x=>x≤a.length∧∀ j,j < x→a.getD j default=b.getD j default) (fun x=>a.length - x) (0) (by exact ⟨Nat.zero_le _,fun j hj=>absurd hj (Nat.not_lt_zero _)⟩) (a0c rfl (Nat.le_refl _) tsa a0k.nil) (fun k c hx NhL1 hL1=>?_)
 (try dsimp only at hx hL1 ⊢)
 obtain ⟨hk,hE⟩:=hx
 refine ru 6 ?_
 refine wdc (fun hr1 hc1=>?_) (fun hr1 hc1=>?_)
 ·refine ru 28 ?_
  refine rvl (.agg 9 (a5B (a.getD k default))) (rfl) ?_
  refine ru 1 ?_
  refine rvl (.agg 9 (a5B (b.getD k default))) (rfl) ?_
  refine s0 (a6G (xs:=[_,_]) (cs:=[]) (b9Z _ _ (ha k) (hb k)) rfl rfl (fun i hi=>by first | rfl | (cases i <;> first | rfl | (simp at hi))) ⟨rfl,⟨rfl,trivial⟩⟩ ⟨(Fz.eq rfl),⟨(Fz.eq rfl),trivial⟩⟩) ?_
  refine ru 3 ?_
  refine wdc (fun hr2 hc2=>?_) (fun hr2 hc2=>?_)
  ·refine ru 8 ?_
   refine a0f ?_
   refine ru 2 ?_
   refine rt1 ?_
   rw [decide_eq_false (fun h=>by rw [h] at hr2;simp at hr2)];exact .imm _
  refine ru 7 ?_
  exact hL1 (k+1) _ _ (by (try dsimp only);exact ⟨by omega,fun j hj=>by by_cases e:j=k;(· subst e;exact of_decide_eq_true (by simpa using hr2));exact hE j om⟩) (by (try dsimp only);omega) (a0c rfl (Nat.le_refl _) tsa a0k.nil)
 refine ru 2 ?_
 refine a0d ?_
 refine ru 8 ?_
 refine rt1 ?_
 rw [decide_eq_true (a4L default om (fun j hj=>hE j om))];exact .imm _
theorem b8d (a b:List Mk) (hla:a.length≤1000000) (hlb:b.length≤1000000) (ha:∀ k,(a.getD k default).bars.length≤1000000) (hb:∀ k,(b.getD k default).bars.length≤1000000):a0q Tryz.prog 33 [b4J a,b4J b,.fn (.func 34) 0 (fun _=>default)] (a0s (decide (a=b))):=by
 refine a0m Tryz.func33 rfl kr _ _ _ rfl 32 rfl rfl (fun w F=>?_)
 refine ru 15 ?_
 refine wdc (fun hr0 hc0=>?_) (fun hr0 hc0=>?_)
 ·refine ru 7 ?_
  refine rt1 ?_
  rw [decide_eq_false (fun h=>hc0 (by rw [h]))];exact .imm _
 refine ru 11 ?_
 refine a0n (α:=Nat) (fun x c=>⟨32,[(0,.v (b4J a)),(1,.v (b4J b)),(2,.v (.fn (.func 34) 0 (fun _=>default))),(15,.v (b4J a)),(16,.v (a0h a.length)),(17,.v (a0h x))],[],c⟩) (fun x=>x≤a.length∧∀ j,j < x→a.getD j default=b.getD j default) (fun x=>a.length - x) (0) (by exact ⟨Nat.zero_le _,fun j hj=>absurd hj (Nat.not_lt_zero _)⟩) (a0c rfl (Nat.le_refl _) tsa a0k.nil) (fun k c hx NhL1 hL1=>?_)
 (try dsimp only at hx hL1 ⊢)
 obtain ⟨hk,hE⟩:=hx
 refine ru 6 ?_
 refine wdc (fun hr1 hc1=>?_) (fun hr1 hc1=>?_)
 ·refine ru 28 ?_
  refine rvl (.agg 4 (a5E (a.getD k default))) (rfl) ?_
  refine ru 1 ?_
  refine rvl (.agg 4 (a5E (b.getD k default))) (rfl) ?_
  refine s0 (a6G (xs:=[_,_]) (cs:=[]) (b9k _ _ (ha k) (hb k)) rfl rfl (fun i hi=>by first | rfl | (cases i <;> first | rfl | (simp at hi))) ⟨rfl,⟨rfl,trivial⟩⟩ ⟨(Fz.eq rfl),⟨(Fz.eq rfl),trivial⟩⟩) ?_
  refine ru 3 ?_
  refine wdc (fun hr2 hc2=>?_) (fun hr2 hc2=>?_)
  ·refine ru 8 ?_
   refine a0f ?_
   refine ru 2 ?_
   refine rt1 ?_
   rw [decide_eq_false (fun h=>by rw [h] at hr2;simp at hr2)];exact .imm _
  refine ru 7 ?_
  exact hL1 (k+1) _ _ (by (try dsimp only);exact ⟨by omega,fun j hj=>by by_cases e:j=k;(· subst e;exact of_decide_eq_true (by simpa using hr2));exact hE j om⟩) (by (try dsimp only);omega) (a0c rfl (Nat.le_refl _) tsa a0k.nil)
 refine ru 2 ?_
 refine a0d ?_
 refine ru 8 ?_
 refine rt1 ?_
 rw [decide_eq_true (a4L default om (fun j hj=>hE j om))];exact .imm _
theorem b3d (a b:Dc) (ha:c0c a) (hb:c0c b):a0q Tryz.prog 15 [dcV a,dcV b] (a0s (decide (a=b))):=by
 obtain ⟨hs1,hs2,hs3,hs4⟩:=ha
 obtain ⟨ht1,ht2,ht3,ht4⟩:=hb
 refine a0m Tryz.func15 rfl kr _ _ _ rfl 17 rfl rfl (fun w F=>?_)
 refine ru 11 ?_
 refine rvl (b2D a.nodes) (rfl) ?_
 refine ru 2 ?_
 refine rvl (b2D b.nodes) (rfl) ?_
 refine s0 (a0i (xs:=[_,_,_]) (c3k a.nodes b.nodes hs1 ht1 hs3 ht3) ⟨rfl,⟨rfl,⟨rfl,trivial⟩⟩⟩ ⟨(b8I _),⟨(b8I _),⟨Frz.fz,trivial⟩⟩⟩) ?_
 refine ru 3 ?_
 refine ry (b4J a.marks) rfl (fun hb=>rfl) ?_
 refine ru 2 ?_
 refine ry (b4J b.marks) rfl (fun hb=>rfl) ?_
 first
 | refine stg 10 (fun hb=>a0i (xs:=[_,_,_]) (b8d a.marks b.marks hs2 ht2 hs4 ht4) ⟨rfl,⟨rfl,⟨rfl,trivial⟩⟩⟩ ⟨(a8a _),⟨(a8a _),⟨Frz.fz,trivial⟩⟩⟩) rfl rfl rfl rfl rfl ?_
 | refine sth 10 (fun hb=>a0i (xs:=[_,_,_]) (b8d a.marks b.marks hs2 ht2 hs4 ht4) ⟨rfl,⟨rfl,⟨rfl,trivial⟩⟩⟩ ⟨(a8a _),⟨(a8a _),⟨Frz.fz,trivial⟩⟩⟩) rfl rfl rfl rfl rfl ?_
 refine ru 5 ?_
 refine rt1 ?_
 exact a1d (by rw [Bool.eq_iff_iff];obtain ⟨b1,b2⟩:=a;obtain ⟨d1,d2⟩:=b;simp)
end Go.Proofs.YtjdmfohncgkdoaaGreatDoor
namespace Go.Proofs.YtjdmfohncgkdoaaGreatDoor
set_option linter.unusedSimpArgs false
set_option linter.unusedVariables false
set_option maxRecDepth 100000
set_option maxHeartbeats 4000000
open Go.RowKit
open Go.Lib (itoa)
def joinC:List Bs→Bs
 | []=>[]
 | [w]=>w
 | w::v::r=>w++44::joinC (v::r)
theorem b1p (ls:List Bs):Go.Lib.join ls [44]=joinC ls:=by
  match ls with
  | []=>rfl
  | [w]=>exact Go.Lib.join_one w [44]
  | w :: v :: r =>
    have:=b1p (v::r)
    simp only [joinC]
    rw [←this,Go.Lib.join_cons,Go.Lib.join_cons]
    simp [Go.Lib.joinTail]
theorem b4n (ls:List Bs) (h1:ls.length≤1000000) (h2:(joinC ls).length≤100000000):a0q Tryz.prog 49 [a0M ls,a0p [44]] (a0p (joinC ls)):=by
 refine ⟨⟨_,_,Tryz.func49,rfl,by kernel_rfl⟩,fun w F vs hF hr hw=>?_⟩
 obtain ⟨u,v,rfl,hu,hv⟩:=c3A hr
 obtain ⟨A,c,rfl,hc,hm,hs⟩:=b7I hu
 rw [hv.imm_inv]
 have hj:Lib.join ((ls.map (fun w:Bs=>(⟨w.toArray⟩:ByteArray))).map (·.data.toList)) [44]=joinC ls:=by
  rw [←b1p,List.map_map]
  congr 1
  exact List.map_id _
 by_cases h0:0 < ls.length
 ·obtain ⟨b,o,rfl,hlt⟩:=hs.addr h0 (by omega)
  have key:=Tryz.strings_Join b o c (ls.map (fun w:Bs=>(⟨w.toArray⟩:ByteArray))) ⟨#[44]⟩ w (fun j x hx=>by
   rw [List.getElem?_map] at hx
   obtain ⟨y,hy,rfl⟩:=Option.map_eq_some_iff.1 hx
   have hj:j < ls.length:=(List.getElem?_eq_some_iff.1 hy).1
   have:=hs.cell1 hj
   rw [this]
   have e:ls[j]=y:=(List.getElem?_eq_some_iff.1 hy).2
   rw [e];rfl) hlt (by rw [List.length_map];omega) (by rw [List.length_map];exact hc) (by
   show (Lib.join _ [44]).length≤_
   rw [hj];omega)
  rw [List.length_map] at key
  refine key.mono ?_
  rintro e w' ⟨rfl,hb⟩
  show a0X w F _ (.returned (.string ⟨(Lib.join _ [44]).toArray⟩)) w'
  rw [hj]
  exact a3a hF hb
 ·obtain rfl:ls=[]:=List.eq_nil_of_length_eq_zero (by omega)
  refine (Tryz.strings_Join_none A c ⟨#[44]⟩ w).mono ?_
  rintro e w' ⟨rfl,rfl⟩
  exact a3a hF (Below.refl _ _)
@[reducible] def swO (g id gr n:Nat):HObj:=⟨g,1,1,65,0,fun _ _=>.os id gr 0 n⟩
def a0y (l:List Bs) (s:Bs) (b:Bool):List Bs:=if b=true then l++[s] else l
def a4F (l:List Bs) (s:Bs) (n:Int):List Bs:=a0y l (s++[61]++itoa n) (decide (n≠0))
def a3T (l:List Bs) (s:Bs) (all:Bool) (r:List Bs):List Bs:=a0y (a0y l (s++[61,42]) all) (s++[61]++joinC r) (decide (0 < r.length))
theorem a2H (l:List Bs) (s:Bs) (b:Bool):(a0y l s b).length≤l.length+1:=by
 unfold a0y;split
 ·rw [List.length_append];exact Nat.le_refl _
 ·omega
theorem a7g {kp sh:List (Nat×HObj)} {g id gr n n':Nat} {o1:HObj} {F:Nat→Nat→HV} (f0:F 0 0=.os id gr 0 n) (k:n=n':=by rfl) (h1:hget kp id=some o1:=by rfl) (e1:o1.g=gr:=by rfl):OKz kp sh ⟨g,1,1,65,0,F⟩ (swO g id gr n'):=by
 subst k
 exact .of fun i j hi hj=>by
  obtain rfl:i=0:=by omega
  obtain rfl:j=0:=by omega
  rw [f0];exact .os _ _ _ _ _ h1 e1
theorem b2z (c g gr:Nat) (l:List Bs) (s:Bs) (b:Bool) (hl:l.length≤1000000):a3c Tryz.prog 27 c [.pt 26 g 0 0,a0p s,a0s b] [(26,swO g 24 gr l.length),(24,a3U gr l)] (a4W (fun (q:Nat) _=>True) (fun _=>.tup 0 fun _=>default) (fun q=>[(26,swO g 24 q (a0y l s b).length),(24,a3U q (a0y l s b))])):=by
 refine a0v Tryz.func27 rfl kr _ _ _ _ rfl 17 rfl rfl (fun X ok hX=>?_)
 refine ru 5 ?_
 refine wdc (fun hr0 hc0=>?_) (fun hr0 hc0=>?_)
 ·skip
  have hb_:a0y l s b=l++[s]:=(by unfold a0y;rw [if_pos (by simpa using hr0)])
  refine ru 7 ?_
  refine a0t 13 (a0b (id:=13) (hs:=[_]) ei_44.h omx rfl omx ⟨rfl,rfl,rfl,rfl,trivial⟩) rfl rfl a0e rfl rfl (c':=c+1) rfl ?_
  first
  | refine a0t 14 (a0a ei_44.h omy rfl omy omy (a0u rfl omy) omy rfl) rfl rfl (a0g rfl (a0C rfl)) rfl rfl (c':=c+2) rfl ?_
  | refine a0t 14 (a0a ei_44.h omy rfl omy omy (a0G rfl omy) omy rfl) rfl rfl (a0g rfl (a0C rfl)) rfl rfl (c':=c+2) rfl ?_
  | refine a0t 14 (a0a ei_44.h omy rfl omy omy (a0F rfl) omy rfl) rfl rfl (a0g rfl a0e) rfl rfl (c':=c+2) rfl ?_
  | refine a0t 14 (a0a ei_44.h omy rfl omy omy (a0w 1 (fun _ _=>default) rfl) omy rfl) rfl rfl (a0g rfl a0e) rfl rfl (c':=c+2) rfl ?_
  refine ru 4 ?_
  refine a1H ?_
  refine a1u ok hX a3m.one rfl  [] rfl a0e ((c+1)) (trivial) (by rfl) (by rfl) (kza) ?_
  exact ⟨⟨_,rfl,(by rw [hb_];exact a7g rfl (by simp))⟩,⟨⟨_,rfl,(by rw [hb_];exact a9M (x:=s) rfl)⟩,trivial⟩⟩
 have hb_:a0y l s b=l:=(by unfold a0y;rw [if_neg (by simpa using hr0)])
 refine ru 1 ?_
 refine a1H ?_
 refine a1u ok hX a3m.one rfl  [] rfl a0e (gr) (trivial) (by rfl) (by rfl) (kza) ?_
 exact ⟨⟨_,rfl,(by rw [hb_];exact a7g rfl)⟩,⟨⟨_,rfl,(by rw [hb_];exact a1V)⟩,trivial⟩⟩
theorem c4V (c g gr:Nat) (l:List Bs) (s:Bs) (n:Int) (hl:l.length≤1000000) (hs:s.length≤100) (h0:-9223372036854775808≤n) (h1:n≤9223372036854775807):a3c Tryz.prog 23 c [.pt 26 g 0 0,a0p s,a0h n] [(26,swO g 24 gr l.length),(24,a3U gr l)] (a4W (fun (q:Nat) _=>True) (fun _=>.tup 0 fun _=>default) (fun q=>[(26,swO g 24 q (a4F l s n).length),(24,a3U q (a4F l s n))])):=by
 have hil:=a2r n ⟨h0,h1⟩
 refine a0v Tryz.func23 rfl kr _ _ _ _ rfl 15 rfl rfl (fun X ok hX=>?_)
 refine ru 5 ?_
 refine cll (c1y n h0 h1) ?_
 refine ru 3 ?_
 refine rvl (a0s (decide (n≠0))) ((congrArg a0s (by by_cases h:n=0 <;> simp [h]))) ?_
 refine a0l 14 (xs:=[_,_,_]) (pre:=[(26,_),(24,_)]) (b2z _ g gr l (s++[61]++itoa n) (decide (n≠0)) hl) ⟨rfl,⟨rfl,⟨rfl,trivial⟩⟩⟩ (a0g rfl (a0g rfl a0e)) rfl rfl (fun q c1 hx1=>?_)
 (try dsimp only)
 refine ru 1 ?_
 refine a1H ?_
 refine a1u ok hX a3m.one rfl  [] rfl a0e (q) (trivial) (by rfl) (by rfl) (kza) ?_
 exact ⟨⟨_,rfl,(a7g rfl)⟩,⟨⟨_,rfl,a1V⟩,trivial⟩⟩
theorem c3z (c g gr:Nat) (l:List Bs) (s:Bs) (all:Bool) (r:List Bs) (hl:l.length≤999999) (hs:s.length≤100) (hr:r.length≤1000000) (hj:(joinC r).length≤100000000):a3c Tryz.prog 24 c [.pt 26 g 0 0,a0p s,a0s all,a0M r] [(26,swO g 24 gr l.length),(24,a3U gr l)] (a4W (fun (q:Nat) _=>True) (fun _=>.tup 0 fun _=>default) (fun q=>[(26,swO g 24 q (a3T l s all r).length),(24,a3U q (a3T l s all r))])):=by
 have hfl:=a2H l (s++[61,42]) all
 refine a0v Tryz.func24 rfl kr _ _ _ _ rfl 23 rfl rfl (fun X ok hX=>?_)
 refine ru 6 ?_
 refine a0l 12 (xs:=[_,_,_]) (pre:=[(26,_),(24,_)]) (b2z _ g gr l (s++[61,42]) all om) ⟨rfl,⟨rfl,⟨rfl,trivial⟩⟩⟩ (a0g rfl (a0g rfl a0e)) rfl rfl (fun q c1 hx1=>?_)
 (try dsimp only)
 refine ru 7 ?_
 refine cll (b4n r hr hj) ?_
 refine ru 4 ?_
 refine rvl (a0s (decide (0 < r.length))) ((congrArg a0s (by rw [Bool.eq_iff_iff];simp only [decide_eq_true_eq];omega))) ?_
 refine a0l 22 (xs:=[_,_,_]) (pre:=[(26,_),(24,_)]) (b2z _ g q (a0y l (s++[61,42]) all) (s++[61]++joinC r) (decide (0 < r.length)) om) ⟨rfl,⟨rfl,⟨rfl,trivial⟩⟩⟩ (a0g rfl (a0g rfl a0e)) rfl rfl (fun q2 c2 hx2=>?_)
 (try dsimp only)
 refine ru 1 ?_
 refine a1H ?_
 refine a1u ok hX a3m.one rfl  [] rfl a0e (q2) (trivial) (by rfl) (by rfl) (kza) ?_
 exact ⟨⟨_,rfl,(a7g rfl)⟩,⟨⟨_,rfl,a1V⟩,trivial⟩⟩
theorem a5j (c g gr:Nat) (l:List Bs) (s:Bs) (b:Bool) (hl:l.length≤1000000):a3c Tryz.prog 27 c [.pt 56 g 0 0,a0p s,a0s b] [(56,swO g 54 gr l.length),(54,a3U gr l)] (a4W (fun (q:Nat) _=>True) (fun _=>.tup 0 fun _=>default) (fun q=>[(56,swO g 54 q (a0y l s b).length),(54,a3U q (a0y l s b))])):=by
 refine a0v Tryz.func27 rfl kr _ _ _ _ rfl 17 rfl rfl (fun X ok hX=>?_)
 refine ru 5 ?_
 refine wdc (fun hr0 hc0=>?_) (fun hr0 hc0=>?_)
 ·skip
  have hb_:a0y l s b=l++[s]:=(by unfold a0y;rw [if_pos (by simpa using hr0)])
  refine ru 7 ?_
  refine a0t 13 (a0b (id:=13) (hs:=[_]) ei_44.h omx rfl omx ⟨rfl,rfl,rfl,rfl,trivial⟩) rfl rfl a0e rfl rfl (c':=c+1) rfl ?_
  first
  | refine a0t 14 (a0a ei_44.h omy rfl omy omy (a0u rfl omy) omy rfl) rfl rfl (a0g rfl (a0C rfl)) rfl rfl (c':=c+2) rfl ?_
  | refine a0t 14 (a0a ei_44.h omy rfl omy omy (a0G rfl omy) omy rfl) rfl rfl (a0g rfl (a0C rfl)) rfl rfl (c':=c+2) rfl ?_
  | refine a0t 14 (a0a ei_44.h omy rfl omy omy (a0F rfl) omy rfl) rfl rfl (a0g rfl a0e) rfl rfl (c':=c+2) rfl ?_
  | refine a0t 14 (a0a ei_44.h omy rfl omy omy (a0w 1 (fun _ _=>default) rfl) omy rfl) rfl rfl (a0g rfl a0e) rfl rfl (c':=c+2) rfl ?_
  refine ru 4 ?_
  refine a1H ?_
  refine a1u ok hX a3m.one rfl  [] rfl a0e ((c+1)) (trivial) (by rfl) (by rfl) (kza) ?_
  exact ⟨⟨_,rfl,(by rw [hb_];exact a7g rfl (by simp))⟩,⟨⟨_,rfl,(by rw [hb_];exact a9M (x:=s) rfl)⟩,trivial⟩⟩
 have hb_:a0y l s b=l:=(by unfold a0y;rw [if_neg (by simpa using hr0)])
 refine ru 1 ?_
 refine a1H ?_
 refine a1u ok hX a3m.one rfl  [] rfl a0e (gr) (trivial) (by rfl) (by rfl) (kza) ?_
 exact ⟨⟨_,rfl,(by rw [hb_];exact a7g rfl)⟩,⟨⟨_,rfl,(by rw [hb_];exact a1V)⟩,trivial⟩⟩
theorem c4E (c g gr:Nat) (l:List Bs) (s:Bs) (n:Int) (hl:l.length≤1000000) (hs:s.length≤100) (h0:-9223372036854775808≤n) (h1:n≤9223372036854775807):a3c Tryz.prog 23 c [.pt 56 g 0 0,a0p s,a0h n] [(56,swO g 54 gr l.length),(54,a3U gr l)] (a4W (fun (q:Nat) _=>True) (fun _=>.tup 0 fun _=>default) (fun q=>[(56,swO g 54 q (a4F l s n).length),(54,a3U q (a4F l s n))])):=by
 have hil:=a2r n ⟨h0,h1⟩
 refine a0v Tryz.func23 rfl kr _ _ _ _ rfl 15 rfl rfl (fun X ok hX=>?_)
 refine ru 5 ?_
 refine cll (c1y n h0 h1) ?_
 refine ru 3 ?_
 refine rvl (a0s (decide (n≠0))) ((congrArg a0s (by by_cases h:n=0 <;> simp [h]))) ?_
 refine a0l 14 (xs:=[_,_,_]) (pre:=[(56,_),(54,_)]) (a5j _ g gr l (s++[61]++itoa n) (decide (n≠0)) hl) ⟨rfl,⟨rfl,⟨rfl,trivial⟩⟩⟩ (a0g rfl (a0g rfl a0e)) rfl rfl (fun q c1 hx1=>?_)
 (try dsimp only)
 refine ru 1 ?_
 refine a1H ?_
 refine a1u ok hX a3m.one rfl  [] rfl a0e (q) (trivial) (by rfl) (by rfl) (kza) ?_
 exact ⟨⟨_,rfl,(a7g rfl)⟩,⟨⟨_,rfl,a1V⟩,trivial⟩⟩
theorem c3j (c g gr:Nat) (l:List Bs) (s:Bs) (all:Bool) (r:List Bs) (hl:l.length≤999999) (hs:s.length≤100) (hr:r.length≤1000000) (hj:(joinC r).length≤100000000):a3c Tryz.prog 24 c [.pt 56 g 0 0,a0p s,a0s all,a0M r] [(56,swO g 54 gr l.length),(54,a3U gr l)] (a4W (fun (q:Nat) _=>True) (fun _=>.tup 0 fun _=>default) (fun q=>[(56,swO g 54 q (a3T l s all r).length),(54,a3U q (a3T l s all r))])):=by
 have hfl:=a2H l (s++[61,42]) all
 refine a0v Tryz.func24 rfl kr _ _ _ _ rfl 23 rfl rfl (fun X ok hX=>?_)
 refine ru 6 ?_
 refine a0l 12 (xs:=[_,_,_]) (pre:=[(56,_),(54,_)]) (a5j _ g gr l (s++[61,42]) all om) ⟨rfl,⟨rfl,⟨rfl,trivial⟩⟩⟩ (a0g rfl (a0g rfl a0e)) rfl rfl (fun q c1 hx1=>?_)
 (try dsimp only)
 refine ru 7 ?_
 refine cll (b4n r hr hj) ?_
 refine ru 4 ?_
 refine rvl (a0s (decide (0 < r.length))) ((congrArg a0s (by rw [Bool.eq_iff_iff];simp only [decide_eq_true_eq];omega))) ?_
 refine a0l 22 (xs:=[_,_,_]) (pre:=[(56,_),(54,_)]) (a5j _ g q (a0y l (s++[61,42]) all) (s++[61]++joinC r) (decide (0 < r.length)) om) ⟨rfl,⟨rfl,⟨rfl,trivial⟩⟩⟩ (a0g rfl (a0g rfl a0e)) rfl rfl (fun q2 c2 hx2=>?_)
 (try dsimp only)
 refine ru 1 ?_
 refine a1H ?_
 refine a1u ok hX a3m.one rfl  [] rfl a0e (q2) (trivial) (by rfl) (by rfl) (kza) ?_
 exact ⟨⟨_,rfl,(a7g rfl)⟩,⟨⟨_,rfl,a1V⟩,trivial⟩⟩
end Go.Proofs.YtjdmfohncgkdoaaGreatDoor
namespace Go.Proofs.YtjdmfohncgkdoaaGreatDoor
set_option linter.unusedSimpArgs false
set_option linter.unusedVariables false
set_option maxRecDepth 100000
set_option maxHeartbeats 4000000
open Go.RowKit
theorem a6W {l:List Nd} {k:Nat} (h:k < l.length):l.take (k+1)=l.take k++[l.getD k default]:=by
 rw [List.take_succ_eq_append_getElem h,List.getD_eq_getElem?_getD,List.getElem?_eq_getElem h];rfl
theorem a6I {l:List Mk} {k:Nat} (h:k < l.length):l.take (k+1)=l.take k++[l.getD k default]:=by
 rw [List.take_succ_eq_append_getElem h,List.getD_eq_getElem?_getD,List.getElem?_eq_getElem h];rfl
theorem b6H {P:Program} {f:FuncId} {fn:Func} {c:Code} (hf:P.funcs[f]?=some fn) (hb:fn.body=some c) (args:List HV) (r:HV) (n:Nat) (hnt:fn.ntmps=n) (hlen:Nat.ble args.length n=true) {w:World} {F:Addr→Prop} {vs:List Value} (hF:∀ a,F a→a.spot=none∧(w.cell? a).isSome=true) (hr:RepAll w (Env.just F) vs args) (hw:LibW w)
  (h:HWp (Ctx.top w F) P c ⟨n,a8g 0 args,[],0⟩ (bodyPost P fn (a0X w F r))):Calls P f vs.toArray w (a0X w F r):=by
 refine calls_of_wp hf hb (a5r.1 (h _ w ?_))
 obtain ⟨hl,hg⟩:=hr.get
 have hlen:args.length≤n:=by simpa using hlen
 refine ⟨Env.just F,Ext.refl _ _,⟨rfl,rfl,rfl,Nat.le_refl _,fun _ _ _=>rfl,hF,fun a ha=>.inl ha,fun _ _=>trivial,hw,(fun b hb=>hb.elim),(fun id o ho=>by cases ho),(fun id id' o o' l l' b ho=>by cases ho)⟩,fun g hg=>hg.elim,?_,rfl,fun t x hx=>?_⟩
 ·simp [hl,hnt];omega
 ·obtain ⟨i,y,rfl,h2,rfl⟩:=a2z args 0 t x hx
  obtain ⟨v,hv,hrep⟩:=hg i y h2
  have hi:i < vs.length:=by
   rcases Nat.lt_or_ge i vs.length with h | h
   ·exact h
   ·rw [List.getElem?_eq_none h] at hv;cases hv
  have:({ tmps:=vs.toArray++Array.replicate (fn.ntmps - vs.toArray.size) undef,defers:=[] }:Act).tmps.getD (0+i) undef=v:=by
   rw [Nat.zero_add]
   simp only [Array.getD_eq_getD_getElem?]
   rw [Array.getElem?_append_left (by simpa using hi)]
   simp [hv]
  rw [this]
  exact hrep
theorem b7S {P:Program} {f:FuncId} {fn:Func} {c:Code} (hf:P.funcs[f]?=some fn) (hb:fn.body=some c) (hn:(fn.name == "runtime.NumGoroutine")=false) (m:Nat) (y:Nat→HV) (r:HV) (n:Nat) (hnt:fn.ntmps=n) (hlen:Nat.ble 1 n=true)
    (h:∀ w F (raw:Nat→Value),(∀ a,F a→a.spot=none∧(w.cell? a).isSome=true)→LibW w→(∀ j,j < m→Rep w (Env.just F) (raw j) (y j))→HWp (Ctx.top w F) P c ⟨n,[(0,.v (.agg m fun j=>.imm (raw j)))],[],0⟩ (bodyPost P fn (a0X w F r))):a0q P f [.agg m y] r:=by
  refine ⟨⟨fn,c,hf,hb,hn⟩,fun w F vs hF hr hw=>?_⟩
  obtain ⟨v,rfl,hv⟩:=c0Z hr
  cases hv with
  | agg cs _ _ raw hn2 hcs hy =>
    exact b6H hf hb [.agg m fun j=>.imm (raw j)] r n hnt hlen hF ⟨.agg cs m _ raw hn2 hcs (fun i hi=>.imm _),trivial⟩ hw (h w F raw hF hw hy)
theorem b0Z {w:World} {F:Addr→Prop} {n clk:Nat} {tm:List (Nat×TV)} {hp:List (Nat×HObj)} (t:Nat) (x:Value) (y:HV) (h:Rep w (Env.just F) x y) (ht:tget tm t=some (.v (.imm x))):a7x (Ctx.top w F) ⟨n,tm,hp,clk⟩ ⟨n,(t,.v y)::tm,hp,clk⟩:=by
 intro a w' ⟨E,e0,r,hG,hsz,hdf,htm⟩
 refine ⟨E,e0,r,hG,hsz,hdf,fun u z hz=>?_⟩
 change tget ((t,TV.v y)::tm) u=some z at hz
 rw [a0z] at hz
 by_cases hu:u=t
 ·rw [if_pos hu] at hz
  injection hz with hz
  subst hz
  subst hu
  have h1:Rep w' E (a.tmps.getD u undef) (.imm x):=htm u _ ht
  show Rep w' E (a.tmps.getD u undef) y
  rw [h1.imm_inv]
  exact h.ext e0
 ·rw [if_neg hu] at hz
  exact htm u z hz
theorem b5M {w0:World} {F:Addr→Prop} (hF0:∀ a,F a→a.spot=none∧(w0.cell? a).isSome=true) {ops:Array Oper} {Q:Exit→Act→World→Prop} {n clk:Nat} {tm:List (Nat×TV)} {hp:List (Nat×HObj)} {rest:List Oper} {ty:TypeId} {pos:String} {af:Array Edge} {at_:Array TypeId} {t3:Nat} (d g g2 m:Nat) (l:List UInt8)
    (t1 id1 g1 m1 ty1:Nat) (raw:Nat→Value) (y:Nat→HV) (hx:tget tm t3=some (.v (.pt 8001 g 0 0))) (h1:hget hp 8001=some (b0Q g g2 m)) (h2:hget hp 8002=some (b6u g2 m l)) (hm:m=l.length) (hlt:Nat.blt d n=true)
    (hx1:tget tm t1=some (.v (.pt id1 g1 0 0))) (ho1:hget hp id1=some ⟨g1,1,m1,ty1,0,fun _ j=>.imm (raw j)⟩) (hid:id1≠8001) (hty:ty1≠5) (hm1:0 < m1) (hd1:t1≠d∧t3≠d∧t1≠t3) (hy:∀ j,j < m1→Rep w0 (Env.just F) (raw j) (y j))
    (h:∀ (w1:World) (F1:Addr→Prop) (bl:Nat),Below w0.heap.size w0 w1→Lib.IsBuilderF 62 5 w0.heap.size bl (Lib.byteCells l) w1→(∀ a,F a→F1 a)→(∀ a,F1 a→F a∨w0.heap.size≤a.block)→(∀ a,F1 a→a.spot=none∧(w1.cell? a).isSome=true) →
      HSeq (Ctx.top w1 F1) Tryz.prog ops rest ⟨n,[(d,.v (a0p l)),(t1,.v (.fp m1 y)),(t3,.v (.imm (.pointer (some ⟨bl,0,none⟩))))],[],0⟩ Q) :
    HSeq (Ctx.top w0 F) Tryz.prog ops (⟨some d,.call ⟨.value (.func 28),#[.tmp t3],at_⟩,ty,pos,af,none⟩::rest) ⟨n,tm,hp,clk⟩ Q:=by
  intro a w ⟨E,e0,r,hG,hsz,hdf,ht⟩
  have hlt:d < n:=by simpa [Nat.blt_eq] using hlt
  unfold a7b
  rw [if_pos (by simp [Region.wanted])]
  left
  have hv:Rep w E (a.tmps.getD t3 undef) (.pt 8001 g 0 0):=ht t3 _ hx
  obtain ⟨lc,bl,cs,hl,hlg,hlsz,hlA,hB,hcs,hnc,hmx,vs,hvs⟩:=r.objAt h1 (by show 0 < 1;omega)
  have notK:∀ id o l b,hget hp id=some o→E.L id=some l→l.A=some b→w0.heap.size≤b:=by
    intro id o l b ho hl hb
    obtain ⟨l',hl',at_⟩:=r.obj id o ho
    rw [hl] at hl';injection hl' with hl';subst hl'
    rcases Nat.lt_or_ge b w0.heap.size with hlt | hge
    · exact absurd trivial (at_.notK hb hlt)
    · exact hge
  generalize hρ:a.tmps.getD t3 undef=u at hv
  cases hv with
  | pt b k _ _ _ _ hgg hh =>
    obtain ⟨hb,rfl⟩:=hh lc hl hlg
    rw [hlA] at hb;injection hb with hb;subst hb
    rw [show 0 * lc.sz+0=0 from by simp] at hρ
    have hBl:=notK 8001 _ lc bl h1 hl hlA
    have c0:=hvs 0 0 (by show 0 < 1;omega) (by show 0 < 2;omega)
    have c1:=hvs 0 1 (by show 0 < 1;omega) (by show 1 < 2;omega)
    have k0:cs[0]?=some (vs 0 0):=c0.1
    have k1:cs[1]?=some (vs 0 1):=c1.1
    have r0:Rep w E (vs 0 0) (.nps 8001 g):=c0.2.2
    have r1:Rep w E (vs 0 1) (.os 8002 g2 0 m):=c1.2.2
    obtain ⟨l2,xs,hl2,hown,hcap2,hxs⟩:=r.owns h2 m (Nat.le_refl _) (Nat.zero_le _)
    obtain ⟨l2',hl2',at2⟩:=r.obj 8002 _ h2
    rw [hl2] at hl2';injection hl2' with hl2';subst hl2'
    have hbuf:vs 0 1=.slice (l2.A.map fun b=>⟨b,0,none⟩) m l2.cap:=by
      generalize vs 0 1=u at r1
      cases r1 with
      | os A1 _ c1 _ _ _ hgg hc hmm hA hz0 =>
        obtain ⟨rfl,rfl⟩:=b4q (hz0 l2 hl2 at2.g)
        rfl
    have hxsl:xs=Lib.byteCells l:=by
      have hxl:xs.length=m:=by simpa using hown.1
      apply List.ext_getElem?
      intro p
      by_cases hp:p < m
      · obtain ⟨u,h1,_,h3⟩:=hxs p 0 hp (by show 0 < 1;omega)
        have h3:Rep w E u (u8V (l.getD p 0)):=h3
        rw [h3.imm_inv] at h1
        have h1:xs[p * 1+0]?=_:=h1
        rw [Nat.mul_one,Nat.add_zero] at h1
        rw [h1]
        simp [Lib.byteCells,List.getD_eq_getElem?_getD,show p < l.length from by omega]
      · rw [List.getElem?_eq_none (by omega),List.getElem?_eq_none (by rw [Lib.byteCells_length];omega)]
    have hbase:w.ownsRow w0.heap.size 5 1 (.slice (l2.A.map fun b=>⟨b,0,none⟩) m l2.cap) m (Lib.byteCells l):=by
      rw [←hxsl]
      refine ⟨hown.1,?_⟩
      rcases hown.2 with h0 | ⟨g',cap,cur,hv,_,r⟩
      · exact .inl h0
      · refine .inr ⟨g',cap,cur,hv,?_,r⟩
        injection hv with hv _ _
        cases hA2:l2.A with
        | none=>rw [hA2] at hv;cases hv
        | some b2 =>
          rw [hA2] at hv
          injection hv with hv
          injection hv with hv
          subst hv
          exact notK 8002 _ l2 b2 h2 hl2 hA2
    have hne:∀ b,l2.A=some b→bl≠b:=by
      intro b hb he
      subst he
      exact absurd (r.inj 8001 8002 _ _ lc l2 bl h1 h2 hl hl2 hlA hb) (by decide)
    have hcap1:lc.cap=1∧(vs 0 0=.pointer none∨vs 0 0=.pointer (some ⟨bl,0,none⟩)):=by
      generalize vs 0 0=u at r0
      cases r0 with
      | npn _ _ _ hc=>exact ⟨hc lc hl hlg,.inl rfl⟩
      | npp _ _ _ _ hc hp =>
        refine ⟨hc lc hl hlg,.inr ?_⟩
        cases hp with
        | pt b' k' _ _ _ _ _ hh' =>
          obtain ⟨hb',hk'⟩:=hh' lc hl hlg
          rw [hlA] at hb';injection hb' with hb';subst hb'
          have hk0:k'=0:=by rw [hk'];simp
          rw [hk0]
    have hcs2:cs=#[vs 0 0,vs 0 1]:=by
      apply Array.ext_getElem?
      intro i
      match i with
      | 0=>exact k0
      | 1=>exact k1
      | i+2=>rw [Array.getElem?_eq_none (by rw [hcs,hcap1.1];show 1 * 2≤i+2;omega),Array.getElem?_eq_none (by simp)]
    have hat:∀ p,vs 0 0=p→Lib.BuilderAt 62 5 w0.heap.size bl p (Lib.byteCells l) w:=by
      rintro p rfl
      refine ⟨hBl,vs 0 1,?_,?_,?_⟩
      · have:=hB
        unfold Blk at this
        rw [this,hcs2]
      · rw [hbuf,Lib.byteCells_length,←hm];exact hbase
      · rw [hbuf]
        cases hA2:l2.A with
        | none=>simp [Value.ownBlock]
        | some b2 =>
          intro he
          have:bl=b2:=by simp [Value.ownBlock] at he;exact he.symm
          exact hne b2 hA2 this
    have hbuilder:Lib.IsBuilder 62 5 w0.heap.size bl (Lib.byteCells l) w:=hcap1.2.imp (fun h=>hat _ h) (fun h=>hat _ h)
    have hfn:c1n Tryz.prog 28:=⟨_,_,Tryz.func28,rfl,by kernel_rfl⟩
    unfold Oper.wp execOp
    have hρ2:a.eval (.tmp t3)=.pointer (some ⟨bl,0,none⟩):=hρ
    have hargs:(#[.tmp t3]:Array Operand).map a.eval=#[.pointer (some ⟨bl,0,none⟩)]:=by simp [hρ2]
    simp only [resolve,Act.eval,Deferred.ofValue,invoke,Sem.run_bind,Sem.run_pure,Result.andThen_ok,Array.empty_append,Array.append_empty]
    rw [a0U hfn]
    simp only [Oper.upon]
    rw [show (#[.tmp t3]:Array Operand).map (fun x=>a.eval x)=#[.pointer (some ⟨bl,0,none⟩)] from hargs]
    obtain ⟨l1,b1,cs1,hl1,hlg1,hlsz1,hlA1,hB1,hcs1,hnc1,hmx1,vs1,hvs1⟩:=r.objAt ho1 (by show 0 < 1;omega)
    have hne1:b1≠bl:=fun he=>by
      subst he
      exact hid (r.inj id1 8001 _ _ l1 lc b1 ho1 h1 hl1 hl hlA1 hlA)
    have hb1B:w0.heap.size≤b1:=notK id1 _ l1 b1 ho1 hl1 hlA1
    have hcell1:∀ j,j < m1→cs1[j]?=some (raw j)∧(raw j).oneCell'=true:=fun j hj=>by
      obtain ⟨q1,q2,q3⟩:=hvs1 0 j (by show 0 < 1;omega) hj
      have q3:Rep w E (vs1 0 j) (.imm (raw j)):=q3
      rw [q3.imm_inv] at q1 q2
      exact ⟨by simpa using q1,q2⟩
    have hp1:a.tmps.getD t1 undef=.pointer (some ⟨b1,0,none⟩):=by
      have q:Rep w E (a.tmps.getD t1 undef) (.pt id1 g1 0 0):=ht t1 _ hx1
      generalize a.tmps.getD t1 undef=u at q
      cases q with
      | pt b' k' _ _ _ _ _ hh' =>
        obtain ⟨hb',hk'⟩:=hh' l1 hl1 hlg1
        rw [hlA1] at hb';injection hb' with hb';subst hb'
        have hk0:k'=0:=by rw [hk'];simp
        rw [hk0]
    refine (Any.Builder_String_any_k Tryz.lays169 Tryz.Builder_Extra_169 w0.heap.size bl l w (Lib.IsBuilderF.of hbuilder) r.size).mono ?_
    rintro e w' ⟨rfl,hbf,hb,hok⟩
    have hb0:Below w0.heap.size w0 w':=by
      refine ⟨hb.os.trans r.os,hb.tape.trans r.tape,hb.output.trans r.output,Nat.le_trans r.size hb.size,fun k hk=>(hb.block k hk).trans (r.keep k hk trivial)⟩
    have hblk1:w'.heap[b1]?=some (.cells cs1 ty1 (0,0)):=hok b1 _ hB1 (fun he=>hne1 (by injection he)) (fun c fz he=>hty (by injection he))
    have hc1:∀ j,j < m1→w'.cell? ⟨b1,j,none⟩=some (raw j):=fun j hj=>by
      rw [Lib.cell_of_heap hblk1];exact (hcell1 j hj).1
    have hFn:∀ p,F p→p.spot=none∧(w'.cell? p).isSome=true:=fun p hp=>⟨(hF0 p hp).1,by rw [World.cell?_of_block (hb0.block _ (a1a (hF0 p hp).2))];exact (hF0 p hp).2⟩
    have hex:Ext w0 (Env.just F) w' (Env.just fun p=>F p∨∃ j,j < m1∧p=⟨b1,j,none⟩):=⟨hb0.size,fun p hp=>⟨.inl hp,World.cell?_of_block (hb0.block _ (a1a (hF0 p hp).2))⟩,fun _ h=>h,fun _ _ h _=>h,fun _ h=>h⟩
    have hF1:∀ p,(F p∨∃ j,j < m1∧p=(⟨b1,j,none⟩:Addr))→p.spot=none∧(w'.cell? p).isSome=true:=by
      rintro p (hp | ⟨j,hj,rfl⟩)
      · exact hFn p hp
      · exact ⟨rfl,by rw [hc1 j hj];rfl⟩
    refine h w' (fun p=>F p∨∃ j,j < m1∧p=⟨b1,j,none⟩) bl hb0 hbf (fun p hp=>.inl hp) (fun p hp=>?_) hF1 _ w' ⟨Env.just fun p=>F p∨∃ j,j < m1∧p=⟨b1,j,none⟩,Ext.refl _ _,⟨rfl,rfl,rfl,Nat.le_refl _,fun k _ _=>rfl,hF1,fun p hp=>.inl hp,fun _ _=>trivial,r.lib.below hb0,(fun b hb=>hb.elim),(fun id o ho=>by cases ho),(fun id id' o o' l l' b ho=>by cases ho)⟩,fun g hg=>hg.elim,by simp [Act.put,hsz],hdf,fun t z hz=>?_⟩
    · rcases hp with hp | ⟨j,hj,rfl⟩
      · exact .inl hp
      · exact .inr hb1B
    · simp only [a0z] at hz
      split at hz
      · rename_i htd
        subst htd
        injection hz with hz
        subst hz
        rw [a0L (by rw [hsz];exact hlt)]
        exact .imm _
      · split at hz
        · rename_i hn1 htd
          subst htd
          injection hz with hz
          subst hz
          rw [a0E hd1.1,hp1]
          exact .fp b1 0 m1 y raw (fun j hj=>⟨.inr ⟨j,hj,by simp⟩,by rw [Nat.zero_add];exact hc1 j hj,(hcell1 j hj).2⟩) (fun j hj=>(hy j hj).ext hex)
        · split at hz
          · rename_i hn1 hn2 htd
            subst htd
            injection hz with hz
            subst hz
            rw [a0E hd1.2.1,hρ]
            exact .imm _
          · cases hz
theorem b4A {w0 w1:World} {F F1:Addr→Prop} (hF0:∀ a,F a→a.spot=none∧(w0.cell? a).isSome=true) (hl:LibW w0) (hb:Below w0.heap.size w0 w1) {s:HSt} {a:Act} {w:World} (h:Sat (Ctx.top w1 F1) s a w):Below w0.heap.size w0 w∧a.tmps.size=s.n∧a.defers=[]:=by
 obtain ⟨E,e0,r,hG,hsz,hdf,ht⟩:=h
 exact ⟨⟨r.os.trans hb.os,r.tape.trans hb.tape,r.output.trans hb.output,Nat.le_trans hb.size r.size,fun k hk=>(r.keep k (Nat.lt_of_lt_of_le hk hb.size) trivial).trans (hb.block k hk)⟩,hsz,hdf⟩
theorem b4M {w0 w:World} {F:Addr→Prop} (hF0:∀ a,F a→a.spot=none∧(w0.cell? a).isSome=true) (hl:LibW w0) (hb:Below w0.heap.size w0 w) {n:Nat} {a:Act} (hs:a.tmps.size=n) (hd:a.defers=[]) {tm:List (Nat×TV)} (htm:∀ t x,tget tm t=some x→TVRep w (Env.just F) a (a.tmps.getD t undef) x):Sat (Ctx.top w0 F) ⟨n,tm,[],0⟩ a w:=by
 have hFs:∀ p,F p→p.spot=none∧p.block < w0.heap.size:=fun p hp=>⟨(hF0 p hp).1,a1a (hF0 p hp).2⟩
 refine ⟨Env.just F,⟨hb.size,fun p hp=>⟨hp,World.cell?_of_block (hb.block _ (hFs p hp).2)⟩,fun _ h=>h,fun _ _ h _=>h,fun _ h=>h⟩,⟨hb.os,hb.tape,hb.output,hb.size,fun k hk _=>hb.block k hk,fun p hp=>?_,fun p hp=>.inl hp,fun _ _=>trivial,hl,(fun b hb=>hb.elim),(fun id o ho=>by cases ho),(fun id id' o o' l l' b ho=>by cases ho)⟩,fun g hg=>hg.elim,hs,hd,htm⟩
 exact ⟨(hFs p hp).1,by rw [World.cell?_of_block (hb.block _ (hFs p hp).2)];exact (hF0 p hp).2⟩
theorem c0O {w0 w1:World} {F F1:Addr→Prop} (hF0:∀ a,F a→a.spot=none∧(w0.cell? a).isSome=true) (hl:LibW w0) (hb:Below w0.heap.size w0 w1) {P:Program} {c:Code} {s:HSt} {Q:Exit→Act→World→Prop} (h:HWp (Ctx.top w0 F) P c ⟨s.n,[],[],0⟩ Q):HWp (Ctx.top w1 F1) P c s Q:=by
 intro a w hs
 obtain ⟨h1,h2,h3⟩:=b4A hF0 hl hb hs
 exact h a w (b4M hF0 hl h1 h2 h3 (fun t x hx=>by cases hx))
theorem b5v {w0 w1:World} {F F1:Addr→Prop} (hF0:∀ a,F a→a.spot=none∧(w0.cell? a).isSome=true) (hl:LibW w0) (hb:Below w0.heap.size w0 w1) {ops:Array Oper} {Q:Exit→Act→World→Prop} {n clk:Nat} {tm:List (Nat×TV)} {hp:List (Nat×HObj)} {rest:List Oper} {ty:TypeId} {pos:String} {af:Array Edge} {at_:Array TypeId} {t3:Nat} (d bl:Nat) (l:List UInt8)
  (hx:tget tm t3=some (.v (.imm (.pointer (some ⟨bl,0,none⟩))))) (hbf:Lib.IsBuilderF 62 5 w0.heap.size bl (Lib.byteCells l) w1) (hlt:Nat.blt d n=true)
  (h:HSeq (Ctx.top w0 F) Tryz.prog ops rest ⟨n,[(d,.v (a0p l))],[],0⟩ Q) :
  HSeq (Ctx.top w1 F1) Tryz.prog ops (⟨some d,.call ⟨.value (.func 28),#[.tmp t3],at_⟩,ty,pos,af,none⟩::rest) ⟨n,tm,hp,clk⟩ Q:=by
 intro a w hs
 obtain ⟨k1,k2,k3⟩:=b4A hF0 hl hb hs
 obtain ⟨E,e0,r,hG,hsz,hdf,ht⟩:=hs
 have hlt:d < n:=by simpa [Nat.blt_eq] using hlt
 have hρ:a.tmps.getD t3 undef=.pointer (some ⟨bl,0,none⟩):=by
  have q:Rep w E (a.tmps.getD t3 undef) (.imm (.pointer (some ⟨bl,0,none⟩))):=ht t3 _ hx
  exact q.imm_inv
 have hat:∀ p,Lib.BuilderAtF 62 5 w0.heap.size bl p (Lib.byteCells l) w1→Lib.BuilderAtF 62 5 w0.heap.size bl p (Lib.byteCells l) w:=by
  rintro p ⟨q1,v,q2,q3,q4⟩
  refine ⟨q1,v,(r.keep bl (a1g q2) trivial).trans q2,⟨q3.1,?_⟩,q4⟩
  rcases q3.2 with q | ⟨g,cap,cur,fz,z1,z2,z3,z4⟩
  ·exact .inl q
  ·exact .inr ⟨g,cap,cur,fz,z1,z2,(r.keep g (a1g z3) trivial).trans z3,z4⟩
 have hbf':Lib.IsBuilderF 62 5 w0.heap.size bl (Lib.byteCells l) w:=hbf.imp (hat _) (hat _)
 unfold a7b
 rw [if_pos (by simp [Region.wanted])]
 left
 have hfn:c1n Tryz.prog 28:=⟨_,_,Tryz.func28,rfl,by kernel_rfl⟩
 unfold Oper.wp execOp
 have hρ2:a.eval (.tmp t3)=.pointer (some ⟨bl,0,none⟩):=hρ
 have hargs:(#[.tmp t3]:Array Operand).map a.eval=#[.pointer (some ⟨bl,0,none⟩)]:=by simp [hρ2]
 simp only [resolve,Act.eval,Deferred.ofValue,invoke,Sem.run_bind,Sem.run_pure,Result.andThen_ok,Array.empty_append,Array.append_empty]
 rw [a0U hfn]
 simp only [Oper.upon]
 rw [show (#[.tmp t3]:Array Operand).map (fun x=>a.eval x)=#[.pointer (some ⟨bl,0,none⟩)] from hargs]
 refine (Any.Builder_String_any_k Tryz.lays169 Tryz.Builder_Extra_169 w0.heap.size bl l w hbf' k1.size).mono ?_
 rintro e w' ⟨rfl,_,hb2,_⟩
 have hb0:Below w0.heap.size w0 w':=⟨hb2.os.trans k1.os,hb2.tape.trans k1.tape,hb2.output.trans k1.output,Nat.le_trans k1.size hb2.size,fun k hk=>(hb2.block k hk).trans (k1.block k hk)⟩
 refine h _ w' (b4M (a:=a.put (some d) (.string ⟨l.toArray⟩)) (n:=n) hF0 hl hb0 (by simp [Act.put,k2]) k3 fun t z hz=>?_)
 rw [a0z] at hz
 by_cases htd:t=d
 ·rw [if_pos htd] at hz
  injection hz with hz
  subst hz
  subst htd
  rw [a0L (by rw [k2];exact hlt)]
  exact .imm _
 ·rw [if_neg htd] at hz;cases hz
end Go.Proofs.YtjdmfohncgkdoaaGreatDoor
namespace Go.Proofs.YtjdmfohncgkdoaaGreatDoor
set_option linter.unusedSimpArgs false
set_option linter.unusedVariables false
set_option maxRecDepth 100000
set_option maxHeartbeats 4000000
open Go.RowKit
open Go.Lib (itoa)
@[reducible] def b9b:Bs:=[103,114,111,117,112,61]
def markW (m:Mk):List Bs:=a3T (a4F [a3g,m.name] a7O m.val) a3l m.all m.bars
def a2y (l:List Bs) (gs:List Bs):List Bs:=l++gs.map fun g=>b9b++g
def nodeW (n:Nd):List Bs:=a0y (a0y (a3T (a4F (a0y (a0y (a2y [a0S,n.name] n.groups) a3L n.inl) a1I n.pick) a1W n.attr) a1j n.all n.marks) [58] (!n.leaf)) n.expr (decide (n.expr≠[]))
def a1J (l:List Mk):Bs:=l.flatMap fun m=>joinL (markW m)++[10]
def a2b (l:List Nd):Bs:=l.flatMap fun n=>joinL (nodeW n)++[10]
def linesD (d:Dc):Bs:=a1J d.marks++a2b d.nodes
open Classical in
noncomputable def a7y (d:Dc):Bs:=if (declV (linesD d)).2.2=0∧(declV (linesD d)).1=d then linesD d else []
structure MkB (m:Mk):Prop where
 name:m.name.length≤10000000
 lo:-9223372036854775808≤m.val
 hi:m.val≤9223372036854775807
 bars:m.bars.length≤1000000
 join:(joinC m.bars).length≤10000000
 line:(joinL (markW m)).length≤100000000
structure NdB (n:Nd):Prop where
 name:n.name.length≤10000000
 groups:n.groups.length≤100
 group:∀ k,(n.groups.getD k []).length≤10000000
 lo:-9223372036854775808≤n.attr
 hi:n.attr≤9223372036854775807
 marks:n.marks.length≤1000000
 join:(joinC n.marks).length≤10000000
 expr:n.expr.length≤10000000
 line:(joinL (nodeW n)).length≤100000000
structure DcB (d:Dc):Prop where
 ln:d.nodes.length≤1000000
 lm:d.marks.length≤1000000
 nodes:∀ k,k < d.nodes.length→NdB (d.nodes.getD k default)
 marks:∀ k,k < d.marks.length→MkB (d.marks.getD k default)
 all:(linesD d).length≤1000000000
theorem a4I (l:List Mk) (m:Mk):a1J (l++[m])=a1J l++(joinL (markW m)++[10]):=by simp [a1J]
theorem a4J (l:List Nd) (n:Nd):a2b (l++[n])=a2b l++(joinL (nodeW n)++[10]):=by simp [a2b]
theorem a8v (l:List Mk) (k:Nat):(a1J (l.take k)).length≤(a1J l).length:=by
 have:a1J l=a1J (l.take k)++a1J (l.drop k):=by rw [a1J,a1J,a1J,←List.flatMap_append,List.take_append_drop]
 rw [this,List.length_append];omega
theorem a8u (l:List Nd) (k:Nat):(a2b (l.take k)).length≤(a2b l).length:=by
 have:a2b l=a2b (l.take k)++a2b (l.drop k):=by rw [a2b,a2b,a2b,←List.flatMap_append,List.take_append_drop]
 rw [this,List.length_append];omega
theorem b1Q (l:List Bs) (s:Bs) (a:Bool) (r:List Bs):(a3T l s a r).length≤l.length+2:=by
 unfold a3T
 have:=a2H l (s++[61,42]) a
 have:=a2H (a0y l (s++[61,42]) a) (s++[61]++joinC r) (decide (0 < r.length))
 omega
theorem b4u (l:List Bs) (s:Bs) (n:Int):(a4F l s n).length≤l.length+1:=a2H _ _ _
theorem b1i (l:List Bs) {gs:List Bs} {j:Nat} (h:j < gs.length):a2y l (gs.take (j+1))=a0y (a2y l (gs.take j)) (b9b++gs.getD j []) true:=by
 unfold a0y a2y
 rw [if_pos rfl,List.take_succ_eq_append_getElem h,List.map_append,←List.append_assoc,List.getD_eq_getElem?_getD,List.getElem?_eq_getElem h]
 rfl
theorem c1Y (d:Dc) (hd:DcB d) (hP:a0q Tryz.prog 7 [a0p (linesD d)] (c0S (declV (linesD d)))) (hS:a0q Tryz.prog 15 [dcV (declV (linesD d)).1,dcV d] (a0s (decide ((declV (linesD d)).1=d)))):a0q Tryz.prog 13 [dcV d] (a0p (a7y d)):=by
 obtain ⟨hd1,hd2,hd3,hd4,hd5⟩:=hd
 have hd5':(a1J d.marks).length+(a2b d.nodes).length≤1000000000:=by have:=hd5;unfold linesD at this;rw [List.length_append] at this;exact this
 have hmV:d.marks.length=d.marks.length:=rfl
 refine b7S Tryz.func13 rfl kr _ _ _ 122 rfl rfl (fun w F raw hF0 hlw hraw=>?_)
 refine ru 8 ?_
 refine c1d 3 rfl rfl (c':=3) rfl ?_
 refine ru 7 ?_
 refine (b0Z 16 (raw 1) (b4J d.marks) (hraw 1 (by decide)) rfl).seq ?_
 refine ru 5 ?_
 refine a0n (α:=Nat×Nat×Nat×Bs) (fun x c=>⟨122,[(1,.v (.pt 1 0 0 0)),(3,.v (.pt 8001 1 0 0)),(16,.v (b4J d.marks)),(17,.v (a0h d.marks.length)),(18,.v (a0h x.1))],[(1,⟨0,1,2,26,0,fun _ j=>.imm (raw j)⟩),(8001,b0Q 1 x.2.1 x.2.2.1),(8002,b6u x.2.1 x.2.2.1 x.2.2.2)],c⟩) (fun x=>x.1≤d.marks.length∧x.2.2.1=x.2.2.2.length∧x.2.2.2=a1J (d.marks.take x.1)) (fun x=>d.marks.length - x.1) ((0,2,0,[])) (by exact ⟨Nat.zero_le _,rfl,rfl⟩) (a0c rfl (Nat.le_refl _) tsa hsa) (fun x c hx NhL1 hL1=>?_)
 revert hx hL1;obtain ⟨k,g,n,acc⟩:=x;intro hx hL1;dsimp only at hx hL1 ⊢
 obtain ⟨hk,hn,ha⟩:=hx
 refine ru 6 ?_
 refine wdc (fun hr0 hc0=>?_) (fun hr0 hc0=>?_)
 ·skip
  have hB:=hd4 k om;have hT:=a6I (l:=d.marks) (k:=k) om;have hlt:=a8v d.marks (k+1);rw [hT,a4I,←ha,List.length_append] at hlt;obtain ⟨m_,hme_⟩:∃ m_,d.marks.getD k default=m_:=⟨_,rfl⟩;rw [hme_] at hB hT hlt;obtain ⟨b1,b2,b3,b4,b5,b6⟩:=hB;have hw1:=b4u [a3g,m_.name] a7O m_.val;have hw2:=b1Q (a4F [a3g,m_.name] a7O m_.val) a3l m_.all m_.bars
  refine ru 8 ?_
  refine rvl (.agg 4 (a5E m_)) ((by rw [←hme_];first | done | rfl)) ?_
  refine ru 8 ?_
  refine a0t 24 (a0b (id:=24) (hs:=[_,_]) ei_44.h omx rfl omx ⟨rfl,rfl,rfl,rfl,⟨rfl,rfl,rfl,rfl,trivial⟩⟩) rfl rfl a0e rfl rfl (c':=c+3) rfl ?_
  refine ru 6 ?_
  refine (a0R 26 (swO _ 24 _ 2) rfl (b1T (.refl _))).wp ?_;refine (a0R 24 (a3U _ [a3g,m_.name]) rfl (a5M.of fun i j hi hj=>by obtain rfl:j=0:=(Nat.lt_one_iff.1 hj);match i,hi with | 0,_=>exact .refl _ | 1,_=>exact .refl _)).wp ?_
  refine ru 4 ?_
  refine a0l 30 (xs:=[_,_,_]) (pre:=[(26,_),(24,_)]) (c4V _ _ _ [a3g,m_.name] a7O m_.val (by simp) (by decide) b2 b3) ⟨rfl,⟨rfl,⟨rfl,trivial⟩⟩⟩ (a0g rfl (a0g rfl a0e)) rfl rfl (fun q1 c1 hx1=>?_)
  (try dsimp only)
  refine ru 9 ?_
  refine a0l 36 (xs:=[_,_,_,_]) (pre:=[(26,_),(24,_)]) (c3z _ _ q1 (a4F [a3g,m_.name] a7O m_.val) a3l m_.all m_.bars (by simp at hw1;omega) (by decide) b4 om) ⟨rfl,⟨rfl,⟨rfl,⟨rfl,trivial⟩⟩⟩⟩ (a0g rfl (a0g rfl a0e)) rfl rfl (fun q2 c2 hx2=>?_)
  (try dsimp only)
  refine ru 7 ?_
  refine hm_ 41 (a7H (xs:=[_]) [(24,_)] (b3H (markW m_) (by unfold markW;simp at hw1;omega) b6) ⟨rfl,trivial⟩ ⟨(a1x (l:=markW m_) (enc:=fun x _=>a0p x) (d:=[]) (List.mem_cons_self ..) rfl rfl (Nat.le_refl _) (fun i j hi hj=>.imm _)),trivial⟩ rfl) rfl rfl (a0g rfl a0e) rfl rfl (c':=c2+1) rfl ?_
  refine ru 1 ?_
  refine a0l 43 (xs:=[_,_]) (pre:=[(8001,_),(8002,_)]) (a2h _ 1 g n acc (joinL (markW m_)++[10]) hn (by rw [hn];omega)) ⟨rfl,⟨rfl,trivial⟩⟩ (a0g rfl (a0g rfl a0e)) rfl rfl (fun q3 c3 hx3=>?_)
  (try dsimp only)
  refine ru 7 ?_
  exact hL1 ((k+1,q3,n+(joinL (markW m_)++[10]).length,acc++(joinL (markW m_)++[10]))) _ _ (by (try dsimp only);exact ⟨by omega,by rw [hn,←List.length_append],by rw [hT,a4I,ha]⟩) (by (try dsimp only);omega) (a0c rfl (Nat.le_refl _) tsa hsa)
 obtain rfl:acc=a1J d.marks:=(by rw [ha,show k=d.marks.length by omega,List.take_length])
 refine ru 2 ?_
 refine a0d ?_
 refine ru 7 ?_
 refine (b0Z 46 (raw 0) (b2D d.nodes) (hraw 0 (by decide)) rfl).seq ?_
 refine ru 5 ?_
 refine a0n (α:=Nat×Nat×Nat×Bs) (fun x c=>⟨122,[(1,.v (.pt 1 0 0 0)),(3,.v (.pt 8001 1 0 0)),(46,.v (b2D d.nodes)),(47,.v (a0h d.nodes.length)),(48,.v (a0h x.1))],[(1,⟨0,1,2,26,0,fun _ j=>.imm (raw j)⟩),(8001,b0Q 1 x.2.1 x.2.2.1),(8002,b6u x.2.1 x.2.2.1 x.2.2.2)],c⟩) (fun x=>x.1≤d.nodes.length∧x.2.2.1=x.2.2.2.length∧x.2.2.2=a1J d.marks++a2b (d.nodes.take x.1)) (fun x=>d.nodes.length - x.1) ((0,g,n,a1J d.marks)) (by exact ⟨Nat.zero_le _,hn,by simp [a2b]⟩) (a0c rfl (Nat.le_refl _) tsa hsa) (fun x c hx NhL2 hL2=>?_)
 revert hx hL2;obtain ⟨k2,g,n,acc⟩:=x;intro hx hL2;dsimp only at hx hL2 ⊢
 obtain ⟨hk2,hn2,ha2⟩:=hx
 refine ru 6 ?_
 refine wdc (fun hr1 hc1=>?_) (fun hr1 hc1=>?_)
 ·skip
  have hB:=hd3 k2 om;have hT:=a6W (l:=d.nodes) (k:=k2) om;have hlt:=a8u d.nodes (k2+1);rw [hT,a4J,List.length_append] at hlt;have hal:acc.length=(a1J d.marks).length+(a2b (d.nodes.take k2)).length:=(by rw [ha2,List.length_append]);obtain ⟨n_,hne_⟩:∃ n_,d.nodes.getD k2 default=n_:=⟨_,rfl⟩;rw [hne_] at hB hT hlt;obtain ⟨b1,b2,b3,b4,b5,b6,b7,b8,b9⟩:=hB
  refine ru 8 ?_
  refine rvl (.agg 9 (a5B n_)) ((by rw [←hne_];first | done | rfl)) ?_
  refine ru 8 ?_
  refine a0t 54 (a0b (id:=54) (hs:=[_,_]) ei_44.h omx rfl omx ⟨rfl,rfl,rfl,rfl,⟨rfl,rfl,rfl,rfl,trivial⟩⟩) rfl rfl a0e rfl rfl (c':=c+3) rfl ?_
  refine ru 7 ?_
  refine (a0R 56 (swO _ 54 _ 2) rfl (b1T (.refl _))).wp ?_;refine (a0R 54 (a3U _ [a0S,n_.name]) rfl (a5M.of fun i j hi hj=>by obtain rfl:j=0:=(Nat.lt_one_iff.1 hj);match i,hi with | 0,_=>exact .refl _ | 1,_=>exact .refl _)).wp ?_
  refine ru 3 ?_
  refine rvl (a0M n_.groups) (rfl) ?_
  refine ru 5 ?_
  refine a0n (α:=Nat×Nat×Nat×Nat) (fun x c=>⟨122,[(1,.v (.pt 1 0 0 0)),(3,.v (.pt 8001 1 0 0)),(46,.v (b2D d.nodes)),(47,.v (a0h d.nodes.length)),(48,.v (a0h k2)),(8,.v (.pt 8 x.2.2.1 0 0)),(9,.v (.pt 56 x.2.2.2 0 0)),(58,.v (a0M n_.groups)),(59,.v (a0h n_.groups.length)),(60,.v (a0h x.1))],[(1,⟨0,1,2,26,0,fun _ j=>.imm (raw j)⟩),(8001,b0Q 1 g n),(8002,b6u g n acc),(8,⟨x.2.2.1,1,9,46,0,fun _=>a5B n_⟩),(56,swO x.2.2.2 54 x.2.1 (a2y [a0S,n_.name] (n_.groups.take x.1)).length),(54,a3U x.2.1 (a2y [a0S,n_.name] (n_.groups.take x.1)))],c⟩) (fun x=>x.1≤n_.groups.length) (fun x=>n_.groups.length - x.1) ((0,c+2,c,c+3)) (by exact Nat.zero_le _) (a0c rfl (Nat.le_refl _) tsa (hsr rfl (hsr rfl (hsr rfl (a0k.cons rfl (a8H (by exact q9 (.refl _) (.refl _) (.refl _) (.refl _) (.refl _) (.refl _) (.refl _) (.refl _) (.refl _))) hsa))))) (fun x c hx NhL3 hL3=>?_)
  revert hx hL3;obtain ⟨ji,q,g8,g9⟩:=x;intro hx hL3;dsimp only at hx hL3 ⊢
  refine ru 6 ?_
  refine wdc (fun hr2 hc2=>?_) (fun hr2 hc2=>?_)
  ·skip
   have hgl:=b3 ji;have hgl3:[103,114,111,117,112,61].length+(n_.groups.getD ji []).length≤9223372036854775807:=(by show 6+_≤_;omega);have hgt:=b1i [a0S,n_.name] (show ji < n_.groups.length by omega);have hgn:(a2y [a0S,n_.name] (n_.groups.take ji)).length≤102:=(by unfold a2y;simp;omega)
   refine ru 8 ?_
   refine rvl (a0p (n_.groups.getD ji [])) (rfl) ?_
   refine ru 7 ?_
   refine a0l 67 (xs:=[_,_,_]) (pre:=[(56,_),(54,_)]) (a5j _ g9 q (a2y [a0S,n_.name] (n_.groups.take ji)) (b9b++n_.groups.getD ji []) true om) ⟨rfl,⟨rfl,⟨rfl,trivial⟩⟩⟩ (a0g rfl (a0g rfl a0e)) rfl rfl (fun q3 c4 hx4=>?_)
   (try dsimp only)
   refine ru 7 ?_
   exact hL3 ((ji+1,q3,g8,g9)) _ _ (by (try dsimp only);omega) (by (try dsimp only);omega) (a0c rfl (Nat.le_refl _) tsa (hsr rfl (hsr rfl (hsr rfl (hsr rfl (a0k.cons rfl (by rw [hgt];exact a5M.refl _) (a0k.cons rfl (by rw [hgt];exact a5M.refl _) a0k.nil)))))))
  have hjl:ji=n_.groups.length:=om;subst hjl;rw [List.take_length];have hl1:(a2y [a0S,n_.name] n_.groups).length≤102:=(by unfold a2y;simp;omega);have hl2:=a2H (a2y [a0S,n_.name] n_.groups) a3L n_.inl;have hl3:=a2H (a0y (a2y [a0S,n_.name] n_.groups) a3L n_.inl) a1I n_.pick;have hl4:=b4u (a0y (a0y (a2y [a0S,n_.name] n_.groups) a3L n_.inl) a1I n_.pick) a1W n_.attr;have hl5:=b1Q (a4F (a0y (a0y (a2y [a0S,n_.name] n_.groups) a3L n_.inl) a1I n_.pick) a1W n_.attr) a1j n_.all n_.marks;have hl6:=a2H (a3T (a4F (a0y (a0y (a2y [a0S,n_.name] n_.groups) a3L n_.inl) a1I n_.pick) a1W n_.attr) a1j n_.all n_.marks) [58] (!n_.leaf);have hl7:(nodeW n_).length≤_:=a2H (a0y (a3T (a4F (a0y (a0y (a2y [a0S,n_.name] n_.groups) a3L n_.inl) a1I n_.pick) a1W n_.attr) a1j n_.all n_.marks) [58] (!n_.leaf)) n_.expr (decide (n_.expr≠[]))
  refine ru 2 ?_
  refine a0d ?_
  refine ru 7 ?_
  refine a0l 72 (xs:=[_,_,_]) (pre:=[(56,_),(54,_)]) (a5j _ g9 q (a2y [a0S,n_.name] n_.groups) a3L n_.inl om) ⟨rfl,⟨rfl,⟨rfl,trivial⟩⟩⟩ (a0g rfl (a0g rfl a0e)) rfl rfl (fun q4 c5 hx5=>?_)
  (try dsimp only)
  refine ru 7 ?_
  refine a0l 76 (xs:=[_,_,_]) (pre:=[(56,_),(54,_)]) (a5j _ g9 q4 (a0y (a2y [a0S,n_.name] n_.groups) a3L n_.inl) a1I n_.pick om) ⟨rfl,⟨rfl,⟨rfl,trivial⟩⟩⟩ (a0g rfl (a0g rfl a0e)) rfl rfl (fun q5 c6 hx6=>?_)
  (try dsimp only)
  refine ru 7 ?_
  refine a0l 80 (xs:=[_,_,_]) (pre:=[(56,_),(54,_)]) (c4E _ g9 q5 (a0y (a0y (a2y [a0S,n_.name] n_.groups) a3L n_.inl) a1I n_.pick) a1W n_.attr om (by decide) b4 b5) ⟨rfl,⟨rfl,⟨rfl,trivial⟩⟩⟩ (a0g rfl (a0g rfl a0e)) rfl rfl (fun q6 c7 hx7=>?_)
  (try dsimp only)
  refine ru 9 ?_
  refine a0l 86 (xs:=[_,_,_,_]) (pre:=[(56,_),(54,_)]) (c3j _ g9 q6 (a4F (a0y (a0y (a2y [a0S,n_.name] n_.groups) a3L n_.inl) a1I n_.pick) a1W n_.attr) a1j n_.all n_.marks om (by decide) b6 om) ⟨rfl,⟨rfl,⟨rfl,⟨rfl,trivial⟩⟩⟩⟩ (a0g rfl (a0g rfl a0e)) rfl rfl (fun q7 c8 hx8=>?_)
  (try dsimp only)
  refine ru 8 ?_
  refine a0l 91 (xs:=[_,_,_]) (pre:=[(56,_),(54,_)]) (a5j _ g9 q7 (a3T (a4F (a0y (a0y (a2y [a0S,n_.name] n_.groups) a3L n_.inl) a1I n_.pick) a1W n_.attr) a1j n_.all n_.marks) [58] (!n_.leaf) om) ⟨rfl,⟨rfl,⟨rfl,trivial⟩⟩⟩ (a0g rfl (a0g rfl a0e)) rfl rfl (fun q8 c9 hx9=>?_)
  (try dsimp only)
  refine ru 10 ?_
  refine rvl (a0s (decide (n_.expr≠[]))) ((congrArg a0s (by by_cases h:n_.expr=[] <;> simp [h]))) ?_
  refine a0l 98 (xs:=[_,_,_]) (pre:=[(56,_),(54,_)]) (a5j _ g9 q8 (a0y (a3T (a4F (a0y (a0y (a2y [a0S,n_.name] n_.groups) a3L n_.inl) a1I n_.pick) a1W n_.attr) a1j n_.all n_.marks) [58] (!n_.leaf)) n_.expr (decide (n_.expr≠[])) om) ⟨rfl,⟨rfl,⟨rfl,trivial⟩⟩⟩ (a0g rfl (a0g rfl a0e)) rfl rfl (fun q10 c10 hx10=>?_)
  (try dsimp only)
  refine ru 7 ?_
  refine hm_ 103 (a7H (xs:=[_]) [(54,_)] (b3H (nodeW n_) om b9) ⟨rfl,trivial⟩ ⟨(a1x (l:=nodeW n_) (enc:=fun x _=>a0p x) (d:=[]) (List.mem_cons_self ..) rfl rfl (Nat.le_refl _) (fun i j hi hj=>.imm _)),trivial⟩ rfl) rfl rfl (a0g rfl a0e) rfl rfl (c':=c10+1) rfl ?_
  refine ru 1 ?_
  refine a0l 105 (xs:=[_,_]) (pre:=[(8001,_),(8002,_)]) (a2h _ 1 g n acc (joinL (nodeW n_)++[10]) hn2 (by rw [hn2];omega)) ⟨rfl,⟨rfl,trivial⟩⟩ (a0g rfl (a0g rfl a0e)) rfl rfl (fun q9 c11 hx11=>?_)
  (try dsimp only)
  refine ru 7 ?_
  exact hL2 ((k2+1,q9,n+(joinL (nodeW n_)++[10]).length,acc++(joinL (nodeW n_)++[10]))) _ _ (by (try dsimp only);exact ⟨by omega,by rw [hn2,←List.length_append],by rw [hT,a4J,ha2,List.append_assoc]⟩) (by (try dsimp only);omega) (a0c rfl (Nat.le_refl _) tsa hsa)
 obtain rfl:acc=linesD d:=(by rw [ha2,show k2=d.nodes.length by omega,List.take_length];rfl)
 refine ru 2 ?_
 refine a0d ?_
 refine ru 4 ?_
 refine b5M hF0 108 1 g n (linesD d) 1 1 0 2 26 raw (dcF d) rfl rfl rfl hn2 rfl rfl rfl (by decide) (by decide) (by decide) ⟨by decide,by decide,by decide⟩ hraw (fun w1 F1 bl hb1 hbf hF1 hF2 hF3=>?_)
 refine cll (hP) ?_
 refine ru 18 ?_
 first
 | refine stg 115 (fun hb=>a0i (xs:=[_,_]) (hS) ⟨rfl,⟨rfl,trivial⟩⟩ ⟨(show Fz _ (dcV (declV (linesD d)).1) (dcV (declV (linesD d)).1) from a3t _),⟨(show Fz _ (dcV d) (dcV d) from a3t _),trivial⟩⟩) rfl rfl rfl rfl rfl ?_
 | refine sth 115 (fun hb=>a0i (xs:=[_,_]) (hS) ⟨rfl,⟨rfl,trivial⟩⟩ ⟨(show Fz _ (dcV (declV (linesD d)).1) (dcV (declV (linesD d)).1) from a3t _),⟨(show Fz _ (dcV d) (dcV d) from a3t _),trivial⟩⟩) rfl rfl rfl rfl rfl ?_
 refine ru 4 ?_
 refine wdc (fun hr3 hc3=>?_) (fun hr3 hc3=>?_)
 ·skip
  have hsh:a7y d=[]:=(by unfold a7y;rw [if_neg (fun h=>by have h9:=hr3;simp [h.1,h.2] at h9)])
  refine ru 1 ?_
  refine c0O hF0 hlw hb1 ?_
  refine ru 6 ?_
  refine rt1 ?_
  rw [hsh];exact .imm _
 have hsh:a7y d=linesD d:=(by unfold a7y;rw [if_pos (by have h9:=hr3;simpa using h9)])
 refine ru 4 ?_
 refine b5v hF0 hlw hb1 121 bl (linesD d) rfl hbf rfl ?_
 refine ru 4 ?_
 refine rt1 ?_
 rw [hsh];exact .imm _
def b2O (s w:Bs) (b:Bool):Bs:=if b=true then s++[32]++w else s
theorem a6J {l:List Bs} (w:Bs) (b:Bool) (h:l≠[]):b2O (joinL l) w b=joinL (a0y l w b):=by
 unfold b2O a0y
 cases b with
 | false=>rfl
 | true=>rw [if_pos rfl,if_pos rfl,a5y h];simp
theorem c2s (s w:Bs) (b:Bool) (h1:s.length≤1000000000) (h2:w.length≤1000000000):a0q Tryz.prog 51 [a0p s,a0p w,a0s b] (a0p (b2O s w b)):=by
 refine a0m Tryz.func51 rfl kr _ _ _ rfl 13 rfl rfl (fun w F=>?_)
 refine ru 11 ?_
 refine wdc (fun hr0 hc0=>?_) (fun hr0 hc0=>?_)
 ·skip
  have hb_:b=true:=(by simpa using hr0)
  refine ru 11 ?_
  refine rt1 ?_
  unfold b2O;rw [if_pos hb_];exact .imm _
 have hb_:¬ b=true:=(by simpa using hr0)
 refine ru 9 ?_
 refine rt1 ?_
 unfold b2O;rw [if_neg hb_];exact .imm _
theorem a9p:∀ {l:List Bs} {w:Bs},l≠[]→joinC (l++[w])=joinC l++44::w
  | [],_,h=>absurd rfl h
  | [a],w,_=>rfl
  | a :: b :: r, w, _ => by
    show a++44::joinC (b::r++[w])=(a++44::joinC (b::r))++44::w
    rw [a9p (l:=b::r) (fun h=>by cases h)];simp
theorem b5s {l:List Bs} {k:Nat} (h:k < l.length):joinC (l.take (k+1))=(if 0 < k then joinC (l.take k)++[44] else joinC (l.take k))++l.getD k []:=by
 rw [List.take_succ_eq_append_getElem h,List.getD_eq_getElem?_getD,List.getElem?_eq_getElem h,Option.getD_some]
 by_cases h0:0 < k
 ·rw [if_pos h0,a9p (fun h9=>by have:=congrArg List.length h9;rw [List.length_take,List.length_nil] at this;omega)];simp
 ·have:k=0:=by omega
  subst this;rfl
theorem a5b:∀ (l:List Bs) (k:Nat),(joinC (l.take k)).length≤(joinC l).length
  | [],k=>by simp
  | a::l,0=>Nat.zero_le _
  | [a],k+1=>by simp
  | a::b::l,1=>by show a.length≤(a++44::joinC (b::l)).length;simp
  | a :: b :: l, k + 2 => by
    have:=a5b (b::l) (k+1)
    show (a++44::joinC ((b::l).take (k+1))).length≤(a++44::joinC (b::l)).length
    simp only [List.length_append,List.length_cons] at this ⊢;omega
theorem b5g (l:List Bs) (hl:l.length≤1000000) (hj:(joinC l).length≤1000000000):a0q Tryz.prog 53 [a0M l] (a0p (joinC l)):=by
 refine a0m Tryz.func53 rfl kr _ _ _ rfl 22 rfl rfl (fun w F=>?_)
 refine ru 17 ?_
 refine a0n (α:=Nat) (fun x c=>⟨22,[(0,.v (a0M l)),(3,.v (a0p (joinC (l.take x)))),(4,.v (a0h x))],[],c⟩) (fun x=>x≤l.length) (fun x=>l.length - x) (0) (by exact Nat.zero_le _) (a0c rfl (Nat.le_refl _) tsa a0k.nil) (fun k c hx NhL1 hL1=>?_)
 (try dsimp only at hx hL1 ⊢)
 refine ru 9 ?_
 refine wdc (fun hr0 hc0=>?_) (fun hr0 hc0=>?_)
 ·skip
  have hT:=b5s (l:=l) (k:=k) om;have hT1:=a5b l (k+1);have hT0:(joinC (l.take k)).length+1≤9223372036854775807:=(by have:=a5b l k;omega)
  refine ru 11 ?_
  refine wdc (fun hr1 hc1=>?_) (fun hr1 hc1=>?_)
  ·skip
   have hT2:joinC (l.take (k+1))=joinC (l.take k)++[44]++l.getD k []:=(by rw [hT,if_pos om]);have hLn:(joinC (l.take k)++[44]).length+(l.getD k []).length≤1000000000:=(by rw [←List.length_append,←hT2];omega)
   refine ru 12 ?_
   refine rvl (a0p (l.getD k [])) (rfl) ?_
   refine ru 1 ?_
   refine rvl (a0p (joinC (l.take (k+1)))) ((by rw [hT2])) ?_
   refine ru 9 ?_
   exact hL1 (k+1) _ _ (by (try dsimp only);omega) (by (try dsimp only);omega) (a0c rfl (Nat.le_refl _) tsa a0k.nil)
  have hk0:¬ 0 < k:=om;have hT2:joinC (l.take (k+1))=joinC (l.take k)++l.getD k []:=(by rw [hT,if_neg hk0]);have hLn:(joinC (l.take k)).length+(l.getD k []).length≤1000000000:=(by rw [←List.length_append,←hT2];omega)
  refine ru 8 ?_
  refine rvl (a0p (l.getD k [])) (rfl) ?_
  refine ru 1 ?_
  refine rvl (a0p (joinC (l.take (k+1)))) ((by rw [hT2])) ?_
  refine ru 9 ?_
  exact hL1 (k+1) _ _ (by (try dsimp only);omega) (by (try dsimp only);omega) (a0c rfl (Nat.le_refl _) tsa a0k.nil)
 refine ru 2 ?_
 refine a0d ?_
 refine ru 9 ?_
 refine rt1 ?_
 rw [List.take_of_length_le om];exact .imm _
theorem a4b {l:List Bs} (s:Bs) (b:Bool) (h:l≠[]):a0y l s b≠[]:=by
 unfold a0y;split
 ·intro h9;have:=congrArg List.length h9;simp at this
 ·exact h
theorem a1l {l:List Bs} (s:Bs) (b:Bool) (h:l≠[]):(joinL l).length≤(joinL (a0y l s b)).length:=by
 rw [←a6J s b h];unfold b2O;split
 ·rw [List.length_append,List.length_append];omega
 ·exact Nat.le_refl _
theorem a3d (l:List Bs) (w:Bs) (b:Bool) (h:l≠[]) (h1:(joinL l).length≤1000000000) (h2:w.length≤1000000000):a0q Tryz.prog 51 [a0p (joinL l),a0p w,a0s b] (a0p (joinL (a0y l w b))):=by
 rw [←a6J w b h];exact c2s _ _ _ h1 h2
theorem b3G {l:List Bs} (gs:List Bs) (h:l≠[]):a2y l gs≠[]:=by
 unfold a2y
 intro h9
 exact h (List.append_eq_nil_iff.1 h9).1
theorem a7k:∀ (r l:List Bs),l≠[]→(joinL l).length≤(joinL (l++r)).length
  | [],l,_=>by simp
  | w :: r, l, h => by
    have h1:=a7k r (l++[w]) (fun h9=>by have:=congrArg List.length h9;simp at this)
    rw [a5y h,List.append_assoc,List.length_append] at h1
    have h1:(joinL l).length+(32::w).length≤(joinL (l++w::r)).length:=h1
    omega
theorem a7n (l gs:List Bs) (k:Nat) (h:l≠[]):(joinL (a2y l (gs.take k))).length≤(joinL (a2y l gs)).length:=by
 have:a2y l gs=a2y l (gs.take k)++(gs.drop k).map fun g=>b9b++g:=by unfold a2y;rw [List.append_assoc,←List.map_append,List.take_append_drop]
 rw [this];exact a7k _ _ (b3G _ h)
theorem c0H (d:Dc) (hd:DcB d):a0q Tryz.prog 29 [dcV d] (a0p (linesD d)):=by
 obtain ⟨hd1,hd2,hd3,hd4,hd5⟩:=hd
 have hd5':(a1J d.marks).length+(a2b d.nodes).length≤1000000000:=by have:=hd5;unfold linesD at this;rw [List.length_append] at this;exact this
 refine a0m Tryz.func29 rfl kr _ _ _ rfl 126 rfl rfl (fun w F=>?_)
 refine ru 18 ?_
 refine a0n (α:=Nat×Bs) (fun x c=>⟨126,[(1,.v (.pt 1 0 0 0)),(3,.v (a0p x.2)),(4,.v (a0h x.1))],[(1,rcO 0 d)],c⟩) (fun x=>x.1≤d.marks.length∧x.2=a1J (d.marks.take x.1)) (fun x=>d.marks.length - x.1) ((0,[])) (by exact ⟨Nat.zero_le _,rfl⟩) (a0c rfl (Nat.le_refl _) tsa hsa) (fun x c hx NhL1 hL1=>?_)
 revert hx hL1;obtain ⟨k,acc⟩:=x;intro hx hL1;dsimp only at hx hL1 ⊢
 obtain ⟨hk,ha⟩:=hx
 refine ru 10 ?_
 refine wdc (fun hr0 hc0=>?_) (fun hr0 hc0=>?_)
 ·skip
  have hB:=hd4 k om;have hT:=a6I (l:=d.marks) (k:=k) om;have hlt:=a8v d.marks (k+1);rw [hT,a4I,←ha,List.length_append,List.length_append] at hlt;obtain ⟨m_,hme_⟩:∃ m_,d.marks.getD k default=m_:=⟨_,rfl⟩;rw [hme_] at hB hT hlt;obtain ⟨b1,b2,b3,b4,b5,b6⟩:=hB;have hi:=a2r m_.val ⟨b2,b3⟩;have n1:[a3g,m_.name]≠[]:=(fun h=>by cases h);have n2:a4F [a3g,m_.name] a7O m_.val≠[]:=a4b _ _ n1;have n3:a0y (a4F [a3g,m_.name] a7O m_.val) (a3l++[61,42]) m_.all≠[]:=a4b _ _ n2;have l3:(joinL (a0y (a4F [a3g,m_.name] a7O m_.val) (a3l++[61,42]) m_.all)).length≤(joinL (markW m_)).length:=a1l _ _ n3;have l2:=a1l (a3l++[61,42]) m_.all n2;have l1:(joinL [a3g,m_.name]).length≤(joinL (a4F [a3g,m_.name] a7O m_.val)).length:=a1l _ _ n1;have hwv:(a7O++[61]++itoa m_.val).length≤1000000000:=(by simp;omega);have hwb:(a3l++[61]++joinC m_.bars).length≤1000000000:=(by simp;omega)
  refine ru 11 ?_
  refine rvl (.agg 4 (a5E m_)) ((by rw [←hme_];first | done | rfl)) ?_
  refine ru 8 ?_
  refine d0 3 (HOp.val (v':=a0p (joinL [a3g,m_.name])) (a5p rfl rfl omy) (rfl)) ?_
  refine ru 2 ?_
  refine clx (a6i m_.val b2 b3) ?_
  refine d0 7 (HOp.val (v':=a0p (a7O++[61]++itoa m_.val)) (a5p rfl rfl omy) (rfl)) ?_
  refine ru 2 ?_
  refine d0 10 (HOp.val (v':=a0s (decide (m_.val≠0))) (a8A rfl rfl) ((congrArg a0s (by by_cases h:m_.val=0 <;> simp [h])))) ?_
  refine clx (a3d [a3g,m_.name] (a7O++[61]++itoa m_.val) (decide (m_.val≠0)) n1 om hwv) ?_
  refine ru 8 ?_
  refine clx (a3d (a4F [a3g,m_.name] a7O m_.val) (a3l++[61,42]) m_.all n2 om (by decide)) ?_
  refine ru 2 ?_
  refine clx (b5g m_.bars b4 om) ?_
  refine d0 8 (HOp.val (v':=a0p (a3l++[61]++joinC m_.bars)) (a5p rfl rfl omy) (rfl)) ?_
  refine ru 3 ?_
  refine d0 12 (HOp.val (v':=a0s (decide (0 < m_.bars.length))) (b3M rfl rfl) ((congrArg a0s (by rw [Bool.eq_iff_iff];simp only [decide_eq_true_eq];omega)))) ?_
  refine clx (a3d (a0y (a4F [a3g,m_.name] a7O m_.val) (a3l++[61,42]) m_.all) (a3l++[61]++joinC m_.bars) (decide (0 < m_.bars.length)) n3 om hwb) ?_
  refine ru 6 ?_
  refine rvl (a0p (joinL (markW m_))) (rfl) ?_
  refine ru 2 ?_
  refine rvl (a0p (acc++(joinL (markW m_)++[10]))) ((by rw [List.append_assoc])) ?_
  refine ru 9 ?_
  exact hL1 ((k+1,acc++(joinL (markW m_)++[10]))) _ _ (by (try dsimp only);exact ⟨by omega,by rw [hT,a4I,ha]⟩) (by (try dsimp only);omega) (a0c rfl (Nat.le_refl _) tsa hsa)
 obtain rfl:acc=a1J d.marks:=(by rw [ha,show k=d.marks.length by omega,List.take_length])
 refine ru 2 ?_
 refine a0d ?_
 refine ru 9 ?_
 refine a0n (α:=Nat×Bs) (fun x c=>⟨126,[(1,.v (.pt 1 0 0 0)),(3,.v (a0p x.2)),(7,.v (a0h x.1))],[(1,rcO 0 d)],c⟩) (fun x=>x.1≤d.nodes.length∧x.2=a1J d.marks++a2b (d.nodes.take x.1)) (fun x=>d.nodes.length - x.1) ((0,a1J d.marks)) (by exact ⟨Nat.zero_le _,by simp [a2b]⟩) (a0c rfl (Nat.le_refl _) tsa hsa) (fun x c hx NhL2 hL2=>?_)
 revert hx hL2;obtain ⟨k2,acc⟩:=x;intro hx hL2;dsimp only at hx hL2 ⊢
 obtain ⟨hk2,ha2⟩:=hx
 refine ru 10 ?_
 refine wdc (fun hr1 hc1=>?_) (fun hr1 hc1=>?_)
 ·skip
  have hB:=hd3 k2 om;have hT:=a6W (l:=d.nodes) (k:=k2) om;have hlt:=a8u d.nodes (k2+1);rw [hT,a4J,List.length_append,List.length_append] at hlt;have hal:acc.length=(a1J d.marks).length+(a2b (d.nodes.take k2)).length:=(by rw [ha2,List.length_append]);obtain ⟨n_,hne_⟩:∃ n_,d.nodes.getD k2 default=n_:=⟨_,rfl⟩;rw [hne_] at hB hT hlt;obtain ⟨b1,b2,b3,b4,b5,b6,b7,b8,b9⟩:=hB;have hi:=a2r n_.attr ⟨b4,b5⟩;have m1:(a2y [a0S,n_.name] n_.groups)≠[]:=b3G _ (fun h=>by cases h);have m2:(a0y (a2y [a0S,n_.name] n_.groups) a3L n_.inl)≠[]:=a4b _ _ m1;have m3:(a0y (a0y (a2y [a0S,n_.name] n_.groups) a3L n_.inl) a1I n_.pick)≠[]:=a4b _ _ m2;have m4:(a4F (a0y (a0y (a2y [a0S,n_.name] n_.groups) a3L n_.inl) a1I n_.pick) a1W n_.attr)≠[]:=a4b _ _ m3;have m5:(a0y (a4F (a0y (a0y (a2y [a0S,n_.name] n_.groups) a3L n_.inl) a1I n_.pick) a1W n_.attr) (a1j++[61,42]) n_.all)≠[]:=a4b _ _ m4;have m6:(a3T (a4F (a0y (a0y (a2y [a0S,n_.name] n_.groups) a3L n_.inl) a1I n_.pick) a1W n_.attr) a1j n_.all n_.marks)≠[]:=a4b _ _ m5;have m7:(a0y (a3T (a4F (a0y (a0y (a2y [a0S,n_.name] n_.groups) a3L n_.inl) a1I n_.pick) a1W n_.attr) a1j n_.all n_.marks) [58] (!n_.leaf))≠[]:=a4b _ _ m6;have p1:(joinL (a2y [a0S,n_.name] n_.groups)).length≤(joinL (a0y (a2y [a0S,n_.name] n_.groups) a3L n_.inl)).length:=a1l _ _ m1;have p2:(joinL (a0y (a2y [a0S,n_.name] n_.groups) a3L n_.inl)).length≤(joinL (a0y (a0y (a2y [a0S,n_.name] n_.groups) a3L n_.inl) a1I n_.pick)).length:=a1l _ _ m2;have p3:(joinL (a0y (a0y (a2y [a0S,n_.name] n_.groups) a3L n_.inl) a1I n_.pick)).length≤(joinL (a4F (a0y (a0y (a2y [a0S,n_.name] n_.groups) a3L n_.inl) a1I n_.pick) a1W n_.attr)).length:=a1l _ _ m3;have p4:(joinL (a4F (a0y (a0y (a2y [a0S,n_.name] n_.groups) a3L n_.inl) a1I n_.pick) a1W n_.attr)).length≤(joinL (a0y (a4F (a0y (a0y (a2y [a0S,n_.name] n_.groups) a3L n_.inl) a1I n_.pick) a1W n_.attr) (a1j++[61,42]) n_.all)).length:=a1l _ _ m4;have p5:(joinL (a0y (a4F (a0y (a0y (a2y [a0S,n_.name] n_.groups) a3L n_.inl) a1I n_.pick) a1W n_.attr) (a1j++[61,42]) n_.all)).length≤(joinL (a3T (a4F (a0y (a0y (a2y [a0S,n_.name] n_.groups) a3L n_.inl) a1I n_.pick) a1W n_.attr) a1j n_.all n_.marks)).length:=a1l _ _ m5;have p6:(joinL (a3T (a4F (a0y (a0y (a2y [a0S,n_.name] n_.groups) a3L n_.inl) a1I n_.pick) a1W n_.attr) a1j n_.all n_.marks)).length≤(joinL (a0y (a3T (a4F (a0y (a0y (a2y [a0S,n_.name] n_.groups) a3L n_.inl) a1I n_.pick) a1W n_.attr) a1j n_.all n_.marks) [58] (!n_.leaf))).length:=a1l _ _ m6;have p7:(joinL (a0y (a3T (a4F (a0y (a0y (a2y [a0S,n_.name] n_.groups) a3L n_.inl) a1I n_.pick) a1W n_.attr) a1j n_.all n_.marks) [58] (!n_.leaf))).length≤(joinL (nodeW n_)).length:=a1l _ _ m7;have hwv:(a1W++[61]++itoa n_.attr).length≤1000000000:=(by simp;omega);have hwb:(a1j++[61]++joinC n_.marks).length≤1000000000:=(by simp;omega)
  refine ru 11 ?_
  refine rvl (.agg 9 (a5B n_)) ((by rw [←hne_];first | done | rfl)) ?_
  refine ru 9 ?_
  refine rvl (a0p (joinL [a0S,n_.name])) (rfl) ?_
  refine ru 10 ?_
  refine a0n (α:=Nat×Nat) (fun x c=>⟨126,[(1,.v (.pt 1 0 0 0)),(3,.v (a0p acc)),(7,.v (a0h k2)),(8,.v (.pt 8 x.2 0 0)),(9,.v (a0p (joinL (a2y [a0S,n_.name] (n_.groups.take x.1))))),(10,.v (a0h x.1))],[(1,rcO 0 d),(8,⟨x.2,1,9,54,0,fun _=>a5B n_⟩)],c⟩) (fun x=>x.1≤n_.groups.length) (fun x=>n_.groups.length - x.1) ((0,c)) (by exact Nat.zero_le _) (a0c rfl (Nat.le_refl _) tsa hsa) (fun x c hx NhL3 hL3=>?_)
  revert hx hL3;obtain ⟨ji,g8⟩:=x;intro hx hL3;dsimp only at hx hL3 ⊢
  refine ru 10 ?_
  refine wdc (fun hr2 hc2=>?_) (fun hr2 hc2=>?_)
  ·skip
   have hgl:=b3 ji;have hgt:=b1i [a0S,n_.name] (show ji < n_.groups.length by omega);have hgj:joinL (a2y [a0S,n_.name] (n_.groups.take ji))++[32,103,114,111,117,112,61]++n_.groups.getD ji []=joinL (a2y [a0S,n_.name] (n_.groups.take (ji+1))):=(by rw [hgt,←a6J _ _ (b3G _ (fun h=>by cases h))];unfold b2O;rw [if_pos rfl];simp);have hgb:=a7n [a0S,n_.name] n_.groups ji (fun h=>by cases h);have hgb1:=a7n [a0S,n_.name] n_.groups (ji+1) (fun h=>by cases h);have hgc:(joinL (a2y [a0S,n_.name] (n_.groups.take ji))++[32,103,114,111,117,112,61]).length+(n_.groups.getD ji []).length≤9223372036854775807:=(by rw [←List.length_append,hgj];omega)
   refine ru 12 ?_
   refine rvl (a0p (n_.groups.getD ji [])) (rfl) ?_
   refine ru 1 ?_
   refine rvl (a0p (joinL (a2y [a0S,n_.name] (n_.groups.take (ji+1))))) ((by rw [hgj])) ?_
   refine ru 9 ?_
   exact hL3 ((ji+1,g8)) _ _ (by (try dsimp only);omega) (by (try dsimp only);omega) (a0c rfl (Nat.le_refl _) tsa hsa)
  have hjl:ji=n_.groups.length:=om;subst hjl;rw [List.take_length]
  refine ru 2 ?_
  refine a0d ?_
  refine ru 7 ?_
  refine clx (a3d (a2y [a0S,n_.name] n_.groups) a3L n_.inl m1 om (by decide)) ?_
  refine ru 2 ?_
  refine clx (a3d (a0y (a2y [a0S,n_.name] n_.groups) a3L n_.inl) a1I n_.pick m2 om (by decide)) ?_
  refine ru 8 ?_
  refine clx (a6i n_.attr b4 b5) ?_
  refine d0 5 (HOp.val (v':=a0p (a1W++[61]++itoa n_.attr)) (a5p rfl rfl omy) (rfl)) ?_
  refine ru 2 ?_
  refine d0 8 (HOp.val (v':=a0s (decide (n_.attr≠0))) (a8A rfl rfl) ((congrArg a0s (by by_cases h:n_.attr=0 <;> simp [h])))) ?_
  refine clx (a3d (a0y (a0y (a2y [a0S,n_.name] n_.groups) a3L n_.inl) a1I n_.pick) (a1W++[61]++itoa n_.attr) (decide (n_.attr≠0)) m3 om hwv) ?_
  refine ru 8 ?_
  refine clx (a3d (a4F (a0y (a0y (a2y [a0S,n_.name] n_.groups) a3L n_.inl) a1I n_.pick) a1W n_.attr) (a1j++[61,42]) n_.all m4 om (by decide)) ?_
  refine ru 2 ?_
  refine clx (b5g n_.marks b6 om) ?_
  refine d0 8 (HOp.val (v':=a0p (a1j++[61]++joinC n_.marks)) (a5p rfl rfl omy) (rfl)) ?_
  refine ru 3 ?_
  refine d0 12 (HOp.val (v':=a0s (decide (0 < n_.marks.length))) (b3M rfl rfl) ((congrArg a0s (by rw [Bool.eq_iff_iff];simp only [decide_eq_true_eq];omega)))) ?_
  refine clx (a3d (a0y (a4F (a0y (a0y (a2y [a0S,n_.name] n_.groups) a3L n_.inl) a1I n_.pick) a1W n_.attr) (a1j++[61,42]) n_.all) (a1j++[61]++joinC n_.marks) (decide (0 < n_.marks.length)) m5 om hwb) ?_
  refine ru 9 ?_
  refine clx (a3d (a3T (a4F (a0y (a0y (a2y [a0S,n_.name] n_.groups) a3L n_.inl) a1I n_.pick) a1W n_.attr) a1j n_.all n_.marks) [58] (!n_.leaf) m6 om (by decide)) ?_
  refine ru 4 ?_
  refine d0 10 (HOp.val (v':=a0s (decide (n_.expr≠[]))) (b2k rfl rfl) ((congrArg a0s (by by_cases h:n_.expr=[] <;> simp [h])))) ?_
  refine clx (a3d (a0y (a3T (a4F (a0y (a0y (a2y [a0S,n_.name] n_.groups) a3L n_.inl) a1I n_.pick) a1W n_.attr) a1j n_.all n_.marks) [58] (!n_.leaf)) n_.expr (decide (n_.expr≠[])) m7 om om) ?_
  refine ru 6 ?_
  refine rvl (a0p (joinL (nodeW n_))) (rfl) ?_
  refine ru 2 ?_
  refine rvl (a0p (acc++(joinL (nodeW n_)++[10]))) ((by rw [List.append_assoc])) ?_
  refine ru 9 ?_
  exact hL2 ((k2+1,acc++(joinL (nodeW n_)++[10]))) _ _ (by (try dsimp only);exact ⟨by omega,by rw [hT,a4J,ha2,List.append_assoc]⟩) (by (try dsimp only);omega) (a0c rfl (Nat.le_refl _) tsa hsa)
 obtain rfl:acc=linesD d:=(by rw [ha2,show k2=d.nodes.length by omega,List.take_length];rfl)
 refine ru 2 ?_
 refine a0d ?_
 refine ru 9 ?_
 refine rt1 ?_
 exact .imm _
end Go.Proofs.YtjdmfohncgkdoaaGreatDoor
