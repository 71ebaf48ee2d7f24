/-
  The options of a node; maps by texts that count.
-/
import Derived.Test.YtjdmfohncgkdoaaGreatDoorHmk
import Derived.Test.YtjdmfohncgkdoaaGreatDoorHq4
import Derived.Test.YtjdmfohncgkdoaaGreatDoorLexB
import Derived.Lib.OthersKept
import Derived.Deep.WholeRow
namespace Go.Proofs.YtjdmfohncgkdoaaGreatDoor
set_option linter.unusedSimpArgs false
set_option linter.unusedVariables false
set_option maxRecDepth 100000
set_option maxHeartbeats 1000000
open Go.RowKit
theorem a5v {C:Ctx} {P:Program} {ops:Array Oper} {Q:Exit→Act→World→Prop} {s:HSt} {rest:List Oper} {d:Option Tmp} {op:Op} {ty:TypeId} {pos:String} {af:Array Edge} (gi j:Nat) (b:Bool)
  (hgi:(ops[gi]?).bind (·.dst)=some j) (hc:tget s.tm j=some (.v (.imm (.bool b)))) (h:HSeq C P ops (⟨d,op,ty,pos,af,none⟩::rest) s Q):HSeq C P ops (⟨d,op,ty,pos,af,some (gi,b)⟩::rest) s Q:=by
 intro a w hs
 have h0:=h a w hs
 obtain ⟨E,e0,r,hG,hsz,hdf,ht⟩:=hs
 have hj:a.tmps.getD j undef=.bool b:=Rep.imm_inv (ht j _ hc)
 unfold a7m at h0 ⊢
 rw [if_pos (by simp [Region.wanted])] at h0
 rw [if_pos ?_]
 ·exact h0
 ·unfold Region.wanted yielded
  simp only [hgi,Option.bind_some]
  by_cases hj2:j < a.tmps.size
  ·have e1:a.tmps[j]?=some a.tmps[j]:=Array.getElem?_eq_getElem hj2
   have e2:a.tmps.getD j undef=a.tmps[j]:=by simp [hj2]
   rw [e1,←e2,hj];simp
  ·have e1:a.tmps.getD j undef=undef:=by simp [hj2]
   rw [e1] at hj;cases hj
theorem b9r (a b:Bs):((⟨a.toArray⟩:ByteArray) == ⟨b.toArray⟩)=decide (a=b):=by
 show (a.toArray == b.toArray)=_
 rw [Bool.eq_iff_iff];simp
theorem c5H {P:Program} {T kt et:TypeId} {zero:Value} (h1:P.underlying T=some (.map kt et)) (h2:P.underlying kt=some .string) (h3:∀ w,(zeroValue et).run P w=.ok zero w):KeyOk P T Bs (fun x=>Value.string ⟨x.toArray⟩) zero where
  all:=⟨kt,et,h1,h3,fun b a w=>by
    unfold Instr.checkKey
    simp only [Sem.run_bind,run_underlying h2,Result.andThen_ok,Sem.run_pure],fun a es l he w=>by
    have key:∀ (es:List MapEntry) (l:List (Bs×Value)) (i:Nat),es.map (fun e=>(e.key,e.val))=encL (fun x=>Value.string ⟨x.toArray⟩) l→Instr.findNow .string (.string ⟨a.toArray⟩) es i=some (mfind a l i):=by
      intro es
      induction es with
      | nil => intro l i h; cases l with
        | nil=>rfl
        | cons p l=>simp [encL] at h
      | cons e es ih => intro l i h; cases l with
        | nil=>simp [encL] at h
        | cons p l =>
          simp only [encL,List.map_cons,List.cons.injEq,Prod.mk.injEq] at h
          obtain ⟨⟨h1,h2⟩,h3⟩:=h
          have ih:=ih l (i+1) h3
          unfold Instr.findNow mfind
          rw [h1]
          simp only [Instr.sameNow]
          by_cases e1:a=p.1
          · rw [b9r,if_pos e1,h2,decide_eq_true e1]
          · rw [b9r,if_neg e1,decide_eq_false e1];exact ih
    unfold Instr.findKey
    simp only [Sem.run_bind,run_underlying h2,Result.andThen_ok,key es l 0 he,Sem.run_pure]⟩
  stay a:=by
    show ((⟨a.toArray⟩:ByteArray) == ⟨a.toArray⟩)=true
    rw [b9r];simp
def alk {α:Type} [DecidableEq α] (b:α):List (α×Value)→Option Value
 | []=>none
 | p::r=>if b=p.1 then some p.2 else alk b r
def c5m {α:Type} [DecidableEq α] (a:α) (v:Value):List (α×Value)→List (α×Value)
 | []=>[(a,v)]
 | p::r=>if a=p.1 then (a,v)::r else p::c5m a v r
theorem b2q {α:Type} [DecidableEq α] (b:α):∀ (l:List (α×Value)) (i:Nat),(mfind b l i).map (·.2)=alk b l
  | [],i=>rfl
  | p :: r, i => by
    unfold mfind alk
    split
    · rfl
    · exact b2q b r (i+1)
theorem c5R {α:Type} [DecidableEq α] (a:α) (v:Value) (l:List (α×Value)):c6z l a v=c5m a v l:=by
  have key:∀ (l:List (α×Value)) (k:Nat),(match mfind a l k with | some (i,_)=>l.set (i - k) (a,v) | none=>l++[(a,v)])=c5m a v l:=by
    intro l
    induction l with
    | nil=>intro k;rfl
    | cons p r ih =>
      intro k
      have ih:=ih (k+1)
      unfold mfind c5m
      by_cases h:a=p.1
      · rw [if_pos h,if_pos h];simp
      · rw [if_neg h,if_neg h]
        rw [←ih]
        cases hm:mfind a r (k+1) with
        | none=>rfl
        | some q =>
          obtain ⟨i,x⟩:=q
          obtain ⟨j,hj,_⟩:=a8O hm
          subst hj
          simp only
          rw [show k+1+j - k=j+1 by omega,show k+1+j - (k+1)=j by omega];rfl
  have:=key l 0
  rw [←this];rfl
theorem b8U {α:Type} [DecidableEq α] (a b:α) (v:Value):∀ l:List (α×Value),alk b (c5m a v l)=if b=a then some v else alk b l
  | []=>rfl
  | p :: r => by
    unfold c5m
    by_cases h:a=p.1
    · rw [if_pos h]
      show (if b=a then some v else alk b r)=if b=a then some v else (if b=p.1 then some p.2 else alk b r)
      by_cases h2:b=a
      · rw [if_pos h2,if_pos h2]
      · rw [if_neg h2,if_neg h2,if_neg (fun e=>h2 (e.trans h.symm))]
    · rw [if_neg h]
      show (if b=p.1 then some p.2 else alk b (c5m a v r))=if b=a then some v else (if b=p.1 then some p.2 else alk b r)
      rw [b8U a b v r]
      by_cases h2:b=p.1
      · rw [if_pos h2,if_pos h2,if_neg (fun e=>h (e.symm.trans h2))]
      · rw [if_neg h2,if_neg h2]
def a5H:List Bs→List (Bs×Value)
 | []=>[]
 | w::met=>c6z (a5H met) w (.int .i64 ((met.count w:Int)+1))
theorem b5Z (w:Bs):∀ met,c4V (a5H met) w=if w∈met then some (.int .i64 (met.count w:Int)) else none
  | []=>rfl
  | x :: met => by
    have ih:=b5Z w met
    unfold c4V at ih ⊢
    rw [b2q] at ih ⊢
    unfold a5H
    rw [c5R,b8U,ih]
    by_cases h:w=x
    · subst h;simp
    · rw [if_neg h]
      have:(x::met).count w=met.count w:=by rw [List.count_cons];simp [Ne.symm h]
      rw [this];simp [h]
theorem a2h (w:Bs) (met:List Bs):lkV false (c4V (a5H met) w) (.int .i64 0)=a0h (met.count w:Int):=by
 rw [b5Z]
 by_cases h:w∈met
 ·rw [if_pos h];rfl
 ·rw [if_neg h,List.count_eq_zero_of_not_mem h];rfl
def c3S:List (Bs×Bool×Nat):=[(a1o,true,85),(a3k,false,86),(a1y,false,87),(a1F,true,88),(a0P,true,89)]
@[reducible] def c6x (o:Bs×Bool×Nat):Nat→HV:=fun j=>match j with
 | 0=>a0n o.1
 | 1=>a0r o.2.1
 | _=>.fn (.func o.2.2) 0 (fun _=>default)
@[reducible] def c7C:HV:=.sl 3 5 (fun i=>c6x (c3S.getD i default))
theorem c3g {sh:List (Nat×HObj)} (o:Bs×Bool×Nat) (j:Nat):Fz sh (c6x o j) (c6x o j):=by
 match j with
 | 0=>exact .imm _
 | 1=>exact .imm _
 | _+2=>exact .fn _ _ _ _ fun i hi=>absurd hi (Nat.not_lt_zero _)
theorem a4x:a0p Tryz.prog 59 [] c7C:=by
 refine a0m Tryz.func59 rfl kr _ _ _ rfl 7 rfl rfl (fun w F=>?_)
 refine ru 12 ?_
 refine a0s 6 (a0b (id:=6) (hs:=[_,_,_,_,_]) ei_112.h omx rfl omx ⟨rfl,rfl,rfl,rfl,⟨rfl,rfl,rfl,rfl,⟨rfl,rfl,rfl,rfl,⟨rfl,rfl,rfl,rfl,⟨rfl,rfl,rfl,rfl,trivial⟩⟩⟩⟩⟩) rfl rfl a0e rfl rfl (c':=1) rfl ?_
 refine ru 4 ?_
 refine b1v rfl (a0q rfl) [(6,_)] rfl (a0i rfl a0e) ?_
 exact .os 6 _ 0 5 _ _ (List.mem_cons_self ..) rfl (Nat.le_refl _) (fun i j hi hj=>by have hj:j < 3:=hj;rcases (show i=0∨i=1∨i=2∨i=3∨i=4 by omega) with rfl | rfl | rfl | rfl | rfl <;> rcases (show j=0∨j=1∨j=2 by omega) with rfl | rfl | rfl <;> first | exact .imm _ | exact .fn _ _ _ _ (fun i hi=>absurd hi (Nat.not_lt_zero _)))
theorem c6h (o:Bs×Bool×Nat) (word:Bs) (has:Bool):a0p Tryz.prog 60 ([.agg 3 (c6x o)]++[.fp 1 (fun _=>a0n word),.fp 1 (fun _=>a0r has)]) (a0r (decide (o.1=word)&&(o.2.1 == has))):=by
 show a0p _ _ [.agg 3 (c6x o),.fp 1 (fun _=>a0n word),.fp 1 (fun _=>a0r has)] _
 refine a0m Tryz.func60 rfl kr _ _ _ rfl 15 rfl rfl (fun w F=>?_)
 refine ru 22 ?_
 refine rt1 ?_
 exact Frz.fz
theorem c3O (word:Bs) (has:Bool):c1y (fun o:Bs×Bool×Nat=>decide (o.1=word)&&(o.2.1 == has)) c3S=a2B word has:=by
 have yes:∀ {s:Bs} {b:Bool},s=word∧b=has→(decide (s=word)&&(b == has))=true:=fun h=>by rw [decide_eq_true h.1,h.2];simp
 have no:∀ {s:Bs} {b:Bool},¬ (s=word∧b=has)→(decide (s=word)&&(b == has))=false:=fun h=>by rw [←Bool.not_eq_true];simpa using h
 have hl:c3S.length=5:=rfl
 unfold a2B
 by_cases h0:a1o=word∧true=has
 ·rw [if_pos h0];exact a4i (d:=default) (i:=0) (by rw [hl];omega) (yes h0) (fun j hj=>absurd hj (Nat.not_lt_zero _))
 rw [if_neg h0]
 by_cases h1:a3k=word∧false=has
 ·rw [if_pos h1];exact a4i (d:=default) (i:=1) (by rw [hl];omega) (yes h1) (fun j hj=>by have e:j=0:=(by omega);subst e;exact no h0)
 rw [if_neg h1]
 by_cases h2:a1y=word∧false=has
 ·rw [if_pos h2];exact a4i (d:=default) (i:=2) (by rw [hl];omega) (yes h2) (fun j hj=>by rcases (show j=0∨j=1 by omega) with rfl | rfl;exact no h0;exact no h1)
 rw [if_neg h2]
 by_cases h3:a1F=word∧true=has
 ·rw [if_pos h3];exact a4i (d:=default) (i:=3) (by rw [hl];omega) (yes h3) (fun j hj=>by rcases (show j=0∨j=1∨j=2 by omega) with rfl | rfl | rfl;exact no h0;exact no h1;exact no h2)
 rw [if_neg h3]
 by_cases h4:a0P=word∧true=has
 ·rw [if_pos h4];exact a4i (d:=default) (i:=4) (by rw [hl];omega) (yes h4) (fun j hj=>by rcases (show j=0∨j=1∨j=2∨j=3 by omega) with rfl | rfl | rfl | rfl;exact no h0;exact no h1;exact no h2;exact no h3)
 rw [if_neg h4]
 exact a6V (d:=default) (fun j hj=>by rw [hl] at hj;rcases (show j=0∨j=1∨j=2∨j=3∨j=4 by omega) with rfl | rfl | rfl | rfl | rfl;exact no h0;exact no h1;exact no h2;exact no h3;exact no h4)
theorem c3M (word:Bs) (has:Bool):a0p Tryz.prog 58 [c7C,.fn (.func 60) 2 (fun i=>[HV.fp 1 (fun _=>a0n word),HV.fp 1 (fun _=>a0r has)].getD i default)] (a0h (a2B word has)):=by
 rw [←c3O]
 have hlen:c3S.length=5:=rfl
 refine a0m Tryz.func58 rfl kr _ _ _ rfl 19 rfl rfl (fun w F=>?_)
 refine ru 14 ?_
 refine a0o (α:=Nat) (fun x c=>⟨19,[(0,.v c7C),(1,.v (.fn (.func 60) 2 (fun x=>[HV.fp 1 (fun _=>a0n word),HV.fp 1 (fun _=>a0r has)].getD x default))),(7,.v (a0h 5)),(8,.v (a0h (x:Int)))],[],c⟩) (fun x=>x≤5∧∀ j,j < x→(decide ((c3S.getD j default).1=word)&&((c3S.getD j default).2.1 == has))=false) (fun x=>5 - x) (0) (by exact ⟨Nat.zero_le _,fun j hj=>absurd hj (Nat.not_lt_zero _)⟩) (a0c rfl (Nat.le_refl _) tsa a0k.nil) (fun i c hx NhL1 hL1=>?_)
 (try dsimp only at hx hL1 ⊢)
 obtain ⟨hil,hno⟩:=hx
 refine ru 6 ?_
 refine wdc (fun hr0 hc0=>?_) (fun hr0 hc0=>?_)
 ·refine ru 17 ?_
  refine s0 (a7A (xs:=[_]) (cs:=[HV.fp 1 (fun _=>a0n word),HV.fp 1 (fun _=>a0r has)]) (c6h (c3S.getD i default) word has) rfl rfl (fun i hi=>by match i,hi with | 0,_=>rfl | 1,_=>rfl) ⟨rfl,trivial⟩ ⟨.agg _ _ _ (fun j _=>c3g _ j),(.fp _ _ (Nat.le_refl _) _ _ fun _ _=>.imm _),(.fp _ _ (Nat.le_refl _) _ _ fun _ _=>.imm _),trivial⟩) ?_
  refine ru 2 ?_
  refine wdc (fun hr1 hc1=>?_) (fun hr1 hc1=>?_)
  ·refine ru 9 ?_
   refine a0f ?_
   refine ru 2 ?_
   refine rt1 ?_
   exact Fz.eq (by rw [a4i (d:=default) (by rw [hlen];omega) hr1 hno])
  refine ru 7 ?_
  exact hL1 (i+1) _ _ (by (try dsimp only);exact ⟨by omega,fun j hj=>by rcases Nat.lt_or_ge j i with h | h;exact hno j h;obtain rfl:j=i:=om;exact hr1⟩) (by (try dsimp only);omega) (a0c rfl (Nat.le_refl _) (tsr rfl (tsr rfl (tsr rfl (a0M.cons rfl (a1b om) a0M.nil)))) a0k.nil)
 refine ru 2 ?_
 refine a0d ?_
 refine ru 8 ?_
 refine rt1 ?_
 exact Fz.eq (by rw [a6V (d:=default) (fun j hj=>hno j (by rw [hlen] at hj;omega))])
set_option maxHeartbeats 2000000
@[reducible] def a7I (n:Nd):Nat→HV:=fun j=>match j with
 | 0=>a0n n.name
 | 1=>a0S n.groups
 | 2=>a0r n.inl
 | 3=>a0r n.pick
 | 4=>a0r n.leaf
 | 5=>a0h n.attr
 | 6=>a0r n.all
 | 7=>a0S n.marks
 | _=>a0n n.expr
@[reducible] def c2z (n:Nd):HV:=.agg 9 (a7I n)
@[reducible] def c8j (x:Nd×Bool):HV:=t2 (c2z x.1) (a0r x.2)
theorem a7i:KeyOk Tryz.prog 107 Bs (fun x=>Value.string ⟨x.toArray⟩) (.int .i64 0):=c5H (et:=3) (by kernel_rfl) Tryz.underlying9 (fun w=>by kernel_rfl)
theorem b9k (s:Bs):a0p Tryz.prog 56 [a6d (exprV s).1] (a0n (exprS s)):=by
 unfold exprS
 by_cases h:∃ t:T,t.ok=true∧t.size≤250∧exprV s=(T.flat 0 t,0,0)
 ·rw [dif_pos h]
  obtain ⟨h1,h2,h3⟩:=Classical.choose_spec h
  have:=b7j (Classical.choose h) h1 h2
  exact (congrArg (fun q:List Pt=>a0p Tryz.prog 56 [a6d q] (a0n (a4B (Classical.choose h).sig))) (congrArg Prod.fst h3)).mpr this
 ·rw [dif_neg h]
  rcases b0f s with h2 | h2
  ·rw [h2];exact b8x
  ·exact absurd h2 h
@[reducible] def ndZ (s:Bs) (g:Nat):Nat→HV:=fun j=>match j with
 | 0=>a0n s
 | 1=>.os 8001 g 0 0
 | 2=>a0r false
 | 3=>a0r false
 | 4=>a0r true
 | 5=>a0h 0
 | 6=>a0r false
 | 7=>.imm (.slice none 0 0)
 | _=>a0n []
@[reducible] def zNd:Nat→HV:=fun j=>match j with
 | 0=>a0n []
 | 1=>.imm (.slice none 0 0)
 | 2=>a0r false
 | 3=>a0r false
 | 4=>a0r false
 | 5=>a0h 0
 | 6=>a0r false
 | 7=>.imm (.slice none 0 0)
 | _=>a0n []
theorem a9A {g ty fl:Nat} {f f':Nat→Nat→HV} (h:∀ j,j < 9→Sb (f 0 j) (f' 0 j)) (hfn:fl≤1:=by exact Nat.zero_le _):a6c ⟨g,1,9,ty,fl,f⟩ ⟨g,1,9,ty,fl,f'⟩:=.of (hfn:=hfn) fun i j hi hj=>by
 obtain rfl:i=0:=by omega
 exact h j hj
@[reducible] def c5V (l:List Bs):HV:=.sl 1 (l.length - 2) (fun i _=>a0n (l.getD (2+i) []))
theorem c5Q (l:List Bs) (hl:2≤l.length∧l.length≤100000) (hw:∀ w∈l,w.length≤100000) (hj:(joinL l).length≤1000000):a0p Tryz.prog 38 [a0S l] (c8j (a2r l)):=by
 refine a0m Tryz.func38 rfl kr _ _ _ rfl 85 rfl rfl (fun w F=>?_)
 refine ru 11 ?_
 refine rvl (a0n (l.getD 1 [])) (rfl) ?_
 refine ru 7 ?_
 refine a0s 19 (a9h (id:=19)) rfl rfl a0e rfl rfl (c':=4) rfl ?_
 refine ru 13 ?_
 refine (a1J 4 1 8001 1 9 (c0h []) (fun _=>ndZ (l.getD 1 []) 4) rfl rfl (by exact q9 (.inr rfl) (.inl ⟨rfl,rfl⟩) (.inr rfl) (.inr rfl) (.inr rfl) (.inr rfl) (.inr rfl) (.inr rfl) (.inr rfl)) (by decide) (by decide) (c':=5) rfl).wp ?_
 refine a0o (α:=Nat×Nd×List Bs×Nat×Nat) (fun x c=>⟨85,[(0,.v (a0S l)),(2,.v (.pt 2 0 0 0)),(4,.v (.pt 4 1 0 0)),(5,.v (.mp 19 x.2.2.2.2)),(21,.v (c5V l)),(22,.v (a0h ((l.length - 2:Nat):Int))),(23,.v (a0h (x.1:Int)))],[(2,⟨0,1,9,46,0,fun _=>zNd⟩),(4,ndO 1 x.2.1 x.2.2.2.1 x.2.1.groups.length),(8001,a4h x.2.2.2.1 x.2.1.groups),(19,b5n x.2.2.2.2 (encL (fun x=>Value.string ⟨x.toArray⟩) (a5H x.2.2.1)))],c⟩) (fun x=>x.1≤l.length - 2∧x.2.1.groups.length≤4∧x.2.2.1.length=x.1∧a3J (l.drop (2+x.1)) x.2.2.1.reverse x.2.1=a2r l) (fun x=>l.length - x.1) ((0,⟨l.getD 1 [],[],false,false,true,0,false,[],[]⟩,[],4,3)) (by exact ⟨Nat.zero_le _,Nat.zero_le _,rfl,rfl⟩) (a0c rfl (Nat.le_refl _) (tsr rfl (tsr rfl (tsr rfl (tsr rfl (a0M.cons rfl (by rw [show ((l.length:Int) - 2).toNat=l.length - 2 by omega];exact .refl _) (a0M.cons rfl (a1b om) tsa)))))) (a0k.cons rfl (a9A (by exact q9 (.refl _) (.refl _) (.refl _) (.refl _) (.refl _) (.refl _) (.refl _) (.refl _) (.refl _))) (a0k.cons rfl (a9A (by exact q9 (.refl _) (.refl _) (.refl _) (.refl _) (.refl _) (.refl _) (.refl _) (.nil _ _ _ (by decide) _) (.refl _))) hsa))) (fun x c hx NhL1 hL1=>?_)
 revert hx hL1;obtain ⟨i,n,met,g,gm⟩:=x;intro hx hL1;dsimp only at hx hL1 ⊢
 obtain ⟨ha1,ha2,ha4,ha3⟩:=hx
 refine ru 6 ?_
 refine wdc (fun hr0 hc0=>?_) (fun hr0 hc0=>?_)
 ·skip
  have hil:2+i < l.length:=om;obtain ⟨v_,hv_⟩:∃ v_,l.getD (2+i) []=v_:=⟨_,rfl⟩;have hd_:l.drop (2+i)=v_::l.drop (2+i+1):=(by rw [List.drop_eq_getElem_cons hil,←hv_,List.getD_eq_getElem?_getD,List.getElem?_eq_getElem hil];rfl);have hvl:v_.length≤1000000:=(by have:=hw v_ (by rw [←hv_];exact a2q hil);omega);rw [hd_] at ha3
  refine ru 9 ?_
  refine rvl (a0n v_) ((by rw [←hv_];show a0n (l.getD (2+((i:Nat):Int).toNat) [])=_;rw [show ((i:Nat):Int).toNat=i by omega])) ?_
  refine ru 11 ?_
  refine wdc (fun hr1 hc1=>?_) (fun hr1 hc1=>?_)
  ·skip
   have hv58:v_=[58]:=(by simpa using hr1);have hjl:=a5B l (2+i+1);subst hv58;rw [a2G] at ha3
   refine ru 6 ?_
   refine s0 (a0j (xs:=[_]) (b4A (l.drop (2+i+1)) (by rw [List.length_drop];omega) om) ⟨rfl,trivial⟩ ⟨(b4e (l.drop (2+i+1)) (by rw [List.length_drop];omega) (fun k hk=>by show a0n (l.getD ((((i:Nat):Int)+3).toNat+k) [])=_;rw [show (((i:Nat):Int)+3).toNat+k=2+i+1+k by omega,List.getD_eq_getElem?_getD,List.getD_eq_getElem?_getD,List.getElem?_drop])),trivial⟩) ?_
   refine a0l 36 (xs:=[_]) (pre:=[]) (c0v _ (joinL (l.drop (2+i+1))) om) ⟨rfl,trivial⟩ a0e rfl rfl (fun r c1 hr=>?_)
   (try dsimp only)
   refine ru 12 ?_
   refine s0 (a0j (xs:=[_]) (b9k (joinL (l.drop (2+i+1)))) ⟨rfl,trivial⟩ ⟨(show Fz _ (a6d r.1) (a6d (exprV (joinL (l.drop (2+i+1)))).1) from by rw [a5T hr];exact Frz.fz),trivial⟩) ?_
   refine ru 19 ?_
   refine a0f ?_
   refine ru 2 ?_
   refine a5q rfl (a0W rfl rfl ty_46.h rqc rfl rfl) (a0q rfl) [(8001,_)] rfl (a0i rfl a0e) ?_
   rw [←ha3,a5T hr];exact a1H (.agg _ _ _ (by exact q9 (.imm _) (a1N (l:=n.groups) (enc:=fun x _=>a0n x) (d:=[]) (List.mem_cons_self ..) rfl rfl (Nat.le_refl _) (fun i j hi hj=>.imm _)) (.imm _) (.imm _) (.imm _) (.imm _) (.imm _) (show Fz _ (a0S n.marks) (a0S n.marks) from .sl _ _ _ _ fun _ _ _ _=>.imm _) (.imm _))) (a1k (by simp [a8S]))
  have hv58:v_≠[58]:=(by simpa using hr1);obtain ⟨⟨W_,V_,H_⟩,hC_⟩:∃ q,a3q 61 v_=q:=⟨_,rfl⟩;have hcut:a0p Tryz.prog 57 [a0n v_,a0n [61]] (c5B (W_,V_,H_)):=(by rw [←hC_];exact c6l v_ 61 hvl);have hmc:met.count W_≤met.length:=List.count_le_length;have hVl:V_.length≤1000000:=(by have:=a3C 61 v_;rw [hC_] at this;have h9:V_.length≤v_.length:=this;omega)
  refine ru 5 ?_
  refine cll (hcut) ?_
  refine ru 13 ?_
  refine cll (a4x) ?_
  refine ru 1 ?_
  refine hm_ 55 (a8A (xs:=[_,_]) [(11,_),(13,_)] (c3M W_ H_) ⟨rfl,⟨rfl,trivial⟩⟩ ⟨(.sl _ _ _ _ fun i j _ _=>c3g _ _),⟨(.fn _ _ _ _ (fun i hi=>by match i,hi with | 0,_=>exact .pt 11 _ 0 0 1 _ (fun _=>a0n W_) (List.mem_cons_self ..) rfl (Nat.lt_succ_self 0) (Nat.le_refl 1) (fun j hj=>.imm _) | 1,_=>exact .pt 13 _ 0 0 1 _ (fun _=>a0r H_) (List.mem_cons_of_mem _ (List.mem_cons_self ..)) rfl (Nat.lt_succ_self 0) (Nat.le_refl 1) (fun j hj=>.imm _))),trivial⟩⟩ rfl) rfl rfl (a0i rfl (a0i rfl a0e)) rfl rfl (c':=c+5) rfl ?_
  refine ru 7 ?_
  refine st1 (HOp.val (v':=a0h (met.count W_:Int)) (a0J a7i (l:=a5H met) (a:=W_) rfl rfl (fun _ _ _ h=>h.imm_inv)) (a2h _ _)) rfl rfl rfl ?_
  first
  | refine hq_ 59 (b6w rfl rfl rfl omy omy) rfl rfl a0e rfl rfl ?_
  | refine hq_ 59 (b4a rfl rfl) rfl rfl a0e rfl rfl ?_
  refine b6Y (a3G a7i (l:=a5H met) (a:=W_) (v:=.int .i64 ((met.count W_:Int)+1)) rfl rfl (fun _ _ _ h=>h.imm_inv) rfl) rfl rfl (a0D rfl) (c':=c+6) rfl ?_
  refine ru 3 ?_
  rcases b8l W_ H_ met with h0 | h0 | h0 | h0 | h0 | h0 | h0
  ·refine ru 6 ?_
   first
   | refine a4M 65 2 62 false _ (fun hb=>HOp.val (v':=a0h ((W_::met).count W_:Int)) (a0J a7i (l:=a5H (W_::met)) (a:=W_) rfl rfl (fun _ _ _ h=>h.imm_inv)) (a2h _ _)) rfl rfl rfl rfl (a0D rfl) rfl rfl rfl ?_
   | refine a4d 65 2 62 _ _ false _ (fun hb=>HOp.val (v':=a0h ((W_::met).count W_:Int)) (a0J a7i (l:=a5H (W_::met)) (a:=W_) rfl rfl (fun _ _ _ h=>h.imm_inv)) (a2h _ _)) rfl rfl rfl rfl (a0D rfl) rfl rfl rfl ?_
   refine ru 7 ?_
   refine rvl (a0r true) ((congrArg a0r (by rw [a5e];simp [h0]))) ?_
   refine a4M 73 12 72 false true (v:=.imm undef) (fun h=>absurd h (by decide)) rfl rfl rfl rfl a0e rfl rfl rfl ?_
   refine a4M 74 12 72 false true (v:=.imm undef) (fun h=>absurd h (by decide)) rfl rfl rfl rfl a0e rfl rfl rfl ?_
   refine a4M 75 12 72 false true (v:=.imm undef) (fun h=>absurd h (by decide)) rfl rfl rfl rfl a0e rfl rfl rfl ?_
   refine a4M 76 12 72 false true (v:=.imm undef) (fun h=>absurd h (by decide)) rfl rfl rfl rfl a0e rfl rfl rfl ?_
   refine a4M 77 12 72 false true (v:=.imm undef) (fun h=>absurd h (by decide)) rfl rfl rfl rfl a0e rfl rfl rfl ?_
   refine a4M 78 12 72 false true (v:=.imm undef) (fun h=>absurd h (by decide)) rfl rfl rfl rfl a0e rfl rfl rfl ?_
   refine a4M 79 12 72 false true (v:=.imm undef) (fun h=>absurd h (by decide)) rfl rfl rfl rfl a0e rfl rfl rfl ?_
   refine a4M 80 12 72 false true (v:=.imm undef) (fun h=>absurd h (by decide)) rfl rfl rfl rfl a0e rfl rfl rfl ?_
   refine s0 (b0G rfl rfl) ?_
   refine ru 2 ?_
   refine wdc (fun hr2 hc2=>?_) (fun hr2 hc2=>?_)
   ·skip
    have hbad:=a1R (r:=l.drop (2+i+1)) (met:=met.reverse) (n:=n) hv58 hC_ (.inl h0)
    refine ru 10 ?_
    refine a0f ?_
    refine ru 2 ?_
    refine rt2 ?_
    rw [←ha3,hbad];exact a1H (.agg _ _ _ (by exact q9 (.imm _) (.nil _ _ _ (by decide) _) (.imm _) (.imm _) (.imm _) (.imm _) (.imm _) (.nil _ _ _ (by decide) _) (.imm _))) (.imm _)
   exfalso;simp at hr2
  ·refine ru 6 ?_
   first
   | refine a4M 65 2 62 false _ (fun hb=>HOp.val (v':=a0h ((W_::met).count W_:Int)) (a0J a7i (l:=a5H (W_::met)) (a:=W_) rfl rfl (fun _ _ _ h=>h.imm_inv)) (a2h _ _)) rfl rfl rfl rfl (a0D rfl) rfl rfl rfl ?_
   | refine a4d 65 2 62 _ _ false _ (fun hb=>HOp.val (v':=a0h ((W_::met).count W_:Int)) (a0J a7i (l:=a5H (W_::met)) (a:=W_) rfl rfl (fun _ _ _ h=>h.imm_inv)) (a2h _ _)) rfl rfl rfl rfl (a0D rfl) rfl rfl rfl ?_
   refine ru 7 ?_
   refine rvl (a0r true) ((congrArg a0r (by rw [a5e];simp [h0.2.1,h0.2.2]))) ?_
   refine a4M 73 12 72 false true (v:=.imm undef) (fun h=>absurd h (by decide)) rfl rfl rfl rfl a0e rfl rfl rfl ?_
   refine a4M 74 12 72 false true (v:=.imm undef) (fun h=>absurd h (by decide)) rfl rfl rfl rfl a0e rfl rfl rfl ?_
   refine a4M 75 12 72 false true (v:=.imm undef) (fun h=>absurd h (by decide)) rfl rfl rfl rfl a0e rfl rfl rfl ?_
   refine a4M 76 12 72 false true (v:=.imm undef) (fun h=>absurd h (by decide)) rfl rfl rfl rfl a0e rfl rfl rfl ?_
   refine a4M 77 12 72 false true (v:=.imm undef) (fun h=>absurd h (by decide)) rfl rfl rfl rfl a0e rfl rfl rfl ?_
   refine a4M 78 12 72 false true (v:=.imm undef) (fun h=>absurd h (by decide)) rfl rfl rfl rfl a0e rfl rfl rfl ?_
   refine a4M 79 12 72 false true (v:=.imm undef) (fun h=>absurd h (by decide)) rfl rfl rfl rfl a0e rfl rfl rfl ?_
   refine a4M 80 12 72 false true (v:=.imm undef) (fun h=>absurd h (by decide)) rfl rfl rfl rfl a0e rfl rfl rfl ?_
   refine s0 (b0G rfl rfl) ?_
   refine ru 2 ?_
   refine wdc (fun hr2 hc2=>?_) (fun hr2 hc2=>?_)
   ·skip
    have hbad:=a1R (r:=l.drop (2+i+1)) (met:=met.reverse) (n:=n) hv58 hC_ (.inr (.inl ⟨List.mem_reverse.2 h0.2.1,h0.2.2⟩))
    refine ru 10 ?_
    refine a0f ?_
    refine ru 2 ?_
    refine rt2 ?_
    rw [←ha3,hbad];exact a1H (.agg _ _ _ (by exact q9 (.imm _) (.nil _ _ _ (by decide) _) (.imm _) (.imm _) (.imm _) (.imm _) (.imm _) (.nil _ _ _ (by decide) _) (.imm _))) (.imm _)
   exfalso;simp at hr2
  ·refine ru 6 ?_
   first
   | refine a4M 65 2 62 false _ (fun hb=>HOp.val (v':=a0h ((W_::met).count W_:Int)) (a0J a7i (l:=a5H (W_::met)) (a:=W_) rfl rfl (fun _ _ _ h=>h.imm_inv)) (a2h _ _)) rfl rfl rfl rfl (a0D rfl) rfl rfl rfl ?_
   | refine a4d 65 2 62 _ _ false _ (fun hb=>HOp.val (v':=a0h ((W_::met).count W_:Int)) (a0J a7i (l:=a5H (W_::met)) (a:=W_) rfl rfl (fun _ _ _ h=>h.imm_inv)) (a2h _ _)) rfl rfl rfl rfl (a0D rfl) rfl rfl rfl ?_
   refine ru 7 ?_
   refine rvl (a0r false) ((congrArg a0r (by rw [a5e];have h9:=h0.1;have h8:=h0.2;simp at h9;rw [h8];simpa using h9))) ?_
   refine a3B 73 72 false (a0j (xs:=[]) (a4x) trivial trivial) rfl rfl rfl rfl a0e rfl rfl ?_
   refine a3B 74 72 false (HOp.val (v':=a0h 0) (a2g rfl) ((congrArg a0h h0.2))) rfl rfl rfl rfl a0e rfl rfl ?_
   first
   | refine a3B 75 72 false (a4A el_112.h rfl rfl (by first | exact Nat.le_of_ble_eq_true rfl | (simp at hb;first | omega | (dsimp only;omega) | (simp <;> omega)) | omega | (dsimp only;omega)) (by first | exact Nat.le_of_ble_eq_true rfl | (simp at hb;first | omega | (dsimp only;omega) | (simp <;> omega)) | omega | (dsimp only;omega)) (by first | exact Nat.le_of_ble_eq_true rfl | (simp at hb;first | omega | (dsimp only;omega) | (simp <;> omega)) | omega | (dsimp only;omega))) rfl rfl rfl rfl a0e rfl rfl ?_
   | refine a3B 75 72 false (a3v el_112.h rfl rfl (by first | exact Nat.le_of_ble_eq_true rfl | (simp at hb;first | omega | (dsimp only;omega) | (simp <;> omega)) | omega | (dsimp only;omega)) (by first | exact Nat.le_of_ble_eq_true rfl | (simp at hb;first | omega | (dsimp only;omega) | (simp <;> omega)) | omega | (dsimp only;omega))) rfl rfl rfl rfl (a0D rfl) rfl rfl ?_
   first
   | refine a3B 76 72 false (a5t fd_115_2.h rfl) rfl rfl rfl rfl a0e rfl rfl ?_
   | refine a3B 76 72 false (a2u fd_115_2.h rfl (by first | exact Nat.le_of_ble_eq_true rfl | (simp at hb;first | omega | (dsimp only;omega) | (simp <;> omega)) | omega | (dsimp only;omega))) rfl rfl rfl rfl a0e rfl rfl ?_
   first
   | refine a3B 77 72 false (HOp.val (v':=.fn (.func 85) 0 (fun _=>default)) (a0I ty_113.h rfl (by first | exact Nat.le_of_ble_eq_true rfl | (simp at hb;first | omega | (dsimp only;omega) | (simp <;> omega)) | omega | (dsimp only;omega)) (by first | exact Nat.le_of_ble_eq_true rfl | (simp at hb;first | omega | (dsimp only;omega) | (simp <;> omega)) | omega | (dsimp only;omega)) (fun h=>(by first | rfl | cases h))) (rfl)) rfl rfl rfl rfl (a0D rfl) rfl rfl ?_
   | refine a3B 77 72 false (HOp.val (v':=.fn (.func 85) 0 (fun _=>default)) (a0u ty_113.h rfl (by first | exact Nat.le_of_ble_eq_true rfl | (simp at hb;first | omega | (dsimp only;omega) | (simp <;> omega)) | omega | (dsimp only;omega)) (fun h=>(by first | rfl | cases h))) (rfl)) rfl rfl rfl rfl a0e rfl rfl ?_
   refine a3B 78 72 false (a2g rfl) rfl rfl rfl rfl a0e rfl rfl ?_
   refine a5v 12 72 false rfl rfl ?_
   refine a3Z 79 (xs:=[_,_]) (cs:=[]) (pre:=[(4,_),(8001,_)]) (c4B _ 1 g n V_ hVl ha2) rfl rfl (fun i hi=>by first | rfl | (rcases i with i <;> first | rfl | (exact absurd hi om) | (simp at hi))) ⟨rfl,⟨rfl,trivial⟩⟩ (a0i rfl (a0i rfl a0e)) rfl rfl (fun q c2 hx2=>?_)
   (try dsimp only)
   refine a3B 80 72 false (a7x rfl) rfl rfl rfl rfl a0e rfl rfl ?_
   refine s0 (a4C rfl rfl) ?_
   refine ru 2 ?_
   refine wdc (fun hr2 hc2=>?_) (fun hr2 hc2=>?_)
   ·skip
    have hR:a1r (a2B W_ H_) n V_=((a1r 0 n V_).1,(a1r 0 n V_).2):=(by rw [h0.2];first | done | rfl);have hbad:=a1R (r:=l.drop (2+i+1)) (met:=met.reverse) (n:=n) hv58 hC_ (.inr (.inr (by rw [hR];simpa using hr2)))
    refine ru 10 ?_
    refine a0f ?_
    refine ru 2 ?_
    refine rt2 ?_
    rw [←ha3,hbad];exact a1H (.agg _ _ _ (by exact q9 (.imm _) (.nil _ _ _ (by decide) _) (.imm _) (.imm _) (.imm _) (.imm _) (.imm _) (.nil _ _ _ (by decide) _) (.imm _))) (.imm _)
   have hR:a1r (a2B W_ H_) n V_=((a1r 0 n V_).1,(a1r 0 n V_).2):=(by rw [h0.2];first | done | rfl);have hon:=a1P (r:=l.drop (2+i+1)) (met:=met.reverse) (n:=n) hv58 hC_ (by rw [hR];rintro (h | h | h);(rw [h0.2] at h;omega);exact h0.1 ⟨List.mem_reverse.1 h.1,h.2⟩;(have h9:=hr2;have h8:(a1r 0 n V_).2=false:=h;rw [h8] at h9;cases h9));rw [ha3,hR] at hon
   refine ru 7 ?_
   exact hL1 ((i+1,(a1r 0 n V_).1,W_::met,q,gm)) _ _ (by (try dsimp only);exact ⟨by omega,by unfold a1r;rw [if_pos rfl];split;(simp;omega);exact ha2,by simp [ha4],by rw [List.reverse_cons];exact hon.symm⟩) (by (try dsimp only);omega) (a0c rfl (Nat.le_refl _) (tsr rfl (tsr rfl (tsr rfl (tsr rfl (tsr rfl (tsr rfl (a0M.cons rfl (a1b om) a0M.nil))))))) hsa)
  ·refine ru 6 ?_
   first
   | refine a4M 65 2 62 false _ (fun hb=>HOp.val (v':=a0h ((W_::met).count W_:Int)) (a0J a7i (l:=a5H (W_::met)) (a:=W_) rfl rfl (fun _ _ _ h=>h.imm_inv)) (a2h _ _)) rfl rfl rfl rfl (a0D rfl) rfl rfl rfl ?_
   | refine a4d 65 2 62 _ _ false _ (fun hb=>HOp.val (v':=a0h ((W_::met).count W_:Int)) (a0J a7i (l:=a5H (W_::met)) (a:=W_) rfl rfl (fun _ _ _ h=>h.imm_inv)) (a2h _ _)) rfl rfl rfl rfl (a0D rfl) rfl rfl rfl ?_
   refine ru 7 ?_
   refine rvl (a0r false) ((congrArg a0r (by rw [a5e];have h9:=h0.1;have h8:=h0.2;simp at h9;rw [h8];simpa using h9))) ?_
   refine a3B 73 72 false (a0j (xs:=[]) (a4x) trivial trivial) rfl rfl rfl rfl a0e rfl rfl ?_
   refine a3B 74 72 false (HOp.val (v':=a0h 1) (a2g rfl) ((congrArg a0h h0.2))) rfl rfl rfl rfl a0e rfl rfl ?_
   first
   | refine a3B 75 72 false (a4A el_112.h rfl rfl (by first | exact Nat.le_of_ble_eq_true rfl | (simp at hb;first | omega | (dsimp only;omega) | (simp <;> omega)) | omega | (dsimp only;omega)) (by first | exact Nat.le_of_ble_eq_true rfl | (simp at hb;first | omega | (dsimp only;omega) | (simp <;> omega)) | omega | (dsimp only;omega)) (by first | exact Nat.le_of_ble_eq_true rfl | (simp at hb;first | omega | (dsimp only;omega) | (simp <;> omega)) | omega | (dsimp only;omega))) rfl rfl rfl rfl a0e rfl rfl ?_
   | refine a3B 75 72 false (a3v el_112.h rfl rfl (by first | exact Nat.le_of_ble_eq_true rfl | (simp at hb;first | omega | (dsimp only;omega) | (simp <;> omega)) | omega | (dsimp only;omega)) (by first | exact Nat.le_of_ble_eq_true rfl | (simp at hb;first | omega | (dsimp only;omega) | (simp <;> omega)) | omega | (dsimp only;omega))) rfl rfl rfl rfl (a0D rfl) rfl rfl ?_
   first
   | refine a3B 76 72 false (a5t fd_115_2.h rfl) rfl rfl rfl rfl a0e rfl rfl ?_
   | refine a3B 76 72 false (a2u fd_115_2.h rfl (by first | exact Nat.le_of_ble_eq_true rfl | (simp at hb;first | omega | (dsimp only;omega) | (simp <;> omega)) | omega | (dsimp only;omega))) rfl rfl rfl rfl a0e rfl rfl ?_
   first
   | refine a3B 77 72 false (HOp.val (v':=.fn (.func 86) 0 (fun _=>default)) (a0I ty_113.h rfl (by first | exact Nat.le_of_ble_eq_true rfl | (simp at hb;first | omega | (dsimp only;omega) | (simp <;> omega)) | omega | (dsimp only;omega)) (by first | exact Nat.le_of_ble_eq_true rfl | (simp at hb;first | omega | (dsimp only;omega) | (simp <;> omega)) | omega | (dsimp only;omega)) (fun h=>(by first | rfl | cases h))) (rfl)) rfl rfl rfl rfl (a0D rfl) rfl rfl ?_
   | refine a3B 77 72 false (HOp.val (v':=.fn (.func 86) 0 (fun _=>default)) (a0u ty_113.h rfl (by first | exact Nat.le_of_ble_eq_true rfl | (simp at hb;first | omega | (dsimp only;omega) | (simp <;> omega)) | omega | (dsimp only;omega)) (fun h=>(by first | rfl | cases h))) (rfl)) rfl rfl rfl rfl a0e rfl rfl ?_
   refine a3B 78 72 false (a2g rfl) rfl rfl rfl rfl a0e rfl rfl ?_
   refine a5v 12 72 false rfl rfl ?_
   refine a3Z 79 (xs:=[_,_]) (cs:=[]) (pre:=[(4,_),(8001,_)]) (c1K _ 1 g n V_) rfl rfl (fun i hi=>by first | rfl | (rcases i with i <;> first | rfl | (exact absurd hi om) | (simp at hi))) ⟨rfl,⟨rfl,trivial⟩⟩ (a0i rfl (a0i rfl a0e)) rfl rfl (fun x3 c3 hx3=>?_)
   (try dsimp only)
   refine a3B 80 72 false (a7x rfl) rfl rfl rfl rfl a0e rfl rfl ?_
   refine s0 (a4C rfl rfl) ?_
   refine ru 2 ?_
   refine wdc (fun hr2 hc2=>?_) (fun hr2 hc2=>?_)
   ·skip
    exfalso;simp at hr2
   have hR:a1r (a2B W_ H_) n V_=({ n with inl:=true },true):=(by rw [h0.2];first | done | rfl);have hon:=a1P (r:=l.drop (2+i+1)) (met:=met.reverse) (n:=n) hv58 hC_ (by rw [hR];rintro (h | h | h);(rw [h0.2] at h;omega);exact h0.1 ⟨List.mem_reverse.1 h.1,h.2⟩;cases h);rw [ha3,hR] at hon
   refine ru 7 ?_
   exact hL1 ((i+1,{ n with inl:=true },W_::met,g,gm)) _ _ (by (try dsimp only);exact ⟨by omega,ha2,by simp [ha4],by rw [List.reverse_cons];exact hon.symm⟩) (by (try dsimp only);omega) (a0c rfl (Nat.le_refl _) (tsr rfl (tsr rfl (tsr rfl (tsr rfl (tsr rfl (tsr rfl (a0M.cons rfl (a1b om) a0M.nil))))))) hsa)
  ·refine ru 6 ?_
   first
   | refine a4M 65 2 62 false _ (fun hb=>HOp.val (v':=a0h ((W_::met).count W_:Int)) (a0J a7i (l:=a5H (W_::met)) (a:=W_) rfl rfl (fun _ _ _ h=>h.imm_inv)) (a2h _ _)) rfl rfl rfl rfl (a0D rfl) rfl rfl rfl ?_
   | refine a4d 65 2 62 _ _ false _ (fun hb=>HOp.val (v':=a0h ((W_::met).count W_:Int)) (a0J a7i (l:=a5H (W_::met)) (a:=W_) rfl rfl (fun _ _ _ h=>h.imm_inv)) (a2h _ _)) rfl rfl rfl rfl (a0D rfl) rfl rfl rfl ?_
   refine ru 7 ?_
   refine rvl (a0r false) ((congrArg a0r (by rw [a5e];have h9:=h0.1;have h8:=h0.2;simp at h9;rw [h8];simpa using h9))) ?_
   refine a3B 73 72 false (a0j (xs:=[]) (a4x) trivial trivial) rfl rfl rfl rfl a0e rfl rfl ?_
   refine a3B 74 72 false (HOp.val (v':=a0h 2) (a2g rfl) ((congrArg a0h h0.2))) rfl rfl rfl rfl a0e rfl rfl ?_
   first
   | refine a3B 75 72 false (a4A el_112.h rfl rfl (by first | exact Nat.le_of_ble_eq_true rfl | (simp at hb;first | omega | (dsimp only;omega) | (simp <;> omega)) | omega | (dsimp only;omega)) (by first | exact Nat.le_of_ble_eq_true rfl | (simp at hb;first | omega | (dsimp only;omega) | (simp <;> omega)) | omega | (dsimp only;omega)) (by first | exact Nat.le_of_ble_eq_true rfl | (simp at hb;first | omega | (dsimp only;omega) | (simp <;> omega)) | omega | (dsimp only;omega))) rfl rfl rfl rfl a0e rfl rfl ?_
   | refine a3B 75 72 false (a3v el_112.h rfl rfl (by first | exact Nat.le_of_ble_eq_true rfl | (simp at hb;first | omega | (dsimp only;omega) | (simp <;> omega)) | omega | (dsimp only;omega)) (by first | exact Nat.le_of_ble_eq_true rfl | (simp at hb;first | omega | (dsimp only;omega) | (simp <;> omega)) | omega | (dsimp only;omega))) rfl rfl rfl rfl (a0D rfl) rfl rfl ?_
   first
   | refine a3B 76 72 false (a5t fd_115_2.h rfl) rfl rfl rfl rfl a0e rfl rfl ?_
   | refine a3B 76 72 false (a2u fd_115_2.h rfl (by first | exact Nat.le_of_ble_eq_true rfl | (simp at hb;first | omega | (dsimp only;omega) | (simp <;> omega)) | omega | (dsimp only;omega))) rfl rfl rfl rfl a0e rfl rfl ?_
   first
   | refine a3B 77 72 false (HOp.val (v':=.fn (.func 87) 0 (fun _=>default)) (a0I ty_113.h rfl (by first | exact Nat.le_of_ble_eq_true rfl | (simp at hb;first | omega | (dsimp only;omega) | (simp <;> omega)) | omega | (dsimp only;omega)) (by first | exact Nat.le_of_ble_eq_true rfl | (simp at hb;first | omega | (dsimp only;omega) | (simp <;> omega)) | omega | (dsimp only;omega)) (fun h=>(by first | rfl | cases h))) (rfl)) rfl rfl rfl rfl (a0D rfl) rfl rfl ?_
   | refine a3B 77 72 false (HOp.val (v':=.fn (.func 87) 0 (fun _=>default)) (a0u ty_113.h rfl (by first | exact Nat.le_of_ble_eq_true rfl | (simp at hb;first | omega | (dsimp only;omega) | (simp <;> omega)) | omega | (dsimp only;omega)) (fun h=>(by first | rfl | cases h))) (rfl)) rfl rfl rfl rfl a0e rfl rfl ?_
   refine a3B 78 72 false (a2g rfl) rfl rfl rfl rfl a0e rfl rfl ?_
   refine a5v 12 72 false rfl rfl ?_
   refine a3Z 79 (xs:=[_,_]) (cs:=[]) (pre:=[(4,_),(8001,_)]) (b9g _ 1 g n V_) rfl rfl (fun i hi=>by first | rfl | (rcases i with i <;> first | rfl | (exact absurd hi om) | (simp at hi))) ⟨rfl,⟨rfl,trivial⟩⟩ (a0i rfl (a0i rfl a0e)) rfl rfl (fun x4 c4 hx4=>?_)
   (try dsimp only)
   refine a3B 80 72 false (a7x rfl) rfl rfl rfl rfl a0e rfl rfl ?_
   refine s0 (a4C rfl rfl) ?_
   refine ru 2 ?_
   refine wdc (fun hr2 hc2=>?_) (fun hr2 hc2=>?_)
   ·skip
    exfalso;simp at hr2
   have hR:a1r (a2B W_ H_) n V_=({ n with pick:=true },true):=(by rw [h0.2];first | done | rfl);have hon:=a1P (r:=l.drop (2+i+1)) (met:=met.reverse) (n:=n) hv58 hC_ (by rw [hR];rintro (h | h | h);(rw [h0.2] at h;omega);exact h0.1 ⟨List.mem_reverse.1 h.1,h.2⟩;cases h);rw [ha3,hR] at hon
   refine ru 7 ?_
   exact hL1 ((i+1,{ n with pick:=true },W_::met,g,gm)) _ _ (by (try dsimp only);exact ⟨by omega,ha2,by simp [ha4],by rw [List.reverse_cons];exact hon.symm⟩) (by (try dsimp only);omega) (a0c rfl (Nat.le_refl _) (tsr rfl (tsr rfl (tsr rfl (tsr rfl (tsr rfl (tsr rfl (a0M.cons rfl (a1b om) a0M.nil))))))) hsa)
  ·refine ru 6 ?_
   first
   | refine a4M 65 2 62 false _ (fun hb=>HOp.val (v':=a0h ((W_::met).count W_:Int)) (a0J a7i (l:=a5H (W_::met)) (a:=W_) rfl rfl (fun _ _ _ h=>h.imm_inv)) (a2h _ _)) rfl rfl rfl rfl (a0D rfl) rfl rfl rfl ?_
   | refine a4d 65 2 62 _ _ false _ (fun hb=>HOp.val (v':=a0h ((W_::met).count W_:Int)) (a0J a7i (l:=a5H (W_::met)) (a:=W_) rfl rfl (fun _ _ _ h=>h.imm_inv)) (a2h _ _)) rfl rfl rfl rfl (a0D rfl) rfl rfl rfl ?_
   refine ru 7 ?_
   refine rvl (a0r false) ((congrArg a0r (by rw [a5e];have h9:=h0.1;have h8:=h0.2;simp at h9;rw [h8];simpa using h9))) ?_
   refine a3B 73 72 false (a0j (xs:=[]) (a4x) trivial trivial) rfl rfl rfl rfl a0e rfl rfl ?_
   refine a3B 74 72 false (HOp.val (v':=a0h 3) (a2g rfl) ((congrArg a0h h0.2))) rfl rfl rfl rfl a0e rfl rfl ?_
   first
   | refine a3B 75 72 false (a4A el_112.h rfl rfl (by first | exact Nat.le_of_ble_eq_true rfl | (simp at hb;first | omega | (dsimp only;omega) | (simp <;> omega)) | omega | (dsimp only;omega)) (by first | exact Nat.le_of_ble_eq_true rfl | (simp at hb;first | omega | (dsimp only;omega) | (simp <;> omega)) | omega | (dsimp only;omega)) (by first | exact Nat.le_of_ble_eq_true rfl | (simp at hb;first | omega | (dsimp only;omega) | (simp <;> omega)) | omega | (dsimp only;omega))) rfl rfl rfl rfl a0e rfl rfl ?_
   | refine a3B 75 72 false (a3v el_112.h rfl rfl (by first | exact Nat.le_of_ble_eq_true rfl | (simp at hb;first | omega | (dsimp only;omega) | (simp <;> omega)) | omega | (dsimp only;omega)) (by first | exact Nat.le_of_ble_eq_true rfl | (simp at hb;first | omega | (dsimp only;omega) | (simp <;> omega)) | omega | (dsimp only;omega))) rfl rfl rfl rfl (a0D rfl) rfl rfl ?_
   first
   | refine a3B 76 72 false (a5t fd_115_2.h rfl) rfl rfl rfl rfl a0e rfl rfl ?_
   | refine a3B 76 72 false (a2u fd_115_2.h rfl (by first | exact Nat.le_of_ble_eq_true rfl | (simp at hb;first | omega | (dsimp only;omega) | (simp <;> omega)) | omega | (dsimp only;omega))) rfl rfl rfl rfl a0e rfl rfl ?_
   first
   | refine a3B 77 72 false (HOp.val (v':=.fn (.func 88) 0 (fun _=>default)) (a0I ty_113.h rfl (by first | exact Nat.le_of_ble_eq_true rfl | (simp at hb;first | omega | (dsimp only;omega) | (simp <;> omega)) | omega | (dsimp only;omega)) (by first | exact Nat.le_of_ble_eq_true rfl | (simp at hb;first | omega | (dsimp only;omega) | (simp <;> omega)) | omega | (dsimp only;omega)) (fun h=>(by first | rfl | cases h))) (rfl)) rfl rfl rfl rfl (a0D rfl) rfl rfl ?_
   | refine a3B 77 72 false (HOp.val (v':=.fn (.func 88) 0 (fun _=>default)) (a0u ty_113.h rfl (by first | exact Nat.le_of_ble_eq_true rfl | (simp at hb;first | omega | (dsimp only;omega) | (simp <;> omega)) | omega | (dsimp only;omega)) (fun h=>(by first | rfl | cases h))) (rfl)) rfl rfl rfl rfl a0e rfl rfl ?_
   refine a3B 78 72 false (a2g rfl) rfl rfl rfl rfl a0e rfl rfl ?_
   refine a5v 12 72 false rfl rfl ?_
   refine a3Z 79 (xs:=[_,_]) (cs:=[]) (pre:=[(4,_),(8001,_)]) (c6k _ 1 g n V_ hVl) rfl rfl (fun i hi=>by first | rfl | (rcases i with i <;> first | rfl | (exact absurd hi om) | (simp at hi))) ⟨rfl,⟨rfl,trivial⟩⟩ (a0i rfl (a0i rfl a0e)) rfl rfl (fun x5 c5 hx5=>?_)
   (try dsimp only)
   refine a3B 80 72 false (a7x rfl) rfl rfl rfl rfl a0e rfl rfl ?_
   refine s0 (a4C rfl rfl) ?_
   refine ru 2 ?_
   refine wdc (fun hr2 hc2=>?_) (fun hr2 hc2=>?_)
   ·skip
    have hR:a1r (a2B W_ H_) n V_=({ n with attr:=(a2F V_).getD 0 },(a1g V_).isSome):=(by rw [h0.2];first | done | rfl);have hbad:=a1R (r:=l.drop (2+i+1)) (met:=met.reverse) (n:=n) hv58 hC_ (.inr (.inr (by rw [hR];simpa using hr2)))
    refine ru 10 ?_
    refine a0f ?_
    refine ru 2 ?_
    refine rt2 ?_
    rw [←ha3,hbad];exact a1H (.agg _ _ _ (by exact q9 (.imm _) (.nil _ _ _ (by decide) _) (.imm _) (.imm _) (.imm _) (.imm _) (.imm _) (.nil _ _ _ (by decide) _) (.imm _))) (.imm _)
   have hR:a1r (a2B W_ H_) n V_=({ n with attr:=(a2F V_).getD 0 },(a1g V_).isSome):=(by rw [h0.2];first | done | rfl);have hon:=a1P (r:=l.drop (2+i+1)) (met:=met.reverse) (n:=n) hv58 hC_ (by rw [hR];rintro (h | h | h);(rw [h0.2] at h;omega);exact h0.1 ⟨List.mem_reverse.1 h.1,h.2⟩;(have h9:=hr2;have h8:(a1g V_).isSome=false:=h;rw [h8] at h9;cases h9));rw [ha3,hR] at hon
   refine ru 7 ?_
   exact hL1 ((i+1,{ n with attr:=(a2F V_).getD 0 },W_::met,g,gm)) _ _ (by (try dsimp only);exact ⟨by omega,ha2,by simp [ha4],by rw [List.reverse_cons];exact hon.symm⟩) (by (try dsimp only);omega) (a0c rfl (Nat.le_refl _) (tsr rfl (tsr rfl (tsr rfl (tsr rfl (tsr rfl (tsr rfl (a0M.cons rfl (a1b om) a0M.nil))))))) hsa)
  ·refine ru 6 ?_
   first
   | refine a4M 65 2 62 false _ (fun hb=>HOp.val (v':=a0h ((W_::met).count W_:Int)) (a0J a7i (l:=a5H (W_::met)) (a:=W_) rfl rfl (fun _ _ _ h=>h.imm_inv)) (a2h _ _)) rfl rfl rfl rfl (a0D rfl) rfl rfl rfl ?_
   | refine a4d 65 2 62 _ _ false _ (fun hb=>HOp.val (v':=a0h ((W_::met).count W_:Int)) (a0J a7i (l:=a5H (W_::met)) (a:=W_) rfl rfl (fun _ _ _ h=>h.imm_inv)) (a2h _ _)) rfl rfl rfl rfl (a0D rfl) rfl rfl rfl ?_
   refine ru 7 ?_
   refine rvl (a0r false) ((congrArg a0r (by rw [a5e];have h9:=h0.1;have h8:=h0.2;simp at h9;rw [h8];simpa using h9))) ?_
   refine a3B 73 72 false (a0j (xs:=[]) (a4x) trivial trivial) rfl rfl rfl rfl a0e rfl rfl ?_
   refine a3B 74 72 false (HOp.val (v':=a0h 4) (a2g rfl) ((congrArg a0h h0.2))) rfl rfl rfl rfl a0e rfl rfl ?_
   first
   | refine a3B 75 72 false (a4A el_112.h rfl rfl (by first | exact Nat.le_of_ble_eq_true rfl | (simp at hb;first | omega | (dsimp only;omega) | (simp <;> omega)) | omega | (dsimp only;omega)) (by first | exact Nat.le_of_ble_eq_true rfl | (simp at hb;first | omega | (dsimp only;omega) | (simp <;> omega)) | omega | (dsimp only;omega)) (by first | exact Nat.le_of_ble_eq_true rfl | (simp at hb;first | omega | (dsimp only;omega) | (simp <;> omega)) | omega | (dsimp only;omega))) rfl rfl rfl rfl a0e rfl rfl ?_
   | refine a3B 75 72 false (a3v el_112.h rfl rfl (by first | exact Nat.le_of_ble_eq_true rfl | (simp at hb;first | omega | (dsimp only;omega) | (simp <;> omega)) | omega | (dsimp only;omega)) (by first | exact Nat.le_of_ble_eq_true rfl | (simp at hb;first | omega | (dsimp only;omega) | (simp <;> omega)) | omega | (dsimp only;omega))) rfl rfl rfl rfl (a0D rfl) rfl rfl ?_
   first
   | refine a3B 76 72 false (a5t fd_115_2.h rfl) rfl rfl rfl rfl a0e rfl rfl ?_
   | refine a3B 76 72 false (a2u fd_115_2.h rfl (by first | exact Nat.le_of_ble_eq_true rfl | (simp at hb;first | omega | (dsimp only;omega) | (simp <;> omega)) | omega | (dsimp only;omega))) rfl rfl rfl rfl a0e rfl rfl ?_
   first
   | refine a3B 77 72 false (HOp.val (v':=.fn (.func 89) 0 (fun _=>default)) (a0I ty_113.h rfl (by first | exact Nat.le_of_ble_eq_true rfl | (simp at hb;first | omega | (dsimp only;omega) | (simp <;> omega)) | omega | (dsimp only;omega)) (by first | exact Nat.le_of_ble_eq_true rfl | (simp at hb;first | omega | (dsimp only;omega) | (simp <;> omega)) | omega | (dsimp only;omega)) (fun h=>(by first | rfl | cases h))) (rfl)) rfl rfl rfl rfl (a0D rfl) rfl rfl ?_
   | refine a3B 77 72 false (HOp.val (v':=.fn (.func 89) 0 (fun _=>default)) (a0u ty_113.h rfl (by first | exact Nat.le_of_ble_eq_true rfl | (simp at hb;first | omega | (dsimp only;omega) | (simp <;> omega)) | omega | (dsimp only;omega)) (fun h=>(by first | rfl | cases h))) (rfl)) rfl rfl rfl rfl a0e rfl rfl ?_
   refine a3B 78 72 false (a2g rfl) rfl rfl rfl rfl a0e rfl rfl ?_
   refine a5v 12 72 false rfl rfl ?_
   refine a3Z 79 (xs:=[_,_]) (cs:=[]) (pre:=[(4,_),(8001,_)]) (c4h _ 1 g n V_ hVl) rfl rfl (fun i hi=>by first | rfl | (rcases i with i <;> first | rfl | (exact absurd hi om) | (simp at hi))) ⟨rfl,⟨rfl,trivial⟩⟩ (a0i rfl (a0i rfl a0e)) rfl rfl (fun x6 c6 hx6=>?_)
   (try dsimp only)
   refine a3B 80 72 false (a7x rfl) rfl rfl rfl rfl a0e rfl rfl ?_
   refine s0 (a4C rfl rfl) ?_
   refine ru 2 ?_
   refine wdc (fun hr2 hc2=>?_) (fun hr2 hc2=>?_)
   ·skip
    have hR:a1r (a2B W_ H_) n V_=({ n with all:=((a0G V_).getD (false,[])).1,marks:=((a0G V_).getD (false,[])).2 },(a0G V_).isSome):=(by rw [h0.2];first | done | rfl);have hbad:=a1R (r:=l.drop (2+i+1)) (met:=met.reverse) (n:=n) hv58 hC_ (.inr (.inr (by rw [hR];simpa using hr2)))
    refine ru 10 ?_
    refine a0f ?_
    refine ru 2 ?_
    refine rt2 ?_
    rw [←ha3,hbad];exact a1H (.agg _ _ _ (by exact q9 (.imm _) (.nil _ _ _ (by decide) _) (.imm _) (.imm _) (.imm _) (.imm _) (.imm _) (.nil _ _ _ (by decide) _) (.imm _))) (.imm _)
   have hR:a1r (a2B W_ H_) n V_=({ n with all:=((a0G V_).getD (false,[])).1,marks:=((a0G V_).getD (false,[])).2 },(a0G V_).isSome):=(by rw [h0.2];first | done | rfl);have hon:=a1P (r:=l.drop (2+i+1)) (met:=met.reverse) (n:=n) hv58 hC_ (by rw [hR];rintro (h | h | h);(rw [h0.2] at h;omega);exact h0.1 ⟨List.mem_reverse.1 h.1,h.2⟩;(have h9:=hr2;have h8:(a0G V_).isSome=false:=h;rw [h8] at h9;cases h9));rw [ha3,hR] at hon
   refine ru 7 ?_
   exact hL1 ((i+1,{ n with all:=((a0G V_).getD (false,[])).1,marks:=((a0G V_).getD (false,[])).2 },W_::met,g,gm)) _ _ (by (try dsimp only);exact ⟨by omega,ha2,by simp [ha4],by rw [List.reverse_cons];exact hon.symm⟩) (by (try dsimp only);omega) (a0c rfl (Nat.le_refl _) (tsr rfl (tsr rfl (tsr rfl (tsr rfl (tsr rfl (tsr rfl (a0M.cons rfl (a1b om) a0M.nil))))))) hsa)
 rw [List.drop_of_length_le (show l.length≤2+i by omega)] at ha3
 refine ru 2 ?_
 refine a0d ?_
 refine ru 10 ?_
 refine a5q rfl (a0W rfl rfl ty_46.h rqc rfl rfl) (a0q rfl) [(8001,_)] rfl (a0i rfl a0e) ?_
 rw [←ha3];exact a1H (.agg _ _ _ (by exact q9 (.imm _) (a1N (l:=n.groups) (enc:=fun x _=>a0n x) (d:=[]) (List.mem_cons_self ..) rfl rfl (Nat.le_refl _) (fun i j hi hj=>.imm _)) (.imm _) (.imm _) (.imm _) (.imm _) (.imm _) (show Fz _ (a0S n.marks) (a0S n.marks) from .sl _ _ _ _ fun _ _ _ _=>.imm _) (.imm _))) (.imm _)
@[reducible] def a7o (m:Mk):Nat→HV:=fun j=>match j with
 | 0=>a0n m.name
 | 1=>a0h m.val
 | 2=>a0r m.all
 | _=>a0S m.bars
@[reducible] def mkV (m:Mk):HV:=.agg 4 (a7o m)
@[reducible] def c8l (x:Mk×Bool):HV:=t2 (mkV x.1) (a0r x.2)
@[reducible] def zMk (s:Bs):Nat→HV:=fun j=>match j with
 | 0=>a0n s
 | 1=>a0h 0
 | 2=>a0r false
 | _=>.imm (.slice none 0 0)
@[reducible] def c8A (g:Nat) (m:Mk):HObj:=⟨g,1,4,58,0,fun _=>a7o m⟩
theorem qm4 {p:Nat→Prop} (h0:p 0) (h1:p 1) (h2:p 2) (h3:p 3):∀ j,j < 4→p j:=fun j hj=>by
 match j,hj with
 | 0,_=>exact h0
 | 1,_=>exact h1
 | 2,_=>exact h2
 | 3,_=>exact h3
theorem b1K {g ty fl:Nat} {f f':Nat→Nat→HV} (h:∀ j,j < 4→Sb (f 0 j) (f' 0 j)) (hfn:fl≤1:=by exact Nat.zero_le _):a6c ⟨g,1,4,ty,fl,f⟩ ⟨g,1,4,ty,fl,f'⟩:=.of (hfn:=hfn) fun i j hi hj=>by
 obtain rfl:i=0:=by omega
 exact h j hj
theorem a3Y {w:Bs} {r met:List Bs} {m:Mk} {W V:Bs} {H:Bool} (hc:a3q 61 w=(W,V,H)) (h:H=false∨(a2s W m V).2=false∨W∈met):a5Z (w::r) met m=(Mk.zero,false):=by
 show (if _ then _ else _)=_
 rw [hc,if_pos h]
theorem a5J {w:Bs} {r met:List Bs} {m:Mk} {W V:Bs} {H:Bool} (hc:a3q 61 w=(W,V,H)) (h:¬ (H=false∨(a2s W m V).2=false∨W∈met)):a5Z (w::r) met m=a5Z r (met++[W]) (a2s W m V).1:=by
 show (if _ then _ else _)=_
 rw [hc,if_neg h]
theorem c6K (l:List Bs) (hl:2≤l.length∧l.length≤100000) (hw:∀ w∈l,w.length≤100000):a0p Tryz.prog 41 [a0S l] (c8l (a3V l)):=by
 refine a0m Tryz.func41 rfl kr _ _ _ rfl 68 rfl rfl (fun w F=>?_)
 refine ru 11 ?_
 refine rvl (a0n (l.getD 1 [])) (rfl) ?_
 refine ru 7 ?_
 refine a0s 16 (a9h (id:=16)) rfl rfl a0e rfl rfl (c':=4) rfl ?_
 refine ru 13 ?_
 refine a0o (α:=Nat×Mk×List Bs×Nat) (fun x c=>⟨68,[(0,.v (a0S l)),(2,.v (.pt 2 0 0 0)),(4,.v (.pt 4 1 0 0)),(5,.v (.mp 16 x.2.2.2)),(18,.v (c5V l)),(19,.v (a0h ((l.length - 2:Nat):Int))),(20,.v (a0h (x.1:Int)))],[(2,⟨0,1,4,58,0,fun _=>zMk []⟩),(4,c8A 1 x.2.1),(16,b5n x.2.2.2 (encL (fun x=>Value.string ⟨x.toArray⟩) (a5H x.2.2.1)))],c⟩) (fun x=>x.1≤l.length - 2∧x.2.2.1.length=x.1∧a5Z (l.drop (2+x.1)) x.2.2.1.reverse x.2.1=a3V l) (fun x=>l.length - x.1) ((0,⟨l.getD 1 [],0,false,[]⟩,[],3)) (by exact ⟨Nat.zero_le _,rfl,rfl⟩) (a0c rfl (Nat.le_refl _) (tsr rfl (tsr rfl (tsr rfl (tsr rfl (a0M.cons rfl (by rw [show ((l.length:Int) - 2).toNat=l.length - 2 by omega];exact .refl _) (a0M.cons rfl (a1b om) tsa)))))) (a0k.cons rfl (b1K (by exact qm4 (.refl _) (.refl _) (.refl _) (.refl _))) (a0k.cons rfl (b1K (by exact qm4 (.refl _) (.refl _) (.refl _) (.nil _ _ _ (by decide) _))) hsa))) (fun x c hx NhL1 hL1=>?_)
 revert hx hL1;obtain ⟨i,m,met,gm⟩:=x;intro hx hL1;dsimp only at hx hL1 ⊢
 obtain ⟨ha1,ha4,ha3⟩:=hx
 refine ru 6 ?_
 refine wdc (fun hr0 hc0=>?_) (fun hr0 hc0=>?_)
 ·skip
  have hil:2+i < l.length:=om;obtain ⟨v_,hv_⟩:∃ v_,l.getD (2+i) []=v_:=⟨_,rfl⟩;have hd_:l.drop (2+i)=v_::l.drop (2+i+1):=(by rw [List.drop_eq_getElem_cons hil,←hv_,List.getD_eq_getElem?_getD,List.getElem?_eq_getElem hil];rfl);have hvl:v_.length≤1000000:=(by have:=hw v_ (by rw [←hv_];exact a2q hil);omega);rw [hd_] at ha3;obtain ⟨⟨W_,V_,H_⟩,hC_⟩:∃ q,a3q 61 v_=q:=⟨_,rfl⟩;have hcut:a0p Tryz.prog 57 [a0n v_,a0n [61]] (c5B (W_,V_,H_)):=(by rw [←hC_];exact c6l v_ 61 hvl);have hmc:met.count W_≤met.length:=List.count_le_length;have hVl:V_.length≤1000000:=(by have:=a3C 61 v_;rw [hC_] at this;have h9:V_.length≤v_.length:=this;omega)
  refine ru 8 ?_
  refine rvl (a0n v_) ((by rw [←hv_];show a0n (l.getD (2+((i:Nat):Int).toNat) [])=_;rw [show ((i:Nat):Int).toNat=i by omega])) ?_
  refine ru 6 ?_
  refine cll (hcut) ?_
  refine ru 27 ?_
  refine wdc (fun hr1 hc1=>?_) (fun hr1 hc1=>?_)
  ·skip
   have hWv:W_=a6t:=(by simpa using hr1)
   refine ru 2 ?_
   refine cll (b9p V_ hVl) ?_
   refine ru 13 ?_
   refine st1 (HOp.val (v':=a0h (met.count W_:Int)) (a0J a7i (l:=a5H met) (a:=W_) rfl rfl (fun _ _ _ h=>h.imm_inv)) (a2h _ _)) rfl rfl rfl ?_
   refine ru 1 ?_
   refine b6Y (a3G a7i (l:=a5H met) (a:=W_) (v:=.int .i64 ((met.count W_:Int)+1)) rfl rfl (fun _ _ _ h=>h.imm_inv) rfl) rfl rfl (a0D rfl) (c':=c+2) rfl ?_
   refine ru 13 ?_
   first
   | refine a4M 62 6 59 false _ (fun hb=>HOp.val (v':=a0h ((W_::met).count W_:Int)) (a0J a7i (l:=a5H (W_::met)) (a:=W_) rfl rfl (fun _ _ _ h=>h.imm_inv)) (a2h _ _)) rfl rfl rfl rfl (a0D rfl) rfl rfl rfl ?_
   | refine a4d 62 6 59 _ _ false _ (fun hb=>HOp.val (v':=a0h ((W_::met).count W_:Int)) (a0J a7i (l:=a5H (W_::met)) (a:=W_) rfl rfl (fun _ _ _ h=>h.imm_inv)) (a2h _ _)) rfl rfl rfl rfl (a0D rfl) rfl rfl rfl ?_
   refine ru 4 ?_
   refine wdc (fun hr3 hc3=>?_) (fun hr3 hc3=>?_)
   ·skip
    have hR:a2s W_ m V_=({ m with val:=(a2F V_).getD 0 },(a1g V_).isSome):=(by unfold a2s;rw [if_pos hWv]);have hcg:(1 < ((W_::met).count W_:Int))↔W_∈met:=(by have:=a5e W_ met;simpa using this);have hbad:=a3Y (r:=l.drop (2+i+1)) (met:=met.reverse) (m:=m) hC_ (by rw [hR];have h9:=hc3;rw [hcg] at h9;rcases h9 with (h | h) | h;exact .inl h;exact .inr (.inl h);exact .inr (.inr (List.mem_reverse.2 h)))
    refine ru 10 ?_
    refine a0f ?_
    refine ru 2 ?_
    refine rt2 ?_
    rw [←ha3,hbad];exact a1H (.agg _ _ _ (by exact qm4 (.imm _) (.imm _) (.imm _) (.nil _ _ _ (by decide) _))) (.imm _)
   have hR:a2s W_ m V_=({ m with val:=(a2F V_).getD 0 },(a1g V_).isSome):=(by unfold a2s;rw [if_pos hWv]);have hcg:(1 < ((W_::met).count W_:Int))↔W_∈met:=(by have:=a5e W_ met;simpa using this);have hon:=a5J (r:=l.drop (2+i+1)) (met:=met.reverse) (m:=m) hC_ (by rw [hR];have h9:=hc3;rw [hcg] at h9;obtain ⟨⟨b1,b2⟩,b3⟩:=h9;rintro (h | h | h);(rw [h] at b1;cases b1);(have h8:(a1g V_).isSome=false:=h;rw [h8] at b2;cases b2);exact b3 (List.mem_reverse.1 h));rw [ha3,hR] at hon
   refine ru 7 ?_
   exact hL1 ((i+1,{ m with val:=(a2F V_).getD 0 },W_::met,gm)) _ _ (by (try dsimp only);exact ⟨by omega,by simp [ha4],by rw [List.reverse_cons];exact hon.symm⟩) (by (try dsimp only);omega) (a0c rfl (Nat.le_refl _) (tsr rfl (tsr rfl (tsr rfl (tsr rfl (tsr rfl (tsr rfl (a0M.cons rfl (a1b om) a0M.nil))))))) (hsr rfl (a0k.cons rfl (b1K (by exact qm4 (.refl _) (.refl _) (.refl _) (.refl _))) hsa)))
  have hWv:W_≠a6t:=(by simpa using hr1)
  refine ru 6 ?_
  refine wdc (fun hr2 hc2=>?_) (fun hr2 hc2=>?_)
  ·skip
   have hWb:W_=a2i:=(by simpa using hr2)
   refine ru 2 ?_
   refine cll (c3h V_ hVl) ?_
   refine ru 16 ?_
   refine st1 (HOp.val (v':=a0h (met.count W_:Int)) (a0J a7i (l:=a5H met) (a:=W_) rfl rfl (fun _ _ _ h=>h.imm_inv)) (a2h _ _)) rfl rfl rfl ?_
   refine ru 1 ?_
   refine b6Y (a3G a7i (l:=a5H met) (a:=W_) (v:=.int .i64 ((met.count W_:Int)+1)) rfl rfl (fun _ _ _ h=>h.imm_inv) rfl) rfl rfl (a0D rfl) (c':=c+3) rfl ?_
   refine ru 13 ?_
   first
   | refine a4M 62 6 59 false _ (fun hb=>HOp.val (v':=a0h ((W_::met).count W_:Int)) (a0J a7i (l:=a5H (W_::met)) (a:=W_) rfl rfl (fun _ _ _ h=>h.imm_inv)) (a2h _ _)) rfl rfl rfl rfl (a0D rfl) rfl rfl rfl ?_
   | refine a4d 62 6 59 _ _ false _ (fun hb=>HOp.val (v':=a0h ((W_::met).count W_:Int)) (a0J a7i (l:=a5H (W_::met)) (a:=W_) rfl rfl (fun _ _ _ h=>h.imm_inv)) (a2h _ _)) rfl rfl rfl rfl (a0D rfl) rfl rfl rfl ?_
   refine ru 4 ?_
   refine wdc (fun hr3 hc3=>?_) (fun hr3 hc3=>?_)
   ·skip
    have hR:a2s W_ m V_=({ m with all:=((a0G V_).getD (false,[])).1,bars:=((a0G V_).getD (false,[])).2 },(a0G V_).isSome):=(by unfold a2s;rw [if_neg hWv,if_pos hWb]);have hcg:(1 < ((W_::met).count W_:Int))↔W_∈met:=(by have:=a5e W_ met;simpa using this);have hbad:=a3Y (r:=l.drop (2+i+1)) (met:=met.reverse) (m:=m) hC_ (by rw [hR];have h9:=hc3;rw [hcg] at h9;rcases h9 with (h | h) | h;exact .inl h;exact .inr (.inl h);exact .inr (.inr (List.mem_reverse.2 h)))
    refine ru 10 ?_
    refine a0f ?_
    refine ru 2 ?_
    refine rt2 ?_
    rw [←ha3,hbad];exact a1H (.agg _ _ _ (by exact qm4 (.imm _) (.imm _) (.imm _) (.nil _ _ _ (by decide) _))) (.imm _)
   have hR:a2s W_ m V_=({ m with all:=((a0G V_).getD (false,[])).1,bars:=((a0G V_).getD (false,[])).2 },(a0G V_).isSome):=(by unfold a2s;rw [if_neg hWv,if_pos hWb]);have hcg:(1 < ((W_::met).count W_:Int))↔W_∈met:=(by have:=a5e W_ met;simpa using this);have hon:=a5J (r:=l.drop (2+i+1)) (met:=met.reverse) (m:=m) hC_ (by rw [hR];have h9:=hc3;rw [hcg] at h9;obtain ⟨⟨b1,b2⟩,b3⟩:=h9;rintro (h | h | h);(rw [h] at b1;cases b1);(have h8:(a0G V_).isSome=false:=h;rw [h8] at b2;cases b2);exact b3 (List.mem_reverse.1 h));rw [ha3,hR] at hon
   refine ru 7 ?_
   exact hL1 ((i+1,{ m with all:=((a0G V_).getD (false,[])).1,bars:=((a0G V_).getD (false,[])).2 },W_::met,gm)) _ _ (by (try dsimp only);exact ⟨by omega,by simp [ha4],by rw [List.reverse_cons];exact hon.symm⟩) (by (try dsimp only);omega) (a0c rfl (Nat.le_refl _) (tsr rfl (tsr rfl (tsr rfl (tsr rfl (tsr rfl (tsr rfl (a0M.cons rfl (a1b om) a0M.nil))))))) (hsr rfl (a0k.cons rfl (b1K (by exact qm4 (.refl _) (.refl _) (.refl _) (.refl _))) hsa)))
  have hWb:W_≠a2i:=(by simpa using hr2)
  refine ru 7 ?_
  refine st1 (HOp.val (v':=a0h (met.count W_:Int)) (a0J a7i (l:=a5H met) (a:=W_) rfl rfl (fun _ _ _ h=>h.imm_inv)) (a2h _ _)) rfl rfl rfl ?_
  refine ru 1 ?_
  refine b6Y (a3G a7i (l:=a5H met) (a:=W_) (v:=.int .i64 ((met.count W_:Int)+1)) rfl rfl (fun _ _ _ h=>h.imm_inv) rfl) rfl rfl (a0D rfl) (c':=c+1) rfl ?_
  refine ru 13 ?_
  first
  | refine a4M 62 6 59 false _ (fun hb=>HOp.val (v':=a0h ((W_::met).count W_:Int)) (a0J a7i (l:=a5H (W_::met)) (a:=W_) rfl rfl (fun _ _ _ h=>h.imm_inv)) (a2h _ _)) rfl rfl rfl rfl (a0D rfl) rfl rfl rfl ?_
  | refine a4d 62 6 59 _ _ false _ (fun hb=>HOp.val (v':=a0h ((W_::met).count W_:Int)) (a0J a7i (l:=a5H (W_::met)) (a:=W_) rfl rfl (fun _ _ _ h=>h.imm_inv)) (a2h _ _)) rfl rfl rfl rfl (a0D rfl) rfl rfl rfl ?_
  refine ru 4 ?_
  refine wdc (fun hr3 hc3=>?_) (fun hr3 hc3=>?_)
  ·skip
   have hR:a2s W_ m V_=(m,false):=(by unfold a2s;rw [if_neg hWv,if_neg hWb]);have hcg:(1 < ((W_::met).count W_:Int))↔W_∈met:=(by have:=a5e W_ met;simpa using this);have hbad:=a3Y (r:=l.drop (2+i+1)) (met:=met.reverse) (m:=m) hC_ (by rw [hR];exact .inr (.inl rfl))
   refine ru 10 ?_
   refine a0f ?_
   refine ru 2 ?_
   refine rt2 ?_
   rw [←ha3,hbad];exact a1H (.agg _ _ _ (by exact qm4 (.imm _) (.imm _) (.imm _) (.nil _ _ _ (by decide) _))) (.imm _)
  exfalso;simp at hr3
 rw [List.drop_of_length_le (show l.length≤2+i by omega)] at ha3
 refine ru 2 ?_
 refine a0d ?_
 refine ru 10 ?_
 refine rt2 ?_
 rw [←ha3];exact a1H (.agg _ _ _ (by exact qm4 (.imm _) (.imm _) (.imm _) (show Fz _ (a0S m.bars) (a0S m.bars) from .sl _ _ _ _ fun _ _ _ _=>.imm _))) (.imm _)
@[reducible] def b8r (l:List Nd):Nat→Nat→HV:=fun i=>a7I (l.getD i default)
@[reducible] def c0S (g:Nat) (l:List Nd):HObj:=⟨g,l.length,9,46,0,b8r l⟩
@[reducible] def c0s (l:List Mk):Nat→Nat→HV:=fun i=>a7o (l.getD i default)
@[reducible] def c0R (g:Nat) (l:List Mk):HObj:=⟨g,l.length,4,58,0,c0s l⟩
theorem a4U {sh:List (Nat×HObj)} (n:Nd):∀ j,j < 9→Fz sh (a7I n j) (a7I n j):=by
 exact q9 (.imm _) (.sl _ _ _ _ fun _ _ _ _=>.imm _) (.imm _) (.imm _) (.imm _) (.imm _) (.imm _) (.sl _ _ _ _ fun _ _ _ _=>.imm _) (.imm _)
theorem a4N {sh:List (Nat×HObj)} (m:Mk):∀ j,j < 4→Fz sh (a7o m j) (a7o m j):=by
 exact qm4 (.imm _) (.imm _) (.imm _) (.sl _ _ _ _ fun _ _ _ _=>.imm _)
theorem a8t {kp sh:List (Nat×HObj)} {g:Nat} {n:Nd}:OKz kp sh ⟨g,1,9,46,0,fun _=>a7I n⟩ ⟨g,1,9,46,0,fun _=>a7I n⟩:=.of fun i j hi hj=>.fz _ _ (a4U n j hj)
theorem a2z {kp sh:List (Nat×HObj)} {g:Nat} {l:List Nd}:OKz kp sh (c0S g l) (c0S g l):=.of fun i j hi hj=>.fz _ _ (a4U _ j hj)
theorem c3L (c g5:Nat) (o n:Nd):a3n Tryz.prog 40 c ([.agg 9 (a7I o)]++[.pt 5 g5 0 0]) [(5,⟨g5,1,9,46,0,fun _=>a7I n⟩)] (a5h (fun (_:Unit) _=>True) (fun _=>a0r (decide (o.name=n.name))) (fun _=>[(5,⟨g5,1,9,46,0,fun _=>a7I n⟩)])):=by
 show a3n _ _ _ [.agg 9 (a7I o),.pt 5 g5 0 0] _ _
 refine a0t Tryz.func40 rfl kr _ _ _ _ rfl 9 rfl rfl (fun X ok hX=>?_)
 refine ru 17 ?_
 refine fr1 ok hX rw1 (()) (trivial) (kza) ?_
 exact ⟨⟨_,rfl,a8t⟩,trivial⟩
theorem c1D (g g5:Nat) (l:List Nd) (n:Nd) (hl:l.length≤100000):a5X Tryz.prog 61 [.os 8101 g 0 l.length,.fn (.func 40) 1 (fun i=>[HV.pt 5 g5 0 0].getD i default)] [(8101,c0S g l),(5,⟨g5,1,9,46,0,fun _=>a7I n⟩)] (a0h (c1y (fun o=>decide (o.name=n.name)) l)) [(8101,c0S g l),(5,⟨g5,1,9,46,0,fun _=>a7I n⟩)]:=by
 intro c
 refine a0t Tryz.func61 rfl kr _ _ _ _ rfl 19 rfl rfl (fun X ok hX=>?_)
 refine ru 14 ?_
 refine a0o (α:=Nat) (fun x c=>⟨19,[(0,.v (.os 8101 g 0 l.length)),(1,.v (.fn (.func 40) 1 (fun i=>[HV.pt 5 g5 0 0].getD i default))),(7,.v (a0h l.length)),(8,.v (a0h x))],[(8101,c0S g l),(5,⟨g5,1,9,46,0,fun _=>a7I n⟩)],c⟩) (fun x=>x≤l.length∧∀ i,i < x→decide ((l.getD i default).name=n.name)=false) (fun x=>l.length - x) (0) (by exact ⟨Nat.zero_le _,fun i h=>absurd h (Nat.not_lt_zero _)⟩) (a0c rfl (Nat.le_refl _) tsa hsa) (fun k c hx NhL1 hL1=>?_)
 (try dsimp only at hx hL1 ⊢)
 obtain ⟨hk,hE⟩:=hx
 refine ru 6 ?_
 refine wdc (fun hr0 hc0=>?_) (fun hr0 hc0=>?_)
 ·refine ru 17 ?_
  refine rvl (.agg 9 (a7I (l.getD k default))) ((by simp only [Nat.zero_add];rfl)) ?_
  refine a3Z 16 (xs:=[_]) (cs:=[_]) (pre:=[(5,_)]) (c3L _ g5 (l.getD k default) n) rfl rfl (fun i hi=>by first | rfl | (rcases i with _ | i <;> first | rfl | (exact absurd hi om) | (simp at hi))) ⟨rfl,trivial⟩ (a0i rfl a0e) rfl rfl (fun x1 c1 hx1=>?_)
  (try dsimp only)
  refine ru 2 ?_
  refine wdc (fun hr1 hc1=>?_) (fun hr1 hc1=>?_)
  ·refine ru 9 ?_
   refine a0f ?_
   refine ru 2 ?_
   refine fr1 ok hX rw1 (()) (trivial) (by rw [a4i (d:=default) om hr1 hE];exact kza) ?_
   exact ⟨⟨_,rfl,a2z⟩,⟨⟨_,rfl,a8t⟩,trivial⟩⟩
  refine ru 7 ?_
  exact hL1 (k+1) _ _ (by (try dsimp only);exact ⟨by omega,fun i hi=>by by_cases e:i=k;(subst e;exact hr1);exact hE i om⟩) (by (try dsimp only);omega) (a0c rfl (Nat.le_refl _) (tsr rfl (tsr rfl (tsr rfl (a0M.cons rfl (a1b om) a0M.nil)))) hsa)
 refine ru 2 ?_
 refine a0d ?_
 refine ru 8 ?_
 refine fr1 ok hX rw1 (()) (trivial) (by rw [a6V (d:=default) (fun i hi=>hE i om)];exact kza) ?_
 exact ⟨⟨_,rfl,a2z⟩,⟨⟨_,rfl,a8t⟩,trivial⟩⟩
theorem c3c (g g5:Nat) (l:List Nd) (n:Nd) (hl:l.length≤100000):a5X Tryz.prog 39 [.os 8101 g 0 l.length,.fn (.func 40) 1 (fun i=>[HV.pt 5 g5 0 0].getD i default)] [(8101,c0S g l),(5,⟨g5,1,9,46,0,fun _=>a7I n⟩)] (a0r (l.any fun o=>decide (o.name=n.name))) [(8101,c0S g l),(5,⟨g5,1,9,46,0,fun _=>a7I n⟩)]:=by
 intro c
 refine a0t Tryz.func39 rfl kr _ _ _ _ rfl 9 rfl rfl (fun X ok hX=>?_)
 refine ru 9 ?_
 refine a0l 7 (xs:=[_,_]) (pre:=[(8101,_),(5,_)]) (c1D g g5 l n hl _) ⟨rfl,⟨rfl,trivial⟩⟩ (a0i rfl (a0i rfl a0e)) rfl rfl (fun u c1 hx1=>?_)
 (try dsimp only)
 refine ru 5 ?_
 refine fr1 ok hX rw1 (()) (trivial) (by rw [←b4S];exact kza) ?_
 exact ⟨⟨_,rfl,a2z⟩,⟨⟨_,rfl,a8t⟩,trivial⟩⟩
theorem a8w {kp sh:List (Nat×HObj)} {g:Nat} {n:Mk}:OKz kp sh ⟨g,1,4,58,0,fun _=>a7o n⟩ ⟨g,1,4,58,0,fun _=>a7o n⟩:=.of fun i j hi hj=>.fz _ _ (a4N n j hj)
theorem a2w {kp sh:List (Nat×HObj)} {g:Nat} {l:List Mk}:OKz kp sh (c0R g l) (c0R g l):=.of fun i j hi hj=>.fz _ _ (a4N _ j hj)
theorem c4P (c g5:Nat) (o n:Mk):a3n Tryz.prog 43 c ([.agg 4 (a7o o)]++[.pt 7 g5 0 0]) [(7,⟨g5,1,4,58,0,fun _=>a7o n⟩)] (a5h (fun (_:Unit) _=>True) (fun _=>a0r (decide (o.name=n.name))) (fun _=>[(7,⟨g5,1,4,58,0,fun _=>a7o n⟩)])):=by
 show a3n _ _ _ [.agg 4 (a7o o),.pt 7 g5 0 0] _ _
 refine a0t Tryz.func43 rfl kr _ _ _ _ rfl 9 rfl rfl (fun X ok hX=>?_)
 refine ru 17 ?_
 refine fr1 ok hX rw1 (()) (trivial) (kza) ?_
 exact ⟨⟨_,rfl,a8w⟩,trivial⟩
theorem c1Q (g g5:Nat) (l:List Mk) (n:Mk) (hl:l.length≤100000):a5X Tryz.prog 64 [.os 8102 g 0 l.length,.fn (.func 43) 1 (fun i=>[HV.pt 7 g5 0 0].getD i default)] [(8102,c0R g l),(7,⟨g5,1,4,58,0,fun _=>a7o n⟩)] (a0h (c1y (fun o=>decide (o.name=n.name)) l)) [(8102,c0R g l),(7,⟨g5,1,4,58,0,fun _=>a7o n⟩)]:=by
 intro c
 refine a0t Tryz.func64 rfl kr _ _ _ _ rfl 19 rfl rfl (fun X ok hX=>?_)
 refine ru 14 ?_
 refine a0o (α:=Nat) (fun x c=>⟨19,[(0,.v (.os 8102 g 0 l.length)),(1,.v (.fn (.func 43) 1 (fun i=>[HV.pt 7 g5 0 0].getD i default))),(7,.v (a0h l.length)),(8,.v (a0h x))],[(8102,c0R g l),(7,⟨g5,1,4,58,0,fun _=>a7o n⟩)],c⟩) (fun x=>x≤l.length∧∀ i,i < x→decide ((l.getD i default).name=n.name)=false) (fun x=>l.length - x) (0) (by exact ⟨Nat.zero_le _,fun i h=>absurd h (Nat.not_lt_zero _)⟩) (a0c rfl (Nat.le_refl _) tsa hsa) (fun k c hx NhL1 hL1=>?_)
 (try dsimp only at hx hL1 ⊢)
 obtain ⟨hk,hE⟩:=hx
 refine ru 6 ?_
 refine wdc (fun hr0 hc0=>?_) (fun hr0 hc0=>?_)
 ·refine ru 17 ?_
  refine rvl (.agg 4 (a7o (l.getD k default))) ((by simp only [Nat.zero_add];rfl)) ?_
  refine a3Z 16 (xs:=[_]) (cs:=[_]) (pre:=[(7,_)]) (c4P _ g5 (l.getD k default) n) rfl rfl (fun i hi=>by first | rfl | (rcases i with _ | i <;> first | rfl | (exact absurd hi om) | (simp at hi))) ⟨rfl,trivial⟩ (a0i rfl a0e) rfl rfl (fun x1 c1 hx1=>?_)
  (try dsimp only)
  refine ru 2 ?_
  refine wdc (fun hr1 hc1=>?_) (fun hr1 hc1=>?_)
  ·refine ru 9 ?_
   refine a0f ?_
   refine ru 2 ?_
   refine fr1 ok hX rw1 (()) (trivial) (by rw [a4i (d:=default) om hr1 hE];exact kza) ?_
   exact ⟨⟨_,rfl,a2w⟩,⟨⟨_,rfl,a8w⟩,trivial⟩⟩
  refine ru 7 ?_
  exact hL1 (k+1) _ _ (by (try dsimp only);exact ⟨by omega,fun i hi=>by by_cases e:i=k;(subst e;exact hr1);exact hE i om⟩) (by (try dsimp only);omega) (a0c rfl (Nat.le_refl _) (tsr rfl (tsr rfl (tsr rfl (a0M.cons rfl (a1b om) a0M.nil)))) hsa)
 refine ru 2 ?_
 refine a0d ?_
 refine ru 8 ?_
 refine fr1 ok hX rw1 (()) (trivial) (by rw [a6V (d:=default) (fun i hi=>hE i om)];exact kza) ?_
 exact ⟨⟨_,rfl,a2w⟩,⟨⟨_,rfl,a8w⟩,trivial⟩⟩
theorem c6v (g g5:Nat) (l:List Mk) (n:Mk) (hl:l.length≤100000):a5X Tryz.prog 42 [.os 8102 g 0 l.length,.fn (.func 43) 1 (fun i=>[HV.pt 7 g5 0 0].getD i default)] [(8102,c0R g l),(7,⟨g5,1,4,58,0,fun _=>a7o n⟩)] (a0r (l.any fun o=>decide (o.name=n.name))) [(8102,c0R g l),(7,⟨g5,1,4,58,0,fun _=>a7o n⟩)]:=by
 intro c
 refine a0t Tryz.func42 rfl kr _ _ _ _ rfl 9 rfl rfl (fun X ok hX=>?_)
 refine ru 9 ?_
 refine a0l 7 (xs:=[_,_]) (pre:=[(8102,_),(7,_)]) (c1Q g g5 l n hl _) ⟨rfl,⟨rfl,trivial⟩⟩ (a0i rfl (a0i rfl a0e)) rfl rfl (fun u c1 hx1=>?_)
 (try dsimp only)
 refine ru 5 ?_
 refine fr1 ok hX rw1 (()) (trivial) (by rw [←b4S];exact kza) ?_
 exact ⟨⟨_,rfl,a2w⟩,⟨⟨_,rfl,a8w⟩,trivial⟩⟩
@[reducible] def dcG (g1 n1 g2 n2:Nat):Nat→HV:=fun j=>match j with
 | 0=>.os 8101 g1 0 n1
 | _=>.os 8102 g2 0 n2
@[reducible] def dcO (g g1 n1 g2 n2:Nat):HObj:=⟨g,1,2,26,0,fun _=>dcG g1 n1 g2 n2⟩
theorem a1Q {kp sh:List (Nat×HObj)} {a b:Int} (h:a=b):Kz kp sh (a0h a) (a0h b):=by subst h;exact .fz _ _ (.imm _)
theorem a5w {kp sh:List (Nat×HObj)} {g g1 n1 g2 n2:Nat} {o1 o2:HObj} (h1:hget kp 8101=some o1:=by rfl) (e1:o1.g=g1:=by rfl) (h2:hget kp 8102=some o2:=by rfl) (e2:o2.g=g2:=by rfl):OKz kp sh (dcO g g1 n1 g2 n2) (dcO g g1 n1 g2 n2):=.of fun i j hi hj=>by
 match j,hj with
 | 0,_=>exact .os _ _ _ _ _ h1 e1
 | 1,_=>exact .os _ _ _ _ _ h2 e2
theorem b8q {kp sh:List (Nat×HObj)} {g g1 n1 n1' g2 n2 n2':Nat} {F:Nat→Nat→HV} {o1 o2:HObj} (f0:F 0 0=.os 8101 g1 0 n1) (f1:F 0 1=.os 8102 g2 0 n2) (k1:n1=n1') (k2:n2=n2') (h1:hget kp 8101=some o1:=by rfl) (e1:o1.g=g1:=by rfl) (h2:hget kp 8102=some o2:=by rfl) (e2:o2.g=g2:=by rfl):OKz kp sh ⟨g,1,2,26,0,F⟩ (dcO g g1 n1' g2 n2'):=by
 subst k1;subst k2
 exact .of fun i j hi hj=>by
  obtain rfl:i=0:=by omega
  match j,hj with
  | 0,_=>rw [f0];exact .os _ _ _ _ _ h1 e1
  | 1,_=>rw [f1];exact .os _ _ _ _ _ h2 e2
theorem a6B {α:Type} {kp sh:List (Nat×HObj)} {enc:α→Nat→HV} {d x:α} {l:List α} {g n sz ty:Nat} {F:Nat→Nat→HV} (hn:n=l.length+1) (hz:∀ (a:α) j,j < sz→Fz sh (enc a j) (enc a j)) (h0:∀ j,j < sz→F 0 j=enc x j):OKz kp sh ⟨g,n,sz,ty,0,cat l.length (fun i=>enc (l.getD i d)) F⟩ ⟨g,(l++[x]).length,sz,ty,0,fun i=>enc ((l++[x]).getD i d)⟩:=by
 subst hn
 have e:(⟨g,l.length+1,sz,ty,0,cat l.length (fun i=>enc (l.getD i d)) F⟩:HObj)=⟨g,(l++[x]).length,sz,ty,0,cat l.length (fun i=>enc (l.getD i d)) F⟩:=by simp
 rw [e]
 refine .of fun i j hi hj=>?_
 have hi:i < l.length+1:=by simpa using hi
 by_cases h:i < l.length
 ·rw [a8c h,List.getD_eq_getElem?_getD,List.getD_eq_getElem?_getD,List.getElem?_append_left h];exact .fz _ _ (hz _ j hj)
 ·obtain rfl:i=l.length:=by omega
  rw [a7O (Nat.le_refl _),Nat.sub_self,h0 j hj,List.getD_eq_getElem?_getD,List.getElem?_append_right (Nat.le_refl _),Nat.sub_self];exact .fz _ _ (hz _ j hj)
theorem c5O (c g g1 g2:Nat) (d:Dc) (l:List Bs) (hd:d.nodes.length≤24∧d.marks.length≤8) (hl:l.length≤100000) (hw:∀ w∈l,w.length≤100000) (hj:(joinL l).length≤1000000):a3n Tryz.prog 18 c [.pt 8 g 0 0,a0S l] [(8,dcO g g1 d.nodes.length g2 d.marks.length),(8101,c0S g1 d.nodes),(8102,c0R g2 d.marks)]
  (a5h (fun (q:Nat×Nat) _=>True) (fun _=>a0h (a1D d l).2) (fun q=>[(8,dcO g q.1 (a1D d l).1.nodes.length q.2 (a1D d l).1.marks.length),(8101,c0S q.1 (a1D d l).1.nodes),(8102,c0R q.2 (a1D d l).1.marks)])):=by
 have hw1:∀ i,(l.getD i []).length≤1000000:=fun i=>by
  rcases Nat.lt_or_ge i l.length with h | h
  ·have:=hw (l.getD i []) (a2q h);omega
  ·rw [List.getD_eq_getElem?_getD,List.getElem?_eq_none h];exact Nat.zero_le _
 refine a0t Tryz.func18 rfl kr _ _ _ _ rfl 95 rfl rfl (fun X ok hX=>?_)
 refine ru 15 ?_
 refine ry (a0n (l.getD 1 [])) rfl (fun hb=>rfl) ?_
 first
 | refine stg 12 (fun hb=>a0j (xs:=[_]) (a8o (l.getD 1 []) (hw1 1)) ⟨rfl,trivial⟩ ⟨(Fz.eq rfl),trivial⟩) rfl rfl rfl rfl rfl ?_
 | refine sth 12 (fun hb=>a0j (xs:=[_]) (a8o (l.getD 1 []) (hw1 1)) ⟨rfl,trivial⟩ ⟨(Fz.eq rfl),trivial⟩) rfl rfl rfl rfl rfl ?_
 refine ru 4 ?_
 refine wdc (fun hr0 hc0=>?_) (fun hr0 hc0=>?_)
 ·skip
  have hA:a1D d l=(d,2):=(by unfold a1D;rw [if_pos (by rcases hc0 with h | h;exact .inl om;exact .inr h)])
  refine ru 7 ?_
  refine fr1 ok hX rw1 ((g1,g2)) (trivial) ((a1Q (by rw [hA]))) ?_
  exact ⟨⟨_,rfl,(by rw [hA];exact a5w)⟩,⟨⟨_,rfl,(by rw [hA];exact a2z)⟩,⟨⟨_,rfl,(by rw [hA];exact a2w)⟩,trivial⟩⟩⟩
 have h0:¬ (l.length < 2∨nameV (l.getD 1 [])=false):=(by have h9:=hc0;rintro (h | h);exact absurd h9.1 om;rw [h] at h9;simp at h9)
 refine ru 8 ?_
 refine rvl (a0n (l.getD 0 [])) (rfl) ?_
 refine ru 9 ?_
 refine wdc (fun hr1 hc1=>?_) (fun hr1 hc1=>?_)
 ·skip
  have hn:l.getD 0 []=a0U:=(by simpa using hr1)
  refine ru 3 ?_
  refine cll (c5Q l ⟨by omega,hl⟩ hw hj) ?_
  refine ru 17 ?_
  refine wdc (fun hr2 hc2=>?_) (fun hr2 hc2=>?_)
  ·skip
   have hA:a1D d l=(d,2):=(by unfold a1D;rw [if_neg h0,if_pos hn,if_pos (by simpa using hr2)])
   refine ru 10 ?_
   refine fr1 ok hX rw1 ((g1,g2)) (trivial) ((a1Q (by rw [hA]))) ?_
   exact ⟨⟨_,rfl,(by rw [hA];exact a5w)⟩,⟨⟨_,rfl,(by rw [hA];exact a2z)⟩,⟨⟨_,rfl,(by rw [hA];exact a2w)⟩,trivial⟩⟩⟩
  have hok:¬ (a2r l).2=false:=(by simpa using hr2)
  refine ru 4 ?_
  refine rvl (a0n (a2r l).1.name) (rfl) ?_
  refine ru 7 ?_
  first
  | refine a4M 42 3 36 false _ (fun hb=>a0A (xs:=[_,_]) (pre:=[(8101,_),(5,_)]) (c3c g1 _ d.nodes (a2r l).1 (by omega)) ⟨rfl,⟨rfl,trivial⟩⟩) rfl rfl rfl rfl (a0i rfl (a0i rfl a0e)) rfl rfl rfl ?_
  | refine a4d 42 3 36 _ _ false _ (fun hb=>a0A (xs:=[_,_]) (pre:=[(8101,_),(5,_)]) (c3c g1 _ d.nodes (a2r l).1 (by omega)) ⟨rfl,⟨rfl,trivial⟩⟩) rfl rfl rfl rfl (a0i rfl (a0i rfl a0e)) rfl rfl rfl ?_
  refine ru 4 ?_
  refine wdc (fun hr3 hc3=>?_) (fun hr3 hc3=>?_)
  ·skip
   have hA:a1D d l=(d,9):=(by unfold a1D;rw [if_neg h0,if_pos hn,if_neg hok,if_pos hc3])
   refine ru 10 ?_
   refine fr1 ok hX rw1 ((g1,g2)) (trivial) ((a1Q (by rw [hA]))) ?_
   exact ⟨⟨_,rfl,(by rw [hA];exact a5w)⟩,⟨⟨_,rfl,(by rw [hA];exact a2z)⟩,⟨⟨_,rfl,(by rw [hA];exact a2w)⟩,trivial⟩⟩⟩
  have hn3:¬ ((a2r l).1.name=sText∨(d.nodes.any fun o=>decide (o.name=(a2r l).1.name))=true):=(by rintro (h | h);exact hc3.1 h;rw [h] at hc3;cases hc3.2)
  refine ru 11 ?_
  refine wdc (fun hr4 hc4=>?_) (fun hr4 hc4=>?_)
  ·skip
   have hA:a1D d l=(d,4):=(by unfold a1D;rw [if_neg h0,if_pos hn,if_neg hok,if_neg hn3,if_pos om])
   refine ru 10 ?_
   refine fr1 ok hX rw1 ((g1,g2)) (trivial) ((a1Q (by rw [hA]))) ?_
   exact ⟨⟨_,rfl,(by rw [hA];exact a5w)⟩,⟨⟨_,rfl,(by rw [hA];exact a2z)⟩,⟨⟨_,rfl,(by rw [hA];exact a2w)⟩,trivial⟩⟩⟩
  have hA:a1D d l=(⟨d.nodes++[(a2r l).1],d.marks⟩,0):=(by unfold a1D;rw [if_neg h0,if_pos hn,if_neg hok,if_neg hn3,if_neg om])
  refine ru 10 ?_
  refine a2X 57 (a0b (id:=57) (hs:=[_]) ei_23.h omx rfl omx ⟨rfl,rfl,rfl,rfl,trivial⟩) rfl rfl a0e rfl rfl (k':=7) rfl ?_
  first
  | refine a2X 58 (a0a ei_23.h omy rfl omy omy (a0v rfl omy) omy rfl) rfl rfl (a0i rfl (a0D rfl)) rfl rfl (k':=8) rfl ?_
  | refine a2X 58 (a0a ei_23.h omy rfl omy omy (a0H rfl omy) omy rfl) rfl rfl (a0i rfl (a0D rfl)) rfl rfl (k':=8) rfl ?_
  | refine a2X 58 (a0a ei_23.h omy rfl omy omy (a0F rfl) omy rfl) rfl rfl (a0i rfl a0e) rfl rfl (k':=8) rfl ?_
  | refine a2X 58 (a0a ei_23.h omy rfl omy omy (a0w 9 (fun _ _=>default) rfl) omy rfl) rfl rfl (a0i rfl a0e) rfl rfl (k':=8) rfl ?_
  refine ru 12 ?_
  refine fr1 ok hX rw1 ((c+2+7,g2)) (trivial) ((a1Q (by rw [hA]))) ?_
  exact ⟨⟨_,rfl,(by rw [hA];exact b8q rfl rfl (by simp) rfl)⟩,⟨⟨_,rfl,(by rw [hA];exact a6B (by simp) a4U (by exact q9 rfl rfl rfl rfl rfl rfl rfl rfl rfl))⟩,⟨⟨_,rfl,(by rw [hA];exact a2w)⟩,trivial⟩⟩⟩
 have hn:l.getD 0 []≠a0U:=(by simpa using hr1)
 refine ru 6 ?_
 refine wdc (fun hr5 hc5=>?_) (fun hr5 hc5=>?_)
 ·skip
  have hm:l.getD 0 []=a3s:=(by simpa using hr5)
  refine ru 3 ?_
  refine cll (c6K l ⟨by omega,hl⟩ hw) ?_
  refine ru 17 ?_
  refine wdc (fun hr6 hc6=>?_) (fun hr6 hc6=>?_)
  ·skip
   have hA:a1D d l=(d,2):=(by unfold a1D;rw [if_neg h0,if_neg hn,if_pos hm,if_pos (by simpa using hr6)])
   refine ru 10 ?_
   refine fr1 ok hX rw1 ((g1,g2)) (trivial) ((a1Q (by rw [hA]))) ?_
   exact ⟨⟨_,rfl,(by rw [hA];exact a5w)⟩,⟨⟨_,rfl,(by rw [hA];exact a2z)⟩,⟨⟨_,rfl,(by rw [hA];exact a2w)⟩,trivial⟩⟩⟩
  have hok:¬ (a3V l).2=false:=(by simpa using hr6)
  refine ru 7 ?_
  refine a0l 77 (xs:=[_,_]) (pre:=[(8102,_),(7,_)]) (c6v g2 _ d.marks (a3V l).1 om _) ⟨rfl,⟨rfl,trivial⟩⟩ (a0i rfl (a0i rfl a0e)) rfl rfl (fun u c1 hx1=>?_)
  (try dsimp only)
  refine ru 3 ?_
  refine wdc (fun hr7 hc7=>?_) (fun hr7 hc7=>?_)
  ·skip
   have hA:a1D d l=(d,9):=(by unfold a1D;rw [if_neg h0,if_neg hn,if_pos hm,if_neg hok,if_pos hc7])
   refine ru 10 ?_
   refine fr1 ok hX rw1 ((g1,g2)) (trivial) ((a1Q (by rw [hA]))) ?_
   exact ⟨⟨_,rfl,(by rw [hA];exact a5w)⟩,⟨⟨_,rfl,(by rw [hA];exact a2z)⟩,⟨⟨_,rfl,(by rw [hA];exact a2w)⟩,trivial⟩⟩⟩
  have hn7:¬ (d.marks.any fun o=>decide (o.name=(a3V l).1.name))=true:=(by rw [hc7];simp)
  refine ru 11 ?_
  refine wdc (fun hr8 hc8=>?_) (fun hr8 hc8=>?_)
  ·skip
   have hA:a1D d l=(d,4):=(by unfold a1D;rw [if_neg h0,if_neg hn,if_pos hm,if_neg hok,if_neg hn7,if_pos om])
   refine ru 10 ?_
   refine fr1 ok hX rw1 ((g1,g2)) (trivial) ((a1Q (by rw [hA]))) ?_
   exact ⟨⟨_,rfl,(by rw [hA];exact a5w)⟩,⟨⟨_,rfl,(by rw [hA];exact a2z)⟩,⟨⟨_,rfl,(by rw [hA];exact a2w)⟩,trivial⟩⟩⟩
  have hA:a1D d l=(⟨d.nodes,d.marks++[(a3V l).1]⟩,0):=(by unfold a1D;rw [if_neg h0,if_neg hn,if_pos hm,if_neg hok,if_neg hn7,if_neg om])
  refine ru 10 ?_
  refine a2X 91 (a0b (id:=91) (hs:=[_]) ei_24.h omx rfl omx ⟨rfl,rfl,rfl,rfl,trivial⟩) rfl rfl a0e rfl rfl (k':=7) rfl ?_
  first
  | refine a2X 92 (a0a ei_24.h omy rfl omy omy (a0v rfl omy) omy rfl) rfl rfl (a0i rfl (a0D rfl)) rfl rfl (k':=8) rfl ?_
  | refine a2X 92 (a0a ei_24.h omy rfl omy omy (a0H rfl omy) omy rfl) rfl rfl (a0i rfl (a0D rfl)) rfl rfl (k':=8) rfl ?_
  | refine a2X 92 (a0a ei_24.h omy rfl omy omy (a0F rfl) omy rfl) rfl rfl (a0i rfl a0e) rfl rfl (k':=8) rfl ?_
  | refine a2X 92 (a0a ei_24.h omy rfl omy omy (a0w 4 (fun _ _=>default) rfl) omy rfl) rfl rfl (a0i rfl a0e) rfl rfl (k':=8) rfl ?_
  refine ru 12 ?_
  refine fr1 ok hX rw1 ((g1,c1+7)) (trivial) ((a1Q (by rw [hA]))) ?_
  exact ⟨⟨_,rfl,(by rw [hA];exact b8q rfl rfl rfl (by simp))⟩,⟨⟨_,rfl,(by rw [hA];exact a2z)⟩,⟨⟨_,rfl,(by rw [hA];exact a6B (by simp) a4N (by exact qm4 rfl rfl rfl rfl))⟩,trivial⟩⟩⟩
 have hA:a1D d l=(d,2):=(by unfold a1D;rw [if_neg h0,if_neg hn,if_neg (by simpa using hr5)])
 refine ru 8 ?_
 refine fr1 ok hX rw1 ((g1,g2)) (trivial) ((a1Q (by rw [hA]))) ?_
 exact ⟨⟨_,rfl,(by rw [hA];exact a5w)⟩,⟨⟨_,rfl,(by rw [hA];exact a2z)⟩,⟨⟨_,rfl,(by rw [hA];exact a2w)⟩,trivial⟩⟩⟩
@[reducible] def b7t (l:List Nd):HV:=.sl 9 l.length (b8r l)
@[reducible] def b7U (l:List Mk):HV:=.sl 4 l.length (c0s l)
@[reducible] def dcF (d:Dc):Nat→HV:=fun j=>match j with
 | 0=>b7t d.nodes
 | _=>b7U d.marks
@[reducible] def dcV (d:Dc):HV:=.agg 2 (dcF d)
@[reducible] def c0Q (x:Dc×Int×Int):HV:=t3 (dcV x.1) (a0h x.2.1) (a0h x.2.2)
theorem c0u {sh:List (Nat×HObj)} (l:List Nd):Fz sh (b7t l) (b7t l):=.sl _ _ _ _ fun i j _ hj=>a4U _ j hj
theorem a9n {sh:List (Nat×HObj)} (l:List Mk):Fz sh (b7U l) (b7U l):=.sl _ _ _ _ fun i j _ hj=>a4N _ j hj
theorem a7b {sh:List (Nat×HObj)} (d:Dc):Fz sh (dcV d) (dcV d):=.agg _ _ _ fun j hj=>by
 match j,hj with
 | 0,_=>exact c0u _
 | 1,_=>exact a9n _
@[reducible] def zDc:Nat→HV:=fun _=>.imm (.slice none 0 0)
theorem a7M {sh:List (Nat×HObj)} {f:Nat→HV} (h0:f 0=.imm (.slice none 0 0)) (h1:f 1=.imm (.slice none 0 0)):Fz sh (.agg 2 f) (dcV Dc.zero):=.agg _ _ _ fun j hj=>by
 match j,hj with
 | 0,_=>rw [h0];exact .nil _ _ _ (by decide) _
 | 1,_=>rw [h1];exact .nil _ _ _ (by decide) _
theorem b0g (s:Bs) (r:List Bs) (i:Nat) (d:Dc):a1W (s::r) i d=match a1C s with
  | none=>(Dc.zero,((i+1:Nat):Int),2)
  | some l=>if l=[] then a1W r (i+1) d else if (a1D d l).2=0 then a1W r (i+1) (a1D d l).1 else (Dc.zero,((i+1:Nat):Int),(a1D d l).2):=rfl
theorem a8n (s:Bs) (hs:s.length≤1000000):a0p Tryz.prog 7 [a0n s] (c0Q (declV s)):=by
 refine a0m Tryz.func7 rfl kr _ _ _ rfl 53 rfl rfl (fun w F=>?_)
 refine ru 10 ?_
 refine cll (c4I s hs) ?_
 refine ru 16 ?_
 refine wdc (fun hr0 hc0=>?_) (fun hr0 hc0=>?_)
 ·skip
  have hD:declV s=(Dc.zero,((a1v s).2.1:Int),(a1v s).2.2):=(by unfold declV;rw [if_pos (by simpa using hr0)])
  refine ru 12 ?_
  refine rt3 ?_
  rw [hD];exact a1u (a7M rfl rfl) (.imm _) (.imm _)
 have he0:(a1v s).2.2=0:=(by simpa using hr0);have hD:declV s=a1W (a1v s).1 0 Dc.zero:=(by unfold declV;rw [if_neg (by simpa using hr0)]);obtain ⟨hL1,hL2,hL3⟩:=a9k he0;obtain ⟨L_,hL_⟩:∃ L_,(a1v s).1=L_:=⟨_,rfl⟩;rw [hL_] at hD hL2 hL3
 refine ru 11 ?_
 refine rvl (a0S L_) ((by show a0S (a1v s).1=_;rw [hL_])) ?_
 refine ru 5 ?_
 refine (a1J 8 0 8101 9 46 (b8r []) (fun _ j=>match j with | 0=>.os 8101 2 0 0 | _=>.imm (.slice none 0 0)) rfl rfl (fun j hj=>by match j,hj with | 0,_=>exact .inl ⟨rfl,rfl⟩ | 1,_=>exact .inr rfl) (by decide) (by decide) (c':=3) rfl).wp ?_;refine (a1J 8 1 8102 4 58 (c0s []) (fun _=>dcG 2 0 3 0) rfl rfl (fun j hj=>by match j,hj with | 0,_=>exact .inr rfl | 1,_=>exact .inl ⟨rfl,rfl⟩) (by decide) (by decide) (c':=4) rfl).wp ?_
 refine a0o (α:=Nat×Dc×Nat×Nat) (fun x c=>⟨53,[(2,.v (.pt 2 0 0 0)),(8,.v (.pt 8 1 0 0)),(24,.v (a0S L_)),(25,.v (a0h (L_.length:Int))),(26,.v (a0h (x.1:Int)))],[(2,⟨0,1,2,26,0,fun _=>zDc⟩),(8,dcO 1 x.2.2.1 x.2.1.nodes.length x.2.2.2 x.2.1.marks.length),(8101,c0S x.2.2.1 x.2.1.nodes),(8102,c0R x.2.2.2 x.2.1.marks)],c⟩) (fun x=>x.1≤L_.length∧(x.2.1.nodes.length≤24∧x.2.1.marks.length≤8)∧a1W (L_.drop x.1) x.1 x.2.1=declV s) (fun x=>L_.length - x.1) ((0,Dc.zero,2,3)) (by exact ⟨Nat.zero_le _,⟨Nat.zero_le _,Nat.zero_le _⟩,hD.symm⟩) (a0c rfl (Nat.le_refl _) tsa (a0k.cons rfl (a3U (.refl _) (.refl _)) hsa)) (fun x c hx NhL1 hL1=>?_)
 revert hx hL1;obtain ⟨i,d,g1,g2⟩:=x;intro hx hL1;dsimp only at hx hL1 ⊢
 obtain ⟨ha1,ha2,ha3⟩:=hx
 refine ru 6 ?_
 refine wdc (fun hr1 hc1=>?_) (fun hr1 hc1=>?_)
 ·skip
  have hil:i < L_.length:=om;obtain ⟨v_,hv_⟩:∃ v_,L_.getD i []=v_:=⟨_,rfl⟩;have hd_:L_.drop i=v_::L_.drop (i+1):=(by rw [List.drop_eq_getElem_cons hil,←hv_,List.getD_eq_getElem?_getD,List.getElem?_eq_getElem hil];rfl);have hvl:v_.length≤65536:=(by have:=hL3 v_ (by rw [←hv_];exact a2q hil);omega);rw [hd_,b0g] at ha3;obtain ⟨o_,ho_⟩:∃ o_,a1C v_=o_:=⟨_,rfl⟩;have hsp:a0p Tryz.prog 17 [a0n v_] (b6z o_):=(by rw [←ho_];exact c0r v_ om);rw [ho_] at ha3
  refine ru 9 ?_
  refine rvl (a0n v_) ((by rw [←hv_];show a0n (L_.getD (((i:Nat):Int)).toNat [])=_;rw [show ((i:Nat):Int).toNat=i by omega])) ?_
  refine ru 5 ?_
  rcases o_ with _ | wl
  ·refine ru 2 ?_
   refine cll (hsp) ?_
   refine ru 19 ?_
   refine wdc (fun hr2 hc2=>?_) (fun hr2 hc2=>?_)
   ·skip
    exfalso;simp at hr2
   refine ru 8 ?_
   refine wdc (fun hr3 hc3=>?_) (fun hr3 hc3=>?_)
   ·skip
    have ha4:(Dc.zero,((i+1:Nat):Int),(2:Int))=declV s:=ha3
    refine ru 14 ?_
    refine a0f ?_
    refine ru 2 ?_
    refine rt3 ?_
    rw [←ha4];exact a1u (a7M rfl rfl) (Fz.eq (congrArg a0h (show ((i:Nat):Int)+1=((i+1:Nat):Int) from by omega))) (.imm _)
   exfalso;simp at hr3
  ·refine ru 2 ?_
   refine cll (hsp) ?_
   refine ru 19 ?_
   refine wdc (fun hr2 hc2=>?_) (fun hr2 hc2=>?_)
   ·skip
    have hne:wl≠[]:=(by rintro rfl;simp at hr2);have ha5:(if wl=[] then a1W (L_.drop (i+1)) (i+1) d else if (a1D d wl).2=0 then a1W (L_.drop (i+1)) (i+1) (a1D d wl).1 else (Dc.zero,((i+1:Nat):Int),(a1D d wl).2))=declV s:=ha3;rw [if_neg hne] at ha5;obtain ⟨hW1,hW2⟩:=a6Z ho_;have hWj:=a8Z ho_
    refine ru 2 ?_
    refine a0l 44 (xs:=[_,_]) (pre:=[(8,_),(8101,_),(8102,_)]) (c5O _ 1 g1 g2 d wl ha2 om (fun w hw=>by have:=hW2 w hw;omega) (by rw [hWj];omega)) ⟨rfl,⟨rfl,trivial⟩⟩ (a0i rfl (a0i rfl (a0i rfl a0e))) rfl rfl (fun x1 c1 hx1=>?_)
    obtain ⟨q1,q2⟩:=x1
    (try dsimp only)
    refine ru 9 ?_
    refine wdc (fun hr3 hc3=>?_) (fun hr3 hc3=>?_)
    ·skip
     have ha4:(Dc.zero,((i+1:Nat):Int),(a1D d wl).2)=declV s:=(by rw [if_neg (by simpa using hr3)] at ha5;exact ha5)
     refine ru 14 ?_
     refine a0f ?_
     refine ru 2 ?_
     refine rt3 ?_
     rw [←ha4];exact a1u (a7M rfl rfl) (Fz.eq (congrArg a0h (show ((i:Nat):Int)+1=((i+1:Nat):Int) from by omega))) (.imm _)
    have ha4:a1W (L_.drop (i+1)) (i+1) (a1D d wl).1=declV s:=(by rw [if_pos (by simpa using hr3)] at ha5;exact ha5)
    refine ru 7 ?_
    exact hL1 ((i+1,(a1D d wl).1,q1,q2)) _ _ (by (try dsimp only);exact ⟨by omega,b1W ha2,ha4⟩) (by (try dsimp only);omega) (a0c rfl (Nat.le_refl _) (tsr rfl (tsr rfl (tsr rfl (tsr rfl (a0M.cons rfl (a1b om) a0M.nil))))) hsa)
   have hwe:wl=[]:=(by have h9:=hr2;simp at h9;first | exact h9 | exact List.eq_nil_of_length_eq_zero om);have ha4:a1W (L_.drop (i+1)) (i+1) d=declV s:=(by subst hwe;exact ha3)
   refine ru 8 ?_
   refine wdc (fun hr3 hc3=>?_) (fun hr3 hc3=>?_)
   ·skip
    exfalso;simp at hr3
   refine ru 7 ?_
   exact hL1 ((i+1,d,g1,g2)) _ _ (by (try dsimp only);exact ⟨by omega,ha2,ha4⟩) (by (try dsimp only);omega) (a0c rfl (Nat.le_refl _) (tsr rfl (tsr rfl (tsr rfl (tsr rfl (a0M.cons rfl (a1b om) a0M.nil))))) hsa)
 rw [List.drop_of_length_le (show L_.length≤i by omega)] at ha3
 refine ru 2 ?_
 refine a0d ?_
 refine ru 11 ?_
 refine a5m rfl (a0W rfl rfl ty_26.h rqc rfl rfl) (a0q rfl) (a0q rfl) [(8101,_),(8102,_)] rfl (a0i rfl (a0i rfl a0e)) ?_
 rw [←ha3];exact a1u (.agg _ _ _ (fun j hj=>by match j,hj with | 0,_=>exact a1N (l:=d.nodes) (enc:=a7I) (d:=default) (List.mem_cons_self ..) rfl rfl (Nat.le_refl _) (fun i j hi hj=>a4U _ j hj) | 1,_=>exact a1N (l:=d.marks) (enc:=a7o) (d:=default) (List.mem_cons_of_mem _ (List.mem_cons_self ..)) rfl rfl (Nat.le_refl _) (fun i j hi hj=>a4N _ j hj))) (.imm _) (.imm _)
theorem b9W (s:Bs) (hs:s.length≤1000000) (hb:200 < s.length):a0p Tryz.prog 92 [a0n s] (c7k none):=by
 refine a0m Tryz.func92 rfl kr _ _ _ rfl 64 rfl rfl (fun w F=>?_)
 refine ru 19 ?_
 refine wdc (fun hr0 hc0=>?_) (fun hr0 hc0=>?_)
 ·refine ru 8 ?_
  refine rt2 ?_
  exact a1H (.imm _) (.imm _)
 exfalso;omega
theorem c0H (s:Bs) (hs:s.length≤1000000):a0p Tryz.prog 92 [a0n s] (c7k (a2F s)):=by
 rcases Nat.lt_or_ge 200 s.length with h | h
 ·have hn:a2F s=none:=by rw [←b4J];unfold a9O;rw [if_pos (by omega)]
  rw [hn];exact b9W s hs h
 ·exact c1R s h
theorem b5O (s:Bs) (hs:s.length≤1000000):a0p Tryz.prog 67 [a0n s] (a0h ((a1g s).getD (-1))):=by
 refine a0m Tryz.func67 rfl kr _ _ _ rfl 21 rfl rfl (fun w F=>?_)
 refine ru 8 ?_
 refine cll (c0H s hs) ?_
 refine ru 22 ?_
 refine wdc (fun hr0 hc0=>?_) (fun hr0 hc0=>?_)
 ·refine ru 7 ?_
  refine rt1 ?_
  exact b2e (by symm;unfold a1g;cases h:a2F s with | none=>rfl | some n=>rw [h] at hr0;simp at hr0;show ((if 0≤n∧n≤999 then some n else none).getD (-1):Int)=-1;rw [if_neg om];rfl)
 refine ru 9 ?_
 refine rt1 ?_
 exact b2e (by symm;unfold a1g;cases h:a2F s with | none=>rw [h] at hr0;simp at hr0 | some n=>rw [h] at hr0;simp at hr0;show ((if 0≤n∧n≤999 then some n else none).getD (-1):Int)=n;rw [if_pos om];rfl)
theorem c5X {s:Bs} {k:Nat} (h:k < s.length):bz s k=((s.getD k 0).toNat:Int):=by unfold bz;rw [if_pos h]
theorem c2c {s:Bs} {k:Nat} (h:k < s.length) (ha:alnumZ (bz s k)=false∨k=0∧smallZ (bz s 0)=false):b1h s=false:=by
 unfold b1h
 rcases ha with ha | ⟨_,ha⟩
 ·rw [show ((List.range s.length).all fun j=>alnumZ (bz s j))=false from by rw [List.all_eq_false];exact ⟨k,List.mem_range.2 h,by simp [ha]⟩];simp
 ·simp [ha]
theorem b8Z {s:Bs} (h:∀ j,j < s.length→alnumZ (bz s j)=true) (h0:0 < s.length→smallZ (bz s 0)=true):b1h s=(decide (0 < s.length)&&decide (s.length < 13)):=by
 unfold b1h
 rw [show ((List.range s.length).all fun j=>alnumZ (bz s j))=true from by rw [List.all_eq_true];exact fun j hj=>h j (List.mem_range.1 hj)]
 by_cases h1:0 < s.length
 ·simp [h0 h1,h1]
 ·simp [h1]
theorem b0W (s:Bs) (hs:s.length≤1000000):a0p Tryz.prog 45 [a0n s] (a0r (nameV s)):=by
 rw [←a6H]
 refine a0m Tryz.func45 rfl kr _ _ _ rfl 47 rfl rfl (fun w F=>?_)
 refine ru 12 ?_
 refine a0o (α:=Nat) (fun x c=>⟨47,[(0,.v (a0n s)),(3,.v (a0h x))],[],c⟩) (fun x=>x≤s.length∧(∀ j,j < x→alnumZ (bz s j)=true)∧(0 < x→smallZ (bz s 0)=true)) (fun x=>s.length - x) (0) (by exact ⟨Nat.zero_le _,(fun j h=>absurd h (Nat.not_lt_zero _)),fun h=>absurd h (Nat.not_lt_zero _)⟩) (a0c rfl (Nat.le_refl _) tsa a0k.nil) (fun k c hx NhL1 hL1=>?_)
 (try dsimp only at hx hL1 ⊢)
 obtain ⟨hk,ha,h0⟩:=hx
 refine ru 9 ?_
 refine wdc (fun hr0 hc0=>?_) (fun hr0 hc0=>?_)
 ·skip
  have hbz:=c5X (s:=s) (k:=k) om
  refine ru 41 ?_
  refine wdc (fun hr1 hc1=>?_) (fun hr1 hc1=>?_)
  ·refine ru 8 ?_
   refine a0f ?_
   refine ru 2 ?_
   refine rt1 ?_
   exact a1k (by symm;refine c2c (k:=k) om ?_;unfold alnumZ smallZ a0X;simp at hr1;rw [hbz];rcases Nat.eq_zero_or_pos k with hz | hz;(right;refine ⟨hz,?_⟩;subst hz;rw [hbz];simp;omega);(left;simp;omega))
  refine ru 8 ?_
  exact hL1 (k+1) _ _ (by (try dsimp only);exact ⟨by omega,(fun j hj=>by rcases Nat.lt_or_ge j k with h | h;exact ha j h;have hjk:j=k:=om;subst hjk;rw [hbz];unfold alnumZ smallZ a0X;simp at hr1 ⊢;omega),(fun _=>by rcases Nat.eq_zero_or_pos k with hz | hz;(subst hz;rw [hbz];unfold smallZ;simp at hr1 ⊢;omega);exact h0 hz)⟩) (by (try dsimp only);omega) (a0c rfl (Nat.le_refl _) tsa a0k.nil)
 refine ru 2 ?_
 refine a0d ?_
 refine ru 16 ?_
 refine rt1 ?_
 exact a1k (by rw [b8Z (fun j hj=>ha j om) (fun h=>h0 om)];rw [Bool.eq_iff_iff];simp only [Bool.and_eq_true,decide_eq_true_eq];omega)
theorem b1i (g:Nat) (l:List Bs) (s:Bs) (hl:l.length≤1000000):a5X Tryz.prog 66 [.os 8001 g 0 l.length,a0n s] [(8001,a4h g l)] (a0r (decide (s∈l))) [(8001,a4h g l)]:=by
 intro c
 refine a0t Tryz.func66 rfl kr _ _ _ _ rfl 18 rfl rfl (fun X ok hX=>?_)
 refine ru 12 ?_
 refine a0o (α:=Nat) (fun x c=>⟨18,[(0,.v (.os 8001 g 0 l.length)),(1,.v (a0n s)),(5,.v (a0h x))],[(8001,a4h g l)],c⟩) (fun x=>x≤l.length∧∀ j,j < x→l.getD j []≠s) (fun x=>l.length - x) (0) (by exact ⟨Nat.zero_le _,fun j h=>absurd h (Nat.not_lt_zero _)⟩) (a0c rfl (Nat.le_refl _) tsa hsa) (fun k c hx NhL1 hL1=>?_)
 (try dsimp only at hx hL1 ⊢)
 obtain ⟨hk,hno⟩:=hx
 refine ru 9 ?_
 refine wdc (fun hr0 hc0=>?_) (fun hr0 hc0=>?_)
 ·refine ru 14 ?_
  refine wdc (fun hr1 hc1=>?_) (fun hr1 hc1=>?_)
  ·refine ru 8 ?_
   refine a0f ?_
   refine ru 2 ?_
   refine fr1 ok hX rw1 (()) (trivial) (by rw [decide_eq_true (show s∈l from by have h9:l.getD k []=s:=(by simpa using hr1);rw [←h9];exact a2q om)];exact kza) ?_
   exact ⟨⟨_,rfl,a2e⟩,trivial⟩
  refine ru 8 ?_
  exact hL1 (k+1) _ _ (by (try dsimp only);exact ⟨by omega,fun j hj=>by rcases Nat.lt_or_ge j k with h | h;exact hno j h;have hjk:j=k:=om;subst hjk;simpa using hr1⟩) (by (try dsimp only);omega) (a0c rfl (Nat.le_refl _) tsa hsa)
 refine ru 2 ?_
 refine a0d ?_
 refine ru 8 ?_
 refine fr1 ok hX rw1 (()) (trivial) (by rw [decide_eq_false (show ¬ s∈l from fun h=>by obtain ⟨j,hj,h9⟩:=List.getElem_of_mem h;exact hno j om (by rw [List.getD_eq_getElem?_getD,List.getElem?_eq_getElem hj];exact h9))];exact kza) ?_
 exact ⟨⟨_,rfl,a2e⟩,trivial⟩
theorem b4m (g:Nat) (l:List Bs) (s:Bs) (hl:l.length≤1000000):a5X Tryz.prog 66 [.os 8002 g 0 l.length,a0n s] [(8002,a4h g l)] (a0r (decide (s∈l))) [(8002,a4h g l)]:=by
 intro c
 refine a0t Tryz.func66 rfl kr _ _ _ _ rfl 18 rfl rfl (fun X ok hX=>?_)
 refine ru 12 ?_
 refine a0o (α:=Nat) (fun x c=>⟨18,[(0,.v (.os 8002 g 0 l.length)),(1,.v (a0n s)),(5,.v (a0h x))],[(8002,a4h g l)],c⟩) (fun x=>x≤l.length∧∀ j,j < x→l.getD j []≠s) (fun x=>l.length - x) (0) (by exact ⟨Nat.zero_le _,fun j h=>absurd h (Nat.not_lt_zero _)⟩) (a0c rfl (Nat.le_refl _) tsa hsa) (fun k c hx NhL1 hL1=>?_)
 (try dsimp only at hx hL1 ⊢)
 obtain ⟨hk,hno⟩:=hx
 refine ru 9 ?_
 refine wdc (fun hr0 hc0=>?_) (fun hr0 hc0=>?_)
 ·refine ru 14 ?_
  refine wdc (fun hr1 hc1=>?_) (fun hr1 hc1=>?_)
  ·refine ru 8 ?_
   refine a0f ?_
   refine ru 2 ?_
   refine fr1 ok hX rw1 (()) (trivial) (by rw [decide_eq_true (show s∈l from by have h9:l.getD k []=s:=(by simpa using hr1);rw [←h9];exact a2q om)];exact kza) ?_
   exact ⟨⟨_,rfl,a2e⟩,trivial⟩
  refine ru 8 ?_
  exact hL1 (k+1) _ _ (by (try dsimp only);exact ⟨by omega,fun j hj=>by rcases Nat.lt_or_ge j k with h | h;exact hno j h;have hjk:j=k:=om;subst hjk;simpa using hr1⟩) (by (try dsimp only);omega) (a0c rfl (Nat.le_refl _) tsa hsa)
 refine ru 2 ?_
 refine a0d ?_
 refine ru 8 ?_
 refine fr1 ok hX rw1 (()) (trivial) (by rw [decide_eq_false (show ¬ s∈l from fun h=>by obtain ⟨j,hj,h9⟩:=List.getElem_of_mem h;exact hno j om (by rw [List.getD_eq_getElem?_getD,List.getElem?_eq_getElem hj];exact h9))];exact kza) ?_
 exact ⟨⟨_,rfl,a2e⟩,trivial⟩
theorem b8B {c:UInt8}:∀ {s:Bs} {k:Nat},k < s.length→(∀ j,j < k→s.getD j 0≠c)→s.getD k 0=c→a3q c s=(s.take k,s.drop (k+1),true)
  | [],k,h,_,_=>absurd h (Nat.not_lt_zero _)
  | b :: l, 0, _, _, h => by
    have h:b=c:=h
    show (if b=c then _ else _)=_
    rw [if_pos h];rfl
  | b :: l, k + 1, h, hn, hc => by
    have hb:¬ b=c:=hn 0 (Nat.succ_pos _)
    show (if b=c then _ else _)=_
    rw [if_neg hb,b8B (s:=l) (k:=k) (Nat.lt_of_succ_lt_succ h) (fun j hj=>hn (j+1) (by omega)) hc];rfl
theorem b8W {c:UInt8}:∀ {s:Bs},(∀ j,j < s.length→s.getD j 0≠c)→a3q c s=(s,[],false)
  | [],_=>rfl
  | b :: l, h => by
    have hb:¬ b=c:=h 0 (Nat.succ_pos _)
    show (if b=c then _ else _)=_
    rw [if_neg hb,b8W (s:=l) (fun j hj=>h (j+1) (Nat.succ_lt_succ hj))]
theorem c4N {c:UInt8} {l:Bs} {f p:Nat} (hf:f≤p) (hp:p < l.length) (h:∀ b∈(l.drop f).take (p - f),b≠c) (hb:l.getD p 0≠c):∀ b∈(l.drop f).take (p+1 - f),b≠c:=by
 intro b hm
 have e:p+1 - f=p - f+1:=by omega
 have hlt:p - f < (l.drop f).length:=by rw [List.length_drop];omega
 rw [e,List.take_succ_eq_append_getElem hlt] at hm
 rcases List.mem_append.1 hm with hm | hm
 ·exact h b hm
 ·have h9:b=(l.drop f)[p - f]:=List.mem_singleton.1 hm
  rw [h9,List.getElem_drop]
  intro h8
  refine hb ?_
  rw [List.getD_eq_getElem?_getD,List.getElem?_eq_getElem hp,Option.getD_some,←h8]
  congr 1;omega
theorem b4s {c:UInt8} {l:Bs} {f p:Nat} (hf:f≤p) (hp:p≤l.length) (h:∀ b∈(l.drop f).take (p - f),b≠c) (hb:p < l.length→l.getD p 0=c):a0g c (l.drop f)=(l.drop f).take (p - f)::(if p < l.length then a0g c (l.drop (p+1)) else []):=by
 by_cases hlt:p < l.length
 ·rw [if_pos hlt]
  have e:l.drop f=(l.drop f).take (p - f)++c::l.drop (p+1):=by
   have h1:(l.drop f).drop (p - f)=l.drop p:=by rw [List.drop_drop];congr 1;omega
   have:=List.take_append_drop (p - f) (l.drop f)
   rw [h1,b4K hlt,hb hlt] at this
   exact this.symm
  have:=a4z c ((l.drop f).take (p - f)) (l.drop (p+1)) h
  rw [←e] at this
  exact this
 ·rw [if_neg hlt]
  have e:(l.drop f).take (p - f)=l.drop f:=List.take_of_length_le (by rw [List.length_drop];omega)
  rw [e] at h ⊢
  exact a4a c _ h
theorem c2K (s:Bs) (hs:s.length≤1000000):a0p Tryz.prog 65 [a0n s] (c5B (a3q 61 s)):=by
 refine a0m Tryz.func65 rfl kr _ _ _ rfl 24 rfl rfl (fun w F=>?_)
 refine ru 14 ?_
 refine a0o (α:=Nat) (fun x c=>⟨24,[(0,.v (a0n s)),(5,.v (a0h x))],[],c⟩) (fun x=>x≤s.length∧∀ j,j < x→s.getD j 0≠61) (fun x=>s.length - x) (0) (by exact ⟨Nat.zero_le _,fun j h=>absurd h (Nat.not_lt_zero _)⟩) (a0c rfl (Nat.le_refl _) tsa a0k.nil) (fun k c hx NhL1 hL1=>?_)
 (try dsimp only at hx hL1 ⊢)
 obtain ⟨hk,hno⟩:=hx
 refine ru 9 ?_
 refine wdc (fun hr0 hc0=>?_) (fun hr0 hc0=>?_)
 ·refine ru 12 ?_
  refine wdc (fun hr1 hc1=>?_) (fun hr1 hc1=>?_)
  ·refine ru 8 ?_
   refine d0 7 (HOp.val (v':=a0n (s.drop (k+1))) (a7X (by kernel_rfl) rfl (.inr ⟨_,_,rfl,rfl⟩) (.inl ⟨rfl,rfl⟩) omy omy omy) ((by show a0n (List.take ((s.length:Int).toNat - ((k:Int)+1).toNat) (s.drop ((k:Int)+1).toNat))=_;rw [show ((k:Int)+1).toNat=k+1 by omega,List.take_of_length_le (by rw [List.length_drop];omega)]))) ?_
   refine ru 8 ?_
   refine a0f ?_
   refine ru 2 ?_
   refine rt3 ?_
   rw [b8B om hno (b6E (by show _=61;omega))];exact a1u (.imm _) (.imm _) (.imm _)
  refine ru 8 ?_
  exact hL1 (k+1) _ _ (by (try dsimp only);exact ⟨by omega,fun j hj=>by rcases Nat.lt_or_ge j k with h | h;exact hno j h;have hjk:j=k:=om;subst hjk;exact fun h=>hc1 (by rw [h];rfl)⟩) (by (try dsimp only);omega) (a0c rfl (Nat.le_refl _) tsa a0k.nil)
 refine ru 2 ?_
 refine a0d ?_
 refine ru 11 ?_
 refine rt3 ?_
 rw [b8W (fun j hj=>hno j om)];exact a1u (.imm _) (.imm _) (.imm _)
theorem b9F (s:Bs) (hs:s.length≤1000000):a0p Tryz.prog 68 [a0n s] (t3 (a0r ((a0G s).getD (false,[])).1) (a0S ((a0G s).getD (false,[])).2) (a0r (a0G s).isSome)):=by
 refine a0m Tryz.func68 rfl kr _ _ _ rfl 50 rfl rfl (fun w F=>?_)
 refine ru 14 ?_
 refine wdc (fun hr0 hc0=>?_) (fun hr0 hc0=>?_)
 ·skip
  have hl:a0G s=some (true,[]):=(by unfold a0G;rw [if_pos (by simpa using hr0)])
  refine ru 9 ?_
  refine rt3 ?_
  rw [hl];exact a1u (.imm _) (.nil _ _ _ (by decide) _) (.imm _)
 have hl:a0G s=(b2d s).map (fun l=>(false,l)):=(by unfold a0G;rw [if_neg (by simpa using hr0)])
 refine ru 19 ?_
 refine a4y 5 8001 1 9 ((c0h [])) rfl (by decide) rfl (c':=1) rfl ?_
 refine a0o (α:=Nat×List Bs×Nat×Nat) (fun x c=>⟨50,[(0,.v (a0n s)),(5,.v (.os 8001 x.2.2.2 0 x.2.1.length)),(6,.v (a0h x.2.2.1)),(7,.v (a0h x.1))],[(8001,a4h x.2.2.2 x.2.1)],c⟩) (fun x=>(x.1≤s.length∧x.2.2.1≤x.1∧x.2.1.length≤x.2.2.1∧(∀ b∈(s.drop x.2.2.1).take (x.1 - x.2.2.1),b≠44)∧a5Y (a0g 44 (s.drop x.2.2.1)) x.2.1=b2d s)∨(x.1=s.length+1∧x.2.1.length≤x.1∧b2d s=some x.2.1)) (fun x=>s.length+1 - x.1) ((0,[],0,0)) (by exact .inl ⟨Nat.zero_le _,Nat.le_refl _,Nat.le_refl _,(fun b h=>by simp at h),rfl⟩) (a0c rfl (Nat.le_refl _) tsa hsa) (fun x c hx NhL1 hL1=>?_)
 revert hx hL1;obtain ⟨p,out,f,g⟩:=x;intro hx hL1;dsimp only at hx hL1 ⊢
 refine ru 9 ?_
 refine wdc (fun hr1 hc1=>?_) (fun hr1 hc1=>?_)
 ·skip
  obtain ⟨hp,hf,ho,hno,hF⟩:=hx.resolve_right (fun h=>by omega)
  refine ru 19 ?_
  refine wdc (fun hr2 hc2=>?_) (fun hr2 hc2=>?_)
  ·refine ru 9 ?_
   exact hL1 ((p+1,out,f,g)) _ _ (by (try dsimp only);exact .inl ⟨by omega,by omega,ho,c4N hf om hno (fun h=>by have h9:=hc2.2;rw [h] at h9;exact h9 rfl),hF⟩) (by (try dsimp only);omega) (a0c rfl (Nat.le_refl _) tsa hsa)
  have hS:=b4s hf hp hno (fun h=>b6E (by rcases Bool.and_eq_false_iff.1 hc2 with h9 | h9;(exact absurd (show (p:Int) < s.length by omega) (of_decide_eq_false h9));(have h8:=bne_eq_false_iff_eq.1 h9;show _=44;omega)));obtain ⟨w_,hw_⟩:∃ w_,(s.drop f).take (p - f)=w_:=⟨_,rfl⟩;have hwl:w_.length≤1000000:=(by rw [←hw_,List.length_take,List.length_drop];omega);rw [hS,hw_] at hF
  refine ru 9 ?_
  refine rvl (a0n w_) ((by rw [←hw_];first | done | rfl)) ?_
  refine cll (b0W w_ hwl) ?_
  refine ru 7 ?_
  refine ry (a0n w_) rfl (fun hb=>(by rw [←hw_];first | done | rfl)) ?_
  first
  | refine a4M 38 6 32 false _ (fun hb=>a0A (xs:=[_,_]) (pre:=[(8001,_)]) (b1i g out w_ (by omega)) ⟨rfl,⟨rfl,trivial⟩⟩) rfl rfl rfl rfl (a0i rfl a0e) rfl rfl rfl ?_
  | refine a4d 38 6 32 _ _ false _ (fun hb=>a0A (xs:=[_,_]) (pre:=[(8001,_)]) (b1i g out w_ (by omega)) ⟨rfl,⟨rfl,trivial⟩⟩) rfl rfl rfl rfl (a0i rfl a0e) rfl rfl rfl ?_
  refine ru 3 ?_
  refine wdc (fun hr3 hc3=>?_) (fun hr3 hc3=>?_)
  ·skip
   have hnn:b2d s=none:=(by rw [←hF];unfold a5Y;rw [if_neg (fun hh=>by rcases hc3 with h | h;(rw [hh.1] at h;cases h);exact hh.2 h)])
   refine ru 11 ?_
   refine a0f ?_
   refine ru 2 ?_
   refine rt3 ?_
   rw [hl,hnn];exact a1u (.imm _) (.nil _ _ _ (by decide) _) (.imm _)
  have hx4:a5Y (if p < s.length then a0g 44 (s.drop (p+1)) else []) (out++[w_])=b2d s:=(by rw [←hF];show _=(if nameV w_=true∧w_∉out then _ else _);exact (if_pos (by simpa using hc3)).symm)
  refine ru 9 ?_
  refine rvl (a0n w_) ((by rw [←hw_];first | done | rfl)) ?_
  refine a0s 45 (a0b (id:=45) (hs:=[_]) ei_44.h omx rfl omx ⟨rfl,rfl,rfl,rfl,trivial⟩) rfl rfl a0e rfl rfl (c':=c+1) rfl ?_
  first
  | refine a0s 46 (a0a ei_44.h omy rfl omy omy (a0v rfl omy) omy rfl) rfl rfl (a0i rfl (a0D rfl)) rfl rfl (c':=c+2) rfl ?_
  | refine a0s 46 (a0a ei_44.h omy rfl omy omy (a0H rfl omy) omy rfl) rfl rfl (a0i rfl (a0D rfl)) rfl rfl (c':=c+2) rfl ?_
  | refine a0s 46 (a0a ei_44.h omy rfl omy omy (a0F rfl) omy rfl) rfl rfl (a0i rfl a0e) rfl rfl (c':=c+2) rfl ?_
  | refine a0s 46 (a0a ei_44.h omy rfl omy omy (a0w 1 (fun _ _=>default) rfl) omy rfl) rfl rfl (a0i rfl a0e) rfl rfl (c':=c+2) rfl ?_
  refine ru 15 ?_
  exact hL1 ((p+1,out++[w_],p+1,_)) _ _ (by (try dsimp only);(by_cases hlt:p < s.length;(rw [if_pos hlt] at hx4;exact .inl ⟨by omega,Nat.le_refl _,by simp;omega,(fun b h=>by simp at h),hx4⟩);(rw [if_neg hlt] at hx4;exact .inr ⟨by omega,by simp;omega,hx4.symm⟩))) (by (try dsimp only);omega) (a0c rfl (Nat.le_refl _) (tsr rfl (a0M.cons rfl (a1Y (by simp)) tsa)) (a0k.cons rfl (a0z (enc:=fun x _=>a0n x) (d:=[]) rfl (fun i j hi hj=>.refl _) (fun j hj=>.refl _)) a0k.nil))
 refine ru 2 ?_
 refine a0d ?_
 refine ru 3 ?_
 have hx5:b2d s=some out:=(by rcases hx with h | h;omega;exact h.2.2)
 refine ru 8 ?_
 refine a5m rfl (a0q rfl) (a0q rfl) (a0q rfl) [(8001,_)] rfl (a0i rfl a0e) ?_
 rw [hl,hx5];exact a1u (.imm _) (a1N (l:=out) (enc:=fun x _=>a0n x) (d:=[]) (List.mem_cons_self ..) rfl rfl (Nat.le_refl _) (fun i j hi hj=>.imm _)) (.imm _)
theorem a5V:∀ {l:List Bs} {w:Bs},l≠[]→joinL (l++[w])=joinL l++32::w
  | [],_,h=>absurd rfl h
  | [a],w,_=>rfl
  | a :: b :: r, w, _ => by
    show a++32::joinL (b::r++[w])=(a++32::joinL (b::r))++32::w
    rw [a5V (l:=b::r) (fun h=>by cases h)];simp
theorem b7p {l:List Bs} {k:Nat} (h:k < l.length):joinL (l.take (k+1))=(if 0 < k then joinL (l.take k)++[32] else joinL (l.take k))++l.getD k []:=by
 rw [List.take_succ_eq_append_getElem h,List.getD_eq_getElem?_getD,List.getElem?_eq_getElem h,Option.getD_some]
 by_cases h0:0 < k
 ·rw [if_pos h0,a5V (by intro h9;have:=congrArg List.length h9;rw [List.length_take,List.length_nil] at this;omega)];simp
 ·have:k=0:=by omega
  subst this;rfl
theorem a5n:∀ (l:List Bs) (k:Nat),(joinL (l.take k)).length≤(joinL l).length
  | [],k=>by simp
  | a::l,0=>Nat.zero_le _
  | [a],k+1=>by simp
  | a::b::l,1=>by show a.length≤(a++32::joinL (b::l)).length;simp
  | a :: b :: l, k + 2 => by
    have:=a5n (b::l) (k+1)
    show (a++32::joinL ((b::l).take (k+1))).length≤(a++32::joinL (b::l)).length
    simp only [List.length_append,List.length_cons] at this ⊢;omega
theorem c4e (l:List Bs) (hl:l.length≤1000000) (hj:(joinL l).length≤1000000):a0p Tryz.prog 70 [a0S l] (a0n (joinL l)):=by
 refine a0m Tryz.func70 rfl kr _ _ _ rfl 22 rfl rfl (fun w F=>?_)
 refine ru 17 ?_
 refine a0o (α:=Nat) (fun x c=>⟨22,[(0,.v (a0S l)),(3,.v (a0n (joinL (l.take x)))),(4,.v (a0h x))],[],c⟩) (fun x=>x≤l.length) (fun x=>l.length - x) (0) (by exact Nat.zero_le _) (a0c rfl (Nat.le_refl _) tsa a0k.nil) (fun k c hx NhL1 hL1=>?_)
 (try dsimp only at hx hL1 ⊢)
 refine ru 9 ?_
 refine wdc (fun hr0 hc0=>?_) (fun hr0 hc0=>?_)
 ·skip
  have hT:=b7p (l:=l) (k:=k) om;have hT1:=a5n l (k+1);have hT0:(joinL (l.take k)).length+1≤9223372036854775807:=(by have:=a5n l k;omega)
  refine ru 11 ?_
  refine wdc (fun hr1 hc1=>?_) (fun hr1 hc1=>?_)
  ·skip
   have hT2:joinL (l.take (k+1))=joinL (l.take k)++[32]++l.getD k []:=(by rw [hT,if_pos om]);have hLn:(joinL (l.take k)++[32]).length+(l.getD k []).length≤1000000:=(by rw [←List.length_append,←hT2];omega)
   refine ru 12 ?_
   refine rvl (a0n (l.getD k [])) (rfl) ?_
   refine ru 1 ?_
   refine rvl (a0n (joinL (l.take (k+1)))) ((by rw [hT2])) ?_
   refine ru 9 ?_
   exact hL1 (k+1) _ _ (by (try dsimp only);omega) (by (try dsimp only);omega) (a0c rfl (Nat.le_refl _) tsa a0k.nil)
  have hk0:¬ 0 < k:=om;have hT2:joinL (l.take (k+1))=joinL (l.take k)++l.getD k []:=(by rw [hT,if_neg hk0]);have hLn:(joinL (l.take k)).length+(l.getD k []).length≤1000000:=(by rw [←List.length_append,←hT2];omega)
  refine ru 8 ?_
  refine rvl (a0n (l.getD k [])) (rfl) ?_
  refine ru 1 ?_
  refine rvl (a0n (joinL (l.take (k+1)))) ((by rw [hT2])) ?_
  refine ru 9 ?_
  exact hL1 (k+1) _ _ (by (try dsimp only);omega) (by (try dsimp only);omega) (a0c rfl (Nat.le_refl _) tsa a0k.nil)
 refine ru 2 ?_
 refine a0d ?_
 refine ru 9 ?_
 refine rt1 ?_
 rw [List.take_of_length_le om];exact .imm _
theorem a8B (s:Bs):0≤(a1g s).getD (-1)↔(a1g s).isSome=true:=by
  unfold a1g
  cases a2F s with
  | none=>simp
  | some n =>
    show 0≤(if 0≤n∧n≤999 then some n else none).getD (-1)↔(if 0≤n∧n≤999 then some n else none).isSome=true
    split <;> simp;omega
theorem b5o {s:Bs} (h:(a1g s).isSome=true):(a1g s).getD (-1)=(a2F s).getD 0:=by
  unfold a1g at h ⊢
  cases hn:a2F s with
  | none=>rw [hn] at h;cases h
  | some n =>
    rw [hn] at h
    have h:(if 0≤n∧n≤999 then some n else none).isSome=true:=h
    show (if 0≤n∧n≤999 then some n else none).getD (-1)=n
    split at h
    · rw [if_pos (by assumption)];rfl
    · cases h
@[reducible] def rmO (m:Mk):HObj:=⟨1,1,4,57,0,fun _=>a7o m⟩
theorem c5p (l:List Bs) (hl:2≤l.length∧l.length≤100000) (hw:∀ w∈l,w.length≤100000):a0p Tryz.prog 46 [a0S l] (c8l (a3V l)):=by
 refine a0m Tryz.func46 rfl kr _ _ _ rfl 75 rfl rfl (fun w F=>?_)
 refine ru 11 ?_
 refine rvl (a0n (l.getD 1 [])) (rfl) ?_
 refine ru 17 ?_
 refine a4y 5 8002 1 9 ((c0h [])) rfl (by decide) rfl (c':=4) rfl ?_
 refine a0o (α:=Nat×Mk×List Bs×Nat) (fun x c=>⟨75,[(0,.v (a0S l)),(2,.v (.pt 2 0 0 0)),(4,.v (.pt 4 1 0 0)),(5,.v (.os 8002 x.2.2.2 0 x.2.2.1.length)),(6,.v (a0h (x.1:Int)))],[(2,⟨0,1,4,57,0,fun _=>zMk []⟩),(4,rmO x.2.1),(8002,a4h x.2.2.2 x.2.2.1)],c⟩) (fun x=>2≤x.1∧x.1≤l.length∧x.2.2.1.length+2=x.1∧a5Z (l.drop x.1) x.2.2.1 x.2.1=a3V l) (fun x=>l.length - x.1) ((2,⟨l.getD 1 [],0,false,[]⟩,[],3)) (by exact ⟨Nat.le_refl _,hl.1,rfl,rfl⟩) (a0c rfl (Nat.le_refl _) tsa (a0k.cons rfl (b1K (by exact qm4 (.refl _) (.refl _) (.refl _) (.refl _))) (a0k.cons rfl (b1K (by exact qm4 (.refl _) (.refl _) (.refl _) (.nil _ _ _ (by decide) _))) hsa))) (fun x c hx NhL1 hL1=>?_)
 revert hx hL1;obtain ⟨i,m,met,gm⟩:=x;intro hx hL1;dsimp only at hx hL1 ⊢
 obtain ⟨ha0,ha1,ha4,ha3⟩:=hx
 refine ru 9 ?_
 refine wdc (fun hr0 hc0=>?_) (fun hr0 hc0=>?_)
 ·skip
  have hil:i < l.length:=om;obtain ⟨v_,hv_⟩:∃ v_,l.getD i []=v_:=⟨_,rfl⟩;have hd_:l.drop i=v_::l.drop (i+1):=(by rw [List.drop_eq_getElem_cons hil,←hv_,List.getD_eq_getElem?_getD,List.getElem?_eq_getElem hil];rfl);have hvl:v_.length≤1000000:=(by have:=hw v_ (by rw [←hv_];exact a2q hil);omega);rw [hd_] at ha3;obtain ⟨⟨W_,V_,H_⟩,hC_⟩:∃ q,a3q 61 v_=q:=⟨_,rfl⟩;have hcut:a0p Tryz.prog 65 [a0n v_] (c5B (W_,V_,H_)):=(by rw [←hC_];exact c2K v_ hvl);have hVl:V_.length≤1000000:=(by have:=a3C 61 v_;rw [hC_] at this;have h9:V_.length≤v_.length:=this;omega)
  refine ru 10 ?_
  refine rvl (a0n v_) ((by rw [←hv_];first | done | rfl)) ?_
  refine cll (hcut) ?_
  refine ru 15 ?_
  first
  | refine a4M 37 1 34 true _ (fun hb=>a0A (xs:=[_,_]) (pre:=[(8002,_)]) (b4m gm met W_ (by omega)) ⟨rfl,⟨rfl,trivial⟩⟩) rfl rfl rfl rfl (a0i rfl a0e) rfl rfl rfl ?_
  | refine a4d 37 1 34 _ _ true _ (fun hb=>a0A (xs:=[_,_]) (pre:=[(8002,_)]) (b4m gm met W_ (by omega)) ⟨rfl,⟨rfl,trivial⟩⟩) rfl rfl rfl rfl (a0i rfl a0e) rfl rfl rfl ?_
  refine ru 9 ?_
  refine a0s 42 (a0b (id:=42) (hs:=[_]) ei_44.h omx rfl omx ⟨rfl,rfl,rfl,rfl,trivial⟩) rfl rfl a0e rfl rfl (c':=c+1) rfl ?_
  first
  | refine a0s 43 (a0a ei_44.h omy rfl omy omy (a0v rfl omy) omy rfl) rfl rfl (a0i rfl (a0D rfl)) rfl rfl (c':=c+2) rfl ?_
  | refine a0s 43 (a0a ei_44.h omy rfl omy omy (a0H rfl omy) omy rfl) rfl rfl (a0i rfl (a0D rfl)) rfl rfl (c':=c+2) rfl ?_
  | refine a0s 43 (a0a ei_44.h omy rfl omy omy (a0F rfl) omy rfl) rfl rfl (a0i rfl a0e) rfl rfl (c':=c+2) rfl ?_
  | refine a0s 43 (a0a ei_44.h omy rfl omy omy (a0w 1 (fun _ _=>default) rfl) omy rfl) rfl rfl (a0i rfl a0e) rfl rfl (c':=c+2) rfl ?_
  refine ru 10 ?_
  refine wdc (fun hr1 hc1=>?_) (fun hr1 hc1=>?_)
  ·skip
   have hWv:W_=a6t:=(by simpa using hr1)
   refine ru 3 ?_
   refine cll (b5O V_ hVl) ?_
   refine ru 20 ?_
   refine wdc (fun hr3 hc3=>?_) (fun hr3 hc3=>?_)
   ·skip
    have hR:a2s W_ m V_=({ m with val:=(a2F V_).getD 0 },(a1g V_).isSome):=(by unfold a2s;rw [if_pos hWv]);have hq3:=hr3;have hbad:=a3Y (r:=l.drop (i+1)) (met:=met) (m:=m) hC_ (by rw [hR];have hvd:=a8B V_;cases H_ <;> by_cases hm:W_∈met <;> cases hs:(a1g V_).isSome <;> simp_all)
    refine ru 10 ?_
    refine a0f ?_
    refine ru 2 ?_
    refine rt2 ?_
    rw [←ha3,hbad];exact a1H (.agg _ _ _ (by exact qm4 (.imm _) (.imm _) (.imm _) (.nil _ _ _ (by decide) _))) (.imm _)
   have hR:a2s W_ m V_=({ m with val:=(a2F V_).getD 0 },(a1g V_).isSome):=(by unfold a2s;rw [if_pos hWv]);have hq3:=hr3;have hvs:(a1g V_).isSome=true:=(by rw [←a8B];simp at hq3;omega);have hon:=a5J (r:=l.drop (i+1)) (met:=met) (m:=m) hC_ (by rw [hR];cases H_ <;> by_cases hm:W_∈met <;> simp_all);rw [ha3,hR] at hon
   refine ru 8 ?_
   exact hL1 ((i+1,{ m with val:=(a2F V_).getD 0 },met++[W_],_)) _ _ (by (try dsimp only);exact ⟨by omega,by omega,by simp;omega,hon.symm⟩) (by (try dsimp only);omega) (a0c rfl (Nat.le_refl _) (tsr rfl (tsr rfl (tsr rfl (a0M.cons rfl (a1Y (by simp)) tsa)))) (hsr rfl (a0k.cons rfl (b1K (by exact qm4 (.refl _) (a1b (b5o hvs)) (.refl _) (.refl _))) (a0k.cons rfl (a0z (enc:=fun x _=>a0n x) (d:=[]) rfl (fun i j hi hj=>.refl _) (fun j hj=>.refl _)) a0k.nil))))
  have hWv:W_≠a6t:=(by simpa using hr1)
  refine ru 6 ?_
  refine wdc (fun hr2 hc2=>?_) (fun hr2 hc2=>?_)
  ·skip
   have hWb:W_=a2i:=(by simpa using hr2)
   refine ru 3 ?_
   refine cll (b9F V_ hVl) ?_
   refine ru 37 ?_
   refine wdc (fun hr3 hc3=>?_) (fun hr3 hc3=>?_)
   ·skip
    have hR:a2s W_ m V_=({ m with all:=((a0G V_).getD (false,[])).1,bars:=((a0G V_).getD (false,[])).2 },(a0G V_).isSome):=(by unfold a2s;rw [if_neg hWv,if_pos hWb]);have hq3:=hr3;have hbad:=a3Y (r:=l.drop (i+1)) (met:=met) (m:=m) hC_ (by rw [hR];cases H_ <;> by_cases hm:W_∈met <;> cases hs:(a0G V_).isSome <;> simp_all)
    refine ru 10 ?_
    refine a0f ?_
    refine ru 2 ?_
    refine rt2 ?_
    rw [←ha3,hbad];exact a1H (.agg _ _ _ (by exact qm4 (.imm _) (.imm _) (.imm _) (.nil _ _ _ (by decide) _))) (.imm _)
   have hR:a2s W_ m V_=({ m with all:=((a0G V_).getD (false,[])).1,bars:=((a0G V_).getD (false,[])).2 },(a0G V_).isSome):=(by unfold a2s;rw [if_neg hWv,if_pos hWb]);have hq3:=hr3;have hon:=a5J (r:=l.drop (i+1)) (met:=met) (m:=m) hC_ (by rw [hR];cases H_ <;> by_cases hm:W_∈met <;> cases hs:(a0G V_).isSome <;> simp_all);rw [ha3,hR] at hon
   refine ru 8 ?_
   exact hL1 ((i+1,{ m with all:=((a0G V_).getD (false,[])).1,bars:=((a0G V_).getD (false,[])).2 },met++[W_],_)) _ _ (by (try dsimp only);exact ⟨by omega,by omega,by simp;omega,hon.symm⟩) (by (try dsimp only);omega) (a0c rfl (Nat.le_refl _) (tsr rfl (tsr rfl (tsr rfl (a0M.cons rfl (a1Y (by simp)) tsa)))) (hsr rfl (a0k.cons rfl (b1K (by exact qm4 (.refl _) (.refl _) (.refl _) (.refl _))) (a0k.cons rfl (a0z (enc:=fun x _=>a0n x) (d:=[]) rfl (fun i j hi hj=>.refl _) (fun j hj=>.refl _)) a0k.nil))))
  have hWb:W_≠a2i:=(by simpa using hr2)
  refine ru 10 ?_
  refine wdc (fun hr3 hc3=>?_) (fun hr3 hc3=>?_)
  ·skip
   have hR:a2s W_ m V_=(m,false):=(by unfold a2s;rw [if_neg hWv,if_neg hWb]);have hbad:=a3Y (r:=l.drop (i+1)) (met:=met) (m:=m) hC_ (by rw [hR];exact .inr (.inl rfl))
   refine ru 10 ?_
   refine a0f ?_
   refine ru 2 ?_
   refine rt2 ?_
   rw [←ha3,hbad];exact a1H (.agg _ _ _ (by exact qm4 (.imm _) (.imm _) (.imm _) (.nil _ _ _ (by decide) _))) (.imm _)
  exfalso;simp at hr3
 rw [List.drop_of_length_le (show l.length≤i by omega)] at ha3
 refine ru 2 ?_
 refine a0d ?_
 refine ru 10 ?_
 refine rt2 ?_
 rw [←ha3];exact a1H (.agg _ _ _ (by exact qm4 (.imm _) (.imm _) (.imm _) (show Fz _ (a0S m.bars) (a0S m.bars) from .sl _ _ _ _ fun _ _ _ _=>.imm _))) (.imm _)
@[reducible] def c8m (e:List Pt) (b:Nat) (t:T):Prop:=∀ bin,a0p Tryz.prog 97 [a6d e,a0h ((b+t.size - 1:Nat):Int),a0r bin] (a3K (a0Q bin t.sig))
theorem c4n (k:Int) (ts:List T) (i:Nat) (h:i < ts.length):(ts.getD i default).sig.length≤(T.sigL k true ts).length:=by
 have:=a2L (k:=k) h
 have h2:=(a3F (inB k (ts.getD i default).kind) (ts.getD i default).sig).2
 omega
theorem b3O:∀ ts:List T,ts.length≤T.sizeL ts
 | []=>Nat.zero_le _
 | t::ts=>by have:=b3O ts;have:=t.size_pos;simp only [List.length_cons,T.sizeL];omega
theorem c2h {t:T}:t.kidsT.length≤t.size:=by
 cases t with
 | name s=>exact Nat.zero_le _
 | times lo hi t=>simp [T.kidsT,T.size]
 | many k ts=>have:=b3O ts;simp only [T.kidsT,T.size];omega
mutual
theorem a9b (e:List Pt) (he:e.length≤100000):∀ (t:T) (b:Nat),t.ok=true→t.sig.length≤100000→AtP e b (T.flat b t)→c8m e b t
  | .name s,b,hok,hl,hat=>b1T e he b (.name s) hok hat (Nat.zero_le _) hl (fun i hi=>absurd hi (Nat.not_lt_zero _))
  | .times lo hi t, b, hok, hl, hat => by
    have hok':t.ok=true:=by simp only [T.ok,Bool.and_eq_true] at hok;exact hok.2
    have hl':t.sig.length≤100000:=by
      have h2:=(a3F (inB 4 t.kind) t.sig).2
      simp only [T.sig,List.length_append] at hl;omega
    refine b1T e he b (.times lo hi t) hok hat (by simp [T.kidsT]) hl (fun i hi bin=>?_)
    obtain rfl:i=0:=by simpa [T.kidsT] using hi
    have:=a9b e he t b hok' hl' (by simp only [T.flat] at hat;exact a6y hat) bin
    simpa [T.kidsT,T.sizeL] using this
  | .many k ts, b, hok, hl, hat => by
    have hok':T.okL ts=true:=by simp only [T.ok,Bool.and_eq_true] at hok;exact hok.2
    have hkl:(T.many k ts).kidsT.length≤100000:=by
      have:=c2h (t:=.many k ts);have:=(a4l hat).2;omega
    exact b1T e he b (.many k ts) hok hat hkl hl (fun i hi bin=>b0L e he ts hok' (fun j hj=>Nat.le_trans (c4n k ts j hj) hl) i hi _ (b6q hat hi) bin)
theorem b0L (e:List Pt) (he:e.length≤100000):∀ ts:List T,T.okL ts=true→(∀ j,j < ts.length→(ts.getD j default).sig.length≤100000)→∀ i,i < ts.length→∀ b,AtP e b (T.flat b (ts.getD i default))→c8m e b (ts.getD i default)
  | [],_,_,i,hi=>absurd hi (Nat.not_lt_zero _)
  | t :: ts, hok, hl, i, hi => fun b hat => by
    simp only [T.okL,Bool.and_eq_true] at hok
    cases i with
    | zero=>exact a9b e he t b hok.1 (hl 0 (by simp)) hat
    | succ i=>exact b0L e he ts hok.2 (fun j hj=>by have:=hl (j+1) (by simpa using hj);simpa using this) i (by simpa using hi) b (by simpa using hat)
end
theorem b7f (t:T) (h:t.ok=true) (hs:t.size≤250):a0p Tryz.prog 71 [a6d (T.flat 0 t)] (a0n (a4B t.sig)):=by
 have hfl:=T.flat_len 0 t
 have hsl:=a9v t h
 have hps:=t.size_pos
 have hat:AtP (T.flat 0 t) 0 (T.flat 0 t):=⟨[],[],by simp,rfl⟩
 refine a0m Tryz.func71 rfl kr _ _ _ rfl 9 rfl rfl (fun w F=>?_)
 refine ru 11 ?_
 refine rvl (a0h ((0+t.size - 1:Nat):Int)) (congrArg a0h (show ((T.flat 0 t).length:Int) - 1=((0+t.size - 1:Nat):Int) by omega)) ?_
 refine cll (a9b (T.flat 0 t) om t 0 h om hat false) ?_
 refine cll (b4R t.sig om (fun x hx=>(b6T t h x hx).ok)) ?_
 refine ru 4 ?_
 refine rt1 ?_
 exact Frz.fz
set_option maxHeartbeats 4000000
theorem a6U {s:Bs} (h:(exprV s).1=[]):exprS s=[]:=by
 unfold exprS
 refine dif_neg fun ⟨t,h1,h2,h3⟩=>?_
 rw [h3] at h
 have:=T.size_pos t
 rw [←T.flat_len 0 t,show T.flat 0 t=[] from h] at this
 exact absurd this (Nat.lt_irrefl 0)
theorem c5s (s:Bs) (hn:(exprV s).1≠[]):a0p Tryz.prog 71 [a6d (exprV s).1] (a0n (exprS s)):=by
 have h:∃ t:T,t.ok=true∧t.size≤250∧exprV s=(T.flat 0 t,0,0):=(b0f s).resolve_left hn
 unfold exprS
 rw [dif_pos h]
 obtain ⟨h1,h2,h3⟩:=Classical.choose_spec h
 have:=b7f (Classical.choose h) h1 h2
 exact (congrArg (fun q:List Pt=>a0p Tryz.prog 71 [a6d q] (a0n (a4B (Classical.choose h).sig))) (congrArg Prod.fst h3)).mpr this
@[reducible] def rnO (n:Nd) (g:Nat):HObj:=⟨1,1,9,54,0,fun _=>ndG n g n.groups.length⟩
theorem c5l (l:List Bs) (hl:2≤l.length∧l.length≤100000) (hw:∀ w∈l,w.length≤100000) (hj:(joinL l).length≤1000000):a0p Tryz.prog 47 [a0S l] (c8j (a2r l)):=by
 refine a0m Tryz.func47 rfl kr _ _ _ rfl 151 rfl rfl (fun w F=>?_)
 refine ru 11 ?_
 refine rvl (a0n (l.getD 1 [])) (rfl) ?_
 refine ru 17 ?_
 refine a4y 5 8002 1 9 (c0h []) rfl (by decide) rfl (c':=4) rfl ?_;refine (a1J 4 1 8001 1 9 (c0h []) (fun _=>ndZ (l.getD 1 []) 4) rfl rfl (by exact q9 (.inr rfl) (.inl ⟨rfl,rfl⟩) (.inr rfl) (.inr rfl) (.inr rfl) (.inr rfl) (.inr rfl) (.inr rfl) (.inr rfl)) (by decide) (by decide) (c':=5) rfl).wp ?_
 refine a0o (α:=Nat×Nd×List Bs×Nat×Nat) (fun x c=>⟨151,[(0,.v (a0S l)),(2,.v (.pt 2 0 0 0)),(4,.v (.pt 4 1 0 0)),(5,.v (.os 8002 x.2.2.2.2 0 x.2.2.1.length)),(6,.v (a0h (x.1:Int)))],[(2,⟨0,1,9,54,0,fun _=>zNd⟩),(4,rnO x.2.1 x.2.2.2.1),(8001,a4h x.2.2.2.1 x.2.1.groups),(8002,a4h x.2.2.2.2 x.2.2.1)],c⟩) (fun x=>2≤x.1∧x.1≤l.length∧x.2.2.1.length+2=x.1∧x.2.1.groups.length≤4∧x.2.1.expr=[]∧a3J (l.drop x.1) x.2.2.1 x.2.1=a2r l) (fun x=>l.length - x.1) ((2,⟨l.getD 1 [],[],false,false,true,0,false,[],[]⟩,[],4,3)) (by exact ⟨Nat.le_refl _,hl.1,rfl,Nat.zero_le _,rfl,rfl⟩) (a0c rfl (Nat.le_refl _) tsa (a0k.cons rfl (a9A (by exact q9 (.refl _) (.refl _) (.refl _) (.refl _) (.refl _) (.refl _) (.refl _) (.refl _) (.refl _))) (a0k.cons rfl (a9A (by exact q9 (.refl _) (.refl _) (.refl _) (.refl _) (.refl _) (.refl _) (.refl _) (.nil _ _ _ (by decide) _) (.refl _))) hsa))) (fun x c hx NhL1 hL1=>?_)
 revert hx hL1;obtain ⟨i,n,met,g,gm⟩:=x;intro hx hL1;dsimp only at hx hL1 ⊢
 obtain ⟨ha0,ha1,ha4,ha2,ha5,ha3⟩:=hx
 refine ru 9 ?_
 refine wdc (fun hr0 hc0=>?_) (fun hr0 hc0=>?_)
 ·skip
  have hil:i < l.length:=om;obtain ⟨v_,hv_⟩:∃ v_,l.getD i []=v_:=⟨_,rfl⟩;have hd_:l.drop i=v_::l.drop (i+1):=(by rw [List.drop_eq_getElem_cons hil,←hv_,List.getD_eq_getElem?_getD,List.getElem?_eq_getElem hil];rfl);have hvl:v_.length≤1000000:=(by have:=hw v_ (by rw [←hv_];exact a2q hil);omega);rw [hd_] at ha3
  refine ru 11 ?_
  refine rvl (a0n v_) ((by rw [←hv_];first | done | rfl)) ?_
  refine ru 3 ?_
  refine wdc (fun hr1 hc1=>?_) (fun hr1 hc1=>?_)
  ·skip
   have hv58:v_=[58]:=(by simpa using hr1);have hjl:=a5B l (i+1);subst hv58;rw [a2G] at ha3
   refine ru 6 ?_
   refine s0 (a0j (xs:=[_]) (c4e (l.drop (i+1)) (by rw [List.length_drop];omega) om) ⟨rfl,trivial⟩ ⟨(b4e (l.drop (i+1)) (by rw [List.length_drop];omega) (fun k hk=>by show a0n (l.getD ((((i:Nat):Int)+1).toNat+k) [])=_;rw [show (((i:Nat):Int)+1).toNat+k=i+1+k by omega,List.getD_eq_getElem?_getD,List.getD_eq_getElem?_getD,List.getElem?_drop])),trivial⟩) ?_
   refine a0l 38 (xs:=[_]) (pre:=[]) (b6Q (joinL (l.drop (i+1))) (exprV (joinL (l.drop (i+1)))) om (a6D _) _) ⟨rfl,trivial⟩ a0e rfl rfl (fun u_ c1 hu_=>?_)
   (try dsimp only)
   refine ru 23 ?_
   refine wdc (fun hr2 hc2=>?_) (fun hr2 hc2=>?_)
   ·skip
    have hne:(exprV (joinL (l.drop (i+1)))).1≠[]:=(fun h=>by rw [h] at hc2;simp at hc2)
    refine ru 2 ?_
    refine cll (c5s (joinL (l.drop (i+1))) hne) ?_
    refine ru 17 ?_
    refine a0f ?_
    refine ru 2 ?_
    refine a5q rfl (a0W rfl rfl ty_54.h rqc rfl rfl) (a0q rfl) [(8001,_)] rfl (a0i rfl a0e) ?_
    rw [←ha3];exact a1H (.agg _ _ _ (by exact q9 (.imm _) (a1N (l:=n.groups) (enc:=fun x _=>a0n x) (d:=[]) (List.mem_cons_self ..) rfl rfl (Nat.le_refl _) (fun i j hi hj=>.imm _)) (.imm _) (.imm _) (.imm _) (.imm _) (.imm _) (show Fz _ (a0S n.marks) (a0S n.marks) from .sl _ _ _ _ fun _ _ _ _=>.imm _) (by first | exact .imm _ | exact (show Fz _ (a0n n.expr) (a0n (exprS (joinL (l.drop (i+1))))) from by rw [a6U hne,ha5];exact .imm _)))) (a1k (by simp [a8S]))
   have hne:(exprV (joinL (l.drop (i+1)))).1=[]:=List.eq_nil_of_length_eq_zero om
   refine ru 15 ?_
   refine a0f ?_
   refine ru 2 ?_
   refine a5q rfl (a0W rfl rfl ty_54.h rqc rfl rfl) (a0q rfl) [(8001,_)] rfl (a0i rfl a0e) ?_
   rw [←ha3];exact a1H (.agg _ _ _ (by exact q9 (.imm _) (a1N (l:=n.groups) (enc:=fun x _=>a0n x) (d:=[]) (List.mem_cons_self ..) rfl rfl (Nat.le_refl _) (fun i j hi hj=>.imm _)) (.imm _) (.imm _) (.imm _) (.imm _) (.imm _) (show Fz _ (a0S n.marks) (a0S n.marks) from .sl _ _ _ _ fun _ _ _ _=>.imm _) (by first | exact .imm _ | exact (show Fz _ (a0n n.expr) (a0n (exprS (joinL (l.drop (i+1))))) from by rw [a6U hne,ha5];exact .imm _)))) (a1k (by simp [a8S]))
  have hv58:v_≠[58]:=(by simpa using hr1);obtain ⟨⟨W_,V_,H_⟩,hC_⟩:∃ q,a3q 61 v_=q:=⟨_,rfl⟩;have hcut:a0p Tryz.prog 65 [a0n v_] (c5B (W_,V_,H_)):=(by rw [←hC_];exact c2K v_ hvl);have hVl:V_.length≤1000000:=(by have:=a3C 61 v_;rw [hC_] at this;have h9:V_.length≤v_.length:=this;omega)
  refine ru 8 ?_
  refine rvl (a0n v_) ((by rw [←hv_];first | done | rfl)) ?_
  refine cll (hcut) ?_
  refine ru 13 ?_
  refine hq_ 63 (a0A (xs:=[_,_]) (pre:=[(8002,_)]) (b4m gm met W_ om) ⟨rfl,⟨rfl,trivial⟩⟩) rfl rfl (a0i rfl a0e) rfl rfl ?_
  refine ru 8 ?_
  refine a0s 67 (a0b (id:=67) (hs:=[_]) ei_44.h omx rfl omx ⟨rfl,rfl,rfl,rfl,trivial⟩) rfl rfl a0e rfl rfl (c':=c+1) rfl ?_
  first
  | refine a0s 68 (a0a ei_44.h omy rfl omy omy (a0v rfl omy) omy rfl) rfl rfl (a0i rfl (a0D rfl)) rfl rfl (c':=c+2) rfl ?_
  | refine a0s 68 (a0a ei_44.h omy rfl omy omy (a0H rfl omy) omy rfl) rfl rfl (a0i rfl (a0D rfl)) rfl rfl (c':=c+2) rfl ?_
  | refine a0s 68 (a0a ei_44.h omy rfl omy omy (a0F rfl) omy rfl) rfl rfl (a0i rfl a0e) rfl rfl (c':=c+2) rfl ?_
  | refine a0s 68 (a0a ei_44.h omy rfl omy omy (a0w 1 (fun _ _=>default) rfl) omy rfl) rfl rfl (a0i rfl a0e) rfl rfl (c':=c+2) rfl ?_
  refine ru 15 ?_
  refine wdc (fun hr3 hc3=>?_) (fun hr3 hc3=>?_)
  ·skip
   have hO:a2B W_ H_=0∧W_=a1o:=(by have h9:W_=a1o∧H_=true:=(by simpa using hc3);unfold a2B;rw [if_pos ⟨h9.1.symm,h9.2.symm⟩];exact ⟨rfl,h9.1⟩)
   refine ru 3 ?_
   refine cll (b0W V_ hVl) ?_
   refine ru 4 ?_
   first
   | refine a4M 81 2 77 true _ (fun hb=>a0A (xs:=[_,_]) (pre:=[(8001,_)]) (b1i g n.groups V_ (by omega)) ⟨rfl,⟨rfl,trivial⟩⟩) rfl rfl rfl rfl (a0i rfl a0e) rfl rfl rfl ?_
   | refine a4d 81 2 77 _ _ true _ (fun hb=>a0A (xs:=[_,_]) (pre:=[(8001,_)]) (b1i g n.groups V_ (by omega)) ⟨rfl,⟨rfl,trivial⟩⟩) rfl rfl rfl rfl (a0i rfl a0e) rfl rfl rfl ?_
   refine ru 15 ?_
   refine a0s 93 (a0b (id:=93) (hs:=[_]) ei_44.h omx rfl omx ⟨rfl,rfl,rfl,rfl,trivial⟩) rfl rfl a0e rfl rfl (c':=c+3) rfl ?_
   first
   | refine a0s 94 (a0a ei_44.h omy rfl omy omy (a0v rfl omy) omy rfl) rfl rfl (a0i rfl (a0D rfl)) rfl rfl (c':=c+4) rfl ?_
   | refine a0s 94 (a0a ei_44.h omy rfl omy omy (a0H rfl omy) omy rfl) rfl rfl (a0i rfl (a0D rfl)) rfl rfl (c':=c+4) rfl ?_
   | refine a0s 94 (a0a ei_44.h omy rfl omy omy (a0F rfl) omy rfl) rfl rfl (a0i rfl a0e) rfl rfl (c':=c+4) rfl ?_
   | refine a0s 94 (a0a ei_44.h omy rfl omy omy (a0w 1 (fun _ _=>default) rfl) omy rfl) rfl rfl (a0i rfl a0e) rfl rfl (c':=c+4) rfl ?_
   refine ru 11 ?_
   refine wdc (fun hr8 hc8=>?_) (fun hr8 hc8=>?_)
   ·skip
    have hq8:=hr8;have hR:(a1r (a2B W_ H_) n V_).2=false:=(by rw [hO.1];unfold a1r;rw [if_pos rfl,if_neg (fun h=>by obtain ⟨h1,h2,h3⟩:=h;simp [h1,h2] at hq8;omega)]);have hbad:=a1R (r:=l.drop (i+1)) (met:=met) (n:=n) hv58 hC_ (.inr (.inr hR))
    refine ru 10 ?_
    refine a0f ?_
    refine ru 2 ?_
    refine rt2 ?_
    rw [←ha3,hbad];exact a1H (.agg _ _ _ (by exact q9 (.imm _) (.nil _ _ _ (by decide) _) (.imm _) (.imm _) (.imm _) (.imm _) (.imm _) (.nil _ _ _ (by decide) _) (.imm _))) (.imm _)
   have hq8:=hr8;have hR:a1r (a2B W_ H_) n V_=({ n with groups:=n.groups++[V_] },true):=(by rw [hO.1];unfold a1r;rw [if_pos rfl,if_pos (by simp at hq8;exact ⟨hq8.1.1,hq8.1.2,by omega⟩)]);have hg4:n.groups.length < 4:=(by simp at hq8;omega);have hon:=a1P (r:=l.drop (i+1)) (met:=met) (n:=n) hv58 hC_ (by rw [hR,hO.1];rintro (h | h | h);omega;exact h.2 hO.2;cases h);rw [ha3,hR] at hon
   refine ru 8 ?_
   exact hL1 ((i+1,{ n with groups:=n.groups++[V_] },met++[W_],_,_)) _ _ (by (try dsimp only);exact ⟨by omega,by omega,by simp;omega,by simp;omega,ha5,hon.symm⟩) (by (try dsimp only);omega) (a0c rfl (Nat.le_refl _) (tsr rfl (tsr rfl (tsr rfl (a0M.cons rfl (a1Y (by simp)) tsa)))) (hsr rfl (a0k.cons rfl (a9A (by exact q9 (.refl _) (a1Y (by simp)) (.refl _) (.refl _) (.refl _) (.refl _) (.refl _) (.refl _) (.refl _))) (a0k.cons rfl (a0z (enc:=fun x _=>a0n x) (d:=[]) rfl (fun i j hi hj=>.refl _) (fun j hj=>.refl _)) (a0k.cons rfl (a0z (enc:=fun x _=>a0n x) (d:=[]) rfl (fun i j hi hj=>.refl _) (fun j hj=>.refl _)) a0k.nil)))))
  have hO3:¬ (a1o=W_∧true=H_):=(fun h=>by have h9:=hr3;simp [←h.1,←h.2] at h9)
  refine ru 11 ?_
  refine wdc (fun hr4 hc4=>?_) (fun hr4 hc4=>?_)
  ·skip
   have hO:a2B W_ H_=1∧W_≠a1o:=(by have h9:W_=a3k∧H_=false:=(by simpa using hc4);unfold a2B;rw [if_neg hO3,if_pos ⟨h9.1.symm,h9.2.symm⟩];exact ⟨rfl,by rw [h9.1];decide⟩)
   refine ru 12 ?_
   refine wdc (fun hr8 hc8=>?_) (fun hr8 hc8=>?_)
   ·skip
    have hR:a1r (a2B W_ H_) n V_=({ n with inl:=true },true):=(by rw [hO.1];first | done | rfl);have hq8:=hr8;have hbad:=a1R (r:=l.drop (i+1)) (met:=met) (n:=n) hv58 hC_ (by rw [hR];exact .inr (.inl ⟨by simpa using hq8,hO.2⟩))
    refine ru 10 ?_
    refine a0f ?_
    refine ru 2 ?_
    refine rt2 ?_
    rw [←ha3,hbad];exact a1H (.agg _ _ _ (by exact q9 (.imm _) (.nil _ _ _ (by decide) _) (.imm _) (.imm _) (.imm _) (.imm _) (.imm _) (.nil _ _ _ (by decide) _) (.imm _))) (.imm _)
   have hR:a1r (a2B W_ H_) n V_=({ n with inl:=true },true):=(by rw [hO.1];first | done | rfl);have hq8:=hr8;have hon:=a1P (r:=l.drop (i+1)) (met:=met) (n:=n) hv58 hC_ (by rw [hR,hO.1];rintro (h | h | h);omega;exact absurd h.1 (by simpa using hq8);cases h);rw [ha3,hR] at hon
   refine ru 8 ?_
   exact hL1 ((i+1,{ n with inl:=true },met++[W_],g,_)) _ _ (by (try dsimp only);exact ⟨by omega,by omega,by simp;omega,ha2,ha5,hon.symm⟩) (by (try dsimp only);omega) (a0c rfl (Nat.le_refl _) (tsr rfl (tsr rfl (tsr rfl (a0M.cons rfl (a1Y (by simp)) tsa)))) (hsr rfl (a0k.cons rfl (a9A (by exact q9 (.refl _) (.refl _) (.refl _) (.refl _) (.refl _) (.refl _) (.refl _) (.refl _) (.refl _))) (hsr rfl (a0k.cons rfl (a0z (enc:=fun x _=>a0n x) (d:=[]) rfl (fun i j hi hj=>.refl _) (fun j hj=>.refl _)) a0k.nil)))))
  have hO4:¬ (a3k=W_∧false=H_):=(fun h=>by have h9:=hr4;simp [←h.1,←h.2] at h9)
  refine ru 11 ?_
  refine wdc (fun hr5 hc5=>?_) (fun hr5 hc5=>?_)
  ·skip
   have hO:a2B W_ H_=2∧W_≠a1o:=(by have h9:W_=a1y∧H_=false:=(by simpa using hc5);unfold a2B;rw [if_neg hO3,if_neg hO4,if_pos ⟨h9.1.symm,h9.2.symm⟩];exact ⟨rfl,by rw [h9.1];decide⟩)
   refine ru 12 ?_
   refine wdc (fun hr8 hc8=>?_) (fun hr8 hc8=>?_)
   ·skip
    have hR:a1r (a2B W_ H_) n V_=({ n with pick:=true },true):=(by rw [hO.1];first | done | rfl);have hq8:=hr8;have hbad:=a1R (r:=l.drop (i+1)) (met:=met) (n:=n) hv58 hC_ (by rw [hR];exact .inr (.inl ⟨by simpa using hq8,hO.2⟩))
    refine ru 10 ?_
    refine a0f ?_
    refine ru 2 ?_
    refine rt2 ?_
    rw [←ha3,hbad];exact a1H (.agg _ _ _ (by exact q9 (.imm _) (.nil _ _ _ (by decide) _) (.imm _) (.imm _) (.imm _) (.imm _) (.imm _) (.nil _ _ _ (by decide) _) (.imm _))) (.imm _)
   have hR:a1r (a2B W_ H_) n V_=({ n with pick:=true },true):=(by rw [hO.1];first | done | rfl);have hq8:=hr8;have hon:=a1P (r:=l.drop (i+1)) (met:=met) (n:=n) hv58 hC_ (by rw [hR,hO.1];rintro (h | h | h);omega;exact absurd h.1 (by simpa using hq8);cases h);rw [ha3,hR] at hon
   refine ru 8 ?_
   exact hL1 ((i+1,{ n with pick:=true },met++[W_],g,_)) _ _ (by (try dsimp only);exact ⟨by omega,by omega,by simp;omega,ha2,ha5,hon.symm⟩) (by (try dsimp only);omega) (a0c rfl (Nat.le_refl _) (tsr rfl (tsr rfl (tsr rfl (a0M.cons rfl (a1Y (by simp)) tsa)))) (hsr rfl (a0k.cons rfl (a9A (by exact q9 (.refl _) (.refl _) (.refl _) (.refl _) (.refl _) (.refl _) (.refl _) (.refl _) (.refl _))) (hsr rfl (a0k.cons rfl (a0z (enc:=fun x _=>a0n x) (d:=[]) rfl (fun i j hi hj=>.refl _) (fun j hj=>.refl _)) a0k.nil)))))
  have hO5:¬ (a1y=W_∧false=H_):=(fun h=>by have h9:=hr5;simp [←h.1,←h.2] at h9)
  refine ru 10 ?_
  refine wdc (fun hr6 hc6=>?_) (fun hr6 hc6=>?_)
  ·skip
   have hO:a2B W_ H_=3∧W_≠a1o:=(by have h9:W_=a1F∧H_=true:=(by simpa using hc6);unfold a2B;rw [if_neg hO3,if_neg hO4,if_neg hO5,if_pos ⟨h9.1.symm,h9.2.symm⟩];exact ⟨rfl,by rw [h9.1];decide⟩)
   refine ru 3 ?_
   refine cll (b5O V_ hVl) ?_
   refine ru 21 ?_
   refine wdc (fun hr8 hc8=>?_) (fun hr8 hc8=>?_)
   ·skip
    have hR:a1r (a2B W_ H_) n V_=({ n with attr:=(a2F V_).getD 0 },(a1g V_).isSome):=(by rw [hO.1];first | done | rfl);have hq8:=hr8;have hbad:=a1R (r:=l.drop (i+1)) (met:=met) (n:=n) hv58 hC_ (by rw [hR];have hvd:=a8B V_;by_cases hm:W_∈met;exact .inr (.inl ⟨hm,hO.2⟩);(refine .inr (.inr ?_);cases hs:(a1g V_).isSome;rfl;exfalso;rw [hs] at hvd;simp [hm] at hq8;simp at hvd;omega))
    refine ru 10 ?_
    refine a0f ?_
    refine ru 2 ?_
    refine rt2 ?_
    rw [←ha3,hbad];exact a1H (.agg _ _ _ (by exact q9 (.imm _) (.nil _ _ _ (by decide) _) (.imm _) (.imm _) (.imm _) (.imm _) (.imm _) (.nil _ _ _ (by decide) _) (.imm _))) (.imm _)
   have hR:a1r (a2B W_ H_) n V_=({ n with attr:=(a2F V_).getD 0 },(a1g V_).isSome):=(by rw [hO.1];first | done | rfl);have hq8:=hr8;have hvs:(a1g V_).isSome=true:=(by rw [←a8B];simp at hq8;omega);have hon:=a1P (r:=l.drop (i+1)) (met:=met) (n:=n) hv58 hC_ (by rw [hR,hO.1];rintro (h | h | h);omega;(simp at hq8;exact hq8.1 h.1);(rw [hvs] at h;cases h));rw [ha3,hR] at hon
   refine ru 8 ?_
   exact hL1 ((i+1,{ n with attr:=(a2F V_).getD 0 },met++[W_],g,_)) _ _ (by (try dsimp only);exact ⟨by omega,by omega,by simp;omega,ha2,ha5,hon.symm⟩) (by (try dsimp only);omega) (a0c rfl (Nat.le_refl _) (tsr rfl (tsr rfl (tsr rfl (a0M.cons rfl (a1Y (by simp)) tsa)))) (hsr rfl (a0k.cons rfl (a9A (by exact q9 (.refl _) (.refl _) (.refl _) (.refl _) (.refl _) (a1b (b5o hvs)) (.refl _) (.refl _) (.refl _))) (hsr rfl (a0k.cons rfl (a0z (enc:=fun x _=>a0n x) (d:=[]) rfl (fun i j hi hj=>.refl _) (fun j hj=>.refl _)) a0k.nil)))))
  have hO6:¬ (a1F=W_∧true=H_):=(fun h=>by have h9:=hr6;simp [←h.1,←h.2] at h9)
  refine ru 10 ?_
  refine wdc (fun hr7 hc7=>?_) (fun hr7 hc7=>?_)
  ·skip
   have hO:a2B W_ H_=4∧W_≠a1o:=(by have h9:W_=a0P∧H_=true:=(by simpa using hc7);unfold a2B;rw [if_neg hO3,if_neg hO4,if_neg hO5,if_neg hO6,if_pos ⟨h9.1.symm,h9.2.symm⟩];exact ⟨rfl,by rw [h9.1];decide⟩)
   refine ru 3 ?_
   refine cll (b9F V_ hVl) ?_
   refine ru 38 ?_
   refine wdc (fun hr8 hc8=>?_) (fun hr8 hc8=>?_)
   ·skip
    have hR:a1r (a2B W_ H_) n V_=({ n with all:=((a0G V_).getD (false,[])).1,marks:=((a0G V_).getD (false,[])).2 },(a0G V_).isSome):=(by rw [hO.1];first | done | rfl);have hq8:=hr8;have hbad:=a1R (r:=l.drop (i+1)) (met:=met) (n:=n) hv58 hC_ (by rw [hR];by_cases hm:W_∈met;exact .inr (.inl ⟨hm,hO.2⟩);(refine .inr (.inr ?_);cases hs:(a0G V_).isSome;rfl;exfalso;rw [hs] at hq8;simp [hm] at hq8))
    refine ru 10 ?_
    refine a0f ?_
    refine ru 2 ?_
    refine rt2 ?_
    rw [←ha3,hbad];exact a1H (.agg _ _ _ (by exact q9 (.imm _) (.nil _ _ _ (by decide) _) (.imm _) (.imm _) (.imm _) (.imm _) (.imm _) (.nil _ _ _ (by decide) _) (.imm _))) (.imm _)
   have hR:a1r (a2B W_ H_) n V_=({ n with all:=((a0G V_).getD (false,[])).1,marks:=((a0G V_).getD (false,[])).2 },(a0G V_).isSome):=(by rw [hO.1];first | done | rfl);have hq8:=hr8;have hon:=a1P (r:=l.drop (i+1)) (met:=met) (n:=n) hv58 hC_ (by rw [hR,hO.1];rintro (h | h | h);omega;(simp at hq8;exact hq8.1 h.1);(have h:(a0G V_).isSome=false:=h;rw [h] at hq8;simp at hq8));rw [ha3,hR] at hon
   refine ru 8 ?_
   exact hL1 ((i+1,{ n with all:=((a0G V_).getD (false,[])).1,marks:=((a0G V_).getD (false,[])).2 },met++[W_],g,_)) _ _ (by (try dsimp only);exact ⟨by omega,by omega,by simp;omega,ha2,ha5,hon.symm⟩) (by (try dsimp only);omega) (a0c rfl (Nat.le_refl _) (tsr rfl (tsr rfl (tsr rfl (a0M.cons rfl (a1Y (by simp)) tsa)))) (hsr rfl (a0k.cons rfl (a9A (by exact q9 (.refl _) (.refl _) (.refl _) (.refl _) (.refl _) (.refl _) (.refl _) (.refl _) (.refl _))) (hsr rfl (a0k.cons rfl (a0z (enc:=fun x _=>a0n x) (d:=[]) rfl (fun i j hi hj=>.refl _) (fun j hj=>.refl _)) a0k.nil)))))
  have hO7:¬ (a0P=W_∧true=H_):=(fun h=>by have h9:=hr7;simp [←h.1,←h.2] at h9);have hO:a2B W_ H_=-1:=(by unfold a2B;rw [if_neg hO3,if_neg hO4,if_neg hO5,if_neg hO6,if_neg hO7])
  refine ru 11 ?_
  refine wdc (fun hr8 hc8=>?_) (fun hr8 hc8=>?_)
  ·skip
   have hbad:=a1R (r:=l.drop (i+1)) (met:=met) (n:=n) hv58 hC_ (.inl om)
   refine ru 10 ?_
   refine a0f ?_
   refine ru 2 ?_
   refine rt2 ?_
   rw [←ha3,hbad];exact a1H (.agg _ _ _ (by exact q9 (.imm _) (.nil _ _ _ (by decide) _) (.imm _) (.imm _) (.imm _) (.imm _) (.imm _) (.nil _ _ _ (by decide) _) (.imm _))) (.imm _)
  exfalso;simp at hr8
 rw [List.drop_of_length_le (show l.length≤i by omega)] at ha3
 refine ru 2 ?_
 refine a0d ?_
 refine ru 10 ?_
 refine a5q rfl (a0W rfl rfl ty_54.h rqc rfl rfl) (a0q rfl) [(8001,_)] rfl (a0i rfl a0e) ?_
 rw [←ha3];exact a1H (.agg _ _ _ (by exact q9 (.imm _) (a1N (l:=n.groups) (enc:=fun x _=>a0n x) (d:=[]) (List.mem_cons_self ..) rfl rfl (Nat.le_refl _) (fun i j hi hj=>.imm _)) (.imm _) (.imm _) (.imm _) (.imm _) (.imm _) (show Fz _ (a0S n.marks) (a0S n.marks) from .sl _ _ _ _ fun _ _ _ _=>.imm _) (.imm _))) (.imm _)
@[reducible] def c5e (g:Nat) (l:List Nd):HObj:=⟨g,l.length,9,54,0,b8r l⟩
@[reducible] def c4g (g:Nat) (l:List Mk):HObj:=⟨g,l.length,4,57,0,c0s l⟩
@[reducible] def c7o (g g1 n1 g2 n2:Nat):HObj:=⟨g,1,2,33,0,fun _=>dcG g1 n1 g2 n2⟩
@[reducible] def rzO (g:Nat):HObj:=⟨g,1,2,33,0,fun _=>zDc⟩
theorem c3y {α:Type} {q:α→Bool} {l:List α} {d:α} (h:∀ j,j < l.length→q (l.getD j d)=false):l.any q=false:=by
 rw [←b4S,a6V h];rfl
theorem c3u {α:Type} {q:α→Bool} {l:List α} {d:α} {k:Nat} (hk:k < l.length) (h:q (l.getD k d)=true):l.any q=true:=by
 rw [List.any_eq_true]
 refine ⟨l[k],List.getElem_mem hk,?_⟩
 rw [List.getD_eq_getElem?_getD,List.getElem?_eq_getElem hk] at h
 exact h
theorem c2x {d:Dc} {l:List Bs} (h:l.length < 2∨nameV (l.getD 1 [])=false∨(l.getD 0 []≠a0U∧l.getD 0 []≠a3s)):a1D d l=(d,2):=by
 unfold a1D
 by_cases h1:l.length < 2∨nameV (l.getD 1 [])=false
 ·rw [if_pos h1]
 ·rcases h with h | h | h
  ·exact absurd (.inl h) h1
  ·exact absurd (.inr h) h1
  ·rw [if_neg h1,if_neg h.1,if_neg h.2]
theorem a6h {kp sh:List (Nat×HObj)} {g1 n1 n1' g2 n2 n2':Nat} {F:Nat→HV} {o1 o2:HObj} (f0:F 0=.os 8101 g1 0 n1) (f1:F 1=.os 8102 g2 0 n2) (k1:n1=n1':=by rfl) (k2:n2=n2':=by rfl) (h1:hget kp 8101=some o1:=by rfl) (e1:o1.g=g1:=by rfl) (h2:hget kp 8102=some o2:=by rfl) (e2:o2.g=g2:=by rfl):Kz kp sh (.agg 2 F) (.agg 2 (dcG g1 n1' g2 n2')):=by
 subst k1;subst k2
 exact .agg _ _ _ fun j hj=>by
  match j,hj with
  | 0,_=>rw [f0];exact .os _ _ _ _ _ h1 e1
  | 1,_=>rw [f1];exact .os _ _ _ _ _ h2 e2
theorem a6K {kp sh:List (Nat×HObj)} {g:Nat} {l:List Nd}:OKz kp sh (c5e g l) (c5e g l):=.of fun i j hi hj=>.fz _ _ (a4U _ j hj)
theorem a6C {kp sh:List (Nat×HObj)} {g:Nat} {l:List Mk}:OKz kp sh (c4g g l) (c4g g l):=.of fun i j hi hj=>.fz _ _ (a4N _ j hj)
theorem c6p (k0 g1 g2:Nat) (d:Dc) (l:List Bs) (hd:d.nodes.length≤24∧d.marks.length≤8) (hl:l.length≤100000) (hw:∀ w∈l,w.length≤100000) (hj:(joinL l).length≤1000000):a3n Tryz.prog 21 k0 [.agg 2 (dcG g1 d.nodes.length g2 d.marks.length),a0S l] [(8101,c5e g1 d.nodes),(8102,c4g g2 d.marks)]
  (a5h (fun (q:Nat×Nat) _=>True) (fun q=>t2 (.agg 2 (dcG q.1 (a1D d l).1.nodes.length q.2 (a1D d l).1.marks.length)) (a0h (a1D d l).2)) (fun q=>[(8101,c5e q.1 (a1D d l).1.nodes),(8102,c4g q.2 (a1D d l).1.marks)])):=by
 have hw1:∀ i,(l.getD i []).length≤1000000:=fun i=>by
  rcases Nat.lt_or_ge i l.length with h | h
  ·have:=hw (l.getD i []) (a2q h);omega
  ·rw [List.getD_eq_getElem?_getD,List.getElem?_eq_none h];exact Nat.zero_le _
 refine a0t Tryz.func21 rfl kr _ _ _ _ rfl 117 rfl rfl (fun X ok hX=>?_)
 refine ru 17 ?_
 refine ry (a0n (l.getD 1 [])) rfl (fun hb=>rfl) ?_
 first
 | refine stg 15 (fun hb=>a0j (xs:=[_]) (b0W (l.getD 1 []) (hw1 1)) ⟨rfl,trivial⟩ ⟨(Fz.eq rfl),trivial⟩) rfl rfl rfl rfl rfl ?_
 | refine sth 15 (fun hb=>a0j (xs:=[_]) (b0W (l.getD 1 []) (hw1 1)) ⟨rfl,trivial⟩ ⟨(Fz.eq rfl),trivial⟩) rfl rfl rfl rfl rfl ?_
 refine ru 6 ?_
 refine ry (a0n (l.getD 0 [])) rfl (fun hb=>rfl) ?_
 refine ru 5 ?_
 refine ry3 (a0n (l.getD 0 [])) rfl rfl (fun hb hb2=>rfl) ?_
 refine ru 5 ?_
 refine wdc (fun hr0 hc0=>?_) (fun hr0 hc0=>?_)
 ·skip
  have hA:a1D d l=(d,2):=(c2x (by rcases hc0 with (h | h) | h;exact .inl om;exact .inr (.inl h);exact .inr (.inr h)))
  refine ru 9 ?_
  refine fr2 ok hX rw2 ((g1,g2)) (trivial) ((by rw [hA];exact a9F (a6h rfl rfl) (a1Q rfl))) ?_
  exact ⟨⟨_,rfl,(by rw [hA];exact a6K)⟩,⟨⟨_,rfl,(by rw [hA];exact a6C)⟩,trivial⟩⟩
 have h0:¬ (l.length < 2∨nameV (l.getD 1 [])=false):=(by have h9:=hc0;rintro (h | h);exact absurd h9.1.1 om;rw [h] at h9;simp at h9);have hnm:l.getD 0 []=a0U∨l.getD 0 []=a3s:=(by by_cases a_:l.getD 0 []=a0U;exact .inl a_;by_cases b_:l.getD 0 []=a3s;exact .inr b_;exfalso;have h9:=hr0;simp only [decide_eq_false a_,decide_eq_false b_,Bool.not_false] at h9;first | (simp at h9;done) | (rw [Bool.or_eq_false_iff] at h9;exact absurd h9.2 (by decide)));have hl2:2≤l.length:=(by rcases Nat.lt_or_ge l.length 2 with h | h;exact absurd (.inl h) h0;exact h)
 refine ru 8 ?_
 refine rvl (a0n (l.getD 0 [])) (rfl) ?_
 refine ru 3 ?_
 refine wdc (fun hr1 hc1=>?_) (fun hr1 hc1=>?_)
 ·skip
  have hm:l.getD 0 []=a3s:=(by simpa using hr1);have hn:l.getD 0 []≠a0U:=(by rw [hm];decide)
  refine ru 3 ?_
  refine cll (c5p l ⟨hl2,hl⟩ hw) ?_
  refine ru 15 ?_
  refine wdc (fun hr2 hc2=>?_) (fun hr2 hc2=>?_)
  ·skip
   have hA:a1D d l=(d,2):=(by unfold a1D;rw [if_neg h0,if_neg hn,if_pos hm,if_pos (by simpa using hr2)])
   refine ru 10 ?_
   refine fr2 ok hX rw2 ((g1,g2)) (trivial) ((by rw [hA];exact a9F (a6h rfl rfl) (a1Q rfl))) ?_
   exact ⟨⟨_,rfl,(by rw [hA];exact a6K)⟩,⟨⟨_,rfl,(by rw [hA];exact a6C)⟩,trivial⟩⟩
  have hok:¬ (a3V l).2=false:=(by simpa using hr2)
  refine ru 9 ?_
  refine a0o (α:=Nat) (fun x c=>⟨117,[(1,.v (a0S l)),(2,.v (.pt 2 k0 0 0)),(4,.v (.pt 4 (k0+1) 0 0)),(6,.v (.pt 6 (k0+2) 0 0)),(8,.v (a0h x))],[(2,c7o k0 g1 d.nodes.length g2 d.marks.length),(4,rzO (k0+1)),(6,⟨k0+2,1,4,57,0,fun _=>a7o (a3V l).1⟩),(8101,c5e g1 d.nodes),(8102,c4g g2 d.marks)],c⟩) (fun x=>x≤d.marks.length∧∀ i,i < x→decide ((d.marks.getD i default).name=(a3V l).1.name)=false) (fun x=>d.marks.length - x) (0) (by exact ⟨Nat.zero_le _,fun i h=>absurd h (Nat.not_lt_zero _)⟩) (a0c rfl (Nat.le_refl _) tsa (a0k.cons rfl (a3U (.refl _) (.refl _)) (a0k.cons rfl (a3U (.refl _) (.refl _)) (a0k.cons rfl (b1K (by exact qm4 (.refl _) (.refl _) (.refl _) (.refl _))) hsa)))) (fun k c hx NhL1 hL1=>?_)
  (try dsimp only at hx hL1 ⊢)
  obtain ⟨hk,hE⟩:=hx
  refine ru 10 ?_
  refine wdc (fun hr3 hc3=>?_) (fun hr3 hc3=>?_)
  ·refine ru 11 ?_
   first
   | refine a4s 59 (HOp.val (v':=a0n (d.marks.getD k default).name) (a0I ty_9.h rfl omy omy (fun h=>(by first | rfl | cases h))) ((by simp only [Nat.zero_add];rfl))) rfl rfl (a0D rfl) rfl rfl (k':=6) rfl ?_
   | refine a4s 59 (HOp.val (v':=a0n (d.marks.getD k default).name) (a0u ty_9.h rfl omy (fun h=>(by first | rfl | cases h))) ((by simp only [Nat.zero_add];rfl))) rfl rfl a0e rfl rfl (k':=6) rfl ?_
   refine ru 5 ?_
   refine wdc (fun hr4 hc4=>?_) (fun hr4 hc4=>?_)
   ·skip
    have hA:a1D d l=(d,9):=(by unfold a1D;rw [if_neg h0,if_neg hn,if_pos hm,if_neg hok,if_pos (c3u (d:=default) (k:=k) om hr4)])
    refine ru 10 ?_
    refine a0f ?_
    refine ru 3 ?_
    refine fr2 ok hX rw2 ((g1,g2)) (trivial) ((by rw [hA];exact a9F (a6h rfl rfl) (a1Q rfl))) ?_
    exact ⟨⟨_,rfl,(by rw [hA];exact a6K)⟩,⟨⟨_,rfl,(by rw [hA];exact a6C)⟩,trivial⟩⟩
   refine ru 8 ?_
   exact hL1 (k+1) _ _ (by (try dsimp only);exact ⟨by omega,fun i hi=>by by_cases e:i=k;(subst e;exact hr4);exact hE i om⟩) (by (try dsimp only);omega) (a0c rfl (Nat.le_refl _) tsa hsa)
  have hn7:¬ (d.marks.any fun o=>decide (o.name=(a3V l).1.name))=true:=(by rw [c3y (d:=default) (fun j hj=>hE j om)];simp)
  refine ru 2 ?_
  refine a0d ?_
  refine ru 11 ?_
  refine wdc (fun hr5 hc5=>?_) (fun hr5 hc5=>?_)
  ·skip
   have hA:a1D d l=(d,4):=(by unfold a1D;rw [if_neg h0,if_neg hn,if_pos hm,if_neg hok,if_neg hn7,if_pos om])
   refine ru 10 ?_
   refine fr2 ok hX rw2 ((g1,g2)) (trivial) ((by rw [hA];exact a9F (a6h rfl rfl) (a1Q rfl))) ?_
   exact ⟨⟨_,rfl,(by rw [hA];exact a6K)⟩,⟨⟨_,rfl,(by rw [hA];exact a6C)⟩,trivial⟩⟩
  have hA:a1D d l=(⟨d.nodes,d.marks++[(a3V l).1]⟩,0):=(by unfold a1D;rw [if_neg h0,if_neg hn,if_pos hm,if_neg hok,if_neg hn7,if_neg om])
  refine ru 7 ?_
  refine a0s 72 (a0b (id:=72) (hs:=[_]) ei_31.h omx rfl omx ⟨rfl,rfl,rfl,rfl,trivial⟩) rfl rfl a0e rfl rfl (c':=c+1) rfl ?_
  first
  | refine a0s 73 (a0a ei_31.h omy rfl omy omy (a0v rfl omy) omy rfl) rfl rfl (a0i rfl (a0D rfl)) rfl rfl (c':=c+2) rfl ?_
  | refine a0s 73 (a0a ei_31.h omy rfl omy omy (a0H rfl omy) omy rfl) rfl rfl (a0i rfl (a0D rfl)) rfl rfl (c':=c+2) rfl ?_
  | refine a0s 73 (a0a ei_31.h omy rfl omy omy (a0F rfl) omy rfl) rfl rfl (a0i rfl a0e) rfl rfl (c':=c+2) rfl ?_
  | refine a0s 73 (a0a ei_31.h omy rfl omy omy (a0w 4 (fun _ _=>default) rfl) omy rfl) rfl rfl (a0i rfl a0e) rfl rfl (c':=c+2) rfl ?_
  refine ru 13 ?_
  refine fr2 ok hX rw2 ((g1,c+1)) (trivial) ((by rw [hA];exact a9F (a6h rfl rfl rfl (by simp)) (a1Q rfl))) ?_
  exact ⟨⟨_,rfl,(by rw [hA];exact a6K)⟩,⟨⟨_,rfl,(by rw [hA];exact a6B (by simp) a4N (by exact qm4 rfl rfl rfl rfl))⟩,trivial⟩⟩
 have hm:¬ l.getD 0 []=a3s:=(by simpa using hr1);have hn:l.getD 0 []=a0U:=hnm.resolve_right hm
 refine ru 5 ?_
 refine cll (c5l l ⟨hl2,hl⟩ hw hj) ?_
 refine ru 15 ?_
 refine wdc (fun hr6 hc6=>?_) (fun hr6 hc6=>?_)
 ·skip
  have hA:a1D d l=(d,2):=(by unfold a1D;rw [if_neg h0,if_pos hn,if_pos (by simpa using hr6)])
  refine ru 9 ?_
  refine fr2 ok hX rw2 ((g1,g2)) (trivial) ((by rw [hA];exact a9F (a6h rfl rfl) (a1Q rfl))) ?_
  exact ⟨⟨_,rfl,(by rw [hA];exact a6K)⟩,⟨⟨_,rfl,(by rw [hA];exact a6C)⟩,trivial⟩⟩
 have hok:¬ (a2r l).2=false:=(by simpa using hr6)
 refine ru 7 ?_
 refine rvl (a0n (a2r l).1.name) (rfl) ?_
 refine ru 3 ?_
 refine wdc (fun hr7 hc7=>?_) (fun hr7 hc7=>?_)
 ·skip
  have hA:a1D d l=(d,9):=(by unfold a1D;rw [if_neg h0,if_pos hn,if_neg hok,if_pos (.inl (by simpa using hr7))])
  refine ru 9 ?_
  refine fr2 ok hX rw2 ((g1,g2)) (trivial) ((by rw [hA];exact a9F (a6h rfl rfl) (a1Q rfl))) ?_
  exact ⟨⟨_,rfl,(by rw [hA];exact a6K)⟩,⟨⟨_,rfl,(by rw [hA];exact a6C)⟩,trivial⟩⟩
 have hnt:¬ (a2r l).1.name=sText:=(by simpa using hr7)
 refine ru 9 ?_
 refine a0o (α:=Nat) (fun x c=>⟨117,[(1,.v (a0S l)),(2,.v (.pt 2 k0 0 0)),(4,.v (.pt 4 (k0+1) 0 0)),(9,.v (.pt 9 (k0+2) 0 0)),(11,.v (a0h x))],[(2,c7o k0 g1 d.nodes.length g2 d.marks.length),(4,rzO (k0+1)),(9,⟨k0+2,1,9,54,0,fun _=>a7I (a2r l).1⟩),(8101,c5e g1 d.nodes),(8102,c4g g2 d.marks)],c⟩) (fun x=>x≤d.nodes.length∧∀ i,i < x→decide ((d.nodes.getD i default).name=(a2r l).1.name)=false) (fun x=>d.nodes.length - x) (0) (by exact ⟨Nat.zero_le _,fun i h=>absurd h (Nat.not_lt_zero _)⟩) (a0c rfl (Nat.le_refl _) tsa (a0k.cons rfl (a3U (.refl _) (.refl _)) (a0k.cons rfl (a3U (.refl _) (.refl _)) (a0k.cons rfl (a9A (by exact q9 (.refl _) (.refl _) (.refl _) (.refl _) (.refl _) (.refl _) (.refl _) (.refl _) (.refl _))) hsa)))) (fun k c hx NhL2 hL2=>?_)
 (try dsimp only at hx hL2 ⊢)
 obtain ⟨hk,hE⟩:=hx
 refine ru 10 ?_
 refine wdc (fun hr8 hc8=>?_) (fun hr8 hc8=>?_)
 ·refine ru 11 ?_
  first
  | refine a4s 100 (HOp.val (v':=a0n (d.nodes.getD k default).name) (a0I ty_9.h rfl omy omy (fun h=>(by first | rfl | cases h))) ((by simp only [Nat.zero_add];rfl))) rfl rfl (a0D rfl) rfl rfl (k':=6) rfl ?_
  | refine a4s 100 (HOp.val (v':=a0n (d.nodes.getD k default).name) (a0u ty_9.h rfl omy (fun h=>(by first | rfl | cases h))) ((by simp only [Nat.zero_add];rfl))) rfl rfl a0e rfl rfl (k':=6) rfl ?_
  refine ru 5 ?_
  refine wdc (fun hr9 hc9=>?_) (fun hr9 hc9=>?_)
  ·skip
   have hA:a1D d l=(d,9):=(by unfold a1D;rw [if_neg h0,if_pos hn,if_neg hok,if_pos (.inr (c3u (d:=default) (k:=k) om hr9))])
   refine ru 10 ?_
   refine a0f ?_
   refine ru 2 ?_
   refine fr2 ok hX rw2 ((g1,g2)) (trivial) ((by rw [hA];exact a9F (a6h rfl rfl) (a1Q rfl))) ?_
   exact ⟨⟨_,rfl,(by rw [hA];exact a6K)⟩,⟨⟨_,rfl,(by rw [hA];exact a6C)⟩,trivial⟩⟩
  refine ru 8 ?_
  exact hL2 (k+1) _ _ (by (try dsimp only);exact ⟨by omega,fun i hi=>by by_cases e:i=k;(subst e;exact hr9);exact hE i om⟩) (by (try dsimp only);omega) (a0c rfl (Nat.le_refl _) tsa hsa)
 have hn3:¬ ((a2r l).1.name=sText∨(d.nodes.any fun o=>decide (o.name=(a2r l).1.name))=true):=(by rintro (h | h);exact hnt h;rw [c3y (d:=default) (fun j hj=>hE j om)] at h;cases h)
 refine ru 2 ?_
 refine a0d ?_
 refine ru 11 ?_
 refine wdc (fun hr10 hc10=>?_) (fun hr10 hc10=>?_)
 ·skip
  have hA:a1D d l=(d,4):=(by unfold a1D;rw [if_neg h0,if_pos hn,if_neg hok,if_neg hn3,if_pos om])
  refine ru 9 ?_
  refine fr2 ok hX rw2 ((g1,g2)) (trivial) ((by rw [hA];exact a9F (a6h rfl rfl) (a1Q rfl))) ?_
  exact ⟨⟨_,rfl,(by rw [hA];exact a6K)⟩,⟨⟨_,rfl,(by rw [hA];exact a6C)⟩,trivial⟩⟩
 have hA:a1D d l=(⟨d.nodes++[(a2r l).1],d.marks⟩,0):=(by unfold a1D;rw [if_neg h0,if_pos hn,if_neg hok,if_neg hn3,if_neg om])
 refine ru 7 ?_
 refine a0s 113 (a0b (id:=113) (hs:=[_]) ei_30.h omx rfl omx ⟨rfl,rfl,rfl,rfl,trivial⟩) rfl rfl a0e rfl rfl (c':=c+1) rfl ?_
 first
 | refine a0s 114 (a0a ei_30.h omy rfl omy omy (a0v rfl omy) omy rfl) rfl rfl (a0i rfl (a0D rfl)) rfl rfl (c':=c+2) rfl ?_
 | refine a0s 114 (a0a ei_30.h omy rfl omy omy (a0H rfl omy) omy rfl) rfl rfl (a0i rfl (a0D rfl)) rfl rfl (c':=c+2) rfl ?_
 | refine a0s 114 (a0a ei_30.h omy rfl omy omy (a0F rfl) omy rfl) rfl rfl (a0i rfl a0e) rfl rfl (c':=c+2) rfl ?_
 | refine a0s 114 (a0a ei_30.h omy rfl omy omy (a0w 9 (fun _ _=>default) rfl) omy rfl) rfl rfl (a0i rfl a0e) rfl rfl (c':=c+2) rfl ?_
 refine ru 12 ?_
 refine fr2 ok hX rw2 ((c+1,g2)) (trivial) ((by rw [hA];exact a9F (a6h rfl rfl (by simp)) (a1Q rfl))) ?_
 exact ⟨⟨_,rfl,(by rw [hA];exact a6B (by simp) a4U (by exact q9 rfl rfl rfl rfl rfl rfl rfl rfl rfl))⟩,⟨⟨_,rfl,(by rw [hA];exact a6C)⟩,trivial⟩⟩
theorem b8P (s:Bs) (hs:s.length≤65536):a0p Tryz.prog 8 [a0n s] (c0Q (declV s)):=by
 obtain ⟨⟨L_,at_,e_⟩,hR_⟩:∃ R_,a1v s=R_:=⟨_,rfl⟩
 have hln:a0p Tryz.prog 19 [a0n s] (b2G (L_,at_,e_)):=by rw [←hR_];exact b6O s hs
 refine a0m Tryz.func8 rfl kr _ _ _ rfl 58 rfl rfl (fun w F=>?_)
 refine ru 10 ?_
 refine cll (hln) ?_
 refine ru 16 ?_
 refine wdc (fun hr0 hc0=>?_) (fun hr0 hc0=>?_)
 ·skip
  have hD:declV s=(Dc.zero,(at_:Int),e_):=(by unfold declV;rw [hR_,if_pos (by simpa using hr0)])
  refine ru 12 ?_
  refine rt3 ?_
  rw [hD];exact a1u (a7M rfl rfl) (.imm _) (.imm _)
 have he0:e_=0:=(by simpa using hr0);have hD:declV s=a1W L_ 0 Dc.zero:=(by unfold declV;rw [hR_,if_neg (by simpa using hr0)]);obtain ⟨hL1,hL2,hL3⟩:=a9k (s:=s) (by rw [hR_];exact he0);rw [hR_] at hL2 hL3;have hL2:L_.length≤65537:=hL2;have hL3:∀ w∈L_,w.length≤s.length:=hL3
 refine ru 16 ?_
 refine (a1J 8 0 8101 9 54 (b8r []) (fun _ j=>match j with | 0=>.os 8101 3 0 0 | _=>.imm (.slice none 0 0)) rfl rfl (by exact fun j hj=>by match j,hj with | 0,_=>exact .inl ⟨rfl,rfl⟩ | 1,_=>exact .inr rfl) (by decide) (by decide) (c':=4) rfl).wp ?_;refine (a1J 8 1 8102 4 57 (c0s []) (fun _=>dcG 3 0 4 0) rfl rfl (by exact fun j hj=>by match j,hj with | 0,_=>exact .inr rfl | 1,_=>exact .inl ⟨rfl,rfl⟩) (by decide) (by decide) (c':=5) rfl).wp ?_
 refine a0o (α:=Nat×Dc×Nat×Nat) (fun x c=>⟨58,[(2,.v (.pt 2 0 0 0)),(5,.v (a0S L_)),(8,.v (.pt 8 1 0 0)),(9,.v (a0h (x.1:Int)))],[(2,rzO 0),(8,c7o 1 x.2.2.1 x.2.1.nodes.length x.2.2.2 x.2.1.marks.length),(8101,c5e x.2.2.1 x.2.1.nodes),(8102,c4g x.2.2.2 x.2.1.marks)],c⟩) (fun x=>x.1≤L_.length∧(x.2.1.nodes.length≤24∧x.2.1.marks.length≤8)∧a1W (L_.drop x.1) x.1 x.2.1=declV s) (fun x=>L_.length - x.1) ((0,Dc.zero,3,4)) (by exact ⟨Nat.zero_le _,⟨Nat.zero_le _,Nat.zero_le _⟩,hD.symm⟩) (a0c rfl (Nat.le_refl _) tsa (a0k.cons rfl (a3U (.refl _) (.refl _)) hsa)) (fun x c hx NhL1 hL1=>?_)
 revert hx hL1;obtain ⟨i,d,g1,g2⟩:=x;intro hx hL1;dsimp only at hx hL1 ⊢
 obtain ⟨ha1,ha2,ha3⟩:=hx
 refine ru 9 ?_
 refine wdc (fun hr1 hc1=>?_) (fun hr1 hc1=>?_)
 ·skip
  have hil:i < L_.length:=om;obtain ⟨v_,hv_⟩:∃ v_,L_.getD i []=v_:=⟨_,rfl⟩;have hd_:L_.drop i=v_::L_.drop (i+1):=(by rw [List.drop_eq_getElem_cons hil,←hv_,List.getD_eq_getElem?_getD,List.getElem?_eq_getElem hil];rfl);have hvl:v_.length≤65536:=(by have:=hL3 v_ (by rw [←hv_];exact a2q hil);omega);rw [hd_,b0g] at ha3;obtain ⟨o_,ho_⟩:∃ o_,a1C v_=o_:=⟨_,rfl⟩;have hsp:a0p Tryz.prog 20 [a0n v_] (b6z o_):=(by rw [←ho_];exact b6P v_ om);rw [ho_] at ha3
  refine ru 10 ?_
  refine rvl (a0n v_) ((by rw [←hv_];first | done | rfl)) ?_
  refine cll (hsp) ?_
  refine ru 9 ?_
  rcases o_ with _ | wl
  ·refine ru 10 ?_
   refine wdc (fun hr2 hc2=>?_) (fun hr2 hc2=>?_)
   ·skip
    exfalso;simp at hr2
   refine ru 8 ?_
   refine wdc (fun hr3 hc3=>?_) (fun hr3 hc3=>?_)
   ·skip
    have ha4:(Dc.zero,((i+1:Nat):Int),(2:Int))=declV s:=ha3
    refine ru 14 ?_
    refine a0f ?_
    refine ru 2 ?_
    refine rt3 ?_
    rw [←ha4];exact a1u (a7M rfl rfl) (Fz.eq (congrArg a0h (show ((i:Nat):Int)+1=((i+1:Nat):Int) from by omega))) (.imm _)
   exfalso;simp at hr3
  ·refine ru 10 ?_
   refine wdc (fun hr2 hc2=>?_) (fun hr2 hc2=>?_)
   ·skip
    have hne:wl≠[]:=(by rintro rfl;simp at hr2);have ha5:(if wl=[] then a1W (L_.drop (i+1)) (i+1) d else if (a1D d wl).2=0 then a1W (L_.drop (i+1)) (i+1) (a1D d wl).1 else (Dc.zero,((i+1:Nat):Int),(a1D d wl).2))=declV s:=ha3;rw [if_neg hne] at ha5;obtain ⟨hW1,hW2⟩:=a6Z ho_;have hWj:=a8Z ho_
    refine ru 3 ?_
    refine a0l 48 (xs:=[_,_]) (pre:=[(8101,_),(8102,_)]) (c6p _ g1 g2 d wl ha2 om (fun w hw=>by have:=hW2 w hw;omega) (by rw [hWj];omega)) ⟨rfl,⟨rfl,trivial⟩⟩ (a0i rfl (a0i rfl a0e)) rfl rfl (fun x1 c1 hx1=>?_)
    obtain ⟨q1,q2⟩:=x1
    (try dsimp only)
    refine ru 13 ?_
    refine wdc (fun hr3 hc3=>?_) (fun hr3 hc3=>?_)
    ·skip
     have ha4:(Dc.zero,((i+1:Nat):Int),(a1D d wl).2)=declV s:=(by rw [if_neg (by simpa using hr3)] at ha5;exact ha5)
     refine ru 14 ?_
     refine a0f ?_
     refine ru 2 ?_
     refine rt3 ?_
     rw [←ha4];exact a1u (a7M rfl rfl) (Fz.eq (congrArg a0h (show ((i:Nat):Int)+1=((i+1:Nat):Int) from by omega))) (.imm _)
    have ha4:a1W (L_.drop (i+1)) (i+1) (a1D d wl).1=declV s:=(by rw [if_pos (by simpa using hr3)] at ha5;exact ha5)
    refine ru 8 ?_
    exact hL1 ((i+1,(a1D d wl).1,q1,q2)) _ _ (by (try dsimp only);exact ⟨by omega,b1W ha2,ha4⟩) (by (try dsimp only);omega) (a0c rfl (Nat.le_refl _) tsa (hsr rfl (a0k.cons rfl (a3U (.refl _) (.refl _)) hsa)))
   have hwe:wl=[]:=(by have h9:=hr2;simp at h9;first | exact h9 | exact List.eq_nil_of_length_eq_zero om);have ha4:a1W (L_.drop (i+1)) (i+1) d=declV s:=(by subst hwe;exact ha3)
   refine ru 8 ?_
   refine wdc (fun hr3 hc3=>?_) (fun hr3 hc3=>?_)
   ·skip
    exfalso;simp at hr3
   refine ru 8 ?_
   exact hL1 ((i+1,d,g1,g2)) _ _ (by (try dsimp only);exact ⟨by omega,ha2,ha4⟩) (by (try dsimp only);omega) (a0c rfl (Nat.le_refl _) tsa hsa)
 rw [List.drop_of_length_le (show L_.length≤i by omega)] at ha3
 refine ru 2 ?_
 refine a0d ?_
 refine ru 11 ?_
 refine a5m rfl (a0W rfl rfl ty_33.h rqc rfl rfl) (a0q rfl) (a0q rfl) [(8101,_),(8102,_)] rfl (a0i rfl (a0i rfl a0e)) ?_
 rw [←ha3];exact a1u (.agg _ _ _ (fun j hj=>by match j,hj with | 0,_=>exact a1N (l:=d.nodes) (enc:=a7I) (d:=default) (List.mem_cons_self ..) rfl rfl (Nat.le_refl _) (fun i j hi hj=>a4U _ j hj) | 1,_=>exact a1N (l:=d.marks) (enc:=a7o) (d:=default) (List.mem_cons_of_mem _ (List.mem_cons_self ..)) rfl rfl (Nat.le_refl _) (fun i j hi hj=>a4N _ j hj))) (.imm _) (.imm _)
def c2S (d:Dc):Prop:=d.nodes.length≤1000000∧d.marks.length≤1000000∧(∀ k,(d.nodes.getD k default).groups.length≤1000000∧(d.nodes.getD k default).marks.length≤1000000)∧∀ k,(d.marks.getD k default).bars.length≤1000000
@[reducible] def rcO (g:Nat) (d:Dc):HObj:=⟨g,1,2,33,0,fun _=>dcF d⟩
theorem c4d (a b:Dc) (hs:c2S a):a0p Tryz.prog 9 [dcV a,dcV b] (a0r (decide (a=b))):=by
 obtain ⟨hs1,hs2,hs3,hs4⟩:=hs
 refine a0m Tryz.func9 rfl kr _ _ _ rfl 151 rfl rfl (fun w F=>?_)
 refine ru 28 ?_
 refine wdc (fun hr0 hc0=>?_) (fun hr0 hc0=>?_)
 ·skip
  have hne:a≠b:=(by rintro rfl;simp at hr0)
  refine ru 7 ?_
  refine rt1 ?_
  exact a1k (by rw [decide_eq_false hne])
 have hl0:a.nodes.length=b.nodes.length∧a.marks.length=b.marks.length:=(by have h9:=hr0;simp at h9;omega)
 refine ru 9 ?_
 refine a0o (α:=Nat) (fun x c=>⟨151,[(2,.v (.pt 2 0 0 0)),(3,.v (.pt 3 1 0 0)),(5,.v (a0h x))],[(2,rcO 0 a),(3,rcO 1 b)],c⟩) (fun x=>x≤a.nodes.length∧∀ i,i < x→a.nodes.getD i default=b.nodes.getD i default) (fun x=>a.nodes.length - x) (0) (by exact ⟨Nat.zero_le _,fun i h=>absurd h (Nat.not_lt_zero _)⟩) (a0c rfl (Nat.le_refl _) tsa hsa) (fun k c hx NhL1 hL1=>?_)
 (try dsimp only at hx hL1 ⊢)
 obtain ⟨hk,hE⟩:=hx
 refine ru 10 ?_
 refine wdc (fun hr1 hc1=>?_) (fun hr1 hc1=>?_)
 ·skip
  have hg1:=hs3 k;obtain ⟨x_,hx_⟩:∃ x_,a.nodes.getD k default=x_:=⟨_,rfl⟩;obtain ⟨y_,hy_⟩:∃ y_,b.nodes.getD k default=y_:=⟨_,rfl⟩;rw [hx_] at hg1
  refine ru 11 ?_
  refine rvl (.agg 9 (a7I x_)) ((by rw [←hx_];first | done | rfl)) ?_
  refine ru 11 ?_
  refine rvl (.agg 9 (a7I y_)) ((by rw [←hy_];first | done | rfl)) ?_
  refine ru 58 ?_
  first
  | refine stg 91 (fun hb=>a0j (xs:=[_,_]) (a7C x_.groups y_.groups hg1.1) ⟨rfl,⟨rfl,trivial⟩⟩ ⟨(Fz.eq rfl),⟨(Fz.eq rfl),trivial⟩⟩) rfl rfl rfl rfl rfl ?_
  | refine sth 91 (fun hb=>a0j (xs:=[_,_]) (a7C x_.groups y_.groups hg1.1) ⟨rfl,⟨rfl,trivial⟩⟩ ⟨(Fz.eq rfl),⟨(Fz.eq rfl),trivial⟩⟩) rfl rfl rfl rfl rfl ?_
  refine ru 7 ?_
  first
  | refine stg 99 (fun hb=>a0j (xs:=[_,_]) (a7C x_.marks y_.marks hg1.2) ⟨rfl,⟨rfl,trivial⟩⟩ ⟨(Fz.eq rfl),⟨(Fz.eq rfl),trivial⟩⟩) rfl rfl rfl rfl rfl ?_
  | refine sth 99 (fun hb=>a0j (xs:=[_,_]) (a7C x_.marks y_.marks hg1.2) ⟨rfl,⟨rfl,trivial⟩⟩ ⟨(Fz.eq rfl),⟨(Fz.eq rfl),trivial⟩⟩) rfl rfl rfl rfl rfl ?_
  refine ru 4 ?_
  refine wdc (fun hr2 hc2=>?_) (fun hr2 hc2=>?_)
  ·skip
   have hne:a≠b:=(by rintro rfl;have h9:=hr2;obtain rfl:x_=y_:=hx_.symm.trans hy_;simp at h9)
   refine ru 8 ?_
   refine a0f ?_
   refine ru 2 ?_
   refine rt1 ?_
   exact a1k (by rw [decide_eq_false hne])
  have hxy:x_=y_:=(by have h9:=hr2;simp at h9;obtain ⟨b1,b2,b3,b4,b5,b6,b7,b8,b9⟩:=x_;obtain ⟨d1,d2,d3,d4,d5,d6,d7,d8,d9⟩:=y_;simp at h9;simp [h9])
  refine ru 8 ?_
  exact hL1 (k+1) _ _ (by (try dsimp only);exact ⟨by omega,fun i hi=>by by_cases e:i=k;(subst e;rw [hx_,hy_];exact hxy);exact hE i om⟩) (by (try dsimp only);omega) (a0c rfl (Nat.le_refl _) tsa hsa)
 have hN:a.nodes=b.nodes:=a4V (d:=default) hl0.1 (fun i hi=>hE i om)
 refine ru 2 ?_
 refine a0d ?_
 refine ru 9 ?_
 refine a0o (α:=Nat) (fun x c=>⟨151,[(2,.v (.pt 2 0 0 0)),(3,.v (.pt 3 1 0 0)),(8,.v (a0h x))],[(2,rcO 0 a),(3,rcO 1 b)],c⟩) (fun x=>x≤a.marks.length∧∀ i,i < x→a.marks.getD i default=b.marks.getD i default) (fun x=>a.marks.length - x) (0) (by exact ⟨Nat.zero_le _,fun i h=>absurd h (Nat.not_lt_zero _)⟩) (a0c rfl (Nat.le_refl _) tsa hsa) (fun k c hx NhL2 hL2=>?_)
 (try dsimp only at hx hL2 ⊢)
 obtain ⟨hk,hE⟩:=hx
 refine ru 10 ?_
 refine wdc (fun hr3 hc3=>?_) (fun hr3 hc3=>?_)
 ·skip
  have hg1:=hs4 k;obtain ⟨x_,hx_⟩:∃ x_,a.marks.getD k default=x_:=⟨_,rfl⟩;obtain ⟨y_,hy_⟩:∃ y_,b.marks.getD k default=y_:=⟨_,rfl⟩;rw [hx_] at hg1
  refine ru 11 ?_
  refine rvl (.agg 4 (a7o x_)) ((by rw [←hx_];first | done | rfl)) ?_
  refine ru 11 ?_
  refine rvl (.agg 4 (a7o y_)) ((by rw [←hy_];first | done | rfl)) ?_
  refine ru 30 ?_
  first
  | refine stg 143 (fun hb=>a0j (xs:=[_,_]) (a7C x_.bars y_.bars hg1) ⟨rfl,⟨rfl,trivial⟩⟩ ⟨(Fz.eq rfl),⟨(Fz.eq rfl),trivial⟩⟩) rfl rfl rfl rfl rfl ?_
  | refine sth 143 (fun hb=>a0j (xs:=[_,_]) (a7C x_.bars y_.bars hg1) ⟨rfl,⟨rfl,trivial⟩⟩ ⟨(Fz.eq rfl),⟨(Fz.eq rfl),trivial⟩⟩) rfl rfl rfl rfl rfl ?_
  refine ru 4 ?_
  refine wdc (fun hr4 hc4=>?_) (fun hr4 hc4=>?_)
  ·skip
   have hne:a≠b:=(by rintro rfl;have h9:=hr4;obtain rfl:x_=y_:=hx_.symm.trans hy_;simp at h9)
   refine ru 8 ?_
   refine a0f ?_
   refine ru 2 ?_
   refine rt1 ?_
   exact a1k (by rw [decide_eq_false hne])
  have hxy:x_=y_:=(by have h9:=hr4;simp at h9;obtain ⟨b1,b2,b3,b4⟩:=x_;obtain ⟨d1,d2,d3,d4⟩:=y_;simp at h9;simp [h9])
  refine ru 8 ?_
  exact hL2 (k+1) _ _ (by (try dsimp only);exact ⟨by omega,fun i hi=>by by_cases e:i=k;(subst e;rw [hx_,hy_];exact hxy);exact hE i om⟩) (by (try dsimp only);omega) (a0c rfl (Nat.le_refl _) tsa hsa)
 have hM:a.marks=b.marks:=a4V (d:=default) hl0.2 (fun i hi=>hE i om)
 refine ru 2 ?_
 refine a0d ?_
 refine ru 8 ?_
 refine rt1 ?_
 exact a1k (by rw [decide_eq_true (show a=b by obtain ⟨b1,b2⟩:=a;obtain ⟨d1,d2⟩:=b;simp at hN hM;simp [hN,hM])])
theorem a5A (a b:List Bs) (ha:a.length≤1000000) (hb:b.length≤1000000):a0p Tryz.prog 32 [a0S a,a0S b] (a0r (decide (a=b))):=by
 refine a0m Tryz.func32 rfl kr _ _ _ rfl 26 rfl rfl (fun w F=>?_)
 refine ru 15 ?_
 refine wdc (fun hr0 hc0=>?_) (fun hr0 hc0=>?_)
 ·refine ru 7 ?_
  refine rt1 ?_
  rw [decide_eq_false (fun h=>hc0 (by rw [h]))];exact .imm _
 refine ru 11 ?_
 refine a0o (α:=Nat) (fun x c=>⟨26,[(0,.v (a0S a)),(1,.v (a0S b)),(12,.v (a0h a.length)),(13,.v (a0h x))],[],c⟩) (fun x=>x≤a.length∧∀ j,j < x→a.getD j []=b.getD j []) (fun x=>a.length - x) (0) (by exact ⟨Nat.zero_le _,fun j hj=>absurd hj (Nat.not_lt_zero _)⟩) (a0c rfl (Nat.le_refl _) tsa a0k.nil) (fun k c hx NhL1 hL1=>?_)
 (try dsimp only at hx hL1 ⊢)
 obtain ⟨hk,hE⟩:=hx
 refine ru 6 ?_
 refine wdc (fun hr1 hc1=>?_) (fun hr1 hc1=>?_)
 ·refine ru 15 ?_
  first
  | refine a4s 19 (HOp.val (v':=a0n (a.getD k [])) (a0I ty_9.h rfl omy omy (fun h=>(by first | rfl | cases h))) (rfl)) rfl rfl (a0D rfl) rfl rfl (k':=4) rfl ?_
  | refine a4s 19 (HOp.val (v':=a0n (a.getD k [])) (a0u ty_9.h rfl omy (fun h=>(by first | rfl | cases h))) (rfl)) rfl rfl a0e rfl rfl (k':=4) rfl ?_
  refine ru 3 ?_
  first
  | refine a4s 23 (HOp.val (v':=a0n (b.getD k [])) (a0I ty_9.h rfl omy omy (fun h=>(by first | rfl | cases h))) (rfl)) rfl rfl (a0D rfl) rfl rfl (k':=8) rfl ?_
  | refine a4s 23 (HOp.val (v':=a0n (b.getD k [])) (a0u ty_9.h rfl omy (fun h=>(by first | rfl | cases h))) (rfl)) rfl rfl a0e rfl rfl (k':=8) rfl ?_
  refine ru 3 ?_
  refine wdc (fun hr2 hc2=>?_) (fun hr2 hc2=>?_)
  ·refine ru 8 ?_
   refine a0f ?_
   refine ru 2 ?_
   refine rt1 ?_
   rw [decide_eq_false (fun h=>by rw [h] at hr2;simp at hr2)];exact .imm _
  refine ru 7 ?_
  exact hL1 (k+1) _ _ (by (try dsimp only);exact ⟨by omega,fun j hj=>by by_cases e:j=k;(· subst e;simpa using hr2);exact hE j om⟩) (by (try dsimp only);omega) (a0c rfl (Nat.le_refl _) tsa a0k.nil)
 refine ru 2 ?_
 refine a0d ?_
 refine ru 8 ?_
 refine rt1 ?_
 rw [decide_eq_true (a4V [] om (fun j hj=>hE j om))];exact .imm _
theorem c7i {x y:Nd} (h1:x.name=y.name) (h2:x.groups=y.groups) (h3:x.inl=y.inl) (h4:x.pick=y.pick) (h5:x.leaf=y.leaf) (h6:x.attr=y.attr) (h7:x.all=y.all) (h8:x.marks=y.marks) (h9:x.expr=y.expr):x=y:=by
 cases x;cases y;simp_all
theorem c6j {x y:Mk} (h1:x.name=y.name) (h2:x.val=y.val) (h3:x.all=y.all) (h4:x.bars=y.bars):x=y:=by
 cases x;cases y;simp_all
theorem c0U (x y:Nd) (hx:x.groups.length≤1000000∧x.marks.length≤1000000) (hy:y.groups.length≤1000000∧y.marks.length≤1000000):a0p Tryz.prog 31 [c2z x,c2z y] (a0r (decide (x=y))):=by
 refine a0m Tryz.func31 rfl kr _ _ _ rfl 68 rfl rfl (fun w F=>?_)
 refine ru 65 ?_
 refine ry (a0S x.groups) rfl (fun hb=>rfl) ?_
 refine ru 2 ?_
 refine ry (a0S y.groups) rfl (fun hb=>rfl) ?_
 first
 | refine stg 54 (fun hb=>a0j (xs:=[_,_]) (a5A x.groups y.groups hx.1 hy.1) ⟨rfl,⟨rfl,trivial⟩⟩ ⟨(Fz.eq rfl),⟨(Fz.eq rfl),trivial⟩⟩) rfl rfl rfl rfl rfl ?_
 | refine sth 54 (fun hb=>a0j (xs:=[_,_]) (a5A x.groups y.groups hx.1 hy.1) ⟨rfl,⟨rfl,trivial⟩⟩ ⟨(Fz.eq rfl),⟨(Fz.eq rfl),trivial⟩⟩) rfl rfl rfl rfl rfl ?_
 refine ru 4 ?_
 refine ry (a0S x.marks) rfl (fun hb=>rfl) ?_
 refine ru 2 ?_
 refine ry (a0S y.marks) rfl (fun hb=>rfl) ?_
 first
 | refine stg 61 (fun hb=>a0j (xs:=[_,_]) (a5A x.marks y.marks hx.2 hy.2) ⟨rfl,⟨rfl,trivial⟩⟩ ⟨(Fz.eq rfl),⟨(Fz.eq rfl),trivial⟩⟩) rfl rfl rfl rfl rfl ?_
 | refine sth 61 (fun hb=>a0j (xs:=[_,_]) (a5A x.marks y.marks hx.2 hy.2) ⟨rfl,⟨rfl,trivial⟩⟩ ⟨(Fz.eq rfl),⟨(Fz.eq rfl),trivial⟩⟩) rfl rfl rfl rfl rfl ?_
 refine ru 5 ?_
 refine rt1 ?_
 exact a1k (by rw [Bool.eq_iff_iff];simp;constructor;(intro h9;apply c7i <;> simp_all);(rintro rfl;simp))
theorem c1E (x y:Mk) (hx:x.bars.length≤1000000) (hy:y.bars.length≤1000000):a0p Tryz.prog 34 [mkV x,mkV y] (a0r (decide (x=y))):=by
 refine a0m Tryz.func34 rfl kr _ _ _ rfl 31 rfl rfl (fun w F=>?_)
 refine ru 31 ?_
 refine ry (a0S x.bars) rfl (fun hb=>rfl) ?_
 refine ru 2 ?_
 refine ry (a0S y.bars) rfl (fun hb=>rfl) ?_
 first
 | refine stg 24 (fun hb=>a0j (xs:=[_,_]) (a5A x.bars y.bars hx hy) ⟨rfl,⟨rfl,trivial⟩⟩ ⟨(Fz.eq rfl),⟨(Fz.eq rfl),trivial⟩⟩) rfl rfl rfl rfl rfl ?_
 | refine sth 24 (fun hb=>a0j (xs:=[_,_]) (a5A x.bars y.bars hx hy) ⟨rfl,⟨rfl,trivial⟩⟩ ⟨(Fz.eq rfl),⟨(Fz.eq rfl),trivial⟩⟩) rfl rfl rfl rfl rfl ?_
 refine ru 5 ?_
 refine rt1 ?_
 exact a1k (by rw [Bool.eq_iff_iff];simp;constructor;(intro h9;apply c6j <;> simp_all);(rintro rfl;simp))
instance frz_nodV9 (n:Nd):Frz (c2z n):=⟨.agg _ _ _ (a4U n)⟩
instance frz_mkV (m:Mk):Frz (mkV m):=⟨.agg _ _ _ (a4N m)⟩
theorem c4J (a b:List Nd) (hla:a.length≤1000000) (hlb:b.length≤1000000) (ha:∀ k,(a.getD k default).groups.length≤1000000∧(a.getD k default).marks.length≤1000000) (hb:∀ k,(b.getD k default).groups.length≤1000000∧(b.getD k default).marks.length≤1000000):a0p Tryz.prog 30 [b7t a,b7t b,.fn (.func 31) 0 (fun _=>default)] (a0r (decide (a=b))):=by
 refine a0m Tryz.func30 rfl kr _ _ _ rfl 32 rfl rfl (fun w F=>?_)
 refine ru 15 ?_
 refine wdc (fun hr0 hc0=>?_) (fun hr0 hc0=>?_)
 ·refine ru 7 ?_
  refine rt1 ?_
  rw [decide_eq_false (fun h=>hc0 (by rw [h]))];exact .imm _
 refine ru 11 ?_
 refine a0o (α:=Nat) (fun x c=>⟨32,[(0,.v (b7t a)),(1,.v (b7t b)),(2,.v (.fn (.func 31) 0 (fun _=>default))),(15,.v (b7t a)),(16,.v (a0h a.length)),(17,.v (a0h x))],[],c⟩) (fun x=>x≤a.length∧∀ j,j < x→a.getD j default=b.getD j default) (fun x=>a.length - x) (0) (by exact ⟨Nat.zero_le _,fun j hj=>absurd hj (Nat.not_lt_zero _)⟩) (a0c rfl (Nat.le_refl _) tsa a0k.nil) (fun k c hx NhL1 hL1=>?_)
 (try dsimp only at hx hL1 ⊢)
 obtain ⟨hk,hE⟩:=hx
 refine ru 6 ?_
 refine wdc (fun hr1 hc1=>?_) (fun hr1 hc1=>?_)
 ·refine ru 28 ?_
  refine rvl (.agg 9 (a7I (a.getD k default))) (rfl) ?_
  refine ru 1 ?_
  refine rvl (.agg 9 (a7I (b.getD k default))) (rfl) ?_
  refine s0 (a7A (xs:=[_,_]) (cs:=[]) (c0U _ _ (ha k) (hb k)) rfl rfl (fun i hi=>by first | rfl | (cases i <;> first | rfl | (simp at hi))) ⟨rfl,⟨rfl,trivial⟩⟩ ⟨(Fz.eq rfl),⟨(Fz.eq rfl),trivial⟩⟩) ?_
  refine ru 3 ?_
  refine wdc (fun hr2 hc2=>?_) (fun hr2 hc2=>?_)
  ·refine ru 8 ?_
   refine a0f ?_
   refine ru 2 ?_
   refine rt1 ?_
   rw [decide_eq_false (fun h=>by rw [h] at hr2;simp at hr2)];exact .imm _
  refine ru 7 ?_
  exact hL1 (k+1) _ _ (by (try dsimp only);exact ⟨by omega,fun j hj=>by by_cases e:j=k;(· subst e;exact of_decide_eq_true (by simpa using hr2));exact hE j om⟩) (by (try dsimp only);omega) (a0c rfl (Nat.le_refl _) tsa a0k.nil)
 refine ru 2 ?_
 refine a0d ?_
 refine ru 8 ?_
 refine rt1 ?_
 rw [decide_eq_true (a4V default om (fun j hj=>hE j om))];exact .imm _
theorem c0P (a b:List Mk) (hla:a.length≤1000000) (hlb:b.length≤1000000) (ha:∀ k,(a.getD k default).bars.length≤1000000) (hb:∀ k,(b.getD k default).bars.length≤1000000):a0p Tryz.prog 33 [b7U a,b7U b,.fn (.func 34) 0 (fun _=>default)] (a0r (decide (a=b))):=by
 refine a0m Tryz.func33 rfl kr _ _ _ rfl 32 rfl rfl (fun w F=>?_)
 refine ru 15 ?_
 refine wdc (fun hr0 hc0=>?_) (fun hr0 hc0=>?_)
 ·refine ru 7 ?_
  refine rt1 ?_
  rw [decide_eq_false (fun h=>hc0 (by rw [h]))];exact .imm _
 refine ru 11 ?_
 refine a0o (α:=Nat) (fun x c=>⟨32,[(0,.v (b7U a)),(1,.v (b7U b)),(2,.v (.fn (.func 34) 0 (fun _=>default))),(15,.v (b7U a)),(16,.v (a0h a.length)),(17,.v (a0h x))],[],c⟩) (fun x=>x≤a.length∧∀ j,j < x→a.getD j default=b.getD j default) (fun x=>a.length - x) (0) (by exact ⟨Nat.zero_le _,fun j hj=>absurd hj (Nat.not_lt_zero _)⟩) (a0c rfl (Nat.le_refl _) tsa a0k.nil) (fun k c hx NhL1 hL1=>?_)
 (try dsimp only at hx hL1 ⊢)
 obtain ⟨hk,hE⟩:=hx
 refine ru 6 ?_
 refine wdc (fun hr1 hc1=>?_) (fun hr1 hc1=>?_)
 ·refine ru 28 ?_
  refine rvl (.agg 4 (a7o (a.getD k default))) (rfl) ?_
  refine ru 1 ?_
  refine rvl (.agg 4 (a7o (b.getD k default))) (rfl) ?_
  refine s0 (a7A (xs:=[_,_]) (cs:=[]) (c1E _ _ (ha k) (hb k)) rfl rfl (fun i hi=>by first | rfl | (cases i <;> first | rfl | (simp at hi))) ⟨rfl,⟨rfl,trivial⟩⟩ ⟨(Fz.eq rfl),⟨(Fz.eq rfl),trivial⟩⟩) ?_
  refine ru 3 ?_
  refine wdc (fun hr2 hc2=>?_) (fun hr2 hc2=>?_)
  ·refine ru 8 ?_
   refine a0f ?_
   refine ru 2 ?_
   refine rt1 ?_
   rw [decide_eq_false (fun h=>by rw [h] at hr2;simp at hr2)];exact .imm _
  refine ru 7 ?_
  exact hL1 (k+1) _ _ (by (try dsimp only);exact ⟨by omega,fun j hj=>by by_cases e:j=k;(· subst e;exact of_decide_eq_true (by simpa using hr2));exact hE j om⟩) (by (try dsimp only);omega) (a0c rfl (Nat.le_refl _) tsa a0k.nil)
 refine ru 2 ?_
 refine a0d ?_
 refine ru 8 ?_
 refine rt1 ?_
 rw [decide_eq_true (a4V default om (fun j hj=>hE j om))];exact .imm _
theorem b4o (a b:Dc) (ha:c2S a) (hb:c2S b):a0p Tryz.prog 15 [dcV a,dcV b] (a0r (decide (a=b))):=by
 obtain ⟨hs1,hs2,hs3,hs4⟩:=ha
 obtain ⟨ht1,ht2,ht3,ht4⟩:=hb
 refine a0m Tryz.func15 rfl kr _ _ _ rfl 17 rfl rfl (fun w F=>?_)
 refine ru 11 ?_
 refine rvl (b7t a.nodes) (rfl) ?_
 refine ru 2 ?_
 refine rvl (b7t b.nodes) (rfl) ?_
 refine s0 (a0j (xs:=[_,_,_]) (c4J a.nodes b.nodes hs1 ht1 hs3 ht3) ⟨rfl,⟨rfl,⟨rfl,trivial⟩⟩⟩ ⟨(c0u _),⟨(c0u _),⟨Frz.fz,trivial⟩⟩⟩) ?_
 refine ru 3 ?_
 refine ry (b7U a.marks) rfl (fun hb=>rfl) ?_
 refine ru 2 ?_
 refine ry (b7U b.marks) rfl (fun hb=>rfl) ?_
 first
 | refine stg 10 (fun hb=>a0j (xs:=[_,_,_]) (c0P a.marks b.marks hs2 ht2 hs4 ht4) ⟨rfl,⟨rfl,⟨rfl,trivial⟩⟩⟩ ⟨(a9n _),⟨(a9n _),⟨Frz.fz,trivial⟩⟩⟩) rfl rfl rfl rfl rfl ?_
 | refine sth 10 (fun hb=>a0j (xs:=[_,_,_]) (c0P a.marks b.marks hs2 ht2 hs4 ht4) ⟨rfl,⟨rfl,⟨rfl,trivial⟩⟩⟩ ⟨(a9n _),⟨(a9n _),⟨Frz.fz,trivial⟩⟩⟩) rfl rfl rfl rfl rfl ?_
 refine ru 5 ?_
 refine rt1 ?_
 exact a1k (by rw [Bool.eq_iff_iff];obtain ⟨b1,b2⟩:=a;obtain ⟨d1,d2⟩:=b;simp)
end Go.Proofs.YtjdmfohncgkdoaaGreatDoor
namespace Go.Proofs.YtjdmfohncgkdoaaGreatDoor
set_option linter.unusedSimpArgs false
set_option linter.unusedVariables false
set_option maxRecDepth 100000
set_option maxHeartbeats 4000000
open Go.RowKit
open Go.Lib (itoa)
def joinC:List Bs→Bs
 | []=>[]
 | [w]=>w
 | w::v::r=>w++44::joinC (v::r)
theorem b2v (ls:List Bs):Go.Lib.join ls [44]=joinC ls:=by
  match ls with
  | []=>rfl
  | [w]=>exact Go.Lib.join_one w [44]
  | w :: v :: r =>
    have:=b2v (v::r)
    simp only [joinC]
    rw [←this,Go.Lib.join_cons,Go.Lib.join_cons]
    simp [Go.Lib.joinTail]
theorem b5N (ls:List Bs) (h1:ls.length≤1000000) (h2:(joinC ls).length≤100000000):a0p Tryz.prog 49 [a0S ls,a0n [44]] (a0n (joinC ls)):=by
 refine ⟨⟨_,_,Tryz.func49,rfl,by kernel_rfl⟩,fun w F vs hF hr hw=>?_⟩
 obtain ⟨u,v,rfl,hu,hv⟩:=c5D hr
 obtain ⟨A,c,rfl,hc,hm,hs⟩:=c0G hu
 rw [hv.imm_inv]
 have hj:Lib.join ((ls.map (fun w:Bs=>(⟨w.toArray⟩:ByteArray))).map (·.data.toList)) [44]=joinC ls:=by
  rw [←b2v,List.map_map]
  congr 1
  exact List.map_id _
 by_cases h0:0 < ls.length
 ·obtain ⟨b,o,rfl,hlt⟩:=hs.addr h0 (by omega)
  have key:=Tryz.strings_Join b o c (ls.map (fun w:Bs=>(⟨w.toArray⟩:ByteArray))) ⟨#[44]⟩ w (fun j x hx=>by
   rw [List.getElem?_map] at hx
   obtain ⟨y,hy,rfl⟩:=Option.map_eq_some_iff.1 hx
   have hj:j < ls.length:=(List.getElem?_eq_some_iff.1 hy).1
   have:=hs.cell1 hj
   rw [this]
   have e:ls[j]=y:=(List.getElem?_eq_some_iff.1 hy).2
   rw [e];rfl) hlt (by rw [List.length_map];omega) (by rw [List.length_map];exact hc) (by
   show (Lib.join _ [44]).length≤_
   rw [hj];omega)
  rw [List.length_map] at key
  refine key.mono ?_
  rintro e w' ⟨rfl,hb⟩
  show a1a w F _ (.returned (.string ⟨(Lib.join _ [44]).toArray⟩)) w'
  rw [hj]
  exact a3j hF hb
 ·obtain rfl:ls=[]:=List.eq_nil_of_length_eq_zero (by omega)
  refine (Tryz.strings_Join_none A c ⟨#[44]⟩ w).mono ?_
  rintro e w' ⟨rfl,rfl⟩
  exact a3j hF (Below.refl _ _)
@[reducible] def swO (g id gr n:Nat):HObj:=⟨g,1,1,65,0,fun _ _=>.os id gr 0 n⟩
def a0x (l:List Bs) (s:Bs) (b:Bool):List Bs:=if b=true then l++[s] else l
def a4R (l:List Bs) (s:Bs) (n:Int):List Bs:=a0x l (s++[61]++itoa n) (decide (n≠0))
def a4e (l:List Bs) (s:Bs) (all:Bool) (r:List Bs):List Bs:=a0x (a0x l (s++[61,42]) all) (s++[61]++joinC r) (decide (0 < r.length))
theorem a2P (l:List Bs) (s:Bs) (b:Bool):(a0x l s b).length≤l.length+1:=by
 unfold a0x;split
 ·rw [List.length_append];exact Nat.le_refl _
 ·omega
theorem a7N {kp sh:List (Nat×HObj)} {g id gr n n':Nat} {o1:HObj} {F:Nat→Nat→HV} (f0:F 0 0=.os id gr 0 n) (k:n=n':=by rfl) (h1:hget kp id=some o1:=by rfl) (e1:o1.g=gr:=by rfl):OKz kp sh ⟨g,1,1,65,0,F⟩ (swO g id gr n'):=by
 subst k
 exact .of fun i j hi hj=>by
  obtain rfl:i=0:=by omega
  obtain rfl:j=0:=by omega
  rw [f0];exact .os _ _ _ _ _ h1 e1
theorem b5i (c g gr:Nat) (l:List Bs) (s:Bs) (b:Bool) (hl:l.length≤1000000):a3n Tryz.prog 27 c [.pt 26 g 0 0,a0n s,a0r b] [(26,swO g 24 gr l.length),(24,a4h gr l)] (a5h (fun (q:Nat) _=>True) (fun _=>.tup 0 fun _=>default) (fun q=>[(26,swO g 24 q (a0x l s b).length),(24,a4h q (a0x l s b))])):=by
 refine a0t Tryz.func27 rfl kr _ _ _ _ rfl 17 rfl rfl (fun X ok hX=>?_)
 refine ru 5 ?_
 refine wdc (fun hr0 hc0=>?_) (fun hr0 hc0=>?_)
 ·skip
  have hb_:a0x l s b=l++[s]:=(by unfold a0x;rw [if_pos (by simpa using hr0)])
  refine ru 7 ?_
  refine a0s 13 (a0b (id:=13) (hs:=[_]) ei_44.h omx rfl omx ⟨rfl,rfl,rfl,rfl,trivial⟩) rfl rfl a0e rfl rfl (c':=c+1) rfl ?_
  first
  | refine a0s 14 (a0a ei_44.h omy rfl omy omy (a0v rfl omy) omy rfl) rfl rfl (a0i rfl (a0D rfl)) rfl rfl (c':=c+2) rfl ?_
  | refine a0s 14 (a0a ei_44.h omy rfl omy omy (a0H rfl omy) omy rfl) rfl rfl (a0i rfl (a0D rfl)) rfl rfl (c':=c+2) rfl ?_
  | refine a0s 14 (a0a ei_44.h omy rfl omy omy (a0F rfl) omy rfl) rfl rfl (a0i rfl a0e) rfl rfl (c':=c+2) rfl ?_
  | refine a0s 14 (a0a ei_44.h omy rfl omy omy (a0w 1 (fun _ _=>default) rfl) omy rfl) rfl rfl (a0i rfl a0e) rfl rfl (c':=c+2) rfl ?_
  refine ru 4 ?_
  refine a1U ?_
  refine a1B ok hX a3y.one rfl  [] rfl a0e ((c+1)) (trivial) (by rfl) (by rfl) (kza) ?_
  exact ⟨⟨_,rfl,(by rw [hb_];exact a7N rfl (by simp))⟩,⟨⟨_,rfl,(by rw [hb_];exact b0O (x:=s) rfl)⟩,trivial⟩⟩
 have hb_:a0x l s b=l:=(by unfold a0x;rw [if_neg (by simpa using hr0)])
 refine ru 1 ?_
 refine a1U ?_
 refine a1B ok hX a3y.one rfl  [] rfl a0e (gr) (trivial) (by rfl) (by rfl) (kza) ?_
 exact ⟨⟨_,rfl,(by rw [hb_];exact a7N rfl)⟩,⟨⟨_,rfl,(by rw [hb_];exact a2e)⟩,trivial⟩⟩
theorem c6F (c g gr:Nat) (l:List Bs) (s:Bs) (n:Int) (hl:l.length≤1000000) (hs:s.length≤100) (h0:-9223372036854775808≤n) (h1:n≤9223372036854775807):a3n Tryz.prog 23 c [.pt 26 g 0 0,a0n s,a0h n] [(26,swO g 24 gr l.length),(24,a4h gr l)] (a5h (fun (q:Nat) _=>True) (fun _=>.tup 0 fun _=>default) (fun q=>[(26,swO g 24 q (a4R l s n).length),(24,a4h q (a4R l s n))])):=by
 have hil:=a3o n ⟨h0,h1⟩
 refine a0t Tryz.func23 rfl kr _ _ _ _ rfl 15 rfl rfl (fun X ok hX=>?_)
 refine ru 5 ?_
 refine cll (c2N n h0 h1) ?_
 refine ru 3 ?_
 refine rvl (a0r (decide (n≠0))) ((congrArg a0r (by by_cases h:n=0 <;> simp [h]))) ?_
 refine a0l 14 (xs:=[_,_,_]) (pre:=[(26,_),(24,_)]) (b5i _ g gr l (s++[61]++itoa n) (decide (n≠0)) hl) ⟨rfl,⟨rfl,⟨rfl,trivial⟩⟩⟩ (a0i rfl (a0i rfl a0e)) rfl rfl (fun q c1 hx1=>?_)
 (try dsimp only)
 refine ru 1 ?_
 refine a1U ?_
 refine a1B ok hX a3y.one rfl  [] rfl a0e (q) (trivial) (by rfl) (by rfl) (kza) ?_
 exact ⟨⟨_,rfl,(a7N rfl)⟩,⟨⟨_,rfl,a2e⟩,trivial⟩⟩
theorem c4G (c g gr:Nat) (l:List Bs) (s:Bs) (all:Bool) (r:List Bs) (hl:l.length≤999999) (hs:s.length≤100) (hr:r.length≤1000000) (hj:(joinC r).length≤100000000):a3n Tryz.prog 24 c [.pt 26 g 0 0,a0n s,a0r all,a0S r] [(26,swO g 24 gr l.length),(24,a4h gr l)] (a5h (fun (q:Nat) _=>True) (fun _=>.tup 0 fun _=>default) (fun q=>[(26,swO g 24 q (a4e l s all r).length),(24,a4h q (a4e l s all r))])):=by
 have hfl:=a2P l (s++[61,42]) all
 refine a0t Tryz.func24 rfl kr _ _ _ _ rfl 23 rfl rfl (fun X ok hX=>?_)
 refine ru 6 ?_
 refine a0l 12 (xs:=[_,_,_]) (pre:=[(26,_),(24,_)]) (b5i _ g gr l (s++[61,42]) all om) ⟨rfl,⟨rfl,⟨rfl,trivial⟩⟩⟩ (a0i rfl (a0i rfl a0e)) rfl rfl (fun q c1 hx1=>?_)
 (try dsimp only)
 refine ru 7 ?_
 refine cll (b5N r hr hj) ?_
 refine ru 4 ?_
 refine rvl (a0r (decide (0 < r.length))) ((congrArg a0r (by rw [Bool.eq_iff_iff];simp only [decide_eq_true_eq];omega))) ?_
 refine a0l 22 (xs:=[_,_,_]) (pre:=[(26,_),(24,_)]) (b5i _ g q (a0x l (s++[61,42]) all) (s++[61]++joinC r) (decide (0 < r.length)) om) ⟨rfl,⟨rfl,⟨rfl,trivial⟩⟩⟩ (a0i rfl (a0i rfl a0e)) rfl rfl (fun q2 c2 hx2=>?_)
 (try dsimp only)
 refine ru 1 ?_
 refine a1U ?_
 refine a1B ok hX a3y.one rfl  [] rfl a0e (q2) (trivial) (by rfl) (by rfl) (kza) ?_
 exact ⟨⟨_,rfl,(a7N rfl)⟩,⟨⟨_,rfl,a2e⟩,trivial⟩⟩
theorem a5x (c g gr:Nat) (l:List Bs) (s:Bs) (b:Bool) (hl:l.length≤1000000):a3n Tryz.prog 27 c [.pt 56 g 0 0,a0n s,a0r b] [(56,swO g 54 gr l.length),(54,a4h gr l)] (a5h (fun (q:Nat) _=>True) (fun _=>.tup 0 fun _=>default) (fun q=>[(56,swO g 54 q (a0x l s b).length),(54,a4h q (a0x l s b))])):=by
 refine a0t Tryz.func27 rfl kr _ _ _ _ rfl 17 rfl rfl (fun X ok hX=>?_)
 refine ru 5 ?_
 refine wdc (fun hr0 hc0=>?_) (fun hr0 hc0=>?_)
 ·skip
  have hb_:a0x l s b=l++[s]:=(by unfold a0x;rw [if_pos (by simpa using hr0)])
  refine ru 7 ?_
  refine a0s 13 (a0b (id:=13) (hs:=[_]) ei_44.h omx rfl omx ⟨rfl,rfl,rfl,rfl,trivial⟩) rfl rfl a0e rfl rfl (c':=c+1) rfl ?_
  first
  | refine a0s 14 (a0a ei_44.h omy rfl omy omy (a0v rfl omy) omy rfl) rfl rfl (a0i rfl (a0D rfl)) rfl rfl (c':=c+2) rfl ?_
  | refine a0s 14 (a0a ei_44.h omy rfl omy omy (a0H rfl omy) omy rfl) rfl rfl (a0i rfl (a0D rfl)) rfl rfl (c':=c+2) rfl ?_
  | refine a0s 14 (a0a ei_44.h omy rfl omy omy (a0F rfl) omy rfl) rfl rfl (a0i rfl a0e) rfl rfl (c':=c+2) rfl ?_
  | refine a0s 14 (a0a ei_44.h omy rfl omy omy (a0w 1 (fun _ _=>default) rfl) omy rfl) rfl rfl (a0i rfl a0e) rfl rfl (c':=c+2) rfl ?_
  refine ru 4 ?_
  refine a1U ?_
  refine a1B ok hX a3y.one rfl  [] rfl a0e ((c+1)) (trivial) (by rfl) (by rfl) (kza) ?_
  exact ⟨⟨_,rfl,(by rw [hb_];exact a7N rfl (by simp))⟩,⟨⟨_,rfl,(by rw [hb_];exact b0O (x:=s) rfl)⟩,trivial⟩⟩
 have hb_:a0x l s b=l:=(by unfold a0x;rw [if_neg (by simpa using hr0)])
 refine ru 1 ?_
 refine a1U ?_
 refine a1B ok hX a3y.one rfl  [] rfl a0e (gr) (trivial) (by rfl) (by rfl) (kza) ?_
 exact ⟨⟨_,rfl,(by rw [hb_];exact a7N rfl)⟩,⟨⟨_,rfl,(by rw [hb_];exact a2e)⟩,trivial⟩⟩
theorem c6T (c g gr:Nat) (l:List Bs) (s:Bs) (n:Int) (hl:l.length≤1000000) (hs:s.length≤100) (h0:-9223372036854775808≤n) (h1:n≤9223372036854775807):a3n Tryz.prog 23 c [.pt 56 g 0 0,a0n s,a0h n] [(56,swO g 54 gr l.length),(54,a4h gr l)] (a5h (fun (q:Nat) _=>True) (fun _=>.tup 0 fun _=>default) (fun q=>[(56,swO g 54 q (a4R l s n).length),(54,a4h q (a4R l s n))])):=by
 have hil:=a3o n ⟨h0,h1⟩
 refine a0t Tryz.func23 rfl kr _ _ _ _ rfl 15 rfl rfl (fun X ok hX=>?_)
 refine ru 5 ?_
 refine cll (c2N n h0 h1) ?_
 refine ru 3 ?_
 refine rvl (a0r (decide (n≠0))) ((congrArg a0r (by by_cases h:n=0 <;> simp [h]))) ?_
 refine a0l 14 (xs:=[_,_,_]) (pre:=[(56,_),(54,_)]) (a5x _ g gr l (s++[61]++itoa n) (decide (n≠0)) hl) ⟨rfl,⟨rfl,⟨rfl,trivial⟩⟩⟩ (a0i rfl (a0i rfl a0e)) rfl rfl (fun q c1 hx1=>?_)
 (try dsimp only)
 refine ru 1 ?_
 refine a1U ?_
 refine a1B ok hX a3y.one rfl  [] rfl a0e (q) (trivial) (by rfl) (by rfl) (kza) ?_
 exact ⟨⟨_,rfl,(a7N rfl)⟩,⟨⟨_,rfl,a2e⟩,trivial⟩⟩
theorem c4S (c g gr:Nat) (l:List Bs) (s:Bs) (all:Bool) (r:List Bs) (hl:l.length≤999999) (hs:s.length≤100) (hr:r.length≤1000000) (hj:(joinC r).length≤100000000):a3n Tryz.prog 24 c [.pt 56 g 0 0,a0n s,a0r all,a0S r] [(56,swO g 54 gr l.length),(54,a4h gr l)] (a5h (fun (q:Nat) _=>True) (fun _=>.tup 0 fun _=>default) (fun q=>[(56,swO g 54 q (a4e l s all r).length),(54,a4h q (a4e l s all r))])):=by
 have hfl:=a2P l (s++[61,42]) all
 refine a0t Tryz.func24 rfl kr _ _ _ _ rfl 23 rfl rfl (fun X ok hX=>?_)
 refine ru 6 ?_
 refine a0l 12 (xs:=[_,_,_]) (pre:=[(56,_),(54,_)]) (a5x _ g gr l (s++[61,42]) all om) ⟨rfl,⟨rfl,⟨rfl,trivial⟩⟩⟩ (a0i rfl (a0i rfl a0e)) rfl rfl (fun q c1 hx1=>?_)
 (try dsimp only)
 refine ru 7 ?_
 refine cll (b5N r hr hj) ?_
 refine ru 4 ?_
 refine rvl (a0r (decide (0 < r.length))) ((congrArg a0r (by rw [Bool.eq_iff_iff];simp only [decide_eq_true_eq];omega))) ?_
 refine a0l 22 (xs:=[_,_,_]) (pre:=[(56,_),(54,_)]) (a5x _ g q (a0x l (s++[61,42]) all) (s++[61]++joinC r) (decide (0 < r.length)) om) ⟨rfl,⟨rfl,⟨rfl,trivial⟩⟩⟩ (a0i rfl (a0i rfl a0e)) rfl rfl (fun q2 c2 hx2=>?_)
 (try dsimp only)
 refine ru 1 ?_
 refine a1U ?_
 refine a1B ok hX a3y.one rfl  [] rfl a0e (q2) (trivial) (by rfl) (by rfl) (kza) ?_
 exact ⟨⟨_,rfl,(a7N rfl)⟩,⟨⟨_,rfl,a2e⟩,trivial⟩⟩
end Go.Proofs.YtjdmfohncgkdoaaGreatDoor
namespace Go.Proofs.YtjdmfohncgkdoaaGreatDoor
set_option linter.unusedSimpArgs false
set_option linter.unusedVariables false
set_option maxRecDepth 100000
set_option maxHeartbeats 4000000
open Go.RowKit
theorem b0J {l:List Nd} {k:Nat} (h:k < l.length):l.take (k+1)=l.take k++[l.getD k default]:=by
 rw [List.take_succ_eq_append_getElem h,List.getD_eq_getElem?_getD,List.getElem?_eq_getElem h];rfl
theorem b0d {l:List Mk} {k:Nat} (h:k < l.length):l.take (k+1)=l.take k++[l.getD k default]:=by
 rw [List.take_succ_eq_append_getElem h,List.getD_eq_getElem?_getD,List.getElem?_eq_getElem h];rfl
theorem b9i {P:Program} {f:FuncId} {fn:Func} {c:Code} (hf:P.funcs[f]?=some fn) (hb:fn.body=some c) (args:List HV) (r:HV) (n:Nat) (hnt:fn.ntmps=n) (hlen:Nat.ble args.length n=true) {w:World} {F:Addr→Prop} {vs:List Value} (hF:∀ a,F a→a.spot=none∧(w.cell? a).isSome=true) (hr:RepAll w (Env.just F) vs args) (hw:LibW w)
  (h:HWp (Ctx.top w F) P c ⟨n,a8T 0 args,[],0⟩ (bodyPost P fn (a1a w F r))):Calls P f vs.toArray w (a1a w F r):=by
 refine calls_of_wp hf hb (a5U.1 (h _ w ?_))
 obtain ⟨hl,hg⟩:=hr.get
 have hlen:args.length≤n:=by simpa using hlen
 refine ⟨Env.just F,Ext.refl _ _,⟨rfl,rfl,rfl,Nat.le_refl _,fun _ _ _=>rfl,hF,fun a ha=>.inl ha,fun _ _=>trivial,hw,(fun b hb=>hb.elim),(fun id o ho=>by cases ho),(fun id id' o o' l l' b ho=>by cases ho)⟩,fun g hg=>hg.elim,?_,rfl,fun t x hx=>?_⟩
 ·simp [hl,hnt];omega
 ·obtain ⟨i,y,rfl,h2,rfl⟩:=a2M args 0 t x hx
  obtain ⟨v,hv,hrep⟩:=hg i y h2
  have hi:i < vs.length:=by
   rcases Nat.lt_or_ge i vs.length with h | h
   ·exact h
   ·rw [List.getElem?_eq_none h] at hv;cases hv
  have:({ tmps:=vs.toArray++Array.replicate (fn.ntmps - vs.toArray.size) undef,defers:=[] }:Act).tmps.getD (0+i) undef=v:=by
   rw [Nat.zero_add]
   simp only [Array.getD_eq_getD_getElem?]
   rw [Array.getElem?_append_left (by simpa using hi)]
   simp [hv]
  rw [this]
  exact hrep
theorem b8e {P:Program} {f:FuncId} {fn:Func} {c:Code} (hf:P.funcs[f]?=some fn) (hb:fn.body=some c) (hn:(fn.name == "runtime.NumGoroutine")=false) (m:Nat) (y:Nat→HV) (r:HV) (n:Nat) (hnt:fn.ntmps=n) (hlen:Nat.ble 1 n=true)
    (h:∀ w F (raw:Nat→Value),(∀ a,F a→a.spot=none∧(w.cell? a).isSome=true)→LibW w→(∀ j,j < m→Rep w (Env.just F) (raw j) (y j))→HWp (Ctx.top w F) P c ⟨n,[(0,.v (.agg m fun j=>.imm (raw j)))],[],0⟩ (bodyPost P fn (a1a w F r))):a0p P f [.agg m y] r:=by
  refine ⟨⟨fn,c,hf,hb,hn⟩,fun w F vs hF hr hw=>?_⟩
  obtain ⟨v,rfl,hv⟩:=c3q hr
  cases hv with
  | agg cs _ _ raw hn2 hcs hy =>
    exact b9i hf hb [.agg m fun j=>.imm (raw j)] r n hnt hlen hF ⟨.agg cs m _ raw hn2 hcs (fun i hi=>.imm _),trivial⟩ hw (h w F raw hF hw hy)
theorem b2N {w:World} {F:Addr→Prop} {n clk:Nat} {tm:List (Nat×TV)} {hp:List (Nat×HObj)} (t:Nat) (x:Value) (y:HV) (h:Rep w (Env.just F) x y) (ht:tget tm t=some (.v (.imm x))):a8i (Ctx.top w F) ⟨n,tm,hp,clk⟩ ⟨n,(t,.v y)::tm,hp,clk⟩:=by
 intro a w' ⟨E,e0,r,hG,hsz,hdf,htm⟩
 refine ⟨E,e0,r,hG,hsz,hdf,fun u z hz=>?_⟩
 change tget ((t,TV.v y)::tm) u=some z at hz
 rw [a0y] at hz
 by_cases hu:u=t
 ·rw [if_pos hu] at hz
  injection hz with hz
  subst hz
  subst hu
  have h1:Rep w' E (a.tmps.getD u undef) (.imm x):=htm u _ ht
  show Rep w' E (a.tmps.getD u undef) y
  rw [h1.imm_inv]
  exact h.ext e0
 ·rw [if_neg hu] at hz
  exact htm u z hz
theorem b6S {w0:World} {F:Addr→Prop} (hF0:∀ a,F a→a.spot=none∧(w0.cell? a).isSome=true) {ops:Array Oper} {Q:Exit→Act→World→Prop} {n clk:Nat} {tm:List (Nat×TV)} {hp:List (Nat×HObj)} {rest:List Oper} {ty:TypeId} {pos:String} {af:Array Edge} {at_:Array TypeId} {t3:Nat} (d g g2 m:Nat) (l:List UInt8)
    (t1 id1 g1 m1 ty1:Nat) (raw:Nat→Value) (y:Nat→HV) (hx:tget tm t3=some (.v (.pt 8001 g 0 0))) (h1:hget hp 8001=some (b1Z g g2 m)) (h2:hget hp 8002=some (b9u g2 m l)) (hm:m=l.length) (hlt:Nat.blt d n=true)
    (hx1:tget tm t1=some (.v (.pt id1 g1 0 0))) (ho1:hget hp id1=some ⟨g1,1,m1,ty1,0,fun _ j=>.imm (raw j)⟩) (hid:id1≠8001) (hty:ty1≠5) (hm1:0 < m1) (hd1:t1≠d∧t3≠d∧t1≠t3) (hy:∀ j,j < m1→Rep w0 (Env.just F) (raw j) (y j))
    (h:∀ (w1:World) (F1:Addr→Prop) (bl:Nat),Below w0.heap.size w0 w1→Lib.IsBuilderF 62 5 w0.heap.size bl (Lib.byteCells l) w1→(∀ a,F a→F1 a)→(∀ a,F1 a→F a∨w0.heap.size≤a.block)→(∀ a,F1 a→a.spot=none∧(w1.cell? a).isSome=true) →
      HSeq (Ctx.top w1 F1) Tryz.prog ops rest ⟨n,[(d,.v (a0n l)),(t1,.v (.fp m1 y)),(t3,.v (.imm (.pointer (some ⟨bl,0,none⟩))))],[],0⟩ Q) :
    HSeq (Ctx.top w0 F) Tryz.prog ops (⟨some d,.call ⟨.value (.func 28),#[.tmp t3],at_⟩,ty,pos,af,none⟩::rest) ⟨n,tm,hp,clk⟩ Q:=by
  intro a w ⟨E,e0,r,hG,hsz,hdf,ht⟩
  have hlt:d < n:=by simpa [Nat.blt_eq] using hlt
  unfold a7m
  rw [if_pos (by simp [Region.wanted])]
  left
  have hv:Rep w E (a.tmps.getD t3 undef) (.pt 8001 g 0 0):=ht t3 _ hx
  obtain ⟨lc,bl,cs,hl,hlg,hlsz,hlA,hB,hcs,hnc,hmx,vs,hvs⟩:=r.objAt h1 (by show 0 < 1;omega)
  have notK:∀ id o l b,hget hp id=some o→E.L id=some l→l.A=some b→w0.heap.size≤b:=by
    intro id o l b ho hl hb
    obtain ⟨l',hl',at_⟩:=r.obj id o ho
    rw [hl] at hl';injection hl' with hl';subst hl'
    rcases Nat.lt_or_ge b w0.heap.size with hlt | hge
    · exact absurd trivial (at_.notK hb hlt)
    · exact hge
  generalize hρ:a.tmps.getD t3 undef=u at hv
  cases hv with
  | pt b k _ _ _ _ hgg hh =>
    obtain ⟨hb,rfl⟩:=hh lc hl hlg
    rw [hlA] at hb;injection hb with hb;subst hb
    rw [show 0 * lc.sz+0=0 from by simp] at hρ
    have hBl:=notK 8001 _ lc bl h1 hl hlA
    have c0:=hvs 0 0 (by show 0 < 1;omega) (by show 0 < 2;omega)
    have c1:=hvs 0 1 (by show 0 < 1;omega) (by show 1 < 2;omega)
    have k0:cs[0]?=some (vs 0 0):=c0.1
    have k1:cs[1]?=some (vs 0 1):=c1.1
    have r0:Rep w E (vs 0 0) (.nps 8001 g):=c0.2.2
    have r1:Rep w E (vs 0 1) (.os 8002 g2 0 m):=c1.2.2
    obtain ⟨l2,xs,hl2,hown,hcap2,hxs⟩:=r.owns h2 m (Nat.le_refl _) (Nat.zero_le _)
    obtain ⟨l2',hl2',at2⟩:=r.obj 8002 _ h2
    rw [hl2] at hl2';injection hl2' with hl2';subst hl2'
    have hbuf:vs 0 1=.slice (l2.A.map fun b=>⟨b,0,none⟩) m l2.cap:=by
      generalize vs 0 1=u at r1
      cases r1 with
      | os A1 _ c1 _ _ _ hgg hc hmm hA hz0 =>
        obtain ⟨rfl,rfl⟩:=b5u (hz0 l2 hl2 at2.g)
        rfl
    have hxsl:xs=Lib.byteCells l:=by
      have hxl:xs.length=m:=by simpa using hown.1
      apply List.ext_getElem?
      intro p
      by_cases hp:p < m
      · obtain ⟨u,h1,_,h3⟩:=hxs p 0 hp (by show 0 < 1;omega)
        have h3:Rep w E u (u8V (l.getD p 0)):=h3
        rw [h3.imm_inv] at h1
        have h1:xs[p * 1+0]?=_:=h1
        rw [Nat.mul_one,Nat.add_zero] at h1
        rw [h1]
        simp [Lib.byteCells,List.getD_eq_getElem?_getD,show p < l.length from by omega]
      · rw [List.getElem?_eq_none (by omega),List.getElem?_eq_none (by rw [Lib.byteCells_length];omega)]
    have hbase:w.ownsRow w0.heap.size 5 1 (.slice (l2.A.map fun b=>⟨b,0,none⟩) m l2.cap) m (Lib.byteCells l):=by
      rw [←hxsl]
      refine ⟨hown.1,?_⟩
      rcases hown.2 with h0 | ⟨g',cap,cur,hv,_,r⟩
      · exact .inl h0
      · refine .inr ⟨g',cap,cur,hv,?_,r⟩
        injection hv with hv _ _
        cases hA2:l2.A with
        | none=>rw [hA2] at hv;cases hv
        | some b2 =>
          rw [hA2] at hv
          injection hv with hv
          injection hv with hv
          subst hv
          exact notK 8002 _ l2 b2 h2 hl2 hA2
    have hne:∀ b,l2.A=some b→bl≠b:=by
      intro b hb he
      subst he
      exact absurd (r.inj 8001 8002 _ _ lc l2 bl h1 h2 hl hl2 hlA hb) (by decide)
    have hcap1:lc.cap=1∧(vs 0 0=.pointer none∨vs 0 0=.pointer (some ⟨bl,0,none⟩)):=by
      generalize vs 0 0=u at r0
      cases r0 with
      | npn _ _ _ hc=>exact ⟨hc lc hl hlg,.inl rfl⟩
      | npp _ _ _ _ hc hp =>
        refine ⟨hc lc hl hlg,.inr ?_⟩
        cases hp with
        | pt b' k' _ _ _ _ _ hh' =>
          obtain ⟨hb',hk'⟩:=hh' lc hl hlg
          rw [hlA] at hb';injection hb' with hb';subst hb'
          have hk0:k'=0:=by rw [hk'];simp
          rw [hk0]
    have hcs2:cs=#[vs 0 0,vs 0 1]:=by
      apply Array.ext_getElem?
      intro i
      match i with
      | 0=>exact k0
      | 1=>exact k1
      | i+2=>rw [Array.getElem?_eq_none (by rw [hcs,hcap1.1];show 1 * 2≤i+2;omega),Array.getElem?_eq_none (by simp)]
    have hat:∀ p,vs 0 0=p→Lib.BuilderAt 62 5 w0.heap.size bl p (Lib.byteCells l) w:=by
      rintro p rfl
      refine ⟨hBl,vs 0 1,?_,?_,?_⟩
      · have:=hB
        unfold Blk at this
        rw [this,hcs2]
      · rw [hbuf,Lib.byteCells_length,←hm];exact hbase
      · rw [hbuf]
        cases hA2:l2.A with
        | none=>simp [Value.ownBlock]
        | some b2 =>
          intro he
          have:bl=b2:=by simp [Value.ownBlock] at he;exact he.symm
          exact hne b2 hA2 this
    have hbuilder:Lib.IsBuilder 62 5 w0.heap.size bl (Lib.byteCells l) w:=hcap1.2.imp (fun h=>hat _ h) (fun h=>hat _ h)
    have hfn:c3z Tryz.prog 28:=⟨_,_,Tryz.func28,rfl,by kernel_rfl⟩
    unfold Oper.wp execOp
    have hρ2:a.eval (.tmp t3)=.pointer (some ⟨bl,0,none⟩):=hρ
    have hargs:(#[.tmp t3]:Array Operand).map a.eval=#[.pointer (some ⟨bl,0,none⟩)]:=by simp [hρ2]
    simp only [resolve,Act.eval,Deferred.ofValue,invoke,Sem.run_bind,Sem.run_pure,Result.andThen_ok,Array.empty_append,Array.append_empty]
    rw [a0Z hfn]
    simp only [Oper.upon]
    rw [show (#[.tmp t3]:Array Operand).map (fun x=>a.eval x)=#[.pointer (some ⟨bl,0,none⟩)] from hargs]
    obtain ⟨l1,b1,cs1,hl1,hlg1,hlsz1,hlA1,hB1,hcs1,hnc1,hmx1,vs1,hvs1⟩:=r.objAt ho1 (by show 0 < 1;omega)
    have hne1:b1≠bl:=fun he=>by
      subst he
      exact hid (r.inj id1 8001 _ _ l1 lc b1 ho1 h1 hl1 hl hlA1 hlA)
    have hb1B:w0.heap.size≤b1:=notK id1 _ l1 b1 ho1 hl1 hlA1
    have hcell1:∀ j,j < m1→cs1[j]?=some (raw j)∧(raw j).oneCell'=true:=fun j hj=>by
      obtain ⟨q1,q2,q3⟩:=hvs1 0 j (by show 0 < 1;omega) hj
      have q3:Rep w E (vs1 0 j) (.imm (raw j)):=q3
      rw [q3.imm_inv] at q1 q2
      exact ⟨by simpa using q1,q2⟩
    have hp1:a.tmps.getD t1 undef=.pointer (some ⟨b1,0,none⟩):=by
      have q:Rep w E (a.tmps.getD t1 undef) (.pt id1 g1 0 0):=ht t1 _ hx1
      generalize a.tmps.getD t1 undef=u at q
      cases q with
      | pt b' k' _ _ _ _ _ hh' =>
        obtain ⟨hb',hk'⟩:=hh' l1 hl1 hlg1
        rw [hlA1] at hb';injection hb' with hb';subst hb'
        have hk0:k'=0:=by rw [hk'];simp
        rw [hk0]
    refine (Any.Builder_String_any_k Tryz.lays169 Tryz.Builder_Extra_169 w0.heap.size bl l w (Lib.IsBuilderF.of hbuilder) r.size).mono ?_
    rintro e w' ⟨rfl,hbf,hb,hok⟩
    have hb0:Below w0.heap.size w0 w':=by
      refine ⟨hb.os.trans r.os,hb.tape.trans r.tape,hb.output.trans r.output,Nat.le_trans r.size hb.size,fun k hk=>(hb.block k hk).trans (r.keep k hk trivial)⟩
    have hblk1:w'.heap[b1]?=some (.cells cs1 ty1 (0,0)):=hok b1 _ hB1 (fun he=>hne1 (by injection he)) (fun c fz he=>hty (by injection he))
    have hc1:∀ j,j < m1→w'.cell? ⟨b1,j,none⟩=some (raw j):=fun j hj=>by
      rw [Lib.cell_of_heap hblk1];exact (hcell1 j hj).1
    have hFn:∀ p,F p→p.spot=none∧(w'.cell? p).isSome=true:=fun p hp=>⟨(hF0 p hp).1,by rw [World.cell?_of_block (hb0.block _ (a1e (hF0 p hp).2))];exact (hF0 p hp).2⟩
    have hex:Ext w0 (Env.just F) w' (Env.just fun p=>F p∨∃ j,j < m1∧p=⟨b1,j,none⟩):=⟨hb0.size,fun p hp=>⟨.inl hp,World.cell?_of_block (hb0.block _ (a1e (hF0 p hp).2))⟩,fun _ h=>h,fun _ _ h _=>h,fun _ h=>h⟩
    have hF1:∀ p,(F p∨∃ j,j < m1∧p=(⟨b1,j,none⟩:Addr))→p.spot=none∧(w'.cell? p).isSome=true:=by
      rintro p (hp | ⟨j,hj,rfl⟩)
      · exact hFn p hp
      · exact ⟨rfl,by rw [hc1 j hj];rfl⟩
    refine h w' (fun p=>F p∨∃ j,j < m1∧p=⟨b1,j,none⟩) bl hb0 hbf (fun p hp=>.inl hp) (fun p hp=>?_) hF1 _ w' ⟨Env.just fun p=>F p∨∃ j,j < m1∧p=⟨b1,j,none⟩,Ext.refl _ _,⟨rfl,rfl,rfl,Nat.le_refl _,fun k _ _=>rfl,hF1,fun p hp=>.inl hp,fun _ _=>trivial,r.lib.below hb0,(fun b hb=>hb.elim),(fun id o ho=>by cases ho),(fun id id' o o' l l' b ho=>by cases ho)⟩,fun g hg=>hg.elim,by simp [Act.put,hsz],hdf,fun t z hz=>?_⟩
    · rcases hp with hp | ⟨j,hj,rfl⟩
      · exact .inl hp
      · exact .inr hb1B
    · simp only [a0y] at hz
      split at hz
      · rename_i htd
        subst htd
        injection hz with hz
        subst hz
        rw [a0O (by rw [hsz];exact hlt)]
        exact .imm _
      · split at hz
        · rename_i hn1 htd
          subst htd
          injection hz with hz
          subst hz
          rw [a0C hd1.1,hp1]
          exact .fp b1 0 m1 y raw (fun j hj=>⟨.inr ⟨j,hj,by simp⟩,by rw [Nat.zero_add];exact hc1 j hj,(hcell1 j hj).2⟩) (fun j hj=>(hy j hj).ext hex)
        · split at hz
          · rename_i hn1 hn2 htd
            subst htd
            injection hz with hz
            subst hz
            rw [a0C hd1.2.1,hρ]
            exact .imm _
          · cases hz
theorem b5R {w0 w1:World} {F F1:Addr→Prop} (hF0:∀ a,F a→a.spot=none∧(w0.cell? a).isSome=true) (hl:LibW w0) (hb:Below w0.heap.size w0 w1) {s:HSt} {a:Act} {w:World} (h:Sat (Ctx.top w1 F1) s a w):Below w0.heap.size w0 w∧a.tmps.size=s.n∧a.defers=[]:=by
 obtain ⟨E,e0,r,hG,hsz,hdf,ht⟩:=h
 exact ⟨⟨r.os.trans hb.os,r.tape.trans hb.tape,r.output.trans hb.output,Nat.le_trans hb.size r.size,fun k hk=>(r.keep k (Nat.lt_of_lt_of_le hk hb.size) trivial).trans (hb.block k hk)⟩,hsz,hdf⟩
theorem b6G {w0 w:World} {F:Addr→Prop} (hF0:∀ a,F a→a.spot=none∧(w0.cell? a).isSome=true) (hl:LibW w0) (hb:Below w0.heap.size w0 w) {n:Nat} {a:Act} (hs:a.tmps.size=n) (hd:a.defers=[]) {tm:List (Nat×TV)} (htm:∀ t x,tget tm t=some x→TVRep w (Env.just F) a (a.tmps.getD t undef) x):Sat (Ctx.top w0 F) ⟨n,tm,[],0⟩ a w:=by
 have hFs:∀ p,F p→p.spot=none∧p.block < w0.heap.size:=fun p hp=>⟨(hF0 p hp).1,a1e (hF0 p hp).2⟩
 refine ⟨Env.just F,⟨hb.size,fun p hp=>⟨hp,World.cell?_of_block (hb.block _ (hFs p hp).2)⟩,fun _ h=>h,fun _ _ h _=>h,fun _ h=>h⟩,⟨hb.os,hb.tape,hb.output,hb.size,fun k hk _=>hb.block k hk,fun p hp=>?_,fun p hp=>.inl hp,fun _ _=>trivial,hl,(fun b hb=>hb.elim),(fun id o ho=>by cases ho),(fun id id' o o' l l' b ho=>by cases ho)⟩,fun g hg=>hg.elim,hs,hd,htm⟩
 exact ⟨(hFs p hp).1,by rw [World.cell?_of_block (hb.block _ (hFs p hp).2)];exact (hF0 p hp).2⟩
theorem c1G {w0 w1:World} {F F1:Addr→Prop} (hF0:∀ a,F a→a.spot=none∧(w0.cell? a).isSome=true) (hl:LibW w0) (hb:Below w0.heap.size w0 w1) {P:Program} {c:Code} {s:HSt} {Q:Exit→Act→World→Prop} (h:HWp (Ctx.top w0 F) P c ⟨s.n,[],[],0⟩ Q):HWp (Ctx.top w1 F1) P c s Q:=by
 intro a w hs
 obtain ⟨h1,h2,h3⟩:=b5R hF0 hl hb hs
 exact h a w (b6G hF0 hl h1 h2 h3 (fun t x hx=>by cases hx))
theorem b6K {w0 w1:World} {F F1:Addr→Prop} (hF0:∀ a,F a→a.spot=none∧(w0.cell? a).isSome=true) (hl:LibW w0) (hb:Below w0.heap.size w0 w1) {ops:Array Oper} {Q:Exit→Act→World→Prop} {n clk:Nat} {tm:List (Nat×TV)} {hp:List (Nat×HObj)} {rest:List Oper} {ty:TypeId} {pos:String} {af:Array Edge} {at_:Array TypeId} {t3:Nat} (d bl:Nat) (l:List UInt8)
  (hx:tget tm t3=some (.v (.imm (.pointer (some ⟨bl,0,none⟩))))) (hbf:Lib.IsBuilderF 62 5 w0.heap.size bl (Lib.byteCells l) w1) (hlt:Nat.blt d n=true)
  (h:HSeq (Ctx.top w0 F) Tryz.prog ops rest ⟨n,[(d,.v (a0n l))],[],0⟩ Q) :
  HSeq (Ctx.top w1 F1) Tryz.prog ops (⟨some d,.call ⟨.value (.func 28),#[.tmp t3],at_⟩,ty,pos,af,none⟩::rest) ⟨n,tm,hp,clk⟩ Q:=by
 intro a w hs
 obtain ⟨k1,k2,k3⟩:=b5R hF0 hl hb hs
 obtain ⟨E,e0,r,hG,hsz,hdf,ht⟩:=hs
 have hlt:d < n:=by simpa [Nat.blt_eq] using hlt
 have hρ:a.tmps.getD t3 undef=.pointer (some ⟨bl,0,none⟩):=by
  have q:Rep w E (a.tmps.getD t3 undef) (.imm (.pointer (some ⟨bl,0,none⟩))):=ht t3 _ hx
  exact q.imm_inv
 have hat:∀ p,Lib.BuilderAtF 62 5 w0.heap.size bl p (Lib.byteCells l) w1→Lib.BuilderAtF 62 5 w0.heap.size bl p (Lib.byteCells l) w:=by
  rintro p ⟨q1,v,q2,q3,q4⟩
  refine ⟨q1,v,(r.keep bl (a1i q2) trivial).trans q2,⟨q3.1,?_⟩,q4⟩
  rcases q3.2 with q | ⟨g,cap,cur,fz,z1,z2,z3,z4⟩
  ·exact .inl q
  ·exact .inr ⟨g,cap,cur,fz,z1,z2,(r.keep g (a1i z3) trivial).trans z3,z4⟩
 have hbf':Lib.IsBuilderF 62 5 w0.heap.size bl (Lib.byteCells l) w:=hbf.imp (hat _) (hat _)
 unfold a7m
 rw [if_pos (by simp [Region.wanted])]
 left
 have hfn:c3z Tryz.prog 28:=⟨_,_,Tryz.func28,rfl,by kernel_rfl⟩
 unfold Oper.wp execOp
 have hρ2:a.eval (.tmp t3)=.pointer (some ⟨bl,0,none⟩):=hρ
 have hargs:(#[.tmp t3]:Array Operand).map a.eval=#[.pointer (some ⟨bl,0,none⟩)]:=by simp [hρ2]
 simp only [resolve,Act.eval,Deferred.ofValue,invoke,Sem.run_bind,Sem.run_pure,Result.andThen_ok,Array.empty_append,Array.append_empty]
 rw [a0Z hfn]
 simp only [Oper.upon]
 rw [show (#[.tmp t3]:Array Operand).map (fun x=>a.eval x)=#[.pointer (some ⟨bl,0,none⟩)] from hargs]
 refine (Any.Builder_String_any_k Tryz.lays169 Tryz.Builder_Extra_169 w0.heap.size bl l w hbf' k1.size).mono ?_
 rintro e w' ⟨rfl,_,hb2,_⟩
 have hb0:Below w0.heap.size w0 w':=⟨hb2.os.trans k1.os,hb2.tape.trans k1.tape,hb2.output.trans k1.output,Nat.le_trans k1.size hb2.size,fun k hk=>(hb2.block k hk).trans (k1.block k hk)⟩
 refine h _ w' (b6G (a:=a.put (some d) (.string ⟨l.toArray⟩)) (n:=n) hF0 hl hb0 (by simp [Act.put,k2]) k3 fun t z hz=>?_)
 rw [a0y] at hz
 by_cases htd:t=d
 ·rw [if_pos htd] at hz
  injection hz with hz
  subst hz
  subst htd
  rw [a0O (by rw [k2];exact hlt)]
  exact .imm _
 ·rw [if_neg htd] at hz;cases hz
end Go.Proofs.YtjdmfohncgkdoaaGreatDoor
namespace Go.Proofs.YtjdmfohncgkdoaaGreatDoor
set_option linter.unusedSimpArgs false
set_option linter.unusedVariables false
set_option maxRecDepth 100000
set_option maxHeartbeats 4000000
open Go.RowKit
open Go.Lib (itoa)
@[reducible] def b6v:Bs:=[103,114,111,117,112,61]
def markW (m:Mk):List Bs:=a4e (a4R [a3s,m.name] a6t m.val) a2i m.all m.bars
def a2D (l:List Bs) (gs:List Bs):List Bs:=l++gs.map fun g=>b6v++g
def nodeW (n:Nd):List Bs:=a0x (a0x (a4e (a4R (a0x (a0x (a2D [a0U,n.name] n.groups) a3k n.inl) a1y n.pick) a1F n.attr) a0P n.all n.marks) [58] (!n.leaf)) n.expr (decide (n.expr≠[]))
def a1M (l:List Mk):Bs:=l.flatMap fun m=>joinL (markW m)++[10]
def a2c (l:List Nd):Bs:=l.flatMap fun n=>joinL (nodeW n)++[10]
def linesD (d:Dc):Bs:=a1M d.marks++a2c d.nodes
open Classical in
noncomputable def a6u (d:Dc):Bs:=if (declV (linesD d)).2.2=0∧(declV (linesD d)).1=d then linesD d else []
structure MkB (m:Mk):Prop where
 name:m.name.length≤10000000
 lo:-9223372036854775808≤m.val
 hi:m.val≤9223372036854775807
 bars:m.bars.length≤1000000
 join:(joinC m.bars).length≤10000000
 line:(joinL (markW m)).length≤100000000
structure NdB (n:Nd):Prop where
 name:n.name.length≤10000000
 groups:n.groups.length≤100
 group:∀ k,(n.groups.getD k []).length≤10000000
 lo:-9223372036854775808≤n.attr
 hi:n.attr≤9223372036854775807
 marks:n.marks.length≤1000000
 join:(joinC n.marks).length≤10000000
 expr:n.expr.length≤10000000
 line:(joinL (nodeW n)).length≤100000000
structure DcB (d:Dc):Prop where
 ln:d.nodes.length≤1000000
 lm:d.marks.length≤1000000
 nodes:∀ k,k < d.nodes.length→NdB (d.nodes.getD k default)
 marks:∀ k,k < d.marks.length→MkB (d.marks.getD k default)
 all:(linesD d).length≤1000000000
theorem a3R (l:List Mk) (m:Mk):a1M (l++[m])=a1M l++(joinL (markW m)++[10]):=by simp [a1M]
theorem a4b (l:List Nd) (n:Nd):a2c (l++[n])=a2c l++(joinL (nodeW n)++[10]):=by simp [a2c]
theorem a8F (l:List Mk) (k:Nat):(a1M (l.take k)).length≤(a1M l).length:=by
 have:a1M l=a1M (l.take k)++a1M (l.drop k):=by rw [a1M,a1M,a1M,←List.flatMap_append,List.take_append_drop]
 rw [this,List.length_append];omega
theorem a9I (l:List Nd) (k:Nat):(a2c (l.take k)).length≤(a2c l).length:=by
 have:a2c l=a2c (l.take k)++a2c (l.drop k):=by rw [a2c,a2c,a2c,←List.flatMap_append,List.take_append_drop]
 rw [this,List.length_append];omega
theorem b3x (l:List Bs) (s:Bs) (a:Bool) (r:List Bs):(a4e l s a r).length≤l.length+2:=by
 unfold a4e
 have:=a2P l (s++[61,42]) a
 have:=a2P (a0x l (s++[61,42]) a) (s++[61]++joinC r) (decide (0 < r.length))
 omega
theorem b5C (l:List Bs) (s:Bs) (n:Int):(a4R l s n).length≤l.length+1:=a2P _ _ _
theorem b3I (l:List Bs) {gs:List Bs} {j:Nat} (h:j < gs.length):a2D l (gs.take (j+1))=a0x (a2D l (gs.take j)) (b6v++gs.getD j []) true:=by
 unfold a0x a2D
 rw [if_pos rfl,List.take_succ_eq_append_getElem h,List.map_append,←List.append_assoc,List.getD_eq_getElem?_getD,List.getElem?_eq_getElem h]
 rfl
theorem c3E (d:Dc) (hd:DcB d) (hP:a0p Tryz.prog 7 [a0n (linesD d)] (c0Q (declV (linesD d)))) (hS:a0p Tryz.prog 15 [dcV (declV (linesD d)).1,dcV d] (a0r (decide ((declV (linesD d)).1=d)))):a0p Tryz.prog 13 [dcV d] (a0n (a6u d)):=by
 obtain ⟨hd1,hd2,hd3,hd4,hd5⟩:=hd
 have hd5':(a1M d.marks).length+(a2c d.nodes).length≤1000000000:=by have:=hd5;unfold linesD at this;rw [List.length_append] at this;exact this
 have hmV:d.marks.length=d.marks.length:=rfl
 refine b8e Tryz.func13 rfl kr _ _ _ 122 rfl rfl (fun w F raw hF0 hlw hraw=>?_)
 refine ru 8 ?_
 refine c2L 3 rfl rfl (c':=3) rfl ?_
 refine ru 7 ?_
 refine (b2N 16 (raw 1) (b7U d.marks) (hraw 1 (by decide)) rfl).seq ?_
 refine ru 5 ?_
 refine a0o (α:=Nat×Nat×Nat×Bs) (fun x c=>⟨122,[(1,.v (.pt 1 0 0 0)),(3,.v (.pt 8001 1 0 0)),(16,.v (b7U d.marks)),(17,.v (a0h d.marks.length)),(18,.v (a0h x.1))],[(1,⟨0,1,2,26,0,fun _ j=>.imm (raw j)⟩),(8001,b1Z 1 x.2.1 x.2.2.1),(8002,b9u x.2.1 x.2.2.1 x.2.2.2)],c⟩) (fun x=>x.1≤d.marks.length∧x.2.2.1=x.2.2.2.length∧x.2.2.2=a1M (d.marks.take x.1)) (fun x=>d.marks.length - x.1) ((0,2,0,[])) (by exact ⟨Nat.zero_le _,rfl,rfl⟩) (a0c rfl (Nat.le_refl _) tsa hsa) (fun x c hx NhL1 hL1=>?_)
 revert hx hL1;obtain ⟨k,g,n,acc⟩:=x;intro hx hL1;dsimp only at hx hL1 ⊢
 obtain ⟨hk,hn,ha⟩:=hx
 refine ru 6 ?_
 refine wdc (fun hr0 hc0=>?_) (fun hr0 hc0=>?_)
 ·skip
  have hB:=hd4 k om;have hT:=b0d (l:=d.marks) (k:=k) om;have hlt:=a8F d.marks (k+1);rw [hT,a3R,←ha,List.length_append] at hlt;obtain ⟨m_,hme_⟩:∃ m_,d.marks.getD k default=m_:=⟨_,rfl⟩;rw [hme_] at hB hT hlt;obtain ⟨b1,b2,b3,b4,b5,b6⟩:=hB;have hw1:=b5C [a3s,m_.name] a6t m_.val;have hw2:=b3x (a4R [a3s,m_.name] a6t m_.val) a2i m_.all m_.bars
  refine ru 8 ?_
  refine rvl (.agg 4 (a7o m_)) ((by rw [←hme_];first | done | rfl)) ?_
  refine ru 8 ?_
  refine a0s 24 (a0b (id:=24) (hs:=[_,_]) ei_44.h omx rfl omx ⟨rfl,rfl,rfl,rfl,⟨rfl,rfl,rfl,rfl,trivial⟩⟩) rfl rfl a0e rfl rfl (c':=c+3) rfl ?_
  refine ru 6 ?_
  refine (a0V 26 (swO _ 24 _ 2) rfl (b2O (.refl _))).wp ?_;refine (a0V 24 (a4h _ [a3s,m_.name]) rfl (a6c.of fun i j hi hj=>by obtain rfl:j=0:=(Nat.lt_one_iff.1 hj);match i,hi with | 0,_=>exact .refl _ | 1,_=>exact .refl _)).wp ?_
  refine ru 4 ?_
  refine a0l 30 (xs:=[_,_,_]) (pre:=[(26,_),(24,_)]) (c6F _ _ _ [a3s,m_.name] a6t m_.val (by simp) (by decide) b2 b3) ⟨rfl,⟨rfl,⟨rfl,trivial⟩⟩⟩ (a0i rfl (a0i rfl a0e)) rfl rfl (fun q1 c1 hx1=>?_)
  (try dsimp only)
  refine ru 9 ?_
  refine a0l 36 (xs:=[_,_,_,_]) (pre:=[(26,_),(24,_)]) (c4G _ _ q1 (a4R [a3s,m_.name] a6t m_.val) a2i m_.all m_.bars (by simp at hw1;omega) (by decide) b4 om) ⟨rfl,⟨rfl,⟨rfl,⟨rfl,trivial⟩⟩⟩⟩ (a0i rfl (a0i rfl a0e)) rfl rfl (fun q2 c2 hx2=>?_)
  (try dsimp only)
  refine ru 7 ?_
  refine hm_ 41 (a8A (xs:=[_]) [(24,_)] (b4A (markW m_) (by unfold markW;simp at hw1;omega) b6) ⟨rfl,trivial⟩ ⟨(a1N (l:=markW m_) (enc:=fun x _=>a0n x) (d:=[]) (List.mem_cons_self ..) rfl rfl (Nat.le_refl _) (fun i j hi hj=>.imm _)),trivial⟩ rfl) rfl rfl (a0i rfl a0e) rfl rfl (c':=c2+1) rfl ?_
  refine ru 1 ?_
  refine a0l 43 (xs:=[_,_]) (pre:=[(8001,_),(8002,_)]) (a2o _ 1 g n acc (joinL (markW m_)++[10]) hn (by rw [hn];omega)) ⟨rfl,⟨rfl,trivial⟩⟩ (a0i rfl (a0i rfl a0e)) rfl rfl (fun q3 c3 hx3=>?_)
  (try dsimp only)
  refine ru 7 ?_
  exact hL1 ((k+1,q3,n+(joinL (markW m_)++[10]).length,acc++(joinL (markW m_)++[10]))) _ _ (by (try dsimp only);exact ⟨by omega,by rw [hn,←List.length_append],by rw [hT,a3R,ha]⟩) (by (try dsimp only);omega) (a0c rfl (Nat.le_refl _) tsa hsa)
 obtain rfl:acc=a1M d.marks:=(by rw [ha,show k=d.marks.length by omega,List.take_length])
 refine ru 2 ?_
 refine a0d ?_
 refine ru 7 ?_
 refine (b2N 46 (raw 0) (b7t d.nodes) (hraw 0 (by decide)) rfl).seq ?_
 refine ru 5 ?_
 refine a0o (α:=Nat×Nat×Nat×Bs) (fun x c=>⟨122,[(1,.v (.pt 1 0 0 0)),(3,.v (.pt 8001 1 0 0)),(46,.v (b7t d.nodes)),(47,.v (a0h d.nodes.length)),(48,.v (a0h x.1))],[(1,⟨0,1,2,26,0,fun _ j=>.imm (raw j)⟩),(8001,b1Z 1 x.2.1 x.2.2.1),(8002,b9u x.2.1 x.2.2.1 x.2.2.2)],c⟩) (fun x=>x.1≤d.nodes.length∧x.2.2.1=x.2.2.2.length∧x.2.2.2=a1M d.marks++a2c (d.nodes.take x.1)) (fun x=>d.nodes.length - x.1) ((0,g,n,a1M d.marks)) (by exact ⟨Nat.zero_le _,hn,by simp [a2c]⟩) (a0c rfl (Nat.le_refl _) tsa hsa) (fun x c hx NhL2 hL2=>?_)
 revert hx hL2;obtain ⟨k2,g,n,acc⟩:=x;intro hx hL2;dsimp only at hx hL2 ⊢
 obtain ⟨hk2,hn2,ha2⟩:=hx
 refine ru 6 ?_
 refine wdc (fun hr1 hc1=>?_) (fun hr1 hc1=>?_)
 ·skip
  have hB:=hd3 k2 om;have hT:=b0J (l:=d.nodes) (k:=k2) om;have hlt:=a9I d.nodes (k2+1);rw [hT,a4b,List.length_append] at hlt;have hal:acc.length=(a1M d.marks).length+(a2c (d.nodes.take k2)).length:=(by rw [ha2,List.length_append]);obtain ⟨n_,hne_⟩:∃ n_,d.nodes.getD k2 default=n_:=⟨_,rfl⟩;rw [hne_] at hB hT hlt;obtain ⟨b1,b2,b3,b4,b5,b6,b7,b8,b9⟩:=hB
  refine ru 8 ?_
  refine rvl (.agg 9 (a7I n_)) ((by rw [←hne_];first | done | rfl)) ?_
  refine ru 8 ?_
  refine a0s 54 (a0b (id:=54) (hs:=[_,_]) ei_44.h omx rfl omx ⟨rfl,rfl,rfl,rfl,⟨rfl,rfl,rfl,rfl,trivial⟩⟩) rfl rfl a0e rfl rfl (c':=c+3) rfl ?_
  refine ru 7 ?_
  refine (a0V 56 (swO _ 54 _ 2) rfl (b2O (.refl _))).wp ?_;refine (a0V 54 (a4h _ [a0U,n_.name]) rfl (a6c.of fun i j hi hj=>by obtain rfl:j=0:=(Nat.lt_one_iff.1 hj);match i,hi with | 0,_=>exact .refl _ | 1,_=>exact .refl _)).wp ?_
  refine ru 3 ?_
  refine rvl (a0S n_.groups) (rfl) ?_
  refine ru 5 ?_
  refine a0o (α:=Nat×Nat×Nat×Nat) (fun x c=>⟨122,[(1,.v (.pt 1 0 0 0)),(3,.v (.pt 8001 1 0 0)),(46,.v (b7t d.nodes)),(47,.v (a0h d.nodes.length)),(48,.v (a0h k2)),(8,.v (.pt 8 x.2.2.1 0 0)),(9,.v (.pt 56 x.2.2.2 0 0)),(58,.v (a0S n_.groups)),(59,.v (a0h n_.groups.length)),(60,.v (a0h x.1))],[(1,⟨0,1,2,26,0,fun _ j=>.imm (raw j)⟩),(8001,b1Z 1 g n),(8002,b9u g n acc),(8,⟨x.2.2.1,1,9,46,0,fun _=>a7I n_⟩),(56,swO x.2.2.2 54 x.2.1 (a2D [a0U,n_.name] (n_.groups.take x.1)).length),(54,a4h x.2.1 (a2D [a0U,n_.name] (n_.groups.take x.1)))],c⟩) (fun x=>x.1≤n_.groups.length) (fun x=>n_.groups.length - x.1) ((0,c+2,c,c+3)) (by exact Nat.zero_le _) (a0c rfl (Nat.le_refl _) tsa (hsr rfl (hsr rfl (hsr rfl (a0k.cons rfl (a9A (by exact q9 (.refl _) (.refl _) (.refl _) (.refl _) (.refl _) (.refl _) (.refl _) (.refl _) (.refl _))) hsa))))) (fun x c hx NhL3 hL3=>?_)
  revert hx hL3;obtain ⟨ji,q,g8,g9⟩:=x;intro hx hL3;dsimp only at hx hL3 ⊢
  refine ru 6 ?_
  refine wdc (fun hr2 hc2=>?_) (fun hr2 hc2=>?_)
  ·skip
   have hgl:=b3 ji;have hgl3:[103,114,111,117,112,61].length+(n_.groups.getD ji []).length≤9223372036854775807:=(by show 6+_≤_;omega);have hgt:=b3I [a0U,n_.name] (show ji < n_.groups.length by omega);have hgn:(a2D [a0U,n_.name] (n_.groups.take ji)).length≤102:=(by unfold a2D;simp;omega)
   refine ru 8 ?_
   refine rvl (a0n (n_.groups.getD ji [])) (rfl) ?_
   refine ru 7 ?_
   refine a0l 67 (xs:=[_,_,_]) (pre:=[(56,_),(54,_)]) (a5x _ g9 q (a2D [a0U,n_.name] (n_.groups.take ji)) (b6v++n_.groups.getD ji []) true om) ⟨rfl,⟨rfl,⟨rfl,trivial⟩⟩⟩ (a0i rfl (a0i rfl a0e)) rfl rfl (fun q3 c4 hx4=>?_)
   (try dsimp only)
   refine ru 7 ?_
   exact hL3 ((ji+1,q3,g8,g9)) _ _ (by (try dsimp only);omega) (by (try dsimp only);omega) (a0c rfl (Nat.le_refl _) tsa (hsr rfl (hsr rfl (hsr rfl (hsr rfl (a0k.cons rfl (by rw [hgt];exact a6c.refl _) (a0k.cons rfl (by rw [hgt];exact a6c.refl _) a0k.nil)))))))
  have hjl:ji=n_.groups.length:=om;subst hjl;rw [List.take_length];have hl1:(a2D [a0U,n_.name] n_.groups).length≤102:=(by unfold a2D;simp;omega);have hl2:=a2P (a2D [a0U,n_.name] n_.groups) a3k n_.inl;have hl3:=a2P (a0x (a2D [a0U,n_.name] n_.groups) a3k n_.inl) a1y n_.pick;have hl4:=b5C (a0x (a0x (a2D [a0U,n_.name] n_.groups) a3k n_.inl) a1y n_.pick) a1F n_.attr;have hl5:=b3x (a4R (a0x (a0x (a2D [a0U,n_.name] n_.groups) a3k n_.inl) a1y n_.pick) a1F n_.attr) a0P n_.all n_.marks;have hl6:=a2P (a4e (a4R (a0x (a0x (a2D [a0U,n_.name] n_.groups) a3k n_.inl) a1y n_.pick) a1F n_.attr) a0P n_.all n_.marks) [58] (!n_.leaf);have hl7:(nodeW n_).length≤_:=a2P (a0x (a4e (a4R (a0x (a0x (a2D [a0U,n_.name] n_.groups) a3k n_.inl) a1y n_.pick) a1F n_.attr) a0P n_.all n_.marks) [58] (!n_.leaf)) n_.expr (decide (n_.expr≠[]))
  refine ru 2 ?_
  refine a0d ?_
  refine ru 7 ?_
  refine a0l 72 (xs:=[_,_,_]) (pre:=[(56,_),(54,_)]) (a5x _ g9 q (a2D [a0U,n_.name] n_.groups) a3k n_.inl om) ⟨rfl,⟨rfl,⟨rfl,trivial⟩⟩⟩ (a0i rfl (a0i rfl a0e)) rfl rfl (fun q4 c5 hx5=>?_)
  (try dsimp only)
  refine ru 7 ?_
  refine a0l 76 (xs:=[_,_,_]) (pre:=[(56,_),(54,_)]) (a5x _ g9 q4 (a0x (a2D [a0U,n_.name] n_.groups) a3k n_.inl) a1y n_.pick om) ⟨rfl,⟨rfl,⟨rfl,trivial⟩⟩⟩ (a0i rfl (a0i rfl a0e)) rfl rfl (fun q5 c6 hx6=>?_)
  (try dsimp only)
  refine ru 7 ?_
  refine a0l 80 (xs:=[_,_,_]) (pre:=[(56,_),(54,_)]) (c6T _ g9 q5 (a0x (a0x (a2D [a0U,n_.name] n_.groups) a3k n_.inl) a1y n_.pick) a1F n_.attr om (by decide) b4 b5) ⟨rfl,⟨rfl,⟨rfl,trivial⟩⟩⟩ (a0i rfl (a0i rfl a0e)) rfl rfl (fun q6 c7 hx7=>?_)
  (try dsimp only)
  refine ru 9 ?_
  refine a0l 86 (xs:=[_,_,_,_]) (pre:=[(56,_),(54,_)]) (c4S _ g9 q6 (a4R (a0x (a0x (a2D [a0U,n_.name] n_.groups) a3k n_.inl) a1y n_.pick) a1F n_.attr) a0P n_.all n_.marks om (by decide) b6 om) ⟨rfl,⟨rfl,⟨rfl,⟨rfl,trivial⟩⟩⟩⟩ (a0i rfl (a0i rfl a0e)) rfl rfl (fun q7 c8 hx8=>?_)
  (try dsimp only)
  refine ru 8 ?_
  refine a0l 91 (xs:=[_,_,_]) (pre:=[(56,_),(54,_)]) (a5x _ g9 q7 (a4e (a4R (a0x (a0x (a2D [a0U,n_.name] n_.groups) a3k n_.inl) a1y n_.pick) a1F n_.attr) a0P n_.all n_.marks) [58] (!n_.leaf) om) ⟨rfl,⟨rfl,⟨rfl,trivial⟩⟩⟩ (a0i rfl (a0i rfl a0e)) rfl rfl (fun q8 c9 hx9=>?_)
  (try dsimp only)
  refine ru 10 ?_
  refine rvl (a0r (decide (n_.expr≠[]))) ((congrArg a0r (by by_cases h:n_.expr=[] <;> simp [h]))) ?_
  refine a0l 98 (xs:=[_,_,_]) (pre:=[(56,_),(54,_)]) (a5x _ g9 q8 (a0x (a4e (a4R (a0x (a0x (a2D [a0U,n_.name] n_.groups) a3k n_.inl) a1y n_.pick) a1F n_.attr) a0P n_.all n_.marks) [58] (!n_.leaf)) n_.expr (decide (n_.expr≠[])) om) ⟨rfl,⟨rfl,⟨rfl,trivial⟩⟩⟩ (a0i rfl (a0i rfl a0e)) rfl rfl (fun q10 c10 hx10=>?_)
  (try dsimp only)
  refine ru 7 ?_
  refine hm_ 103 (a8A (xs:=[_]) [(54,_)] (b4A (nodeW n_) om b9) ⟨rfl,trivial⟩ ⟨(a1N (l:=nodeW n_) (enc:=fun x _=>a0n x) (d:=[]) (List.mem_cons_self ..) rfl rfl (Nat.le_refl _) (fun i j hi hj=>.imm _)),trivial⟩ rfl) rfl rfl (a0i rfl a0e) rfl rfl (c':=c10+1) rfl ?_
  refine ru 1 ?_
  refine a0l 105 (xs:=[_,_]) (pre:=[(8001,_),(8002,_)]) (a2o _ 1 g n acc (joinL (nodeW n_)++[10]) hn2 (by rw [hn2];omega)) ⟨rfl,⟨rfl,trivial⟩⟩ (a0i rfl (a0i rfl a0e)) rfl rfl (fun q9 c11 hx11=>?_)
  (try dsimp only)
  refine ru 7 ?_
  exact hL2 ((k2+1,q9,n+(joinL (nodeW n_)++[10]).length,acc++(joinL (nodeW n_)++[10]))) _ _ (by (try dsimp only);exact ⟨by omega,by rw [hn2,←List.length_append],by rw [hT,a4b,ha2,List.append_assoc]⟩) (by (try dsimp only);omega) (a0c rfl (Nat.le_refl _) tsa hsa)
 obtain rfl:acc=linesD d:=(by rw [ha2,show k2=d.nodes.length by omega,List.take_length];rfl)
 refine ru 2 ?_
 refine a0d ?_
 refine ru 4 ?_
 refine b6S hF0 108 1 g n (linesD d) 1 1 0 2 26 raw (dcF d) rfl rfl rfl hn2 rfl rfl rfl (by decide) (by decide) (by decide) ⟨by decide,by decide,by decide⟩ hraw (fun w1 F1 bl hb1 hbf hF1 hF2 hF3=>?_)
 refine cll (hP) ?_
 refine ru 18 ?_
 first
 | refine stg 115 (fun hb=>a0j (xs:=[_,_]) (hS) ⟨rfl,⟨rfl,trivial⟩⟩ ⟨(show Fz _ (dcV (declV (linesD d)).1) (dcV (declV (linesD d)).1) from a7b _),⟨(show Fz _ (dcV d) (dcV d) from a7b _),trivial⟩⟩) rfl rfl rfl rfl rfl ?_
 | refine sth 115 (fun hb=>a0j (xs:=[_,_]) (hS) ⟨rfl,⟨rfl,trivial⟩⟩ ⟨(show Fz _ (dcV (declV (linesD d)).1) (dcV (declV (linesD d)).1) from a7b _),⟨(show Fz _ (dcV d) (dcV d) from a7b _),trivial⟩⟩) rfl rfl rfl rfl rfl ?_
 refine ru 4 ?_
 refine wdc (fun hr3 hc3=>?_) (fun hr3 hc3=>?_)
 ·skip
  have hsh:a6u d=[]:=(by unfold a6u;rw [if_neg (fun h=>by have h9:=hr3;simp [h.1,h.2] at h9)])
  refine ru 1 ?_
  refine c1G hF0 hlw hb1 ?_
  refine ru 6 ?_
  refine rt1 ?_
  rw [hsh];exact .imm _
 have hsh:a6u d=linesD d:=(by unfold a6u;rw [if_pos (by have h9:=hr3;simpa using h9)])
 refine ru 4 ?_
 refine b6K hF0 hlw hb1 121 bl (linesD d) rfl hbf rfl ?_
 refine ru 4 ?_
 refine rt1 ?_
 rw [hsh];exact .imm _
def b5g (s w:Bs) (b:Bool):Bs:=if b=true then s++[32]++w else s
theorem a7D {l:List Bs} (w:Bs) (b:Bool) (h:l≠[]):b5g (joinL l) w b=joinL (a0x l w b):=by
 unfold b5g a0x
 cases b with
 | false=>rfl
 | true=>rw [if_pos rfl,if_pos rfl,a5V h];simp
theorem c5c (s w:Bs) (b:Bool) (h1:s.length≤1000000000) (h2:w.length≤1000000000):a0p Tryz.prog 51 [a0n s,a0n w,a0r b] (a0n (b5g s w b)):=by
 refine a0m Tryz.func51 rfl kr _ _ _ rfl 13 rfl rfl (fun w F=>?_)
 refine ru 11 ?_
 refine wdc (fun hr0 hc0=>?_) (fun hr0 hc0=>?_)
 ·skip
  have hb_:b=true:=(by simpa using hr0)
  refine ru 11 ?_
  refine rt1 ?_
  unfold b5g;rw [if_pos hb_];exact .imm _
 have hb_:¬ b=true:=(by simpa using hr0)
 refine ru 9 ?_
 refine rt1 ?_
 unfold b5g;rw [if_neg hb_];exact .imm _
theorem b0F:∀ {l:List Bs} {w:Bs},l≠[]→joinC (l++[w])=joinC l++44::w
  | [],_,h=>absurd rfl h
  | [a],w,_=>rfl
  | a :: b :: r, w, _ => by
    show a++44::joinC (b::r++[w])=(a++44::joinC (b::r))++44::w
    rw [b0F (l:=b::r) (fun h=>by cases h)];simp
theorem b7A {l:List Bs} {k:Nat} (h:k < l.length):joinC (l.take (k+1))=(if 0 < k then joinC (l.take k)++[44] else joinC (l.take k))++l.getD k []:=by
 rw [List.take_succ_eq_append_getElem h,List.getD_eq_getElem?_getD,List.getElem?_eq_getElem h,Option.getD_some]
 by_cases h0:0 < k
 ·rw [if_pos h0,b0F (fun h9=>by have:=congrArg List.length h9;rw [List.length_take,List.length_nil] at this;omega)];simp
 ·have:k=0:=by omega
  subst this;rfl
theorem a5s:∀ (l:List Bs) (k:Nat),(joinC (l.take k)).length≤(joinC l).length
  | [],k=>by simp
  | a::l,0=>Nat.zero_le _
  | [a],k+1=>by simp
  | a::b::l,1=>by show a.length≤(a++44::joinC (b::l)).length;simp
  | a :: b :: l, k + 2 => by
    have:=a5s (b::l) (k+1)
    show (a++44::joinC ((b::l).take (k+1))).length≤(a++44::joinC (b::l)).length
    simp only [List.length_append,List.length_cons] at this ⊢;omega
theorem b6j (l:List Bs) (hl:l.length≤1000000) (hj:(joinC l).length≤1000000000):a0p Tryz.prog 53 [a0S l] (a0n (joinC l)):=by
 refine a0m Tryz.func53 rfl kr _ _ _ rfl 22 rfl rfl (fun w F=>?_)
 refine ru 17 ?_
 refine a0o (α:=Nat) (fun x c=>⟨22,[(0,.v (a0S l)),(3,.v (a0n (joinC (l.take x)))),(4,.v (a0h x))],[],c⟩) (fun x=>x≤l.length) (fun x=>l.length - x) (0) (by exact Nat.zero_le _) (a0c rfl (Nat.le_refl _) tsa a0k.nil) (fun k c hx NhL1 hL1=>?_)
 (try dsimp only at hx hL1 ⊢)
 refine ru 9 ?_
 refine wdc (fun hr0 hc0=>?_) (fun hr0 hc0=>?_)
 ·skip
  have hT:=b7A (l:=l) (k:=k) om;have hT1:=a5s l (k+1);have hT0:(joinC (l.take k)).length+1≤9223372036854775807:=(by have:=a5s l k;omega)
  refine ru 11 ?_
  refine wdc (fun hr1 hc1=>?_) (fun hr1 hc1=>?_)
  ·skip
   have hT2:joinC (l.take (k+1))=joinC (l.take k)++[44]++l.getD k []:=(by rw [hT,if_pos om]);have hLn:(joinC (l.take k)++[44]).length+(l.getD k []).length≤1000000000:=(by rw [←List.length_append,←hT2];omega)
   refine ru 12 ?_
   refine rvl (a0n (l.getD k [])) (rfl) ?_
   refine ru 1 ?_
   refine rvl (a0n (joinC (l.take (k+1)))) ((by rw [hT2])) ?_
   refine ru 9 ?_
   exact hL1 (k+1) _ _ (by (try dsimp only);omega) (by (try dsimp only);omega) (a0c rfl (Nat.le_refl _) tsa a0k.nil)
  have hk0:¬ 0 < k:=om;have hT2:joinC (l.take (k+1))=joinC (l.take k)++l.getD k []:=(by rw [hT,if_neg hk0]);have hLn:(joinC (l.take k)).length+(l.getD k []).length≤1000000000:=(by rw [←List.length_append,←hT2];omega)
  refine ru 8 ?_
  refine rvl (a0n (l.getD k [])) (rfl) ?_
  refine ru 1 ?_
  refine rvl (a0n (joinC (l.take (k+1)))) ((by rw [hT2])) ?_
  refine ru 9 ?_
  exact hL1 (k+1) _ _ (by (try dsimp only);omega) (by (try dsimp only);omega) (a0c rfl (Nat.le_refl _) tsa a0k.nil)
 refine ru 2 ?_
 refine a0d ?_
 refine ru 9 ?_
 refine rt1 ?_
 rw [List.take_of_length_le om];exact .imm _
theorem a4p {l:List Bs} (s:Bs) (b:Bool) (h:l≠[]):a0x l s b≠[]:=by
 unfold a0x;split
 ·intro h9;have:=congrArg List.length h9;simp at this
 ·exact h
theorem a1m {l:List Bs} (s:Bs) (b:Bool) (h:l≠[]):(joinL l).length≤(joinL (a0x l s b)).length:=by
 rw [←a7D s b h];unfold b5g;split
 ·rw [List.length_append,List.length_append];omega
 ·exact Nat.le_refl _
theorem a3r (l:List Bs) (w:Bs) (b:Bool) (h:l≠[]) (h1:(joinL l).length≤1000000000) (h2:w.length≤1000000000):a0p Tryz.prog 51 [a0n (joinL l),a0n w,a0r b] (a0n (joinL (a0x l w b))):=by
 rw [←a7D w b h];exact c5c _ _ _ h1 h2
theorem b4c {l:List Bs} (gs:List Bs) (h:l≠[]):a2D l gs≠[]:=by
 unfold a2D
 intro h9
 exact h (List.append_eq_nil_iff.1 h9).1
theorem a7V:∀ (r l:List Bs),l≠[]→(joinL l).length≤(joinL (l++r)).length
  | [],l,_=>by simp
  | w :: r, l, h => by
    have h1:=a7V r (l++[w]) (fun h9=>by have:=congrArg List.length h9;simp at this)
    rw [a5V h,List.append_assoc,List.length_append] at h1
    have h1:(joinL l).length+(32::w).length≤(joinL (l++w::r)).length:=h1
    omega
theorem a8d (l gs:List Bs) (k:Nat) (h:l≠[]):(joinL (a2D l (gs.take k))).length≤(joinL (a2D l gs)).length:=by
 have:a2D l gs=a2D l (gs.take k)++(gs.drop k).map fun g=>b6v++g:=by unfold a2D;rw [List.append_assoc,←List.map_append,List.take_append_drop]
 rw [this];exact a7V _ _ (b4c _ h)
theorem c1O (d:Dc) (hd:DcB d):a0p Tryz.prog 29 [dcV d] (a0n (linesD d)):=by
 obtain ⟨hd1,hd2,hd3,hd4,hd5⟩:=hd
 have hd5':(a1M d.marks).length+(a2c d.nodes).length≤1000000000:=by have:=hd5;unfold linesD at this;rw [List.length_append] at this;exact this
 refine a0m Tryz.func29 rfl kr _ _ _ rfl 126 rfl rfl (fun w F=>?_)
 refine ru 18 ?_
 refine a0o (α:=Nat×Bs) (fun x c=>⟨126,[(1,.v (.pt 1 0 0 0)),(3,.v (a0n x.2)),(4,.v (a0h x.1))],[(1,rcO 0 d)],c⟩) (fun x=>x.1≤d.marks.length∧x.2=a1M (d.marks.take x.1)) (fun x=>d.marks.length - x.1) ((0,[])) (by exact ⟨Nat.zero_le _,rfl⟩) (a0c rfl (Nat.le_refl _) tsa hsa) (fun x c hx NhL1 hL1=>?_)
 revert hx hL1;obtain ⟨k,acc⟩:=x;intro hx hL1;dsimp only at hx hL1 ⊢
 obtain ⟨hk,ha⟩:=hx
 refine ru 10 ?_
 refine wdc (fun hr0 hc0=>?_) (fun hr0 hc0=>?_)
 ·skip
  have hB:=hd4 k om;have hT:=b0d (l:=d.marks) (k:=k) om;have hlt:=a8F d.marks (k+1);rw [hT,a3R,←ha,List.length_append,List.length_append] at hlt;obtain ⟨m_,hme_⟩:∃ m_,d.marks.getD k default=m_:=⟨_,rfl⟩;rw [hme_] at hB hT hlt;obtain ⟨b1,b2,b3,b4,b5,b6⟩:=hB;have hi:=a3o m_.val ⟨b2,b3⟩;have n1:[a3s,m_.name]≠[]:=(fun h=>by cases h);have n2:a4R [a3s,m_.name] a6t m_.val≠[]:=a4p _ _ n1;have n3:a0x (a4R [a3s,m_.name] a6t m_.val) (a2i++[61,42]) m_.all≠[]:=a4p _ _ n2;have l3:(joinL (a0x (a4R [a3s,m_.name] a6t m_.val) (a2i++[61,42]) m_.all)).length≤(joinL (markW m_)).length:=a1m _ _ n3;have l2:=a1m (a2i++[61,42]) m_.all n2;have l1:(joinL [a3s,m_.name]).length≤(joinL (a4R [a3s,m_.name] a6t m_.val)).length:=a1m _ _ n1;have hwv:(a6t++[61]++itoa m_.val).length≤1000000000:=(by simp;omega);have hwb:(a2i++[61]++joinC m_.bars).length≤1000000000:=(by simp;omega)
  refine ru 11 ?_
  refine rvl (.agg 4 (a7o m_)) ((by rw [←hme_];first | done | rfl)) ?_
  refine ru 8 ?_
  refine d0 3 (HOp.val (v':=a0n (joinL [a3s,m_.name])) (a5D rfl rfl omy) (rfl)) ?_
  refine ru 2 ?_
  refine clx (a6F m_.val b2 b3) ?_
  refine d0 7 (HOp.val (v':=a0n (a6t++[61]++itoa m_.val)) (a5D rfl rfl omy) (rfl)) ?_
  refine ru 2 ?_
  refine d0 10 (HOp.val (v':=a0r (decide (m_.val≠0))) (a9y rfl rfl) ((congrArg a0r (by by_cases h:m_.val=0 <;> simp [h])))) ?_
  refine clx (a3r [a3s,m_.name] (a6t++[61]++itoa m_.val) (decide (m_.val≠0)) n1 om hwv) ?_
  refine ru 8 ?_
  refine clx (a3r (a4R [a3s,m_.name] a6t m_.val) (a2i++[61,42]) m_.all n2 om (by decide)) ?_
  refine ru 2 ?_
  refine clx (b6j m_.bars b4 om) ?_
  refine d0 8 (HOp.val (v':=a0n (a2i++[61]++joinC m_.bars)) (a5D rfl rfl omy) (rfl)) ?_
  refine ru 3 ?_
  refine d0 12 (HOp.val (v':=a0r (decide (0 < m_.bars.length))) (b4Z rfl rfl) ((congrArg a0r (by rw [Bool.eq_iff_iff];simp only [decide_eq_true_eq];omega)))) ?_
  refine clx (a3r (a0x (a4R [a3s,m_.name] a6t m_.val) (a2i++[61,42]) m_.all) (a2i++[61]++joinC m_.bars) (decide (0 < m_.bars.length)) n3 om hwb) ?_
  refine ru 6 ?_
  refine rvl (a0n (joinL (markW m_))) (rfl) ?_
  refine ru 2 ?_
  refine rvl (a0n (acc++(joinL (markW m_)++[10]))) ((by rw [List.append_assoc])) ?_
  refine ru 9 ?_
  exact hL1 ((k+1,acc++(joinL (markW m_)++[10]))) _ _ (by (try dsimp only);exact ⟨by omega,by rw [hT,a3R,ha]⟩) (by (try dsimp only);omega) (a0c rfl (Nat.le_refl _) tsa hsa)
 obtain rfl:acc=a1M d.marks:=(by rw [ha,show k=d.marks.length by omega,List.take_length])
 refine ru 2 ?_
 refine a0d ?_
 refine ru 9 ?_
 refine a0o (α:=Nat×Bs) (fun x c=>⟨126,[(1,.v (.pt 1 0 0 0)),(3,.v (a0n x.2)),(7,.v (a0h x.1))],[(1,rcO 0 d)],c⟩) (fun x=>x.1≤d.nodes.length∧x.2=a1M d.marks++a2c (d.nodes.take x.1)) (fun x=>d.nodes.length - x.1) ((0,a1M d.marks)) (by exact ⟨Nat.zero_le _,by simp [a2c]⟩) (a0c rfl (Nat.le_refl _) tsa hsa) (fun x c hx NhL2 hL2=>?_)
 revert hx hL2;obtain ⟨k2,acc⟩:=x;intro hx hL2;dsimp only at hx hL2 ⊢
 obtain ⟨hk2,ha2⟩:=hx
 refine ru 10 ?_
 refine wdc (fun hr1 hc1=>?_) (fun hr1 hc1=>?_)
 ·skip
  have hB:=hd3 k2 om;have hT:=b0J (l:=d.nodes) (k:=k2) om;have hlt:=a9I d.nodes (k2+1);rw [hT,a4b,List.length_append,List.length_append] at hlt;have hal:acc.length=(a1M d.marks).length+(a2c (d.nodes.take k2)).length:=(by rw [ha2,List.length_append]);obtain ⟨n_,hne_⟩:∃ n_,d.nodes.getD k2 default=n_:=⟨_,rfl⟩;rw [hne_] at hB hT hlt;obtain ⟨b1,b2,b3,b4,b5,b6,b7,b8,b9⟩:=hB;have hi:=a3o n_.attr ⟨b4,b5⟩;have m1:(a2D [a0U,n_.name] n_.groups)≠[]:=b4c _ (fun h=>by cases h);have m2:(a0x (a2D [a0U,n_.name] n_.groups) a3k n_.inl)≠[]:=a4p _ _ m1;have m3:(a0x (a0x (a2D [a0U,n_.name] n_.groups) a3k n_.inl) a1y n_.pick)≠[]:=a4p _ _ m2;have m4:(a4R (a0x (a0x (a2D [a0U,n_.name] n_.groups) a3k n_.inl) a1y n_.pick) a1F n_.attr)≠[]:=a4p _ _ m3;have m5:(a0x (a4R (a0x (a0x (a2D [a0U,n_.name] n_.groups) a3k n_.inl) a1y n_.pick) a1F n_.attr) (a0P++[61,42]) n_.all)≠[]:=a4p _ _ m4;have m6:(a4e (a4R (a0x (a0x (a2D [a0U,n_.name] n_.groups) a3k n_.inl) a1y n_.pick) a1F n_.attr) a0P n_.all n_.marks)≠[]:=a4p _ _ m5;have m7:(a0x (a4e (a4R (a0x (a0x (a2D [a0U,n_.name] n_.groups) a3k n_.inl) a1y n_.pick) a1F n_.attr) a0P n_.all n_.marks) [58] (!n_.leaf))≠[]:=a4p _ _ m6;have p1:(joinL (a2D [a0U,n_.name] n_.groups)).length≤(joinL (a0x (a2D [a0U,n_.name] n_.groups) a3k n_.inl)).length:=a1m _ _ m1;have p2:(joinL (a0x (a2D [a0U,n_.name] n_.groups) a3k n_.inl)).length≤(joinL (a0x (a0x (a2D [a0U,n_.name] n_.groups) a3k n_.inl) a1y n_.pick)).length:=a1m _ _ m2;have p3:(joinL (a0x (a0x (a2D [a0U,n_.name] n_.groups) a3k n_.inl) a1y n_.pick)).length≤(joinL (a4R (a0x (a0x (a2D [a0U,n_.name] n_.groups) a3k n_.inl) a1y n_.pick) a1F n_.attr)).length:=a1m _ _ m3;have p4:(joinL (a4R (a0x (a0x (a2D [a0U,n_.name] n_.groups) a3k n_.inl) a1y n_.pick) a1F n_.attr)).length≤(joinL (a0x (a4R (a0x (a0x (a2D [a0U,n_.name] n_.groups) a3k n_.inl) a1y n_.pick) a1F n_.attr) (a0P++[61,42]) n_.all)).length:=a1m _ _ m4;have p5:(joinL (a0x (a4R (a0x (a0x (a2D [a0U,n_.name] n_.groups) a3k n_.inl) a1y n_.pick) a1F n_.attr) (a0P++[61,42]) n_.all)).length≤(joinL (a4e (a4R (a0x (a0x (a2D [a0U,n_.name] n_.groups) a3k n_.inl) a1y n_.pick) a1F n_.attr) a0P n_.all n_.marks)).length:=a1m _ _ m5;have p6:(joinL (a4e (a4R (a0x (a0x (a2D [a0U,n_.name] n_.groups) a3k n_.inl) a1y n_.pick) a1F n_.attr) a0P n_.all n_.marks)).length≤(joinL (a0x (a4e (a4R (a0x (a0x (a2D [a0U,n_.name] n_.groups) a3k n_.inl) a1y n_.pick) a1F n_.attr) a0P n_.all n_.marks) [58] (!n_.leaf))).length:=a1m _ _ m6;have p7:(joinL (a0x (a4e (a4R (a0x (a0x (a2D [a0U,n_.name] n_.groups) a3k n_.inl) a1y n_.pick) a1F n_.attr) a0P n_.all n_.marks) [58] (!n_.leaf))).length≤(joinL (nodeW n_)).length:=a1m _ _ m7;have hwv:(a1F++[61]++itoa n_.attr).length≤1000000000:=(by simp;omega);have hwb:(a0P++[61]++joinC n_.marks).length≤1000000000:=(by simp;omega)
  refine ru 11 ?_
  refine rvl (.agg 9 (a7I n_)) ((by rw [←hne_];first | done | rfl)) ?_
  refine ru 9 ?_
  refine rvl (a0n (joinL [a0U,n_.name])) (rfl) ?_
  refine ru 10 ?_
  refine a0o (α:=Nat×Nat) (fun x c=>⟨126,[(1,.v (.pt 1 0 0 0)),(3,.v (a0n acc)),(7,.v (a0h k2)),(8,.v (.pt 8 x.2 0 0)),(9,.v (a0n (joinL (a2D [a0U,n_.name] (n_.groups.take x.1))))),(10,.v (a0h x.1))],[(1,rcO 0 d),(8,⟨x.2,1,9,54,0,fun _=>a7I n_⟩)],c⟩) (fun x=>x.1≤n_.groups.length) (fun x=>n_.groups.length - x.1) ((0,c)) (by exact Nat.zero_le _) (a0c rfl (Nat.le_refl _) tsa hsa) (fun x c hx NhL3 hL3=>?_)
  revert hx hL3;obtain ⟨ji,g8⟩:=x;intro hx hL3;dsimp only at hx hL3 ⊢
  refine ru 10 ?_
  refine wdc (fun hr2 hc2=>?_) (fun hr2 hc2=>?_)
  ·skip
   have hgl:=b3 ji;have hgt:=b3I [a0U,n_.name] (show ji < n_.groups.length by omega);have hgj:joinL (a2D [a0U,n_.name] (n_.groups.take ji))++[32,103,114,111,117,112,61]++n_.groups.getD ji []=joinL (a2D [a0U,n_.name] (n_.groups.take (ji+1))):=(by rw [hgt,←a7D _ _ (b4c _ (fun h=>by cases h))];unfold b5g;rw [if_pos rfl];simp);have hgb:=a8d [a0U,n_.name] n_.groups ji (fun h=>by cases h);have hgb1:=a8d [a0U,n_.name] n_.groups (ji+1) (fun h=>by cases h);have hgc:(joinL (a2D [a0U,n_.name] (n_.groups.take ji))++[32,103,114,111,117,112,61]).length+(n_.groups.getD ji []).length≤9223372036854775807:=(by rw [←List.length_append,hgj];omega)
   refine ru 12 ?_
   refine rvl (a0n (n_.groups.getD ji [])) (rfl) ?_
   refine ru 1 ?_
   refine rvl (a0n (joinL (a2D [a0U,n_.name] (n_.groups.take (ji+1))))) ((by rw [hgj])) ?_
   refine ru 9 ?_
   exact hL3 ((ji+1,g8)) _ _ (by (try dsimp only);omega) (by (try dsimp only);omega) (a0c rfl (Nat.le_refl _) tsa hsa)
  have hjl:ji=n_.groups.length:=om;subst hjl;rw [List.take_length]
  refine ru 2 ?_
  refine a0d ?_
  refine ru 7 ?_
  refine clx (a3r (a2D [a0U,n_.name] n_.groups) a3k n_.inl m1 om (by decide)) ?_
  refine ru 2 ?_
  refine clx (a3r (a0x (a2D [a0U,n_.name] n_.groups) a3k n_.inl) a1y n_.pick m2 om (by decide)) ?_
  refine ru 8 ?_
  refine clx (a6F n_.attr b4 b5) ?_
  refine d0 5 (HOp.val (v':=a0n (a1F++[61]++itoa n_.attr)) (a5D rfl rfl omy) (rfl)) ?_
  refine ru 2 ?_
  refine d0 8 (HOp.val (v':=a0r (decide (n_.attr≠0))) (a9y rfl rfl) ((congrArg a0r (by by_cases h:n_.attr=0 <;> simp [h])))) ?_
  refine clx (a3r (a0x (a0x (a2D [a0U,n_.name] n_.groups) a3k n_.inl) a1y n_.pick) (a1F++[61]++itoa n_.attr) (decide (n_.attr≠0)) m3 om hwv) ?_
  refine ru 8 ?_
  refine clx (a3r (a4R (a0x (a0x (a2D [a0U,n_.name] n_.groups) a3k n_.inl) a1y n_.pick) a1F n_.attr) (a0P++[61,42]) n_.all m4 om (by decide)) ?_
  refine ru 2 ?_
  refine clx (b6j n_.marks b6 om) ?_
  refine d0 8 (HOp.val (v':=a0n (a0P++[61]++joinC n_.marks)) (a5D rfl rfl omy) (rfl)) ?_
  refine ru 3 ?_
  refine d0 12 (HOp.val (v':=a0r (decide (0 < n_.marks.length))) (b4Z rfl rfl) ((congrArg a0r (by rw [Bool.eq_iff_iff];simp only [decide_eq_true_eq];omega)))) ?_
  refine clx (a3r (a0x (a4R (a0x (a0x (a2D [a0U,n_.name] n_.groups) a3k n_.inl) a1y n_.pick) a1F n_.attr) (a0P++[61,42]) n_.all) (a0P++[61]++joinC n_.marks) (decide (0 < n_.marks.length)) m5 om hwb) ?_
  refine ru 9 ?_
  refine clx (a3r (a4e (a4R (a0x (a0x (a2D [a0U,n_.name] n_.groups) a3k n_.inl) a1y n_.pick) a1F n_.attr) a0P n_.all n_.marks) [58] (!n_.leaf) m6 om (by decide)) ?_
  refine ru 4 ?_
  refine d0 10 (HOp.val (v':=a0r (decide (n_.expr≠[]))) (b3K rfl rfl) ((congrArg a0r (by by_cases h:n_.expr=[] <;> simp [h])))) ?_
  refine clx (a3r (a0x (a4e (a4R (a0x (a0x (a2D [a0U,n_.name] n_.groups) a3k n_.inl) a1y n_.pick) a1F n_.attr) a0P n_.all n_.marks) [58] (!n_.leaf)) n_.expr (decide (n_.expr≠[])) m7 om om) ?_
  refine ru 6 ?_
  refine rvl (a0n (joinL (nodeW n_))) (rfl) ?_
  refine ru 2 ?_
  refine rvl (a0n (acc++(joinL (nodeW n_)++[10]))) ((by rw [List.append_assoc])) ?_
  refine ru 9 ?_
  exact hL2 ((k2+1,acc++(joinL (nodeW n_)++[10]))) _ _ (by (try dsimp only);exact ⟨by omega,by rw [hT,a4b,ha2,List.append_assoc]⟩) (by (try dsimp only);omega) (a0c rfl (Nat.le_refl _) tsa hsa)
 obtain rfl:acc=linesD d:=(by rw [ha2,show k2=d.nodes.length by omega,List.take_length];rfl)
 refine ru 2 ?_
 refine a0d ?_
 refine ru 9 ?_
 refine rt1 ?_
 exact .imm _
end Go.Proofs.YtjdmfohncgkdoaaGreatDoor
