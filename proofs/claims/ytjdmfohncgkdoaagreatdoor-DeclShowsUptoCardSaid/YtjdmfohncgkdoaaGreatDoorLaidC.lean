/-
  A schema's lines: few enough names; the chapter's example. Plain lemmas, no program in sight.
-/
import Derived.Test.YtjdmfohncgkdoaaGreatDoorHmk
import Derived.Test.YtjdmfohncgkdoaaGreatDoorDc19
import Derived.Test.YtjdmfohncgkdoaaGreatDoorHc
import Derived.Test.YtjdmfohncgkdoaaGreatDoorChecked
import Derived.ProofKit
import Derived.OpenShut
import Derived.ChangeOld
import Derived.Deep.Slices
import Derived.Test.YtjdmfohncgkdoaaGreatDoorRows
import Derived.LaidLaws
import Derived.LaidMore
import Derived.LaidSub
import Derived.HandedShaped
import Derived.Shelf.Vars
import Derived.Stop.Joined
namespace Go.Proofs.YtjdmfohncgkdoaaGreatDoor
set_option linter.unusedSimpArgs false
set_option linter.unusedVariables false
set_option maxRecDepth 100000
theorem b1W:∀ {l out r:List Bs},a8M l out=some r→r.length≤out.length+l.length
  | [], out, r, h => by
    have h:some out=some r:=h
    injection h with h;subst h;exact Nat.le_refl _
  | w :: l, out, r, h => by
    have h:(if nameV w=true∧w∉out then a8M l (out++[w]) else none)=some r:=h
    split at h
    · have:=b1W h
      rw [List.length_append,List.length_singleton] at this
      rw [List.length_cons];omega
    · cases h
theorem b2t (s:Bs):((a0Z s).getD (false,[])).2.length≤s.length+1:=by
  unfold a0Z
  split
  · exact Nat.zero_le _
  · cases h : b3r s with
    | none=>exact Nat.zero_le _
    | some r =>
      have h1:=b1W (show a8M (a0j 44 s) []=some r from h)
      have h2:=a2P 44 s
      show r.length≤_
      simp only [List.length_nil] at h1;omega
def c3F (B:Nat) (n:Nd):Prop:=n.groups.length≤4∧n.marks.length≤B+1
def c5l (B:Nat) (m:Mk):Prop:=m.bars.length≤B+1
def dSm (B:Nat) (d:Dc):Prop:=(d.nodes.length≤24∧d.marks.length≤8)∧(∀ n∈d.nodes,c3F B n)∧∀ m∈d.marks,c5l B m
theorem c0N {B:Nat} {i:Int} {n:Nd} {v:Bs} (h:c3F B n) (hv:v.length≤B):c3F B (a1E i n v).1:=by
 unfold a1E
 split
 ·split
  ·rename_i h1 h2
   exact ⟨by show (n.groups++[v]).length≤4;rw [List.length_append,List.length_singleton];omega,h.2⟩
  ·exact h
 ·split
  ·exact h
  ·split
   ·exact h
   ·split
    ·exact h
    ·exact ⟨h.1,Nat.le_trans (b2t v) (Nat.succ_le_succ hv)⟩
theorem b5f {B:Nat}:∀ {r met:List Bs} {n:Nd},(∀ w∈r,w.length≤B)→c3F B n→c3F B (a8T r met n).1
  | [],_,_,_,h=>h
  | w :: r, met, n, hw, h => by
    by_cases h1:w=[58]
    · subst h1;rw [a4y];exact h
    · obtain ⟨⟨W,V,H⟩,hc⟩:∃ q,a4k 61 w=q:=⟨_,rfl⟩
      by_cases h2:a2M W H < 0∨(W∈met∧W≠a2a)∨(a1E (a2M W H) n V).2=false
      · rw [a1Q h1 hc h2];exact ⟨Nat.zero_le _,Nat.zero_le _⟩
      · rw [a2g h1 hc h2]
        have hl:=a4z 61 w
        rw [hc] at hl
        exact b5f (fun x hx=>hw x (List.mem_cons_of_mem _ hx)) (c0N h (Nat.le_trans hl (hw w (List.mem_cons_self ..))))
theorem b3Y {B:Nat}:∀ {r met:List Bs} {m:Mk},(∀ w∈r,w.length≤B)→c5l B m→c5l B (b0f r met m).1
  | [],_,_,_,h=>h
  | w :: r, met, m, hw, h => by
    unfold b0f
    split
    · exact Nat.zero_le _
    · refine b3Y (fun x hx=>hw x (List.mem_cons_of_mem _ hx)) ?_
      have hl:=a4z 61 w
      have hl:=Nat.le_trans hl (hw w (List.mem_cons_self ..))
      unfold a3p
      split
      · exact h
      · split
        · exact Nat.le_trans (b2t _) (Nat.succ_le_succ hl)
        · exact h
theorem c3y {B:Nat} {d:Dc} {l:List Bs} (h:dSm B d) (hw:∀ w∈l,w.length≤B):dSm B (a1P d l).1:=by
 refine ⟨b0A h.1,?_⟩
 have hd:∀ w∈l.drop 2,w.length≤B:=fun w hx=>hw w (List.drop_subset _ _ hx)
 have hN:c3F B (a3s l).1:=b5f hd ⟨Nat.zero_le _,Nat.zero_le _⟩
 have hM:c5l B (a5i l).1:=b3Y hd (Nat.zero_le _)
 have h:=h.2
 unfold a1P
 split
 ·exact h
 ·split
  ·split
   ·exact h
   ·split
    ·exact h
    ·split
     ·exact h
     ·exact ⟨fun n hn=>by rcases List.mem_append.1 hn with hn | hn;exact h.1 n hn;rw [List.mem_singleton.1 hn];exact hN,h.2⟩
  ·split
   ·split
    ·exact h
    ·split
     ·exact h
     ·split
      ·exact h
      ·exact ⟨h.1,fun n hn=>by rcases List.mem_append.1 hn with hn | hn;exact h.2 n hn;rw [List.mem_singleton.1 hn];exact hM⟩
   ·exact h
theorem a7G (B:Nat):dSm B Dc.zero:=⟨⟨Nat.zero_le _,Nat.zero_le _⟩,(fun n h=>by cases h),fun n h=>by cases h⟩
theorem b0K {B:Nat}:∀ {r:List Bs} {i:Nat} {d:Dc},(∀ w∈r,w.length≤B)→dSm B d→dSm B (a3M r i d).1
  | [],_,_,_,h=>h
  | s :: r, i, d, hw, h => by
    have hr:∀ w∈r,w.length≤B:=fun w hx=>hw w (List.mem_cons_of_mem _ hx)
    unfold a3M
    split
    · exact a7G B
    · rename_i l hl
      have hs:=hw s (List.mem_cons_self ..)
      split
      · exact b0K hr h
      · split
        · exact b0K hr (c3y h fun w hx=>Nat.le_trans ((a8y hl).2 w hx) hs)
        · exact a7G B
theorem c0z (s:Bs):dSm s.length (declV s).1:=by
 unfold declV
 split
 ·exact a7G _
 ·rename_i h
  exact b0K (fun w hw=>(a8E (Decidable.not_not.1 h)).2.2 w hw) (a7G _)
@[reducible] def dvT:Bs:=[110,111,100,101,32,112,32,103,114,111,117,112,61,98,108,111,99,107,32,109,97,114,107,115,61,42,32,58,32,116,101,120,116,42,10]
@[reducible] def dvG:Bs:=[103,114,111,117,112,61,98,108,111,99,107]
@[reducible] def dvB:Bs:=[98,108,111,99,107]
@[reducible] def dvM:Bs:=[109,97,114,107,115,61,42]
@[reducible] def dvX:Bs:=[116,101,120,116,42]
@[reducible] def dvW:List Bs:=[a0S,[112],dvG,dvM,[58],dvX]
@[reducible] def dvN:Nd:=⟨[112],[dvB],false,false,false,0,true,[],dvX⟩
theorem c4M:lexV dvX=.ok [⟨1,0,0,0,sText⟩,⟨5,4,0,-1,[]⟩]:=by
 have h:(match lexV dvX with | .ok l=>decide (l=[⟨1,0,0,0,sText⟩,⟨5,4,0,-1,[]⟩]) | .error _=>false)=true:=by decide +kernel
 split at h
 ·rename_i l hl;rw [hl,of_decide_eq_true h]
 ·cases h
theorem b3P:exprV dvX=(T.flat 0 (.times 0 (-1) (.name sText)),0,0) :=
 b0O (.ok _ _ c4M (.choice1 _ _ _ (.row1 _ _ _ (.times 0 1 _ (.name 0 (by decide)) (by decide)))))
theorem c2y {t:T} (h:T.flat 0 (.times 0 (-1) (.name sText))=T.flat 0 t):t=.times 0 (-1) (.name sText):=by
  have h0:T.flat 0 (.times 0 (-1) (.name sText))=[⟨1,0,0,sText,[]⟩]++[⟨4,0,-1,[],[0]⟩]:=by decide +kernel
  rw [h0] at h
  cases t with
  | name s=>exact absurd (congrArg List.length h) (by rw [T.flat_len];simp [T.size])
  | times lo hi u =>
    have h:_=T.flat 0 u++[⟨4,lo,hi,[],[((0+u.size:Nat):Int) - 1]⟩]:=h
    obtain ⟨ha,hb⟩:=List.append_inj' h rfl
    have hb:=(List.cons_eq_cons.1 hb).1
    have hl:(0:Int)=lo:=congrArg Pt.low hb
    have hh:(-1:Int)=hi:=congrArg Pt.high hb
    subst hl;subst hh
    cases u with
    | name s =>
      have ha:[(⟨1,0,0,sText,[]⟩:Pt)]=[⟨1,0,0,s,[]⟩]:=ha
      have hs:sText=s:=congrArg Pt.name (List.cons_eq_cons.1 ha).1
      rw [hs]
    | times a b v =>
      have:=congrArg List.length ha
      rw [T.flat_len] at this
      have h2:=T.size_pos v
      simp [T.size] at this;omega
    | many k ts =>
      have ha:[]++[(⟨1,0,0,sText,[]⟩:Pt)]=T.flatL 0 ts++[⟨k,0,0,[],rootsL 0 ts⟩]:=ha
      have hs:=congrArg Pt.name (List.cons_eq_cons.1 (List.append_inj' ha rfl).2).1
      cases hs
  | many k ts =>
    have h:_=T.flatL 0 ts++[⟨k,0,0,[],rootsL 0 ts⟩]:=h
    have hb:=(List.cons_eq_cons.1 (List.append_inj' h rfl).2).1
    have hh:(-1:Int)=0:=congrArg Pt.high hb
    cases hh
theorem c0v:exprS dvX=dvX:=by
 have h:∃ t:T,t.ok=true∧t.size≤250∧exprV dvX=(T.flat 0 t,0,0):=⟨.times 0 (-1) (.name sText),by decide +kernel,by decide +kernel,b3P⟩
 unfold exprS
 rw [dif_pos h]
 obtain ⟨h1,h2,h3⟩:=Classical.choose_spec h
 have h4:=congrArg (fun x:List Pt×Int×Int=>x.1) (b3P.symm.trans h3)
 have h4:T.flat 0 (.times 0 (-1) (.name sText))=T.flat 0 (Classical.choose h):=h4
 rw [c2y h4]
 decide +kernel
theorem c0b:a1w dvT=([dvT.dropLast],0,0):=by decide +kernel
theorem b9l:a2m dvT.dropLast=some dvW:=by decide +kernel
theorem c2M:a3s dvW=(dvN,true):=by
 show a8T [dvG,dvM,[58],dvX] [] _=_
 rw [a2g (W:=a2a) (V:=dvB) (H:=true) (by decide) (by decide) (by decide +kernel),a2g (W:=a1j) (V:=[42]) (H:=true) (by decide) (by decide) (by decide +kernel),a4y]
 show (_,decide ((exprV dvX).2.2=0))=_
 rw [b3P]
 show (({ (_:Nd) with leaf:=false,expr:=exprS dvX }),true)=_
 rw [c0v]
 decide +kernel
theorem c4H:a1P Dc.zero dvW=(⟨[dvN],[]⟩,0):=by
 unfold a1P
 rw [c2M]
 decide +kernel
theorem c1Z:declV dvT=(⟨[dvN],[]⟩,0,0):=by
 unfold declV
 rw [c0b]
 show (if (0:Int)≠0 then _ else a3M [dvT.dropLast] 0 Dc.zero)=_
 rw [if_neg (by decide)]
 unfold a3M
 rw [b9l]
 show (if dvW=[] then _ else if (a1P Dc.zero dvW).2=0 then a3M [] 1 (a1P Dc.zero dvW).1 else _)=_
 rw [if_neg (by decide),c4H,if_pos rfl]
 rfl
end Go.Proofs.YtjdmfohncgkdoaaGreatDoor
namespace Go.Proofs.YtjdmfohncgkdoaaGreatDoor
set_option linter.unusedSimpArgs false
set_option linter.unusedVariables false
set_option maxRecDepth 100000
set_option maxHeartbeats 4000000
open Go.RowKit
theorem c4i {B:Nat} {d:Dc} (h:dSm B d) (hB:B≤999999):c0c d:=by
 obtain ⟨⟨h1,h2⟩,h3,h4⟩:=h
 refine ⟨by omega,by omega,fun k=>?_,fun k=>?_⟩
 ·rw [List.getD_eq_getElem?_getD]
  rcases Nat.lt_or_ge k d.nodes.length with hk | hk
  ·rw [List.getElem?_eq_getElem hk]
   have:=h3 _ (List.getElem_mem hk)
   exact ⟨Nat.le_trans this.1 (by omega),Nat.le_trans this.2 (by omega)⟩
  ·rw [List.getElem?_eq_none hk];exact ⟨Nat.zero_le _,Nat.zero_le _⟩
 ·rw [List.getD_eq_getElem?_getD]
  rcases Nat.lt_or_ge k d.marks.length with hk | hk
  ·rw [List.getElem?_eq_getElem hk]
   exact Nat.le_trans (h4 _ (List.getElem_mem hk)) (by omega)
  ·rw [List.getElem?_eq_none hk];exact Nat.zero_le _
theorem b4y:a0q Tryz.prog 6 [] (a0s true):=by
 have hp:a0q Tryz.prog 7 [a0p dvT] (c0S (⟨[dvN],[]⟩,0,0)):=by rw [←c1Z];exact b4p dvT (by decide)
 refine a0m Tryz.func6 rfl kr _ _ _ rfl 57 rfl rfl (fun w F=>?_)
 refine ru 7 ?_
 refine cll (hp) ?_
 refine ru 64 ?_
 refine rt1 ?_
 exact .imm _
theorem c0t (s:Bs) (h1:65536 < s.length) (h2:s.length≤1000000000):a0q Tryz.prog 16 [a0p s] (b1F ([],0,4)):=by
 refine a0m Tryz.func16 rfl kr _ _ _ rfl 28 rfl rfl (fun w F=>?_)
 refine ru 15 ?_
 refine wdc (fun hr0 hc0=>?_) (fun hr0 hc0=>?_)
 ·refine ru 9 ?_
  refine rt3 ?_
  exact a1r (.nil 0 1 _ (by decide) none) (.imm _) (.imm _)
 exfalso;omega
theorem b7h (s:Bs) (h1:65536 < s.length) (h2:s.length≤1000000000):a0q Tryz.prog 19 [a0p s] (b1F ([],0,4)):=by
 refine a0m Tryz.func19 rfl kr _ _ _ rfl 38 rfl rfl (fun w F=>?_)
 refine ru 15 ?_
 refine wdc (fun hr0 hc0=>?_) (fun hr0 hc0=>?_)
 ·refine ru 9 ?_
  refine rt3 ?_
  exact a1r (.nil 0 1 _ (by decide) none) (.imm _) (.imm _)
 exfalso;omega
theorem a8N {s:Bs} (h1:65536 < s.length):declV s=(Dc.zero,0,4):=by
 have:a1w s=([],0,4):=by unfold a1w;rw [if_pos h1]
 unfold declV;rw [this];rfl
theorem b6L (s:Bs) (h1:65536 < s.length) (h2:s.length≤1000000000):a0q Tryz.prog 7 [a0p s] (c0S (declV s)):=by
 rw [a8N h1]
 refine a0m Tryz.func7 rfl kr _ _ _ rfl 53 rfl rfl (fun w F=>?_)
 refine ru 10 ?_
 refine cll (c0t s h1 h2) ?_
 refine ru 16 ?_
 refine wdc (fun hr0 hc0=>?_) (fun hr0 hc0=>?_)
 ·refine ru 12 ?_
  refine rt3 ?_
  exact a1r (a7j rfl rfl) (.imm _) (.imm _)
 exfalso;simp at hr0
theorem b5l (s:Bs) (h1:65536 < s.length) (h2:s.length≤1000000000):a0q Tryz.prog 8 [a0p s] (c0S (declV s)):=by
 rw [a8N h1]
 refine a0m Tryz.func8 rfl kr _ _ _ rfl 58 rfl rfl (fun w F=>?_)
 refine ru 10 ?_
 refine cll (b7h s h1 h2) ?_
 refine ru 16 ?_
 refine wdc (fun hr0 hc0=>?_) (fun hr0 hc0=>?_)
 ·refine ru 12 ?_
  refine rt3 ?_
  exact a1r (a7j rfl rfl) (.imm _) (.imm _)
 exfalso;simp at hr0
theorem b8f (s:Bs) (h2:s.length≤1000000000):a0q Tryz.prog 7 [a0p s] (c0S (declV s)):=by
 rcases Nat.lt_or_ge 65536 s.length with h | h
 ·exact b6L s h h2
 ·exact b4p s (by omega)
theorem b5r (s:Bs) (h2:s.length≤1000000000):a0q Tryz.prog 8 [a0p s] (c0S (declV s)):=by
 rcases Nat.lt_or_ge 65536 s.length with h | h
 ·exact b5l s h h2
 ·exact b8o s h
theorem c0x (d:Dc) (hd:DcB d) (hP:a0q Tryz.prog 8 [a0p (linesD d)] (c0S (declV (linesD d)))) (hS:a0q Tryz.prog 9 [dcV (declV (linesD d)).1,dcV d] (a0s (decide ((declV (linesD d)).1=d)))):a0q Tryz.prog 14 [dcV d] (a0p (a7y d)):=by
 refine a0m Tryz.func14 rfl kr _ _ _ rfl 24 rfl rfl (fun w F=>?_)
 refine ru 9 ?_
 refine s0 (a0i (xs:=[_]) (c0H d hd) ⟨rfl,trivial⟩ ⟨(show Fz _ (dcV d) (dcV d) from a3t _),trivial⟩) ?_
 refine ru 6 ?_
 refine cll (hP) ?_
 refine ru 18 ?_
 first
 | refine stg 17 (fun hb=>a0i (xs:=[_,_]) (hS) ⟨rfl,⟨rfl,trivial⟩⟩ ⟨(show Fz _ (dcV (declV (linesD d)).1) (dcV (declV (linesD d)).1) from a3t _),⟨(show Fz _ (dcV d) (dcV d) from a3t _),trivial⟩⟩) rfl rfl rfl rfl rfl ?_
 | refine sth 17 (fun hb=>a0i (xs:=[_,_]) (hS) ⟨rfl,⟨rfl,trivial⟩⟩ ⟨(show Fz _ (dcV (declV (linesD d)).1) (dcV (declV (linesD d)).1) from a3t _),⟨(show Fz _ (dcV d) (dcV d) from a3t _),trivial⟩⟩) rfl rfl rfl rfl rfl ?_
 refine ru 4 ?_
 refine wdc (fun hr0 hc0=>?_) (fun hr0 hc0=>?_)
 ·skip
  have hsh:a7y d=[]:=(by unfold a7y;rw [if_neg (fun h=>by have h9:=hr0;simp [h.1,h.2] at h9)])
  refine ru 7 ?_
  refine rt1 ?_
  rw [hsh];exact .imm _
 have hsh:a7y d=linesD d:=(by unfold a7y;rw [if_pos (by have h9:=hr0;simpa using h9)])
 refine ru 9 ?_
 refine rt1 ?_
 rw [hsh];exact .imm _
theorem a8e (s:Bs):c0c (declV s).1:=by
 rcases Nat.lt_or_ge 65536 s.length with h | h
 ·rw [a8N h];exact ⟨Nat.zero_le _,Nat.zero_le _,fun k=>⟨Nat.zero_le _,Nat.zero_le _⟩,fun k=>Nat.zero_le _⟩
 ·exact c4i (c0z s) (by omega)
theorem b6b (d:Dc) (hd:DcB d) (hs:c0c d):a0q Tryz.prog 13 [dcV d] (a0p (a7y d))∧a0q Tryz.prog 14 [dcV d] (a0p (a7y d)) :=
 ⟨c1Y d hd (b8f _ hd.all) (b3d _ _ (a8e _) hs),c0x d hd (b5r _ hd.all) (b6P _ _ (a8e _))⟩
@[reducible] def dzO (g:Nat):HObj:=⟨g,1,2,26,0,fun _=>zDc⟩
theorem b1C (d:Dc) (h1:d.nodes.length≤1000000) (h2:d.marks.length≤1000000):a0q Tryz.prog 12 [dcV d] (dcV d):=by
 refine a0m Tryz.func12 rfl kr _ _ _ rfl 42 rfl rfl (fun w F=>?_)
 refine ru 20 ?_
 refine (a1q 3 0 8101 9 46 (b5U []) (fun _ j=>match j with | 0=>.os 8101 4 0 0 | _=>.imm (.slice none 0 0)) rfl rfl (fun j hj=>by match j,hj with | 0,_=>exact .inl ⟨rfl,rfl⟩ | 1,_=>exact .inr rfl) (by decide) (by decide) (c':=5) rfl).wp ?_;refine (a1q 3 1 8102 4 58 (b5W []) (fun _=>dcG 4 0 5 0) rfl rfl (fun j hj=>by match j,hj with | 0,_=>exact .inr rfl | 1,_=>exact .inl ⟨rfl,rfl⟩) (by decide) (by decide) (c':=6) rfl).wp ?_
 refine a0n (α:=Nat×List Nd×Nat) (fun x c=>⟨42,[(1,.v (.pt 1 0 0 0)),(2,.v (.pt 2 1 0 0)),(3,.v (.pt 3 2 0 0)),(4,.v (a0h (x.1:Int)))],[(1,⟨0,1,2,33,0,fun _=>dcF d⟩),(2,dzO 1),(3,dcO 2 x.2.2 x.2.1.length 5 0),(8101,b6k x.2.2 x.2.1),(8102,b6o 5 [])],c⟩) (fun x=>x.1≤d.nodes.length∧x.2.1=d.nodes.take x.1) (fun x=>d.nodes.length - x.1) ((0,[],4)) (by exact ⟨Nat.zero_le _,rfl⟩) (a0c rfl (Nat.le_refl _) tsa (a0k.cons rfl (a2X (.refl _) (.refl _)) (a0k.cons rfl (a2X (.refl _) (.refl _)) hsa))) (fun x c hx NhL1 hL1=>?_)
 revert hx hL1;obtain ⟨k,o1,g1⟩:=x;intro hx hL1;dsimp only at hx hL1 ⊢
 obtain ⟨hk,ho⟩:=hx
 refine ru 10 ?_
 refine wdc (fun hr0 hc0=>?_) (fun hr0 hc0=>?_)
 ·skip
  have hT:=a6W (l:=d.nodes) (k:=k) om;have hol:o1.length≤1000000:=(by rw [ho,List.length_take];omega)
  refine ru 11 ?_
  first
  | refine a3K 20 (HOp.val (v':=.agg 9 (a5B (d.nodes.getD k default))) (a0A ty_54.h rfl omy omy (fun h=>(by first | rfl | cases h))) (rfl)) rfl rfl (a0C rfl) rfl rfl (k':=7) rfl ?_
  | refine a3K 20 (HOp.val (v':=.agg 9 (a5B (d.nodes.getD k default))) (a0o ty_54.h rfl omy (fun h=>(by first | rfl | cases h))) (rfl)) rfl rfl a0e rfl rfl (k':=7) rfl ?_
  refine a2f 21 (a0b (id:=21) (hs:=[_]) ei_23.h omx rfl omx ⟨rfl,rfl,rfl,rfl,trivial⟩) rfl rfl a0e rfl rfl (k':=8) rfl ?_
  first
  | refine a2f 22 (a0a ei_23.h omy rfl omy omy (a0u rfl omy) omy rfl) rfl rfl (a0g rfl (a0C rfl)) rfl rfl (k':=9) rfl ?_
  | refine a2f 22 (a0a ei_23.h omy rfl omy omy (a0G rfl omy) omy rfl) rfl rfl (a0g rfl (a0C rfl)) rfl rfl (k':=9) rfl ?_
  | refine a2f 22 (a0a ei_23.h omy rfl omy omy (a0F rfl) omy rfl) rfl rfl (a0g rfl a0e) rfl rfl (k':=9) rfl ?_
  | refine a2f 22 (a0a ei_23.h omy rfl omy omy (a0w 9 (fun _ _=>default) rfl) omy rfl) rfl rfl (a0g rfl a0e) rfl rfl (k':=9) rfl ?_
  refine ru 10 ?_
  exact hL1 ((k+1,o1++[d.nodes.getD k default],_)) _ _ (by (try dsimp only);exact ⟨by omega,by rw [hT,ho]⟩) (by (try dsimp only);omega) (a0c rfl (Nat.le_refl _) tsa (hsr rfl (hsr rfl (a0k.cons rfl (a2X (a1N (by simp)) (.refl _)) (a0k.cons rfl (a0x (enc:=a5B) (d:=default) rfl (fun i j hi hj=>.refl _) (by exact q9 (.refl _) (.refl _) (.refl _) (.refl _) (.refl _) (.refl _) (.refl _) (.refl _) (.refl _))) hsa)))))
 obtain rfl:o1=d.nodes:=(by rw [ho,show k=d.nodes.length by omega,List.take_length])
 refine ru 2 ?_
 refine a0d ?_
 refine ru 9 ?_
 refine a0n (α:=Nat×List Mk×Nat) (fun x c=>⟨42,[(1,.v (.pt 1 0 0 0)),(2,.v (.pt 2 1 0 0)),(3,.v (.pt 3 2 0 0)),(5,.v (a0h (x.1:Int)))],[(1,⟨0,1,2,33,0,fun _=>dcF d⟩),(2,dzO 1),(3,dcO 2 g1 d.nodes.length x.2.2 x.2.1.length),(8101,b6k g1 d.nodes),(8102,b6o x.2.2 x.2.1)],c⟩) (fun x=>x.1≤d.marks.length∧x.2.1=d.marks.take x.1) (fun x=>d.marks.length - x.1) ((0,[],5)) (by exact ⟨Nat.zero_le _,rfl⟩) (a0c rfl (Nat.le_refl _) tsa hsa) (fun x c hx NhL2 hL2=>?_)
 revert hx hL2;obtain ⟨k,o2,g2⟩:=x;intro hx hL2;dsimp only at hx hL2 ⊢
 obtain ⟨hk2,ho2⟩:=hx
 refine ru 10 ?_
 refine wdc (fun hr1 hc1=>?_) (fun hr1 hc1=>?_)
 ·skip
  have hT:=a6I (l:=d.marks) (k:=k) om;have hol:o2.length≤1000000:=(by rw [ho2,List.length_take];omega)
  refine ru 11 ?_
  first
  | refine a3K 37 (HOp.val (v':=.agg 4 (a5E (d.marks.getD k default))) (a0A ty_57.h rfl omy omy (fun h=>(by first | rfl | cases h))) (rfl)) rfl rfl (a0C rfl) rfl rfl (k':=7) rfl ?_
  | refine a3K 37 (HOp.val (v':=.agg 4 (a5E (d.marks.getD k default))) (a0o ty_57.h rfl omy (fun h=>(by first | rfl | cases h))) (rfl)) rfl rfl a0e rfl rfl (k':=7) rfl ?_
  refine a2f 38 (a0b (id:=38) (hs:=[_]) ei_24.h omx rfl omx ⟨rfl,rfl,rfl,rfl,trivial⟩) rfl rfl a0e rfl rfl (k':=8) rfl ?_
  first
  | refine a2f 39 (a0a ei_24.h omy rfl omy omy (a0u rfl omy) omy rfl) rfl rfl (a0g rfl (a0C rfl)) rfl rfl (k':=9) rfl ?_
  | refine a2f 39 (a0a ei_24.h omy rfl omy omy (a0G rfl omy) omy rfl) rfl rfl (a0g rfl (a0C rfl)) rfl rfl (k':=9) rfl ?_
  | refine a2f 39 (a0a ei_24.h omy rfl omy omy (a0F rfl) omy rfl) rfl rfl (a0g rfl a0e) rfl rfl (k':=9) rfl ?_
  | refine a2f 39 (a0a ei_24.h omy rfl omy omy (a0w 4 (fun _ _=>default) rfl) omy rfl) rfl rfl (a0g rfl a0e) rfl rfl (k':=9) rfl ?_
  refine ru 10 ?_
  exact hL2 ((k+1,o2++[d.marks.getD k default],_)) _ _ (by (try dsimp only);exact ⟨by omega,by rw [hT,ho2]⟩) (by (try dsimp only);omega) (a0c rfl (Nat.le_refl _) tsa (hsr rfl (hsr rfl (a0k.cons rfl (a2X (.refl _) (a1N (by simp))) (hsr rfl (a0k.cons rfl (a0x (enc:=a5E) (d:=default) rfl (fun i j hi hj=>.refl _) (by exact qm4 (.refl _) (.refl _) (.refl _) (.refl _))) a0k.nil))))))
 obtain rfl:o2=d.marks:=(by rw [ho2,show k=d.marks.length by omega,List.take_length])
 refine ru 2 ?_
 refine a0d ?_
 refine ru 9 ?_
 refine a8h rfl (a0Q rfl rfl ty_26.h rqc rfl rfl) [(8101,_),(8102,_)] rfl (a0g rfl (a0g rfl a0e)) ?_
 exact .agg _ _ _ (fun j hj=>by match j,hj with | 0,_=>exact a1x (l:=d.nodes) (enc:=a5B) (d:=default) (List.mem_cons_self ..) rfl rfl (Nat.le_refl _) (fun i j hi hj=>a4d _ j hj) | 1,_=>exact a1x (l:=d.marks) (enc:=a5E) (d:=default) (List.mem_cons_of_mem _ (List.mem_cons_self ..)) rfl rfl (Nat.le_refl _) (fun i j hi hj=>a4f _ j hj))
def b9s (d:Dc):Prop:=d.nodes.length≤30∧d.marks.length≤30∧(∀ k,k < d.nodes.length→(d.nodes.getD k default).expr.length≤300∧(d.nodes.getD k default).groups.length≤10∧(d.nodes.getD k default).marks.length≤20)∧∀ k,k < d.marks.length→(d.marks.getD k default).bars.length≤20
open Classical in
theorem a9i (d:Dc):a0q Tryz.prog 11 [dcV d] (a0s (decide (b9s d))):=by
 refine a0m Tryz.func11 rfl kr _ _ _ rfl 73 rfl rfl (fun w F=>?_)
 refine ru 13 ?_
 refine a0n (α:=Nat) (fun x c=>⟨73,[(1,.v (.pt 1 0 0 0)),(3,.v (a0h x))],[(1,rcO 0 d)],c⟩) (fun x=>x≤30∧∀ i,i < x→(d.nodes.getD i default).expr.length≤300∧(d.nodes.getD i default).groups.length≤10∧(d.nodes.getD i default).marks.length≤20) (fun x=>30 - x) (0) (by exact ⟨Nat.zero_le _,fun i h=>absurd h (Nat.not_lt_zero _)⟩) (a0c rfl (Nat.le_refl _) tsa hsa) (fun k c hx NhL1 hL1=>?_)
 (try dsimp only at hx hL1 ⊢)
 obtain ⟨hk,hE⟩:=hx
 refine ru 14 ?_
 refine wdc (fun hr0 hc0=>?_) (fun hr0 hc0=>?_)
 ·refine ru 12 ?_
  refine rvl (a0p (d.nodes.getD k default).expr) (rfl) ?_
  refine ru 9 ?_
  refine ry (a0M (d.nodes.getD k default).groups) rfl (fun hb=>rfl) ?_
  refine ru 10 ?_
  refine ry (a0M (d.nodes.getD k default).marks) rfl (fun hb=>rfl) ?_
  refine ru 5 ?_
  refine wdc (fun hr1 hc1=>?_) (fun hr1 hc1=>?_)
  ·refine ru 8 ?_
   refine a0f ?_
   refine ru 2 ?_
   refine rt1 ?_
   exact a1d (by symm;refine decide_eq_false (fun h=>?_);have h9:=h.2.2.1 k om;omega)
  refine ru 8 ?_
  exact hL1 (k+1) _ _ (by (try dsimp only);exact ⟨by omega,fun i hi=>by by_cases e:i=k;(subst e;omega);exact hE i om⟩) (by (try dsimp only);omega) (a0c rfl (Nat.le_refl _) tsa hsa)
 have hk9:30≤k∨d.nodes.length≤k:=(by have h9:=hr0;simp at h9;omega)
 refine ru 2 ?_
 refine a0d ?_
 refine ru 9 ?_
 refine a0n (α:=Nat) (fun x c=>⟨73,[(1,.v (.pt 1 0 0 0)),(4,.v (a0h x))],[(1,rcO 0 d)],c⟩) (fun x=>x≤30∧∀ i,i < x→(d.marks.getD i default).bars.length≤20) (fun x=>30 - x) (0) (by exact ⟨Nat.zero_le _,fun i h=>absurd h (Nat.not_lt_zero _)⟩) (a0c rfl (Nat.le_refl _) tsa hsa) (fun k2 c hx NhL2 hL2=>?_)
 (try dsimp only at hx hL2 ⊢)
 obtain ⟨hk2,hE2⟩:=hx
 refine ru 14 ?_
 refine wdc (fun hr2 hc2=>?_) (fun hr2 hc2=>?_)
 ·refine ru 12 ?_
  refine rvl (a0M (d.marks.getD k2 default).bars) (rfl) ?_
  refine ru 4 ?_
  refine wdc (fun hr3 hc3=>?_) (fun hr3 hc3=>?_)
  ·refine ru 8 ?_
   refine a0f ?_
   refine ru 2 ?_
   refine rt1 ?_
   exact a1d (by symm;refine decide_eq_false (fun h=>?_);have h9:=h.2.2.2 k2 om;omega)
  refine ru 8 ?_
  exact hL2 (k2+1) _ _ (by (try dsimp only);exact ⟨by omega,fun i hi=>by by_cases e:i=k2;(subst e;omega);exact hE2 i om⟩) (by (try dsimp only);omega) (a0c rfl (Nat.le_refl _) tsa hsa)
 have hk8:30≤k2∨d.marks.length≤k2:=(by have h9:=hr2;simp at h9;omega)
 refine ru 2 ?_
 refine a0d ?_
 refine ru 18 ?_
 refine rt1 ?_
 exact a1d (by rw [Bool.eq_iff_iff];simp only [Bool.and_eq_true,decide_eq_true_eq];exact ⟨fun h=>⟨by omega,by omega,(fun i hi=>hE i om),fun i hi=>hE2 i om⟩,fun h=>⟨by have:=h.1;omega,by have:=h.2.1;omega⟩⟩)
open Classical in
theorem b1N (d o:Dc) (hf:¬ (b9s d∧b9s o)):a0q Tryz.prog 4 [dcV d,dcV o] (a0s true):=by
 have hlv:=b4y
 refine a0m Tryz.func4 rfl kr _ _ _ rfl 42 rfl rfl (fun w F=>?_)
 refine ru 11 ?_
 refine s0 (a0i (xs:=[_]) (a9i d) ⟨rfl,trivial⟩ ⟨(show Fz _ (dcV d) (dcV d) from a3t _),trivial⟩) ?_
 refine ru 3 ?_
 first
 | refine stg 10 (fun hb=>a0i (xs:=[_]) (a9i o) ⟨rfl,trivial⟩ ⟨(show Fz _ (dcV o) (dcV o) from a3t _),trivial⟩) rfl rfl rfl rfl rfl ?_
 | refine sth 10 (fun hb=>a0i (xs:=[_]) (a9i o) ⟨rfl,trivial⟩ ⟨(show Fz _ (dcV o) (dcV o) from a3t _),trivial⟩) rfl rfl rfl rfl rfl ?_
 refine ru 4 ?_
 refine wdc (fun hr0 hc0=>?_) (fun hr0 hc0=>?_)
 ·refine ru 2 ?_
  refine cll (hlv) ?_
  refine ru 5 ?_
  refine rt1 ?_
  exact .imm _
 exfalso;exact hf (by have h9:=hr0;simp at h9;exact h9)
open Classical in
theorem b3m (d o:Dc) (hd:DcB d) (hsd:c0c d) (hso:c0c o) (hfd:b9s d) (hfo:b9s o):a0q Tryz.prog 4 [dcV d,dcV o] (a0s true):=by
 have hlv:=b4y
 obtain ⟨hsh1,hsh2⟩:=b6b d hd hsd
 refine a0m Tryz.func4 rfl kr _ _ _ rfl 42 rfl rfl (fun w F=>?_)
 refine ru 11 ?_
 refine s0 (a0i (xs:=[_]) (a9i d) ⟨rfl,trivial⟩ ⟨(show Fz _ (dcV d) (dcV d) from a3t _),trivial⟩) ?_
 refine ru 3 ?_
 first
 | refine stg 10 (fun hb=>a0i (xs:=[_]) (a9i o) ⟨rfl,trivial⟩ ⟨(show Fz _ (dcV o) (dcV o) from a3t _),trivial⟩) rfl rfl rfl rfl rfl ?_
 | refine sth 10 (fun hb=>a0i (xs:=[_]) (a9i o) ⟨rfl,trivial⟩ ⟨(show Fz _ (dcV o) (dcV o) from a3t _),trivial⟩) rfl rfl rfl rfl rfl ?_
 refine ru 4 ?_
 refine wdc (fun hr0 hc0=>?_) (fun hr0 hc0=>?_)
 ·skip
  exfalso;have h9:=hr0;simp [hfd,hfo] at h9
 refine ru 5 ?_
 refine d0 2 (a0i (xs:=[_]) (b1C d hsd.1 hsd.2.1) ⟨rfl,trivial⟩ ⟨(show Fz _ (dcV d) (dcV d) from a3t _),trivial⟩) ?_
 refine ru 1 ?_
 refine d0 4 (a0i (xs:=[_]) (b1C o hso.1 hso.2.1) ⟨rfl,trivial⟩ ⟨(show Fz _ (dcV o) (dcV o) from a3t _),trivial⟩) ?_
 refine a2f 5 (a4t (id:=5) (sz:=2) zc_26.h rfl rfl omx omx) rfl rfl a0e rfl rfl (k':=5) rfl ?_
 refine a2f 6 (a4t (id:=6) (sz:=2) zc_26.h rfl rfl omx omx) rfl rfl a0e rfl rfl (k':=6) rfl ?_
 refine ru 7 ?_
 refine d0 2 (a0i (xs:=[_]) (hsh1) ⟨rfl,trivial⟩ ⟨(show Fz _ (dcV d) (dcV d) from a3t _),trivial⟩) ?_
 refine ru 1 ?_
 refine d0 4 (a0i (xs:=[_]) (hsh2) ⟨rfl,trivial⟩ ⟨(show Fz _ (dcV d) (dcV d) from a3t _),trivial⟩) ?_
 refine ru 2 ?_
 first
 | refine a5Q 26 5 25 true _ (fun hb=>a0A ty_26.h rfl (by first | exact Nat.le_of_ble_eq_true rfl | (simp at hb;first | omega | (dsimp only;omega) | (simp <;> omega)) | omega | (dsimp only;omega)) (by first | exact Nat.le_of_ble_eq_true rfl | (simp at hb;first | omega | (dsimp only;omega) | (simp <;> omega)) | omega | (dsimp only;omega)) (fun h=>(by first | rfl | cases h))) rfl rfl rfl rfl (a0C rfl) rfl rfl rfl (k':=7) rfl ?_
 | refine a5Q 26 5 25 true _ (fun hb=>a0o ty_26.h rfl (by first | exact Nat.le_of_ble_eq_true rfl | (simp at hb;first | omega | (dsimp only;omega) | (simp <;> omega)) | omega | (dsimp only;omega)) (fun h=>(by first | rfl | cases h))) rfl rfl rfl rfl a0e rfl rfl rfl (k':=7) rfl ?_
 first
 | refine a5Q 27 5 25 true _ (fun hb=>a0A ty_26.h rfl (by first | exact Nat.le_of_ble_eq_true rfl | (simp at hb;first | omega | (dsimp only;omega) | (simp <;> omega)) | omega | (dsimp only;omega)) (by first | exact Nat.le_of_ble_eq_true rfl | (simp at hb;first | omega | (dsimp only;omega) | (simp <;> omega)) | omega | (dsimp only;omega)) (fun h=>(by first | rfl | cases h))) rfl rfl rfl rfl (a0C rfl) rfl rfl rfl (k':=8) rfl ?_
 | refine a5Q 27 5 25 true _ (fun hb=>a0o ty_26.h rfl (by first | exact Nat.le_of_ble_eq_true rfl | (simp at hb;first | omega | (dsimp only;omega) | (simp <;> omega)) | omega | (dsimp only;omega)) (fun h=>(by first | rfl | cases h))) rfl rfl rfl rfl a0e rfl rfl rfl (k':=8) rfl ?_
 refine a5Q 28 5 25 true _ (fun hb=>a0i (xs:=[_,_]) (b3d d o hsd hso) ⟨rfl,⟨rfl,trivial⟩⟩ ⟨(show Fz _ (dcV d) (dcV d) from a3t _),⟨(show Fz _ (dcV o) (dcV o) from a3t _),trivial⟩⟩) rfl rfl rfl rfl a0e rfl rfl rfl (k':=9) rfl ?_
 first
 | refine a5Q 29 5 25 true _ (fun hb=>a0A ty_33.h rfl (by first | exact Nat.le_of_ble_eq_true rfl | (simp at hb;first | omega | (dsimp only;omega) | (simp <;> omega)) | omega | (dsimp only;omega)) (by first | exact Nat.le_of_ble_eq_true rfl | (simp at hb;first | omega | (dsimp only;omega) | (simp <;> omega)) | omega | (dsimp only;omega)) (fun h=>(by first | rfl | cases h))) rfl rfl rfl rfl (a0C rfl) rfl rfl rfl (k':=10) rfl ?_
 | refine a5Q 29 5 25 true _ (fun hb=>a0o ty_33.h rfl (by first | exact Nat.le_of_ble_eq_true rfl | (simp at hb;first | omega | (dsimp only;omega) | (simp <;> omega)) | omega | (dsimp only;omega)) (fun h=>(by first | rfl | cases h))) rfl rfl rfl rfl a0e rfl rfl rfl (k':=10) rfl ?_
 first
 | refine a5Q 30 5 25 true _ (fun hb=>a0A ty_33.h rfl (by first | exact Nat.le_of_ble_eq_true rfl | (simp at hb;first | omega | (dsimp only;omega) | (simp <;> omega)) | omega | (dsimp only;omega)) (by first | exact Nat.le_of_ble_eq_true rfl | (simp at hb;first | omega | (dsimp only;omega) | (simp <;> omega)) | omega | (dsimp only;omega)) (fun h=>(by first | rfl | cases h))) rfl rfl rfl rfl (a0C rfl) rfl rfl rfl (k':=11) rfl ?_
 | refine a5Q 30 5 25 true _ (fun hb=>a0o ty_33.h rfl (by first | exact Nat.le_of_ble_eq_true rfl | (simp at hb;first | omega | (dsimp only;omega) | (simp <;> omega)) | omega | (dsimp only;omega)) (fun h=>(by first | rfl | cases h))) rfl rfl rfl rfl a0e rfl rfl rfl (k':=11) rfl ?_
 refine a5Q 31 5 25 true _ (fun hb=>a0i (xs:=[_,_]) (b6P d o hsd) ⟨rfl,⟨rfl,trivial⟩⟩ ⟨(show Fz _ (dcV d) (dcV d) from a3t _),⟨(show Fz _ (dcV o) (dcV o) from a3t _),trivial⟩⟩) rfl rfl rfl rfl a0e rfl rfl rfl (k':=12) rfl ?_
 refine ru 3 ?_
 first
 | refine a5Q 35 14 34 true _ (fun hb=>a0A ty_26.h rfl (by first | exact Nat.le_of_ble_eq_true rfl | (simp at hb;first | omega | (dsimp only;omega) | (simp <;> omega)) | omega | (dsimp only;omega)) (by first | exact Nat.le_of_ble_eq_true rfl | (simp at hb;first | omega | (dsimp only;omega) | (simp <;> omega)) | omega | (dsimp only;omega)) (fun h=>(by first | rfl | cases h))) rfl rfl rfl rfl (a0C rfl) rfl rfl rfl (k':=16) rfl ?_
 | refine a5Q 35 14 34 true _ (fun hb=>a0o ty_26.h rfl (by first | exact Nat.le_of_ble_eq_true rfl | (simp at hb;first | omega | (dsimp only;omega) | (simp <;> omega)) | omega | (dsimp only;omega)) (fun h=>(by first | rfl | cases h))) rfl rfl rfl rfl a0e rfl rfl rfl (k':=16) rfl ?_
 first
 | refine a5Q 36 14 34 true _ (fun hb=>a0A ty_26.h rfl (by first | exact Nat.le_of_ble_eq_true rfl | (simp at hb;first | omega | (dsimp only;omega) | (simp <;> omega)) | omega | (dsimp only;omega)) (by first | exact Nat.le_of_ble_eq_true rfl | (simp at hb;first | omega | (dsimp only;omega) | (simp <;> omega)) | omega | (dsimp only;omega)) (fun h=>(by first | rfl | cases h))) rfl rfl rfl rfl (a0C rfl) rfl rfl rfl (k':=17) rfl ?_
 | refine a5Q 36 14 34 true _ (fun hb=>a0o ty_26.h rfl (by first | exact Nat.le_of_ble_eq_true rfl | (simp at hb;first | omega | (dsimp only;omega) | (simp <;> omega)) | omega | (dsimp only;omega)) (fun h=>(by first | rfl | cases h))) rfl rfl rfl rfl a0e rfl rfl rfl (k':=17) rfl ?_
 refine a5Q 37 14 34 true _ (fun hb=>a0i (xs:=[_,_]) (b3d d d hsd hsd) ⟨rfl,⟨rfl,trivial⟩⟩ ⟨(show Fz _ (dcV d) (dcV d) from a3t _),⟨(show Fz _ (dcV d) (dcV d) from a3t _),trivial⟩⟩) rfl rfl rfl rfl a0e rfl rfl rfl (k':=18) rfl ?_
 refine ru 2 ?_
 refine a5Q 40 19 39 true _ (fun hb=>a0i (xs:=[]) (hlv) trivial trivial) rfl rfl rfl rfl a0e rfl rfl rfl (k':=21) rfl ?_
 refine ru 2 ?_
 refine b4f kr kr (c':=33) rfl ?_
 refine ru 2 ?_
 refine rt1 ?_
 exact a1d (by simp)
end Go.Proofs.YtjdmfohncgkdoaaGreatDoor
namespace Go.Proofs.YtjdmfohncgkdoaaGreatDoor
set_option linter.unusedSimpArgs false
set_option linter.unusedVariables false
open Go.ChangeShapes Go.WideShapes Go.ChangeAt Go.RowKit Go.Deep
section
variable {H:Type} {encH:TypeId×Value→H} {P:Program} {w:World} {base:Nat} {spare:Nat→Bool} {held:Bool}
end
end Go.Proofs.YtjdmfohncgkdoaaGreatDoor
namespace Go.Proofs.YtjdmfohncgkdoaaGreatDoor
set_option linter.unusedSimpArgs false
set_option linter.unusedVariables false
open Go.ChangeShapes Go.WideShapes Go.ChangeAt Go.RowKit Go.Deep
open Go.Lib (itoa)
def a6D {α:Type} (f:α→Nat):List α→Nat
 | []=>0
 | a::l=>f a+a6D f l
theorem b1B {α:Type} (f:α→Nat):∀ (l:List α) (a:α),a6D f (l++[a])=a6D f l+f a
 | [],a=>by show f a+0=0+f a;omega
 | b::l,a=>by show f b+a6D f (l++[a])=f b+a6D f l+f a;rw [b1B f l a];omega
theorem a7S {α:Type} {f:α→Nat}:∀ {l:List α} {a:α},a∈l→f a≤a6D f l
  | b :: l, a, h => by
    show f a≤f b+a6D f l
    rcases List.mem_cons.1 h with h | h
    · subst h;omega
    · have:=a7S (f:=f) h;omega
theorem c0i {H:Type} (l r:List (DataW H)):Rows.uptoBulkAll (l++r)=Rows.uptoBulkAll l+Rows.uptoBulkAll r:=by
 induction l with
 | nil=>simp [Rows.uptoBulkAll]
 | cons x l ih=>simp only [List.cons_append,Rows.uptoBulkAll,ih];omega
section
variable {H:Type} {encH:TypeId×Value→H} {P:Program} {w:World} {base:Nat} {spare:Nat→Bool} {held:Bool}
theorem a3I {P:Program} {t e:TypeId} (ht:P.underlying t=some (.slice e)) {fuel:Nat} {v:Value} {x:DataW H×List MemPlace} (hf:DataW.trod encH P w base spare held fuel t [v]=some x):∃ A n c,v=.slice A n c:=by
 rcases open_slice ht hf with ⟨h0,_⟩ | ⟨a,len,cap,m,k,D,Pl,hcs,_⟩
 ·injection h0 with h0 _;exact ⟨_,_,_,h0⟩
 ·injection hcs with h0 _;exact ⟨_,_,_,h0⟩
theorem a6o {α:Type} {t e:TypeId} {fuel:Nat} {A:Option Addr} {n c:Nat} {x:DataW H×List MemPlace} (ht:P.underlying t=some (.slice e)) (size:Nat) (hC:P.cellsOf e=size) (hpos:0 < size)
    (enc:α→List Value) (henc:∀ a,(enc a).length=size) (ok:α→Prop) (f:α→Nat)
    (hel:∀ (m:Nat) (cs:List Value) (y:DataW H×List MemPlace),DataW.trod encH P w base spare held m e cs=some y→∃ a:α,cs=enc a∧ok a∧f a≤Rows.uptoBulk y.1)
    (hf:DataW.trod encH P w base spare held fuel t [.slice A n c]=some x) :
    ∃ l:List α,l.length=n∧Sl w w.heap.size size enc A l∧n≤c∧c≤9223372036854775807∧(∀ a∈l,ok a)∧a6D f l≤Rows.uptoBulk x.1:=by
  rcases open_slice ht hf with ⟨h0,_⟩ | ⟨a,len,cap,m,k,D,Pl,hcs,hb,hl,hm,hmm,hx,hi⟩
  · injection h0 with h0 _
    injection h0 with h1 h2 h3
    subst h1;subst h2;subst h3
    exact ⟨[],rfl,⟨henc,a1v.none_⟩,by omega,by omega,by simp,Nat.zero_le _⟩
  · injection hcs with h0 _
    injection h0 with h1 h2 h3
    subst h1;subst h2;subst h3
    have hnm:n≤m:=by rw [hmm];split <;> omega
    have each:∀ k,k≤n→∃ l:List α,l.length=k∧(∀ i (hi:i < l.length),w.cells? base (a.add (i * size)) size=some (enc l[i]))∧(∀ y∈l,ok y)∧a6D f l≤Rows.uptoBulkAll ((List.range k).map D):=by
      intro k
      induction k with
      | zero=>intro _;exact ⟨[],rfl,fun i hi=>by simp at hi,by simp,Nat.zero_le _⟩
      | succ k ih =>
        intro hk
        obtain ⟨l,hl1,hl2,hl3,hl4⟩:=ih (by omega)
        obtain ⟨cs',h1,h2⟩:=hi k (by omega)
        rw [hC] at h1
        obtain ⟨a',rfl,hok,hfa⟩:=hel _ _ _ h2
        refine ⟨l++[a'],by simp [hl1],fun i hi=>?_,fun y hy=>?_,?_⟩
        · by_cases hik:i < l.length
          · rw [List.getElem_append_left hik];exact hl2 i hik
          · have:i=k:=by simp at hi;omega
            subst this
            simp [hl1,h1]
        · rcases List.mem_append.1 hy with hy | hy
          · exact hl3 y hy
          · simp at hy;subst hy;exact hok
        · have hfa:f a'≤Rows.uptoBulk (D k):=hfa
          rw [b1B,List.range_succ,List.map_append,c0i]
          show _≤_+(Rows.uptoBulk (D k)+0)
          omega
    obtain ⟨l,hl1,hl2,hl3,hl4⟩:=each n (Nat.le_refl _)
    refine ⟨l,hl1,⟨henc,?_,fun hn=>?_⟩,hl,by unfold maxLen at hm;omega,hl3,?_⟩
    · have:∀ m:List α,(m.flatMap enc).length=m.length * size:=by
        intro m
        induction m with
        | nil=>simp
        | cons x m ih=>simp [List.flatMap_cons,ih,henc,Nat.add_mul,Nat.add_comm]
      exact this l
    · refine ⟨a,rfl,?_,fun j u hu=>?_⟩
      · have h0:=hl2 0 hn
        have:=World.cells?_block h0 hpos
        rwa [a3k] at this
      · have hfl:(l.flatMap enc).length=l.length * size:=by
          have:∀ m:List α,(m.flatMap enc).length=m.length * size:=by
            intro m
            induction m with
            | nil=>simp
            | cons x m ih=>simp [List.flatMap_cons,ih,henc,Nat.add_mul,Nat.add_comm]
          exact this l
        have hj:j < l.length * size:=by
          rcases Nat.lt_or_ge j (l.flatMap enc).length with hlt | hge
          · rw [hfl] at hlt;exact hlt
          · rw [List.getElem?_eq_none hge] at hu;cases hu
        have hjd:j / size < l.length:=(Nat.div_lt_iff_lt_mul hpos).2 hj
        have hjm:j % size < size:=Nat.mod_lt _ hpos
        have e1:j=j / size * size+j % size:=by rw [Nat.mul_comm];exact (Nat.div_add_mod j size).symm
        rw [e1] at hu ⊢
        rw [a2i henc _ _ _ hjd hjm] at hu
        have:=(World.cells?_some (hl2 _ hjd)).2.2 (j % size) hjm
        rw [a5z] at this
        rw [this,hu]
    · subst hx
      simp only [Rows.uptoBulk]
      omega
theorem a6Z {t:TypeId} (ht:P.underlying t=some .string) (m:Nat) (cs:List Value) (y:DataW H×List MemPlace) (h:DataW.trod encH P w base spare held m t cs=some y):∃ s:Bs,cs=strC s∧True∧s.length+1≤Rows.uptoBulk y.1:=by
 obtain ⟨b,rfl,rfl,_⟩:=DataW.trod_string ht h
 exact ⟨b.data.toList,rfl,trivial,by simp [Rows.uptoBulk]⟩
end
structure NdI where
 v:Nd
 A:Option Addr
 n:Nat
 c:Nat
 A2:Option Addr
 n2:Nat
 c2:Nat
def NdI.cells (x:NdI):List Value:=[.string ⟨x.v.name.toArray⟩,.slice x.A x.n x.c,.bool x.v.inl,.bool x.v.pick,.bool x.v.leaf,.int .i64 x.v.attr,.bool x.v.all,.slice x.A2 x.n2 x.c2,.string ⟨x.v.expr.toArray⟩]
def NdI.none:NdI:=⟨default,.none,0,0,.none,0,0⟩
theorem NdI.cells_length (x:NdI):x.cells.length=9:=by simp [NdI.cells]
def b3R (s:Bs):Nat:=s.length+1
structure NdI.inOk (w:World) (x:NdI):Prop where
 n1:x.v.groups.length=x.n
 s1:Sl w w.heap.size 1 strC x.A x.v.groups
 o1:x.n≤x.c
 m1:x.c≤9223372036854775807
 n2:x.v.marks.length=x.n2
 s2:Sl w w.heap.size 1 strC x.A2 x.v.marks
 o2:x.n2≤x.c2
 m2:x.c2≤9223372036854775807
 at_:-9223372036854775808≤x.v.attr∧x.v.attr≤9223372036854775807
def NdI.wgt (x:NdI):Nat:=x.v.name.length+a6D b3R x.v.groups+a6D b3R x.v.marks+x.v.expr.length
structure MkI where
 v:Mk
 A:Option Addr
 n:Nat
 c:Nat
def MkI.cells (x:MkI):List Value:=[.string ⟨x.v.name.toArray⟩,.int .i64 x.v.val,.bool x.v.all,.slice x.A x.n x.c]
def MkI.none:MkI:=⟨default,.none,0,0⟩
theorem MkI.cells_length (x:MkI):x.cells.length=4:=by simp [MkI.cells]
structure MkI.inOk (w:World) (x:MkI):Prop where
 n1:x.v.bars.length=x.n
 s1:Sl w w.heap.size 1 strC x.A x.v.bars
 o1:x.n≤x.c
 m1:x.c≤9223372036854775807
 at_:-9223372036854775808≤x.v.val∧x.v.val≤9223372036854775807
def MkI.wgt (x:MkI):Nat:=x.v.name.length+a6D b3R x.v.bars
structure DcI where
 N:List NdI
 A:Option Addr
 n:Nat
 c:Nat
 M:List MkI
 A2:Option Addr
 n2:Nat
 c2:Nat
def DcI.v (x:DcI):Dc:=⟨x.N.map (·.v),x.M.map (·.v)⟩
def DcI.cells (x:DcI):List Value:=[.slice x.A x.n x.c,.slice x.A2 x.n2 x.c2]
structure DcI.inOk (w:World) (x:DcI):Prop where
 n1:x.N.length=x.n
 s1:Sl w w.heap.size 9 NdI.cells x.A x.N
 o1:x.n≤x.c
 m1:x.c≤9223372036854775807
 k1:∀ y∈x.N,y.inOk w
 n2:x.M.length=x.n2
 s2:Sl w w.heap.size 4 MkI.cells x.A2 x.M
 o2:x.n2≤x.c2
 m2:x.c2≤9223372036854775807
 k2:∀ y∈x.M,y.inOk w
def DcI.wgt (x:DcI):Nat:=a6D NdI.wgt x.N+a6D MkI.wgt x.M
section
variable {H:Type} {encH:TypeId×Value→H} {w:World} {base:Nat} {spare:Nat→Bool} {held:Bool}
theorem c1H {a:Int} (h:(Lit.int .i64 a).wf=true):-9223372036854775808≤a∧a≤9223372036854775807:=by
 simp [Lit.wf] at h
 exact h
set_option maxRecDepth 100000 in
theorem c5U (m:Nat) (cs:List Value) (y:DataW H×List MemPlace) (h:DataW.trod encH Tryz.prog w base spare held m 54 cs=some y):∃ t:NdI,cs=t.cells∧t.inOk w∧t.wgt≤Rows.uptoBulk y.1:=by
  obtain ⟨xs,k,_,hy,hlen,hxl,hx⟩:=DataW.trod_struct Tryz.underlying54 h
  have hC:Tryz.prog.cellsOf 54=9:=by kernel_rfl
  have hS:Tryz.prog.cellsOf 9=1:=by kernel_rfl
  have hK:Tryz.prog.cellsOf 44=1:=by kernel_rfl
  have hB:Tryz.prog.cellsOf 4=1:=by kernel_rfl
  have hI:Tryz.prog.cellsOf 3=1:=by kernel_rfl
  rw [hC] at hlen
  match cs,hlen,xs,hxl with
  | [c0, c1, c2, c3, c4, c5, c6, c7, c8], _, [x0, x1, x2, x3, x4, x5, x6, x7, x8], _ =>
    have f0:DataW.trod encH Tryz.prog w base spare held k 9 (([c0,c1,c2,c3,c4,c5,c6,c7,c8].drop 0).take (Tryz.prog.cellsOf 9))=some x0:=hx 0 _ rfl
    have f1:DataW.trod encH Tryz.prog w base spare held k 44 (([c0,c1,c2,c3,c4,c5,c6,c7,c8].drop 1).take (Tryz.prog.cellsOf 44))=some x1:=hx 1 _ rfl
    have f2:DataW.trod encH Tryz.prog w base spare held k 4 (([c0,c1,c2,c3,c4,c5,c6,c7,c8].drop 2).take (Tryz.prog.cellsOf 4))=some x2:=hx 2 _ rfl
    have f3:DataW.trod encH Tryz.prog w base spare held k 4 (([c0,c1,c2,c3,c4,c5,c6,c7,c8].drop 3).take (Tryz.prog.cellsOf 4))=some x3:=hx 3 _ rfl
    have f4:DataW.trod encH Tryz.prog w base spare held k 4 (([c0,c1,c2,c3,c4,c5,c6,c7,c8].drop 4).take (Tryz.prog.cellsOf 4))=some x4:=hx 4 _ rfl
    have f5:DataW.trod encH Tryz.prog w base spare held k 3 (([c0,c1,c2,c3,c4,c5,c6,c7,c8].drop 5).take (Tryz.prog.cellsOf 3))=some x5:=hx 5 _ rfl
    have f6:DataW.trod encH Tryz.prog w base spare held k 4 (([c0,c1,c2,c3,c4,c5,c6,c7,c8].drop 6).take (Tryz.prog.cellsOf 4))=some x6:=hx 6 _ rfl
    have f7:DataW.trod encH Tryz.prog w base spare held k 44 (([c0,c1,c2,c3,c4,c5,c6,c7,c8].drop 7).take (Tryz.prog.cellsOf 44))=some x7:=hx 7 _ rfl
    have f8:DataW.trod encH Tryz.prog w base spare held k 9 (([c0,c1,c2,c3,c4,c5,c6,c7,c8].drop 8).take (Tryz.prog.cellsOf 9))=some x8:=hx 8 _ rfl
    rw [hS] at f0 f8
    rw [hK] at f1 f7
    rw [hB] at f2 f3 f4 f6
    rw [hI] at f5
    simp only [List.drop_succ_cons,List.drop_zero,List.take_succ_cons,List.take_zero] at f0 f1 f2 f3 f4 f5 f6 f7 f8
    obtain ⟨a0,h0,_,g0⟩:=a6Z Tryz.underlying9 _ _ _ f0
    obtain ⟨a8,h8,_,g8⟩:=a6Z Tryz.underlying9 _ _ _ f8
    obtain ⟨b2,h2,_⟩:=DataW.trod_bool Tryz.underlying4 f2
    obtain ⟨b3,h3,_⟩:=DataW.trod_bool Tryz.underlying4 f3
    obtain ⟨b4,h4,_⟩:=DataW.trod_bool Tryz.underlying4 f4
    obtain ⟨b5,h5,_,w5⟩:=DataW.trod_int Tryz.underlying3 f5
    obtain ⟨b6,h6,_⟩:=DataW.trod_bool Tryz.underlying4 f6
    obtain ⟨A,n,c,rfl⟩:=a3I Tryz.underlying44 f1
    obtain ⟨A2,n2,c2',rfl⟩:=a3I Tryz.underlying44 f7
    obtain ⟨l,e,s,o,m',_,g1⟩:=a6o Tryz.underlying44 1 hS (by omega) strC (fun a=>rfl) (fun _=>True) b3R (a6Z Tryz.underlying9) f1
    obtain ⟨l2,e2,s2,o2,m2',_,g7⟩:=a6o Tryz.underlying44 1 hS (by omega) strC (fun a=>rfl) (fun _=>True) b3R (a6Z Tryz.underlying9) f7
    obtain rfl:=(List.cons_eq_cons.1 h0).1
    obtain rfl:=(List.cons_eq_cons.1 h2).1
    obtain rfl:=(List.cons_eq_cons.1 h3).1
    obtain rfl:=(List.cons_eq_cons.1 h4).1
    obtain rfl:=(List.cons_eq_cons.1 h5).1
    obtain rfl:=(List.cons_eq_cons.1 h6).1
    obtain rfl:=(List.cons_eq_cons.1 h8).1
    refine ⟨⟨⟨a0,l,b2,b3,b4,b5,b6,l2,a8⟩,A,n,c,A2,n2,c2'⟩,rfl,⟨e,s,o,m',e2,s2,o2,m2',c1H w5⟩,?_⟩
    rw [hy]
    show a0.length+a6D b3R l+a6D b3R l2+a8.length≤Rows.uptoBulk (.agg [x0.1,x1.1,x2.1,x3.1,x4.1,x5.1,x6.1,x7.1,x8.1])
    simp only [Rows.uptoBulk,Rows.uptoBulkAll]
    omega
set_option maxRecDepth 100000 in
theorem c5L (m:Nat) (cs:List Value) (y:DataW H×List MemPlace) (h:DataW.trod encH Tryz.prog w base spare held m 57 cs=some y):∃ t:MkI,cs=t.cells∧t.inOk w∧t.wgt≤Rows.uptoBulk y.1:=by
  obtain ⟨xs,k,_,hy,hlen,hxl,hx⟩:=DataW.trod_struct Tryz.underlying57 h
  have hC:Tryz.prog.cellsOf 57=4:=by kernel_rfl
  have hS:Tryz.prog.cellsOf 9=1:=by kernel_rfl
  have hK:Tryz.prog.cellsOf 44=1:=by kernel_rfl
  have hB:Tryz.prog.cellsOf 4=1:=by kernel_rfl
  have hI:Tryz.prog.cellsOf 3=1:=by kernel_rfl
  rw [hC] at hlen
  match cs,hlen,xs,hxl with
  | [c0, c1, c2, c3], _, [x0, x1, x2, x3], _ =>
    have f0:DataW.trod encH Tryz.prog w base spare held k 9 (([c0,c1,c2,c3].drop 0).take (Tryz.prog.cellsOf 9))=some x0:=hx 0 _ rfl
    have f1:DataW.trod encH Tryz.prog w base spare held k 3 (([c0,c1,c2,c3].drop 1).take (Tryz.prog.cellsOf 3))=some x1:=hx 1 _ rfl
    have f2:DataW.trod encH Tryz.prog w base spare held k 4 (([c0,c1,c2,c3].drop 2).take (Tryz.prog.cellsOf 4))=some x2:=hx 2 _ rfl
    have f3:DataW.trod encH Tryz.prog w base spare held k 44 (([c0,c1,c2,c3].drop 3).take (Tryz.prog.cellsOf 44))=some x3:=hx 3 _ rfl
    rw [hS] at f0
    rw [hK] at f3
    rw [hB] at f2
    rw [hI] at f1
    simp only [List.drop_succ_cons,List.drop_zero,List.take_succ_cons,List.take_zero] at f0 f1 f2 f3
    obtain ⟨a0,h0,_,g0⟩:=a6Z Tryz.underlying9 _ _ _ f0
    obtain ⟨b1,h1,_,w1⟩:=DataW.trod_int Tryz.underlying3 f1
    obtain ⟨b2,h2,_⟩:=DataW.trod_bool Tryz.underlying4 f2
    obtain ⟨A,n,c,rfl⟩:=a3I Tryz.underlying44 f3
    obtain ⟨l,e,s,o,m',_,g3⟩:=a6o Tryz.underlying44 1 hS (by omega) strC (fun a=>rfl) (fun _=>True) b3R (a6Z Tryz.underlying9) f3
    obtain rfl:=(List.cons_eq_cons.1 h0).1
    obtain rfl:=(List.cons_eq_cons.1 h1).1
    obtain rfl:=(List.cons_eq_cons.1 h2).1
    refine ⟨⟨⟨a0,b1,b2,l⟩,A,n,c⟩,rfl,⟨e,s,o,m',c1H w1⟩,?_⟩
    rw [hy]
    show a0.length+a6D b3R l≤Rows.uptoBulk (.agg [x0.1,x1.1,x2.1,x3.1])
    simp only [Rows.uptoBulk,Rows.uptoBulkAll]
    omega
set_option maxRecDepth 100000 in
theorem c5j (m:Nat) (cs:List Value) (y:DataW H×List MemPlace) (h:DataW.trod encH Tryz.prog w base spare held m 33 cs=some y):∃ t:DcI,cs=t.cells∧t.inOk w∧t.wgt≤Rows.uptoBulk y.1:=by
  obtain ⟨xs,k,_,hy,hlen,hxl,hx⟩:=DataW.trod_struct Tryz.underlying33 h
  have hC:Tryz.prog.cellsOf 33=2:=by kernel_rfl
  have hN:Tryz.prog.cellsOf 54=9:=by kernel_rfl
  have hM:Tryz.prog.cellsOf 57=4:=by kernel_rfl
  have hK:Tryz.prog.cellsOf 30=1:=by kernel_rfl
  have hL:Tryz.prog.cellsOf 31=1:=by kernel_rfl
  rw [hC] at hlen
  match cs,hlen,xs,hxl with
  | [c0, c1], _, [x0, x1], _ =>
    have f0:DataW.trod encH Tryz.prog w base spare held k 30 (([c0,c1].drop 0).take (Tryz.prog.cellsOf 30))=some x0:=hx 0 _ rfl
    have f1:DataW.trod encH Tryz.prog w base spare held k 31 (([c0,c1].drop 1).take (Tryz.prog.cellsOf 31))=some x1:=hx 1 _ rfl
    rw [hK] at f0
    rw [hL] at f1
    simp only [List.drop_succ_cons,List.drop_zero,List.take_succ_cons,List.take_zero] at f0 f1
    obtain ⟨A,n,c,rfl⟩:=a3I Tryz.underlying30 f0
    obtain ⟨A2,n2,c2,rfl⟩:=a3I Tryz.underlying31 f1
    obtain ⟨l,e,s,o,m',q,g0⟩:=a6o Tryz.underlying30 9 hN (by omega) NdI.cells NdI.cells_length (NdI.inOk w) NdI.wgt c5U f0
    obtain ⟨l2,e2,s2,o2,m2',q2,g1⟩:=a6o Tryz.underlying31 4 hM (by omega) MkI.cells MkI.cells_length (MkI.inOk w) MkI.wgt c5L f1
    refine ⟨⟨l,A,n,c,l2,A2,n2,c2⟩,rfl,⟨e,s,o,m',q,e2,s2,o2,m2',q2⟩,?_⟩
    rw [hy]
    show a6D NdI.wgt l+a6D MkI.wgt l2≤Rows.uptoBulk (.agg [x0.1,x1.1])
    simp only [Rows.uptoBulk,Rows.uptoBulkAll]
    omega
end
theorem b0o {w:World} {B:Nat} {A:Option Addr} {c:Nat} {l:List Bs} (h:Sl w B 1 strC A l) (hc:l.length≤c) (hm:c≤maxLen):Rep w (Env.just (c0T w)) (.slice A l.length c) (a0M l) :=
 b8H (w:=w) 1 (by omega) strC b8h (fun x _=>a0p x) [] l hc hm h (fun i j hi hj=>by
  match j,hj with
  | 0,_=>exact .imm _)
theorem c4p (x:NdI):∀ u∈x.cells,u.oneCell'=true:=by
 intro u hu
 simp only [NdI.cells,List.mem_cons,List.not_mem_nil,or_false] at hu
 rcases hu with rfl | rfl | rfl | rfl | rfl | rfl | rfl | rfl | rfl <;> rfl
theorem c3U (x:MkI):∀ u∈x.cells,u.oneCell'=true:=by
 intro u hu
 simp only [MkI.cells,List.mem_cons,List.not_mem_nil,or_false] at hu
 rcases hu with rfl | rfl | rfl | rfl <;> rfl
theorem b4v {α β:Type} (f:α→β) (l:List α) (i:Nat) (d:β) (d':α) (h:f d'=d):(l.map f).getD i d=f (l.getD i d'):=by
 rw [List.getD_eq_getElem?_getD,List.getD_eq_getElem?_getD,List.getElem?_map]
 cases l[i]? with
 | none=>exact h.symm
 | some x=>rfl
theorem c1M {w:World} {B:Nat} {A:Option Addr} {c:Nat} {l:List NdI} (h:Sl w B 9 NdI.cells A l) (hc:l.length≤c) (hm:c≤maxLen) (hok:∀ x∈l,x.inOk w):Rep w (Env.just (c0T w)) (.slice A l.length c) (b2D (l.map (·.v))):=by
 have key:=b8H (w:=w) 9 (by omega) NdI.cells c4p (fun x=>a5B x.v) NdI.none l hc hm h (fun i j hi hj=>by
  have hg:l.getD i NdI.none=l[i]:=by rw [List.getD_eq_getElem?_getD,List.getElem?_eq_getElem hi];rfl
  rw [hg]
  obtain ⟨n1,s1,o1,m1,n2,s2,o2,m2,_⟩:=hok _ (List.getElem_mem hi)
  generalize l[i]=x at n1 s1 o1 m1 n2 s2 o2 m2
  obtain ⟨v,A',n',c',A2,n2',c2⟩:=x
  simp only at n1 s1 o1 m1 n2 s2 o2 m2
  subst n1;subst n2
  match j,hj with
  | 0,_=>exact .imm _
  | 1,_=>exact b0o s1 o1 (by unfold maxLen;omega)
  | 2,_=>exact .imm _
  | 3,_=>exact .imm _
  | 4,_=>exact .imm _
  | 5,_=>exact .imm _
  | 6,_=>exact .imm _
  | 7,_=>exact b0o s2 o2 (by unfold maxLen;omega)
  | 8,_=>exact .imm _)
 have e:b2D (l.map (·.v))=.sl 9 l.length (fun i=>a5B (l.getD i NdI.none).v):=by
  show HV.sl 9 (l.map (·.v)).length (fun i=>a5B ((l.map (·.v)).getD i default))=_
  rw [List.length_map]
  congr 1
  funext i
  rw [b4v (fun x:NdI=>x.v) l i default NdI.none rfl]
 rw [e];exact key
theorem c2L {w:World} {B:Nat} {A:Option Addr} {c:Nat} {l:List MkI} (h:Sl w B 4 MkI.cells A l) (hc:l.length≤c) (hm:c≤maxLen) (hok:∀ x∈l,x.inOk w):Rep w (Env.just (c0T w)) (.slice A l.length c) (b4J (l.map (·.v))):=by
 have key:=b8H (w:=w) 4 (by omega) MkI.cells c3U (fun x=>a5E x.v) MkI.none l hc hm h (fun i j hi hj=>by
  have hg:l.getD i MkI.none=l[i]:=by rw [List.getD_eq_getElem?_getD,List.getElem?_eq_getElem hi];rfl
  rw [hg]
  obtain ⟨n1,s1,o1,m1,_⟩:=hok _ (List.getElem_mem hi)
  generalize l[i]=x at n1 s1 o1 m1
  obtain ⟨v,A',n',c'⟩:=x
  simp only at n1 s1 o1 m1
  subst n1
  match j,hj with
  | 0,_=>exact .imm _
  | 1,_=>exact .imm _
  | 2,_=>exact .imm _
  | 3,_=>exact b0o s1 o1 (by unfold maxLen;omega))
 have e:b4J (l.map (·.v))=.sl 4 l.length (fun i=>a5E (l.getD i MkI.none).v):=by
  show HV.sl 4 (l.map (·.v)).length (fun i=>a5E ((l.map (·.v)).getD i default))=_
  rw [List.length_map]
  congr 1
  funext i
  rw [b4v (fun x:MkI=>x.v) l i default MkI.none rfl]
 rw [e];exact key
theorem c1A {w:World} {x:DcI} (h:x.inOk w):Rep w (Env.just (c0T w)) (.agg x.cells.toArray) (dcV x.v):=by
  obtain ⟨n1,s1,o1,m1,k1,n2,s2,o2,m2,k2⟩:=h
  obtain ⟨N,A,n,c,M,A2,n2',c2⟩:=x
  simp only at n1 s1 o1 m1 k1 n2 s2 o2 m2 k2
  subst n1;subst n2
  refine .agg _ 2 _ (fun j=>match j with | 0=>.slice A N.length c | _=>.slice A2 M.length c2) rfl (fun j hj=>?_) (fun j hj=>?_)
  · match j, hj with
    | 0,_=>exact ⟨rfl,rfl⟩
    | 1,_=>exact ⟨rfl,rfl⟩
  · match j, hj with
    | 0,_=>exact c1M s1 o1 (by unfold maxLen;omega) k1
    | 1,_=>exact c2L s2 o2 (by unfold maxLen;omega) k2
end Go.Proofs.YtjdmfohncgkdoaaGreatDoor
namespace Go.Proofs.YtjdmfohncgkdoaaGreatDoor
set_option linter.unusedSimpArgs false
set_option linter.unusedVariables false
set_option maxRecDepth 100000
set_option maxHeartbeats 4000000
open Go.RowKit
structure BackP (d:Dc):Prop where
 b:DcB d
 back:declV (linesD d)=(d,0,0)
 none:linesD d=[]→d.nodes=[]∧d.marks=[]
end Go.Proofs.YtjdmfohncgkdoaaGreatDoor
namespace Go.Proofs.YtjdmfohncgkdoaaGreatDoor
set_option linter.unusedSimpArgs false
set_option linter.unusedVariables false
set_option maxRecDepth 100000
open Go.Lib (itoa)
structure NdOk (L:Nat) (n:Nd):Prop where
 name:nameV n.name=true
 glen:n.groups.length≤4
 gname:∀ g∈n.groups,nameV g=true
 gdup:n.groups.Nodup
 lo:0≤n.attr
 hi:n.attr≤999
 mname:∀ g∈n.marks,nameV g=true
 mdup:n.marks.Nodup
 mlen:(joinC n.marks).length≤L
 all:n.all=true→n.marks=[]
 leaf:n.leaf=true→n.expr=[]
 ex:n.leaf=false→∃ e,n.expr=exprS e∧(exprV e).2.2=0∧e.length≤L
structure MkOk (L:Nat) (m:Mk):Prop where
 name:nameV m.name=true
 lo:0≤m.val
 hi:m.val≤999
 mname:∀ g∈m.bars,nameV g=true
 mdup:m.bars.Nodup
 mlen:(joinC m.bars).length≤L
 all:m.all=true→m.bars=[]
def opt (s:Bs) (b:Bool):List Bs:=if b=true then [s] else []
theorem b1D (l:List Bs) (s:Bs) (b:Bool):a0y l s b=l++opt s b:=by
 unfold a0y opt
 cases b with
 | true=>rfl
 | false=>show l=l++[];rw [List.append_nil]
def b3A (n:Nd):List Bs:=n.groups.map (fun g=>b9b++g)++(opt a3L n.inl++(opt a1I n.pick++(opt (a1W++[61]++itoa n.attr) (decide (n.attr≠0))++(opt (a1j++[61,42]) n.all++(opt (a1j++[61]++joinC n.marks) (decide (0 < n.marks.length))++opt [58] (!n.leaf))))))
theorem b4c (n:Nd):nodeW n=a0S::n.name::(b3A n++opt n.expr (decide (n.expr≠[]))):=by
 unfold nodeW a3T a4F a2y
 simp only [b1D]
 unfold b3A
 simp only [List.append_assoc,List.cons_append,List.nil_append]
theorem b4Z (m:Mk):markW m=a3g::m.name::(opt (a7O++[61]++itoa m.val) (decide (m.val≠0))++(opt (a3l++[61,42]) m.all++opt (a3l++[61]++joinC m.bars) (decide (0 < m.bars.length)))):=by
 unfold markW a3T a4F
 simp only [b1D,List.append_assoc,List.cons_append,List.nil_append]
def a4O:List Bs→Nat
 | []=>0
 | w::r=>w.length+1+a4O r
theorem a6b:∀ a b:List Bs,a4O (a++b)=a4O a+a4O b
 | [],b=>(Nat.zero_add _).symm
 | x::a,b=>by show x.length+1+a4O (a++b)=x.length+1+a4O a+a4O b;rw [a6b a b];omega
theorem a6F:∀ l:List Bs,(joinL l).length≤a4O l
  | []=>Nat.le_refl _
  | [w]=>by show w.length≤w.length+1+0;omega
  | w :: v :: r => by
    have:=a6F (v::r)
    show (w++32::joinL (v::r)).length≤w.length+1+a4O (v::r)
    rw [List.length_append,List.length_cons];omega
theorem a3e (s:Bs) (b:Bool):a4O (opt s b)≤s.length+1:=by
 unfold opt;split
 ·exact Nat.le_refl _
 ·exact Nat.zero_le _
structure DcOk (c:Nat) (d:Dc):Prop where
 nodes:∀ n∈d.nodes,NdOk c n∧n.name≠sText
 nname:(d.nodes.map Nd.name).Nodup
 nlen:d.nodes.length≤24
 marks:∀ m∈d.marks,MkOk c m
 mname:(d.marks.map Mk.name).Nodup
 mlen:d.marks.length≤8
 len:(linesD d).length≤200 * (d.nodes.length+d.marks.length)+11 * c
theorem NdOk.le {L M:Nat} {n:Nd} (h:NdOk L n) (hl:L≤M):NdOk M n :=
 { h with mlen:=Nat.le_trans h.mlen hl,ex:=fun q=>by obtain ⟨e,q1,q2,q3⟩:=h.ex q;exact ⟨e,q1,q2,Nat.le_trans q3 hl⟩ }
theorem MkOk.le {L M:Nat} {m:Mk} (h:MkOk L m) (hl:L≤M):MkOk M m:={ h with mlen:=Nat.le_trans h.mlen hl }
theorem DcOk.le {L M:Nat} {d:Dc} (h:DcOk L d) (hl:L≤M):DcOk M d :=
 { h with nodes:=fun n hn=>⟨(h.nodes n hn).1.le hl,(h.nodes n hn).2⟩,marks:=fun m hm=>(h.marks m hm).le hl,len:=Nat.le_trans h.len (by omega) }
end Go.Proofs.YtjdmfohncgkdoaaGreatDoor
namespace Go.Proofs.YtjdmfohncgkdoaaGreatDoor
set_option linter.unusedSimpArgs false
set_option linter.unusedVariables false
set_option maxRecDepth 100000
open Go.RowKit
open Go.Lib (itoa)
theorem a5a:∀ l:List Bs,a6D b3R l=a4O l
 | []=>rfl
 | w::l=>by show w.length+1+a6D b3R l=w.length+1+a4O l;rw [a5a l]
theorem a6K:∀ l:List Bs,(joinC l).length≤a4O l
  | []=>Nat.le_refl _
  | [w]=>by show w.length≤w.length+1+0;omega
  | w :: v :: r => by
    have:=a6K (v::r)
    show (w++44::joinC (v::r)).length≤w.length+1+a4O (v::r)
    rw [List.length_append,List.length_cons];omega
theorem b8g:∀ gs:List Bs,a4O (gs.map fun g=>b9b++g)=6 * gs.length+a4O gs
  | []=>rfl
  | g :: gs => by
    have:=b8g gs
    show (b9b++g).length+1+a4O (gs.map fun g=>b9b++g)=6 * (gs.length+1)+(g.length+1+a4O gs)
    rw [List.length_append,show b9b.length=6 from rfl];omega
theorem b5L {n:Nd} (h1:n.name.length≤1048576) (h2:a4O n.groups≤1048576) (h3:a4O n.marks≤1048576) (h4:n.expr.length≤300) (h5:n.groups.length≤10) (h6:n.marks.length≤20) (h7:-9223372036854775808≤n.attr∧n.attr≤9223372036854775807):NdB n∧(joinL (nodeW n)).length≤4000000:=by
 have h0:=a6F (nodeW n)
 rw [b4c] at h0 ⊢
 have hg:=b8g n.groups
 have k4:=a3e a3L n.inl
 have k5:=a3e a1I n.pick
 have k6:=a3e (a1W++[61]++itoa n.attr) (decide (n.attr≠0))
 have k7:=a3e (a1j++[61,42]) n.all
 have k8:=a3e (a1j++[61]++joinC n.marks) (decide (0 < n.marks.length))
 have k9:=a3e [58] (!n.leaf)
 have k10:=a3e n.expr (decide (n.expr≠[]))
 have k11:=a2r n.attr h7
 have k12:=a6K n.marks
 have e:a4O (a0S::n.name::(b3A n++opt n.expr (decide (n.expr≠[]))))=5+(n.name.length+1+(a4O (b3A n)+a4O (opt n.expr (decide (n.expr≠[]))))):=by
  show 4+1+(n.name.length+1+a4O _)=_
  rw [a6b]
 have e2:a4O (b3A n)=a4O (n.groups.map fun g=>b9b++g)+(a4O (opt a3L n.inl)+(a4O (opt a1I n.pick)+(a4O (opt (a1W++[61]++itoa n.attr) (decide (n.attr≠0)))+(a4O (opt (a1j++[61,42]) n.all)+(a4O (opt (a1j++[61]++joinC n.marks) (decide (0 < n.marks.length)))+a4O (opt [58] (!n.leaf))))))):=by
  unfold b3A;simp only [a6b]
 simp only [List.length_append,List.length_cons,List.length_nil] at k4 k5 k6 k7 k8 k9
 have hl:(joinL (a0S::n.name::(b3A n++opt n.expr (decide (n.expr≠[]))))).length≤4000000:=by omega
 refine ⟨⟨by omega,by omega,fun k=>?_,h7.1,h7.2,by omega,by omega,by omega,by rw [b4c];omega⟩,hl⟩
 rcases Nat.lt_or_ge k n.groups.length with h9 | h9
 ·have hm:n.groups.getD k []∈n.groups:=by rw [List.getD_eq_getElem?_getD,List.getElem?_eq_getElem h9];exact List.getElem_mem h9
  have:=a7S (f:=b3R) hm
  rw [a5a] at this
  have:(n.groups.getD k []).length+1≤a4O n.groups:=this
  omega
 ·rw [List.getD_eq_getElem?_getD,List.getElem?_eq_none h9];exact Nat.zero_le _
theorem b5P {m:Mk} (h1:m.name.length≤1048576) (h3:a4O m.bars≤1048576) (h6:m.bars.length≤20) (h7:-9223372036854775808≤m.val∧m.val≤9223372036854775807):MkB m∧(joinL (markW m)).length≤4000000:=by
 have h0:=a6F (markW m)
 rw [b4Z] at h0 ⊢
 have k6:=a3e (a7O++[61]++itoa m.val) (decide (m.val≠0))
 have k7:=a3e (a3l++[61,42]) m.all
 have k8:=a3e (a3l++[61]++joinC m.bars) (decide (0 < m.bars.length))
 have k11:=a2r m.val h7
 have k12:=a6K m.bars
 have e:a4O (a3g::m.name::(opt (a7O++[61]++itoa m.val) (decide (m.val≠0))++(opt (a3l++[61,42]) m.all++opt (a3l++[61]++joinC m.bars) (decide (0 < m.bars.length)))))=5+(m.name.length+1+(a4O (opt (a7O++[61]++itoa m.val) (decide (m.val≠0)))+(a4O (opt (a3l++[61,42]) m.all)+a4O (opt (a3l++[61]++joinC m.bars) (decide (0 < m.bars.length)))))):=by
  show 4+1+(m.name.length+1+a4O _)=_
  rw [a6b,a6b]
 simp only [List.length_append,List.length_cons,List.length_nil] at k6 k7 k8
 have hl:(joinL (a3g::m.name::(opt (a7O++[61]++itoa m.val) (decide (m.val≠0))++(opt (a3l++[61,42]) m.all++opt (a3l++[61]++joinC m.bars) (decide (0 < m.bars.length)))))).length≤4000000:=by omega
 exact ⟨⟨by omega,h7.1,h7.2,by omega,by omega,by rw [b4Z];omega⟩,hl⟩
theorem b1P {K:Nat}:∀ {l:List Mk},(∀ m∈l,(joinL (markW m)).length+1≤K)→(a1J l).length≤K * l.length
  | [],_=>Nat.zero_le _
  | m :: l, h => by
    have:=b1P (K:=K) (l:=l) (fun x hx=>h x (List.mem_cons_of_mem _ hx))
    have h1:=h m (List.mem_cons_self ..)
    show ((joinL (markW m)++[10])++a1J l).length≤K * (l.length+1)
    rw [List.length_append,List.length_append,List.length_singleton,Nat.mul_add];omega
theorem b1V {K:Nat}:∀ {l:List Nd},(∀ m∈l,(joinL (nodeW m)).length+1≤K)→(a2b l).length≤K * l.length
  | [],_=>Nat.zero_le _
  | m :: l, h => by
    have:=b1V (K:=K) (l:=l) (fun x hx=>h x (List.mem_cons_of_mem _ hx))
    have h1:=h m (List.mem_cons_self ..)
    show ((joinL (nodeW m)++[10])++a2b l).length≤K * (l.length+1)
    rw [List.length_append,List.length_append,List.length_singleton,Nat.mul_add];omega
theorem b5c {α:Type} [Inhabited α] {l:List α} {x:α} (h:x∈l):∃ k,k < l.length∧l.getD k default=x:=by
 obtain ⟨k,hk,rfl⟩:=List.getElem_of_mem h
 exact ⟨k,hk,by rw [List.getD_eq_getElem?_getD,List.getElem?_eq_getElem hk];rfl⟩
theorem b4S {d:Dc} (hf:b9s d):c0c d:=by
 obtain ⟨f1,f2,f3,f4⟩:=hf
 refine ⟨by omega,by omega,fun k=>?_,fun k=>?_⟩
 ·rcases Nat.lt_or_ge k d.nodes.length with h | h
  ·have:=f3 k h;omega
  ·rw [List.getD_eq_getElem?_getD,List.getElem?_eq_none h];exact ⟨Nat.zero_le _,Nat.zero_le _⟩
 ·rcases Nat.lt_or_ge k d.marks.length with h | h
  ·have:=f4 k h;omega
  ·rw [List.getD_eq_getElem?_getD,List.getElem?_eq_none h];exact Nat.zero_le _
theorem c2S {w:World} {x:DcI} (h:x.inOk w) (hw:x.wgt≤1048576) (hf:b9s x.v):DcB x.v:=by
 have hw:a6D NdI.wgt x.N+a6D MkI.wgt x.M≤1048576:=hw
 obtain ⟨f1,f2,f3,f4⟩:=hf
 have hN:∀ k,k < x.v.nodes.length→NdB (x.v.nodes.getD k default)∧(joinL (nodeW (x.v.nodes.getD k default))).length≤4000000:=by
  intro k hk
  have f:=f3 k hk
  have hk':k < x.N.length:=by have:x.v.nodes.length=x.N.length:=(List.length_map ..);rw [←this];exact hk
  have e:x.v.nodes.getD k default=(x.N[k]).v:=by
   show (x.N.map (·.v)).getD k default=_
   rw [List.getD_eq_getElem?_getD,List.getElem?_map,List.getElem?_eq_getElem hk'];rfl
  have hm:=List.getElem_mem hk'
  have g:=a7S (f:=NdI.wgt) hm
  have g:(x.N[k]).v.name.length+a6D b3R (x.N[k]).v.groups+a6D b3R (x.N[k]).v.marks+(x.N[k]).v.expr.length≤a6D NdI.wgt x.N:=g
  rw [a5a,a5a] at g
  have ha:=(h.k1 _ hm).at_
  rw [e] at f ⊢
  exact b5L (by omega) (by omega) (by omega) f.1 f.2.1 f.2.2 ha
 have hM:∀ k,k < x.v.marks.length→MkB (x.v.marks.getD k default)∧(joinL (markW (x.v.marks.getD k default))).length≤4000000:=by
  intro k hk
  have f:=f4 k hk
  have hk':k < x.M.length:=by have:x.v.marks.length=x.M.length:=(List.length_map ..);rw [←this];exact hk
  have e:x.v.marks.getD k default=(x.M[k]).v:=by
   show (x.M.map (·.v)).getD k default=_
   rw [List.getD_eq_getElem?_getD,List.getElem?_map,List.getElem?_eq_getElem hk'];rfl
  have hm:=List.getElem_mem hk'
  have g:=a7S (f:=MkI.wgt) hm
  have g:(x.M[k]).v.name.length+a6D b3R (x.M[k]).v.bars≤a6D MkI.wgt x.M:=g
  rw [a5a] at g
  have ha:=(h.k2 _ hm).at_
  rw [e] at f ⊢
  exact b5P (by omega) (by omega) f ha
 refine ⟨by omega,by omega,fun k hk=>(hN k hk).1,fun k hk=>(hM k hk).1,?_⟩
 have a1:=b1V (K:=4000001) (l:=x.v.nodes) (fun m hm=>by obtain ⟨k,hk,rfl⟩:=b5c hm;have:=(hN k hk).2;omega)
 have a2:=b1P (K:=4000001) (l:=x.v.marks) (fun m hm=>by obtain ⟨k,hk,rfl⟩:=b5c hm;have:=(hM k hk).2;omega)
 show (a1J x.v.marks++a2b x.v.nodes).length≤_
 rw [List.length_append]
 omega
end Go.Proofs.YtjdmfohncgkdoaaGreatDoor
namespace Go.Proofs.YtjdmfohncgkdoaaGreatDoor
set_option linter.unusedSimpArgs false
set_option linter.unusedVariables false
open Go.ChangeShapes Go.WideShapes Go.ChangeAt Go.RowKit Go.Deep
theorem a8V (W:World) (hL:LibW W) (x:DcI) (hx:x.inOk W) (y:DcI) (hy:y.inOk W) (hb:x.wgt+y.wgt≤1048576) :
  Calls Tryz.prog 4 #[.agg x.cells.toArray,.agg y.cells.toArray] W fun e w'=>e=.returned (.bool true)∧Below W.heap.size W w':=by
 have h:a0q Tryz.prog 4 [dcV x.v,dcV y.v] (a0s true):=by
  by_cases hf:b9s x.v∧b9s y.v
  ·exact b3m x.v y.v (c2S hx (by omega) hf.1) (b4S hf.1) (b4S hf.2) hf.1 hf.2
  ·exact b1N x.v y.v hf
 exact c0r h W [.agg x.cells.toArray,.agg y.cells.toArray] ⟨c1A hx,c1A hy,trivial⟩ hL
end Go.Proofs.YtjdmfohncgkdoaaGreatDoor
namespace Go.Proofs.YtjdmfohncgkdoaaGreatDoor
set_option linter.unusedSimpArgs false
set_option linter.unusedVariables false
set_option maxRecDepth 100000
open Go.RowKit
theorem a7C {W:World} {l:List (String×DataW Unit)} (h:laidMetH Tryz.prog l W) (hl:(l.all fun x=>x.2.handleName?.isNone)=true) (n:String) (d:DataW Unit) (hf:l.filter (fun x=>x.1 == n)=[(n,d)]):laidMet Tryz.prog [(n,d)] W:=by
 rw [MakeChecks.laidMetH_plain _ _ _ hl] at h
 have:=laidMet.filter (fun x=>x.1 == n) h
 rwa [hf] at this
theorem b2v {W:World} {n:String} {name:String} {d:DataW Unit} {g:Nat} {t:TypeId} {ms:Array (String×TypeId)} (hg:Tryz.prog.globalNamed n=some g) (hty:(Tryz.prog.globals[g]?).map (·.type)=some t) (ht:Tryz.prog.underlying t=some (.interface ms))
  (h:laidMet Tryz.prog [(n,.iface name d)] W):∃ tp p,W.var? Tryz.prog n=some #[.iface tp p]:=by
 obtain ⟨ps,⟨g',t',cs,fuel,p,q,hg',ht',hvar,hd,_,_⟩,_⟩:=h
 obtain rfl:=Option.some.inj (hg.symm.trans hg')
 obtain rfl:=Option.some.inj (hty.symm.trans ht')
 obtain ⟨f1,u,v,hc,_⟩:=iface_of_trod ht hd
 refine ⟨u,v,?_⟩
 rw [hvar]
 congr 1
 apply Array.ext'
 exact hc
theorem c3K {W:World} (hs:W.ShapedOpen Tryz.prog):∃ m,W.cell? ⟨0,0,none⟩=some (.int .i64 m) :=
 cell_of_shapedOpen_int (zero:=#[.int .i64 0]) (t:=3) (k:=.i64) hs (of_decide_eq_true (by kernel_rfl)) (by kernel_rfl) rfl (by kernel_rfl) (by kernel_rfl) Tryz.underlying3
theorem c2l {W:World} {l:List (String×DataW Unit)} (hs:W.ShapedOpen Tryz.prog) (h:laidMetH Tryz.prog l W) (hl:(l.all fun x=>x.2.handleName?.isNone)=true)
  (h1:l.filter (fun x=>x.1 == "internal/strconv.uint64pow10")=[("internal/strconv.uint64pow10", Rows.laid_internal_strconv_uint64pow10)])
  (h2:l.filter (fun x=>x.1 == "strconv.ErrSyntax")=[("strconv.ErrSyntax", Rows.laid_strconv_ErrSyntax)])
  (h3:l.filter (fun x=>x.1 == "strconv.ErrRange")=[("strconv.ErrRange", Rows.laid_strconv_ErrRange)])
  (h4:l.filter (fun x=>x.1 == "math/bits.deBruijn64tab")=[("math/bits.deBruijn64tab", Rows.laid_math_bits_deBruijn64tab)]):LibW W:=by
 have t:=a7C h hl _ _ h1
 have a:=a7C h hl _ _ h2
 have b:=a7C h hl _ _ h3
 have t4:=a7C h hl _ _ h4
 have t4':Lib.TabIs Tryz.prog W "math/bits.deBruijn64tab" .u8 (Lib.deBruijn64tab.map (fun n:Nat=>(n:Int))) :=
  Lib.tabIs_of_head (zs:=Lib.deBruijn64tab.map (fun n:Nat=>(n:Int))) (k:=.u8) (g:=7) (t:=238) (e:=5) (n:=64) (by kernel_rfl) (by kernel_rfl) Tryz.underlying238 Tryz.underlying5 (by kernel_rfl) (by kernel_rfl) t4
 have t':Lib.TabIs Tryz.prog W "internal/strconv.uint64pow10" .u64 Lib.pow10Tab :=
  Lib.tabIs_of_head (zs:=Lib.pow10Tab) (k:=.u64) (g:=3) (t:=222) (e:=136) (n:=20) (by kernel_rfl) (by kernel_rfl) Tryz.underlying222 Tryz.underlying136 (by kernel_rfl) (by kernel_rfl) t
 have a':=b2v (g:=4) (t:=69) (by kernel_rfl) (by kernel_rfl) Tryz.underlying69 a
 have b':=b2v (g:=5) (t:=69) (by kernel_rfl) (by kernel_rfl) Tryz.underlying69 b
 have lt:∀ {n:String} {g:Nat} {x:Array Value},Tryz.prog.globalNamed n=some g→W.var? Tryz.prog n=some x→g < W.heap.size:=by
  intro n g x hg hv
  unfold World.var? at hv
  rw [hg] at hv
  simp only [Option.bind_some] at hv
  rcases Nat.lt_or_ge g W.heap.size with h | h
  ·exact h
  ·rw [Array.getElem?_eq_none h] at hv;cases hv
 have m':=c3K hs
 refine ⟨fun k hk=>?_,fun _=>t',fun _=>a',fun _=>b',fun g hg=>by
  obtain rfl:=Option.some.inj ((show Tryz.prog.globalNamed "internal/bytealg.MaxLen" = some 0 by kernel_rfl).symm.trans hg)
  exact m',fun _=>t4'⟩
 obtain ⟨n,hn,hg⟩:=hk
 simp only [a3Z,List.mem_cons,List.not_mem_nil,or_false] at hn
 rcases hn with rfl | rfl | rfl | rfl | rfl
 ·exact lt hg t'
 ·obtain ⟨_,_,a'⟩:=a';exact lt hg a'
 ·obtain ⟨_,_,b'⟩:=b';exact lt hg b'
 ·obtain rfl:=Option.some.inj ((show Tryz.prog.globalNamed "internal/bytealg.MaxLen" = some 0 by kernel_rfl).symm.trans hg)
  obtain ⟨m,hm⟩:=m'
  exact World.block_lt_of_cell? W _ hm
 ·exact lt hg t4'
theorem b9T {W:World} (hs:W.ShapedOpen Tryz.prog) (h:laidMetH Tryz.prog Rows.declShowsUptoRow.laid W):LibW W:=c2l hs h (by kernel_rfl) (by kernel_rfl) (by kernel_rfl) (by kernel_rfl) (by kernel_rfl)
end Go.Proofs.YtjdmfohncgkdoaaGreatDoor
