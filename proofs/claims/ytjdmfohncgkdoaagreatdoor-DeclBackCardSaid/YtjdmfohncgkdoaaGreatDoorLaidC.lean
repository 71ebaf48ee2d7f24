/-
  A schema's lines: few enough names; the chapter's example. Plain lemmas, no program in sight.
-/
import Derived.Test.YtjdmfohncgkdoaaGreatDoorHmk
import Derived.Test.YtjdmfohncgkdoaaGreatDoorDc19
import Derived.Test.YtjdmfohncgkdoaaGreatDoorHc
import Derived.Test.YtjdmfohncgkdoaaGreatDoorChecked
import Derived.ProofKit
import Derived.OpenShut
import Derived.ChangeOld
import Derived.Deep.Slices
import Derived.Test.YtjdmfohncgkdoaaGreatDoorRows
import Derived.LaidLaws
import Derived.LaidMore
import Derived.LaidSub
import Derived.HandedShaped
import Derived.Shelf.Vars
import Derived.Stop.Joined
namespace Go.Proofs.YtjdmfohncgkdoaaGreatDoor
set_option linter.unusedSimpArgs false
set_option linter.unusedVariables false
set_option maxRecDepth 100000
theorem b3A:∀ {l out r:List Bs},a5Y l out=some r→r.length≤out.length+l.length
  | [], out, r, h => by
    have h:some out=some r:=h
    injection h with h;subst h;exact Nat.le_refl _
  | w :: l, out, r, h => by
    have h:(if nameV w=true∧w∉out then a5Y l (out++[w]) else none)=some r:=h
    split at h
    · have:=b3A h
      rw [List.length_append,List.length_singleton] at this
      rw [List.length_cons];omega
    · cases h
theorem b2U (s:Bs):((a0G s).getD (false,[])).2.length≤s.length+1:=by
  unfold a0G
  split
  · exact Nat.zero_le _
  · cases h : b2d s with
    | none=>exact Nat.zero_le _
    | some r =>
      have h1:=b3A (show a5Y (a0g 44 s) []=some r from h)
      have h2:=a3g 44 s
      show r.length≤_
      simp only [List.length_nil] at h1;omega
def c5w (B:Nat) (n:Nd):Prop:=n.groups.length≤4∧n.marks.length≤B+1
def c7j (B:Nat) (m:Mk):Prop:=m.bars.length≤B+1
def dSm (B:Nat) (d:Dc):Prop:=(d.nodes.length≤24∧d.marks.length≤8)∧(∀ n∈d.nodes,c5w B n)∧∀ m∈d.marks,c7j B m
theorem c2n {B:Nat} {i:Int} {n:Nd} {v:Bs} (h:c5w B n) (hv:v.length≤B):c5w B (a1r i n v).1:=by
 unfold a1r
 split
 ·split
  ·rename_i h1 h2
   exact ⟨by show (n.groups++[v]).length≤4;rw [List.length_append,List.length_singleton];omega,h.2⟩
  ·exact h
 ·split
  ·exact h
  ·split
   ·exact h
   ·split
    ·exact h
    ·exact ⟨h.1,Nat.le_trans (b2U v) (Nat.succ_le_succ hv)⟩
theorem b6e {B:Nat}:∀ {r met:List Bs} {n:Nd},(∀ w∈r,w.length≤B)→c5w B n→c5w B (a3J r met n).1
  | [],_,_,_,h=>h
  | w :: r, met, n, hw, h => by
    by_cases h1:w=[58]
    · subst h1;rw [a2G];exact h
    · obtain ⟨⟨W,V,H⟩,hc⟩:∃ q,a3q 61 w=q:=⟨_,rfl⟩
      by_cases h2:a2B W H < 0∨(W∈met∧W≠a1o)∨(a1r (a2B W H) n V).2=false
      · rw [a1R h1 hc h2];exact ⟨Nat.zero_le _,Nat.zero_le _⟩
      · rw [a1P h1 hc h2]
        have hl:=a3C 61 w
        rw [hc] at hl
        exact b6e (fun x hx=>hw x (List.mem_cons_of_mem _ hx)) (c2n h (Nat.le_trans hl (hw w (List.mem_cons_self ..))))
theorem b5P {B:Nat}:∀ {r met:List Bs} {m:Mk},(∀ w∈r,w.length≤B)→c7j B m→c7j B (a5Z r met m).1
  | [],_,_,_,h=>h
  | w :: r, met, m, hw, h => by
    unfold a5Z
    split
    · exact Nat.zero_le _
    · refine b5P (fun x hx=>hw x (List.mem_cons_of_mem _ hx)) ?_
      have hl:=a3C 61 w
      have hl:=Nat.le_trans hl (hw w (List.mem_cons_self ..))
      unfold a2s
      split
      · exact h
      · split
        · exact Nat.le_trans (b2U _) (Nat.succ_le_succ hl)
        · exact h
theorem c4k {B:Nat} {d:Dc} {l:List Bs} (h:dSm B d) (hw:∀ w∈l,w.length≤B):dSm B (a1D d l).1:=by
 refine ⟨b1W h.1,?_⟩
 have hd:∀ w∈l.drop 2,w.length≤B:=fun w hx=>hw w (List.drop_subset _ _ hx)
 have hN:c5w B (a2r l).1:=b6e hd ⟨Nat.zero_le _,Nat.zero_le _⟩
 have hM:c7j B (a3V l).1:=b5P hd (Nat.zero_le _)
 have h:=h.2
 unfold a1D
 split
 ·exact h
 ·split
  ·split
   ·exact h
   ·split
    ·exact h
    ·split
     ·exact h
     ·exact ⟨fun n hn=>by rcases List.mem_append.1 hn with hn | hn;exact h.1 n hn;rw [List.mem_singleton.1 hn];exact hN,h.2⟩
  ·split
   ·split
    ·exact h
    ·split
     ·exact h
     ·split
      ·exact h
      ·exact ⟨h.1,fun n hn=>by rcases List.mem_append.1 hn with hn | hn;exact h.2 n hn;rw [List.mem_singleton.1 hn];exact hM⟩
   ·exact h
theorem a8y (B:Nat):dSm B Dc.zero:=⟨⟨Nat.zero_le _,Nat.zero_le _⟩,(fun n h=>by cases h),fun n h=>by cases h⟩
theorem b1r {B:Nat}:∀ {r:List Bs} {i:Nat} {d:Dc},(∀ w∈r,w.length≤B)→dSm B d→dSm B (a1W r i d).1
  | [],_,_,_,h=>h
  | s :: r, i, d, hw, h => by
    have hr:∀ w∈r,w.length≤B:=fun w hx=>hw w (List.mem_cons_of_mem _ hx)
    unfold a1W
    split
    · exact a8y B
    · rename_i l hl
      have hs:=hw s (List.mem_cons_self ..)
      split
      · exact b1r hr h
      · split
        · exact b1r hr (c4k h fun w hx=>Nat.le_trans ((a6Z hl).2 w hx) hs)
        · exact a8y B
theorem c2k (s:Bs):dSm s.length (declV s).1:=by
 unfold declV
 split
 ·exact a8y _
 ·rename_i h
  exact b1r (fun w hw=>(a9k (Decidable.not_not.1 h)).2.2 w hw) (a8y _)
@[reducible] def dvT:Bs:=[110,111,100,101,32,112,32,103,114,111,117,112,61,98,108,111,99,107,32,109,97,114,107,115,61,42,32,58,32,116,101,120,116,42,10]
@[reducible] def dvG:Bs:=[103,114,111,117,112,61,98,108,111,99,107]
@[reducible] def dvB:Bs:=[98,108,111,99,107]
@[reducible] def dvM:Bs:=[109,97,114,107,115,61,42]
@[reducible] def dvX:Bs:=[116,101,120,116,42]
@[reducible] def dvW:List Bs:=[a0U,[112],dvG,dvM,[58],dvX]
@[reducible] def dvN:Nd:=⟨[112],[dvB],false,false,false,0,true,[],dvX⟩
theorem c6t:lexV dvX=.ok [⟨1,0,0,0,sText⟩,⟨5,4,0,-1,[]⟩]:=by
 have h:(match lexV dvX with | .ok l=>decide (l=[⟨1,0,0,0,sText⟩,⟨5,4,0,-1,[]⟩]) | .error _=>false)=true:=by decide +kernel
 split at h
 ·rename_i l hl;rw [hl,of_decide_eq_true h]
 ·cases h
theorem b4V:exprV dvX=(T.flat 0 (.times 0 (-1) (.name sText)),0,0) :=
 a5T (.ok _ _ c6t (.choice1 _ _ _ (.row1 _ _ _ (.times 0 1 _ (.name 0 (by decide)) (by decide)))))
theorem c3R {t:T} (h:T.flat 0 (.times 0 (-1) (.name sText))=T.flat 0 t):t=.times 0 (-1) (.name sText):=by
  have h0:T.flat 0 (.times 0 (-1) (.name sText))=[⟨1,0,0,sText,[]⟩]++[⟨4,0,-1,[],[0]⟩]:=by decide +kernel
  rw [h0] at h
  cases t with
  | name s=>exact absurd (congrArg List.length h) (by rw [T.flat_len];simp [T.size])
  | times lo hi u =>
    have h:_=T.flat 0 u++[⟨4,lo,hi,[],[((0+u.size:Nat):Int) - 1]⟩]:=h
    obtain ⟨ha,hb⟩:=List.append_inj' h rfl
    have hb:=(List.cons_eq_cons.1 hb).1
    have hl:(0:Int)=lo:=congrArg Pt.low hb
    have hh:(-1:Int)=hi:=congrArg Pt.high hb
    subst hl;subst hh
    cases u with
    | name s =>
      have ha:[(⟨1,0,0,sText,[]⟩:Pt)]=[⟨1,0,0,s,[]⟩]:=ha
      have hs:sText=s:=congrArg Pt.name (List.cons_eq_cons.1 ha).1
      rw [hs]
    | times a b v =>
      have:=congrArg List.length ha
      rw [T.flat_len] at this
      have h2:=T.size_pos v
      simp [T.size] at this;omega
    | many k ts =>
      have ha:[]++[(⟨1,0,0,sText,[]⟩:Pt)]=T.flatL 0 ts++[⟨k,0,0,[],rootsL 0 ts⟩]:=ha
      have hs:=congrArg Pt.name (List.cons_eq_cons.1 (List.append_inj' ha rfl).2).1
      cases hs
  | many k ts =>
    have h:_=T.flatL 0 ts++[⟨k,0,0,[],rootsL 0 ts⟩]:=h
    have hb:=(List.cons_eq_cons.1 (List.append_inj' h rfl).2).1
    have hh:(-1:Int)=0:=congrArg Pt.high hb
    cases hh
theorem c1w:exprS dvX=dvX:=by
 have h:∃ t:T,t.ok=true∧t.size≤250∧exprV dvX=(T.flat 0 t,0,0):=⟨.times 0 (-1) (.name sText),by decide +kernel,by decide +kernel,b4V⟩
 unfold exprS
 rw [dif_pos h]
 obtain ⟨h1,h2,h3⟩:=Classical.choose_spec h
 have h4:=congrArg (fun x:List Pt×Int×Int=>x.1) (b4V.symm.trans h3)
 have h4:T.flat 0 (.times 0 (-1) (.name sText))=T.flat 0 (Classical.choose h):=h4
 rw [c3R h4]
 decide +kernel
theorem c1A:a1v dvT=([dvT.dropLast],0,0):=by decide +kernel
theorem c1r:a1C dvT.dropLast=some dvW:=by decide +kernel
theorem c5v:a2r dvW=(dvN,true):=by
 show a3J [dvG,dvM,[58],dvX] [] _=_
 rw [a1P (W:=a1o) (V:=dvB) (H:=true) (by decide) (by decide) (by decide +kernel),a1P (W:=a0P) (V:=[42]) (H:=true) (by decide) (by decide) (by decide +kernel),a2G]
 show (_,decide ((exprV dvX).2.2=0))=_
 rw [b4V]
 show (({ (_:Nd) with leaf:=false,expr:=exprS dvX }),true)=_
 rw [c1w]
 decide +kernel
theorem c5M:a1D Dc.zero dvW=(⟨[dvN],[]⟩,0):=by
 unfold a1D
 rw [c5v]
 decide +kernel
theorem c3U:declV dvT=(⟨[dvN],[]⟩,0,0):=by
 unfold declV
 rw [c1A]
 show (if (0:Int)≠0 then _ else a1W [dvT.dropLast] 0 Dc.zero)=_
 rw [if_neg (by decide)]
 unfold a1W
 rw [c1r]
 show (if dvW=[] then _ else if (a1D Dc.zero dvW).2=0 then a1W [] 1 (a1D Dc.zero dvW).1 else _)=_
 rw [if_neg (by decide),c5M,if_pos rfl]
 rfl
end Go.Proofs.YtjdmfohncgkdoaaGreatDoor
namespace Go.Proofs.YtjdmfohncgkdoaaGreatDoor
set_option linter.unusedSimpArgs false
set_option linter.unusedVariables false
set_option maxRecDepth 100000
set_option maxHeartbeats 4000000
open Go.RowKit
theorem c6q {B:Nat} {d:Dc} (h:dSm B d) (hB:B≤999999):c2S d:=by
 obtain ⟨⟨h1,h2⟩,h3,h4⟩:=h
 refine ⟨by omega,by omega,fun k=>?_,fun k=>?_⟩
 ·rw [List.getD_eq_getElem?_getD]
  rcases Nat.lt_or_ge k d.nodes.length with hk | hk
  ·rw [List.getElem?_eq_getElem hk]
   have:=h3 _ (List.getElem_mem hk)
   exact ⟨Nat.le_trans this.1 (by omega),Nat.le_trans this.2 (by omega)⟩
  ·rw [List.getElem?_eq_none hk];exact ⟨Nat.zero_le _,Nat.zero_le _⟩
 ·rw [List.getD_eq_getElem?_getD]
  rcases Nat.lt_or_ge k d.marks.length with hk | hk
  ·rw [List.getElem?_eq_getElem hk]
   exact Nat.le_trans (h4 _ (List.getElem_mem hk)) (by omega)
  ·rw [List.getElem?_eq_none hk];exact Nat.zero_le _
theorem a8C:a0p Tryz.prog 6 [] (a0r true):=by
 have hp:a0p Tryz.prog 7 [a0n dvT] (c0Q (⟨[dvN],[]⟩,0,0)):=by rw [←c3U];exact a8n dvT (by decide)
 refine a0m Tryz.func6 rfl kr _ _ _ rfl 57 rfl rfl (fun w F=>?_)
 refine ru 7 ?_
 refine cll (hp) ?_
 refine ru 64 ?_
 refine rt1 ?_
 exact .imm _
theorem c0T (s:Bs) (h1:65536 < s.length) (h2:s.length≤1000000000):a0p Tryz.prog 16 [a0n s] (b2G ([],0,4)):=by
 refine a0m Tryz.func16 rfl kr _ _ _ rfl 28 rfl rfl (fun w F=>?_)
 refine ru 15 ?_
 refine wdc (fun hr0 hc0=>?_) (fun hr0 hc0=>?_)
 ·refine ru 9 ?_
  refine rt3 ?_
  exact a1u (.nil 0 1 _ (by decide) none) (.imm _) (.imm _)
 exfalso;omega
theorem b8o (s:Bs) (h1:65536 < s.length) (h2:s.length≤1000000000):a0p Tryz.prog 19 [a0n s] (b2G ([],0,4)):=by
 refine a0m Tryz.func19 rfl kr _ _ _ rfl 38 rfl rfl (fun w F=>?_)
 refine ru 15 ?_
 refine wdc (fun hr0 hc0=>?_) (fun hr0 hc0=>?_)
 ·refine ru 9 ?_
  refine rt3 ?_
  exact a1u (.nil 0 1 _ (by decide) none) (.imm _) (.imm _)
 exfalso;omega
theorem a9f {s:Bs} (h1:65536 < s.length):declV s=(Dc.zero,0,4):=by
 have:a1v s=([],0,4):=by unfold a1v;rw [if_pos h1]
 unfold declV;rw [this];rfl
theorem c0B (s:Bs) (h1:65536 < s.length) (h2:s.length≤1000000000):a0p Tryz.prog 7 [a0n s] (c0Q (declV s)):=by
 rw [a9f h1]
 refine a0m Tryz.func7 rfl kr _ _ _ rfl 53 rfl rfl (fun w F=>?_)
 refine ru 10 ?_
 refine cll (c0T s h1 h2) ?_
 refine ru 16 ?_
 refine wdc (fun hr0 hc0=>?_) (fun hr0 hc0=>?_)
 ·refine ru 12 ?_
  refine rt3 ?_
  exact a1u (a7M rfl rfl) (.imm _) (.imm _)
 exfalso;simp at hr0
theorem b7q (s:Bs) (h1:65536 < s.length) (h2:s.length≤1000000000):a0p Tryz.prog 8 [a0n s] (c0Q (declV s)):=by
 rw [a9f h1]
 refine a0m Tryz.func8 rfl kr _ _ _ rfl 58 rfl rfl (fun w F=>?_)
 refine ru 10 ?_
 refine cll (b8o s h1 h2) ?_
 refine ru 16 ?_
 refine wdc (fun hr0 hc0=>?_) (fun hr0 hc0=>?_)
 ·refine ru 12 ?_
  refine rt3 ?_
  exact a1u (a7M rfl rfl) (.imm _) (.imm _)
 exfalso;simp at hr0
theorem b3r (s:Bs) (h2:s.length≤1000000000):a0p Tryz.prog 7 [a0n s] (c0Q (declV s)):=by
 rcases Nat.lt_or_ge 65536 s.length with h | h
 ·exact c0B s h h2
 ·exact a8n s (by omega)
theorem b7B (s:Bs) (h2:s.length≤1000000000):a0p Tryz.prog 8 [a0n s] (c0Q (declV s)):=by
 rcases Nat.lt_or_ge 65536 s.length with h | h
 ·exact b7q s h h2
 ·exact b8P s h
theorem c1F (d:Dc) (hd:DcB d) (hP:a0p Tryz.prog 8 [a0n (linesD d)] (c0Q (declV (linesD d)))) (hS:a0p Tryz.prog 9 [dcV (declV (linesD d)).1,dcV d] (a0r (decide ((declV (linesD d)).1=d)))):a0p Tryz.prog 14 [dcV d] (a0n (a6u d)):=by
 refine a0m Tryz.func14 rfl kr _ _ _ rfl 24 rfl rfl (fun w F=>?_)
 refine ru 9 ?_
 refine s0 (a0j (xs:=[_]) (c1O d hd) ⟨rfl,trivial⟩ ⟨(show Fz _ (dcV d) (dcV d) from a7b _),trivial⟩) ?_
 refine ru 6 ?_
 refine cll (hP) ?_
 refine ru 18 ?_
 first
 | refine stg 17 (fun hb=>a0j (xs:=[_,_]) (hS) ⟨rfl,⟨rfl,trivial⟩⟩ ⟨(show Fz _ (dcV (declV (linesD d)).1) (dcV (declV (linesD d)).1) from a7b _),⟨(show Fz _ (dcV d) (dcV d) from a7b _),trivial⟩⟩) rfl rfl rfl rfl rfl ?_
 | refine sth 17 (fun hb=>a0j (xs:=[_,_]) (hS) ⟨rfl,⟨rfl,trivial⟩⟩ ⟨(show Fz _ (dcV (declV (linesD d)).1) (dcV (declV (linesD d)).1) from a7b _),⟨(show Fz _ (dcV d) (dcV d) from a7b _),trivial⟩⟩) rfl rfl rfl rfl rfl ?_
 refine ru 4 ?_
 refine wdc (fun hr0 hc0=>?_) (fun hr0 hc0=>?_)
 ·skip
  have hsh:a6u d=[]:=(by unfold a6u;rw [if_neg (fun h=>by have h9:=hr0;simp [h.1,h.2] at h9)])
  refine ru 7 ?_
  refine rt1 ?_
  rw [hsh];exact .imm _
 have hsh:a6u d=linesD d:=(by unfold a6u;rw [if_pos (by have h9:=hr0;simpa using h9)])
 refine ru 9 ?_
 refine rt1 ?_
 rw [hsh];exact .imm _
theorem a4Y (s:Bs):c2S (declV s).1:=by
 rcases Nat.lt_or_ge 65536 s.length with h | h
 ·rw [a9f h];exact ⟨Nat.zero_le _,Nat.zero_le _,fun k=>⟨Nat.zero_le _,Nat.zero_le _⟩,fun k=>Nat.zero_le _⟩
 ·exact c6q (c2k s) (by omega)
theorem b7K (d:Dc) (hd:DcB d) (hs:c2S d):a0p Tryz.prog 13 [dcV d] (a0n (a6u d))∧a0p Tryz.prog 14 [dcV d] (a0n (a6u d)) :=
 ⟨c3E d hd (b3r _ hd.all) (b4o _ _ (a4Y _) hs),c1F d hd (b7B _ hd.all) (c4d _ _ (a4Y _))⟩
structure BackP (d:Dc):Prop where
 b:DcB d
 back:declV (linesD d)=(d,0,0)
 none:linesD d=[]→d.nodes=[]∧d.marks=[]
theorem b4j (s:Bs) (h5:5000 < s.length) (hs:s.length≤9223372036854775807):a0p Tryz.prog 5 [a0n s] (a0r true):=by
 refine a0m Tryz.func5 rfl kr _ _ _ rfl 55 rfl rfl (fun w F=>?_)
 refine ru 13 ?_
 refine wdc (fun hr0 hc0=>?_) (fun hr0 hc0=>?_)
 ·refine ru 2 ?_
  refine cll (a8C) ?_
  refine ru 5 ?_
  refine rt1 ?_
  exact .imm _
 exfalso;omega
theorem b4O (s:Bs) (h5:s.length≤5000) (he:(declV s).2.2≠0):a0p Tryz.prog 5 [a0n s] (a0r true):=by
 refine a0m Tryz.func5 rfl kr _ _ _ rfl 55 rfl rfl (fun w F=>?_)
 refine ru 13 ?_
 refine wdc (fun hr0 hc0=>?_) (fun hr0 hc0=>?_)
 ·skip
  exfalso;omega
 refine ru 5 ?_
 refine cll (a8n s om) ?_
 refine ru 17 ?_
 refine wdc (fun hr1 hc1=>?_) (fun hr1 hc1=>?_)
 ·refine ru 2 ?_
  refine cll (a8C) ?_
  refine ru 5 ?_
  refine rt1 ?_
  exact .imm _
 exfalso;exact he (by simpa using hr1)
theorem b4E (s:Bs) (h5:s.length≤5000) (he:(declV s).2.2=0) (hb:BackP (declV s).1):a0p Tryz.prog 5 [a0n s] (a0r true):=by
 have hsm:c2S (declV s).1:=a4Y s
 have hsh:=(b7K (declV s).1 hb.b hsm).1
 have hsD:a6u (declV s).1=linesD (declV s).1:=by unfold a6u;rw [if_pos ⟨by rw [hb.back],by rw [hb.back]⟩]
 have hP:a0p Tryz.prog 7 [a0n (linesD (declV s).1)] (c0Q ((declV s).1,0,0)):=by rw [←hb.back];exact b3r _ hb.b.all
 rw [hsD] at hsh
 have hparse:=a8n s (by omega)
 have hbn:=hb.none
 have hln:=hsm.1
 have hlm:=hsm.2.1
 generalize declV s=r at *
 obtain ⟨d,i_,e_⟩:=r
 have he:e_=0:=he
 subst he
 refine a0m Tryz.func5 rfl kr _ _ _ rfl 55 rfl rfl (fun w F=>?_)
 refine ru 13 ?_
 refine wdc (fun hr0 hc0=>?_) (fun hr0 hc0=>?_)
 ·skip
  exfalso;omega
 refine ru 5 ?_
 refine cll (hparse) ?_
 refine ru 17 ?_
 refine wdc (fun hr1 hc1=>?_) (fun hr1 hc1=>?_)
 ·skip
  exfalso;simp at hr1
 refine ru 5 ?_
 refine s0 (a0j (xs:=[_]) (hsh) ⟨rfl,trivial⟩ ⟨(show Fz _ (dcV d) (dcV d) from a7b _),trivial⟩) ?_
 refine ru 6 ?_
 refine cll (hP) ?_
 refine ru 17 ?_
 first
 | refine stg 33 (fun hb=>a0j (xs:=[_,_]) (b4o d d hsm hsm) ⟨rfl,⟨rfl,trivial⟩⟩ ⟨(show Fz _ (dcV d) (dcV d) from a7b _),⟨(show Fz _ (dcV d) (dcV d) from a7b _),trivial⟩⟩) rfl rfl rfl rfl rfl ?_
 | refine sth 33 (fun hb=>a0j (xs:=[_,_]) (b4o d d hsm hsm) ⟨rfl,⟨rfl,trivial⟩⟩ ⟨(show Fz _ (dcV d) (dcV d) from a7b _),⟨(show Fz _ (dcV d) (dcV d) from a7b _),trivial⟩⟩) rfl rfl rfl rfl rfl ?_
 refine ru 16 ?_
 first
 | refine stg 52 (fun hb=>a0j (xs:=[]) (a8C) trivial trivial) rfl rfl rfl rfl rfl ?_
 | refine sth 52 (fun hb=>a0j (xs:=[]) (a8C) trivial trivial) rfl rfl rfl rfl rfl ?_
 refine ru 5 ?_
 refine rt1 ?_
 exact a1k (by by_cases h:linesD d=[];(have h9:=hbn h;have h1:d.nodes=[]:=h9.1;have h2:d.marks=[]:=h9.2;simp [h1,h2]);simp [h])
theorem b7x (s:Bs) (hs:s.length≤9223372036854775807) (hb:s.length≤5000→(declV s).2.2=0→BackP (declV s).1):a0p Tryz.prog 5 [a0n s] (a0r true):=by
 rcases Nat.lt_or_ge 5000 s.length with h | h
 ·exact b4j s h hs
 ·by_cases he:(declV s).2.2=0
  ·exact b4E s h he (hb h he)
  ·exact b4O s h he
end Go.Proofs.YtjdmfohncgkdoaaGreatDoor
namespace Go.Proofs.YtjdmfohncgkdoaaGreatDoor
set_option linter.unusedSimpArgs false
set_option linter.unusedVariables false
set_option maxRecDepth 100000
open Go.Lib (itoa)
theorem a6k:∀ {l:List Bs},l≠[]→(∀ w∈l,∀ b∈w,b≠44)→a0g 44 (joinC l)=l
  | [],h,_=>absurd rfl h
  | [w],_,h=>a4a 44 w (h w (List.mem_singleton_self _))
  | w :: v :: r, _, h => by
    show a0g 44 (w++44::joinC (v::r))=_
    rw [a4z 44 w _ (h w (List.mem_cons_self ..)),a6k (fun h9=>by cases h9) (fun x hx=>h x (List.mem_cons_of_mem _ hx))]
theorem a8V:∀ {l:List Bs},(∀ w∈l,∀ b∈w,b≠10)→a0g 10 (l.flatMap fun w=>w++[10])=l++[[]]
  | [],_=>rfl
  | w :: r, h => by
    show a0g 10 ((w++[10])++r.flatMap fun w=>w++[10])=_
    rw [List.append_assoc]
    show a0g 10 (w++10::r.flatMap fun w=>w++[10])=_
    rw [a4z 10 w _ (h w (List.mem_cons_self ..)),a8V (fun x hx=>h x (List.mem_cons_of_mem _ hx))];rfl
theorem b3G:∀ {l out:List Bs},(∀ w∈l,nameV w=true)→(out++l).Nodup→a5Y l out=some (out++l)
  | [],out,_,_=>by show some out=_;rw [List.append_nil]
  | w :: l, out, h, hn => by
    have hw:w∉out:=fun hm=>by
      have:=(List.nodup_append.1 hn).2.2 w hm w (List.mem_cons_self ..)
      exact this rfl
    show (if nameV w=true∧w∉out then a5Y l (out++[w]) else none)=_
    rw [if_pos ⟨h w (List.mem_cons_self ..),hw⟩,b3G (fun x hx=>h x (List.mem_cons_of_mem _ hx)) (by rw [List.append_assoc];exact hn),List.append_assoc];rfl
theorem b5G:∀ {l out r:List Bs},a5Y l out=some r→out.Nodup→(∀ w∈out,nameV w=true)→r.Nodup∧(∀ w∈r,nameV w=true)∧r=out++l
  | [], out, r, h, h1, h2 => by
    have h:some out=some r:=h
    injection h with h;subst h;exact ⟨h1,h2,by simp⟩
  | w :: l, out, r, h, h1, h2 => by
    have h:(if nameV w=true∧w∉out then a5Y l (out++[w]) else none)=some r:=h
    split at h
    · rename_i hc
      have:=b5G h (List.nodup_append.2 ⟨h1,(by simp),fun a ha b hb=>by rw [List.mem_singleton.1 hb];rintro rfl;exact hc.2 ha⟩) (fun x hx=>by rcases List.mem_append.1 hx with hx | hx;exact h2 x hx;rw [List.mem_singleton.1 hx];exact hc.1)
      exact ⟨this.1,this.2.1,by rw [this.2.2,List.append_assoc];rfl⟩
    · cases h
theorem b0S {w:Bs} (h:nameV w=true):∀ b∈w,b≠44∧b≠10∧b≠61∧32 < b.toNat∧b.toNat < 127:=by
 intro b hb
 rw [←a6H] at h
 unfold b1h at h
 simp only [Bool.and_eq_true,decide_eq_true_eq,List.all_eq_true,List.mem_range] at h
 obtain ⟨i,hi,rfl⟩:=List.getElem_of_mem hb
 have h1:=h.2 i hi
 rw [c5X hi,List.getD_eq_getElem?_getD,List.getElem?_eq_getElem hi] at h1
 unfold alnumZ smallZ a0X at h1
 simp only [Option.getD_some,Bool.or_eq_true,Bool.and_eq_true,decide_eq_true_eq] at h1
 refine ⟨?_,?_,?_,by omega,by omega⟩ <;> (intro h9;rw [h9] at h1;revert h1;decide)
theorem b9V {l:List Bs} (h0:l≠[]) (h:∀ w∈l,nameV w=true) (hn:l.Nodup):b2d (joinC l)=some l:=by
 unfold b2d
 rw [a6k h0 (fun w hw b hb=>(b0S (h w hw) b hb).1)]
 exact b3G h hn
theorem a4n {c:UInt8}:∀ {w:Bs} (v:Bs),(∀ b∈w,b≠c)→a3q c (w++c::v)=(w,v,true)
  | [],v,_=>by show (if c=c then _ else _)=_;rw [if_pos rfl]
  | b :: w, v, h => by
    show (if b=c then _ else (b::(a3q c (w++c::v)).1,(a3q c (w++c::v)).2.1,(a3q c (w++c::v)).2.2))=_
    rw [if_neg (h b (List.mem_cons_self ..)),a4n v (fun x hx=>h x (List.mem_cons_of_mem _ hx))]
theorem b1B {c:UInt8}:∀ {w:Bs},(∀ b∈w,b≠c)→a3q c w=(w,[],false)
  | [],_=>rfl
  | b :: w, h => by
    show (if b=c then _ else (b::(a3q c w).1,(a3q c w).2.1,(a3q c w).2.2))=_
    rw [if_neg (h b (List.mem_cons_self ..)),b1B (fun x hx=>h x (List.mem_cons_of_mem _ hx))]
open Classical in
theorem b5b {s s':Bs} (h:exprV s=exprV s'):exprS s=exprS s':=by
 have key:∀ v v':List Pt×Int×Int,v=v'→(if h:∃ t:T,t.ok=true∧t.size≤250∧v=(T.flat 0 t,0,0) then a4B (Classical.choose h).sig else [])=(if h:∃ t:T,t.ok=true∧t.size≤250∧v'=(T.flat 0 t,0,0) then a4B (Classical.choose h).sig else []):=by
  rintro v _ rfl;rfl
 exact key _ _ h
def par (v:Nat) (k:Int):Nat:=if v=0 then (if k=1 then 0 else 2) else if v=1 then (if k=2∨k=3 then 2 else 0) else if v=2 then (if k=3 then 2 else 0) else 0
theorem b4B (b:Bool) (l:List Sg):(a0Q b l).length≤l.length+(if b=true then 2 else 0):=by
 unfold a0Q
 cases b with
 | false=>exact Nat.le_refl _
 | true=>simp
theorem b3Z (k:Int) (c e:Nat→Nat) (g:Nat) (hk:k=2∧g=0∨k=3∧g=1):∀ (ts:List T) (f:Bool) (a:Nat),(∀ i,i < ts.length→(a0Q (inB k (ts.getD i default).kind) (T.sig (ts.getD i default))).length+c (a+i)≤e (a+i))→(∀ i,i+1 < ts.length→c (a+i+1)=e (a+i)+g)→ts≠[]→(T.sigL k f ts).length+c a≤e (a+ts.length - 1)+(if f=true then 0 else g)
  | [],_,_,_,_,h=>absurd rfl h
  | [t], f, a, h1, _, _ => by
    have h:=h1 0 (Nat.succ_pos _)
    have h:(a0Q (inB k t.kind) (T.sig t)).length+c a≤e a:=h
    have ho:(orS k f).length≤(if f=true then 0 else g):=by
      unfold orS
      rcases hk with ⟨rfl,rfl⟩ | ⟨rfl,rfl⟩ <;> cases f <;> simp
    show (orS k f++a0Q (inB k t.kind) (T.sig t)++[]).length+c a≤e (a+1 - 1)+_
    rw [List.append_nil,List.length_append,Nat.add_sub_cancel];omega
  | t :: u :: r, f, a, h1, h2, _ => by
    have h:=h1 0 (Nat.succ_pos _)
    have h:(a0Q (inB k t.kind) (T.sig t)).length+c a≤e a:=h
    have ho:(orS k f).length≤(if f=true then 0 else g):=by
      unfold orS
      rcases hk with ⟨rfl,rfl⟩ | ⟨rfl,rfl⟩ <;> cases f <;> simp
    have hc:c (a+1)=e a+g:=h2 0 (by simp)
    have ih:=b3Z k c e g hk (u::r) false (a+1) (fun i hi=>by have:=h1 (i+1) (by simpa using hi);rw [show a+(i+1)=a+1+i by omega] at this;exact this) (fun i hi=>by have:=h2 (i+1) (by simpa using hi);rw [show a+(i+1)+1=a+1+i+1 by omega,show a+(i+1)=a+1+i by omega] at this;exact this) (fun h=>by cases h)
    show (orS k f++a0Q (inB k t.kind) (T.sig t)++T.sigL k false (u::r)).length+c a≤e (a+(r.length+1+1) - 1)+_
    rw [List.length_append,List.length_append]
    have ih:(T.sigL k false (u::r)).length+c (a+1)≤e (a+1+(r.length+1) - 1)+g:=ih
    rw [show a+1+(r.length+1) - 1=a+(r.length+1+1) - 1 by omega] at ih
    omega
theorem c7L (k:Int):(if inB 4 k=true then 2 else 0)≤par 0 k:=by unfold inB par;by_cases h:k=1 <;> simp [h]
theorem c7z (k:Int):(if inB 2 k=true then 2 else 0)≤par 1 k:=by unfold inB par;by_cases h:k=2 <;> by_cases h':k=3 <;> simp [h,h']
theorem c7p (k:Int):(if inB 3 k=true then 2 else 0)≤par 2 k:=by unfold inB par;by_cases h:k=3 <;> simp [h]
theorem c7T (k:Int):par 1 k≤par 0 k:=by
 unfold par
 by_cases h:k=1
 ·subst h;decide
 ·by_cases h':k=2∨k=3 <;> simp [h,h']
theorem c7X (k:Int):par 2 k≤par 1 k:=by unfold par;by_cases h:k=3 <;> simp [h]
theorem c8z (k:Int):par 0 k≤2:=by unfold par;by_cases h:k=1 <;> simp [h]
theorem c2Y {l:List Sg} {v p q:Nat} {t:T} (h:Seg l v p q t):t.sig.length+p+par v t.kind≤q:=by
  induction h with
  | name p h=>show 1+p+0≤p+1;omega
  | group p q t _ _ _ ih =>
    have ih:t.sig.length+(p+1)+0≤q:=ih
    have:=c8z t.kind
    omega
  | item p q t _ _ ih=>have:=c7T t.kind;omega
  | times p q t _ _ ih =>
    have hw:=b4B (inB 4 t.kind) t.sig
    have hp:=c7L t.kind
    show (a0Q (inB 4 t.kind) t.sig++[_]).length+p+0≤q+1
    rw [List.length_append,List.length_singleton];omega
  | row1 p q t _ ih=>have:=c7X t.kind;omega
  | row p q ts c h2 h0 he _ ih =>
    have key:=b3Z 2 c (fun i=>c (i+1)) 0 (.inl ⟨rfl,rfl⟩) ts true 0 (fun i hi=>by
      have hi':=ih i hi
      have hw:=b4B (inB 2 (ts.getD i default).kind) (T.sig (ts.getD i default))
      have hp:=c7z (ts.getD i default).kind
      rw [Nat.zero_add];omega) (fun i hi=>by simp) (fun h=>by rw [h] at h2;simp at h2)
    simp only [Nat.zero_add] at key
    rw [show ts.length - 1+1=ts.length by omega,h0,he] at key
    show (T.sigL 2 true ts).length+p+0≤q
    simpa using key
  | choice1 p q t _ ih =>
    show t.sig.length+p+0≤q
    omega
  | choice p q ts c e h2 h0 he _ hs ih =>
    have key:=b3Z 3 c e 1 (.inr ⟨rfl,rfl⟩) ts true 0 (fun i hi=>by
      have hi':=ih i hi
      have hw:=b4B (inB 3 (ts.getD i default).kind) (T.sig (ts.getD i default))
      have hp:=c7p (ts.getD i default).kind
      rw [Nat.zero_add];omega) (fun i hi=>by rw [Nat.zero_add];exact (hs i hi).2) (fun h=>by rw [h] at h2;simp at h2)
    simp only [Nat.zero_add] at key
    rw [h0,he] at key
    show (T.sigL 3 true ts).length+p+0≤q
    simpa using key
theorem a5j {a b:List Pt} {x y:Pt} (h:a++[x]=b++[y]):a=b∧x=y:=by
 have h1:=List.append_inj' h rfl
 exact ⟨h1.1,(List.cons_eq_cons.1 h1.2).1⟩
theorem a4D {k:Int} {ts:List T} (h:(T.many k ts).ok=true):(k=2∨k=3)∧T.okL ts=true:=by
 unfold T.ok at h
 simp only [Bool.and_eq_true,Bool.or_eq_true,decide_eq_true_eq] at h
 exact ⟨h.1.1,h.2⟩
theorem b3y {lo hi:Int} {t:T} (h:(T.times lo hi t).ok=true):t.ok=true:=by
 unfold T.ok at h
 simp only [Bool.and_eq_true] at h
 exact h.2
mutual
theorem b1k:∀ (t t':T) (b:Nat),t.ok=true→t'.ok=true→T.flat b t=T.flat b t'→t=t'
  | .name s, .name s', b, _, _, h => by
    have h:[(⟨1,0,0,s,[]⟩:Pt)]=[⟨1,0,0,s',[]⟩]:=h
    have:=congrArg Pt.name (List.cons_eq_cons.1 h).1
    exact congrArg T.name this
  | .name s, .times lo hi u, b, _, _, h => by
    have h:[]++[(⟨1,0,0,s,[]⟩:Pt)]=T.flat b u++[⟨4,lo,hi,[],[((b+u.size:Nat):Int) - 1]⟩]:=h
    have:(1:Int)=4:=congrArg Pt.kind (a5j h).2
    cases this
  | .name s, .many k ts, b, _, h2, h => by
    have h:[]++[(⟨1,0,0,s,[]⟩:Pt)]=T.flatL b ts++[⟨k,0,0,[],rootsL b ts⟩]:=h
    have:(1:Int)=k:=congrArg Pt.kind (a5j h).2
    have:=(a4D h2).1
    omega
  | .times lo hi u, .name s, b, _, _, h => by
    have h:T.flat b u++[⟨4,lo,hi,[],[((b+u.size:Nat):Int) - 1]⟩]=[]++[(⟨1,0,0,s,[]⟩:Pt)]:=h
    have:(4:Int)=1:=congrArg Pt.kind (a5j h).2
    cases this
  | .times lo hi u, .times lo' hi' u', b, h1, h2, h => by
    have h:T.flat b u++[⟨4,lo,hi,[],[((b+u.size:Nat):Int) - 1]⟩]=T.flat b u'++[⟨4,lo',hi',[],[((b+u'.size:Nat):Int) - 1]⟩]:=h
    have e:=a5j h
    have e1:lo=lo':=congrArg Pt.low e.2
    have e2:hi=hi':=congrArg Pt.high e.2
    rw [e1,e2,b1k u u' b (b3y h1) (b3y h2) e.1]
  | .times lo hi u, .many k ts, b, _, h2, h => by
    have h:T.flat b u++[⟨4,lo,hi,[],[((b+u.size:Nat):Int) - 1]⟩]=T.flatL b ts++[⟨k,0,0,[],rootsL b ts⟩]:=h
    have:(4:Int)=k:=congrArg Pt.kind (a5j h).2
    have:=(a4D h2).1
    omega
  | .many k ts, .name s, b, h1, _, h => by
    have h:T.flatL b ts++[⟨k,0,0,[],rootsL b ts⟩]=[]++[(⟨1,0,0,s,[]⟩:Pt)]:=h
    have:k=(1:Int):=congrArg Pt.kind (a5j h).2
    have:=(a4D h1).1
    omega
  | .many k ts, .times lo hi u, b, h1, _, h => by
    have h:T.flatL b ts++[⟨k,0,0,[],rootsL b ts⟩]=T.flat b u++[⟨4,lo,hi,[],[((b+u.size:Nat):Int) - 1]⟩]:=h
    have:k=(4:Int):=congrArg Pt.kind (a5j h).2
    have:=(a4D h1).1
    omega
  | .many k ts, .many k' ts', b, h1, h2, h => by
    have h:T.flatL b ts++[⟨k,0,0,[],rootsL b ts⟩]=T.flatL b ts'++[⟨k',0,0,[],rootsL b ts'⟩]:=h
    have e:=a5j h
    have e1:k=k':=congrArg Pt.kind e.2
    have e2:rootsL b ts=rootsL b ts':=congrArg Pt.kids e.2
    rw [e1,b3h ts ts' b (a4D h1).2 (a4D h2).2 e.1 e2]
theorem b3h:∀ (ts ts':List T) (b:Nat),T.okL ts=true→T.okL ts'=true→T.flatL b ts=T.flatL b ts'→rootsL b ts=rootsL b ts'→ts=ts'
  | [],[],_,_,_,_,_=>rfl
  | [],t'::r',b,_,_,_,h=>by cases h
  | t::r,[],b,_,_,_,h=>by cases h
  | t :: r, t' :: r', b, h1, h2, h, hr => by
    have hr:(((b+t.size:Nat):Int) - 1)::rootsL (b+t.size) r=(((b+t'.size:Nat):Int) - 1)::rootsL (b+t'.size) r':=hr
    have e:=List.cons_eq_cons.1 hr
    have es:t.size=t'.size:=by have:=e.1;omega
    have h:T.flat b t++T.flatL (b+t.size) r=T.flat b t'++T.flatL (b+t'.size) r':=h
    have hh:=List.append_inj h (by rw [T.flat_len,T.flat_len];exact es)
    have h1:(T.ok t&&T.okL r)=true:=h1
    have h2:(T.ok t'&&T.okL r')=true:=h2
    rw [Bool.and_eq_true] at h1 h2
    have e1:=b1k t t' b h1.1 h2.1 hh.1
    have e2:=b3h r r' (b+t.size) h1.2 h2.2 (by rw [hh.2,es]) (by rw [e.2,es])
    rw [e1,e2]
end
theorem b0i {s:Bs} {l:List Sg} {t:T} (hv:lexV s=.ok l) (hs:Seg l 3 0 l.length t):exprS s=a4B t.sig∧t.ok=true∧t.sig.length≤200:=by
 have hlen:=a5W s
 rw [hv] at hlen
 have hll:l.length≤200:=hlen
 have hsz:=b3j hs
 have hok:=b6s (a7R hv) hs
 have hV:=a5T (.ok l t hv hs)
 have hsig:=c2Y hs
 have h:∃ t:T,t.ok=true∧t.size≤250∧exprV s=(T.flat 0 t,0,0):=⟨t,hok,by omega,hV⟩
 refine ⟨?_,hok,by omega⟩
 unfold exprS
 rw [dif_pos h]
 obtain ⟨h1,h2,h3⟩:=Classical.choose_spec h
 have h4:T.flat 0 t=T.flat 0 (Classical.choose h):=congrArg (fun x:List Pt×Int×Int=>x.1) (hV.symm.trans h3)
 rw [b1k _ _ 0 h1 hok h4.symm]
theorem b4D {s:Bs} (he:(exprV s).2.2=0):exprV (exprS s)=exprV s:=by
  have h:=a6D s
  generalize hr:exprV s=r at h he
  cases h with
  | err e hv=>exact absurd he (by have:=a5I hv;exact this)
  | none hv=>rw [a6U (by rw [hr])];exact a5T (.none rfl)
  | odd l q hv hne hq hc=>exact absurd he (by show ¬ (2:Int)=0;decide)
  | end_ l hv hne hc=>exact absurd he (by show ¬ (5:Int)=0;decide)
  | ok l t hv hs =>
    obtain ⟨h1,h2,h3⟩:=b0i hv hs
    rcases b7w h2 with ⟨_,l',hl,hs'⟩ | ⟨hb,_⟩
    · rw [h1];exact a5T (.ok l' t hl hs')
    · omega
theorem c0q {s:Bs} (he:(exprV s).2.2=0):exprS (exprS s)=exprS s:=b5b (b4D he)
theorem a8G {n:Int} (h0:0≤n) (h1:n≤999):a2F (itoa n)=some n∧a1g (itoa n)=some n:=by
 have h:a2F (itoa n)=some n:=by rw [←b4J];exact b5K n (by omega) (by omega)
 refine ⟨h,?_⟩
 unfold a1g
 rw [h]
 show (if 0≤n∧n≤999 then some n else none)=some n
 rw [if_pos ⟨h0,h1⟩]
theorem b2P {s:Bs} {n:Int} (h:a1g s=some n):0≤n∧n≤999∧a2F s=some n:=by
  unfold a1g at h
  cases hn:a2F s with
  | none=>rw [hn] at h;cases h
  | some m =>
    rw [hn] at h
    have h:(if 0≤m∧m≤999 then some m else none)=some n:=h
    split at h
    · rename_i hm
      injection h with h;subst h;exact ⟨hm.1,hm.2,rfl⟩
    · cases h
theorem b6M (b:UInt8) (h:Bs) (t:List Bs):joinC ((b::h)::t)=b::joinC (h::t):=by
 cases t with
 | nil=>rfl
 | cons a r=>rfl
theorem a9m:∀ s:Bs,joinC (a0g 44 s)=s
  | []=>rfl
  | b :: l => by
    have ih:=a9m l
    have hc:=a3P 44 l
    by_cases h:b=44
    · have e:a0g 44 (b::l)=[]::a0g 44 l:=by simp [a0g,h]
      rw [e,hc]
      show []++44::joinC (_::_)=_
      rw [←hc,ih,h];rfl
    · have e:a0g 44 (b::l)=(b::(a0g 44 l).headD [])::(a0g 44 l).tail:=by simp [a0g,h]
      rw [e,b6M,←hc,ih]
theorem b5D {s:Bs} {a:Bool} {r:List Bs} (h:a0G s=some (a,r)):(∀ w∈r,nameV w=true)∧r.Nodup∧(joinC r).length≤s.length∧(a=true→r=[]):=by
  unfold a0G at h
  split at h
  · injection h with h;injection h with h1 h2;subst h1;subst h2
    exact ⟨(fun w hw=>by cases hw),List.nodup_nil,Nat.zero_le _,fun _=>rfl⟩
  · cases hn : b2d s with
    | none=>rw [hn] at h;cases h
    | some l =>
      rw [hn] at h
      have h:some (false,l)=some (a,r):=h
      injection h with h;injection h with h1 h2;subst h1;subst h2
      have:=b5G (show a5Y (a0g 44 s) []=some l from hn) List.nodup_nil (fun w hw=>by cases hw)
      refine ⟨this.2.1,this.1,?_,fun h=>by cases h⟩
      rw [this.2.2,List.nil_append,a9m];exact Nat.le_refl _
structure NdOk (L:Nat) (n:Nd):Prop where
 name:nameV n.name=true
 glen:n.groups.length≤4
 gname:∀ g∈n.groups,nameV g=true
 gdup:n.groups.Nodup
 lo:0≤n.attr
 hi:n.attr≤999
 mname:∀ g∈n.marks,nameV g=true
 mdup:n.marks.Nodup
 mlen:(joinC n.marks).length≤L
 all:n.all=true→n.marks=[]
 leaf:n.leaf=true→n.expr=[]
 ex:n.leaf=false→∃ e,n.expr=exprS e∧(exprV e).2.2=0∧e.length≤L
theorem c2f {L:Nat} {i:Int} {n:Nd} {v:Bs} (h:NdOk L n) (hv:v.length≤L) (ho:(a1r i n v).2=true):NdOk L (a1r i n v).1∧(a1r i n v).1.leaf=n.leaf:=by
 unfold a1r at ho ⊢
 by_cases h0:i=0
 ·rw [if_pos h0] at ho ⊢
  by_cases hc:nameV v=true∧v∉n.groups∧n.groups.length < 4
  ·rw [if_pos hc]
   exact ⟨{ h with glen:=by show (n.groups++[v]).length≤4;rw [List.length_append,List.length_singleton];omega,gname:=fun g hg=>by rcases List.mem_append.1 hg with hg | hg;exact h.gname g hg;rw [List.mem_singleton.1 hg];exact hc.1,gdup:=List.nodup_append.2 ⟨h.gdup,(by simp),fun a ha b hb=>by rw [List.mem_singleton.1 hb];rintro rfl;exact hc.2.1 ha⟩ },rfl⟩
  ·rw [if_neg hc] at ho;cases ho
 ·rw [if_neg h0] at ho ⊢
  by_cases h1:i=1
  ·rw [if_pos h1];exact ⟨{ h with },rfl⟩
  ·rw [if_neg h1] at ho ⊢
   by_cases h2:i=2
   ·rw [if_pos h2];exact ⟨{ h with },rfl⟩
   ·rw [if_neg h2] at ho ⊢
    by_cases h3:i=3
    ·rw [if_pos h3] at ho ⊢
     obtain ⟨m,hm⟩:=Option.isSome_iff_exists.1 (show (a1g v).isSome=true from ho)
     obtain ⟨q1,q2,q3⟩:=b2P hm
     exact ⟨{ h with lo:=by show 0≤(a2F v).getD 0;rw [q3];exact q1,hi:=by show (a2F v).getD 0≤999;rw [q3];exact q2 },rfl⟩
    ·rw [if_neg h3] at ho ⊢
     obtain ⟨⟨a,r⟩,hm⟩:=Option.isSome_iff_exists.1 (show (a0G v).isSome=true from ho)
     obtain ⟨q1,q2,q3,q4⟩:=b5D hm
     have e1:((a0G v).getD (false,[])).1=a:=by rw [hm];rfl
     have e2:((a0G v).getD (false,[])).2=r:=by rw [hm];rfl
     exact ⟨{ h with mname:=by show ∀ g∈((a0G v).getD (false,[])).2,_;rw [e2];exact q1,mdup:=by show ((a0G v).getD (false,[])).2.Nodup;rw [e2];exact q2,mlen:=by show (joinC ((a0G v).getD (false,[])).2).length≤L;rw [e2];omega,all:=by show ((a0G v).getD (false,[])).1=true→((a0G v).getD (false,[])).2=[];rw [e1,e2];exact q4 },rfl⟩
theorem b6o {L:Nat}:∀ {r met:List Bs} {n:Nd},(joinL r).length≤L→(∀ w∈r,w.length≤L)→NdOk L n→n.leaf=true→(a3J r met n).2=true→NdOk L (a3J r met n).1
  | [],_,_,_,_,h,_,_=>h
  | w :: r, met, n, hj, hw, h, hl, ho => by
    by_cases h1:w=[58]
    · subst h1
      rw [a2G] at ho ⊢
      have ho:(exprV (joinL r)).2.2=0:=of_decide_eq_true ho
      exact { h with leaf:=(fun h=>by cases h),ex:=fun _=>⟨joinL r,rfl,ho,Nat.le_trans (b1O _ r) hj⟩ }
    · obtain ⟨⟨W,V,H⟩,hc⟩:∃ q,a3q 61 w=q:=⟨_,rfl⟩
      by_cases h2:a2B W H < 0∨(W∈met∧W≠a1o)∨(a1r (a2B W H) n V).2=false
      · rw [a1R h1 hc h2] at ho;cases ho
      · rw [a1P h1 hc h2] at ho ⊢
        have hV:=a3C 61 w
        rw [hc] at hV
        have hk:=c2f (i:=a2B W H) h (Nat.le_trans hV (hw w (List.mem_cons_self ..))) (by cases hb:(a1r (a2B W H) n V).2 with | true=>rfl | false=>exact absurd (.inr (.inr hb)) h2)
        exact b6o (Nat.le_trans (b1O w r) hj) (fun x hx=>hw x (List.mem_cons_of_mem _ hx)) hk.1 (hk.2.trans hl) ho
theorem c2e {L:Nat} {l:List Bs} (hn:nameV (l.getD 1 [])=true) (hj:(joinL l).length≤L) (hw:∀ w∈l,w.length≤L) (ho:(a2r l).2=true):NdOk L (a2r l).1 :=
 b6o (Nat.le_trans (a5B l 2) hj) (fun w hx=>hw w (List.drop_subset _ _ hx)) ⟨hn,Nat.zero_le _,(fun g hg=>by cases hg),List.nodup_nil,(show (0:Int)≤0 by decide),(show (0:Int)≤999 by decide),(fun g hg=>by cases hg),List.nodup_nil,Nat.zero_le _,(fun h=>by cases h),fun _=>rfl,fun h=>by cases h⟩ rfl ho
structure MkOk (L:Nat) (m:Mk):Prop where
 name:nameV m.name=true
 lo:0≤m.val
 hi:m.val≤999
 mname:∀ g∈m.bars,nameV g=true
 mdup:m.bars.Nodup
 mlen:(joinC m.bars).length≤L
 all:m.all=true→m.bars=[]
theorem c2v {L:Nat} {W:Bs} {m:Mk} {v:Bs} (h:MkOk L m) (hv:v.length≤L) (ho:(a2s W m v).2=true):MkOk L (a2s W m v).1:=by
 unfold a2s at ho ⊢
 by_cases h0:W=a6t
 ·rw [if_pos h0] at ho ⊢
  obtain ⟨x,hm⟩:=Option.isSome_iff_exists.1 (show (a1g v).isSome=true from ho)
  obtain ⟨q1,q2,q3⟩:=b2P hm
  exact { h with lo:=by show 0≤(a2F v).getD 0;rw [q3];exact q1,hi:=by show (a2F v).getD 0≤999;rw [q3];exact q2 }
 ·rw [if_neg h0] at ho ⊢
  by_cases h1:W=a2i
  ·rw [if_pos h1] at ho ⊢
   obtain ⟨⟨a,r⟩,hm⟩:=Option.isSome_iff_exists.1 (show (a0G v).isSome=true from ho)
   obtain ⟨q1,q2,q3,q4⟩:=b5D hm
   have e1:((a0G v).getD (false,[])).1=a:=by rw [hm];rfl
   have e2:((a0G v).getD (false,[])).2=r:=by rw [hm];rfl
   exact { h with mname:=by show ∀ g∈((a0G v).getD (false,[])).2,_;rw [e2];exact q1,mdup:=by show ((a0G v).getD (false,[])).2.Nodup;rw [e2];exact q2,mlen:=by show (joinC ((a0G v).getD (false,[])).2).length≤L;rw [e2];omega,all:=by show ((a0G v).getD (false,[])).1=true→((a0G v).getD (false,[])).2=[];rw [e1,e2];exact q4 }
  ·rw [if_neg h1] at ho;cases ho
theorem b5M {L:Nat}:∀ {r met:List Bs} {m:Mk},(∀ w∈r,w.length≤L)→MkOk L m→(a5Z r met m).2=true→MkOk L (a5Z r met m).1
  | [],_,_,_,h,_=>h
  | w :: r, met, m, hw, h, ho => by
    obtain ⟨⟨W,V,H⟩,hc⟩:∃ q,a3q 61 w=q:=⟨_,rfl⟩
    by_cases h2:H=false∨(a2s W m V).2=false∨W∈met
    · rw [a3Y hc h2] at ho;cases ho
    · rw [a5J hc h2] at ho ⊢
      have hV:=a3C 61 w
      rw [hc] at hV
      exact b5M (fun x hx=>hw x (List.mem_cons_of_mem _ hx)) (c2v h (Nat.le_trans hV (hw w (List.mem_cons_self ..))) (by cases hb:(a2s W m V).2 with | true=>rfl | false=>exact absurd (.inr (.inl hb)) h2)) ho
theorem c1v {L:Nat} {l:List Bs} (hn:nameV (l.getD 1 [])=true) (hw:∀ w∈l,w.length≤L) (ho:(a3V l).2=true):MkOk L (a3V l).1 :=
 b5M (fun w hx=>hw w (List.drop_subset _ _ hx)) ⟨hn,(show (0:Int)≤0 by decide),(show (0:Int)≤999 by decide),(fun g hg=>by cases hg),List.nodup_nil,Nat.zero_le _,fun h=>by cases h⟩ ho
def a4Z:List Sg→Nat
 | []=>0
 | x::r=>x.name.length+a4Z r
theorem a4r:∀ a b:List Sg,a4Z (a++b)=a4Z a+a4Z b
 | [],b=>(Nat.zero_add _).symm
 | x::a,b=>by show x.name.length+a4Z (a++b)=x.name.length+a4Z a+a4Z b;rw [a4r a b];omega
theorem b2p (b:Bool) (l:List Sg):a4Z (a0Q b l)=a4Z l:=by
 unfold a0Q
 cases b with
 | false=>rfl
 | true=>show a4Z (([_]++l)++[_])=_;rw [a4r,a4r];simp [a4Z]
theorem c4D (k:Int) (f:Bool):a4Z (orS k f)=0:=by unfold orS;split <;> rfl
theorem b2i {l:List Sg} {i:Nat} (h:i < l.length):a4Z (l.take (i+1))=a4Z (l.take i)+(l.getD i default).name.length:=by
 rw [List.take_succ_eq_append_getElem h,a4r,List.getD_eq_getElem?_getD,List.getElem?_eq_getElem h];simp [a4Z]
theorem a6R {l:List Sg} (i:Nat):a4Z (l.take i)≤a4Z (l.take (i+1)):=by
 rcases Nat.lt_or_ge i l.length with h | h
 ·rw [b2i h];omega
 ·rw [List.take_of_length_le h,List.take_of_length_le (by omega)];exact Nat.le_refl _
theorem a9a {k:Int} {f:Bool} {ts:List T} {i:Nat} (h:i < ts.length):a4Z (T.sigL k f (ts.take (i+1)))=a4Z (T.sigL k f (ts.take i))+a4Z (ts.getD i default).sig:=by
 rw [List.take_succ_eq_append_getElem h,T.sigL_snoc,a4r,a4r,c4D,b2p,List.getD_eq_getElem?_getD,List.getElem?_eq_getElem h];rfl
theorem b9U {l:List Sg} {v p q:Nat} {t:T} (h:Seg l v p q t):a4Z t.sig+a4Z (l.take p)≤a4Z (l.take q):=by
  induction h with
  | name p h =>
    have hp:p < l.length:=a2N (by rw [h];decide)
    rw [b2i hp]
    show ((l.getD p default).name.length+0)+_≤_
    omega
  | group p q t _ h3 _ ih=>have:=a6R (l:=l) p;have:=a6R (l:=l) q;omega
  | item p q t _ _ ih=>exact ih
  | times p q t _ h5 ih =>
    have:=a6R (l:=l) q
    show a4Z (a0Q (inB 4 t.kind) t.sig++[_])+_≤_
    rw [a4r,b2p]
    show a4Z t.sig+(0+0)+_≤_
    omega
  | row1 p q t _ ih=>exact ih
  | row p q ts c h2 h0 he _ ih =>
    have key:∀ i,i≤ts.length→a4Z (T.sigL 2 true (ts.take i))+a4Z (l.take (c 0))≤a4Z (l.take (c i)):=by
      intro i
      induction i with
      | zero=>intro _;simp [T.sigL,a4Z]
      | succ i ihi=>intro hi;have a:=ihi (by omega);have b:=ih i hi;rw [a9a hi];omega
    have:=key ts.length (Nat.le_refl _)
    rw [List.take_length,h0,he] at this
    exact this
  | choice1 p q t _ ih=>exact ih
  | choice p q ts c e h2 h0 he _ hs ih =>
    have key:∀ i,i < ts.length→a4Z (T.sigL 3 true (ts.take (i+1)))+a4Z (l.take (c 0))≤a4Z (l.take (e i)):=by
      intro i
      induction i with
      | zero=>intro hi;have b:=ih 0 hi;rw [a9a hi];simp only [List.take_zero,T.sigL,a4Z];omega
      | succ i ihi=>intro hi;have a:=ihi (by omega);have b:=ih (i+1) hi;have c1:=(hs i hi).2;have m:=a6R (l:=l) (e i);rw [a9a hi];rw [c1] at b;omega
    have:=key (ts.length - 1) (by omega)
    rw [show ts.length - 1+1=ts.length by omega,List.take_length,h0,he] at this
    exact this
theorem b9j {s:List UInt8} {i q:Nat} {x:Sg} (h:a3S s i=.ok (x,q)):x.name.length+i≤q:=by
 have hle:=a5p h
 have key:∀ {y:Sg} {r:Nat},y.name=[]→(Except.ok (y,r):Except (Int×Int) (Sg×Nat))=.ok (x,q)→x.name.length+i≤q:=by
  intro y r h1 h3
  injection h3 with h3;injection h3 with h4 h3
  rw [←h4,h1];show 0+i≤q;omega
 unfold a3S at h
 split at h
 ·unfold a9M at h
  split at h
  ·cases h
  ·injection h with h;injection h with h4 h
   rw [←h4,←h];show ((s.drop i).take _).length+i≤_
   rw [List.length_take];omega
 split at h
 ·have:=(a5G h).1
  rw [this];show 0+i≤q;omega
 repeat' split at h
 all_goals first | exact key rfl h | cases h
theorem a7v {s:List UInt8}:∀ {f i:Nat} {out l:List Sg},i≤s.length→9 * out.length+a4Z out≤10 * i→b2a s f i out=.ok l→9 * l.length+a4Z l≤10 * s.length
  | 0,i,out,l,hi,h,e=>by injection e with e;subst e;omega
  | f + 1, i, out, l, hi, h, e => by
    simp only [b2a] at e
    split at e
    · injection e with e;subst e;omega
    rename_i hi2
    split at e
    · exact a7v (by omega) (by omega) e
    split at e
    · split at e <;> cases e
    · split at e
      · cases e
      · rename_i x q hx
        have h1:=a5p hx
        have h2:=b9j hx
        refine a7v h1.2 ?_ e
        rw [a4r,List.length_append]
        show 9 * (out.length+1)+(a4Z out+(x.name.length+0))≤_
        omega
theorem b2Q:∀ a:Fin 21,((a0E a.val (-1)).all a1q&&decide ((a0E a.val (-1)).length≤9))=true:=by decide +kernel
theorem b3b:∀ a b:Fin 21,((a0E a.val b.val).all a1q&&decide ((a0E a.val b.val).length≤9))=true:=by decide +kernel
theorem a8L {a b:Int} (h:TimesOk a b):(a0E a b).all a1q=true∧(a0E a b).length≤9:=by
 obtain ⟨⟨h0,h1⟩,h2⟩:=h
 have:((a0E a b).all a1q&&decide ((a0E a b).length≤9))=true:=by
  rcases h2 with h2 | ⟨h2,h3,h4⟩
  ·subst h2
   have:=b2Q ⟨a.toNat,by omega⟩
   rwa [show ((⟨a.toNat,by omega⟩:Fin 21).val:Int)=a by show ((a.toNat:Nat):Int)=a;omega] at this
  ·have:=b3b ⟨a.toNat,by omega⟩ ⟨b.toNat,by omega⟩
   rwa [show ((⟨a.toNat,by omega⟩:Fin 21).val:Int)=a by (show ((a.toNat:Nat):Int)=a;omega),show ((⟨b.toNat,by omega⟩:Fin 21).val:Int)=b by (show ((b.toNat:Nat):Int)=b;omega)] at this
 rw [Bool.and_eq_true,decide_eq_true_eq] at this
 exact this
theorem b4g {c:UInt8} (h:alnumZ (c.toNat:Int)=true):a1q c=true:=by
 unfold alnumZ smallZ a0X at h
 unfold a1q
 simp only [Bool.or_eq_true,Bool.and_eq_true,decide_eq_true_eq] at h
 simp only [Bool.and_eq_true,decide_eq_true_eq,Bool.not_eq_true',decide_eq_false_iff_not]
 omega
theorem a4W {x:Sg} (h:SgW x):(a0N x).all a1q=true∧(a0N x).length≤9+x.name.length∧(x.kind≠5→(a0N x).length≤1+x.name.length):=by
  cases h with
  | @name p n h1 h2 h3 =>
    refine ⟨?_,by show n.length≤9+n.length;omega,fun _=>by show n.length≤1+n.length;omega⟩
    show n.all a1q=true
    rw [List.all_eq_true]
    intro b hb
    obtain ⟨j,hj,rfl⟩:=List.getElem_of_mem hb
    have:=h3 j hj
    rw [a3L hj,List.getD_eq_getElem?_getD,List.getElem?_eq_getElem hj] at this
    exact b4g this
  | open_=>exact ⟨rfl,(by decide:1≤9+0),fun _=>(by decide:1≤1+0)⟩
  | shut=>exact ⟨rfl,(by decide:1≤9+0),fun _=>(by decide:1≤1+0)⟩
  | or_=>exact ⟨rfl,(by decide:1≤9+0),fun _=>(by decide:1≤1+0)⟩
  | @times p a b ht=>exact ⟨(a8L ht).1,Nat.le_trans (a8L ht).2 (Nat.le_add_right _ _),fun h=>absurd rfl h⟩
theorem a8E:∀ {l:List Sg} {f:Bool},(∀ x∈l,SgW x)→(a2H f l).length≤9 * l.length+a4Z l
  | [],f,_=>Nat.zero_le _
  | x :: r, f, h => by
    have hx:=a4W (h x (List.mem_cons_self ..))
    have:=a8E (l:=r) (f:=false) (fun y hy=>h y (List.mem_cons_of_mem _ hy))
    show (a7j f x++a0N x++a2H false r).length≤9 * (r.length+1)+(x.name.length+a4Z r)
    rw [List.length_append,List.length_append]
    by_cases h5:x.kind=5
    · have:a7j f x=[]:=by unfold a7j;rw [if_neg (fun h=>h.2 h5)]
      rw [this];show 0+_+_≤_;omega
    · have h1:(a7j f x).length≤1:=by unfold a7j;split <;> simp
      have:=hx.2.2 h5
      omega
theorem a7K:∀ {l:List Sg} {w:Bs},(∀ x∈l,SgW x)→w≠[]→w.all a1q=true→∀ u∈a0g 32 (w++a2H false l),a1A u=true
  | [], w, _, h0, hw, u, hu => by
    have hn:∀ b∈w,b≠32:=fun b hb h9=>by have:=List.all_eq_true.1 hw b hb;rw [h9] at this;exact absurd this (by decide)
    have hu:u∈a0g 32 (w++[]):=hu
    rw [List.append_nil,a4a 32 w hn,List.mem_singleton] at hu
    subst hu
    unfold a1A;rw [hw]
    cases u with
    | nil=>exact absurd rfl h0
    | cons a t=>rfl
  | x :: r, w, h, h0, hw, u, hu => by
    have hn:∀ b∈w,b≠32:=fun b hb h9=>by have:=List.all_eq_true.1 hw b hb;rw [h9] at this;exact absurd this (by decide)
    have hx:=h x (List.mem_cons_self ..)
    have hr:∀ y∈r,SgW y:=fun y hy=>h y (List.mem_cons_of_mem _ hy)
    have hu:u∈a0g 32 (w++(a7j false x++a0N x++a2H false r)):=hu
    by_cases h5:x.kind=5
    · have:a7j false x=[]:=by unfold a7j;rw [if_neg (fun h=>h.2 h5)]
      rw [this,List.nil_append,←List.append_assoc] at hu
      exact a7K hr (fun h=>h0 (List.append_eq_nil_iff.1 h).1) (by rw [List.all_append,hw,(a4W hx).1];rfl) u hu
    · have:a7j false x=[32]:=by unfold a7j;rw [if_pos ⟨rfl,h5⟩]
      rw [this] at hu
      have hu:u∈a0g 32 (w++32::(a0N x++a2H false r)):=by rw [List.append_assoc] at hu;exact hu
      rw [a4z 32 w _ hn] at hu
      rcases List.mem_cons.1 hu with hu | hu
      · subst hu
        unfold a1A;rw [hw]
        cases u with
        | nil=>exact absurd rfl h0
        | cons a t=>rfl
      · exact a7K hr (fun h=>by have:=(a5z hx).2;rw [h] at this;exact absurd this (by decide)) (a4W hx).1 u hu
theorem b1z {s:Bs} (he:(exprV s).2.2=0):(exprS s).length≤10 * s.length∧(exprS s≠[]→∀ u∈a0g 32 (exprS s),a1A u=true):=by
  have h:=a6D s
  generalize hr:exprV s=r at h he
  cases h with
  | err e hv=>exact absurd he (by have:=a5I hv;exact this)
  | none hv=>rw [a6U (by rw [hr])];exact ⟨Nat.zero_le _,fun h=>absurd rfl h⟩
  | odd l q hv hne hq hc=>exact absurd he (by show ¬ (2:Int)=0;decide)
  | end_ l hv hne hc=>exact absurd he (by show ¬ (5:Int)=0;decide)
  | ok l t hv hs =>
    obtain ⟨h1,h2,h3⟩:=b0i hv hs
    have hW:=b6T t h2
    have hg:=a8E (f:=true) hW
    have hl:=a7v (l:=l) (Nat.zero_le _) (by simp [a4Z]) hv
    have hn:=b9U hs
    have hi:=c2Y hs
    rw [List.take_length] at hn
    rw [h1]
    refine ⟨by show (a2H true t.sig).length≤_;omega,fun hne=>?_⟩
    show ∀ u∈a0g 32 (a2H true t.sig),_
    cases hsg:t.sig with
    | nil=>exact absurd (by rw [hsg];rfl) hne
    | cons x r =>
      rw [hsg] at hW
      have hx:=hW x (List.mem_cons_self ..)
      show ∀ u∈a0g 32 (a7j true x++a0N x++a2H false r),_
      rw [show a7j true x=[] by unfold a7j;rw [if_neg (fun h=>by cases h.1)],List.nil_append]
      exact a7K (fun y hy=>hW y (List.mem_cons_of_mem _ hy)) (fun h=>by have:=(a5z hx).2;rw [h] at this;exact absurd this (by decide)) (a4W hx).1
theorem b4w:∀ a:Fin 1000,((itoa (a.val:Int)).all a1q&&decide ((itoa (a.val:Int)).length≤3)&&!(itoa (a.val:Int)).isEmpty)=true:=by decide +kernel
theorem a5E {n:Int} (h0:0≤n) (h1:n≤999):(itoa n).all a1q=true∧(itoa n).length≤3:=by
 have:=b4w ⟨n.toNat,by omega⟩
 rw [show ((⟨n.toNat,by omega⟩:Fin 1000).val:Int)=n by show ((n.toNat:Nat):Int)=n;omega] at this
 simp only [Bool.and_eq_true,decide_eq_true_eq] at this
 exact this.1
def opt (s:Bs) (b:Bool):List Bs:=if b=true then [s] else []
theorem b3J (l:List Bs) (s:Bs) (b:Bool):a0x l s b=l++opt s b:=by
 unfold a0x opt
 cases b with
 | true=>rfl
 | false=>show l=l++[];rw [List.append_nil]
def a8g (n:Nd):List Bs:=n.groups.map (fun g=>b6v++g)++(opt a3k n.inl++(opt a1y n.pick++(opt (a1F++[61]++itoa n.attr) (decide (n.attr≠0))++(opt (a0P++[61,42]) n.all++(opt (a0P++[61]++joinC n.marks) (decide (0 < n.marks.length))++opt [58] (!n.leaf))))))
theorem b6D (n:Nd):nodeW n=a0U::n.name::(a8g n++opt n.expr (decide (n.expr≠[]))):=by
 unfold nodeW a4e a4R a2D
 simp only [b3J]
 unfold a8g
 simp only [List.append_assoc,List.cons_append,List.nil_append]
def exW (e:Bs):List Bs:=if e=[] then [] else a0g 32 e
def a8K (n:Nd):List Bs:=a0U::n.name::(a8g n++exW n.expr)
theorem b5z (e:Bs):joinL (exW e)=e:=by
 unfold exW
 by_cases h:e=[]
 ·rw [if_pos h,h];rfl
 ·rw [if_neg h,a5M]
theorem b2K:∀ (A B B':List Bs),B≠[]→B'≠[]→joinL B=joinL B'→joinL (A++B)=joinL (A++B')
  | [],B,B',_,_,h=>h
  | a :: A, B, B', h1, h2, h => by
    show joinL (a::(A++B))=joinL (a::(A++B'))
    rw [join_cons _ _ (by simp [h1]),join_cons _ _ (by simp [h2]),b2K A B B' h1 h2 h]
theorem b0u (n:Nd):joinL (nodeW n)=joinL (a8K n):=by
 rw [b6D]
 unfold a8K exW opt
 by_cases h:n.expr=[]
 ·rw [if_neg (by simp [h]),if_pos h]
 ·rw [if_pos (by simp [h]),if_neg h]
  exact b2K (a0U::n.name::a8g n) _ _ (by simp) (a2a _ _) (by rw [a5M];rfl)
theorem a6z {w:Bs} (h:a1A w=true):∀ b∈w,b≠32∧b≠10:=by
 unfold a1A at h
 rw [Bool.and_eq_true] at h
 intro b hb
 have:=List.all_eq_true.1 h.2 b hb
 constructor <;> (intro h9;rw [h9] at this;exact absurd this (by decide))
theorem a9G:∀ {l:List Bs},l≠[]→(∀ w∈l,a1A w=true)→a0g 32 (joinL l)=l
  | [],h,_=>absurd rfl h
  | [w],_,h=>a4a 32 w (fun b hb=>(a6z (h w (List.mem_singleton_self _)) b hb).1)
  | w :: v :: r, _, h => by
    show a0g 32 (w++32::joinL (v::r))=_
    rw [a4z 32 w _ (fun b hb=>(a6z (h w (List.mem_cons_self ..)) b hb).1),a9G (fun h9=>by cases h9) (fun x hx=>h x (List.mem_cons_of_mem _ hx))]
theorem a7p:∀ {l:List Bs},(∀ w∈l,a1A w=true)→∀ b∈joinL l,b≠10
  | [],_,b,hb=>by cases hb
  | [w],h,b,hb=>(a6z (h w (List.mem_singleton_self _)) b hb).2
  | w :: v :: r, h, b, hb => by
    have hb:b∈w++32::joinL (v::r):=hb
    rcases List.mem_append.1 hb with hb | hb
    · exact (a6z (h w (List.mem_cons_self ..)) b hb).2
    · rcases List.mem_cons.1 hb with hb | hb
      · rw [hb];decide
      · exact a7p (fun x hx=>h x (List.mem_cons_of_mem _ hx)) b hb
theorem b0q {w:Bs} {l:List Bs} (h:∀ x∈w::l,a1A x=true):a1C (joinL (w::l))=some (w::l):=by
 have hs:=a9G (l:=w::l) (fun h=>by cases h) h
 have hne:joinL (w::l)≠[]:=fun h9=>by
  rw [h9] at hs
  have hs:([[]]:List Bs)=w::l:=hs
  have:=h w (List.mem_cons_self ..)
  rw [←(List.cons_eq_cons.1 hs).1] at this
  exact absurd this (by decide)
 rw [a7y hne (by rw [hs];exact h),hs]
theorem a9j {w:Bs} (h0:w≠[]) (h:w.all a1q=true):a1A w=true:=by
 unfold a1A
 rw [h]
 cases w with
 | nil=>exact absurd rfl h0
 | cons a t=>rfl
theorem a1z {w:Bs} (h:nameV w=true):w.all a1q=true∧w≠[]∧w.length≤12:=by
 have h1:=b0S h
 refine ⟨List.all_eq_true.2 fun b hb=>?_,?_,?_⟩
 ·have:=h1 b hb
  unfold a1q
  simp only [Bool.and_eq_true,decide_eq_true_eq,Bool.not_eq_true',decide_eq_false_iff_not]
  omega
 ·rintro rfl;exact absurd h (by rw [←a6H];decide)
 ·rw [←a6H] at h
  unfold b1h at h
  simp only [Bool.and_eq_true,decide_eq_true_eq] at h
  omega
theorem a6m:∀ {l:List Bs},(∀ w∈l,nameV w=true)→(joinC l).all a1q=true
  | [],_=>rfl
  | [w],h=>(a1z (h w (List.mem_singleton_self _))).1
  | w :: v :: r, h => by
    show (w++44::joinC (v::r)).all a1q=true
    rw [List.all_append,(a1z (h w (List.mem_cons_self ..))).1,List.all_cons,a6m (fun x hx=>h x (List.mem_cons_of_mem _ hx))]
    rfl
theorem a3I {s w:Bs} {b:Bool} (h:b=true→a1A s=true) (hw:w∈opt s b):a1A w=true:=by
 unfold opt at hw
 split at hw
 ·rename_i hb;rw [List.mem_singleton.1 hw];exact h hb
 ·cases hw
theorem a6X {a v:Bs} (ha:a≠[]) (h:a.all a1q=true) (hv:v.all a1q=true):a1A (a++v)=true :=
 a9j (fun h9=>ha (List.append_eq_nil_iff.1 h9).1) (by rw [List.all_append,h,hv];rfl)
theorem b7b {L:Nat} {n:Nd} (h:NdOk L n):∀ w∈a8g n,a1A w=true:=by
 intro w hw
 unfold a8g at hw
 rcases List.mem_append.1 hw with hw | hw
 ·obtain ⟨g,hg,rfl⟩:=List.mem_map.1 hw
  exact a6X (by decide) (by decide) (a1z (h.gname g hg)).1
 rcases List.mem_append.1 hw with hw | hw
 ·exact a3I (fun _=>by decide) hw
 rcases List.mem_append.1 hw with hw | hw
 ·exact a3I (fun _=>by decide) hw
 rcases List.mem_append.1 hw with hw | hw
 ·exact a3I (fun _=>a6X (by decide) (by decide) (a5E h.lo h.hi).1) hw
 rcases List.mem_append.1 hw with hw | hw
 ·exact a3I (fun _=>by decide) hw
 rcases List.mem_append.1 hw with hw | hw
 ·exact a3I (fun _=>a6X (by decide) (by decide) (a6m h.mname)) hw
 ·exact a3I (fun _=>by decide) hw
theorem c1N {L:Nat} {n:Nd} (h:NdOk L n):∀ w∈exW n.expr,a1A w=true:=by
  intro w hw
  unfold exW at hw
  split at hw
  · cases hw
  · rename_i hne
    cases hl:n.leaf with
    | true=>exact absurd (h.leaf hl) hne
    | false =>
      obtain ⟨e,h1,h2,h3⟩:=h.ex hl
      rw [h1] at hne hw
      exact (b1z h2).2 hne w hw
theorem b0a {L:Nat} {n:Nd} (h:NdOk L n):∀ w∈a8K n,a1A w=true:=by
 intro w hw
 unfold a8K at hw
 rcases List.mem_cons.1 hw with rfl | hw
 ·decide
 rcases List.mem_cons.1 hw with rfl | hw
 ·exact a9j (a1z h.name).2.1 (a1z h.name).1
 rcases List.mem_append.1 hw with hw | hw
 ·exact b7b h w hw
 ·exact c1N h w hw
theorem c2m {w:Bs} (h:w.all (fun b=>decide (b≠61))=true):∀ b∈w,b≠61:=fun b hb=>of_decide_eq_true (List.all_eq_true.1 h b hb)
theorem b6r {n:Nd}:∀ {gs:List Bs} {r met:List Bs} {m:Nd},(∀ g∈gs,nameV g=true)→(m.groups++gs).Nodup→(m.groups++gs).length≤4→(∀ x∈met,x=a1o)→∃ met',(∀ x∈met',x=a1o)∧a3J (gs.map (fun g=>b6v++g)++r) met m=a3J r met' { m with groups:=m.groups++gs }
  | [],r,met,m,_,_,_,hm=>⟨met,hm,by rw [List.append_nil];rfl⟩
  | g :: gs, r, met, m, h, hd, hl, hm => by
    have hc:a3q 61 (b6v++g)=(a1o,g,true):=a4n (w:=a1o) g (c2m (by decide))
    have hg:nameV g=true∧g∉m.groups∧m.groups.length < 4:=⟨h g (List.mem_cons_self ..),(fun h9=>(List.nodup_append.1 hd).2.2 g h9 g (List.mem_cons_self ..) rfl),by rw [List.length_append,List.length_cons] at hl;omega⟩
    have hr:a1r (a2B a1o true) m g=({ m with groups:=m.groups++[g] },true):=by
      unfold a1r;rw [if_pos (by decide),if_pos hg]
    obtain ⟨met',h1,h2⟩:=b6r (n:=n) (gs:=gs) (r:=r) (met:=met++[a1o]) (m:={ m with groups:=m.groups++[g] }) (fun x hx=>h x (List.mem_cons_of_mem _ hx)) (by show ((m.groups++[g])++gs).Nodup;rw [List.append_assoc];exact hd) (by show ((m.groups++[g])++gs).length≤4;rw [List.append_assoc];exact hl) (fun x hx=>by rcases List.mem_append.1 hx with hx | hx;exact hm x hx;exact List.mem_singleton.1 hx)
    refine ⟨met',h1,?_⟩
    show a3J ((b6v++g)::(gs.map (fun g=>b6v++g)++r)) met m=_
    rw [a1P (fun h=>by cases h) hc (by rw [hr];rintro (h | h | h);exact absurd h (by decide);exact h.2 rfl;cases h),hr,h2]
    show a3J r met' { m with groups:=(m.groups++[g])++gs }=_
    rw [List.append_assoc];rfl
theorem a7g {w W V:Bs} {H b:Bool} {r met:List Bs} {m m':Nd} {A:List Bs} (hw:w≠[58]) (hc:a3q 61 w=(W,V,H)) (hi:0≤a2B W H) (hA:∀ x∈met,x∈A) (hn:W∉A) (h1:b=true→a1r (a2B W H) m V=(m',true)) (h0:b=false→m=m') :
    ∃ met',(∀ x∈met',x∈A++[W])∧a3J (opt w b++r) met m=a3J r met' m':=by
  cases b with
  | false=>exact ⟨met,fun x hx=>List.mem_append.2 (.inl (hA x hx)),by rw [h0 rfl];rfl⟩
  | true =>
    refine ⟨met++[W],fun x hx=>by rcases List.mem_append.1 hx with hx | hx;exact List.mem_append.2 (.inl (hA x hx));exact List.mem_append.2 (.inr hx),?_⟩
    show a3J (w::r) met m=_
    rw [a1P hw hc (by rw [h1 rfl];rintro (h | h | h);exact absurd h (by omega);exact hn (hA _ h.1);cases h),h1 rfl]
theorem b0A {l:List Bs} (h0:0 < l.length) (h:∀ w∈l,nameV w=true) (hn:l.Nodup):a0G (joinC l)=some (false,l):=by
 have hne:l≠[]:=fun h=>by rw [h] at h0;exact absurd h0 (by decide)
 unfold a0G
 rw [if_neg ?_,b9V hne h hn];rfl
 intro h9
 have h8:=a6k hne (fun w hw b hb=>(b0S (h w hw) b hb).1)
 rw [h9] at h8
 have h8:([[42]]:List Bs)=l:=h8
 have:=h [42] (by rw [←h8];exact List.mem_singleton_self _)
 rw [←a6H] at this
 exact absurd this (by decide)
theorem b7n {L:Nat} {n:Nd} (h:NdOk L n):a2r (a8K n)=(n,true):=by
  obtain ⟨name,groups,inl,pick,leaf,attr,all,marks,expr⟩:=n
  obtain ⟨k1,k2,k3,k4,k5,k6,k7,k8,k9,k10,k11,k12⟩:=h
  show a3J (a8g ⟨name,groups,inl,pick,leaf,attr,all,marks,expr⟩++exW expr) [] ⟨name,[],false,false,true,0,false,[],[]⟩=_
  unfold a8g
  simp only [List.append_assoc]
  simp only at k1 k2 k3 k4 k5 k6 k7 k8 k9 k10 k11 k12
  obtain ⟨m1,a1,e1⟩:=b6r (n:=⟨name,groups,inl,pick,leaf,attr,all,marks,expr⟩) (gs:=groups) (r:=opt a3k inl++(opt a1y pick++(opt (a1F++([61]++itoa attr)) (decide (attr≠0))++(opt (a0P++[61,42]) all++(opt (a0P++([61]++joinC marks)) (decide (0 < marks.length))++(opt [58] (!leaf)++exW expr)))))) (met:=[]) (m:=⟨name,[],false,false,true,0,false,[],[]⟩) k3 k4 k2 (fun x hx=>by cases hx)
  refine e1.trans ?_
  obtain ⟨m2,a2,e2⟩:=a7g (w:=a3k) (W:=a3k) (V:=[]) (H:=false) (b:=inl) (r:=opt a1y pick++(opt (a1F++([61]++itoa attr)) (decide (attr≠0))++(opt (a0P++[61,42]) all++(opt (a0P++([61]++joinC marks)) (decide (0 < marks.length))++(opt [58] (!leaf)++exW expr))))) (met:=m1) (m:=⟨name,groups,false,false,true,0,false,[],[]⟩) (m':=⟨name,groups,inl,false,true,0,false,[],[]⟩) (A:=[a1o]) (by decide) (b1B (c2m (by decide))) (by decide) (fun x hx=>by rw [a1 x hx];exact List.mem_singleton_self _) (by decide) (fun hb=>by subst hb;rfl) (fun hb=>by subst hb;rfl)
  refine e2.trans ?_
  obtain ⟨m3,a3,e3⟩:=a7g (w:=a1y) (W:=a1y) (V:=[]) (H:=false) (b:=pick) (r:=opt (a1F++([61]++itoa attr)) (decide (attr≠0))++(opt (a0P++[61,42]) all++(opt (a0P++([61]++joinC marks)) (decide (0 < marks.length))++(opt [58] (!leaf)++exW expr)))) (met:=m2) (m:=⟨name,groups,inl,false,true,0,false,[],[]⟩) (m':=⟨name,groups,inl,pick,true,0,false,[],[]⟩) (A:=[a1o]++[a3k]) (by decide) (b1B (c2m (by decide))) (by decide) a2 (by decide) (fun hb=>by subst hb;rfl) (fun hb=>by subst hb;rfl)
  refine e3.trans ?_
  have hv:=a8G k5 k6
  obtain ⟨m4,a4,e4⟩:=a7g (w:=a1F++([61]++itoa attr)) (W:=a1F) (V:=itoa attr) (H:=true) (b:=decide (attr≠0)) (r:=opt (a0P++[61,42]) all++(opt (a0P++([61]++joinC marks)) (decide (0 < marks.length))++(opt [58] (!leaf)++exW expr))) (met:=m3) (m:=⟨name,groups,inl,pick,true,0,false,[],[]⟩) (m':=⟨name,groups,inl,pick,true,attr,false,[],[]⟩) (A:=[a1o]++[a3k]++[a1y]) (fun h=>by cases h) (a4n (w:=a1F) (itoa attr) (c2m (by decide))) (by decide) a3 (by decide) (fun hb=>by
    show ((⟨name,groups,inl,pick,true,(a2F (itoa attr)).getD 0,false,[],[]⟩:Nd),(a1g (itoa attr)).isSome)=_
    rw [hv.1,hv.2];rfl) (fun hb=>by
    have:attr=0:=Decidable.byContradiction fun h9=>by rw [decide_eq_true h9] at hb;cases hb
    rw [this])
  refine e4.trans ?_
  cases hall:all with
  | true =>
    have hk:=k10 hall
    subst hk
    obtain ⟨m5,a5,e5⟩:=a7g (w:=a0P++[61,42]) (W:=a0P) (V:=[42]) (H:=true) (b:=true) (r:=opt (a0P++([61]++joinC [])) (decide (0 < ([]:List Bs).length))++(opt [58] (!leaf)++exW expr)) (met:=m4) (m:=⟨name,groups,inl,pick,true,attr,false,[],[]⟩) (m':=⟨name,groups,inl,pick,true,attr,true,[],[]⟩) (A:=[a1o]++[a3k]++[a1y]++[a1F]) (fun h=>by cases h) (a4n (w:=a0P) [42] (c2m (by decide))) (by decide) a4 (by decide) (fun hb=>rfl) (fun hb=>by cases hb)
    refine e5.trans ?_
    show a3J (opt [58] (!leaf)++exW expr) m5 _=_
    cases hleaf:leaf with
    | true=>rw [k11 hleaf];rfl
    | false =>
      obtain ⟨e,f1,f2,f3⟩:=k12 hleaf
      show a3J ([58]::exW expr) m5 _=_
      rw [a2G,b5z,f1,c0q f2,b4D f2,f2];rfl
  | false =>
    show a3J (opt (a0P++([61]++joinC marks)) (decide (0 < marks.length))++(opt [58] (!leaf)++exW expr)) m4 _=_
    obtain ⟨m5,a5,e5⟩:=a7g (w:=a0P++([61]++joinC marks)) (W:=a0P) (V:=joinC marks) (H:=true) (b:=decide (0 < marks.length)) (r:=opt [58] (!leaf)++exW expr) (met:=m4) (m:=⟨name,groups,inl,pick,true,attr,false,[],[]⟩) (m':=⟨name,groups,inl,pick,true,attr,false,marks,[]⟩) (A:=[a1o]++[a3k]++[a1y]++[a1F]) (fun h=>by cases h) (a4n (w:=a0P) (joinC marks) (c2m (by decide))) (by decide) a4 (by decide) (fun hb=>by
      have hlv:=b0A (of_decide_eq_true hb) k7 k8
      show ((⟨name,groups,inl,pick,true,attr,((a0G (joinC marks)).getD (false,[])).1,((a0G (joinC marks)).getD (false,[])).2,[]⟩:Nd),(a0G (joinC marks)).isSome)=_
      rw [hlv];rfl) (fun hb=>by
      have:marks=[]:=List.eq_nil_of_length_eq_zero (by have:=of_decide_eq_false hb;omega)
      rw [this])
    refine e5.trans ?_
    cases hleaf:leaf with
    | true=>rw [k11 hleaf];rfl
    | false =>
      obtain ⟨e,f1,f2,f3⟩:=k12 hleaf
      show a3J ([58]::exW expr) m5 _=_
      rw [a2G,b5z,f1,c0q f2,b4D f2,f2];rfl
theorem a5R (m:Mk):markW m=a3s::m.name::(opt (a6t++[61]++itoa m.val) (decide (m.val≠0))++(opt (a2i++[61,42]) m.all++opt (a2i++[61]++joinC m.bars) (decide (0 < m.bars.length)))):=by
 unfold markW a4e a4R
 simp only [b3J,List.append_assoc,List.cons_append,List.nil_append]
theorem b0c {L:Nat} {m:Mk} (h:MkOk L m):∀ w∈markW m,a1A w=true:=by
 intro w hw
 rw [a5R] at hw
 rcases List.mem_cons.1 hw with rfl | hw
 ·decide
 rcases List.mem_cons.1 hw with rfl | hw
 ·exact a9j (a1z h.name).2.1 (a1z h.name).1
 rcases List.mem_append.1 hw with hw | hw
 ·exact a3I (fun _=>a6X (by decide) (by decide) (a5E h.lo h.hi).1) hw
 rcases List.mem_append.1 hw with hw | hw
 ·exact a3I (fun _=>by decide) hw
 ·exact a3I (fun _=>a6X (by decide) (by decide) (a6m h.mname)) hw
theorem b0R {w W V:Bs} {b:Bool} {r met:List Bs} {m m':Mk} {A:List Bs} (hc:a3q 61 w=(W,V,true)) (hA:∀ x∈met,x∈A) (hn:W∉A) (h1:b=true→a2s W m V=(m',true)) (h0:b=false→m=m') :
    ∃ met',(∀ x∈met',x∈A++[W])∧a5Z (opt w b++r) met m=a5Z r met' m':=by
  cases b with
  | false=>exact ⟨met,fun x hx=>List.mem_append.2 (.inl (hA x hx)),by rw [h0 rfl];rfl⟩
  | true =>
    refine ⟨met++[W],fun x hx=>by rcases List.mem_append.1 hx with hx | hx;exact List.mem_append.2 (.inl (hA x hx));exact List.mem_append.2 (.inr hx),?_⟩
    show a5Z (w::r) met m=_
    rw [a5J hc (by rw [h1 rfl];rintro (h | h | h);cases h;cases h;exact hn (hA _ h)),h1 rfl]
theorem b7m {L:Nat} {m:Mk} (h:MkOk L m):a3V (markW m)=(m,true):=by
  obtain ⟨name,val,all,bars⟩:=m
  obtain ⟨k1,k5,k6,k7,k8,k9,k10⟩:=h
  rw [a5R]
  show a5Z (opt (a6t++[61]++itoa val) (decide (val≠0))++(opt (a2i++[61,42]) all++opt (a2i++[61]++joinC bars) (decide (0 < bars.length)))) [] ⟨name,0,false,[]⟩=_
  simp only [List.append_assoc]
  simp only at k1 k5 k6 k7 k8 k9 k10
  have hv:=a8G k5 k6
  obtain ⟨m4,a4,e4⟩:=b0R (w:=a6t++([61]++itoa val)) (W:=a6t) (V:=itoa val) (b:=decide (val≠0)) (r:=opt (a2i++[61,42]) all++opt (a2i++([61]++joinC bars)) (decide (0 < bars.length))) (met:=[]) (m:=⟨name,0,false,[]⟩) (m':=⟨name,val,false,[]⟩) (A:=[]) (a4n (w:=a6t) (itoa val) (c2m (by decide))) (fun x hx=>hx) (by decide) (fun hb=>by
    show ((⟨name,(a2F (itoa val)).getD 0,false,[]⟩:Mk),(a1g (itoa val)).isSome)=_
    rw [hv.1,hv.2];rfl) (fun hb=>by
    have:val=0:=Decidable.byContradiction fun h9=>by rw [decide_eq_true h9] at hb;cases hb
    rw [this])
  refine e4.trans ?_
  cases hall:all with
  | true =>
    have hk:=k10 hall
    subst hk
    obtain ⟨m5,a5,e5⟩:=b0R (w:=a2i++[61,42]) (W:=a2i) (V:=[42]) (b:=true) (r:=[]) (met:=m4) (m:=⟨name,val,false,[]⟩) (m':=⟨name,val,true,[]⟩) (A:=[]++[a6t]) (a4n (w:=a2i) [42] (c2m (by decide))) a4 (by decide) (fun hb=>rfl) (fun hb=>by cases hb)
    exact e5
  | false =>
    show a5Z (opt (a2i++([61]++joinC bars)) (decide (0 < bars.length))) m4 _=_
    obtain ⟨m5,a5,e5⟩:=b0R (w:=a2i++([61]++joinC bars)) (W:=a2i) (V:=joinC bars) (b:=decide (0 < bars.length)) (r:=[]) (met:=m4) (m:=⟨name,val,false,[]⟩) (m':=⟨name,val,false,bars⟩) (A:=[]++[a6t]) (a4n (w:=a2i) (joinC bars) (c2m (by decide))) a4 (by decide) (fun hb=>by
      have hlv:=b0A (of_decide_eq_true hb) k7 k8
      show ((⟨name,val,((a0G (joinC bars)).getD (false,[])).1,((a0G (joinC bars)).getD (false,[])).2⟩:Mk),(a0G (joinC bars)).isSome)=_
      rw [hlv];rfl) (fun hb=>by
      have:bars=[]:=List.eq_nil_of_length_eq_zero (by have:=of_decide_eq_false hb;omega)
      rw [this])
    rw [List.append_nil] at e5
    exact e5
def a6L:List Bs→Nat
 | []=>0
 | w::r=>w.length+1+a6L r
theorem a6M:∀ a b:List Bs,a6L (a++b)=a6L a+a6L b
 | [],b=>(Nat.zero_add _).symm
 | x::a,b=>by show x.length+1+a6L (a++b)=x.length+1+a6L a+a6L b;rw [a6M a b];omega
theorem a7s:∀ l:List Bs,(joinL l).length≤a6L l
  | []=>Nat.le_refl _
  | [w]=>by show w.length≤w.length+1+0;omega
  | w :: v :: r => by
    have:=a7s (v::r)
    show (w++32::joinL (v::r)).length≤w.length+1+a6L (v::r)
    rw [List.length_append,List.length_cons];omega
theorem a3m (s:Bs) (b:Bool):a6L (opt s b)≤s.length+1:=by
 unfold opt;split
 ·exact Nat.le_refl _
 ·exact Nat.zero_le _
theorem b6n:∀ gs:List Bs,(∀ g∈gs,nameV g=true)→a6L (gs.map fun g=>b6v++g)≤19 * gs.length
  | [],_=>Nat.le_refl _
  | g :: gs, h => by
    have:=b6n gs (fun x hx=>h x (List.mem_cons_of_mem _ hx))
    have h2:=(a1z (h g (List.mem_cons_self ..))).2.2
    show (b6v++g).length+1+a6L (gs.map fun g=>b6v++g)≤19 * (gs.length+1)
    rw [List.length_append,show b6v.length=6 from rfl];omega
theorem b2x {L:Nat} {n:Nd} (h:NdOk L n):(joinL (nodeW n)).length≤150+11 * L:=by
  have h0:=a7s (nodeW n)
  rw [b6D] at h0 ⊢
  have h1:=(a1z h.name).2.2
  have h2:=b6n n.groups h.gname
  have h3:=h.glen
  have h4:=a3m a3k n.inl
  have h5:=a3m a1y n.pick
  have h6:=a3m (a1F++[61]++itoa n.attr) (decide (n.attr≠0))
  have h7:=a3m (a0P++[61,42]) n.all
  have h8:=a3m (a0P++[61]++joinC n.marks) (decide (0 < n.marks.length))
  have h9:=a3m [58] (!n.leaf)
  have h10:=a3m n.expr (decide (n.expr≠[]))
  have h11:=(a5E h.lo h.hi).2
  have h12:=h.mlen
  have h13:n.expr.length≤10 * L:=by
    cases hl:n.leaf with
    | true=>rw [h.leaf hl];exact Nat.zero_le _
    | false =>
      obtain ⟨e,q1,q2,q3⟩:=h.ex hl
      have:=(b1z q2).1
      rw [q1];omega
  have e:a6L (a0U::n.name::(a8g n++opt n.expr (decide (n.expr≠[]))))=5+(n.name.length+1+(a6L (a8g n)+a6L (opt n.expr (decide (n.expr≠[]))))):=by
    show 4+1+(n.name.length+1+a6L _)=_
    rw [a6M]
  have e2:a6L (a8g n)=a6L (n.groups.map fun g=>b6v++g)+(a6L (opt a3k n.inl)+(a6L (opt a1y n.pick)+(a6L (opt (a1F++[61]++itoa n.attr) (decide (n.attr≠0)))+(a6L (opt (a0P++[61,42]) n.all)+(a6L (opt (a0P++[61]++joinC n.marks) (decide (0 < n.marks.length)))+a6L (opt [58] (!n.leaf))))))):=by
    unfold a8g;simp only [a6M]
  simp only [List.length_append,List.length_cons,List.length_nil] at h4 h5 h6 h7 h8 h9
  omega
theorem b2M {L:Nat} {m:Mk} (h:MkOk L m):(joinL (markW m)).length≤150+11 * L:=by
 have h0:=a7s (markW m)
 rw [a5R] at h0 ⊢
 have h1:=(a1z h.name).2.2
 have h6:=a3m (a6t++[61]++itoa m.val) (decide (m.val≠0))
 have h7:=a3m (a2i++[61,42]) m.all
 have h8:=a3m (a2i++[61]++joinC m.bars) (decide (0 < m.bars.length))
 have h11:=(a5E h.lo h.hi).2
 have h12:=h.mlen
 have e:a6L (a3s::m.name::(opt (a6t++[61]++itoa m.val) (decide (m.val≠0))++(opt (a2i++[61,42]) m.all++opt (a2i++[61]++joinC m.bars) (decide (0 < m.bars.length)))))=5+(m.name.length+1+(a6L (opt (a6t++[61]++itoa m.val) (decide (m.val≠0)))+(a6L (opt (a2i++[61,42]) m.all)+a6L (opt (a2i++[61]++joinC m.bars) (decide (0 < m.bars.length)))))):=by
  show 4+1+(m.name.length+1+a6L _)=_
  rw [a6M,a6M]
 simp only [List.length_append,List.length_cons,List.length_nil] at h6 h7 h8
 omega
structure DcOk (c:Nat) (d:Dc):Prop where
 nodes:∀ n∈d.nodes,NdOk c n∧n.name≠sText
 nname:(d.nodes.map Nd.name).Nodup
 nlen:d.nodes.length≤24
 marks:∀ m∈d.marks,MkOk c m
 mname:(d.marks.map Mk.name).Nodup
 mlen:d.marks.length≤8
 len:(linesD d).length≤200 * (d.nodes.length+d.marks.length)+11 * c
theorem NdOk.le {L M:Nat} {n:Nd} (h:NdOk L n) (hl:L≤M):NdOk M n :=
 { h with mlen:=Nat.le_trans h.mlen hl,ex:=fun q=>by obtain ⟨e,q1,q2,q3⟩:=h.ex q;exact ⟨e,q1,q2,Nat.le_trans q3 hl⟩ }
theorem MkOk.le {L M:Nat} {m:Mk} (h:MkOk L m) (hl:L≤M):MkOk M m:={ h with mlen:=Nat.le_trans h.mlen hl }
theorem DcOk.le {L M:Nat} {d:Dc} (h:DcOk L d) (hl:L≤M):DcOk M d :=
 { h with nodes:=fun n hn=>⟨(h.nodes n hn).1.le hl,(h.nodes n hn).2⟩,marks:=fun m hm=>(h.marks m hm).le hl,len:=Nat.le_trans h.len (by omega) }
theorem b1u {α:Type} {l:List α} {f:α→Bs} {x:Bs}:(l.any fun o=>decide (f o=x))=true↔x∈l.map f:=by
 rw [List.any_eq_true,List.mem_map]
 constructor
 ·rintro ⟨o,h1,h2⟩;exact ⟨o,h1,of_decide_eq_true h2⟩
 ·rintro ⟨o,h1,h2⟩;exact ⟨o,h1,decide_eq_true h2⟩
theorem b0r {l:List Bs} {x:Bs} (h:l.Nodup) (hx:x∉l):(l++[x]).Nodup :=
 List.nodup_append.2 ⟨h,(by simp),fun a ha b hb=>by rw [List.mem_singleton.1 hb];rintro rfl;exact hx ha⟩
theorem c4s {c L:Nat} {d:Dc} {l:List Bs} (h:DcOk c d) (hj:(joinL l).length≤L) (hw:∀ w∈l,w.length≤L) (h0:(a1D d l).2=0):DcOk (c+L) (a1D d l).1:=by
 unfold a1D at h0 ⊢
 split at h0
 ·exact absurd h0 (by show ¬ (2:Int)=0;decide)
 rename_i h1
 rw [if_neg h1]
 have hn:nameV (l.getD 1 [])=true:=by
  cases hb:nameV (l.getD 1 []) with
  | true=>rfl
  | false=>exact absurd (.inr hb) h1
 split at h0
 ·rename_i h2
  rw [if_pos h2]
  split at h0
  ·exact absurd h0 (by show ¬ (2:Int)=0;decide)
  rename_i h3
  rw [if_neg h3]
  split at h0
  ·exact absurd h0 (by show ¬ (9:Int)=0;decide)
  rename_i h4
  rw [if_neg h4]
  split at h0
  ·exact absurd h0 (by show ¬ (4:Int)=0;decide)
  rename_i h5
  rw [if_neg h5]
  have ho:(a2r l).2=true:=by cases hb:(a2r l).2 with | true=>rfl | false=>exact absurd hb h3
  have hk:=c2e hn hj hw ho
  have ht:(a2r l).1.name≠sText:=fun h9=>h4 (.inl h9)
  have hx:(a2r l).1.name∉d.nodes.map Nd.name:=fun h9=>h4 (.inr (b1u.2 h9))
  have h9:=h.le (Nat.le_add_right c L)
  have hll:=b2x hk
  refine ⟨fun n hm=>?_,?_,?_,h9.marks,h9.mname,h9.mlen,?_⟩
  ·rcases List.mem_append.1 hm with hm | hm
   ·exact h9.nodes n hm
   ·rw [List.mem_singleton.1 hm];exact ⟨hk.le (Nat.le_add_left _ _),ht⟩
  ·show ((d.nodes++[_]).map Nd.name).Nodup
   rw [List.map_append];exact b0r h.nname hx
  ·show (d.nodes++[_]).length≤24
   have:=h.nlen
   rw [List.length_append,List.length_singleton];omega
  ·show (a1M d.marks++a2c (d.nodes++[_])).length≤200 * ((d.nodes++[_]).length+d.marks.length)+_
   have:=h.len
   unfold linesD at this
   rw [List.length_append] at this
   rw [a4b,List.length_append,List.length_append,List.length_append,List.length_append,List.length_singleton,List.length_singleton];omega
 ·rename_i h2
  rw [if_neg h2]
  split at h0
  ·rename_i h2'
   rw [if_pos h2']
   split at h0
   ·exact absurd h0 (by show ¬ (2:Int)=0;decide)
   rename_i h3
   rw [if_neg h3]
   split at h0
   ·exact absurd h0 (by show ¬ (9:Int)=0;decide)
   rename_i h4
   rw [if_neg h4]
   split at h0
   ·exact absurd h0 (by show ¬ (4:Int)=0;decide)
   rename_i h5
   rw [if_neg h5]
   have ho:(a3V l).2=true:=by cases hb:(a3V l).2 with | true=>rfl | false=>exact absurd hb h3
   have hk:=c1v hn hw ho
   have hx:(a3V l).1.name∉d.marks.map Mk.name:=fun h9=>h4 (b1u.2 h9)
   have h9:=h.le (Nat.le_add_right c L)
   have hll:=b2M hk
   refine ⟨h9.nodes,h9.nname,h9.nlen,fun n hm=>?_,?_,?_,?_⟩
   ·rcases List.mem_append.1 hm with hm | hm
    ·exact h9.marks n hm
    ·rw [List.mem_singleton.1 hm];exact hk.le (Nat.le_add_left _ _)
   ·show ((d.marks++[_]).map Mk.name).Nodup
    rw [List.map_append];exact b0r h.mname hx
   ·show (d.marks++[_]).length≤8
    have:=h.mlen
    rw [List.length_append,List.length_singleton];omega
   ·show (a1M (d.marks++[_])++a2c d.nodes).length≤200 * (d.nodes.length+(d.marks++[_]).length)+_
    have:=h.len
    unfold linesD at this
    rw [List.length_append] at this
    rw [a3R,List.length_append,List.length_append,List.length_append,List.length_append,List.length_singleton,List.length_singleton];omega
  ·exact absurd h0 (by show ¬ (2:Int)=0;decide)
def c1L:List Bs→Nat
 | []=>0
 | w::r=>w.length+c1L r
theorem b0I (c:UInt8):∀ s:Bs,c1L (a0g c s)≤s.length
  | []=>Nat.le_refl _
  | b :: l => by
    have ih:=b0I c l
    have hc:=a3P c l
    by_cases h:b=c
    · have e:a0g c (b::l)=[]::a0g c l:=by simp [a0g,h]
      rw [e];show 0+c1L (a0g c l)≤l.length+1;omega
    · have e:a0g c (b::l)=(b::(a0g c l).headD [])::(a0g c l).tail:=by simp [a0g,h]
      rw [hc] at ih
      have ih:((a0g c l).headD []).length+c1L (a0g c l).tail≤l.length:=ih
      rw [e];show ((a0g c l).headD []).length+1+c1L (a0g c l).tail≤l.length+1;omega
theorem a7c:∀ l:List Bs,c1L l.dropLast≤c1L l
 | []=>Nat.le_refl _
 | [w]=>Nat.zero_le _
 | w::v::r=>Nat.add_le_add_left (a7c (v::r)) _
theorem b1e:∀ {ls:List Bs} {i c:Nat} {d:Dc},DcOk c d→(a1W ls i d).2.2=0→DcOk (c+c1L ls) (a1W ls i d).1
  | [],i,c,d,h,_=>h
  | s :: r, i, c, d, h, h0 => by
    have e:a1W (s::r) i d=match a1C s with
      | none=>(Dc.zero,((i+1:Nat):Int),2)
      | some l=>if l=[] then a1W r (i+1) d else if (a1D d l).2=0 then a1W r (i+1) (a1D d l).1 else (Dc.zero,((i+1:Nat):Int),(a1D d l).2):=rfl
    rw [e] at h0 ⊢
    show DcOk (c+(s.length+c1L r)) _
    cases hw:a1C s with
    | none=>rw [hw] at h0;exact absurd h0 (by show ¬ (2:Int)=0;decide)
    | some l =>
      rw [hw] at h0
      simp only at h0 ⊢
      have hwk:=a6Z hw
      have hj:(joinL l).length≤s.length:=by
        unfold a1C at hw
        split at hw
        · injection hw with hw;subst hw;exact Nat.zero_le _
        · split at hw
          · injection hw with hw;subst hw;rw [a5M];exact Nat.le_refl _
          · cases hw
      split at h0
      · rename_i h1
        rw [if_pos h1]
        exact (b1e h h0).le (by omega)
      · rename_i h1
        rw [if_neg h1]
        split at h0
        · rename_i h2
          rw [if_pos h2]
          have:=b1e (c4s h hj hwk.2 h2) h0
          rwa [Nat.add_assoc] at this
        · rename_i h2;exact absurd h0 h2
theorem c2F {s:Bs} (h:(declV s).2.2=0):DcOk s.length (declV s).1:=by
 have h0:DcOk 0 Dc.zero:=⟨(fun n hn=>by cases hn),List.nodup_nil,Nat.zero_le _,(fun n hn=>by cases hn),List.nodup_nil,Nat.zero_le _,Nat.zero_le _⟩
 unfold declV at h ⊢
 split at h
 ·rename_i h1;exact absurd h h1
 ·rename_i h1
  rw [if_neg h1]
  refine (b1e h0 h).le ?_
  rw [Nat.zero_add]
  unfold a1v
  split
  ·exact Nat.zero_le _
  ·split
   ·exact Nat.zero_le _
   ·split
    ·exact Nat.le_trans (a7c _) (b0I 10 s)
    ·exact Nat.zero_le _
theorem b9C {α:Type} {l:List α} {f:α→Bs} {x:Bs} (h:x∉l.map f):¬ (l.any fun o=>decide (f o=x))=true:=fun h9=>h (b1u.1 h9)
theorem b8s {L:Nat} {d:Dc} {n:Nd} (hn:NdOk L n) (ht:n.name≠sText) (hx:n.name∉d.nodes.map Nd.name) (hl:d.nodes.length < 24):a1D d (a8K n)=(⟨d.nodes++[n],d.marks⟩,0):=by
 have hb:=b7n hn
 have h1:¬ ((a8K n).length < 2∨nameV ((a8K n).getD 1 [])=false):=by
  rintro (h | h)
  ·unfold a8K at h;simp only [List.length_cons] at h;omega
  ·have h:nameV n.name=false:=h
   rw [hn.name] at h;cases h
 have h2:(a8K n).getD 0 []=a0U:=rfl
 unfold a1D
 rw [if_neg h1,if_pos h2,hb,if_neg (fun h=>by cases h),if_neg (by rintro (h | h);exact ht h;exact b9C hx h),if_neg (by omega)]
theorem b9v {L:Nat} {d:Dc} {m:Mk} (hm:MkOk L m) (hx:m.name∉d.marks.map Mk.name) (hl:d.marks.length < 8):a1D d (markW m)=(⟨d.nodes,d.marks++[m]⟩,0):=by
 have hb:=b7m hm
 have e:=a5R m
 have h1:¬ ((markW m).length < 2∨nameV ((markW m).getD 1 [])=false):=by
  rintro (h | h)
  ·rw [e] at h;simp only [List.length_cons] at h;omega
  ·rw [e] at h
   have h:nameV m.name=false:=h
   rw [hm.name] at h;cases h
 have h0:(markW m).getD 0 []=a3s:=by rw [e];rfl
 unfold a1D
 rw [if_neg h1,if_neg (by rw [h0];decide),if_pos h0,hb,if_neg (fun h=>by cases h),if_neg (b9C hx),if_neg (by omega)]
theorem b7o {L:Nat} {m:Mk} (h:MkOk L m):a1C (joinL (markW m))=some (markW m):=by
 have hw:=b0c h
 rw [a5R] at hw ⊢
 exact b0q hw
theorem b6Z {L:Nat} {n:Nd} (h:NdOk L n):a1C (joinL (nodeW n))=some (a8K n):=by
 rw [b0u];exact b0q (b0a h)
theorem b5v {s:Bs} {l r:List Bs} {i:Nat} {d d':Dc} (h:a1C s=some l) (h0:l≠[]) (ha:a1D d l=(d',0)):a1W (s::r) i d=a1W r (i+1) d':=by
 show (match a1C s with
  | none=>(Dc.zero,((i+1:Nat):Int),2)
  | some l=>if l=[] then a1W r (i+1) d else if (a1D d l).2=0 then a1W r (i+1) (a1D d l).1 else (Dc.zero,((i+1:Nat):Int),(a1D d l).2))=_
 rw [h]
 show (if l=[] then _ else _)=_
 rw [if_neg h0,ha]
 show (if (0:Int)=0 then _ else _)=_
 rw [if_pos rfl]
theorem b3P {a b:List Bs} {x:Bs} (h:(a++x::b).Nodup):x∉a∧((a++[x])++b).Nodup :=
 ⟨fun h9=>(List.nodup_append.1 h).2.2 x h9 x (List.mem_cons_self ..) rfl,by rw [List.append_assoc];exact h⟩
theorem a8D {L:Nat} {rest:List Bs}:∀ {ms:List Mk} {d:Dc} {i:Nat},(∀ m∈ms,MkOk L m)→(d.marks.map Mk.name++ms.map Mk.name).Nodup→d.marks.length+ms.length≤8→∃ j,a1W (ms.map (fun m=>joinL (markW m))++rest) i d=a1W rest j ⟨d.nodes,d.marks++ms⟩
  | [],d,i,_,_,_=>⟨i,by rw [List.append_nil];rfl⟩
  | m :: ms, d, i, h, hd, hl => by
    have hx:=b3P hd
    obtain ⟨j,hj⟩:=a8D (L:=L) (rest:=rest) (ms:=ms) (d:=⟨d.nodes,d.marks++[m]⟩) (i:=i+1) (fun x hx=>h x (List.mem_cons_of_mem _ hx)) (by show ((d.marks++[m]).map Mk.name++_).Nodup;rw [List.map_append];exact hx.2) (by show (d.marks++[m]).length+ms.length≤8;rw [List.length_append,List.length_singleton];rw [List.length_cons] at hl;omega)
    refine ⟨j,?_⟩
    show a1W (joinL (markW m)::(ms.map (fun m=>joinL (markW m))++rest)) i d=_
    have hm:=h m (List.mem_cons_self ..)
    rw [b5v (b7o hm) (by rw [a5R];exact fun h=>by cases h) (b9v hm hx.1 (by rw [List.length_cons] at hl;omega)),hj]
    show a1W rest j ⟨d.nodes,(d.marks++[m])++ms⟩=_
    rw [List.append_assoc];rfl
theorem a9l {L:Nat}:∀ {ns:List Nd} {d:Dc} {i:Nat},(∀ n∈ns,NdOk L n∧n.name≠sText)→(d.nodes.map Nd.name++ns.map Nd.name).Nodup→d.nodes.length+ns.length≤24→a1W (ns.map (fun n=>joinL (nodeW n))) i d=(⟨d.nodes++ns,d.marks⟩,0,0)
  | [],d,i,_,_,_=>by rw [List.append_nil];rfl
  | n :: ns, d, i, h, hd, hl => by
    have hx:=b3P hd
    have hj:=a9l (L:=L) (ns:=ns) (d:=⟨d.nodes++[n],d.marks⟩) (i:=i+1) (fun x hx=>h x (List.mem_cons_of_mem _ hx)) (by show ((d.nodes++[n]).map Nd.name++_).Nodup;rw [List.map_append];exact hx.2) (by show (d.nodes++[n]).length+ns.length≤24;rw [List.length_append,List.length_singleton];rw [List.length_cons] at hl;omega)
    show a1W (joinL (nodeW n)::(ns.map (fun n=>joinL (nodeW n)))) i d=_
    have hn:=h n (List.mem_cons_self ..)
    rw [b5v (b6Z hn.1) (fun h=>by cases h) (b8s hn.1 hn.2 hx.1 (by rw [List.length_cons] at hl;omega)),hj]
    show ((⟨(d.nodes++[n])++ns,d.marks⟩:Dc),(0:Int),(0:Int))=_
    rw [List.append_assoc];rfl
def c1l (d:Dc):List Bs:=d.marks.map (fun m=>joinL (markW m))++d.nodes.map fun n=>joinL (nodeW n)
theorem b7k (d:Dc):linesD d=(c1l d).flatMap fun w=>w++[10]:=by
 unfold linesD a1M a2c c1l
 rw [List.flatMap_append,List.flatMap_map,List.flatMap_map]
theorem b0x {c:Nat} {d:Dc} (h:DcOk c d) (hc:c≤5000):(linesD d).length≤65536∧a1v (linesD d)=(c1l d,0,0):=by
 have hl:(linesD d).length≤65536:=by have:=h.len;have:=h.nlen;have:=h.mlen;omega
 refine ⟨hl,?_⟩
 have hw:∀ w∈c1l d,∀ b∈w,b≠10:=by
  intro w hw
  unfold c1l at hw
  rcases List.mem_append.1 hw with hw | hw
  ·obtain ⟨m,hm,rfl⟩:=List.mem_map.1 hw
   exact a7p (b0c (h.marks m hm))
  ·obtain ⟨n,hn,rfl⟩:=List.mem_map.1 hw
   show ∀ b∈joinL (nodeW n),b≠10
   rw [b0u]
   exact a7p (b0a (h.nodes n hn).1)
 have hs:=a8V hw
 rw [←b7k] at hs
 unfold a1v
 rw [if_neg (by omega)]
 by_cases h0:linesD d=[]
 ·rw [if_pos h0]
  rw [h0] at hs
  have hs:([]:List Bs)++[[]]=c1l d++[[]]:=hs
  rw [←(List.append_inj' hs rfl).1]
 ·rw [if_neg h0]
  have e:(a0g 10 (linesD d)).getLast (a2a 10 _)=[]:=by
   have:∀ (l:List Bs) (hl:l≠[]),l=c1l d++[[]]→l.getLast hl=[]:=by rintro l hl rfl;simp
   exact this _ _ hs
  rw [if_pos e,hs,List.dropLast_concat]
theorem b7O {c:Nat} {d:Dc} (h:DcOk c d) (hc:c≤5000):declV (linesD d)=(d,0,0):=by
 have hl:=(b0x h hc).2
 unfold declV
 rw [hl]
 show (if (0:Int)≠0 then _ else a1W (c1l d) 0 Dc.zero)=_
 rw [if_neg (fun h=>h rfl)]
 unfold c1l
 obtain ⟨j,hj⟩:=a8D (rest:=d.nodes.map fun n=>joinL (nodeW n)) (d:=Dc.zero) (i:=0) h.marks (by show ([]++_).Nodup;exact h.mname) (by show 0+_≤8;rw [Nat.zero_add];exact h.mlen)
 rw [hj,a9l h.nodes (by show ([]++_).Nodup;exact h.nname) (by show 0+_≤24;rw [Nat.zero_add];exact h.nlen)]
 rfl
theorem b8M {α:Type} [Inhabited α] {l:List α} {k:Nat} (h:k < l.length):l.getD k default∈l:=by
 rw [List.getD_eq_getElem?_getD,List.getElem?_eq_getElem h];exact List.getElem_mem h
theorem c6y {c:Nat} {d:Dc} (h:DcOk c d) (hs:c2S d) (hc:c≤5000):DcB d:=by
  obtain ⟨s1,s2,s3,s4⟩:=hs
  refine ⟨s1,s2,fun k hk=>?_,fun k hk=>?_,by have:=(b0x h hc).1;omega⟩
  · have hn:=(h.nodes _ (b8M hk)).1
    have hl:=b2x hn
    have h3:=s3 k
    generalize d.nodes.getD k default=n at hn hl h3
    have hx:n.expr.length≤10 * c:=by
      cases hq:n.leaf with
      | true=>rw [hn.leaf hq];exact Nat.zero_le _
      | false =>
        obtain ⟨e,q1,q2,q3⟩:=hn.ex hq
        have:=(b1z q2).1
        rw [q1];omega
    have hnm:=(a1z hn.name).2.2
    have hlo:=hn.lo
    have hhi:=hn.hi
    have hg:=hn.glen
    have hj:=hn.mlen
    refine ⟨by omega,by omega,fun k=>?_,by omega,by omega,h3.2,by omega,by omega,by omega⟩
    rcases Nat.lt_or_ge k n.groups.length with h9 | h9
    · have:n.groups.getD k []∈n.groups:=by rw [List.getD_eq_getElem?_getD,List.getElem?_eq_getElem h9];exact List.getElem_mem h9
      have:=(a1z (hn.gname _ this)).2.2
      omega
    · rw [List.getD_eq_getElem?_getD,List.getElem?_eq_none h9];exact Nat.zero_le _
  · have hm:=h.marks _ (b8M hk)
    have hl:=b2M hm
    have h4:=s4 k
    generalize d.marks.getD k default=m at hm hl h4
    have hnm:=(a1z hm.name).2.2
    have hlo:=hm.lo
    have hhi:=hm.hi
    have hj:=hm.mlen
    exact ⟨by omega,by omega,by omega,h4,by omega,by omega⟩
theorem b7h {l:List Mk} (h:a1M l=[]):l=[]:=by
 cases l with
 | nil=>rfl
 | cons m r=>exact absurd h (by show (joinL (markW m)++[10])++a1M r≠[];simp)
theorem b7H {l:List Nd} (h:a2c l=[]):l=[]:=by
 cases l with
 | nil=>rfl
 | cons m r=>exact absurd h (by show (joinL (nodeW m)++[10])++a2c r≠[];simp)
theorem a9V (s:Bs) (hs:s.length≤5000) (h:(declV s).2.2=0):BackP (declV s).1:=by
 have hok:=c2F h
 refine ⟨c6y hok (a4Y s) hs,b7O hok hs,fun h0=>?_⟩
 unfold linesD at h0
 have:=List.append_eq_nil_iff.1 h0
 exact ⟨b7H this.2,b7h this.1⟩
end Go.Proofs.YtjdmfohncgkdoaaGreatDoor
namespace Go.Proofs.YtjdmfohncgkdoaaGreatDoor
set_option linter.unusedSimpArgs false
set_option linter.unusedVariables false
open Go.ChangeShapes Go.WideShapes Go.ChangeAt Go.RowKit Go.Deep
section
variable {H:Type} {encH:TypeId×Value→H} {P:Program} {w:World} {base:Nat} {spare:Nat→Bool} {held:Bool}
end
end Go.Proofs.YtjdmfohncgkdoaaGreatDoor
namespace Go.Proofs.YtjdmfohncgkdoaaGreatDoor
set_option linter.unusedSimpArgs false
set_option linter.unusedVariables false
open Go.RowKit
theorem b1a (W:World) (hL:LibW W) (s:ByteArray) (hs:s.size≤maxLen) :
  Calls Tryz.prog 5 #[.string s] W fun e w'=>e=.returned (.bool true)∧Below W.heap.size W w':=by
 have hs':s.data.toList.length≤9223372036854775807:=by have:s.size=s.data.toList.length:=rfl;rw [←this];unfold maxLen at hs;omega
 exact c1m (b7x s.data.toList hs' (a9V s.data.toList)) W [.string s] ⟨.imm _,trivial⟩ hL
set_option maxRecDepth 100000
theorem a8x {W:World} {l:List (String×DataW Unit)} (h:laidMetH Tryz.prog l W) (hl:(l.all fun x=>x.2.handleName?.isNone)=true) (n:String) (d:DataW Unit) (hf:l.filter (fun x=>x.1 == n)=[(n,d)]):laidMet Tryz.prog [(n,d)] W:=by
 rw [MakeChecks.laidMetH_plain _ _ _ hl] at h
 have:=laidMet.filter (fun x=>x.1 == n) h
 rwa [hf] at this
theorem b2t {W:World} {n:String} {name:String} {d:DataW Unit} {g:Nat} {t:TypeId} {ms:Array (String×TypeId)} (hg:Tryz.prog.globalNamed n=some g) (hty:(Tryz.prog.globals[g]?).map (·.type)=some t) (ht:Tryz.prog.underlying t=some (.interface ms))
  (h:laidMet Tryz.prog [(n,.iface name d)] W):∃ tp p,W.var? Tryz.prog n=some #[.iface tp p]:=by
 obtain ⟨ps,⟨g',t',cs,fuel,p,q,hg',ht',hvar,hd,_,_⟩,_⟩:=h
 obtain rfl:=Option.some.inj (hg.symm.trans hg')
 obtain rfl:=Option.some.inj (hty.symm.trans ht')
 obtain ⟨f1,u,v,hc,_⟩:=iface_of_trod ht hd
 refine ⟨u,v,?_⟩
 rw [hvar]
 congr 1
 apply Array.ext'
 exact hc
theorem b1q {H:Type} {enc:TypeId×Value→H} {a:Assume} {C:Checked} {os:Os} {f:FuncId} {fn:Func} {s:ChangeSpec} {conds:List PathCond} {apart fresh handsOn again:Bool} {X:World→Array Value→Prop}
  (hX:∀ (w w':World) (args:Array Value),w.heap=w'.heap→X w args→X w' args)
  (own:ownKnob C.prog.godebug=none) (started:os.Started) (noInit:C.prog.inits.idxOf? f=none) (hfn:C.prog.funcs[f]?=some fn)
  (wit:∃ (w:World) (tape:Tape) (i:Input),w.os=os∧(w.forCall tape i).Shaped C.prog∧i.vars=[]∧Input.okWide C.prog (w.forCall tape i) .any w.heap.size f i ∧
   ((s.pre enc C.prog fn conds apart (w.forCall tape i).memory i.args∧X (w.forCall tape i).memory i.args)∧sizedMet enc C.prog fn (OpenSpec.ofChange s) apart (w.forCall tape i).memory i.args)∧a.holds C.prog (lone (Frame.enter C.prog f i.args .normal) [] (w.forCall tape i)))
  (con:∀ (W:World) (base:Nat) (args:Array Value) (ds gs:List (DataW H)) (before:List MemPlace),
   (∀ (j:Nat) t v,fn.params[j]?=some t→args[j]?=some v→Value.okWide C.prog W .any base t v) →
   DataW.Whole enc C.prog fn.params.toList s.vars apart W args.toList ds gs before →
   conds.all (PathCond.test C.prog ⟨fn.params.toList,ds,s.plain.varTypes C.prog,gs⟩)=true→X W args→W.ShapedOpen C.prog →
   Calls C.prog f args W fun e W'=>∃ v,e=.returned v∧s.post enc C.prog fn apart fresh handsOn again W args v W') :
  ReturnsInHanded a C os f .any (fun w args=>(s.pre enc C.prog fn conds apart w args∧X w args)∧sizedMet enc C.prog fn (OpenSpec.ofChange s) apart w args) (s.post enc C.prog fn apart fresh handsOn again):=by
 refine returnsInHanded_of_calls own started noInit wit fun w tape i _ hsh _ hok hpre _=>?_
 obtain ⟨_,_,_,fn',hfn',_,_,_,_,hval⟩:=hok
 obtain rfl:fn'=fn:=Option.some.inj (hfn'.symm.trans hfn)
 obtain ⟨⟨⟨ds,gs,before,hw,hc⟩,hx⟩,_⟩:=hpre
 refine (con (w.forCall tape i) w.heap.size i.args ds gs before hval (DataW.Whole.of_heap (w':=w.forCall tape i) (by rfl) hw) hc (hX _ _ _ (by rfl) hx) hsh).mono fun e W' ⟨v,he,hp⟩=>?_
 subst he
 exact ChangeSpec.post_blind hp
theorem c6A {W:World} (hs:W.ShapedOpen Tryz.prog):∃ m,W.cell? ⟨0,0,none⟩=some (.int .i64 m) :=
 cell_of_shapedOpen_int (zero:=#[.int .i64 0]) (t:=3) (k:=.i64) hs (of_decide_eq_true (by kernel_rfl)) (by kernel_rfl) rfl (by kernel_rfl) (by kernel_rfl) Tryz.underlying3
theorem c4v {W:World} {l:List (String×DataW Unit)} (hs:W.ShapedOpen Tryz.prog) (h:laidMetH Tryz.prog l W) (hl:(l.all fun x=>x.2.handleName?.isNone)=true)
  (h1:l.filter (fun x=>x.1 == "internal/strconv.uint64pow10")=[("internal/strconv.uint64pow10", Rows.laid_internal_strconv_uint64pow10)])
  (h2:l.filter (fun x=>x.1 == "strconv.ErrSyntax")=[("strconv.ErrSyntax", Rows.laid_strconv_ErrSyntax)])
  (h3:l.filter (fun x=>x.1 == "strconv.ErrRange")=[("strconv.ErrRange", Rows.laid_strconv_ErrRange)])
  (h4:l.filter (fun x=>x.1 == "math/bits.deBruijn64tab")=[("math/bits.deBruijn64tab", Rows.laid_math_bits_deBruijn64tab)]):LibW W:=by
 have t:=a8x h hl _ _ h1
 have a:=a8x h hl _ _ h2
 have b:=a8x h hl _ _ h3
 have t4:=a8x h hl _ _ h4
 have t4':Lib.TabIs Tryz.prog W "math/bits.deBruijn64tab" .u8 (Lib.deBruijn64tab.map (fun n:Nat=>(n:Int))) :=
  Lib.tabIs_of_head (zs:=Lib.deBruijn64tab.map (fun n:Nat=>(n:Int))) (k:=.u8) (g:=7) (t:=238) (e:=5) (n:=64) (by kernel_rfl) (by kernel_rfl) Tryz.underlying238 Tryz.underlying5 (by kernel_rfl) (by kernel_rfl) t4
 have t':Lib.TabIs Tryz.prog W "internal/strconv.uint64pow10" .u64 Lib.pow10Tab :=
  Lib.tabIs_of_head (zs:=Lib.pow10Tab) (k:=.u64) (g:=3) (t:=222) (e:=136) (n:=20) (by kernel_rfl) (by kernel_rfl) Tryz.underlying222 Tryz.underlying136 (by kernel_rfl) (by kernel_rfl) t
 have a':=b2t (g:=4) (t:=69) (by kernel_rfl) (by kernel_rfl) Tryz.underlying69 a
 have b':=b2t (g:=5) (t:=69) (by kernel_rfl) (by kernel_rfl) Tryz.underlying69 b
 have lt:∀ {n:String} {g:Nat} {x:Array Value},Tryz.prog.globalNamed n=some g→W.var? Tryz.prog n=some x→g < W.heap.size:=by
  intro n g x hg hv
  unfold World.var? at hv
  rw [hg] at hv
  simp only [Option.bind_some] at hv
  rcases Nat.lt_or_ge g W.heap.size with h | h
  ·exact h
  ·rw [Array.getElem?_eq_none h] at hv;cases hv
 have m':=c6A hs
 refine ⟨fun k hk=>?_,fun _=>t',fun _=>a',fun _=>b',fun g hg=>by
  obtain rfl:=Option.some.inj ((show Tryz.prog.globalNamed "internal/bytealg.MaxLen" = some 0 by kernel_rfl).symm.trans hg)
  exact m',fun _=>t4'⟩
 obtain ⟨n,hn,hg⟩:=hk
 simp only [a4g,List.mem_cons,List.not_mem_nil,or_false] at hn
 rcases hn with rfl | rfl | rfl | rfl | rfl
 ·exact lt hg t'
 ·obtain ⟨_,_,a'⟩:=a';exact lt hg a'
 ·obtain ⟨_,_,b'⟩:=b';exact lt hg b'
 ·obtain rfl:=Option.some.inj ((show Tryz.prog.globalNamed "internal/bytealg.MaxLen" = some 0 by kernel_rfl).symm.trans hg)
  obtain ⟨m,hm⟩:=m'
  exact World.block_lt_of_cell? W _ hm
 ·exact lt hg t4'
theorem c3B {W:World} (hs:W.ShapedOpen Tryz.prog) (h:laidMetH Tryz.prog Rows.declBackRow.laid W):LibW W:=c4v hs h (by kernel_rfl) (by kernel_rfl) (by kernel_rfl) (by kernel_rfl) (by kernel_rfl)
end Go.Proofs.YtjdmfohncgkdoaaGreatDoor
