/-
  The signs of an expression, by the program.
-/
import Derived.Test.YtjdmfohncgkdoaaGreatDoorExprS
import Derived.Test.YtjdmfohncgkdoaaGreatDoorLexB
import Derived.Lib.Split
import Derived.Lib.SplitLaws
import Derived.Lib.IndexBytes
import Derived.Lib.Join
import Derived.Test.YtjdmfohncgkdoaaGreatDoorHq4
import Derived.Shelf.Strings.Search3
import Derived.Shelf.Strings.Cut
import Derived.Test.YtjdmfohncgkdoaaGreatDoorProg
import Derived.Shelf.Strings.OnBuilder
import Derived.Shelf.Strings.Split
namespace Go.Proofs.YtjdmfohncgkdoaaGreatDoor
set_option linter.unusedSimpArgs false
set_option linter.unusedVariables false
set_option maxRecDepth 100000
set_option maxHeartbeats 4000000
open Go.RowKit
@[reducible] def b0S (g:Nat) (l:List Sg):HObj:=⟨g,l.length,5,149,0,a9y l⟩
@[reducible] def shF (e:List Pt) (g2 n:Nat):Nat→Nat→HV:=fun _ j=>match j with | 0=>a5N e | _=>.os 9002 g2 0 n
@[reducible] def shO (g:Nat) (e:List Pt) (g2 n:Nat):HObj:=⟨g,1,2,153,0,shF e g2 n⟩
@[reducible] def c6v (e:List Pt) (g:Nat) (o:List Sg):HEnd→List (Nat×HObj)→Nat→Prop:=a4W (fun (_:Nat) _=>True) (fun _=>.tup 0 fun _=>default) (fun g'=>[(9001,shO g e g' o.length),(9002,b0S g' o)])
@[reducible] def c0a (e:List Pt) (b:Nat) (t:T):Prop:=∀ c g g2 (out:List Sg) (bin:Bool),out.length+(a1n bin t.sig).length≤1000000→a3c Tryz.prog 82 c [.pt 9001 g 0 0,a0h ((b+t.size - 1:Nat):Int),a0s bin] [(9001,shO g e g2 out.length),(9002,b0S g2 out)] (c6v e g (out++a1n bin t.sig))
theorem b4Q {kp sh:List (Nat×HObj)} {g g2 n n':Nat} {e:List Pt} {o:HObj} (h:hget kp 9002=some o) (hg:o.g=g2) (hn:n=n'):OKz kp sh (shO g e g2 n) (shO g e g2 n'):=by
 subst hn;exact b0T (.fz _ _ (show Fz sh (a5N e) (a5N e) from Frz.fz)) (.os _ _ _ _ _ h hg)
theorem b0j {kp sh:List (Nat×HObj)} {g:Nat} {l l':List Sg} (h:l=l'):OKz kp sh (b0S g l) (b0S g l'):=by subst h;exact .of fun i j _ _=>.fz _ _ (b3K _ j)
theorem a5e {x:Sg} {f:Nat→HV} (h0:Sb (f 0) (sgF x 0)) (h1:Sb (f 1) (sgF x 1)) (h2:Sb (f 2) (sgF x 2)) (h3:Sb (f 3) (sgF x 3)) (h4:Sb (f 4) (sgF x 4)):∀ j,j < 5→Sb (f j) (sgF x j):=fun j hj=>by
 match j,hj with
 | 0,_=>exact h0
 | 1,_=>exact h1
 | 2,_=>exact h2
 | 3,_=>exact h3
 | 4,_=>exact h4
theorem b0m {e:List Pt} {j k:Nat} {x:Pt} (hj:j=k) (h:e.getD k default=x):ldv true 5 (b4R e j) 0=ptH x:=by subst hj;subst h;rfl
theorem a2T {e:List Pt} {j k:Nat} {x:Int} (hj:j=k) (h:(e.getD k default).kind=x):ldv false 1 (b4R e j) 0=a0h x:=by subst hj;subst h;rfl
theorem a9S {kp sh:List (Nat×HObj)} {o o':List Sg} {x:Sg} {g n ty:Nat} {f:Nat→Nat→HV} (ho:o++[x]=o') (hn:n=o.length:=by rfl) (h0:f 0 0=a0h x.kind:=by rfl) (h1:f 0 1=a0h x.at_:=by rfl) (h2:f 0 2=a0h x.low:=by rfl) (h3:f 0 3=a0h x.high:=by rfl) (h4:f 0 4=a0p x.name:=by rfl):OKz kp sh ⟨g,n+1,5,ty,0,cat n (a9y o) f⟩ ⟨g,o'.length,5,ty,0,a9y o'⟩:=by
 subst hn;subst ho
 refine ⟨rfl,by simp,rfl,rfl,Nat.le_refl _,fun i j hi hj=>.fz _ _ ?_,fun h=>absurd h (Nat.not_lt_zero _)⟩
 show Fz sh (cat o.length (a9y o) f i j) (sgF ((o++[x]).getD i default) j)
 by_cases h':i < o.length
 ·rw [a7u h',a4E h'];exact b3K _ j
 ·have hi':i=o.length:=by simp only at hi;omega
  subst hi'
  rw [a7l (Nat.le_refl _),Nat.sub_self,a2E]
  match j,hj with
  | 0,_=>rw [h0];exact .imm _
  | 1,_=>rw [h1];exact .imm _
  | 2,_=>rw [h2];exact .imm _
  | 3,_=>rw [h3];exact .imm _
  | 4,_=>rw [h4];exact .imm _
theorem b9C (e:List Pt) (b:Nat) (he:e.length≤100000) (s:List UInt8) (hat:AtP e b (T.flat b (T.name s))):c0a e b (T.name s):=by
 intro c g g2 out bin hb
 have htop:=a3Y hat
 have hwl:=a3w bin (T.name s).sig
 have hw1:bin=true→a1n bin (T.name s).sig=[(⟨2,0,0,0,[]⟩:Sg)]++(T.name s).sig++[(⟨3,0,0,0,[]⟩:Sg)]:=fun h=>by rw [h];rfl
 have hw0:bin=false→a1n bin (T.name s).sig=(T.name s).sig:=fun h=>by rw [h];rfl
 have hlw1:bin=true→(a1n bin (T.name s).sig).length=(T.name s).sig.length+2:=fun h=>by rw [hw1 h,List.length_append,List.length_append];show 1+_+1=_;omega
 have hsp:=T.size_pos (T.name s)
 refine a0v Tryz.func82 rfl kr _ _ _ _ rfl 158 rfl rfl (fun X ok hX=>?_)
 refine ru 6 ?_
 refine wdc (fun hr0 hc0=>?_) (fun hr0 hc0=>?_)
 ·skip
  have ho1:(out++[(⟨2,0,0,0,[]⟩:Sg)]).length=out.length+1:=(by simp);have hlw:=hlw1 hc0
  refine ru 7 ?_
  refine a0t 18 (a0b (id:=18) (hs:=[_]) ei_139.h omx rfl omx ⟨rfl,rfl,rfl,rfl,trivial⟩) rfl rfl a0e rfl rfl (c':=c+1) rfl ?_
  first
  | refine a0t 19 (a0a ei_139.h omy rfl omy omy (a0u rfl omy) omy rfl) rfl rfl (a0g rfl (a0C rfl)) rfl rfl (c':=c+2) rfl ?_
  | refine a0t 19 (a0a ei_139.h omy rfl omy omy (a0G rfl omy) omy rfl) rfl rfl (a0g rfl (a0C rfl)) rfl rfl (c':=c+2) rfl ?_
  | refine a0t 19 (a0a ei_139.h omy rfl omy omy (a0F rfl) omy rfl) rfl rfl (a0g rfl a0e) rfl rfl (c':=c+2) rfl ?_
  | refine a0t 19 (a0a ei_139.h omy rfl omy omy (a0w 5 (fun _ _=>default) rfl) omy rfl) rfl rfl (a0g rfl a0e) rfl rfl (c':=c+2) rfl ?_
  refine ru 6 ?_
  refine (a0R 9001 (shO g e (c+1) (out++[(⟨2,0,0,0,[]⟩:Sg)]).length) rfl (by exact a2X (.refl _) (a1N (by first | (simp;done) | (simp;omega))))).wp ?_;refine (a0R 9002 (b0S (c+1) (out++[(⟨2,0,0,0,[]⟩:Sg)])) rfl (by exact (a0x (enc:=sgF) (d:=default) (x:=(⟨2,0,0,0,[]⟩:Sg)) (out:=out) rfl (fun i j _ _=>.refl _) (a5e (.refl _) (.refl _) (.refl _) (.refl _) (.refl _))))).wp ?_
  refine ru 8 ?_
  refine rvl (ptH (⟨1,0,0,s,[]⟩)) (b0m om htop.1) ?_
  refine ru 18 ?_
  refine wdc (fun hr1 hc1=>?_) (fun hr1 hc1=>?_)
  ·refine ru 9 ?_
   refine a2f 41 (a0b (id:=41) (hs:=[_]) ei_139.h omx rfl omx ⟨rfl,rfl,rfl,rfl,trivial⟩) rfl rfl a0e rfl rfl (k':=9) rfl ?_
   first
   | refine a2f 42 (a0a ei_139.h omy rfl omy omy (a0u rfl omy) omy rfl) rfl rfl (a0g rfl (a0C rfl)) rfl rfl (k':=10) rfl ?_
   | refine a2f 42 (a0a ei_139.h omy rfl omy omy (a0G rfl omy) omy rfl) rfl rfl (a0g rfl (a0C rfl)) rfl rfl (k':=10) rfl ?_
   | refine a2f 42 (a0a ei_139.h omy rfl omy omy (a0F rfl) omy rfl) rfl rfl (a0g rfl a0e) rfl rfl (k':=10) rfl ?_
   | refine a2f 42 (a0a ei_139.h omy rfl omy omy (a0w 5 (fun _ _=>default) rfl) omy rfl) rfl rfl (a0g rfl a0e) rfl rfl (k':=10) rfl ?_
   refine ru 7 ?_
   refine (a0R 9001 (shO g e (c+14) ((out++[(⟨2,0,0,0,[]⟩:Sg)])++[(⟨1,0,0,0,s⟩:Sg)]).length) rfl (by exact a2X (.refl _) (a1N (by first | (simp;done) | (simp;omega))))).wp ?_;refine (a0R 9002 (b0S (c+14) ((out++[(⟨2,0,0,0,[]⟩:Sg)])++[(⟨1,0,0,0,s⟩:Sg)])) rfl (by exact (a0x (enc:=sgF) (d:=default) (x:=(⟨1,0,0,0,s⟩:Sg)) (out:=(out++[(⟨2,0,0,0,[]⟩:Sg)])) rfl (fun i j _ _=>.refl _) (a5e (.refl _) (.refl _) (.refl _) (.refl _) (.refl _))))).wp ?_
   refine ru 4 ?_
   refine wdc (fun hr8 hc8=>?_) (fun hr8 hc8=>?_)
   ·refine ru 7 ?_
    refine a0t 154 (a0b (id:=154) (hs:=[_]) ei_139.h omx rfl omx ⟨rfl,rfl,rfl,rfl,trivial⟩) rfl rfl a0e rfl rfl (c':=c+19) rfl ?_
    first
    | refine a0t 155 (a0a ei_139.h omy rfl omy omy (a0u rfl omy) omy rfl) rfl rfl (a0g rfl (a0C rfl)) rfl rfl (c':=c+20) rfl ?_
    | refine a0t 155 (a0a ei_139.h omy rfl omy omy (a0G rfl omy) omy rfl) rfl rfl (a0g rfl (a0C rfl)) rfl rfl (c':=c+20) rfl ?_
    | refine a0t 155 (a0a ei_139.h omy rfl omy omy (a0F rfl) omy rfl) rfl rfl (a0g rfl a0e) rfl rfl (c':=c+20) rfl ?_
    | refine a0t 155 (a0a ei_139.h omy rfl omy omy (a0w 5 (fun _ _=>default) rfl) omy rfl) rfl rfl (a0g rfl a0e) rfl rfl (c':=c+20) rfl ?_
    refine ru 4 ?_
    refine a1H ?_
    refine a1u ok hX a3m.one rfl  [] rfl a0e ((c+19)) (trivial) (by rfl) (by rfl) (kza) ?_
    exact ⟨⟨_,rfl,b0T (.fz _ _ (show Fz [] (a5N e) (a5N e) from Frz.fz)) (a7B rfl rfl (by rw [hw1 hc8];simp [T.sig]))⟩,⟨⟨_,rfl,a9S (x:=(⟨3,0,0,0,[]⟩:Sg)) (by rw [hw1 hc8];simp [T.sig])⟩,trivial⟩⟩
   exfalso;rw [hc0] at hr8;cases hr8
  exfalso;simp at hr1
 have hlw:=congrArg List.length (hw0 hc0)
 refine ru 11 ?_
 refine rvl (ptH (⟨1,0,0,s,[]⟩)) (b0m om htop.1) ?_
 refine ru 18 ?_
 refine wdc (fun hr1 hc1=>?_) (fun hr1 hc1=>?_)
 ·refine ru 9 ?_
  refine a2f 41 (a0b (id:=41) (hs:=[_]) ei_139.h omx rfl omx ⟨rfl,rfl,rfl,rfl,trivial⟩) rfl rfl a0e rfl rfl (k':=9) rfl ?_
  first
  | refine a2f 42 (a0a ei_139.h omy rfl omy omy (a0u rfl omy) omy rfl) rfl rfl (a0g rfl (a0C rfl)) rfl rfl (k':=10) rfl ?_
  | refine a2f 42 (a0a ei_139.h omy rfl omy omy (a0G rfl omy) omy rfl) rfl rfl (a0g rfl (a0C rfl)) rfl rfl (k':=10) rfl ?_
  | refine a2f 42 (a0a ei_139.h omy rfl omy omy (a0F rfl) omy rfl) rfl rfl (a0g rfl a0e) rfl rfl (k':=10) rfl ?_
  | refine a2f 42 (a0a ei_139.h omy rfl omy omy (a0w 5 (fun _ _=>default) rfl) omy rfl) rfl rfl (a0g rfl a0e) rfl rfl (k':=10) rfl ?_
  refine ru 7 ?_
  refine (a0R 9001 (shO g e (c+11) (out++[(⟨1,0,0,0,s⟩:Sg)]).length) rfl (by exact a2X (.refl _) (a1N (by first | (simp;done) | (simp;omega))))).wp ?_;refine (a0R 9002 (b0S (c+11) (out++[(⟨1,0,0,0,s⟩:Sg)])) rfl (by exact (a0x (enc:=sgF) (d:=default) (x:=(⟨1,0,0,0,s⟩:Sg)) (out:=out) rfl (fun i j _ _=>.refl _) (a5e (.refl _) (.refl _) (.refl _) (.refl _) (.refl _))))).wp ?_
  refine ru 4 ?_
  refine wdc (fun hr8 hc8=>?_) (fun hr8 hc8=>?_)
  ·skip
   exfalso;rw [hc0] at hr8;cases hr8
  refine ru 1 ?_
  refine a1H ?_
  refine a1u ok hX a3m.one rfl  [] rfl a0e ((c+11)) (trivial) (by rfl) (by rfl) (kza) ?_
  exact ⟨⟨_,rfl,b4Q rfl rfl (by rw [hw0 hc8];rfl)⟩,⟨⟨_,rfl,b0j (by rw [hw0 hc8];rfl)⟩,trivial⟩⟩
 exfalso;simp at hr1
theorem AtP.mono_times {e:List Pt} {b:Nat} {lo hi:Int} {t:T} (h:AtP e b (T.flat b (.times lo hi t))):AtP e b (T.flat b t):=by
 simp only [T.flat] at h;exact a6f h
theorem b7z (e:List Pt) (b:Nat) (he:e.length≤100000) (lo hi:Int) (t:T) (ih:c0a e b t) (hat:AtP e b (T.flat b (T.times lo hi t))):c0a e b (T.times lo hi t):=by
 intro c g g2 out bin hb
 have htop:=a3Y hat
 have hwl:=a3w bin (T.times lo hi t).sig
 have hw1:bin=true→a1n bin (T.times lo hi t).sig=[(⟨2,0,0,0,[]⟩:Sg)]++(T.times lo hi t).sig++[(⟨3,0,0,0,[]⟩:Sg)]:=fun h=>by rw [h];rfl
 have hw0:bin=false→a1n bin (T.times lo hi t).sig=(T.times lo hi t).sig:=fun h=>by rw [h];rfl
 have hlw1:bin=true→(a1n bin (T.times lo hi t).sig).length=(T.times lo hi t).sig.length+2:=fun h=>by rw [hw1 h,List.length_append,List.length_append];show 1+_+1=_;omega
 have hsp:=T.size_pos (T.times lo hi t)
 have hka:=AtP.mono_times hat
 have hkt:=(a3Y hka).1
 have hkl:=(a3Y hka).2
 have hts:=t.size_pos
 have hsz:(T.times lo hi t).sig.length=(a1n (inB 4 t.kind) t.sig).length+1:=by simp [T.sig]
 replace hkt:(e.getD (b+t.size - 1) default).kind=t.kind:=by rw [hkt,a2G]
 refine a0v Tryz.func82 rfl kr _ _ _ _ rfl 158 rfl rfl (fun X ok hX=>?_)
 refine ru 6 ?_
 refine wdc (fun hr0 hc0=>?_) (fun hr0 hc0=>?_)
 ·skip
  have ho1:(out++[(⟨2,0,0,0,[]⟩:Sg)]).length=out.length+1:=(by simp);have hlw:=hlw1 hc0
  refine ru 7 ?_
  refine a0t 18 (a0b (id:=18) (hs:=[_]) ei_139.h omx rfl omx ⟨rfl,rfl,rfl,rfl,trivial⟩) rfl rfl a0e rfl rfl (c':=c+1) rfl ?_
  first
  | refine a0t 19 (a0a ei_139.h omy rfl omy omy (a0u rfl omy) omy rfl) rfl rfl (a0g rfl (a0C rfl)) rfl rfl (c':=c+2) rfl ?_
  | refine a0t 19 (a0a ei_139.h omy rfl omy omy (a0G rfl omy) omy rfl) rfl rfl (a0g rfl (a0C rfl)) rfl rfl (c':=c+2) rfl ?_
  | refine a0t 19 (a0a ei_139.h omy rfl omy omy (a0F rfl) omy rfl) rfl rfl (a0g rfl a0e) rfl rfl (c':=c+2) rfl ?_
  | refine a0t 19 (a0a ei_139.h omy rfl omy omy (a0w 5 (fun _ _=>default) rfl) omy rfl) rfl rfl (a0g rfl a0e) rfl rfl (c':=c+2) rfl ?_
  refine ru 6 ?_
  refine (a0R 9001 (shO g e (c+1) (out++[(⟨2,0,0,0,[]⟩:Sg)]).length) rfl (by exact a2X (.refl _) (a1N (by first | (simp;done) | (simp;omega))))).wp ?_;refine (a0R 9002 (b0S (c+1) (out++[(⟨2,0,0,0,[]⟩:Sg)])) rfl (by exact (a0x (enc:=sgF) (d:=default) (x:=(⟨2,0,0,0,[]⟩:Sg)) (out:=out) rfl (fun i j _ _=>.refl _) (a5e (.refl _) (.refl _) (.refl _) (.refl _) (.refl _))))).wp ?_
  refine ru 8 ?_
  refine rvl (ptH (⟨4,lo,hi,[],[((b+t.size:Nat):Int) - 1]⟩)) (b0m om htop.1) ?_
  refine ru 18 ?_
  refine wdc (fun hr1 hc1=>?_) (fun hr1 hc1=>?_)
  ·skip
   exfalso;simp at hr1
  refine ru 6 ?_
  refine wdc (fun hr2 hc2=>?_) (fun hr2 hc2=>?_)
  ·skip
   exfalso;simp at hr2
  refine ru 6 ?_
  refine wdc (fun hr4 hc4=>?_) (fun hr4 hc4=>?_)
  ·skip
   exfalso;simp at hr4
  refine ru 6 ?_
  refine wdc (fun hr7 hc7=>?_) (fun hr7 hc7=>?_)
  ·refine ru 6 ?_
   first
   | refine a3K 119 (HOp.val (v':=a0h ((b+t.size - 1:Nat):Int)) (a0A ty_3.h rfl omy omy (fun h=>(by first | rfl | cases h))) (congrArg a0h (show ((b+t.size:Nat):Int) - 1=((b+t.size - 1:Nat):Int) by omega))) rfl rfl (a0C rfl) rfl rfl (k':=5) rfl ?_
   | refine a3K 119 (HOp.val (v':=a0h ((b+t.size - 1:Nat):Int)) (a0o ty_3.h rfl omy (fun h=>(by first | rfl | cases h))) (congrArg a0h (show ((b+t.size:Nat):Int) - 1=((b+t.size - 1:Nat):Int) by omega))) rfl rfl a0e rfl rfl (k':=5) rfl ?_
   refine ru 7 ?_
   first
   | refine a3K 127 (HOp.val (v':=a0h ((b+t.size - 1:Nat):Int)) (a0A ty_3.h rfl omy omy (fun h=>(by first | rfl | cases h))) (congrArg a0h (show ((b+t.size:Nat):Int) - 1=((b+t.size - 1:Nat):Int) by omega))) rfl rfl (a0C rfl) rfl rfl (k':=13) rfl ?_
   | refine a3K 127 (HOp.val (v':=a0h ((b+t.size - 1:Nat):Int)) (a0o ty_3.h rfl omy (fun h=>(by first | rfl | cases h))) (congrArg a0h (show ((b+t.size:Nat):Int) - 1=((b+t.size - 1:Nat):Int) by omega))) rfl rfl a0e rfl rfl (k':=13) rfl ?_
   refine ru 2 ?_
   first
   | refine a3K 130 (HOp.val (v':=a0h t.kind) (a0A ty_3.h rfl omy omy (fun h=>(by first | rfl | cases h))) (a2T (by omega) hkt)) rfl rfl (a0C rfl) rfl rfl (k':=16) rfl ?_
   | refine a3K 130 (HOp.val (v':=a0h t.kind) (a0o ty_3.h rfl omy (fun h=>(by first | rfl | cases h))) (a2T (by omega) hkt)) rfl rfl a0e rfl rfl (k':=16) rfl ?_
   refine ru 1 ?_
   refine b8c kr kr kr kr (c':=c+22) rfl ?_ (by simp)
   refine a0l 132 (xs:=[_,_,_]) (pre:=[(9001,_),(9002,_)]) (ih _ g (c+1) (out++[(⟨2,0,0,0,[]⟩:Sg)]) (inB 4 t.kind) om) ⟨rfl,⟨rfl,⟨rfl,trivial⟩⟩⟩ (a0g rfl (a0g rfl a0e)) rfl rfl (fun g3 c1 hx1=>?_)
   (try dsimp only)
   refine a3A ?_
   refine ru 1 ?_
   have hol:((out++[(⟨2,0,0,0,[]⟩:Sg)])++a1n (inB 4 t.kind) t.sig).length=((out++[(⟨2,0,0,0,[]⟩:Sg)])).length+(a1n (inB 4 t.kind) t.sig).length:=List.length_append
   refine ru 11 ?_
   refine a2f 143 (a0b (id:=143) (hs:=[_]) ei_139.h omx rfl omx ⟨rfl,rfl,rfl,rfl,trivial⟩) rfl rfl a0e rfl rfl (k':=11) rfl ?_
   first
   | refine a2f 144 (a0a ei_139.h omy rfl omy omy (a0u rfl omy) omy rfl) rfl rfl (a0g rfl (a0C rfl)) rfl rfl (k':=12) rfl ?_
   | refine a2f 144 (a0a ei_139.h omy rfl omy omy (a0G rfl omy) omy rfl) rfl rfl (a0g rfl (a0C rfl)) rfl rfl (k':=12) rfl ?_
   | refine a2f 144 (a0a ei_139.h omy rfl omy omy (a0F rfl) omy rfl) rfl rfl (a0g rfl a0e) rfl rfl (k':=12) rfl ?_
   | refine a2f 144 (a0a ei_139.h omy rfl omy omy (a0w 5 (fun _ _=>default) rfl) omy rfl) rfl rfl (a0g rfl a0e) rfl rfl (k':=12) rfl ?_
   refine ru 7 ?_
   refine (a0R 9001 (shO g e (c1+11) (((out++[(⟨2,0,0,0,[]⟩:Sg)])++a1n (inB 4 t.kind) t.sig)++[(⟨5,0,lo,hi,[]⟩:Sg)]).length) rfl (by exact a2X (.refl _) (a1N (by first | (simp;done) | (simp;omega))))).wp ?_;refine (a0R 9002 (b0S (c1+11) (((out++[(⟨2,0,0,0,[]⟩:Sg)])++a1n (inB 4 t.kind) t.sig)++[(⟨5,0,lo,hi,[]⟩:Sg)])) rfl (by exact (a0x (enc:=sgF) (d:=default) (x:=(⟨5,0,lo,hi,[]⟩:Sg)) (out:=((out++[(⟨2,0,0,0,[]⟩:Sg)])++a1n (inB 4 t.kind) t.sig)) rfl (fun i j _ _=>.refl _) (a5e (.refl _) (.refl _) (.refl _) (.refl _) (.refl _))))).wp ?_
   refine ru 4 ?_
   refine wdc (fun hr8 hc8=>?_) (fun hr8 hc8=>?_)
   ·refine ru 7 ?_
    refine a0t 154 (a0b (id:=154) (hs:=[_]) ei_139.h omx rfl omx ⟨rfl,rfl,rfl,rfl,trivial⟩) rfl rfl a0e rfl rfl (c':=c1+16) rfl ?_
    first
    | refine a0t 155 (a0a ei_139.h omy rfl omy omy (a0u rfl omy) omy rfl) rfl rfl (a0g rfl (a0C rfl)) rfl rfl (c':=c1+17) rfl ?_
    | refine a0t 155 (a0a ei_139.h omy rfl omy omy (a0G rfl omy) omy rfl) rfl rfl (a0g rfl (a0C rfl)) rfl rfl (c':=c1+17) rfl ?_
    | refine a0t 155 (a0a ei_139.h omy rfl omy omy (a0F rfl) omy rfl) rfl rfl (a0g rfl a0e) rfl rfl (c':=c1+17) rfl ?_
    | refine a0t 155 (a0a ei_139.h omy rfl omy omy (a0w 5 (fun _ _=>default) rfl) omy rfl) rfl rfl (a0g rfl a0e) rfl rfl (c':=c1+17) rfl ?_
    refine ru 4 ?_
    refine a1H ?_
    refine a1u ok hX a3m.one rfl  [] rfl a0e ((c1+16)) (trivial) (by rfl) (by rfl) (kza) ?_
    exact ⟨⟨_,rfl,b0T (.fz _ _ (show Fz [] (a5N e) (a5N e) from Frz.fz)) (a7B rfl rfl (by rw [hw1 hc8];first | (simp [T.sig];done) | (simp [T.sig];omega)))⟩,⟨⟨_,rfl,a9S (x:=(⟨3,0,0,0,[]⟩:Sg)) (by rw [hw1 hc8];simp [T.sig])⟩,trivial⟩⟩
   exfalso;rw [hc0] at hr8;cases hr8
  exfalso;simp at hr7
 have hlw:=congrArg List.length (hw0 hc0)
 refine ru 11 ?_
 refine rvl (ptH (⟨4,lo,hi,[],[((b+t.size:Nat):Int) - 1]⟩)) (b0m om htop.1) ?_
 refine ru 18 ?_
 refine wdc (fun hr1 hc1=>?_) (fun hr1 hc1=>?_)
 ·skip
  exfalso;simp at hr1
 refine ru 6 ?_
 refine wdc (fun hr2 hc2=>?_) (fun hr2 hc2=>?_)
 ·skip
  exfalso;simp at hr2
 refine ru 6 ?_
 refine wdc (fun hr4 hc4=>?_) (fun hr4 hc4=>?_)
 ·skip
  exfalso;simp at hr4
 refine ru 6 ?_
 refine wdc (fun hr7 hc7=>?_) (fun hr7 hc7=>?_)
 ·refine ru 6 ?_
  first
  | refine a3K 119 (HOp.val (v':=a0h ((b+t.size - 1:Nat):Int)) (a0A ty_3.h rfl omy omy (fun h=>(by first | rfl | cases h))) (congrArg a0h (show ((b+t.size:Nat):Int) - 1=((b+t.size - 1:Nat):Int) by omega))) rfl rfl (a0C rfl) rfl rfl (k':=5) rfl ?_
  | refine a3K 119 (HOp.val (v':=a0h ((b+t.size - 1:Nat):Int)) (a0o ty_3.h rfl omy (fun h=>(by first | rfl | cases h))) (congrArg a0h (show ((b+t.size:Nat):Int) - 1=((b+t.size - 1:Nat):Int) by omega))) rfl rfl a0e rfl rfl (k':=5) rfl ?_
  refine ru 7 ?_
  first
  | refine a3K 127 (HOp.val (v':=a0h ((b+t.size - 1:Nat):Int)) (a0A ty_3.h rfl omy omy (fun h=>(by first | rfl | cases h))) (congrArg a0h (show ((b+t.size:Nat):Int) - 1=((b+t.size - 1:Nat):Int) by omega))) rfl rfl (a0C rfl) rfl rfl (k':=13) rfl ?_
  | refine a3K 127 (HOp.val (v':=a0h ((b+t.size - 1:Nat):Int)) (a0o ty_3.h rfl omy (fun h=>(by first | rfl | cases h))) (congrArg a0h (show ((b+t.size:Nat):Int) - 1=((b+t.size - 1:Nat):Int) by omega))) rfl rfl a0e rfl rfl (k':=13) rfl ?_
  refine ru 2 ?_
  first
  | refine a3K 130 (HOp.val (v':=a0h t.kind) (a0A ty_3.h rfl omy omy (fun h=>(by first | rfl | cases h))) (a2T (by omega) hkt)) rfl rfl (a0C rfl) rfl rfl (k':=16) rfl ?_
  | refine a3K 130 (HOp.val (v':=a0h t.kind) (a0o ty_3.h rfl omy (fun h=>(by first | rfl | cases h))) (a2T (by omega) hkt)) rfl rfl a0e rfl rfl (k':=16) rfl ?_
  refine ru 1 ?_
  refine b8c kr kr kr kr (c':=c+19) rfl ?_ (by simp)
  refine a0l 132 (xs:=[_,_,_]) (pre:=[(9001,_),(9002,_)]) (ih _ g (g2) out (inB 4 t.kind) om) ⟨rfl,⟨rfl,⟨rfl,trivial⟩⟩⟩ (a0g rfl (a0g rfl a0e)) rfl rfl (fun g3 c2 hx2=>?_)
  (try dsimp only)
  refine a3A ?_
  refine ru 1 ?_
  have hol:(out++a1n (inB 4 t.kind) t.sig).length=(out).length+(a1n (inB 4 t.kind) t.sig).length:=List.length_append
  refine ru 11 ?_
  refine a2f 143 (a0b (id:=143) (hs:=[_]) ei_139.h omx rfl omx ⟨rfl,rfl,rfl,rfl,trivial⟩) rfl rfl a0e rfl rfl (k':=11) rfl ?_
  first
  | refine a2f 144 (a0a ei_139.h omy rfl omy omy (a0u rfl omy) omy rfl) rfl rfl (a0g rfl (a0C rfl)) rfl rfl (k':=12) rfl ?_
  | refine a2f 144 (a0a ei_139.h omy rfl omy omy (a0G rfl omy) omy rfl) rfl rfl (a0g rfl (a0C rfl)) rfl rfl (k':=12) rfl ?_
  | refine a2f 144 (a0a ei_139.h omy rfl omy omy (a0F rfl) omy rfl) rfl rfl (a0g rfl a0e) rfl rfl (k':=12) rfl ?_
  | refine a2f 144 (a0a ei_139.h omy rfl omy omy (a0w 5 (fun _ _=>default) rfl) omy rfl) rfl rfl (a0g rfl a0e) rfl rfl (k':=12) rfl ?_
  refine ru 7 ?_
  refine (a0R 9001 (shO g e (c2+11) ((out++a1n (inB 4 t.kind) t.sig)++[(⟨5,0,lo,hi,[]⟩:Sg)]).length) rfl (by exact a2X (.refl _) (a1N (by first | (simp;done) | (simp;omega))))).wp ?_;refine (a0R 9002 (b0S (c2+11) ((out++a1n (inB 4 t.kind) t.sig)++[(⟨5,0,lo,hi,[]⟩:Sg)])) rfl (by exact (a0x (enc:=sgF) (d:=default) (x:=(⟨5,0,lo,hi,[]⟩:Sg)) (out:=(out++a1n (inB 4 t.kind) t.sig)) rfl (fun i j _ _=>.refl _) (a5e (.refl _) (.refl _) (.refl _) (.refl _) (.refl _))))).wp ?_
  refine ru 4 ?_
  refine wdc (fun hr8 hc8=>?_) (fun hr8 hc8=>?_)
  ·skip
   exfalso;rw [hc0] at hr8;cases hr8
  refine ru 1 ?_
  refine a1H ?_
  refine a1u ok hX a3m.one rfl  [] rfl a0e ((c2+11)) (trivial) (by rfl) (by rfl) (kza) ?_
  exact ⟨⟨_,rfl,b4Q rfl rfl (by rw [hw0 hc8];simp [T.sig])⟩,⟨⟨_,rfl,b0j (by rw [hw0 hc8];simp [T.sig])⟩,trivial⟩⟩
 exfalso;simp at hr7
theorem a6z {ts:List T} {k:Int} {i:Nat} (hok:T.okL ts=true) (hi:i≤ts.length):(T.sigL k true (ts.take i)).length≤(T.sigL k true ts).length:=by
 by_cases h:i < ts.length
 ·rw [a9O k ts true i h];simp only [List.length_append];omega
 ·rw [show i=ts.length by omega,List.take_length];exact Nat.le_refl _
theorem a2C {ts:List T} {k:Int} {i:Nat} (h:i < ts.length):(T.sigL k true (ts.take i)).length+(orS k (decide (i=0))).length+(a1n (inB k (ts.getD i default).kind) (ts.getD i default).sig).length≤(T.sigL k true ts).length:=by
 have:=a9O k ts true i h
 rw [Bool.true_and] at this
 rw [this];simp only [List.length_append];omega
theorem c1U (e:List Pt) (b:Nat) (he:e.length≤100000) (ts:List T) (hok:T.okL ts=true) (hts:ts.length≤100000) (ih:∀ i,i < ts.length→c0a e (b+T.sizeL (ts.take i)) (ts.getD i default)) (hat:AtP e b (T.flat b (T.many 2 ts))):c0a e b (T.many 2 ts):=by
 intro c g g2 out bin hb
 have htop:=a3Y hat
 have hwl:=a3w bin (T.many 2 ts).sig
 have hw1:bin=true→a1n bin (T.many 2 ts).sig=[(⟨2,0,0,0,[]⟩:Sg)]++(T.many 2 ts).sig++[(⟨3,0,0,0,[]⟩:Sg)]:=fun h=>by rw [h];rfl
 have hw0:bin=false→a1n bin (T.many 2 ts).sig=(T.many 2 ts).sig:=fun h=>by rw [h];rfl
 have hlw1:bin=true→(a1n bin (T.many 2 ts).sig).length=(T.many 2 ts).sig.length+2:=fun h=>by rw [hw1 h,List.length_append,List.length_append];show 1+_+1=_;omega
 have hsp:=T.size_pos (T.many 2 ts)
 have hrl:=a1L ts b
 have hsl:(T.many 2 ts).sig.length=(T.sigL 2 true ts).length:=rfl
 refine a0v Tryz.func82 rfl kr _ _ _ _ rfl 158 rfl rfl (fun X ok hX=>?_)
 refine ru 6 ?_
 refine wdc (fun hr0 hc0=>?_) (fun hr0 hc0=>?_)
 ·skip
  have ho1:(out++[(⟨2,0,0,0,[]⟩:Sg)]).length=out.length+1:=(by simp);have hlw:=hlw1 hc0
  refine ru 7 ?_
  refine a0t 18 (a0b (id:=18) (hs:=[_]) ei_139.h omx rfl omx ⟨rfl,rfl,rfl,rfl,trivial⟩) rfl rfl a0e rfl rfl (c':=c+1) rfl ?_
  first
  | refine a0t 19 (a0a ei_139.h omy rfl omy omy (a0u rfl omy) omy rfl) rfl rfl (a0g rfl (a0C rfl)) rfl rfl (c':=c+2) rfl ?_
  | refine a0t 19 (a0a ei_139.h omy rfl omy omy (a0G rfl omy) omy rfl) rfl rfl (a0g rfl (a0C rfl)) rfl rfl (c':=c+2) rfl ?_
  | refine a0t 19 (a0a ei_139.h omy rfl omy omy (a0F rfl) omy rfl) rfl rfl (a0g rfl a0e) rfl rfl (c':=c+2) rfl ?_
  | refine a0t 19 (a0a ei_139.h omy rfl omy omy (a0w 5 (fun _ _=>default) rfl) omy rfl) rfl rfl (a0g rfl a0e) rfl rfl (c':=c+2) rfl ?_
  refine ru 6 ?_
  refine (a0R 9001 (shO g e (c+1) (out++[(⟨2,0,0,0,[]⟩:Sg)]).length) rfl (by exact a2X (.refl _) (a1N (by first | (simp;done) | (simp;omega))))).wp ?_;refine (a0R 9002 (b0S (c+1) (out++[(⟨2,0,0,0,[]⟩:Sg)])) rfl (by exact (a0x (enc:=sgF) (d:=default) (x:=(⟨2,0,0,0,[]⟩:Sg)) (out:=out) rfl (fun i j _ _=>.refl _) (a5e (.refl _) (.refl _) (.refl _) (.refl _) (.refl _))))).wp ?_
  refine ru 8 ?_
  refine rvl (ptH (⟨2,0,0,[],rootsL b ts⟩)) (b0m om htop.1) ?_
  refine ru 18 ?_
  refine wdc (fun hr1 hc1=>?_) (fun hr1 hc1=>?_)
  ·skip
   exfalso;simp at hr1
  refine ru 6 ?_
  refine wdc (fun hr2 hc2=>?_) (fun hr2 hc2=>?_)
  ·refine ru 1 ?_
   obtain ⟨o1,ho⟩:∃ o,o=(out++[(⟨2,0,0,0,[]⟩:Sg)]):=⟨_,rfl⟩;rw [←ho];have hlo:o1.length=out.length+1:=(by rw [ho];exact ho1);obtain ⟨gi,hgi⟩:∃ x,x=c+1:=⟨_,rfl⟩;rw [←hgi]
   refine ru 8 ?_
   refine a0n (α:=Nat×List Sg×Nat) (fun x c=>⟨158,[(0,.v (.pt 9001 g 0 0)),(2,.v (a0s bin)),(48,.v (a1z (rootsL b ts))),(49,.v (a0h (rootsL b ts).length)),(50,.v (a0h x.1))],[(9001,shO g e x.2.2 x.2.1.length),(9002,b0S x.2.2 x.2.1)],c⟩) (fun x=>x.1≤ts.length∧x.2.1=o1++T.sigL 2 true (ts.take x.1)) (fun x=>ts.length - x.1) ((0,o1,gi)) (by exact ⟨Nat.zero_le _,by simp [T.sigL]⟩) (a0c rfl (Nat.le_refl _) tsa hsa) (fun x c hx NhL1 hL1=>?_)
   revert hx hL1;obtain ⟨i,o,gg⟩:=x;intro hx hL1;dsimp only at hx hL1 ⊢
   obtain ⟨hi,hoo⟩:=hx
   have hol:=a6z hok (i:=i) (k:=2) hi;have hol2:o.length=o1.length+(T.sigL 2 true (ts.take i)).length:=(by rw [hoo,List.length_append])
   refine ru 6 ?_
   refine wdc (fun hr3 hc3=>?_) (fun hr3 hc3=>?_)
   ·skip
    have him:i < ts.length:=om;have hka:=a8d hat him;have hkt:=a3Y hka;have hkk:(e.getD (b+T.sizeL (ts.take i)+(ts.getD i default).size - 1) default).kind=(ts.getD i default).kind:=(by rw [hkt.1,a2G]);have hks:=(ts.getD i default).size_pos;have hkn:=a2C (k:=2) him
    refine ru 8 ?_
    refine rvl (a0h ((b+T.sizeL (ts.take i)+(ts.getD i default).size - 1:Nat):Int)) (by exact a2c (i:=i) om (by rw [a4n ts b i him];unfold T.root;omega)) ?_
    refine ru 14 ?_
    refine rvl (a0h (ts.getD i default).kind) (a2T om hkk) ?_
    refine ru 10 ?_
    refine ry (a0h (ts.getD i default).kind) rfl (fun hb=>a2T om hkk) ?_
    refine ru 2 ?_
    refine a0l 76 (xs:=[_,_,_]) (pre:=[(9001,_),(9002,_)]) (ih i him _ g gg o (inB 2 (ts.getD i default).kind) om) ⟨rfl,⟨rfl,⟨rfl,trivial⟩⟩⟩ (a0g rfl (a0g rfl a0e)) rfl rfl (fun g3 c1 hx1=>?_)
    (try dsimp only)
    refine ru 7 ?_
    exact hL1 ((i+1,o++a1n (inB 2 (ts.getD i default).kind) (ts.getD i default).sig,g3)) _ _ (by (try dsimp only);exact ⟨him,by rw [hoo,a3G 2 ts i him,List.append_assoc];rfl⟩) (by (try dsimp only);omega) (a0c rfl (Nat.le_refl _) tsa hsa)
   have hit:i=ts.length:=om
   refine ru 2 ?_
   refine a0d ?_
   refine ru 8 ?_
   refine wdc (fun hr8 hc8=>?_) (fun hr8 hc8=>?_)
   ·refine ru 7 ?_
    refine a0t 154 (a0b (id:=154) (hs:=[_]) ei_139.h omx rfl omx ⟨rfl,rfl,rfl,rfl,trivial⟩) rfl rfl a0e rfl rfl (c':=c+1) rfl ?_
    first
    | refine a0t 155 (a0a ei_139.h omy rfl omy omy (a0u rfl omy) omy rfl) rfl rfl (a0g rfl (a0C rfl)) rfl rfl (c':=c+2) rfl ?_
    | refine a0t 155 (a0a ei_139.h omy rfl omy omy (a0G rfl omy) omy rfl) rfl rfl (a0g rfl (a0C rfl)) rfl rfl (c':=c+2) rfl ?_
    | refine a0t 155 (a0a ei_139.h omy rfl omy omy (a0F rfl) omy rfl) rfl rfl (a0g rfl a0e) rfl rfl (c':=c+2) rfl ?_
    | refine a0t 155 (a0a ei_139.h omy rfl omy omy (a0w 5 (fun _ _=>default) rfl) omy rfl) rfl rfl (a0g rfl a0e) rfl rfl (c':=c+2) rfl ?_
    refine ru 4 ?_
    refine a1H ?_
    refine a1u ok hX a3m.one rfl  [] rfl a0e ((c+1)) (trivial) (by rfl) (by rfl) (kza) ?_
    exact ⟨⟨_,rfl,b0T (.fz _ _ (show Fz [] (a5N e) (a5N e) from Frz.fz)) (a7B rfl rfl (by rw [hw1 hc8,hoo,hit,List.take_length,ho];simp [T.sig];omega))⟩,⟨⟨_,rfl,a9S (x:=(⟨3,0,0,0,[]⟩:Sg)) (by rw [hw1 hc8,hoo,hit,List.take_length,ho];simp [T.sig])⟩,trivial⟩⟩
   exfalso;rw [hc0] at hr8;cases hr8
  exfalso;simp at hr2
 have hlw:=congrArg List.length (hw0 hc0)
 refine ru 11 ?_
 refine rvl (ptH (⟨2,0,0,[],rootsL b ts⟩)) (b0m om htop.1) ?_
 refine ru 18 ?_
 refine wdc (fun hr1 hc1=>?_) (fun hr1 hc1=>?_)
 ·skip
  exfalso;simp at hr1
 refine ru 6 ?_
 refine wdc (fun hr2 hc2=>?_) (fun hr2 hc2=>?_)
 ·refine ru 1 ?_
  obtain ⟨o1,ho⟩:∃ o,o=out:=⟨_,rfl⟩;rw [←ho];have hlo:o1.length=out.length:=(by rw [ho]);obtain ⟨gi,hgi⟩:∃ x,x=g2:=⟨_,rfl⟩;rw [←hgi]
  refine ru 8 ?_
  refine a0n (α:=Nat×List Sg×Nat) (fun x c=>⟨158,[(0,.v (.pt 9001 g 0 0)),(2,.v (a0s bin)),(48,.v (a1z (rootsL b ts))),(49,.v (a0h (rootsL b ts).length)),(50,.v (a0h x.1))],[(9001,shO g e x.2.2 x.2.1.length),(9002,b0S x.2.2 x.2.1)],c⟩) (fun x=>x.1≤ts.length∧x.2.1=o1++T.sigL 2 true (ts.take x.1)) (fun x=>ts.length - x.1) ((0,o1,gi)) (by exact ⟨Nat.zero_le _,by simp [T.sigL]⟩) (a0c rfl (Nat.le_refl _) tsa hsa) (fun x c hx NhL2 hL2=>?_)
  revert hx hL2;obtain ⟨i,o,gg⟩:=x;intro hx hL2;dsimp only at hx hL2 ⊢
  obtain ⟨hi,hoo⟩:=hx
  have hol:=a6z hok (i:=i) (k:=2) hi;have hol2:o.length=o1.length+(T.sigL 2 true (ts.take i)).length:=(by rw [hoo,List.length_append])
  refine ru 6 ?_
  refine wdc (fun hr3 hc3=>?_) (fun hr3 hc3=>?_)
  ·skip
   have him:i < ts.length:=om;have hka:=a8d hat him;have hkt:=a3Y hka;have hkk:(e.getD (b+T.sizeL (ts.take i)+(ts.getD i default).size - 1) default).kind=(ts.getD i default).kind:=(by rw [hkt.1,a2G]);have hks:=(ts.getD i default).size_pos;have hkn:=a2C (k:=2) him
   refine ru 8 ?_
   refine rvl (a0h ((b+T.sizeL (ts.take i)+(ts.getD i default).size - 1:Nat):Int)) (by exact a2c (i:=i) om (by rw [a4n ts b i him];unfold T.root;omega)) ?_
   refine ru 14 ?_
   refine rvl (a0h (ts.getD i default).kind) (a2T om hkk) ?_
   refine ru 10 ?_
   refine ry (a0h (ts.getD i default).kind) rfl (fun hb=>a2T om hkk) ?_
   refine ru 2 ?_
   refine a0l 76 (xs:=[_,_,_]) (pre:=[(9001,_),(9002,_)]) (ih i him _ g gg o (inB 2 (ts.getD i default).kind) om) ⟨rfl,⟨rfl,⟨rfl,trivial⟩⟩⟩ (a0g rfl (a0g rfl a0e)) rfl rfl (fun g3 c2 hx2=>?_)
   (try dsimp only)
   refine ru 7 ?_
   exact hL2 ((i+1,o++a1n (inB 2 (ts.getD i default).kind) (ts.getD i default).sig,g3)) _ _ (by (try dsimp only);exact ⟨him,by rw [hoo,a3G 2 ts i him,List.append_assoc];rfl⟩) (by (try dsimp only);omega) (a0c rfl (Nat.le_refl _) tsa hsa)
  have hit:i=ts.length:=om
  refine ru 2 ?_
  refine a0d ?_
  refine ru 8 ?_
  refine wdc (fun hr8 hc8=>?_) (fun hr8 hc8=>?_)
  ·skip
   exfalso;rw [hc0] at hr8;cases hr8
  refine ru 1 ?_
  refine a1H ?_
  refine a1u ok hX a3m.one rfl  [] rfl a0e (gg) (trivial) (by rfl) (by rfl) (kza) ?_
  exact ⟨⟨_,rfl,b4Q rfl rfl (by rw [hw0 hc8,hoo,hit,List.take_length,ho];rfl)⟩,⟨⟨_,rfl,b0j (by rw [hw0 hc8,hoo,hit,List.take_length,ho];rfl)⟩,trivial⟩⟩
 exfalso;simp at hr2
theorem b6d (e:List Pt) (b:Nat) (he:e.length≤100000) (ts:List T) (hok:T.okL ts=true) (hts:ts.length≤100000) (ih:∀ i,i < ts.length→c0a e (b+T.sizeL (ts.take i)) (ts.getD i default)) (hat:AtP e b (T.flat b (T.many 3 ts))):c0a e b (T.many 3 ts):=by
 intro c g g2 out bin hb
 have htop:=a3Y hat
 have hwl:=a3w bin (T.many 3 ts).sig
 have hw1:bin=true→a1n bin (T.many 3 ts).sig=[(⟨2,0,0,0,[]⟩:Sg)]++(T.many 3 ts).sig++[(⟨3,0,0,0,[]⟩:Sg)]:=fun h=>by rw [h];rfl
 have hw0:bin=false→a1n bin (T.many 3 ts).sig=(T.many 3 ts).sig:=fun h=>by rw [h];rfl
 have hlw1:bin=true→(a1n bin (T.many 3 ts).sig).length=(T.many 3 ts).sig.length+2:=fun h=>by rw [hw1 h,List.length_append,List.length_append];show 1+_+1=_;omega
 have hsp:=T.size_pos (T.many 3 ts)
 have hrl:=a1L ts b
 have hsl:(T.many 3 ts).sig.length=(T.sigL 3 true ts).length:=rfl
 refine a0v Tryz.func82 rfl kr _ _ _ _ rfl 158 rfl rfl (fun X ok hX=>?_)
 refine ru 6 ?_
 refine wdc (fun hr0 hc0=>?_) (fun hr0 hc0=>?_)
 ·skip
  have ho1:(out++[(⟨2,0,0,0,[]⟩:Sg)]).length=out.length+1:=(by simp);have hlw:=hlw1 hc0
  refine ru 7 ?_
  refine a0t 18 (a0b (id:=18) (hs:=[_]) ei_139.h omx rfl omx ⟨rfl,rfl,rfl,rfl,trivial⟩) rfl rfl a0e rfl rfl (c':=c+1) rfl ?_
  first
  | refine a0t 19 (a0a ei_139.h omy rfl omy omy (a0u rfl omy) omy rfl) rfl rfl (a0g rfl (a0C rfl)) rfl rfl (c':=c+2) rfl ?_
  | refine a0t 19 (a0a ei_139.h omy rfl omy omy (a0G rfl omy) omy rfl) rfl rfl (a0g rfl (a0C rfl)) rfl rfl (c':=c+2) rfl ?_
  | refine a0t 19 (a0a ei_139.h omy rfl omy omy (a0F rfl) omy rfl) rfl rfl (a0g rfl a0e) rfl rfl (c':=c+2) rfl ?_
  | refine a0t 19 (a0a ei_139.h omy rfl omy omy (a0w 5 (fun _ _=>default) rfl) omy rfl) rfl rfl (a0g rfl a0e) rfl rfl (c':=c+2) rfl ?_
  refine ru 6 ?_
  refine (a0R 9001 (shO g e (c+1) (out++[(⟨2,0,0,0,[]⟩:Sg)]).length) rfl (by exact a2X (.refl _) (a1N (by first | (simp;done) | (simp;omega))))).wp ?_;refine (a0R 9002 (b0S (c+1) (out++[(⟨2,0,0,0,[]⟩:Sg)])) rfl (by exact (a0x (enc:=sgF) (d:=default) (x:=(⟨2,0,0,0,[]⟩:Sg)) (out:=out) rfl (fun i j _ _=>.refl _) (a5e (.refl _) (.refl _) (.refl _) (.refl _) (.refl _))))).wp ?_
  refine ru 8 ?_
  refine rvl (ptH (⟨3,0,0,[],rootsL b ts⟩)) (b0m om htop.1) ?_
  refine ru 18 ?_
  refine wdc (fun hr1 hc1=>?_) (fun hr1 hc1=>?_)
  ·skip
   exfalso;simp at hr1
  refine ru 6 ?_
  refine wdc (fun hr2 hc2=>?_) (fun hr2 hc2=>?_)
  ·skip
   exfalso;simp at hr2
  refine ru 6 ?_
  refine wdc (fun hr4 hc4=>?_) (fun hr4 hc4=>?_)
  ·refine ru 1 ?_
   obtain ⟨o1,ho⟩:∃ o,o=(out++[(⟨2,0,0,0,[]⟩:Sg)]):=⟨_,rfl⟩;rw [←ho];have hlo:o1.length=out.length+1:=(by rw [ho];exact ho1);obtain ⟨gi,hgi⟩:∃ x,x=c+1:=⟨_,rfl⟩;rw [←hgi]
   refine ru 8 ?_
   refine a0n (α:=Nat×List Sg×Nat) (fun x c=>⟨158,[(0,.v (.pt 9001 g 0 0)),(2,.v (a0s bin)),(81,.v (a1z (rootsL b ts))),(82,.v (a0h (rootsL b ts).length)),(83,.v (a0h x.1))],[(9001,shO g e x.2.2 x.2.1.length),(9002,b0S x.2.2 x.2.1)],c⟩) (fun x=>x.1≤ts.length∧x.2.1=o1++T.sigL 3 true (ts.take x.1)) (fun x=>ts.length - x.1) ((0,o1,gi)) (by exact ⟨Nat.zero_le _,by simp [T.sigL]⟩) (a0c rfl (Nat.le_refl _) tsa hsa) (fun x c hx NhL1 hL1=>?_)
   revert hx hL1;obtain ⟨i,o,gg⟩:=x;intro hx hL1;dsimp only at hx hL1 ⊢
   obtain ⟨hi,hoo⟩:=hx
   have hol:=a6z hok (i:=i) (k:=3) hi;have hol2:o.length=o1.length+(T.sigL 3 true (ts.take i)).length:=(by rw [hoo,List.length_append])
   refine ru 6 ?_
   refine wdc (fun hr5 hc5=>?_) (fun hr5 hc5=>?_)
   ·skip
    have him:i < ts.length:=om;have hka:=a8d hat him;have hkt:=a3Y hka;have hkk:(e.getD (b+T.sizeL (ts.take i)+(ts.getD i default).size - 1) default).kind=(ts.getD i default).kind:=(by rw [hkt.1,a2G]);have hks:=(ts.getD i default).size_pos;have hkn:=a2C (k:=3) him
    refine ru 9 ?_
    refine rvl (a0h ((b+T.sizeL (ts.take i)+(ts.getD i default).size - 1:Nat):Int)) (by exact a2c (i:=i) om (by rw [a4n ts b i him];unfold T.root;omega)) ?_
    refine ru 11 ?_
    refine wdc (fun hr6 hc6=>?_) (fun hr6 hc6=>?_)
    ·skip
     have hor:(orS 3 (decide (i=0))).length=1:=(by rw [decide_eq_false (show ¬ i=0 by omega)];rfl);have hoa:(o++[(⟨4,0,0,0,[]⟩:Sg)]).length=o.length+1:=(by simp)
     refine ru 7 ?_
     refine a0t 96 (a0b (id:=96) (hs:=[_]) ei_139.h omx rfl omx ⟨rfl,rfl,rfl,rfl,trivial⟩) rfl rfl a0e rfl rfl (c':=c+1) rfl ?_
     first
     | refine a0t 97 (a0a ei_139.h omy rfl omy omy (a0u rfl omy) omy rfl) rfl rfl (a0g rfl (a0C rfl)) rfl rfl (c':=c+2) rfl ?_
     | refine a0t 97 (a0a ei_139.h omy rfl omy omy (a0G rfl omy) omy rfl) rfl rfl (a0g rfl (a0C rfl)) rfl rfl (c':=c+2) rfl ?_
     | refine a0t 97 (a0a ei_139.h omy rfl omy omy (a0F rfl) omy rfl) rfl rfl (a0g rfl a0e) rfl rfl (c':=c+2) rfl ?_
     | refine a0t 97 (a0a ei_139.h omy rfl omy omy (a0w 5 (fun _ _=>default) rfl) omy rfl) rfl rfl (a0g rfl a0e) rfl rfl (c':=c+2) rfl ?_
     refine ru 5 ?_
     refine (a0R 9001 (shO g e (c+1) (o++[(⟨4,0,0,0,[]⟩:Sg)]).length) rfl (by exact a2X (.refl _) (a1N (by first | (simp;done) | (simp;omega))))).wp ?_;refine (a0R 9002 (b0S (c+1) (o++[(⟨4,0,0,0,[]⟩:Sg)])) rfl (by exact (a0x (enc:=sgF) (d:=default) (x:=(⟨4,0,0,0,[]⟩:Sg)) (out:=o) rfl (fun i j _ _=>.refl _) (a5e (.refl _) (.refl _) (.refl _) (.refl _) (.refl _))))).wp ?_
     refine ru 11 ?_
     refine rvl (a0h (ts.getD i default).kind) (a2T om hkk) ?_
     refine ru 1 ?_
     refine a0l 111 (xs:=[_,_,_]) (pre:=[(9001,_),(9002,_)]) (ih i him _ g (c+1) (o++[(⟨4,0,0,0,[]⟩:Sg)]) (inB 3 (ts.getD i default).kind) om) ⟨rfl,⟨rfl,⟨rfl,trivial⟩⟩⟩ (a0g rfl (a0g rfl a0e)) rfl rfl (fun g3 c1 hx1=>?_)
     (try dsimp only)
     refine ru 7 ?_
     exact hL1 ((i+1,(o++[(⟨4,0,0,0,[]⟩:Sg)])++a1n (inB 3 (ts.getD i default).kind) (ts.getD i default).sig,g3)) _ _ (by (try dsimp only);exact ⟨him,by rw [hoo,a3G 3 ts i him,decide_eq_false (show ¬ i=0 by omega)];simp [orS]⟩) (by (try dsimp only);omega) (a0c rfl (Nat.le_refl _) tsa hsa)
    refine ru 13 ?_
    refine rvl (a0h (ts.getD i default).kind) (a2T om hkk) ?_
    refine ru 1 ?_
    refine a0l 111 (xs:=[_,_,_]) (pre:=[(9001,_),(9002,_)]) (ih i him _ g gg o (inB 3 (ts.getD i default).kind) om) ⟨rfl,⟨rfl,⟨rfl,trivial⟩⟩⟩ (a0g rfl (a0g rfl a0e)) rfl rfl (fun g3 c2 hx2=>?_)
    (try dsimp only)
    refine ru 7 ?_
    exact hL1 ((i+1,o++a1n (inB 3 (ts.getD i default).kind) (ts.getD i default).sig,g3)) _ _ (by (try dsimp only);exact ⟨him,by rw [hoo,a3G 3 ts i him,decide_eq_true (show i=0 by omega)];simp [orS]⟩) (by (try dsimp only);omega) (a0c rfl (Nat.le_refl _) tsa hsa)
   have hit:i=ts.length:=om
   refine ru 2 ?_
   refine a0d ?_
   refine ru 8 ?_
   refine wdc (fun hr8 hc8=>?_) (fun hr8 hc8=>?_)
   ·refine ru 7 ?_
    refine a0t 154 (a0b (id:=154) (hs:=[_]) ei_139.h omx rfl omx ⟨rfl,rfl,rfl,rfl,trivial⟩) rfl rfl a0e rfl rfl (c':=c+1) rfl ?_
    first
    | refine a0t 155 (a0a ei_139.h omy rfl omy omy (a0u rfl omy) omy rfl) rfl rfl (a0g rfl (a0C rfl)) rfl rfl (c':=c+2) rfl ?_
    | refine a0t 155 (a0a ei_139.h omy rfl omy omy (a0G rfl omy) omy rfl) rfl rfl (a0g rfl (a0C rfl)) rfl rfl (c':=c+2) rfl ?_
    | refine a0t 155 (a0a ei_139.h omy rfl omy omy (a0F rfl) omy rfl) rfl rfl (a0g rfl a0e) rfl rfl (c':=c+2) rfl ?_
    | refine a0t 155 (a0a ei_139.h omy rfl omy omy (a0w 5 (fun _ _=>default) rfl) omy rfl) rfl rfl (a0g rfl a0e) rfl rfl (c':=c+2) rfl ?_
    refine ru 4 ?_
    refine a1H ?_
    refine a1u ok hX a3m.one rfl  [] rfl a0e ((c+1)) (trivial) (by rfl) (by rfl) (kza) ?_
    exact ⟨⟨_,rfl,b0T (.fz _ _ (show Fz [] (a5N e) (a5N e) from Frz.fz)) (a7B rfl rfl (by rw [hw1 hc8,hoo,hit,List.take_length,ho];simp [T.sig];omega))⟩,⟨⟨_,rfl,a9S (x:=(⟨3,0,0,0,[]⟩:Sg)) (by rw [hw1 hc8,hoo,hit,List.take_length,ho];simp [T.sig])⟩,trivial⟩⟩
   exfalso;rw [hc0] at hr8;cases hr8
  exfalso;simp at hr4
 have hlw:=congrArg List.length (hw0 hc0)
 refine ru 11 ?_
 refine rvl (ptH (⟨3,0,0,[],rootsL b ts⟩)) (b0m om htop.1) ?_
 refine ru 18 ?_
 refine wdc (fun hr1 hc1=>?_) (fun hr1 hc1=>?_)
 ·skip
  exfalso;simp at hr1
 refine ru 6 ?_
 refine wdc (fun hr2 hc2=>?_) (fun hr2 hc2=>?_)
 ·skip
  exfalso;simp at hr2
 refine ru 6 ?_
 refine wdc (fun hr4 hc4=>?_) (fun hr4 hc4=>?_)
 ·refine ru 1 ?_
  obtain ⟨o1,ho⟩:∃ o,o=out:=⟨_,rfl⟩;rw [←ho];have hlo:o1.length=out.length:=(by rw [ho]);obtain ⟨gi,hgi⟩:∃ x,x=g2:=⟨_,rfl⟩;rw [←hgi]
  refine ru 8 ?_
  refine a0n (α:=Nat×List Sg×Nat) (fun x c=>⟨158,[(0,.v (.pt 9001 g 0 0)),(2,.v (a0s bin)),(81,.v (a1z (rootsL b ts))),(82,.v (a0h (rootsL b ts).length)),(83,.v (a0h x.1))],[(9001,shO g e x.2.2 x.2.1.length),(9002,b0S x.2.2 x.2.1)],c⟩) (fun x=>x.1≤ts.length∧x.2.1=o1++T.sigL 3 true (ts.take x.1)) (fun x=>ts.length - x.1) ((0,o1,gi)) (by exact ⟨Nat.zero_le _,by simp [T.sigL]⟩) (a0c rfl (Nat.le_refl _) tsa hsa) (fun x c hx NhL2 hL2=>?_)
  revert hx hL2;obtain ⟨i,o,gg⟩:=x;intro hx hL2;dsimp only at hx hL2 ⊢
  obtain ⟨hi,hoo⟩:=hx
  have hol:=a6z hok (i:=i) (k:=3) hi;have hol2:o.length=o1.length+(T.sigL 3 true (ts.take i)).length:=(by rw [hoo,List.length_append])
  refine ru 6 ?_
  refine wdc (fun hr5 hc5=>?_) (fun hr5 hc5=>?_)
  ·skip
   have him:i < ts.length:=om;have hka:=a8d hat him;have hkt:=a3Y hka;have hkk:(e.getD (b+T.sizeL (ts.take i)+(ts.getD i default).size - 1) default).kind=(ts.getD i default).kind:=(by rw [hkt.1,a2G]);have hks:=(ts.getD i default).size_pos;have hkn:=a2C (k:=3) him
   refine ru 9 ?_
   refine rvl (a0h ((b+T.sizeL (ts.take i)+(ts.getD i default).size - 1:Nat):Int)) (by exact a2c (i:=i) om (by rw [a4n ts b i him];unfold T.root;omega)) ?_
   refine ru 11 ?_
   refine wdc (fun hr6 hc6=>?_) (fun hr6 hc6=>?_)
   ·skip
    have hor:(orS 3 (decide (i=0))).length=1:=(by rw [decide_eq_false (show ¬ i=0 by omega)];rfl);have hoa:(o++[(⟨4,0,0,0,[]⟩:Sg)]).length=o.length+1:=(by simp)
    refine ru 7 ?_
    refine a0t 96 (a0b (id:=96) (hs:=[_]) ei_139.h omx rfl omx ⟨rfl,rfl,rfl,rfl,trivial⟩) rfl rfl a0e rfl rfl (c':=c+1) rfl ?_
    first
    | refine a0t 97 (a0a ei_139.h omy rfl omy omy (a0u rfl omy) omy rfl) rfl rfl (a0g rfl (a0C rfl)) rfl rfl (c':=c+2) rfl ?_
    | refine a0t 97 (a0a ei_139.h omy rfl omy omy (a0G rfl omy) omy rfl) rfl rfl (a0g rfl (a0C rfl)) rfl rfl (c':=c+2) rfl ?_
    | refine a0t 97 (a0a ei_139.h omy rfl omy omy (a0F rfl) omy rfl) rfl rfl (a0g rfl a0e) rfl rfl (c':=c+2) rfl ?_
    | refine a0t 97 (a0a ei_139.h omy rfl omy omy (a0w 5 (fun _ _=>default) rfl) omy rfl) rfl rfl (a0g rfl a0e) rfl rfl (c':=c+2) rfl ?_
    refine ru 5 ?_
    refine (a0R 9001 (shO g e (c+1) (o++[(⟨4,0,0,0,[]⟩:Sg)]).length) rfl (by exact a2X (.refl _) (a1N (by first | (simp;done) | (simp;omega))))).wp ?_;refine (a0R 9002 (b0S (c+1) (o++[(⟨4,0,0,0,[]⟩:Sg)])) rfl (by exact (a0x (enc:=sgF) (d:=default) (x:=(⟨4,0,0,0,[]⟩:Sg)) (out:=o) rfl (fun i j _ _=>.refl _) (a5e (.refl _) (.refl _) (.refl _) (.refl _) (.refl _))))).wp ?_
    refine ru 11 ?_
    refine rvl (a0h (ts.getD i default).kind) (a2T om hkk) ?_
    refine ru 1 ?_
    refine a0l 111 (xs:=[_,_,_]) (pre:=[(9001,_),(9002,_)]) (ih i him _ g (c+1) (o++[(⟨4,0,0,0,[]⟩:Sg)]) (inB 3 (ts.getD i default).kind) om) ⟨rfl,⟨rfl,⟨rfl,trivial⟩⟩⟩ (a0g rfl (a0g rfl a0e)) rfl rfl (fun g3 c3 hx3=>?_)
    (try dsimp only)
    refine ru 7 ?_
    exact hL2 ((i+1,(o++[(⟨4,0,0,0,[]⟩:Sg)])++a1n (inB 3 (ts.getD i default).kind) (ts.getD i default).sig,g3)) _ _ (by (try dsimp only);exact ⟨him,by rw [hoo,a3G 3 ts i him,decide_eq_false (show ¬ i=0 by omega)];simp [orS]⟩) (by (try dsimp only);omega) (a0c rfl (Nat.le_refl _) tsa hsa)
   refine ru 13 ?_
   refine rvl (a0h (ts.getD i default).kind) (a2T om hkk) ?_
   refine ru 1 ?_
   refine a0l 111 (xs:=[_,_,_]) (pre:=[(9001,_),(9002,_)]) (ih i him _ g gg o (inB 3 (ts.getD i default).kind) om) ⟨rfl,⟨rfl,⟨rfl,trivial⟩⟩⟩ (a0g rfl (a0g rfl a0e)) rfl rfl (fun g3 c4 hx4=>?_)
   (try dsimp only)
   refine ru 7 ?_
   exact hL2 ((i+1,o++a1n (inB 3 (ts.getD i default).kind) (ts.getD i default).sig,g3)) _ _ (by (try dsimp only);exact ⟨him,by rw [hoo,a3G 3 ts i him,decide_eq_true (show i=0 by omega)];simp [orS]⟩) (by (try dsimp only);omega) (a0c rfl (Nat.le_refl _) tsa hsa)
  have hit:i=ts.length:=om
  refine ru 2 ?_
  refine a0d ?_
  refine ru 8 ?_
  refine wdc (fun hr8 hc8=>?_) (fun hr8 hc8=>?_)
  ·skip
   exfalso;rw [hc0] at hr8;cases hr8
  refine ru 1 ?_
  refine a1H ?_
  refine a1u ok hX a3m.one rfl  [] rfl a0e (gg) (trivial) (by rfl) (by rfl) (kza) ?_
  exact ⟨⟨_,rfl,b4Q rfl rfl (by rw [hw0 hc8,hoo,hit,List.take_length,ho];rfl)⟩,⟨⟨_,rfl,b0j (by rw [hw0 hc8,hoo,hit,List.take_length,ho];rfl)⟩,trivial⟩⟩
 exfalso;simp at hr4
theorem b5e:∀ ts:List T,ts.length≤T.sizeL ts
 | []=>Nat.le_refl _
 | t::ts=>by have:=b5e ts;have:=t.size_pos;simp only [List.length_cons,T.sizeL];omega
mutual
theorem b0q (e:List Pt) (he:e.length≤100000):∀ (t:T) (b:Nat),t.ok=true→AtP e b (T.flat b t)→c0a e b t
  | .name s,b,_,hat=>b9C e b he s hat
  | .times lo hi t, b, h, hat => by
    simp only [T.ok,Bool.and_eq_true] at h
    exact b7z e b he lo hi t (b0q e he t b h.2 (AtP.mono_times hat)) hat
  | .many k ts, b, h, hat => by
    simp only [T.ok,Bool.and_eq_true,Bool.or_eq_true,decide_eq_true_eq] at h
    have hl:ts.length≤100000:=by have:=b5e ts;have:=(a3Y hat).2;simp only [T.size] at this;omega
    have ih:=b2m e he ts h.2
    rcases h.1.1 with hk | hk
    · subst hk;exact c1U e b he ts h.2 hl (fun i hi=>ih i hi _ (a8d hat hi)) hat
    · subst hk;exact b6d e b he ts h.2 hl (fun i hi=>ih i hi _ (a8d hat hi)) hat
theorem b2m (e:List Pt) (he:e.length≤100000):∀ ts:List T,T.okL ts=true→∀ i,i < ts.length→∀ b,AtP e b (T.flat b (ts.getD i default))→c0a e b (ts.getD i default)
  | [],_,i,hi,_,_=>absurd hi (Nat.not_lt_zero _)
  | t :: ts, h, i, hi, b, hat => by
    simp only [T.okL,Bool.and_eq_true] at h
    cases i with
    | zero=>exact b0q e he t b h.1 hat
    | succ i=>have:=b2m e he ts h.2 i (by simpa using hi) b (by simpa using hat);simpa using this
end
end Go.Proofs.YtjdmfohncgkdoaaGreatDoor
namespace Go.Proofs.YtjdmfohncgkdoaaGreatDoor
set_option linter.unusedSimpArgs false
set_option linter.unusedVariables false
set_option maxRecDepth 100000
theorem b7x {s:List UInt8} (h:nameV s=true):SgW ⟨1,0,0,0,s⟩:=by
 unfold nameV at h
 split at h
 ·rename_i x hx
  simp only [Bool.and_eq_true,decide_eq_true_eq] at h
  have:=kd1 (a8C hx x (by simp)) h.1
  rw [h.2] at this;exact this
 ·cases h
theorem b8L {s:List UInt8} (h:nameV s=true):s.length≤12:=by
 have:=b7x h
 cases this with
 | name h1 _ _=>exact h1
theorem c3a {lo hi:Int} (h:(decide (0≤lo)&&decide (lo≤20)&&(decide (hi=-1)||decide ((if 1 > lo then 1 else lo)≤hi)&&decide (hi≤20)))=true):TimesOk lo hi:=by
 simp only [Bool.and_eq_true,Bool.or_eq_true,decide_eq_true_eq] at h
 refine ⟨h.1,?_⟩
 rcases h.2 with h2 | h2
 ·exact .inl h2
 ·right
  have:=h2.1
  split at this <;> omega
theorem c1z {b:Bool} {l:List Sg} (h:∀ x∈l,SgW x):∀ x∈a1n b l,SgW x:=by
 unfold a1n
 split
 ·intro x hx
  simp only [List.append_assoc,List.mem_append,List.mem_singleton] at hx
  rcases hx with rfl | hx | rfl
  ·exact .open_
  ·exact h x hx
  ·exact .shut
 ·exact h
mutual
theorem c0p:∀ t:T,t.ok=true→∀ x∈t.sig,SgW x
  | .name s, h => fun x hx => by
    simp only [T.sig,List.mem_singleton] at hx
    subst hx;exact b7x (by simpa [T.ok] using h)
  | .times lo hi t, h => fun x hx => by
    simp only [T.ok] at h
    have h1:=h
    rw [Bool.and_eq_true] at h1
    simp only [T.sig,List.mem_append,List.mem_singleton] at hx
    rcases hx with hx | rfl
    · exact c1z (c0p t h1.2) x hx
    · exact .times (c3a h1.1)
  | .many k ts, h => by
    simp only [T.ok,Bool.and_eq_true] at h
    simp only [T.sig]
    exact c0V k ts h.2 true
theorem c0V (k:Int):∀ ts:List T,T.okL ts=true→∀ f,∀ x∈T.sigL k f ts,SgW x
  | [],_,f=>fun x hx=>by simp [T.sigL] at hx
  | t :: ts, h, f => fun x hx => by
    simp only [T.okL,Bool.and_eq_true] at h
    simp only [T.sigL,List.append_assoc,List.mem_append] at hx
    rcases hx with hx | hx | hx
    · unfold orS at hx
      split at hx
      · simp only [List.mem_singleton] at hx;subst hx;exact .or_
      · cases hx
    · exact c1z (c0p t h.1) x hx
    · exact c0V k ts h.2 false x hx
end
mutual
theorem a6H:∀ (t:T) (b:Nat),t.ok=true→∀ x∈T.flat b t,x.kids.length≤t.size∧x.name.length≤12
  | .name s, b, h => fun x hx => by
    simp only [T.flat,List.mem_singleton] at hx
    subst hx;exact ⟨Nat.zero_le _,b8L (by simpa [T.ok] using h)⟩
  | .times lo hi t, b, h => fun x hx => by
    simp only [T.ok,Bool.and_eq_true] at h
    simp only [T.flat,List.mem_append,List.mem_singleton] at hx
    rcases hx with hx | rfl
    · have:=a6H t b h.2 x hx
      exact ⟨Nat.le_trans this.1 (by simp only [T.size];omega),this.2⟩
    · exact ⟨by show 1≤_;simp only [T.size];omega,Nat.zero_le _⟩
  | .many k ts, b, h => fun x hx => by
    simp only [T.ok,Bool.and_eq_true] at h
    simp only [T.flat,List.mem_append,List.mem_singleton] at hx
    rcases hx with hx | rfl
    · have:=a8q ts b h.2 x hx
      exact ⟨Nat.le_trans this.1 (by simp only [T.size];omega),this.2⟩
    · refine ⟨?_,Nat.zero_le _⟩
      show (rootsL b ts).length≤_
      rw [a1L]
      have:∀ ts:List T,ts.length≤T.sizeL ts:=fun ts=>by
        induction ts with
        | nil=>exact Nat.le_refl _
        | cons t ts ih=>have:=t.size_pos;simp only [List.length_cons,T.sizeL];omega
      have:=this ts
      simp only [T.size];omega
theorem a8q:∀ (ts:List T) (b:Nat),T.okL ts=true→∀ x∈T.flatL b ts,x.kids.length≤T.sizeL ts∧x.name.length≤12
  | [],b,_=>fun x hx=>by simp [T.flatL] at hx
  | t :: ts, b, h => fun x hx => by
    simp only [T.okL,Bool.and_eq_true] at h
    simp only [T.flatL,List.mem_append] at hx
    rcases hx with hx | hx
    · have:=a6H t b h.1 x hx
      exact ⟨Nat.le_trans this.1 (by simp only [T.sizeL];omega),this.2⟩
    · have:=a8q ts _ h.2 x hx
      exact ⟨Nat.le_trans this.1 (by simp only [T.sizeL];omega),this.2⟩
end
theorem c2t {l:List Sg} {t t':T} (h:Seg l 3 0 l.length t) (h':Seg l 3 0 l.length t'):t=t':=by
 have e:a9g l 3 l.length:=⟨fun _=>by rw [b0Y (Nat.le_refl _)];decide,fun _=>by rw [b0Y (Nat.le_refl _)];decide⟩
 exact (c3x h h' e e).2
end Go.Proofs.YtjdmfohncgkdoaaGreatDoor
namespace Go.Proofs.YtjdmfohncgkdoaaGreatDoor
set_option linter.unusedSimpArgs false
set_option linter.unusedVariables false
set_option maxRecDepth 100000
set_option maxHeartbeats 1000000
open Go.RowKit
theorem b8k {l:List Pt} {i:Nat} (h:i < l.length):l.getD i default∈l:=by
 rw [List.getD_eq_getElem?_getD,List.getElem?_eq_getElem h];exact List.getElem_mem h
theorem b4U {t:T} (h:t.ok=true) (hs:t.size≤100000):PtB (T.flat 0 t):=by
 refine ⟨by rw [T.flat_len];exact hs,fun i hi=>?_⟩
 have:=a6H t 0 h _ (b8k hi)
 omega
theorem b5C (t:T) (h:t.ok=true) (hs:t.size≤250):a0q Tryz.prog 56 [a5N (T.flat 0 t)] (a0p (a6N t.sig)):=by
 have hB:=b4U h (by omega)
 have hfl:=T.flat_len 0 t
 have hsl:=a8b t h
 have hps:=t.size_pos
 have hR:=b8t (T.flat 0 t) hB
 rw [a8I h] at hR
 have hat:AtP (T.flat 0 t) 0 (T.flat 0 t):=⟨[],[],by simp,rfl⟩
 refine a0m Tryz.func56 rfl kr _ _ _ rfl 25 rfl rfl (fun w F=>?_)
 refine ru 13 ?_
 first
 | refine stg 7 (fun hb=>a0i (xs:=[_]) (hR) ⟨rfl,trivial⟩ ⟨(Fz.eq rfl),trivial⟩) rfl rfl rfl rfl rfl ?_
 | refine sth 7 (fun hb=>a0i (xs:=[_]) (hR) ⟨rfl,trivial⟩ ⟨(Fz.eq rfl),trivial⟩) rfl rfl rfl rfl rfl ?_
 refine ru 4 ?_
 refine wdc (fun hr0 hc0=>?_) (fun hr0 hc0=>?_)
 ·skip
  exfalso;have h:=hr0;simp at h;rw [h] at hfl;simp at hfl;omega
 refine ru 6 ?_
 refine a0t 14 (a5U (id:=9001) (sz:=2) rfl rfl rfl (by decide) (by decide)) rfl rfl a0e rfl rfl (c':=1) rfl ?_
 refine ru 4 ?_
 refine (a1q 9001 1 9002 5 149 (a9y []) (shF (T.flat 0 t) 1 0) rfl rfl (fun j hj=>by match j,hj with | 0,_=>exact .inr rfl | 1,_=>exact .inl ⟨rfl,rfl⟩) (by decide) (by decide) (c':=2) rfl).wp ?_
 refine ru 5 ?_
 refine rvl (a0h ((0+t.size - 1:Nat):Int)) (congrArg a0h (show ((T.flat 0 t).length:Int) - 1=((0+t.size - 1:Nat):Int) by omega)) ?_
 refine a0l 19 (xs:=[_,_,_]) (pre:=[(9001,_),(9002,_)]) (b0q (T.flat 0 t) hB.1 t 0 h hat _ 0 1 [] false (by show 0+t.sig.length≤_;omega)) ⟨rfl,⟨rfl,⟨rfl,trivial⟩⟩⟩ (a0g rfl (a0g rfl a0e)) rfl rfl (fun g3 c1 hx1=>?_)
 (try dsimp only)
 refine ru 8 ?_
 refine (a2F 23 [(9002,_)] rfl (a0g rfl a0e) rfl ((show Fz _ _ (a3B ([]++a1n false t.sig)) from a1x (l:=[]++a1n false t.sig) (enc:=sgF) (d:=default) (List.mem_cons_self ..) rfl rfl (Nat.le_refl _) (fun i j hi hj=>b3K _ j)))).seq ?_
 refine cll (b7l t.sig om (fun x hx=>(c0p t h x hx).ok)) ?_
 refine ru 4 ?_
 refine rt1 ?_
 exact Frz.fz
theorem b3a {s:List UInt8} {r:List Pt×Int×Int} (h:ParseIs s r):PtB r.1∧(r.2.2=0→b1K r.1=true):=by
  have hB0:PtB ([]:List Pt):=⟨Nat.zero_le _,fun i hi=>absurd hi (Nat.not_lt_zero _)⟩
  have hlen:=a6A s
  cases h with
  | err e hv=>exact ⟨hB0,fun h=>absurd h (a7M hv)⟩
  | none hv=>exact ⟨hB0,fun _=>rfl⟩
  | odd _ _ _ _ _ _=>exact ⟨hB0,fun h=>absurd (show (2:Int)=0 from h) (by decide)⟩
  | end_ _ _ _ _=>exact ⟨hB0,fun h=>absurd (show (5:Int)=0 from h) (by decide)⟩
  | ok l t hv hs =>
    rw [hv] at hlen
    have hll:l.length≤200:=hlen
    have hk:=b8Z (a8C hv) hs
    have hz:=a3b hs
    exact ⟨b4U hk (by omega),fun _=>a8I hk⟩
end Go.Proofs.YtjdmfohncgkdoaaGreatDoor
namespace Go.Proofs.YtjdmfohncgkdoaaGreatDoor
set_option linter.unusedSimpArgs false
set_option linter.unusedVariables false
end Go.Proofs.YtjdmfohncgkdoaaGreatDoor
namespace Go.Proofs.YtjdmfohncgkdoaaGreatDoor
set_option linter.unusedSimpArgs false
set_option linter.unusedVariables false
set_option maxRecDepth 100000
set_option maxHeartbeats 1000000
open Go.RowKit
theorem b7Z:a0q Tryz.prog 56 [a5N []] (a0p []):=by
 have hR:=b8t [] ⟨Nat.zero_le _,fun i hi=>absurd hi (Nat.not_lt_zero _)⟩
 refine a0m Tryz.func56 rfl kr _ _ _ rfl 25 rfl rfl (fun w F=>?_)
 refine ru 13 ?_
 first
 | refine stg 7 (fun hb=>a0i (xs:=[_]) (hR) ⟨rfl,trivial⟩ ⟨(Fz.eq rfl),trivial⟩) rfl rfl rfl rfl rfl ?_
 | refine sth 7 (fun hb=>a0i (xs:=[_]) (hR) ⟨rfl,trivial⟩ ⟨(Fz.eq rfl),trivial⟩) rfl rfl rfl rfl rfl ?_
 refine ru 4 ?_
 refine wdc (fun hr0 hc0=>?_) (fun hr0 hc0=>?_)
 ·refine ru 7 ?_
  refine rt1 ?_
  exact .imm _
 exfalso;have h:=hr0;simp at h
theorem b4V (k:Int) (out:List Pt) (ks:List Int):∃ y,a9h k out ks y:=by
 unfold a9h
 split
 ·exact ⟨(0,out,ks.getD 0 0),rfl⟩
 ·exact ⟨(0,out++[⟨k,0,0,[],ks⟩],(out.length:Int)),rfl⟩
theorem c3m {l:List Sg} (hk:b6q l) (hne:l≠[]) {p:Nat} (hp:p≤l.length) (out:List Pt) (hc:∀ p',p < p'→p'≤l.length→∀ out,∃ x,a5J l 3 p' out x):∃ x,a5J l 1 p out x:=by
  by_cases h1:kd l p=1
  · by_cases h5:kd l (p+1)=5
    · exact ⟨_,b4j (g:=0) h1 h5⟩
    · exact ⟨_,b9a (g:=0) h1 h5⟩
  · by_cases h2:kd l p=2
    · have hlt:=a2D (l:=l) (i:=p) (by rw [h2];decide)
      obtain ⟨⟨t,q,g,o,r⟩,hx⟩:=hc (p+1) (by omega) (by omega) out
      cases t with
      | none=>exact ⟨_,b8m hk hx h2 (.inl rfl)⟩
      | some t =>
        by_cases h3:kd l q=3
        · by_cases h5:kd l (q+1)=5
          · exact ⟨_,b2c (g':=0) hx h2 h3 h5⟩
          · exact ⟨_,b4F hx h2 h3 h5⟩
        · exact ⟨_,b8m hk hx h2 (.inr h3)⟩
    · exact ⟨⟨none,p,0,out,-1⟩,b1I hne hp h1 h2,by simp⟩
theorem b8P {l:List Sg} {p:Nat} {out:List Pt} (hi:∀ p',p≤p'→p'≤l.length→∀ out,∃ x,a5J l 1 p' out x):∀ (n:Nat) (bad:Bool) (q:Nat) (o:List Pt) (ks:List Int),2 * (l.length - q)+(if bad then 0 else 1) < n→c1j l p out bad q o ks→∃ x,a5J l 2 p out x
  | 0,_,_,_,_,h,_=>absurd h (Nat.not_lt_zero _)
  | n + 1, bad, q, o, ks, h, hI => by
    by_cases hk:bad=true∨(kd l q≠1∧kd l q≠2)
    · obtain ⟨tt,_,hd⟩:=b4h hI hk
      obtain ⟨y,hy⟩:=b4V 2 o ks
      exact ⟨_,hd y hy⟩
    · have hb:bad=false:=by cases bad with | true=>exact absurd (.inl rfl) hk | false=>rfl
      subst hb
      have hkq:kd l q=1∨kd l q=2:=by
        by_cases h1:kd l q=1
        · exact .inl h1
        · by_cases h2:kd l q=2
          · exact .inr h2
          · exact absurd (.inr ⟨h1,h2⟩) hk
      obtain ⟨⟨t,q',g,o',r⟩,hx⟩:=hi q hI.2.1 hI.2.2.1 o
      have:=b7c hx
      exact b8P hi n t.isNone q' o' (ks++[r]) (by omega) (b4m hI hkq hx)
theorem c3O {l:List Sg} {p:Nat} (hp:p≤l.length) (out:List Pt) (hi:∀ p',p≤p'→p'≤l.length→∀ out,∃ x,a5J l 1 p' out x):∃ x,a5J l 2 p out x:=by
 obtain ⟨⟨t,q,g,o,r⟩,hx⟩:=hi p (Nat.le_refl _) hp out
 exact b8P hi _ _ _ _ _ (Nat.lt_succ_self _) (b2s hx)
theorem c1a {l:List Sg} {p:Nat} {out:List Pt} (hi:∀ p',p≤p'→p'≤l.length→∀ out,∃ x,a5J l 2 p' out x):∀ (n:Nat) (bad:Bool) (q:Nat) (o:List Pt) (ks:List Int),2 * (l.length - q)+(if bad then 0 else 1) < n→ChI l p out bad q o ks→∃ x,a5J l 3 p out x
  | 0,_,_,_,_,h,_=>absurd h (Nat.not_lt_zero _)
  | n + 1, bad, q, o, ks, h, hI => by
    by_cases hk:bad=true∨kd l q≠4
    · obtain ⟨tt,_,hd⟩:=b7U hI hk
      obtain ⟨y,hy⟩:=b4V 3 o ks
      exact ⟨_,hd y hy⟩
    · have hb:bad=false:=by cases bad with | true=>exact absurd (.inl rfl) hk | false=>rfl
      subst hb
      have hkq:kd l q=4:=Classical.byContradiction fun h'=>hk (.inr h')
      have hlt:=a2D (l:=l) (i:=q) (by rw [hkq];decide)
      have hpq:=hI.2.1
      obtain ⟨⟨t,q',g,o',r⟩,hx⟩:=hi (q+1) (by omega) (by omega) o
      have:=b7v hlt hx
      exact c1a hi n t.isNone q' o' (ks++[r]) (by omega) (b6w hI hkq hx)
theorem b7i {l:List Sg} {p:Nat} (hp:p≤l.length) (out:List Pt) (hi:∀ p',p≤p'→p'≤l.length→∀ out,∃ x,a5J l 2 p' out x):∃ x,a5J l 3 p out x:=by
 obtain ⟨⟨t,q,g,o,r⟩,hx⟩:=hi p (Nat.le_refl _) hp out
 exact c1a hi _ _ _ _ _ (Nat.lt_succ_self _) (b4d hx)
theorem b7D {l:List Sg} (hk:b6q l) (hne:l≠[]):∀ n p,l.length - p < n→p≤l.length→∀ out,∃ x,a5J l 3 p out x
 | 0,p,h,_,_=>absurd h (Nat.not_lt_zero _)
 | n+1,p,h,hp,out=>b7i hp out fun p1 h1 hp1 out1=>c3O hp1 out1 fun p2 h2 hp2 out2=>c3m hk hne hp2 out2 fun p3 h3 hp3 out3=>b7D hk hne n p3 (by omega) hp3 out3
theorem b4G (s:List UInt8):∃ r,ParseIs s r:=by
  cases hv:lexV s with
  | error e=>exact ⟨_,.err e hv⟩
  | ok l =>
    by_cases hne:l=[]
    · subst hne;exact ⟨_,.none hv⟩
    · have hk:=c1q (a8C hv)
      obtain ⟨x,hx⟩:=b7D hk hne _ 0 (Nat.lt_succ_self _) (Nat.zero_le _) []
      by_cases hq:x.q < l.length
      · exact ⟨_,b1Y hv hk hne hx hq⟩
      · cases hb : x.t.isNone with
        | true=>exact ⟨_,b1s hv hne hx (by omega) hb⟩
        | false=>exact ⟨_,b4g hv hx (by omega) hb⟩
theorem c4a {l:List Sg} {t:T} (h:Seg l 3 0 l.length t):l≠[]:=fun e=>by subst e;have:=a1f h;simp at this
theorem b1G {s:List UInt8} {r r':List Pt×Int×Int} (h:ParseIs s r) (h':ParseIs s r'):r=r':=by
  cases h with
  | err e hv => cases h' with
    | err e' hv'=>rw [hv] at hv';injection hv' with e1;rw [e1]
    | none hv'=>rw [hv] at hv';cases hv'
    | odd _ _ hv'=>rw [hv] at hv';cases hv'
    | end_ _ hv'=>rw [hv] at hv';cases hv'
    | ok _ _ hv'=>rw [hv] at hv';cases hv'
  | none hv => cases h' with
    | err e' hv'=>rw [hv] at hv';cases hv'
    | none hv'=>rfl
    | odd l _ hv' hne=>rw [hv] at hv';injection hv' with e1;exact absurd e1.symm hne
    | end_ l hv' hne=>rw [hv] at hv';injection hv' with e1;exact absurd e1.symm hne
    | ok l _ hv' hs=>rw [hv] at hv';injection hv' with e1;exact absurd e1.symm (c4a hs)
  | odd l q hv hne hq hc => cases h' with
    | err e' hv'=>rw [hv] at hv';cases hv'
    | none hv'=>rw [hv] at hv';injection hv' with e1;exact absurd e1 hne
    | odd l' q' hv' hne' hq' hc'=>rw [hv] at hv';injection hv' with e1;subst e1;rw [hc] at hc';injection hc' with e2;rw [show q=q' by omega]
    | end_ l' hv' hne' hc'=>rw [hv] at hv';injection hv' with e1;subst e1;rw [hc] at hc';injection hc' with e2 e3;cases e3
    | ok l' t hv' hs=>rw [hv] at hv';injection hv' with e1;subst e1;rw [a6w hs] at hc;injection hc with e2;omega
  | end_ l hv hne hc => cases h' with
    | err e' hv'=>rw [hv] at hv';cases hv'
    | none hv'=>rw [hv] at hv';injection hv' with e1;exact absurd e1 hne
    | odd l' q' hv' hne' hq' hc'=>rw [hv] at hv';injection hv' with e1;subst e1;rw [hc] at hc';injection hc' with e2 e3;cases e3
    | end_ l' hv' hne' hc'=>rfl
    | ok l' t hv' hs=>rw [hv] at hv';injection hv' with e1;subst e1;rw [a6w hs] at hc;injection hc with e2 e3;cases e3
  | ok l t hv hs =>
    cases h' with
    | err e' hv'=>rw [hv] at hv';cases hv'
    | none hv'=>rw [hv] at hv';injection hv' with e1;exact absurd e1 (c4a hs)
    | odd l' q' hv' hne' hq' hc'=>rw [hv] at hv';injection hv' with e1;subst e1;rw [a6w hs] at hc';injection hc' with e2;omega
    | end_ l' hv' hne' hc'=>rw [hv] at hv';injection hv' with e1;subst e1;rw [a6w hs] at hc';injection hc' with e2 e3;cases e3
    | ok l' t' hv' hs'=>rw [hv] at hv';injection hv' with e1;subst e1;rw [c2t hs hs']
noncomputable def exprV (s:List UInt8):List Pt×Int×Int:=Classical.choose (b4G s)
theorem a9V (s:List UInt8):ParseIs s (exprV s):=Classical.choose_spec (b4G s)
theorem b0O {s:List UInt8} {r:List Pt×Int×Int} (h:ParseIs s r):exprV s=r:=b1G (a9V s) h
end Go.Proofs.YtjdmfohncgkdoaaGreatDoor
namespace Go.Proofs.YtjdmfohncgkdoaaGreatDoor
set_option linter.unusedSimpArgs false
set_option linter.unusedVariables false
open Go.Lib (index count splitK indexByte)
def a0j (c:UInt8):List UInt8→List (List UInt8)
 | []=>[[]]
 | b::l=>if b=c then []::a0j c l else (b::(a0j c l).headD [])::(a0j c l).tail
theorem a2p (c:UInt8) (l:List UInt8):a0j c l≠[]:=by cases l with
 | nil=>simp [a0j]
 | cons b l=>simp only [a0j];split <;> simp
theorem a5R (c:UInt8) (l:List UInt8):a0j c l=(a0j c l).headD []::(a0j c l).tail:=by
 cases h:a0j c l with
 | nil=>exact absurd h (a2p c l)
 | cons a t=>rfl
theorem a5V (b:UInt8) (l:List UInt8) (c:UInt8):index (b::l) [c]=if b=c then 0 else if index l [c]=-1 then -1 else index l [c]+1:=by
 rw [Lib.index_one,Lib.index_one]
 simp only [indexByte]
 by_cases h:b=c
 ·rw [if_pos h,if_pos (by simp [h])]
 ·rw [if_neg h,if_neg (by simp [h])]
  by_cases h2:indexByte l c=-1
  ·rw [if_pos h2,if_pos (by simp [h2])]
  ·rw [if_neg h2,if_neg (by simp [h2])]
theorem b2G (b:UInt8) (l:List UInt8) (c:UInt8):count (b::l) [c]=if b=c then count l [c]+1 else count l [c]:=by
 rw [Lib.count_one,Lib.count_one,List.count_cons]
 by_cases h:b=c
 ·simp [h]
 ·simp [h]
theorem b6J (c:UInt8) (l:List UInt8):splitK [c] 0 (count l [c]) l=a0j c l:=by
  induction l with
  | nil=>rfl
  | cons b l ih =>
    rw [b2G]
    simp only [a0j]
    by_cases h:b=c
    · rw [if_pos h,if_pos h]
      unfold splitK
      have hi:index (b::l) [c]=0:=by rw [a5V,if_pos h]
      rw [if_neg (by rw [hi];decide),hi]
      simp only [Int.toNat_zero,Nat.zero_add,List.length_cons,List.length_nil,List.drop_succ_cons,List.drop_zero,List.take_zero,Nat.add_zero]
      rw [ih]
    · rw [if_neg h,if_neg h]
      rw [←ih]
      by_cases h2:index l [c]=-1
      · have hc:count l [c]=0:=Lib.count_miss h2
        rw [hc];rfl
      · have hn:=Lib.index_one l c
        have hge:=Lib.indexByte_ge l c
        obtain ⟨i,hi⟩:∃ i:Nat,index l [c]=i:=⟨(index l [c]).toNat,by omega⟩
        have hc:count l [c]=1+count (l.drop (i+1)) [c]:=Lib.count_hit (by simp) hi
        rw [hc,Nat.add_comm 1]
        unfold splitK
        rw [a5V,if_neg h,if_neg h2,hi,if_neg (by simp <;> omega),if_neg (by simp <;> omega)]
        simp only [Int.toNat_natCast,List.length_cons,List.length_nil,Nat.zero_add,Nat.add_zero,List.headD_cons,List.tail_cons]
        have e:((i:Int)+1).toNat=i+1:=by omega
        rw [e]
        simp [List.take_succ_cons,List.drop_succ_cons]
def a6p (ls:List (List UInt8)):Nat:=(ls.map List.length).sum
theorem a8B (c:UInt8) (l:List UInt8):a6p (a0j c l)+(a0j c l).length=l.length+1:=by
  induction l with
  | nil=>rfl
  | cons b l ih =>
    simp only [a0j]
    obtain ⟨a,t,h'⟩:∃ a t,a0j c l=a::t:=⟨_,_,a5R c l⟩
    rw [h'] at ih ⊢
    by_cases h:b=c
    · rw [if_pos h];simp only [a6p,List.map_cons,List.sum_cons,List.length_cons,List.length_nil] at *
      omega
    · rw [if_neg h];simp only [a6p,List.map_cons,List.sum_cons,List.length_cons,List.headD_cons,List.tail_cons] at *
      omega
theorem a2P (c:UInt8) (l:List UInt8):(a0j c l).length≤l.length+1:=by have:=a8B c l;omega
theorem b5q {ls:List (List UInt8)} {w:List UInt8} (h:w∈ls):w.length≤a6p ls:=by
  induction ls with
  | nil=>cases h
  | cons a t ih =>
    simp only [a6p,List.map_cons,List.sum_cons] at *
    rcases List.mem_cons.1 h with h | h
    · subst h;omega
    · have:=ih h;omega
theorem b6U {c:UInt8} {l w:List UInt8} (h:w∈a0j c l):w.length≤l.length:=by
 have h1:=b5q h
 have h2:=a8B c l
 have h3:0 < (a0j c l).length:=List.length_pos_iff.2 (a2p c l)
 omega
def b1h (w:List UInt8) (ls:List (List UInt8)):List (List UInt8):=(w++ls.headD [])::ls.tail
theorem b0a (c:UInt8) (l:List UInt8):b1h [] (a0j c l)=a0j c l:=(a5R c l).symm
theorem b7G (c b:UInt8) (w l:List UInt8) (h:¬ b=c):b1h w (a0j c (b::l))=b1h (w++[b]) (a0j c l):=by
 simp [b1h,a0j,h]
theorem b4Y (c:UInt8) (w l:List UInt8):b1h w (a0j c (c::l))=w::a0j c l:=by
 simp [b1h,a0j]
theorem c0L (c:UInt8) (w:List UInt8):b1h w (a0j c [])=[w]:=by simp [b1h,a0j]
theorem a8l (c:UInt8) (l:List UInt8) (h:∀ b∈l,b≠c):a0j c l=[l]:=by
  induction l with
  | nil=>rfl
  | cons b l ih =>
    simp only [a0j]
    rw [if_neg (h b (by simp)),ih (fun x hx=>h x (by simp [hx]))]
    rfl
def a4s (w:List UInt8):Bool:=!w.isEmpty&&w.all a3j
def a2m (l:List UInt8):Option (List (List UInt8)):=if l=[] then some [] else if (a0j 32 l).all a4s=true then some (a0j 32 l) else none
def a1w (l:List UInt8):List (List UInt8)×Nat×Int :=
 if 65536 < l.length then ([],0,4) else if l=[] then ([],0,0) else if (a0j 10 l).getLast (a2p 10 l)=[] then ((a0j 10 l).dropLast,0,0) else ([],(a0j 10 l).length,2)
def joinL:List (List UInt8)→List UInt8
 | []=>[]
 | [w]=>w
 | w::v::r=>w++32::joinL (v::r)
theorem b7n (w:List UInt8) (ls:List (List UInt8)) (h:ls≠[]):joinL (b1h w ls)=w++joinL ls:=by
 match ls,h with
 | [a],_=>simp [b1h,joinL]
 | a::b::r,_=>simp [b1h,joinL]
theorem join_cons (w:List UInt8) (ls:List (List UInt8)) (h:ls≠[]):joinL (w::ls)=w++32::joinL ls:=by
 cases ls with
 | nil=>exact absurd rfl h
 | cons a t=>rfl
theorem b5X (l:List UInt8):joinL (a0j 32 l)=l:=by
  induction l with
  | nil=>rfl
  | cons b l ih =>
    by_cases h:b=32
    · subst h
      have e:a0j 32 (32::l)=[]::a0j 32 l:=by simp [a0j]
      rw [e,join_cons _ _ (a2p _ _),ih];rfl
    · have e:a0j 32 (b::l)=b1h [b] (a0j 32 l):=by simp [a0j,h,b1h]
      rw [e,b7n _ _ (a2p _ _),ih];rfl
theorem b5b (ls:List (List UInt8)):Go.Lib.join ls [32]=joinL ls:=by
  match ls with
  | []=>rfl
  | [w]=>exact Go.Lib.join_one w [32]
  | w :: v :: r =>
    have:=b5b (v::r)
    simp only [joinL]
    rw [←this,Go.Lib.join_cons,Go.Lib.join_cons]
    simp [Go.Lib.joinTail]
theorem a6B {l:List UInt8} (hl:l≠[]) {w:List UInt8} (hw:w∈a0j 32 l) (h:a4s w=false):a2m l=none:=by
 unfold a2m
 rw [if_neg hl,if_neg (fun ha=>by rw [List.all_eq_true.1 ha w hw] at h;cases h)]
theorem a9B {l:List UInt8} (hl:l≠[]) (h:∀ w∈a0j 32 l,a4s w=true):a2m l=some (a0j 32 l):=by
 unfold a2m
 rw [if_neg hl,if_pos (List.all_eq_true.2 h)]
theorem a9K (w r:List UInt8) (b:UInt8) (h:a3j b=false):a4s (w++b::r)=false:=by
 unfold a4s
 simp [h]
theorem b8O {w:List UInt8} {j:Nat} (hj:j < w.length) (h:a3j (w.getD j 0)=false):a4s w=false:=by
 have e:w=w.take j++w.getD j 0::w.drop (j+1):=by
  have h1:w.getD j 0=w[j]:=by simp [List.getD_eq_getElem?_getD,hj]
  rw [h1,←List.drop_eq_getElem_cons hj,List.take_append_drop]
 rw [e];exact a9K _ _ _ h
theorem b3h {w:List UInt8} (h0:w≠[]) (h:∀ j,j < w.length→a3j (w.getD j 0)=true):a4s w=true:=by
 unfold a4s
 rw [Bool.and_eq_true]
 refine ⟨by cases w with | nil=>exact absurd rfl h0 | cons a t=>rfl,List.all_eq_true.2 fun b hb=>?_⟩
 obtain ⟨j,hj,rfl⟩:=List.getElem_of_mem hb
 have:=h j hj
 simpa [List.getD_eq_getElem?_getD,hj] using this
theorem a9E (c:UInt8):∀ (w r:List UInt8),(∀ b∈w,b≠c)→a0j c (w++r)=b1h w (a0j c r)
  | [],r,_=>(b0a c r).symm
  | b :: w, r, h => by
    have ih:=a9E c w r (fun x hx=>h x (by simp [hx]))
    simp only [List.cons_append,a0j]
    rw [if_neg (h b (by simp)),ih]
    simp [b1h]
theorem b2u (c:UInt8) (w r:List UInt8) (h:∀ b∈w,b≠c):a0j c (w++c::r)=w::a0j c r:=by
 rw [a9E c w _ h,b4Y]
theorem b3u {l:List UInt8} {p:Nat} (hp:p < l.length):l.drop p=l.getD p 0::l.drop (p+1):=by
 have h1:l.getD p 0=l[p]:=by simp [List.getD_eq_getElem?_getD,hp]
 rw [h1,←List.drop_eq_getElem_cons hp]
theorem b5z {l:List UInt8} {f p:Nat} (hf:f≤p) (hp:p < l.length) (h:∀ b∈(l.drop f).take (p - f),b≠10) (hb:l.getD p 0=10):a0j 10 (l.drop f)=(l.drop f).take (p - f)::a0j 10 (l.drop (p+1)):=by
 have e:l.drop f=(l.drop f).take (p - f)++10::l.drop (p+1):=by
  have h1:(l.drop f).drop (p - f)=l.drop p:=by rw [List.drop_drop];congr 1;omega
  have:=List.take_append_drop (p - f) (l.drop f)
  rw [h1,b3u hp,hb] at this
  exact this.symm
 have:=b2u 10 ((l.drop f).take (p - f)) (l.drop (p+1)) h
 rw [←e] at this
 exact this
theorem b5p {l:List UInt8} {f p:Nat} (hf:f≤p) (hp:p < l.length) (h:∀ b∈(l.drop f).take (p - f),b≠10) (hb:l.getD p 0≠10):∀ b∈(l.drop f).take (p+1 - f),b≠10:=by
 intro b hm
 have e:p+1 - f=p - f+1:=by omega
 have hlt:p - f < (l.drop f).length:=by rw [List.length_drop];omega
 rw [e,List.take_succ_eq_append_getElem hlt] at hm
 rcases List.mem_append.1 hm with hm | hm
 ·exact h b hm
 ·simp only [List.mem_singleton] at hm
  subst hm
  have:(l.drop f)[p - f]=l.getD p 0:=by
   rw [List.getElem_drop]
   simp [List.getD_eq_getElem?_getD,hp,show f+(p - f)=p from by omega]
  rw [this];exact hb
theorem b7q {l:List UInt8} {f:Nat} {out:List (List UInt8)} (h1:a0j 10 l=out++a0j 10 (l.drop f)) (h:∀ b∈l.drop f,b≠10):a0j 10 l=out++[l.drop f]:=by
 rw [a8l 10 _ h] at h1;exact h1
theorem b1e {l:List UInt8} (h0:¬ 65536 < l.length) (h1:l≠[]) {out:List (List UInt8)} {w:List UInt8} (h:a0j 10 l=out++[w]):a1w l=if w=[] then (out,0,0) else ([],out.length+1,2):=by
 unfold a1w
 rw [if_neg h0,if_neg h1]
 have e:(a0j 10 l).getLast (a2p 10 l)=w:=by simp [h]
 rw [e]
 by_cases hw:w=[]
 ·rw [if_pos hw,if_pos hw,h];simp
 ·rw [if_neg hw,if_neg hw,h];simp
end Go.Proofs.YtjdmfohncgkdoaaGreatDoor
namespace Go.Proofs.YtjdmfohncgkdoaaGreatDoor
set_option linter.unusedSimpArgs false
set_option linter.unusedVariables false
set_option maxRecDepth 100000
open Go.Lib (index count indexByte)
abbrev Bs:=List UInt8
def b2W (s:Bs):Bool:=decide (0 < s.length)&&decide (s.length < 13)&&smallZ (bz s 0)&&(List.range s.length).all fun j=>alnumZ (bz s j)
theorem c0K (s:Bs):b2W s=nameV s:=by
  rw [Bool.eq_iff_iff]
  constructor
  · intro h
    unfold b2W at h
    simp only [Bool.and_eq_true,decide_eq_true_eq,List.all_eq_true,List.mem_range] at h
    exact b4b (p:=0) (.name (by omega) h.1.2 h.2)
  · intro h
    have hw:∃ p,SgW ⟨1,p,0,0,s⟩:=by
      unfold nameV at h
      split at h
      · rename_i x hv
        rw [Bool.and_eq_true,decide_eq_true_eq,decide_eq_true_eq] at h
        have hx:=a8C hv x (List.mem_singleton_self _)
        obtain ⟨k,p,a,b,n⟩:=x
        obtain ⟨h1,h2⟩:=h
        simp only at h1 h2
        subst h1;subst h2
        cases hx with
        | name q1 q2 q3=>exact ⟨p,.name q1 q2 q3⟩
      · cases h
    obtain ⟨p,hw⟩:=hw
    cases hw with
    | name q1 q2 q3 =>
      unfold b2W
      simp only [Bool.and_eq_true,decide_eq_true_eq,List.all_eq_true,List.mem_range]
      refine ⟨⟨⟨?_,by omega⟩,q2⟩,q3⟩
      rcases Nat.eq_zero_or_pos s.length with h0 | h0
      · have:s=[]:=List.eq_nil_of_length_eq_zero h0
        subst this
        cases q2
      · exact h0
theorem b5u {s:Bs} {r:List Pt×Int×Int} (h:ParseIs s r):(decide (r.2.2=0)&&decide (r.1.length=1)&&decide ((r.1.getD 0 default).name=s))=nameV s:=by
  rw [Bool.eq_iff_iff]
  constructor
  · intro hh
    simp only [Bool.and_eq_true,decide_eq_true_eq] at hh
    obtain ⟨⟨h0,h1⟩,h2⟩:=hh
    have W0:=b3a h
    cases h with
    | err e hv=>simp at h1
    | none hv=>simp at h1
    | odd l q hv hne hq hc=>simp at h1
    | end_ l hv hne hc=>simp at h1
    | ok l t hv hs =>
      have hk:t.ok=true:=b8Z (a8C hv) hs
      have h1:(T.flat 0 t).length=1:=h1
      rw [T.flat_len] at h1
      cases t with
      | name n =>
        have h2:n=s:=h2
        subst h2;exact hk
      | times lo hi t=>have:=T.size_pos t;simp only [T.size] at h1;omega
      | many k ts =>
        exfalso
        unfold T.ok at hk
        simp only [Bool.and_eq_true,decide_eq_true_eq] at hk
        have h2:=hk.1.2
        simp only [T.size] at h1
        match ts,h2 with
        | a::b::r,_=>have:=T.size_pos a;simp only [T.sizeL] at h1;omega
  · intro hn
    unfold nameV at hn
    split at hn
    · rename_i x hv
      rw [Bool.and_eq_true,decide_eq_true_eq,decide_eq_true_eq] at hn
      have hs:Seg [x] 3 0 1 (.name x.name):=.choice1 _ _ _ (.row1 _ _ _ (.item _ _ _ (.name 0 (by unfold kd;rw [if_pos (by simp)];exact hn.1)) (by unfold kd;rw [if_neg (by simp)];decide)))
      have:=b1G h (.ok [x] _ hv hs)
      rw [this]
      simp [T.flat,hn.2]
    · cases hn
theorem b7f {l:List Sg} {v p q:Nat} {t:T} (h:Seg l v p q t):t.size+p≤q+(v - 1):=by
  induction h with
  | name p h=>simp only [T.size];omega
  | group p q t _ h3 ih=>omega
  | item p q t _ _ ih=>omega
  | times p q t _ h5 ih=>simp only [T.size];omega
  | row1 p q t _ ih=>omega
  | row p q ts c h2 h0 he _ ih =>
    have key:∀ i,i≤ts.length→T.sizeL (ts.take i)+c 0≤c i:=by
      intro i
      induction i with
      | zero=>intro _;simp [T.sizeL]
      | succ i ihi=>intro hi;have a:=ihi (by omega);have b:=ih i hi;rw [a1o ts i hi];omega
    have:=key ts.length (Nat.le_refl _)
    rw [List.take_length,h0,he] at this
    simp only [T.size];omega
  | choice1 p q t _ ih=>omega
  | choice p q ts c e h2 h0 he _ hs ih =>
    have key:∀ i,i < ts.length→T.sizeL (ts.take (i+1))+c 0≤e i+1:=by
      intro i
      induction i with
      | zero=>intro hi;have b:=ih 0 hi;rw [a1o ts 0 hi,a7a];omega
      | succ i ihi=>intro hi;have a:=ihi (by omega);have b:=ih (i+1) hi;have c:=hs i hi;rw [a1o ts (i+1) hi];omega
    have:=key (ts.length - 1) (by omega)
    rw [show ts.length - 1+1=ts.length by omega,List.take_length,h0,he] at this
    simp only [T.size];omega
theorem a9k (s:Bs):(exprV s).1=[]∨∃ t:T,t.ok=true∧t.size≤250∧exprV s=(T.flat 0 t,0,0):=by
  have h:=a9V s
  generalize exprV s=r at h
  have hlen:=a6A s
  cases h with
  | err e hv=>exact .inl rfl
  | none hv=>exact .inl rfl
  | odd l q hv hne hq hc=>exact .inl rfl
  | end_ l hv hne hc=>exact .inl rfl
  | ok l t hv hs =>
    rw [hv] at hlen
    have hll:l.length≤200:=hlen
    have:=b7f hs
    exact .inr ⟨t,b8Z (a8C hv) hs,by omega,rfl⟩
open Classical in
noncomputable def exprS (s:Bs):Bs:=if h:∃ t:T,t.ok=true∧t.size≤250∧exprV s=(T.flat 0 t,0,0) then a6N (Classical.choose h).sig else []
theorem q9 {p:Nat→Prop} (h0:p 0) (h1:p 1) (h2:p 2) (h3:p 3) (h4:p 4) (h5:p 5) (h6:p 6) (h7:p 7) (h8:p 8):∀ j,j < 9→p j:=fun j hj=>by
 match j,hj with
 | 0,_=>exact h0
 | 1,_=>exact h1
 | 2,_=>exact h2
 | 3,_=>exact h3
 | 4,_=>exact h4
 | 5,_=>exact h5
 | 6,_=>exact h6
 | 7,_=>exact h7
 | 8,_=>exact h8
def a8M:List Bs→List Bs→Option (List Bs)
 | [],out=>some out
 | w::r,out=>if nameV w=true∧w∉out then a8M r (out++[w]) else none
def b3r (s:Bs):Option (List Bs):=a8M (a0j 44 s) []
def a1C (s:Bs):Option Int:=match a3f s with
 | some n=>if 0≤n∧n≤999 then some n else none
 | none=>none
def a0Z (s:Bs):Option (Bool×List Bs):=if s=[42] then some (true,[]) else (b3r s).map fun l=>(false,l)
def a4k (c:UInt8):Bs→Bs×Bs×Bool
 | []=>([],[],false)
 | b::l=>if b=c then ([],l,true) else (b::(a4k c l).1,(a4k c l).2.1,(a4k c l).2.2)
theorem c2b (s:Bs) (c:UInt8):Lib.cut s [c]=a4k c s:=by
  induction s with
  | nil=>rfl
  | cons b l ih =>
    unfold Lib.cut at ih ⊢
    rw [a5V]
    show _=(if b=c then ([],l,true) else (b::(a4k c l).1,(a4k c l).2.1,(a4k c l).2.2))
    by_cases h:b=c
    · rw [if_pos h,if_pos h,if_pos (Int.le_refl _)];rfl
    · rw [if_neg h,if_neg h,←ih]
      have hge:=Lib.index_ge l [c]
      by_cases h2:index l [c]=-1
      · rw [if_pos h2,h2];rfl
      · rw [if_neg h2,if_pos (by omega),if_pos (by omega),show (index l [c]+1).toNat=(index l [c]).toNat+1 by omega]
        simp only [List.take_succ_cons]
        rw [show (index l [c]).toNat+1+[c].length=((index l [c]).toNat+[c].length)+1 by omega,List.drop_succ_cons]
theorem b2g {c:UInt8} {s:Bs}:(Lib.indexByte s c=-1→a0j c s=[s])∧(0≤Lib.indexByte s c→a0j c s=s.take (Lib.indexByte s c).toNat::a0j c (s.drop ((Lib.indexByte s c).toNat+1))∧(Lib.indexByte s c).toNat < s.length):=by
  induction s with
  | nil=>exact ⟨fun _=>rfl,fun h=>by cases h⟩
  | cons b l ih =>
    have hge:=Lib.indexByte_ge l c
    simp only [Lib.indexByte,a0j]
    by_cases h:b=c
    · rw [if_pos h,if_pos (by simp [h])]
      exact ⟨(fun h=>by cases h),fun _=>⟨rfl,Nat.succ_pos _⟩⟩
    · rw [if_neg h,if_neg (by simp [h])]
      by_cases h2:Lib.indexByte l c=-1
      · rw [if_pos (by simp [h2]),ih.1 h2]
        exact ⟨fun _=>rfl,fun h=>by cases h⟩
      · rw [if_neg (by simp [h2])]
        obtain ⟨e1,e2⟩:=ih.2 (by omega)
        refine ⟨fun h=>by omega,fun _=>?_⟩
        rw [e1,show (Lib.indexByte l c+1).toNat=(Lib.indexByte l c).toNat+1 by omega]
        exact ⟨rfl,Nat.succ_lt_succ e2⟩
theorem a4i {c:UInt8}:∀ {s w:Bs},w∈a0j c s→w.length≤s.length
  | [], w, h => by
    have:w=[]:=by simpa [a0j] using h
    subst this;exact Nat.le_refl _
  | b :: l, w, h => by
    simp only [a0j] at h
    split at h
    · rcases List.mem_cons.1 h with rfl | h
      · exact Nat.zero_le _
      · exact Nat.le_succ_of_le (a4i h)
    · have hc:=a5R c l
      rcases List.mem_cons.1 h with rfl | h
      · have:(a0j c l).headD []∈a0j c l:=by rw [hc];exact List.mem_cons_self ..
        exact Nat.succ_le_succ (a4i this)
      · exact Nat.le_succ_of_le (a4i (by rw [hc];exact List.mem_cons_of_mem _ h))
theorem b2B {c:UInt8} {s:Bs} {i:Nat} (h:i < (a0j c s).length):((a0j c s).getD i []).length≤s.length :=
 a4i (by rw [List.getD_eq_getElem?_getD,List.getElem?_eq_getElem h];exact List.getElem_mem h)
def c0D {α:Type} (q:α→Bool) (l:List α):Int:=match l.findIdx? q with | some i=>(i:Int) | none=>-1
theorem a3W {α:Type} {q:α→Bool} {l:List α} {d:α} {i:Nat} (hi:i < l.length) (h:q (l.getD i d)=true) (hno:∀ j,j < i→q (l.getD j d)=false):c0D q l=i:=by
 have gi:∀ {j} (h:j < l.length),l.getD j d=l[j]:=fun h=>by rw [List.getD_eq_getElem?_getD,List.getElem?_eq_getElem h];rfl
 unfold c0D
 rw [show l.findIdx? q=some i from ?_]
 rw [List.findIdx?_eq_some_iff_getElem]
 refine ⟨hi,by rw [←gi hi];exact h,fun j hj=>?_⟩
 rw [←gi (by omega:j < l.length),hno j hj];simp
theorem a6m {α:Type} {q:α→Bool} {l:List α} {d:α} (hno:∀ j,j < l.length→q (l.getD j d)=false):c0D q l=-1:=by
 unfold c0D
 rw [show l.findIdx? q=none from ?_]
 rw [List.findIdx?_eq_none_iff]
 intro x hx
 obtain ⟨j,hj,rfl⟩:=List.mem_iff_getElem.1 hx
 have:=hno j hj
 rwa [List.getD_eq_getElem?_getD,List.getElem?_eq_getElem hj] at this
theorem b3e {α:Type} (q:α→Bool) (l:List α):decide (c0D q l≥0)=l.any q:=by
  unfold c0D
  cases h:l.findIdx? q with
  | none =>
    rw [List.findIdx?_eq_none_iff] at h
    symm
    show l.any q=false
    rw [List.any_eq_false]
    exact fun x hx=>by simp [h x hx]
  | some i =>
    rw [List.findIdx?_eq_some_iff_getElem] at h
    obtain ⟨hi,hq,_⟩:=h
    rw [List.any_eq_true.2 ⟨l[i],List.getElem_mem hi,hq⟩]
    simp
structure Nd where
 name:Bs
 groups:List Bs
 inl:Bool
 pick:Bool
 leaf:Bool
 attr:Int
 all:Bool
 marks:List Bs
 expr:Bs
structure Mk where
 name:Bs
 val:Int
 all:Bool
 bars:List Bs
structure Dc where
 nodes:List Nd
 marks:List Mk
deriving instance DecidableEq for Nd
deriving instance DecidableEq for Mk
deriving instance DecidableEq for Dc
def Nd.zero:Nd:=⟨[],[],false,false,false,0,false,[],[]⟩
def Mk.zero:Mk:=⟨[],0,false,[]⟩
def Dc.zero:Dc:=⟨[],[]⟩
instance:Inhabited Nd:=⟨Nd.zero⟩
instance:Inhabited Mk:=⟨Mk.zero⟩
@[reducible] def a2a:Bs:=[103,114,111,117,112]
@[reducible] def a3L:Bs:=[105,110,108,105,110,101]
@[reducible] def a1I:Bs:=[112,105,99,107]
@[reducible] def a1W:Bs:=[97,116,116,114]
@[reducible] def a1j:Bs:=[109,97,114,107,115]
@[reducible] def a7O:Bs:=[118,97,108]
@[reducible] def a3l:Bs:=[98,97,114,115]
@[reducible] def a0S:Bs:=[110,111,100,101]
@[reducible] def a3g:Bs:=[109,97,114,107]
@[reducible] def sText:Bs:=[116,101,120,116]
def a2M (word:Bs) (has:Bool):Int :=
 if a2a=word∧true=has then 0 else if a3L=word∧false=has then 1 else if a1I=word∧false=has then 2 else if a1W=word∧true=has then 3 else if a1j=word∧true=has then 4 else -1
def a1E (i:Int) (n:Nd) (v:Bs):Nd×Bool :=
 if i=0 then (if nameV v=true∧v∉n.groups∧n.groups.length < 4 then ({ n with groups:=n.groups++[v] },true) else (n,false))
 else if i=1 then ({ n with inl:=true },true)
 else if i=2 then ({ n with pick:=true },true)
 else if i=3 then ({ n with attr:=(a3f v).getD 0 },(a1C v).isSome)
 else ({ n with all:=((a0Z v).getD (false,[])).1,marks:=((a0Z v).getD (false,[])).2 },(a0Z v).isSome)
noncomputable def a8T:List Bs→List Bs→Nd→Nd×Bool
  | [],_,n=>(n,true)
  | w :: r, met, n =>
    if w=[58] then ({ n with leaf:=false,expr:=exprS (joinL r) },decide ((exprV (joinL r)).2.2=0))
    else if a2M (a4k 61 w).1 (a4k 61 w).2.2 < 0∨((a4k 61 w).1∈met∧(a4k 61 w).1≠a2a)∨(a1E (a2M (a4k 61 w).1 (a4k 61 w).2.2) n (a4k 61 w).2.1).2=false then (Nd.zero,false)
    else a8T r (met++[(a4k 61 w).1]) (a1E (a2M (a4k 61 w).1 (a4k 61 w).2.2) n (a4k 61 w).2.1).1
noncomputable def a3s (l:List Bs):Nd×Bool:=a8T (l.drop 2) [] ⟨l.getD 1 [],[],false,false,true,0,false,[],[]⟩
def a3p (word:Bs) (m:Mk) (v:Bs):Mk×Bool :=
 if word=a7O then ({ m with val:=(a3f v).getD 0 },(a1C v).isSome)
 else if word=a3l then ({ m with all:=((a0Z v).getD (false,[])).1,bars:=((a0Z v).getD (false,[])).2 },(a0Z v).isSome)
 else (m,false)
def b0f:List Bs→List Bs→Mk→Mk×Bool
  | [],_,m=>(m,true)
  | w :: r, met, m =>
    if (a4k 61 w).2.2=false∨(a3p (a4k 61 w).1 m (a4k 61 w).2.1).2=false∨(a4k 61 w).1∈met then (Mk.zero,false)
    else b0f r (met++[(a4k 61 w).1]) (a3p (a4k 61 w).1 m (a4k 61 w).2.1).1
def a5i (l:List Bs):Mk×Bool:=b0f (l.drop 2) [] ⟨l.getD 1 [],0,false,[]⟩
noncomputable def a1P (d:Dc) (l:List Bs):Dc×Int :=
  if l.length < 2∨nameV (l.getD 1 [])=false then (d,2)
  else if l.getD 0 []=a0S then
    (if (a3s l).2=false then (d,2) else if (a3s l).1.name=sText∨(d.nodes.any fun o=>decide (o.name=(a3s l).1.name))=true then (d,9)
     else if d.nodes.length=24 then (d,4) else (⟨d.nodes++[(a3s l).1],d.marks⟩,0))
  else if l.getD 0 []=a3g then
    (if (a5i l).2=false then (d,2) else if (d.marks.any fun o=>decide (o.name=(a5i l).1.name))=true then (d,9)
     else if d.marks.length=8 then (d,4) else (⟨d.nodes,d.marks++[(a5i l).1]⟩,0))
  else (d,2)
noncomputable def a3M:List Bs→Nat→Dc→Dc×Int×Int
  | [],_,d=>(d,0,0)
  | s :: r, i, d => match a2m s with
    | none=>(Dc.zero,((i+1:Nat):Int),2)
    | some l=>if l=[] then a3M r (i+1) d else if (a1P d l).2=0 then a3M r (i+1) (a1P d l).1 else (Dc.zero,((i+1:Nat):Int),(a1P d l).2)
noncomputable def declV (s:Bs):Dc×Int×Int :=
 if (a1w s).2.2≠0 then (Dc.zero,((a1w s).2.1:Int),(a1w s).2.2) else a3M (a1w s).1 0 Dc.zero
theorem c0J (w:Bs) (r:List Bs):(joinL r).length≤(joinL (w::r)).length:=by
 cases r with
 | nil=>exact Nat.zero_le _
 | cons a r=>show _≤(w++32::joinL (a::r)).length;rw [List.length_append,List.length_cons];omega
theorem a6S:∀ (l:List Bs) (k:Nat),(joinL (l.drop k)).length≤(joinL l).length
 | l,0=>Nat.le_refl _
 | [],k+1=>Nat.le_refl _
 | w::r,k+1=>Nat.le_trans (a6S r k) (c0J w r)
theorem a4y (r met:List Bs) (n:Nd):a8T ([58]::r) met n=({ n with leaf:=false,expr:=exprS (joinL r) },decide ((exprV (joinL r)).2.2=0)):=by
 show (if ([58]:Bs)=[58] then _ else _)=_;rw [if_pos rfl]
theorem a1Q {w:Bs} {r met:List Bs} {n:Nd} {W V:Bs} {H:Bool} (hw:w≠[58]) (hc:a4k 61 w=(W,V,H)) (h:a2M W H < 0∨(W∈met∧W≠a2a)∨(a1E (a2M W H) n V).2=false):a8T (w::r) met n=(Nd.zero,false):=by
 show (if w=[58] then _ else if _ then _ else _)=_
 rw [if_neg hw,hc,if_pos h]
theorem a2g {w:Bs} {r met:List Bs} {n:Nd} {W V:Bs} {H:Bool} (hw:w≠[58]) (hc:a4k 61 w=(W,V,H)) (h:¬ (a2M W H < 0∨(W∈met∧W≠a2a)∨(a1E (a2M W H) n V).2=false)):a8T (w::r) met n=a8T r (met++[W]) (a1E (a2M W H) n V).1:=by
 show (if w=[58] then _ else if _ then _ else _)=_
 rw [if_neg hw,hc,if_neg h]
theorem b6R (W:Bs) (H:Bool) (met:List Bs):a2M W H < 0∨(¬ a2M W H < 0∧W∈met∧W≠a2a)∨(¬ (W∈met∧W≠a2a)∧a2M W H=0)∨(¬ (W∈met∧W≠a2a)∧a2M W H=1)∨(¬ (W∈met∧W≠a2a)∧a2M W H=2)∨(¬ (W∈met∧W≠a2a)∧a2M W H=3)∨(¬ (W∈met∧W≠a2a)∧a2M W H=4):=by
 have hr:a2M W H=-1∨a2M W H=0∨a2M W H=1∨a2M W H=2∨a2M W H=3∨a2M W H=4:=by
  unfold a2M
  by_cases h0:a2a=W∧true=H
  ·rw [if_pos h0];omega
  rw [if_neg h0]
  by_cases h1:a3L=W∧false=H
  ·rw [if_pos h1];omega
  rw [if_neg h1]
  by_cases h2:a1I=W∧false=H
  ·rw [if_pos h2];omega
  rw [if_neg h2]
  by_cases h3:a1W=W∧true=H
  ·rw [if_pos h3];omega
  rw [if_neg h3]
  by_cases h4:a1j=W∧true=H
  ·rw [if_pos h4];omega
  rw [if_neg h4];omega
 by_cases hm:W∈met∧W≠a2a
 ·rcases hr with h | h
  ·exact .inl (by omega)
  ·exact .inr (.inl ⟨by omega,hm⟩)
 ·rcases hr with h | h | h | h | h | h
  ·exact .inl (by omega)
  ·exact .inr (.inr (.inl ⟨hm,h⟩))
  ·exact .inr (.inr (.inr (.inl ⟨hm,h⟩)))
  ·exact .inr (.inr (.inr (.inr (.inl ⟨hm,h⟩))))
  ·exact .inr (.inr (.inr (.inr (.inr (.inl ⟨hm,h⟩)))))
  ·exact .inr (.inr (.inr (.inr (.inr (.inr ⟨hm,h⟩)))))
theorem a4T (W:Bs) (met:List Bs):decide (((W::met).count W:Int) > 1)=decide (W∈met):=by
 rw [decide_eq_decide,List.count_cons_self]
 have:=List.count_pos_iff (a:=W) (l:=met)
 constructor
 ·intro h;exact this.1 (by omega)
 ·intro h;have:=this.2 h;omega
theorem a4z (c:UInt8):∀ s:Bs,(a4k c s).2.1.length≤s.length
  | []=>Nat.le_refl _
  | b :: l => by
    unfold a4k
    split
    · exact Nat.le_succ _
    · exact Nat.le_succ_of_le (a4z c l)
theorem b0A {d:Dc} {l:List Bs} (h:d.nodes.length≤24∧d.marks.length≤8):(a1P d l).1.nodes.length≤24∧(a1P d l).1.marks.length≤8:=by
 unfold a1P
 split
 ·exact h
 ·split
  ·split
   ·exact h
   ·split
    ·exact h
    ·split
     ·exact h
     ·exact ⟨by show (d.nodes++[_]).length≤24;rw [List.length_append,List.length_singleton];omega,h.2⟩
  ·split
   ·split
    ·exact h
    ·split
     ·exact h
     ·split
      ·exact h
      ·exact ⟨h.1,by show (d.marks++[_]).length≤8;rw [List.length_append,List.length_singleton];omega⟩
   ·exact h
theorem a8E {s:Bs} (h:(a1w s).2.2=0):s.length≤65536∧(a1w s).1.length≤65537∧∀ w∈(a1w s).1,w.length≤s.length:=by
 have hl:=a2P 10 s
 unfold a1w at h ⊢
 by_cases h1:65536 < s.length
 ·rw [if_pos h1] at h;exact absurd h (by decide)
 ·rw [if_neg h1] at h ⊢
  by_cases h2:s=[]
  ·rw [if_pos h2];subst h2;exact ⟨by simp,by simp,fun w hw=>by simp at hw⟩
  ·rw [if_neg h2] at h ⊢
   by_cases h3:(a0j 10 s).getLast (a2p 10 s)=[]
   ·rw [if_pos h3]
    exact ⟨by omega,by show (a0j 10 s).dropLast.length≤_;rw [List.length_dropLast];omega,fun w hw=>a4i (List.dropLast_subset _ hw)⟩
   ·rw [if_neg h3] at h;exact absurd h (by show ¬ (2:Int)=0;decide)
theorem a8y {v:Bs} {wl:List Bs} (h:a2m v=some wl):wl.length≤v.length+1∧∀ w∈wl,w.length≤v.length:=by
 have hl:=a2P 32 v
 unfold a2m at h
 split at h
 ·injection h with h;subst h;exact ⟨Nat.zero_le _,fun w hw=>by cases hw⟩
 ·split at h
  ·injection h with h;subst h;exact ⟨hl,fun w hw=>a4i hw⟩
  ·cases h
end Go.Proofs.YtjdmfohncgkdoaaGreatDoor
namespace Go.Proofs.YtjdmfohncgkdoaaGreatDoor
set_option linter.unusedSimpArgs false
set_option linter.unusedVariables false
set_option linter.unusedSectionVars false
open Go.RowKit
def BxAt (w:World) (b m:Nat) (ty:TypeId) (v:Value):Prop:=∃ cs,Blk w b ty cs∧cs.size=m∧cs[0]?=some v
@[reducible] def bxO (g:Nat) (ty:TypeId) (v:Value):HObj:=⟨g,1,1,ty,0,fun _ _=>.imm v⟩
structure Mv (b m:Nat) (ty:TypeId) (v:Value) (w w':World):Prop where
 os:w'.os=w.os
 tape:w'.tape=w.tape
 output:w'.output=w.output
 size:w.heap.size≤w'.heap.size
 block:∀ k,k < w.heap.size→k≠b→w'.heap[k]?=w.heap[k]?
 at_:BxAt w' b m ty v
section
variable {K:Nat→Prop} {w0 w w':World} {F0:Addr→Prop} {E E':Env} {h h':Nat→Option HObj}
theorem R.boxAt (r:R K w0 F0 E h w) {id g:Nat} {ty:TypeId} {f:Nat→Nat→HV} {v:Value} (ho:h id=some ⟨g,1,1,ty,0,f⟩) (hf:f 0 0=.imm v):∃ l b,E.L id=some l∧l.g=g∧E.G g∧l.A=some b∧BxAt w b l.cap ty v∧1≤l.cap∧l.cap≤maxLen∧v.oneCell'=true∧∀ k,¬ E.F ⟨b,k,none⟩:=by
 obtain ⟨l,hl,a⟩:=r.obj id _ ho
 rcases a.at_ with ⟨_,_,h0,_⟩ | ⟨b,cs,h1,h2,h3,h4,h5,h6,⟨vs,h8⟩,h9,_⟩ | ⟨_,_,_,_,h3,_⟩
 ·cases h0
 ·obtain ⟨e1,e2,e3⟩:=h8 0 0 (Nat.lt_succ_self 0) (Nat.lt_succ_self 0)
  rw [show (⟨g,1,1,ty,0,f⟩:HObj).f 0 0=.imm v from hf] at e3
  have:=e3.imm_inv
  rw [this] at e1 e2
  exact ⟨l,b,hl,a.g,a.G,h1,⟨cs,h2,by rw [h3];exact Nat.mul_one _,e1⟩,h4,h5,e2,fun k hk=>absurd (h9 k hk) (by show ¬ k < 0 * 1;omega)⟩
 ·cases h3.n
theorem R.mv (r:R K w0 F0 E h w) {id g b:Nat} {ty:TypeId} {v v2:Value} {l:Loc} (ho:h id=some (bxO g ty v)) (hl:E.L id=some l) (hb:l.A=some b) (h1:v2.oneCell'=true) (m:Mv b l.cap ty v2 w w'):Ext w E w' E∧R K w0 F0 E (a2Q h id (bxO g ty v2)) w':=by
 obtain ⟨l',b',hl',hlg,hG,hb',_,hc1,hc2,_,hnF⟩:=r.boxAt ho rfl
 rw [hl] at hl';injection hl' with hl';subst hl'
 rw [hb] at hb';injection hb' with hb';subst hb'
 obtain ⟨l2,hl2,a⟩:=r.obj id _ ho
 rw [hl] at hl2;injection hl2 with hl2;subst hl2
 obtain ⟨cs,q1,q2,q3⟩:=m.at_
 have hlt:b < w.heap.size:=a.lt hb
 obtain ⟨w1,hw1⟩:∃ w1:World,w1={ w with heap:=w.heap.setIfInBounds b (.cells cs ty (0,0)) }:=⟨_,rfl⟩
 have hbk:Blk w1 b ty cs:=by unfold Blk;rw [hw1];show (w.heap.setIfInBounds b _)[b]?=_;rw [Array.getElem?_setIfInBounds_self_of_lt hlt]
 have hne:∀ k,k≠b→w1.heap[k]?=w.heap[k]?:=fun k hk=>by rw [hw1];show (w.heap.setIfInBounds b _)[k]?=_;rw [Array.getElem?_setIfInBounds_ne (Ne.symm hk)]
 have hs1:w1.heap.size=w.heap.size:=by rw [hw1];simp
 have hvs:∀ i j,i < 1→j < 1→cs[i * 1+j]?=some v2∧v2.oneCell'=true∧Rep w1 E v2 (.imm v2):=fun i j hi hj=>by
  obtain rfl:i=0:=by omega
  obtain rfl:j=0:=by omega
  exact ⟨q3,h1,.imm _⟩
 obtain ⟨e1,r1⟩:=r.write id _ (bxO g ty v2) l b ho hl hb (by rw [hw1]) (by rw [hw1]) (by rw [hw1]) hs1 hne (fun k hk=>absurd hk (hnF k)) (fun e=>⟨a.g,a.G,a.sz,a.pos,.inr (.inl ⟨b,cs,hb,hbk,by rw [q2];exact (Nat.mul_one _).symm,hc1,hc2,a.notK hb,⟨fun _ _=>v2,hvs⟩,fun k hk=>absurd hk (hnF k),Nat.zero_le _⟩)⟩)
 have hbel:Below w1.heap.size w1 w':=⟨by rw [hw1];exact m.os,by rw [hw1];exact m.tape,by rw [hw1];exact m.output,by rw [hs1];exact m.size,fun k hk=>by
   by_cases hkb:k=b
   ·subst hkb;rw [show w'.heap[k]?=_ from q1,show w1.heap[k]?=_ from hbk]
   ·rw [hne k hkb];exact m.block k (by rw [←hs1];exact hk) hkb⟩
 exact ⟨e1.trans (r1.extBelow hbel),r1.growSame hbel⟩
theorem c4L {b:Nat} (hd:∀ id,(h id).isSome=(h' id).isSome):KH E h b↔KH E h' b:=by
 have one:∀ (h h':Nat→Option HObj),(∀ id,(h id).isSome=(h' id).isSome)→KH E h b→KH E h' b:=fun h h' hd k id o l ho hl=>by
  have:=hd id
  rw [ho] at this
  obtain ⟨o2,ho2⟩:=Option.isSome_iff_exists.1 this
  exact k id o2 l ho2 hl
 exact ⟨one h h' hd,one h' h (fun id=>(hd id).symm)⟩
end
structure ItXB (P:Program) where
 l:Nat
 b:Nat
 m:Nat
 ty:TypeId
 W0:World
 F0:Addr→Prop
 J:Value→Nat→(Nat→Prop)→World→Prop
 Jx:Nat→World→Prop
 N:Nat
 ys:Nat→List HV
 nl:¬ isLib b
 m1:1≤m
 m2:m≤maxLen
 mv:∀ v i O W1 W2 v2,v2.oneCell'=true→J v i O W1→Mv b m ty v2 W1 W2→J v2 i O W2
 ob:∀ v i O W1,J v i O W1→∀ k,O k→k < W1.heap.size
 bx:∀ v i O W1,J v i O W1→O b∧BxAt W1 b m ty v∧v.oneCell'=true
 jxb:∀ i W1 W2,Jx i W1→Below W1.heap.size W1 W2→Jx i W2
 yl:∀ v i O W1 F' vs,i < N→J v i O W1→(∀ a,F' a→a.spot=none∧(W1.cell? a).isSome=true)→(∀ a,F' a→¬ O a.block)→(∀ a,F' a→F0 a∨W0.heap.size≤a.block)→RepAll W1 (Env.just F') vs (ys i) →
   YieldAt Fence.wide 0 P l vs.toArray W1 fun e W'=>KeepsO O W1 W'∧((e=.returned (.bool true)∧∃ O',J v (i+1) O' W'∧∀ k,O' k→O k∨W1.heap.size≤k)∨(e=.returned (.bool false)∧Jx (i+1) W'))
structure FrOkB (P:Program) (X:ItXB P) (W:World) (F:Addr→Prop):Prop where
 frz:∀ a,F a→a.spot=none∧(W.cell? a).isSome=true
 new:∀ a,F a→X.F0 a∨X.W0.heap.size≤a.block
 size:X.W0.heap.size≤W.heap.size
 lib:LibW W
structure GoodB (P:Program) (X:ItXB P) (i:Nat) (O:Nat→Prop) (W:World) (F:Addr→Prop):Prop where
 j:∃ v,X.J v i O W
 fr:FrOkB P X W F
 own:∀ a,F a→¬ O a.block
def b0k (P:Program) (X:ItXB P) (e:Ending) (w:World):Prop:=(∃ v,e=.returned v)∧((∃ v O,X.J v X.N O w)∨∃ i,i < X.N∧X.Jx (i+1) w)
def b8l (P:Program) (f:FuncId) (ty:TypeId) (v0:Value) (cap:HV) (caps:List HV) (N:Nat) (ys:Nat→List HV):Prop:=c1n P f ∧
  ∀ X : ItXB P, X.N = N → X.ys = ys → X.ty = ty → ∀ (cv : Value) (cvs : List Value) (O0 : Nat → Prop), (∀ a, X.F0 a → a.spot = none ∧ (X.W0.cell? a).isSome = true) → (∀ a, X.F0 a → ¬ O0 a.block) → Rep X.W0 (Env.just X.F0) cv cap → RepAll X.W0 (Env.just X.F0) cvs caps → LibW X.W0 →
    X.J v0 0 O0 X.W0→Calls P f (#[.func (.yield X.l) #[] #[],cv,.pointer (some ⟨X.b,0,none⟩)]++cvs.toArray) X.W0 (b0k P X)
def Env.bx (F:Addr→Prop) (b m:Nat):Env:=⟨F,fun id=>if id=6001 then some ⟨0,some b,m,1⟩ else none,fun g=>g=0,fun _=>False⟩
def Ctx.bx (W:World) (F:Addr→Prop) (b m:Nat):Ctx:=⟨fun k=>k≠b,W,Env.bx F b m,[],none,none⟩
section
variable {P:Program} {X:ItXB P} {fn:Func} {Q:Exit→Act→World→Prop} {n clk:Nat} {tm:List (Nat×TV)} {hp:List (Nat×HObj)}
theorem c2r {id:Nat} {o o':HObj} (k:Nat) (h:hget [(id,o)] k=some o'):k=id∧o'=o:=by
 rw [a1m] at h
 unfold a2Q at h
 split at h
 ·rename_i e;injection h with h;exact ⟨e,h.symm⟩
 ·cases h
theorem GoodB.start {i:Nat} {O:Nat→Prop} {W:World} {F:Addr→Prop} (g:GoodB P X i O W F) {v:Value} (hB:BxAt W X.b X.m X.ty v) (hv:v.oneCell'=true):R (fun k=>k≠X.b) W F (Env.bx F X.b X.m) (hget [(6001,bxO 0 X.ty v)]) W:=by
 obtain ⟨v',hj⟩:=g.j
 obtain ⟨hO,_,_⟩:=X.bx _ _ _ _ hj
 refine ⟨rfl,rfl,rfl,Nat.le_refl _,fun _ _ _=>rfl,g.fr.frz,fun a ha=>.inl ha,fun b hb e=>X.nl (e▸hb),g.fr.lib,(fun b hb=>hb.elim),fun id o ho=>?_,fun id id' o o' l l' b ho ho' _ _ _ _=>by rw [(c2r _ ho).1,(c2r _ ho').1]⟩
 obtain ⟨rfl,rfl⟩:=c2r _ ho
 obtain ⟨cs,q1,q2,q3⟩:=hB
 refine ⟨⟨0,some X.b,X.m,1⟩,rfl,rfl,rfl,rfl,Nat.lt_succ_self 0,.inr (.inl ⟨X.b,cs,rfl,q1,by rw [q2];exact (Nat.mul_one _).symm,X.m1,X.m2,fun _ h=>h rfl,⟨fun _ _=>v,fun i j hi hj=>?_⟩,fun k hk=>absurd hO (g.own _ hk),Nat.zero_le _⟩)⟩
 obtain rfl:i=0:=by have:i < 1:=hi;omega
 obtain rfl:j=0:=by have:j < 1:=hj;omega
 exact ⟨q3,hv,.imm _⟩
theorem GoodB.mv {i:Nat} {O:Nat→Prop} {W w:World} {F:Addr→Prop} {E:Env} {f:Nat→Nat→HV} {v:Value} {h:Nat→Option HObj} (g:GoodB P X i O W F) (e0:Ext W (Env.bx F X.b X.m) w E) (r:R (fun k=>k≠X.b) W F E h w) (ho:h 6001=some ⟨0,1,1,X.ty,0,f⟩) (hf:f 0 0=.imm v):X.J v i O w∧BxAt w X.b X.m X.ty v∧v.oneCell'=true∧∀ k,¬ E.F ⟨X.b,k,none⟩:=by
 obtain ⟨v',hj⟩:=g.j
 obtain ⟨l,b,hl,hlg,_,hA,hB,_,_,h1,hnF⟩:=r.boxAt ho hf
 have h0:(Env.bx F X.b X.m).L 6001=some l:=e0.L 6001 l hl hlg
 injection h0 with h0
 subst h0
 injection hA with hA
 subst hA
 exact ⟨X.mv v' i O W w v h1 hj ⟨r.os,r.tape,r.output,r.size,fun k hk hne=>r.keep k hk hne,hB⟩,hB,h1,hnF⟩
theorem b8x {w:World} {F:Addr→Prop} {b m:Nat}:Ext w (Env.just F) w (Env.bx F b m):=⟨Nat.le_refl _,fun a h=>⟨h,rfl⟩,fun g h=>False.elim h,fun id l hl hg=>False.elim hg,fun _ h=>h⟩
def TmB (tm tm':List (Nat×TV)):Prop:=∀ t x,tget tm' t=some x→(∃ y z,x=.v z∧tget tm t=some (.v y)∧Fz [] y z)∨(x=.v (.pt 6001 0 0 0)∧tget tm t=some x)
theorem TmB.nil {tm:List (Nat×TV)}:TmB tm []:=fun t x h=>by cases h
theorem TmB.cons {tm r:List (Nat×TV)} {t:Nat} {y z:HV} (h:tget tm t=some (.v y)) (hz:Fz [] y z) (hr:TmB tm r):TmB tm ((t,.v z)::r):=fun t' x h'=>by
 rw [a0z] at h'
 split at h'
 ·rename_i e;subst e;injection h' with h';subst h';exact .inl ⟨y,z,rfl,h,hz⟩
 ·exact hr t' x h'
theorem TmB.box {tm r:List (Nat×TV)} {t:Nat} (h:tget tm t=some (.v (.pt 6001 0 0 0))) (hr:TmB tm r):TmB tm ((t,.v (.pt 6001 0 0 0))::r):=fun t' x h'=>by
 rw [a0z] at h'
 split at h'
 ·rename_i e;subst e;injection h' with h';subst h';exact .inr ⟨rfl,h⟩
 ·exact hr t' x h'
theorem c4Y {w:World} {F:Addr→Prop} {b m:Nat}:Rep w (Env.bx F b m) (.pointer (some ⟨b,0,none⟩)) (.pt 6001 0 0 0):=.pt b 0 6001 0 0 0 rfl (fun l hl _=>by injection hl with hl;subst hl;exact ⟨rfl,rfl⟩)
theorem b6x {f:FuncId} {c:Code} {ty:TypeId} {v0:Value} (hf:P.funcs[f]?=some fn) (hb:fn.body=some c) (hn:(fn.name == "runtime.NumGoroutine")=false) (cap:HV) (caps:List HV) (N:Nat) (ys:Nat→List HV) (tm:List (Nat×TV)) (htm:a8g 3 caps=tm) (n:Nat) (hnt:fn.ntmps=n) (hlen:Nat.ble (caps.length+3) n=true)
  (h:∀ X:ItXB P,X.N=N→X.ys=ys→X.ty=ty→∀ O W F,GoodB P X 0 O W F→HWp (Ctx.bx W F X.b X.m) P c ⟨n,(0,.v (.fn (.yield X.l) 0 fun _=>default))::(1,.v cap)::(2,.v (.pt 6001 0 0 0))::tm,[(6001,bxO 0 ty v0)],1⟩ (bodyPost P fn (b0k P X))):b8l P f ty v0 cap caps N ys:=by
 refine ⟨⟨fn,c,hf,hb,hn⟩,fun X hN hys hty cv cvs O0 hF hFO hr0 hr hw hj=>?_⟩
 have g:GoodB P X 0 O0 X.W0 X.F0:=⟨⟨_,hj⟩,⟨hF,fun a ha=>.inl ha,Nat.le_refl _,hw⟩,hFO⟩
 have key:=h X hN hys hty O0 X.W0 X.F0 g
 obtain ⟨hO,hB,h1⟩:=X.bx _ _ _ _ hj
 refine calls_of_wp hf hb (a5r.1 (key _ X.W0 ?_))
 obtain ⟨hl,hg⟩:=hr.get
 have hlen:caps.length+3≤n:=by simpa using hlen
 have hs:=g.start hB h1
 rw [hty] at hs
 refine ⟨Env.bx X.F0 X.b X.m,Ext.refl _ _,hs,fun g hg=>by have:g=0:=hg;show g < 1;omega,?_,rfl,fun t x hx=>?_⟩
 ·simp [hl,hnt];omega
 ·rw [a0z] at hx
  split at hx
  ·rename_i e;subst e;injection hx with hx;subst hx
   have:((#[Value.func (.yield X.l) #[] #[],cv,.pointer (some ⟨X.b,0,none⟩)]++cvs.toArray)++Array.replicate (fn.ntmps - (#[Value.func (.yield X.l) #[] #[],cv,.pointer (some ⟨X.b,0,none⟩)]++cvs.toArray).size) undef).getD 0 undef=.func (.yield X.l) #[] #[]:=by
    simp only [Array.getD_eq_getD_getElem?]
    rw [Array.getElem?_append_left (by simp),Array.getElem?_append_left (by simp)]
    rfl
   show Rep X.W0 _ _ _
   rw [this]
   exact .fn _ _ _ _ (fun _=>undef) rfl (fun i hi=>absurd hi (Nat.not_lt_zero _)) (fun i hi=>absurd hi (Nat.not_lt_zero _))
  ·rw [a0z] at hx
   split at hx
   ·rename_i e;subst e;injection hx with hx;subst hx
    have:((#[Value.func (.yield X.l) #[] #[],cv,.pointer (some ⟨X.b,0,none⟩)]++cvs.toArray)++Array.replicate (fn.ntmps - (#[Value.func (.yield X.l) #[] #[],cv,.pointer (some ⟨X.b,0,none⟩)]++cvs.toArray).size) undef).getD 1 undef=cv:=by
     simp only [Array.getD_eq_getD_getElem?]
     rw [Array.getElem?_append_left (by simp),Array.getElem?_append_left (by simp)]
     rfl
    show Rep X.W0 _ _ _
    rw [this]
    exact hr0.ext b8x
   ·rw [a0z] at hx
    split at hx
    ·rename_i e;subst e;injection hx with hx;subst hx
     have:((#[Value.func (.yield X.l) #[] #[],cv,.pointer (some ⟨X.b,0,none⟩)]++cvs.toArray)++Array.replicate (fn.ntmps - (#[Value.func (.yield X.l) #[] #[],cv,.pointer (some ⟨X.b,0,none⟩)]++cvs.toArray).size) undef).getD 2 undef=.pointer (some ⟨X.b,0,none⟩):=by
      simp only [Array.getD_eq_getD_getElem?]
      rw [Array.getElem?_append_left (by simp),Array.getElem?_append_left (by simp)]
      rfl
     show Rep X.W0 _ _ _
     rw [this]
     exact c4Y
    rw [←htm] at hx
    obtain ⟨i,y,rfl,h2,rfl⟩:=a2z caps 3 t x hx
    obtain ⟨v,hv,hrep⟩:=hg i y h2
    have hi:i < cvs.length:=by
     rcases Nat.lt_or_ge i cvs.length with h | h
     ·exact h
     ·rw [List.getElem?_eq_none h] at hv;cases hv
    have:((#[Value.func (.yield X.l) #[] #[],cv,.pointer (some ⟨X.b,0,none⟩)]++cvs.toArray)++Array.replicate (fn.ntmps - (#[Value.func (.yield X.l) #[] #[],cv,.pointer (some ⟨X.b,0,none⟩)]++cvs.toArray).size) undef).getD (3+i) undef=v:=by
     simp only [Array.getD_eq_getD_getElem?]
     rw [Array.getElem?_append_left (by simp;omega),Array.getElem?_append_right (by simp)]
     simp [hv]
    show Rep X.W0 _ _ y
    rw [this]
    exact hrep.ext b8x
theorem c1P {W:World} {F:Addr→Prop} {s:HSt} {O:Nat→Prop} {f:Nat→Nat→HV} {v:Value} {ty:TypeId} {i:Nat} (hXt:X.ty=ty) (hres:fn.results=#[]) (hg:GoodB P X i O W F) (hi:i=X.N) (ho:hget s.hp 6001=some ⟨0,1,1,ty,0,f⟩) (hf:f 0 0=.imm v):HQ (Ctx.bx W F X.b X.m) (bodyPost P fn (b0k P X)) .ret s:=by
 subst hXt;subst hi
 intro a w ⟨E,e0,r,hG,hsz,hdf,ht⟩
 exact ⟨hdf,.tuple #[],by simp [results,hres,go_sem],⟨_,rfl⟩,.inl ⟨v,O,(hg.mv e0 r ho hf).1⟩⟩
theorem b4N {W:World} {F:Addr→Prop} {s:HSt} {i:Nat} (hres:fn.results=#[]) (hi:i < X.N) (h:X.Jx (i+1) W):HQ (Ctx.top W F) (bodyPost P fn (b0k P X)) .ret s:=by
 intro a w ⟨E,e0,r,hG,hsz,hdf,ht⟩
 exact ⟨hdf,.tuple #[],by simp [results,hres,go_sem],⟨_,rfl⟩,.inr ⟨i,hi,X.jxb _ _ _ h (b7j r)⟩⟩
theorem b2w {bty:TypeId} (hXt:X.ty=bty) {ops:Array Oper} {rest:List Oper} {ty:TypeId} {pos:String} {af:Array Edge} {W:World} {F:Addr→Prop} {i:Nat} {O:Nat→Prop} {f:Nat→Nat→HV} {v:Value} (hg:GoodB P X i O W F) (hi:i < X.N) {t d:Nat} {y0:Nat→HV} {args:List Operand} {at_:Array TypeId} {xs:List HV} (tm':List (Nat×TV))
    (h0:tget tm t=some (.v (.fn (.yield X.l) 0 y0))) (hx:a2I (a0P (tget tm)) args xs) (hz:a4U [] xs (X.ys i)) (htm:TmB tm tm') (hlt:Nat.blt d n=true) (ho:hget hp 6001=some ⟨0,1,1,bty,0,f⟩) (hf:f 0 0=.imm v)
    (hyes:∀ O' W' F',GoodB P X (i+1) O' W' F'→HSeq (Ctx.bx W' F' X.b X.m) P ops rest ⟨n,(d,.v (.imm (.bool true)))::tm',[(6001,bxO 0 bty v)],1⟩ Q)
    (hno:∀ W' F',FrOkB P X W' F'→X.Jx (i+1) W'→HSeq (Ctx.top W' F') P ops rest ⟨n,[(d,.v (.imm (.bool false)))],[],0⟩ Q) :
    HSeq (Ctx.bx W F X.b X.m) P ops (⟨some d,.call ⟨.value (.tmp t),args.toArray,at_⟩,ty,pos,af,none⟩::rest) ⟨n,tm,hp,clk⟩ Q:=by
  subst hXt
  intro a w ⟨E,e0,r,hG,hsz,hdf,ht⟩
  have hlt:d < n:=by simpa [Nat.blt_eq] using hlt
  obtain ⟨hjw,hBw,hv1,hnF⟩:=hg.mv e0 r ho hf
  unfold a7b
  rw [if_pos (by simp [Region.wanted])]
  right
  have hrep:=a5m ht hx
  have hfn:Rep w E (a.eval (.tmp t)) (.fn (.yield X.l) 0 y0):=ht t _ h0
  refine ⟨fun _ _=>trivial,?_⟩
  rw [show ∀ o:Oper,o.semAt Fence.wide.round a.eval=execOp a.eval o from fun o=>Oper.semAt_none _ _]
  have hargs:args.toArray.map a.eval=(args.map a.eval).toArray:=by simp
  have hfrz:RepAll w (Env.just E.F) (args.map a.eval) (X.ys i):=hz.sound (a5D w E) hrep
  have hbne:∀ p,E.F p→p.block≠X.b:=fun p hp e=>by
    obtain ⟨pb,po,ps⟩:=p
    have hs:=(r.frz _ hp).1
    simp only at hs e
    subst hs;subst e
    exact hnF po hp
  have hnew:∀ p,E.F p→F p∨W.heap.size≤p.block:=fun p hp=>by
    rcases r.fnew p hp with h1 | h1 | h1
    · exact .inl h1
    · exact .inr h1
    · exact absurd (hbne p hp) h1
  have hown:∀ p,E.F p→¬ O p.block:=fun p hp=>by
    rcases hnew p hp with h1 | h1
    · exact hg.own p h1
    · intro hO
      obtain ⟨v',hj⟩:=hg.j
      have:=X.ob _ _ _ _ hj _ hO
      omega
  have hnew2:∀ p,E.F p→X.F0 p∨X.W0.heap.size≤p.block:=fun p hp=>by
    rcases hnew p hp with h1 | h1
    · exact hg.fr.new p h1
    · exact .inr (Nat.le_trans hg.fr.size h1)
  obtain ⟨fn',tmps',as',bd',hy,hround⟩:=X.yl v i O w E.F (args.map a.eval) hi hjw r.frz hown hnew2 hfrz
  unfold execOp
  generalize hρ:a.eval (.tmp t)=u at hfn
  cases hfn with
  | fn _ vcs _ _ vs hn hv hr =>
    have hvc:vcs=#[]:=Array.eq_empty_of_size_eq_zero hn
    subst hvc
    simp only [resolve,hρ,Deferred.ofValue,invoke,Sem.run_bind,Sem.run_pure,Result.andThen_ok,Array.empty_append,Array.append_empty]
    rw [hargs,hy]
    refine ⟨a5T,RoundIn.mono hround (fun e W' he=>?_)⟩
    obtain ⟨hk,he⟩:=he
    have hfr':FrOkB P X W' E.F:=⟨fun p hp=>⟨(r.frz p hp).1,by rw [World.cell?_of_block (hk.block _ (a1a (r.frz p hp).2) (hown p hp))];exact (r.frz p hp).2⟩,hnew2,Nat.le_trans hg.fr.size (Nat.le_trans r.size hk.size),hk.lib⟩
    have eK:Ext w (Env.just E.F) W' (Env.just E.F):=⟨hk.size,fun p hp=>⟨hp,World.cell?_of_block (hk.block _ (a1a (r.frz p hp).2) (hown p hp))⟩,fun _ h=>h,fun _ _ h _=>h,fun _ h=>h⟩
    rcases he with ⟨rfl,O',hj,hoo⟩ | ⟨rfl,hj⟩
    · have g':GoodB P X (i+1) O' W' E.F:=⟨⟨v,hj⟩,hfr',fun p hp hO=>by
        rcases hoo _ hO with h1 | h1
        · exact hown p hp h1
        · have:=a1a (r.frz p hp).2;omega⟩
      refine hyes O' W' E.F g' _ W' ⟨Env.bx E.F X.b X.m,Ext.refl _ _,g'.start (X.bx _ _ _ _ hj).2.1 hv1,fun g hg=>by have:g=0:=hg;show g < 1;omega,by simp [Act.put,hsz],hdf,fun t' x hx=>?_⟩
      rw [a0z] at hx
      split at hx
      · rename_i e;subst e;injection hx with hx;subst hx
        rw [a0L (by rw [hsz];exact hlt)]
        exact .imm _
      · rename_i e
        rw [a0E e]
        rcases htm t' x hx with ⟨y,z,rfl,h1,h2⟩ | ⟨rfl,h1⟩
        · exact ((h2.sound (a5D w E) (ht t' _ h1)).ext eK).ext b8x
        · have hp:Rep w E (a.tmps.getD t' undef) (.pt 6001 0 0 0):=ht t' _ h1
          obtain ⟨l,b,hl,hlg,_,hA,_⟩:=r.boxAt ho hf
          have hl0:(Env.bx F X.b X.m).L 6001=some l:=e0.L 6001 l hl hlg
          injection hl0 with hl0
          subst hl0
          generalize a.tmps.getD t' undef=u2 at hp
          show Rep _ _ u2 (.pt 6001 0 0 0)
          cases hp with
          | pt b2 k _ _ _ _ _ h5 =>
            obtain ⟨e1,e2⟩:=h5 _ hl rfl
            injection e1 with e1
            subst e1
            subst e2
            exact c4Y
    · refine hno W' E.F hfr' hj _ W' ⟨Env.just E.F,Ext.refl _ _,⟨rfl,rfl,rfl,Nat.le_refl _,fun _ _ _=>rfl,hfr'.frz,fun a ha=>.inl ha,fun _ _=>trivial,hfr'.lib,(fun b hb=>hb.elim),(fun id o ho=>by cases ho),(fun id id' o o' l l' b ho=>by cases ho)⟩,fun g hg=>hg.elim,by simp [Act.put,hsz],hdf,fun t' x hx=>?_⟩
      rw [a0z] at hx
      split at hx
      · rename_i e;subst e;injection hx with hx;subst hx
        rw [a0L (by rw [hsz];exact hlt)]
        exact .imm _
      · cases hx
theorem c0d {α:Type} {body:Code} {W:World} {F:Addr→Prop} {O:Nat→Prop} {tm0:List (Nat×TV)} {hp0:List (Nat×HObj)} {c0:Nat} (st:α→List (Nat×TV)) (hps:α→List (Nat×HObj)) (I:α→Prop) (idx:α→Nat) (m:α→Nat) (x0:α) (h0:I x0) (hg0:GoodB P X (idx x0) O W F) (hs0:a7x (Ctx.bx W F X.b X.m) ⟨n,tm0,hp0,c0⟩ ⟨n,st x0,hps x0,c0⟩)
  (round:∀ x O W F c,I x→GoodB P X (idx x) O W F→∀ N:Act→World→Prop,(∀ y O' W' F' c' s',I y→m y < m x→GoodB P X (idx y) O' W' F'→a7x (Ctx.bx W' F' X.b X.m) s' ⟨n,st y,hps y,c'⟩→HQ (Ctx.bx W' F' X.b X.m) (Exit.then N Q) .normal s')→HWp (Ctx.bx W F X.b X.m) P body ⟨n,st x,hps x,c⟩ (Exit.then N Q)) :
  HWp (Ctx.bx W F X.b X.m) P (.loop body) ⟨n,tm0,hp0,c0⟩ Q:=by
 intro a w hs
 refine a5P (fun k a w=>∃ x O W F c,m x=k∧I x∧GoodB P X (idx x) O W F∧Sat (Ctx.bx W F X.b X.m) ⟨n,st x,hps x,c⟩ a w) (m x0) ⟨x0,O,W,F,c0,rfl,h0,hg0,hs0 a w hs⟩ ?_
 rintro k a w ⟨x,O,W,F,c,rfl,hx,hg,hs⟩
 exact round x O W F c hx hg (fun a' w'=>∃ j,j < m x∧∃ y O W F c,m y=j∧I y∧GoodB P X (idx y) O W F∧Sat (Ctx.bx W F X.b X.m) ⟨n,st y,hps y,c⟩ a' w') (fun y O' W' F' c' s' hy hlt hg' hsub a w hs=>⟨m y,hlt,y,O',W',F',c',rfl,hy,hg',hsub a w hs⟩) a w hs
end
section
variable {α:Type} {P:Program} {C:Ctx} {Q:Exit→Act→World→Prop} {n clk:Nat} {tm:List (Nat×TV)} {hp:List (Nat×HObj)} {ps:Array Tmp} {assign body:Code} {N:Nat} {ys:Nat→List HV}
theorem b6X {t bid gb:Nat} {f:FuncId} {m:Nat} {cfs:Nat→HV} {c0 cap:HV} {cs caps:List HV} {ty:TypeId} {v0:Value} (hC:C.rd=none∧C.ds=[]∧C.mks=some C.w0.heap.size)
    (hit:b8l P f ty v0 cap caps N ys) (ht:tget tm t=some (.v (.fn (.func f) m cfs))) (hcs:(c0::HV.pt bid gb 0 0::cs).length=m) (hci:∀ i,i < m→(c0::HV.pt bid gb 0 0::cs)[i]?=some (cfs i)) (hz0:Fz [] c0 cap) (hz:a4U [] cs caps)
    (hV:b6l tm=true) (hps:∀ i,(ys i).length=ps.size) (hpb:ps.toList.all (fun p=>Nat.blt p n)=true)
    (st:α→List (Nat×HObj)) (idx:α→Nat) (I:α→Prop) (x0:α) (h0:I x0) (hi0:idx x0=0) (hs0:a0k hp ((bid,bxO gb ty v0)::st x0)) (hfl:((st x0).all fun p=>p.2.fl == 0||Nat.blt p.2.n p.2.fl)=true)
    (round:∀ x v c,I x→idx x < N→c1c P assign body ⟨n,psl ps.toList (ys (idx x)) tm,(bid,bxO gb ty v)::st x,c⟩ (fun C2=>RQ C2 (fun hp' _=>∃ y,I y∧idx y=idx x+1∧a0k hp' ((bid,bxO gb ty v)::st y)) (fun e hp' c'=>HQ C Q e ⟨n,tm,hp',c'⟩)))
    (done:∀ x v c,I x→idx x=N→HQ C Q .normal ⟨n,tm,(bid,bxO gb ty v)::st x,c⟩):HWp C P (.rangeFunc (.tmp t) ps assign body) ⟨n,tm,hp,clk⟩ Q:=by
  intro a w ⟨E,e0,r,hG,hsz,hdf,htm⟩
  have hfn:Rep w E (a.eval (.tmp t)) (.fn (.func f) m cfs):=htm t _ ht
  rw [hC.1]
  refine wpIn_rangeFunc fun fn _=>?_
  generalize hρ:a.eval (.tmp t)=u at hfn
  cases hfn with
  | fn _ vcs _ _ vs hn hv hr =>
    have hcap:=b4k hn hv hr hcs hci
    obtain ⟨uc,u0,us,huu,huc,hu0,hus⟩:∃ uc u0 us,vcs.toList=uc::u0::us∧Rep w E uc c0∧Rep w E u0 (.pt bid gb 0 0)∧RepAll w E us cs:=by
      cases hvl:vcs.toList with
      | nil=>rw [hvl] at hcap;exact hcap.elim
      | cons uc us =>
        rw [hvl] at hcap
        cases us with
        | nil=>exact hcap.2.elim
        | cons u0 us=>exact ⟨uc,u0,us,rfl,hcap.1,hcap.2.1,hcap.2.2⟩
    obtain ⟨rec,hrec⟩:∃ rec:LoopState→Option Code→Loop,rec=fun s p=>{ state:=s,pending:=p,fn,tmps:=a.tmps,params:=ps,assign,body,defers:=w.heap.size }:=⟨_,rfl⟩
    obtain ⟨W1,hW1⟩:∃ W1,(w.alloc (.deferred (some []))).alloc (.loop (rec .ready none))=W1:=⟨_,rfl⟩
    have hbel:Below w.heap.size w W1:=by rw [←hW1];exact (((Below.refl _ w).alloc (Nat.le_refl _) _).alloc (by simp) _)
    have hD1:W1.heap[w.heap.size]?=some (.deferred (some [])):=by
      rw [←hW1];exact (Below.heap_alloc _ _ _ (by simp)).trans (World.alloc_heap_new w _)
    have hL1:W1.heap[w.heap.size+1]?=some (.loop (rec .ready none)):=by
      rw [←hW1];have:=World.alloc_heap_new (w.alloc (.deferred (some []))) (.loop (rec .ready none));rwa [World.size_alloc] at this
    have e1:Ext w E W1 (E.mark w.heap.size):=(r.extBelow hbel).trans (Ext.mark _ _ _)
    have r1:R C.K C.w0 C.E0.F (E.mark w.heap.size) (hget hp) W1:=(r.growSame hbel).mark hD1
    have hw0:C.w0.heap.size≤w.heap.size+1:=Nat.le_succ_of_le r.size
    have r1':=r1.weak hs0
    have hbid:∀ (v:Value) (q:List (Nat×HObj)),hget ((bid,bxO gb ty v)::q) bid=some (bxO gb ty v):=fun v q=>by rw [a1m,a1e]
    obtain ⟨lb,b,hlb,hlbg,hlbG,hlbA,hBx0,hm1,hm2,hv01,_⟩:=r1'.boxAt (hbid v0 _) rfl
    have hup:u0=.pointer (some ⟨b,0,none⟩):=by
      cases hu0 with
      | pt b2 k _ _ _ _ _ h5 =>
        obtain ⟨q1,q2⟩:=h5 lb hlb hlbg
        rw [hlbA] at q1;injection q1 with q1
        subst q1;subst q2
        simp
    have hLb:∀ (Ei:Env) (W:World) (lo:Loc),Ext W1 (E.mark w.heap.size) W Ei→Ei.L bid=some lo→lo.g=gb→lo=lb:=fun Ei W lo e hl hg=>by
      have:=e.L bid lo hl (by rw [hg];exact hlbG)
      rw [hlb] at this;injection this with this;exact this.symm
    have hnl:¬ isLib b:=fun hlib=>by
      obtain ⟨l2,hl2,ao⟩:=r1'.obj bid _ (hbid v0 _)
      rw [hlb] at hl2;injection hl2 with hl2;subst hl2
      exact ao.notK hlbA (r1'.lib.ok _ hlib) (r1'.klib _ hlib)
    have hll:b≠w.heap.size+1:=fun e=>by
      obtain ⟨cs0,q1,_⟩:=hBx0
      have q1:W1.heap[b]?=_:=q1
      rw [e,hL1] at q1;cases q1
    refine ⟨w.heap.size+1,[{ target:=.collected w.heap.size,args:=#[] }],W1,{ target:=.fn (.func f) vcs,args:=#[.func (.yield (w.heap.size+1)) #[] #[]] },W1,f,
      #[.func (.yield (w.heap.size+1)) #[] #[]]++vcs,W1,?_,?_,fun _ _=>trivial,?_,a5T,?_⟩
    · rw [←hW1,hrec];exact run_enterLoop_outer _ _ _ _ _
    · simp only [resolve,hρ]
      simp [go_sem]
    · have:=a0U hit.1 (#[.func (.yield (w.heap.size+1)) #[] #[]]++vcs) W1
      simp only [invoke]
      exact this
    · refine a9D (r:=none) ?_
      have hfr:∀ p,E.F p→p.spot=none∧(W1.cell? p).isSome=true:=fun p hp=>by
        have:=r.frz p hp
        exact ⟨this.1,by rw [(e1.F p hp).2];exact this.2⟩
      have hcap0:Rep W1 (Env.just E.F) uc cap:=hz0.sound (a5D W1 (E.mark w.heap.size)) (huc.ext e1)
      have hcap1:RepAll W1 (Env.just E.F) us caps:=hz.sound (a5D W1 (E.mark w.heap.size)) (hus.ext e1)
      have hfo:∀ p,E.F p→¬ (¬ KH (E.mark w.heap.size) (hget ((bid,bxO gb ty v0)::st x0)) p.block∨p.block=w.heap.size+1):=fun p hp=>by
        rintro (h | h)
        · refine h (r1'.noFl (fun id o ho=>?_) p hp)
          rcases List.mem_cons.1 (a2v ho) with e | hm
          · injection e with _ e;subst e;exact .inl rfl
          · have:=List.all_eq_true.1 hfl _ hm;simpa [Nat.blt_eq] using this
        · exact (r1'.notBk hL1 rfl).1 p hp h
      have hslots:∀ t x,tget tm t=some x→∀ ds,TVRep W1 (E.mark w.heap.size) ⟨a.tmps,ds⟩ (a.tmps.getD t undef) x:=fun t x hx ds=>by
        obtain ⟨z,rfl⟩:=a6l hV t x hx
        exact (htm t _ hx).ext e1
      have hdom:∀ (v v2:Value) (q:List (Nat×HObj)) id,(hget ((bid,bxO gb ty v)::q) id).isSome=(hget ((bid,bxO gb ty v2)::q) id).isSome:=fun v v2 q id=>by
        rw [a1m,a1m];unfold a2Q;split <;> rfl
      have hset2:∀ (v v2:Value) (q:List (Nat×HObj)),a2Q (hget ((bid,bxO gb ty v)::q)) bid (bxO gb ty v2)=hget ((bid,bxO gb ty v2)::q):=fun v v2 q=>by
        rw [a1m,a1m];funext id;unfold a2Q;split <;> rfl
      have hc:=hit.2 ⟨w.heap.size+1,b,lb.cap,ty,W1,E.F,fun v=>Jn C W1 (E.mark w.heap.size) (w.heap.size+1) rec (fun p:α×Value=>(bid,bxO gb ty p.2)::st p.1) (fun p=>idx p.1) (fun p=>I p.1∧p.2=v),
          fun _=>Jxn C W1 (E.mark w.heap.size) (w.heap.size+1) rec (fun e hp' c'=>HQ C Q e ⟨n,tm,hp',c'⟩),N,ys,hnl,hm1,hm2,
          fun v i O W2 W3 v2 h1 hJ hm=>?mv,fun v i O W2 h=>c3P h,fun v i O W2 hJ=>?bx,fun i W2 W3 h hb=>b8M h hb,
          fun v i O W2 F' vs2 hi hJ q1 q2 q3 hv2=>b2H hrec hw0 hsz hV hslots hps hpb (fun x c hx hi C1 l hC1=>?rd) (Nat.le_trans r.size hbel.size) i O W2 F' vs2 hi hJ q1 q2 q3 hv2⟩ rfl rfl rfl uc us
        (fun b'=>¬ KH (E.mark w.heap.size) (hget ((bid,bxO gb ty v0)::st x0)) b'∨b'=w.heap.size+1) hfr hfo hcap0 hcap1 r1'.libw ⟨(x0,v0),clk,E.mark w.heap.size,hi0,⟨h0,rfl⟩,Ext.refl _ _,r1',hG,hL1,fun b=>Iff.rfl⟩
      case mv =>
        obtain ⟨⟨x,v'⟩,c,Ei,g1,⟨g2,rfl⟩,g3,g4,g5,g6,g7⟩:=hJ
        obtain ⟨lo,b',hlo,hlog,_,hloA,_⟩:=g4.boxAt (hbid v' _) rfl
        obtain rfl:=hLb Ei W2 lo g3 hlo hlog
        rw [hlbA] at hloA;injection hloA with hloA;subst hloA
        obtain ⟨e',r'⟩:=g4.mv (hbid v' _) hlo hlbA h1 hm
        rw [hset2] at r'
        refine ⟨(x,v2),c,Ei,g1,⟨g2,rfl⟩,g3.trans e',r',g5,(hm.block _ (a1g g6) (Ne.symm hll)).trans g6,fun b'=>?_⟩
        rw [g7 b',c4L (hdom v' v2 (st x))]
      case bx =>
        obtain ⟨⟨x,v'⟩,c,Ei,g1,⟨g2,rfl⟩,g3,g4,g5,g6,g7⟩:=hJ
        obtain ⟨lo,b',hlo,hlog,_,hloA,hB,_,_,hone,_⟩:=g4.boxAt (hbid v' _) rfl
        obtain rfl:=hLb Ei W2 lo g3 hlo hlog
        rw [hlbA] at hloA;injection hloA with hloA;subst hloA
        exact ⟨(g7 b).2 (.inl fun hk=>hk bid _ lo (hbid v' _) hlo hlbA),hB,hone⟩
      case rd =>
        obtain ⟨hx,hxv⟩:=hx
        obtain ⟨x,v'⟩:=x
        simp only at hx hxv hi
        subst hxv
        intro N1 hN1
        refine round x v' c hx hi C1 l hC1 N1 (fun s1 hs1=>hN1 s1 (fun C2 hC2 a w hs=>wpIn_mono (hs1 C2 hC2 a w hs) fun e a' w' hq=>?_))
        cases e with
        | normal =>
          obtain ⟨hp',c',⟨y,q1,q2,q3⟩,hrb⟩:=hq
          exact ⟨hp',c',⟨(y,v'),⟨q1,rfl⟩,q2,q3⟩,hrb⟩
        | _=>exact hq
      have harr:#[Value.func (.yield (w.heap.size+1)) #[] #[],uc,.pointer (some ⟨b,0,none⟩)]++us.toArray=#[.func (.yield (w.heap.size+1)) #[] #[]]++vcs:=by
        have:vcs=(uc::Value.pointer (some ⟨b,0,none⟩)::us).toArray:=by rw [←hup,←huu]
        rw [this];simp
      rw [harr] at hc
      refine Calls.mono hc (fun e W2 ⟨⟨v,he⟩,hj⟩=>?_)
      subst he
      have hsat:∀ (hp':List (Nat×HObj)) (c':Nat) (Ei:Env) (W:World),Ext W1 (E.mark w.heap.size) W Ei→R C.K C.w0 C.E0.F Ei (hget hp') W→(∀ g,Ei.G g→g < c')→Sat C ⟨n,tm,hp',c'⟩ { a with defers:=[⟨.collected w.heap.size,#[]⟩]++a.defers } W:=by
        intro hp' c' Ei W e2 r2 hG2
        refine ⟨Ei,e0.trans (e1.trans e2),r2,hG2,hsz,?_,fun t x hx=>?_⟩
        · rw [hC.2.1,hC.2.2] at hdf ⊢
          obtain ⟨Ds,h1,h2,h3⟩:=hdf
          refine ⟨w.heap.size::Ds,by rw [h1];rfl,List.nodup_cons.2 ⟨fun hm=>?_,h2⟩,fun D hD=>?_⟩
          · exact absurd (a1g (r.bks _ (h3 _ hm).1)) (Nat.lt_irrefl _)
          · rcases List.mem_cons.1 hD with rfl | hD
            · exact ⟨e2.M _ (.inr rfl),r.size⟩
            · exact ⟨e2.M _ (e1.M _ (h3 D hD).1),(h3 D hD).2⟩
        · obtain ⟨z,rfl⟩:=a6l hV t x hx
          exact (htm t _ hx).ext (e1.trans e2)
      have hj':(∃ O,Jn C W1 (E.mark w.heap.size) (w.heap.size+1) rec (fun p:α×Value=>(bid,bxO gb ty p.2)::st p.1) (fun p=>idx p.1) (fun p=>I p.1) N O W2)∨∃ i,i < N∧Jxn C W1 (E.mark w.heap.size) (w.heap.size+1) rec (fun e hp' c'=>HQ C Q e ⟨n,tm,hp',c'⟩) W2:=by
        rcases hj with ⟨v,O,x,c,Ei,g1,⟨g2,_⟩,g3⟩ | hj
        · exact .inl ⟨O,x,c,Ei,g1,g2,g3⟩
        · exact .inr hj
      obtain ⟨jump,W3,h1,h2⟩:=b2N hrec hw0 _ hsat (fun x c hx hi=>done x.1 x.2 c hx hi) W2 hj'
      rw [hC.1] at h2
      exact ⟨jump,W3,h1,h2⟩
end
end Go.Proofs.YtjdmfohncgkdoaaGreatDoor
namespace Go.Proofs
open Go.Shelf
def Tryz.lays143_ren:Go.Shelf.Ren:=⟨fun | 143=>78 | 219=>103 | 217=>128 | 225=>129 | 224=>130 | 267=>131 | 266=>150 | 314=>151 | n=>n,fun | 9=>9 | 3=>3 | 4=>4 | 5=>5 | 46=>192 | 146=>209 | 51=>208 | n=>n,fun | 1=>0 | n=>n⟩
theorem Tryz.lays143:Go.Proofs.Lays.n143 Tryz.prog Tryz.lays143_ren:={
 mixed:=by kernel_rfl
 f143:=Tryz.func78.trans (congrArg some (by kernel_rfl))
 f217:=Tryz.func128.trans (congrArg some (by kernel_rfl))
 f219:=Tryz.func103.trans (congrArg some (by kernel_rfl))
 f224:=Tryz.func130.trans (congrArg some (by kernel_rfl))
 f225:=Tryz.func129.trans (congrArg some (by kernel_rfl))
 f266:=Tryz.func150.trans (congrArg some (by kernel_rfl))
 f267:=Tryz.func131.trans (congrArg some (by kernel_rfl))
 f314:=Tryz.func151.trans (congrArg some (by kernel_rfl))
 t3:=Tryz.underlying3
 a3:=Tryz.isAgg3
 z3:=Tryz.sizeOf3
 v3:=Tryz.zeroValue3
 t4:=Tryz.underlying4
 a4:=Tryz.isAgg4
 z4:=Tryz.sizeOf4
 v4:=Tryz.zeroValue4
 t5:=Tryz.underlying5
 a5:=Tryz.isAgg5
 z5:=Tryz.sizeOf5
 v5:=Tryz.zeroValue5
 t9:=Tryz.underlying9
 a9:=Tryz.isAgg9
 z9:=Tryz.sizeOf9
 v9:=Tryz.zeroValue9
 t46:=Tryz.underlying192
 a46:=Tryz.isAgg192
 z46:=Tryz.sizeOf192
 v46:=Tryz.zeroValue192
 t51:=Tryz.underlying208
 a51:=Tryz.isAgg208
 z51:=Tryz.sizeOf208
 v51:=Tryz.zeroValue208
 t146:=Tryz.underlying209
 a146:=Tryz.isAgg209
 z146:=Tryz.sizeOf209
 v146:=Tryz.zeroValue209
 g1:=by kernel_rfl }
open Go.RowKit Go.Lib in
theorem Tryz.strings_Index_one (s:ByteArray) (c:UInt8) (w:World) :
  Calls Tryz.prog 78 #[.string s,.string ⟨#[c]⟩] w fun e w'=>e=.returned (.int .i64 (Lib.indexByte s.data.toList c))∧w'=w:=Any.strings_Index_one Tryz.lays143 s c w
def Tryz.lays145_ren:Go.Shelf.Ren:=⟨fun | 145=>57 | 220=>84 | 219=>103 | 217=>128 | 225=>129 | 224=>130 | 267=>131 | 266=>150 | 314=>151 | n=>n,fun | 9=>9 | 4=>4 | 59=>109 | 3=>3 | 5=>5 | 46=>192 | 146=>209 | 51=>208 | n=>n,fun | 1=>0 | n=>n⟩
theorem Tryz.lays145:Go.Proofs.Lays.n145 Tryz.prog Tryz.lays145_ren:={
 mixed:=by kernel_rfl
 f145:=Tryz.func57.trans (congrArg some (by kernel_rfl))
 f217:=Tryz.func128.trans (congrArg some (by kernel_rfl))
 f219:=Tryz.func103.trans (congrArg some (by kernel_rfl))
 f220:=Tryz.func84.trans (congrArg some (by kernel_rfl))
 f224:=Tryz.func130.trans (congrArg some (by kernel_rfl))
 f225:=Tryz.func129.trans (congrArg some (by kernel_rfl))
 f266:=Tryz.func150.trans (congrArg some (by kernel_rfl))
 f267:=Tryz.func131.trans (congrArg some (by kernel_rfl))
 f314:=Tryz.func151.trans (congrArg some (by kernel_rfl))
 t3:=Tryz.underlying3
 a3:=Tryz.isAgg3
 z3:=Tryz.sizeOf3
 v3:=Tryz.zeroValue3
 t4:=Tryz.underlying4
 a4:=Tryz.isAgg4
 z4:=Tryz.sizeOf4
 v4:=Tryz.zeroValue4
 t5:=Tryz.underlying5
 a5:=Tryz.isAgg5
 z5:=Tryz.sizeOf5
 v5:=Tryz.zeroValue5
 t9:=Tryz.underlying9
 a9:=Tryz.isAgg9
 z9:=Tryz.sizeOf9
 v9:=Tryz.zeroValue9
 t46:=Tryz.underlying192
 a46:=Tryz.isAgg192
 z46:=Tryz.sizeOf192
 v46:=Tryz.zeroValue192
 t51:=Tryz.underlying208
 a51:=Tryz.isAgg208
 z51:=Tryz.sizeOf208
 v51:=Tryz.zeroValue208
 t59:=Tryz.underlying109
 a59:=Tryz.isAgg109
 z59:=Tryz.sizeOf109
 v59:=Tryz.zeroValue109
 t146:=Tryz.underlying209
 a146:=Tryz.isAgg209
 z146:=Tryz.sizeOf209
 v146:=Tryz.zeroValue209
 g1:=by kernel_rfl }
open Go.RowKit Go.Lib in
theorem Tryz.strings_Cut (s sep:ByteArray) (m:Int) (w:World) (hs:s.size < 4294967281) (hm:w.cell? ⟨0,0,none⟩=some (.int .i64 m)) :
  Calls Tryz.prog 57 #[.string s,.string sep] w fun e w'=>e=.returned (.tuple #[.string ⟨(Lib.cut s.data.toList sep.data.toList).1.toArray⟩,.string ⟨(Lib.cut s.data.toList sep.data.toList).2.1.toArray⟩,.bool (Lib.cut s.data.toList sep.data.toList).2.2])∧∃ n,w'=w.drewN n:=Any.strings_Cut Tryz.lays145 s sep m w hs hm
end Go.Proofs
namespace Go.Proofs.YtjdmfohncgkdoaaGreatDoor
set_option linter.unusedSimpArgs false
set_option linter.unusedVariables false
set_option maxRecDepth 100000
open Go.RowKit
theorem b5O (c:UInt8):a0q Tryz.prog 44 [u8V c] (a0s (a3j c)):=by
 have hlt:=c.toNat_lt
 refine a0m Tryz.func44 rfl kr _ _ _ rfl 13 rfl rfl (fun w F=>?_)
 refine ru 21 ?_
 refine rt1 ?_
 exact a1d (by unfold a3j;rw [Bool.eq_iff_iff];simp;omega)
end Go.Proofs.YtjdmfohncgkdoaaGreatDoor
namespace Go.Proofs
open Go.Shelf
def Tryz.lays156_ren:Go.Shelf.Ren:=⟨fun | 156=>49 | 165=>73 | 166=>25 | 169=>28 | 240=>50 | 241=>99 | 276=>74 | 277=>126 | n=>n,fun | 31=>44 | 9=>9 | 3=>3 | 4=>4 | 0=>0 | 20=>20 | 72=>62 | 76=>70 | 70=>59 | 37=>60 | 75=>69 | 127=>96 | 164=>133 | 5=>5 | 80=>74 | n=>n,fun | n=>n⟩
theorem Tryz.lays156:Go.Proofs.Lays.n156 Tryz.prog Tryz.lays156_ren:={
 mixed:=by kernel_rfl
 f156:=Tryz.func49.trans (congrArg some (by kernel_rfl))
 f165:=Tryz.func73.trans (congrArg some (by kernel_rfl))
 f166:=Tryz.func25.trans (congrArg some (by kernel_rfl))
 f169:=Tryz.func28.trans (congrArg some (by kernel_rfl))
 f240:=Tryz.func50.trans (congrArg some (by kernel_rfl))
 f241:=Tryz.func99.trans (congrArg some (by kernel_rfl))
 f276:=Tryz.func74.trans (congrArg some (by kernel_rfl))
 f277:=Tryz.func126.trans (congrArg some (by kernel_rfl))
 t0:=Tryz.underlying0
 a0:=Tryz.isAgg0
 z0:=Tryz.sizeOf0
 v0:=Tryz.zeroValue0
 t3:=Tryz.underlying3
 a3:=Tryz.isAgg3
 z3:=Tryz.sizeOf3
 v3:=Tryz.zeroValue3
 t4:=Tryz.underlying4
 a4:=Tryz.isAgg4
 z4:=Tryz.sizeOf4
 v4:=Tryz.zeroValue4
 t9:=Tryz.underlying9
 a9:=Tryz.isAgg9
 z9:=Tryz.sizeOf9
 v9:=Tryz.zeroValue9
 t20:=Tryz.underlying20
 a20:=Tryz.isAgg20
 z20:=Tryz.sizeOf20
 v20:=Tryz.zeroValue20
 t31:=Tryz.underlying44
 a31:=Tryz.isAgg44
 z31:=Tryz.sizeOf44
 v31:=Tryz.zeroValue44
 t37:=Tryz.underlying60
 a37:=Tryz.isAgg60
 z37:=Tryz.sizeOf60
 v37:=Tryz.zeroValue60
 t70:=Tryz.underlying59
 a70:=Tryz.isAgg59
 z70:=Tryz.sizeOf59
 v70:=Tryz.zeroValue59
 t72:=Tryz.underlying62
 a72:=Tryz.isAgg62
 z72:=Tryz.sizeOf62
 v72:=Tryz.zeroValue62
 t75:=Tryz.underlying69
 a75:=Tryz.isAgg69
 z75:=Tryz.sizeOf69
 v75:=Tryz.zeroValue69
 t76:=Tryz.underlying70
 a76:=Tryz.isAgg70
 z76:=Tryz.sizeOf70
 v76:=Tryz.zeroValue70
 t127:=Tryz.underlying96
 a127:=Tryz.isAgg96
 z127:=Tryz.sizeOf96
 v127:=Tryz.zeroValue96
 t164:=Tryz.underlying133
 a164:=Tryz.isAgg133
 z164:=Tryz.sizeOf133
 v164:=Tryz.zeroValue133 }
theorem Tryz.Builder_Extra_156:Builder.Extra Tryz.prog Tryz.lays156_ren:={
 sizeBuilder:=by kernel_rfl
 liesBuilder:=by kernel_rfl
 t5:=Tryz.underlying5
 a5:=Tryz.isAgg5
 z5:=Tryz.sizeOf5
 v5:=Tryz.zeroValue5
 infoByte:=by kernel_rfl
 cellsByte:=by kernel_rfl
 sizeByte:=by kernel_rfl
 neB5:=by decide }
open Go.RowKit in
theorem Tryz.strings_Join_none (a:Option Addr) (c:Nat) (sep:ByteArray) (w:World) :
  Calls Tryz.prog 49 #[.slice a 0 c,.string sep] w fun e w'=>e=.returned (.string ⟨#[]⟩)∧w'=w:=Any.strings_Join_none Tryz.lays156 Tryz.Builder_Extra_156 a c sep w
open Go.RowKit in
theorem Tryz.strings_Join (bk o c:Nat) (xs:List ByteArray) (sep:ByteArray) (w:World) (hcells:∀ (j:Nat) x,xs[j]?=some x→w.cell? ⟨bk,o+j,none⟩=some (.string x)) (hbk:bk < w.heap.size) (hN:xs.length≤140737488355328) (hcap:xs.length≤c) (hlen:(Lib.join (xs.map (·.data.toList)) sep.data.toList).length≤140737488355328) :
  Calls Tryz.prog 49 #[.slice (some ⟨bk,o,none⟩) xs.length c,.string sep] w fun e w'=>e=.returned (.string ⟨(Lib.join (xs.map (·.data.toList)) sep.data.toList).toArray⟩)∧Below w.heap.size w w':=Any.strings_Join Tryz.lays156 Tryz.Builder_Extra_156 bk o c xs sep w hcells hbk hN hcap hlen
def Tryz.lays146_ren:Go.Shelf.Ren:=⟨fun | 146=>35 | 221=>54 | 268=>76 | 138=>77 | 143=>78 | 195=>100 | 197=>101 | 218=>102 | 219=>103 | 260=>127 | 217=>128 | 225=>129 | 224=>130 | 267=>131 | 266=>150 | 314=>151 | n=>n,fun | 9=>9 | 31=>44 | 3=>3 | 4=>4 | 0=>0 | 105=>166 | 21=>21 | 5=>5 | 46=>192 | 119=>204 | 139=>207 | 138=>206 | 146=>209 | 51=>208 | n=>n,fun | 1=>0 | 3=>1 | 4=>2 | n=>n⟩
theorem Tryz.lays146:Go.Proofs.Lays.n146 Tryz.prog Tryz.lays146_ren:={
 mixed:=by kernel_rfl
 f138:=Tryz.func77.trans (congrArg some (by kernel_rfl))
 f143:=Tryz.func78.trans (congrArg some (by kernel_rfl))
 f146:=Tryz.func35.trans (congrArg some (by kernel_rfl))
 f195:=Tryz.func100.trans (congrArg some (by kernel_rfl))
 f197:=Tryz.func101.trans (congrArg some (by kernel_rfl))
 f217:=Tryz.func128.trans (congrArg some (by kernel_rfl))
 f218:=Tryz.func102.trans (congrArg some (by kernel_rfl))
 f219:=Tryz.func103.trans (congrArg some (by kernel_rfl))
 f221:=Tryz.func54.trans (congrArg some (by kernel_rfl))
 f224:=Tryz.func130.trans (congrArg some (by kernel_rfl))
 f225:=Tryz.func129.trans (congrArg some (by kernel_rfl))
 f260:=Tryz.func127.trans (congrArg some (by kernel_rfl))
 f266:=Tryz.func150.trans (congrArg some (by kernel_rfl))
 f267:=Tryz.func131.trans (congrArg some (by kernel_rfl))
 f268:=Tryz.func76.trans (congrArg some (by kernel_rfl))
 f314:=Tryz.func151.trans (congrArg some (by kernel_rfl))
 t0:=Tryz.underlying0
 a0:=Tryz.isAgg0
 z0:=Tryz.sizeOf0
 v0:=Tryz.zeroValue0
 t3:=Tryz.underlying3
 a3:=Tryz.isAgg3
 z3:=Tryz.sizeOf3
 v3:=Tryz.zeroValue3
 t4:=Tryz.underlying4
 a4:=Tryz.isAgg4
 z4:=Tryz.sizeOf4
 v4:=Tryz.zeroValue4
 t5:=Tryz.underlying5
 a5:=Tryz.isAgg5
 z5:=Tryz.sizeOf5
 v5:=Tryz.zeroValue5
 t9:=Tryz.underlying9
 a9:=Tryz.isAgg9
 z9:=Tryz.sizeOf9
 v9:=Tryz.zeroValue9
 t21:=Tryz.underlying21
 a21:=Tryz.isAgg21
 z21:=Tryz.sizeOf21
 v21:=Tryz.zeroValue21
 t31:=Tryz.underlying44
 a31:=Tryz.isAgg44
 z31:=Tryz.sizeOf44
 v31:=Tryz.zeroValue44
 t46:=Tryz.underlying192
 a46:=Tryz.isAgg192
 z46:=Tryz.sizeOf192
 v46:=Tryz.zeroValue192
 t51:=Tryz.underlying208
 a51:=Tryz.isAgg208
 z51:=Tryz.sizeOf208
 v51:=Tryz.zeroValue208
 t105:=Tryz.underlying166
 a105:=Tryz.isAgg166
 z105:=Tryz.sizeOf166
 v105:=Tryz.zeroValue166
 t119:=Tryz.underlying204
 a119:=Tryz.isAgg204
 z119:=Tryz.sizeOf204
 t138:=Tryz.underlying206
 a138:=Tryz.isAgg206
 z138:=Tryz.sizeOf206
 v138:=Tryz.zeroValue206
 t139:=Tryz.underlying207
 a139:=Tryz.isAgg207
 z139:=Tryz.sizeOf207
 v139:=Tryz.zeroValue207
 t146:=Tryz.underlying209
 a146:=Tryz.isAgg209
 z146:=Tryz.sizeOf209
 v146:=Tryz.zeroValue209
 g1:=by kernel_rfl
 g3:=by kernel_rfl
 g4:=by kernel_rfl }
open Go.RowKit Go.Lib in
theorem Tryz.strings_Split (s sep:ByteArray) (m:Int) (w:World) (hs:s.size < 4294967281) (hm:w.cell? ⟨0,0,none⟩=some (.int .i64 m)) (h1:1≤sep.size) :
  Calls Tryz.prog 35 #[.string s,.string sep] w fun e w' =>
   e=.returned (.slice (some ⟨w.heap.size,0,none⟩) (Lib.countB s sep+1) (Lib.countB s sep+1))∧w'=w.alloc (.cells ((Lib.splitB sep 0 (Lib.countB s sep) s).map Value.string).toArray 9):=Any.strings_Split Tryz.lays146 (by kernel_rfl) s sep m w hs hm h1
end Go.Proofs
namespace Go.Proofs.YtjdmfohncgkdoaaGreatDoor
set_option linter.unusedSimpArgs false
set_option linter.unusedVariables false
set_option maxRecDepth 100000
open Go.RowKit
def strC (w:List UInt8):List Value:=[.string ⟨w.toArray⟩]
@[reducible] def a0M (ls:List (List UInt8)):HV:=.sl 1 ls.length (fun i _=>a0p (ls.getD i []))
theorem b4o (w:List UInt8) (j:Nat) (h:j < 1):a0p w=.imm ((strC w).getD j undef):=by
 match j,h with | 0,_=>rfl
theorem b8h (x:List UInt8):∀ u∈strC x,u.oneCell'=true:=by
 intro u hu
 simp [strC] at hu
 subst hu;rfl
@[reducible] def b4T (o:Option (List (List UInt8))):HV:=t2 (a0M (o.getD [])) (a0h (if o.isSome then 0 else 2))
@[reducible] def b1F (x:List (List UInt8)×Nat×Int):HV:=t3 (a0M x.1) (a0h x.2.1) (a0h x.2.2)
theorem a7h (l:List UInt8) (c:UInt8):(Lib.splitB ⟨#[c]⟩ 0 (Lib.countB ⟨l.toArray⟩ ⟨#[c]⟩) ⟨l.toArray⟩)=(a0j c l).map (fun w=>⟨w.toArray⟩):=by
 have h1:=Lib.splitB_data ⟨#[c]⟩ 0 (Lib.countB ⟨l.toArray⟩ ⟨#[c]⟩) ⟨l.toArray⟩
 have h2:Lib.countB ⟨l.toArray⟩ ⟨#[c]⟩=Lib.count l [c]:=rfl
 have h3:(Lib.splitB ⟨#[c]⟩ 0 (Lib.countB ⟨l.toArray⟩ ⟨#[c]⟩) ⟨l.toArray⟩).map (·.data.toList)=a0j c l:=by
  rw [h1,h2];exact b6J c l
 rw [←h3,List.map_map]
 have:((fun w:List UInt8=>(⟨w.toArray⟩:ByteArray))∘fun x:ByteArray=>x.data.toList)=id:=by
  funext x;cases x;rfl
 rw [this,List.map_id]
theorem b8U (l:List UInt8) (c:UInt8) (hl:l.length≤1000000):a0q Tryz.prog 35 [a0p l,a0p [c]] (a0M (a0j c l)):=by
 refine ⟨⟨_,_,Tryz.func35,rfl,by kernel_rfl⟩,fun w F vs hF hr hw=>?_⟩
 obtain ⟨u,v,rfl,hu,hv⟩:=c3A hr
 rw [hu.imm_inv,hv.imm_inv]
 obtain ⟨m,hm⟩:=hw.max 0 (by kernel_rfl)
 refine (Tryz.strings_Split ⟨l.toArray⟩ ⟨#[c]⟩ m w (by rw [a2J];omega) hm (Nat.le_refl 1)).mono ?_
 rintro e w' ⟨rfl,rfl⟩
 have hlen:Lib.countB ⟨l.toArray⟩ ⟨#[c]⟩+1=(a0j c l).length:=by
  have:=Lib.splitB_all ⟨#[c]⟩ (Nat.le_refl 1) 0 _ ⟨l.toArray⟩ rfl
  rw [a7h,List.length_map] at this
  exact this.symm
 rw [hlen,a7h]
 refine b5m hF (fun w _=>a0p w) b4o b8h [] (e:=9) (l:=a0j c l) ⟨_,_,rfl,⟨fun _=>rfl,?_⟩,(Below.refl _ _).alloc (Nat.le_refl _) _⟩
 have hfl:(a0j c l).flatMap strC=((a0j c l).map (fun w=>(⟨w.toArray⟩:ByteArray))).map Value.string:=by
  rw [List.map_map]
  induction a0j c l with
  | nil=>rfl
  | cons a t ih=>simp [strC,ih]
 refine ⟨by rw [hfl];simp,.inr ⟨w.heap.size,(a0j c l).length,_,rfl,Nat.le_refl _,Blk.new w _ _,Nat.le_refl _,by have:=a2P c l;unfold maxLen;omega,by simp,by rw [hfl];exact List.take_of_length_le (by simp)⟩⟩
theorem a2k {ls:List (List UInt8)} {k:Nat} (h:k < ls.length):ls.getD k []∈ls:=by
 rw [List.getD_eq_getElem?_getD,List.getElem?_eq_getElem h];exact List.getElem_mem h
theorem b7W (l:List UInt8) (hl:l.length≤1000000):a0q Tryz.prog 17 [a0p l] (b4T (a2m l)):=by
 have hsl:=a2P 32 l
 refine a0m Tryz.func17 rfl kr _ _ _ rfl 33 rfl rfl (fun w F=>?_)
 refine ru 13 ?_
 refine wdc (fun hr0 hc0=>?_) (fun hr0 hc0=>?_)
 ·refine ru 8 ?_
  refine rt2 ?_
  obtain rfl:l=[]:=(by simpa using hc0);exact a1y (.nil 0 1 _ (by decide) none) (.imm _)
 refine ru 5 ?_
 refine cll (b8U l 32 hl) ?_
 refine ru 12 ?_
 refine a0n (α:=Nat) (fun x c=>⟨33,[(12,.v (a0M (a0j 32 l))),(13,.v (a0h (a0j 32 l).length)),(4,.v (a0M (a0j 32 l))),(14,.v (a0h x))],[],c⟩) (fun x=>x≤(a0j 32 l).length∧∀ i,i < x→a4s ((a0j 32 l).getD i [])=true) (fun x=>(a0j 32 l).length - x) (0) (by exact ⟨Nat.zero_le _,fun i h=>absurd h (Nat.not_lt_zero _)⟩) (a0c rfl (Nat.le_refl _) tsa a0k.nil) (fun k c hx NhL1 hL1=>?_)
 (try dsimp only at hx hL1 ⊢)
 obtain ⟨hk,hok⟩:=hx
 refine ru 6 ?_
 refine wdc (fun hr1 hc1=>?_) (fun hr1 hc1=>?_)
 ·refine ru 18 ?_
  refine wdc (fun hr2 hc2=>?_) (fun hr2 hc2=>?_)
  ·refine ru 10 ?_
   refine a0f ?_
   refine ru 2 ?_
   refine rt2 ?_
   have e:a2m l=none:=a6B (by simpa using hc0) (a2k om) (w:=(a0j 32 l).getD k []) (by have h2:(a0j 32 l).getD k []=[]:=(by simpa using hc2);rw [h2];rfl);rw [e];exact a1y (.nil 0 1 _ (by decide) none) (.imm _)
  refine ru 3 ?_
  have hpk:=b6U (a2k (ls:=a0j 32 l) (k:=k) om)
  refine ru 7 ?_
  refine a0n (α:=Nat) (fun x c=>⟨33,[(12,.v (a0M (a0j 32 l))),(13,.v (a0h (a0j 32 l).length)),(4,.v (a0M (a0j 32 l))),(14,.v (a0h k)),(6,.v (a0p ((a0j 32 l).getD k []))),(21,.v (a0h ((a0j 32 l).getD k []).length)),(22,.v (a0h x))],[],c⟩) (fun x=>x≤((a0j 32 l).getD k []).length∧∀ i,i < x→a3j (((a0j 32 l).getD k []).getD i 0)=true) (fun x=>((a0j 32 l).getD k []).length - x) (0) (by exact ⟨Nat.zero_le _,fun i h=>absurd h (Nat.not_lt_zero _)⟩) (a0c rfl (Nat.le_refl _) tsa a0k.nil) (fun j c hx NhL2 hL2=>?_)
  (try dsimp only at hx hL2 ⊢)
  obtain ⟨hj,hpl⟩:=hx
  refine ru 6 ?_
  refine wdc (fun hr3 hc3=>?_) (fun hr3 hc3=>?_)
  ·refine ru 15 ?_
   refine cll (c2R (((a0j 32 l).getD k []).getD j 0) _ rfl) ?_
   refine ru 3 ?_
   refine wdc (fun hr4 hc4=>?_) (fun hr4 hc4=>?_)
   ·refine ru 9 ?_
    refine a0f ?_
    refine ru 3 ?_
    refine a0f ?_
    refine ru 2 ?_
    refine rt2 ?_
    have e:a2m l=none:=a6B (by simpa using hc0) (a2k om) (w:=(a0j 32 l).getD k []) (b8O (j:=j) om (by simpa using hc4));rw [e];exact a1y (.nil 0 1 _ (by decide) none) (.imm _)
   refine ru 7 ?_
   exact hL2 (j+1) _ _ (by (try dsimp only);exact ⟨by omega,fun i hi=>by rcases Nat.lt_or_ge i j with h | h;exact hpl i h;have:i=j:=om;subst this;simpa using hc4⟩) (by (try dsimp only);omega) (a0c rfl (Nat.le_refl _) tsa a0k.nil)
  refine ru 2 ?_
  refine a0d ?_
  refine ru 7 ?_
  exact hL1 (k+1) _ _ (by (try dsimp only);exact ⟨by omega,fun i hi=>by rcases Nat.lt_or_ge i k with h | h;exact hok i h;have:i=k:=om;subst this;exact b3h hc2 (fun j hj=>hpl j om)⟩) (by (try dsimp only);omega) (a0c rfl (Nat.le_refl _) tsa a0k.nil)
 refine ru 2 ?_
 refine a0d ?_
 refine ru 10 ?_
 refine rt2 ?_
 have e:a2m l=some (a0j 32 l):=a9B (by simpa using hc0) (fun w hw=>by obtain ⟨i,hi,rfl⟩:=List.getElem_of_mem hw;have:=hok i om;simpa [List.getD_eq_getElem?_getD,hi] using this);rw [e];exact a1y Frz.fz (.imm _)
theorem b0t {ls:List (List UInt8)} {i:Nat} (h:i < ls.length - 1):ls.dropLast.getD i []=ls.getD i []:=by
 have h2:i < ls.length:=by omega
 simp [List.getD_eq_getElem?_getD,List.getElem?_dropLast,h,h2]
theorem b3l {sh:List (Nat×HObj)} {n:Nat} {f:Nat→Nat→HV} (ls:List (List UInt8)) (hn:n=ls.length) (hf:∀ i,i < ls.length→f i 0=a0p (ls.getD i [])):Fz sh (.sl 1 n f) (a0M ls):=by
 subst hn
 refine .sl _ _ _ _ fun i j hi hj=>?_
 obtain rfl:j=0:=by omega
 rw [hf i hi];exact .imm _
theorem b8S (ls:List (List UInt8)) (h:ls≠[]):ls.getD (ls.length - 1) []=ls.getLast h:=by
 rw [List.getLast_eq_getElem,List.getD_eq_getElem?_getD,List.getElem?_eq_getElem (by have:=List.length_pos_iff.2 h;omega)];rfl
theorem c3i (l:List UInt8) (hl:l.length≤1000000):a0q Tryz.prog 16 [a0p l] (b1F (a1w l)):=by
 have hsl:=a2P 10 l
 have hs0:=List.length_pos_iff.2 (a2p 10 l)
 refine a0m Tryz.func16 rfl kr _ _ _ rfl 28 rfl rfl (fun w F=>?_)
 refine ru 15 ?_
 refine wdc (fun hr0 hc0=>?_) (fun hr0 hc0=>?_)
 ·refine ru 9 ?_
  refine rt3 ?_
  have e:a1w l=([],0,4):=(by unfold a1w;rw [if_pos om]);rw [e];exact a1r (.nil 0 1 _ (by decide) none) (.imm _) (.imm _)
 refine ru 9 ?_
 refine wdc (fun hr1 hc1=>?_) (fun hr1 hc1=>?_)
 ·refine ru 9 ?_
  refine rt3 ?_
  obtain rfl:l=[]:=(by simpa using hc1);exact a1r (.nil 0 1 _ (by decide) none) (.imm _) (.imm _)
 refine ru 5 ?_
 refine cll (b8U l 10 hl) ?_
 refine ru 18 ?_
 refine rvl (a0p ((a0j 10 l).getLast (a2p 10 l))) ((by rw [←b8S,show (a0j 10 l).length - 1=((a0j 10 l).length - 1:Int).toNat from by omega];rfl)) ?_
 refine ru 3 ?_
 refine wdc (fun hr2 hc2=>?_) (fun hr2 hc2=>?_)
 ·refine ru 10 ?_
  refine rt3 ?_
  have e:a1w l=([],(a0j 10 l).length,2):=(by unfold a1w;rw [if_neg om,if_neg (by simpa using hc1),if_neg (by simpa using hc2)]);rw [e];exact a1r (.nil 0 1 _ (by decide) none) (.imm _) (.imm _)
 refine ru 15 ?_
 refine rt3 ?_
 have e:a1w l=((a0j 10 l).dropLast,0,0):=(by unfold a1w;rw [if_neg om,if_neg (by simpa using hc1),if_pos (by simpa using hc2)]);rw [e];exact a1r (b3l _ (by rw [List.length_dropLast];omega) (fun i hi=>by rw [List.length_dropLast] at hi;show a0p _=a0p _;rw [show Int.toNat 0+i=i from Nat.zero_add i,b0t hi])) (.imm _) (.imm _)
theorem a5K {l:List UInt8} {out:List (List UInt8)} {w:List UInt8} {X:List (List UInt8)} (h0:l≠[]) (h:a0j 32 l=out++w::X) (hw:a4s w=false):a2m l=none:=a6B h0 (by rw [h];simp) hw
theorem b5H (l:List UInt8) (hl:l.length≤1000000):a0q Tryz.prog 20 [a0p l] (b4T (a2m l)):=by
 refine a0m Tryz.func20 rfl kr _ _ _ rfl 48 rfl rfl (fun w F=>?_)
 refine ru 23 ?_
 refine a4v 4 4 1 9 ((fun i j=>a0p (([]:List (List UInt8)).getD i []))) rfl (by decide) rfl (c':=1) rfl ?_
 refine a0n (α:=Nat×List (List UInt8)×List UInt8×Nat×Nat) (fun x c=>⟨48,[(0,.v (a0p l)),(5,.v (a0p x.2.2.1)),(6,.v (a0h x.1)),(4,.v (.os 4 x.2.2.2.2 0 x.2.2.2.1))],[(4,⟨x.2.2.2.2,x.2.2.2.1,1,9,0,fun i j=>a0p (x.2.1.getD i [])⟩)],c⟩) (fun x=>a0j 32 l=x.2.1++b1h x.2.2.1 (a0j 32 (l.drop x.1))∧x.2.2.2.1=x.2.1.length∧x.1≤l.length∧x.2.2.2.1+x.2.2.1.length≤x.1∧(∀ q∈x.2.1,a4s q=true)∧x.2.2.1.all a3j=true∧(x.2.2.1=[]→x.1=0∨x.1 < l.length)) (fun x=>l.length - x.1) ((0,[],[],0,0)) (by exact ⟨(b0a 32 l).symm,rfl,Nat.zero_le _,Nat.le_refl _,(fun x h=>by cases h),rfl,fun _=>.inl rfl⟩) (a0c rfl (Nat.le_refl _) tsa hsa) (fun x c hx NhL1 hL1=>?_)
 revert hx hL1;obtain ⟨p,out,w,n,g⟩:=x;intro hx hL1;dsimp only at hx hL1 ⊢
 obtain ⟨hL,hn,hp,hnw,hok,hpl,hw0⟩:=hx
 refine ru 9 ?_
 refine wdc (fun hr0 hc0=>?_) (fun hr0 hc0=>?_)
 ·skip
  have hd:=b3u (l:=l) (p:=p) om;have hne:l≠[]:=(fun h=>by rw [h] at hc0;simp only [List.length_nil] at hc0;omega)
  refine ru 13 ?_
  refine wdc (fun hr1 hc1=>?_) (fun hr1 hc1=>?_)
  ·skip
   have hb:l.getD p 0=32:=b4r (by show _=32;omega);rw [hd,hb,b4Y] at hL
   refine ru 14 ?_
   refine wdc (fun hr2 hc2=>?_) (fun hr2 hc2=>?_)
   ·refine ru 11 ?_
    refine a0f ?_
    refine ru 2 ?_
    refine rt2 ?_
    have e:a2m l=none:=(by rcases hc2 with h | h;(have h:=(by simpa using h:w=[]);subst h;exact a5K hne hL rfl);(have h2:l.drop (p+1)=[]:=(List.drop_eq_nil_of_le om);rw [h2] at hL;exact a6B hne (w:=[]) (by rw [hL];simp [a0j]) rfl));rw [e];exact a1y (.nil 0 1 _ (by decide) none) (.imm _)
   have hw1:¬ w=[]:=hc2.1;have hp1:p+1 < l.length:=om
   refine ru 6 ?_
   refine a0t 28 (a0b (id:=28) (hs:=[_]) ei_44.h omx rfl omx ⟨rfl,rfl,rfl,rfl,trivial⟩) rfl rfl a0e rfl rfl (c':=c+1) rfl ?_
   first
   | refine a0t 29 (a0a ei_44.h omy rfl omy omy (a0u rfl omy) omy rfl) rfl rfl (a0g rfl (a0C rfl)) rfl rfl (c':=c+2) rfl ?_
   | refine a0t 29 (a0a ei_44.h omy rfl omy omy (a0G rfl omy) omy rfl) rfl rfl (a0g rfl (a0C rfl)) rfl rfl (c':=c+2) rfl ?_
   | refine a0t 29 (a0a ei_44.h omy rfl omy omy (a0F rfl) omy rfl) rfl rfl (a0g rfl a0e) rfl rfl (c':=c+2) rfl ?_
   | refine a0t 29 (a0a ei_44.h omy rfl omy omy (a0w 1 (fun _ _=>default) rfl) omy rfl) rfl rfl (a0g rfl a0e) rfl rfl (c':=c+2) rfl ?_
   refine ru 17 ?_
   exact hL1 ((p+1,out++[w],[],n+1,_)) _ _ (by (try dsimp only);exact ⟨by rw [b0a,hL];simp,by simp [hn],by omega,by simp;omega,(fun x h=>by rcases List.mem_append.1 h with h | h;exact hok x h;simp at h;subst h;unfold a4s;rw [hpl];cases x <;> simp_all),rfl,fun _=>.inr om⟩) (by (try dsimp only);omega) (a0c rfl (Nat.le_refl _) tsa (a0k.cons rfl (a5M.of fun i j hi hj=>a9j (l:=out) (k:=[w]) (enc:=fun w _=>a0p w) (d:=[]) hn (fun i j _ _=>.refl _) (b0W (x:=w) (enc:=fun w _=>a0p w) (d:=[]) (fun j hj=>.refl _)) i j (by simp;omega) hj) a0k.nil))
  have hb:¬ l.getD p 0=32:=(fun h=>hc1 (by rw [h];rfl));rw [hd,b7G _ _ _ _ hb] at hL
  refine ru 8 ?_
  refine cll (b5O (l.getD p 0)) ?_
  refine ru 3 ?_
  refine wdc (fun hr3 hc3=>?_) (fun hr3 hc3=>?_)
  ·refine ru 10 ?_
   refine a0f ?_
   refine ru 2 ?_
   refine rt2 ?_
   have e:a2m l=none:=a5K hne hL (by rw [List.append_assoc];exact a9K _ _ _ (by simpa using hc3));rw [e];exact a1y (.nil 0 1 _ (by decide) none) (.imm _)
  refine ru 19 ?_
  exact hL1 ((p+1,out,w++[l.getD p 0],n,g)) _ _ (by (try dsimp only);exact ⟨hL,hn,by omega,by simp;omega,hok,by rw [List.all_append,hpl];simp;simpa using hc3,fun h=>absurd h (by simp)⟩) (by (try dsimp only);omega) (a0c rfl (Nat.le_refl _) (tsr rfl (a0K.cons rfl (c4q (by show w++List.take (((p:Int)+1).toNat - p) (List.drop p l)=_;rw [hd,show ((p:Int)+1).toNat - p=1 from by omega];rfl)) tsa)) hsa)
 refine ru 2 ?_
 refine a0d ?_
 refine ru 9 ?_
 refine wdc (fun hr4 hc4=>?_) (fun hr4 hc4=>?_)
 ·refine ru 8 ?_
  refine rt2 ?_
  obtain rfl:l=[]:=(by simpa using hc4);exact a1y (.nil 0 1 _ (by decide) none) (.imm _)
 refine ru 3 ?_
 have hne:l≠[]:=(by simpa using hc4);obtain rfl:p=l.length:=om;have hw1:¬ w=[]:=(fun h=>by rcases hw0 h with h | h;exact hne (List.eq_nil_of_length_eq_zero h);omega);rw [List.drop_length,c0L] at hL
 refine ru 3 ?_
 refine a0t 46 (a0b (id:=46) (hs:=[_]) ei_44.h omx rfl omx ⟨rfl,rfl,rfl,rfl,trivial⟩) rfl rfl a0e rfl rfl (c':=c+1) rfl ?_
 first
 | refine a0t 47 (a0a ei_44.h omy rfl omy omy (a0u rfl omy) omy rfl) rfl rfl (a0g rfl (a0C rfl)) rfl rfl (c':=c+2) rfl ?_
 | refine a0t 47 (a0a ei_44.h omy rfl omy omy (a0G rfl omy) omy rfl) rfl rfl (a0g rfl (a0C rfl)) rfl rfl (c':=c+2) rfl ?_
 | refine a0t 47 (a0a ei_44.h omy rfl omy omy (a0F rfl) omy rfl) rfl rfl (a0g rfl a0e) rfl rfl (c':=c+2) rfl ?_
 | refine a0t 47 (a0a ei_44.h omy rfl omy omy (a0w 1 (fun _ _=>default) rfl) omy rfl) rfl rfl (a0g rfl a0e) rfl rfl (c':=c+2) rfl ?_
 refine ru 5 ?_
 refine a4X rfl (a0r rfl) (a0r rfl) [(4,_)] rfl (a0g rfl a0e) ?_
 have e:a2m l=some (out++[w]):=(by rw [a9B hne,hL];intro x h;rw [hL] at h;rcases List.mem_append.1 h with h | h;exact hok x h;simp at h;subst h;unfold a4s;rw [hpl];cases x <;> simp_all);rw [e];exact a1y (a1x (l:=out++[w]) (enc:=fun w _=>a0p w) (d:=[]) (List.mem_cons_self ..) rfl (by simp [hn]) (Nat.le_refl _) (fun i j hi hj=>b8D (l:=out) (k:=[w]) (enc:=fun w _=>a0p w) (d:=[]) hn (fun i j _ _=>.imm _) (fun i j hi hj=>by match i,hi with | 0,_=>exact .imm _) i j hi hj)) (.imm _)
theorem b5E (l:List UInt8) (hl:l.length≤65536):a0q Tryz.prog 19 [a0p l] (b1F (a1w l)):=by
 refine a0m Tryz.func19 rfl kr _ _ _ rfl 38 rfl rfl (fun w F=>?_)
 refine ru 15 ?_
 refine wdc (fun hr0 hc0=>?_) (fun hr0 hc0=>?_)
 ·skip
  exfalso;omega
 refine ru 19 ?_
 refine a4v 5 5 1 9 ((fun i j=>a0p (([]:List (List UInt8)).getD i []))) rfl (by decide) rfl (c':=1) rfl ?_
 refine a0n (α:=Nat×List (List UInt8)×Nat×Nat×Nat) (fun x c=>⟨38,[(0,.v (a0p l)),(6,.v (a0h x.2.2.1)),(7,.v (a0h x.1)),(5,.v (.os 5 x.2.2.2.2 0 x.2.2.2.1))],[(5,⟨x.2.2.2.2,x.2.2.2.1,1,9,0,fun i j=>a0p (x.2.1.getD i [])⟩)],c⟩) (fun x=>a0j 10 l=x.2.1++a0j 10 (l.drop x.2.2.1)∧x.2.2.2.1=x.2.1.length∧x.1≤l.length∧x.2.2.2.1≤x.2.2.1∧x.2.2.1≤x.1∧∀ b∈(l.drop x.2.2.1).take (x.1 - x.2.2.1),b≠10) (fun x=>l.length - x.1) ((0,[],0,0,0)) (by exact ⟨rfl,rfl,Nat.zero_le _,Nat.le_refl _,Nat.le_refl _,(fun b h=>by simp at h)⟩) (a0c rfl (Nat.le_refl _) tsa hsa) (fun x c hx NhL1 hL1=>?_)
 revert hx hL1;obtain ⟨p,out,f,n,g⟩:=x;intro hx hL1;dsimp only at hx hL1 ⊢
 obtain ⟨hL,hn,hp,hnf,hfp,hno⟩:=hx
 refine ru 9 ?_
 refine wdc (fun hr1 hc1=>?_) (fun hr1 hc1=>?_)
 ·refine ru 12 ?_
  refine wdc (fun hr2 hc2=>?_) (fun hr2 hc2=>?_)
  ·skip
   have hb:l.getD p 0=10:=b4r (by show _=10;omega);have hst:=b5z hfp om hno hb;rw [hst] at hL
   refine ru 7 ?_
   refine rvl (a0p ((l.drop f).take (p - f))) (rfl) ?_
   refine a0t 26 (a0b (id:=26) (hs:=[_]) ei_44.h omx rfl omx ⟨rfl,rfl,rfl,rfl,trivial⟩) rfl rfl a0e rfl rfl (c':=c+1) rfl ?_
   first
   | refine a0t 27 (a0a ei_44.h omy rfl omy omy (a0u rfl omy) omy rfl) rfl rfl (a0g rfl (a0C rfl)) rfl rfl (c':=c+2) rfl ?_
   | refine a0t 27 (a0a ei_44.h omy rfl omy omy (a0G rfl omy) omy rfl) rfl rfl (a0g rfl (a0C rfl)) rfl rfl (c':=c+2) rfl ?_
   | refine a0t 27 (a0a ei_44.h omy rfl omy omy (a0F rfl) omy rfl) rfl rfl (a0g rfl a0e) rfl rfl (c':=c+2) rfl ?_
   | refine a0t 27 (a0a ei_44.h omy rfl omy omy (a0w 1 (fun _ _=>default) rfl) omy rfl) rfl rfl (a0g rfl a0e) rfl rfl (c':=c+2) rfl ?_
   refine ru 15 ?_
   exact hL1 ((p+1,out++[(l.drop f).take (p - f)],p+1,n+1,_)) _ _ (by (try dsimp only);exact ⟨by rw [hL];simp,by simp [hn],by omega,by omega,by omega,(fun b h=>by simp at h)⟩) (by (try dsimp only);omega) (a0c rfl (Nat.le_refl _) tsa (a0k.cons rfl (a5M.of fun i j hi hj=>a9j (l:=out) (k:=[(l.drop f).take (p - f)]) (enc:=fun w _=>a0p w) (d:=[]) hn (fun i j _ _=>.refl _) (b0W (x:=(l.drop f).take (p - f)) (enc:=fun w _=>a0p w) (d:=[]) (fun j hj=>.refl _)) i j (by simp;omega) hj) a0k.nil))
  have hb:l.getD p 0≠10:=(fun h=>hc2 (by rw [h];rfl))
  refine ru 8 ?_
  exact hL1 ((p+1,out,f,n,g)) _ _ (by (try dsimp only);exact ⟨hL,hn,by omega,hnf,by omega,b5p hfp om hno hb⟩) (by (try dsimp only);omega) (a0c rfl (Nat.le_refl _) tsa hsa)
 refine ru 2 ?_
 refine a0d ?_
 refine ru 4 ?_
 obtain rfl:p=l.length:=om;have hE:=b7q hL (fun b hb=>hno b (by rw [List.take_of_length_le (by rw [List.length_drop];exact Nat.le_refl _)];exact hb))
 refine ru 7 ?_
 refine wdc (fun hr3 hc3=>?_) (fun hr3 hc3=>?_)
 ·refine ru 12 ?_
  refine rt3 ?_
  have hne:l≠[]:=(fun h=>by rw [h] at hc3;simp only [List.length_nil] at hc3;omega);have e:a1w l=([],out.length+1,2):=(by rw [b1e om hne hE,if_neg (fun h=>by have:=congrArg List.length h;rw [List.length_drop] at this;simp only [List.length_nil] at this;omega)]);rw [e];exact a1r (.nil 0 1 _ (by decide) none) (by rw [hn];exact .imm _) (.imm _)
 refine ru 11 ?_
 refine a5f rfl (a0r rfl) (a0r rfl) (a0r rfl) [(5,_)] rfl (a0g rfl a0e) ?_
 have e:a1w l=(out,0,0):=(by by_cases hne:l=[];(subst hne;have h0:out=[]:=(by simpa [a0j] using hE);rw [h0];rfl);(rw [b1e om hne hE,if_pos (List.drop_eq_nil_of_le om)]));rw [e];exact a1r (a1x (l:=out) (enc:=fun w _=>a0p w) (d:=[]) (List.mem_cons_self ..) rfl hn (Nat.le_refl _) (fun i j _ _=>.imm _)) (.imm _) (.imm _)
theorem b7I {w:World} {E:Env} {v:Value} {ls:List (List UInt8)} (h:Rep w E v (a0M ls)):∃ A c,v=.slice A ls.length c∧ls.length≤c∧c≤maxLen∧Sl w w.heap.size 1 strC A ls:=c5D 1 strC (fun _=>rfl) (fun w _=>a0p w) b4o [] ls h
theorem c4u (ls:List (List UInt8)) (h1:ls.length≤1000000) (h2:(joinL ls).length≤100000000):a0q Tryz.prog 49 [a0M ls,a0p [32]] (a0p (joinL ls)):=by
 refine ⟨⟨_,_,Tryz.func49,rfl,by kernel_rfl⟩,fun w F vs hF hr hw=>?_⟩
 obtain ⟨u,v,rfl,hu,hv⟩:=c3A hr
 obtain ⟨A,c,rfl,hc,hm,hs⟩:=b7I hu
 rw [hv.imm_inv]
 have hj:Lib.join ((ls.map (fun w:List UInt8=>(⟨w.toArray⟩:ByteArray))).map (·.data.toList)) [32]=joinL ls:=by
  rw [←b5b,List.map_map]
  congr 1
  exact List.map_id _
 by_cases h0:0 < ls.length
 ·obtain ⟨b,o,rfl,hlt⟩:=hs.addr h0 (by omega)
  have key:=Tryz.strings_Join b o c (ls.map (fun w:List UInt8=>(⟨w.toArray⟩:ByteArray))) ⟨#[32]⟩ w (fun j x hx=>by
   rw [List.getElem?_map] at hx
   obtain ⟨y,hy,rfl⟩:=Option.map_eq_some_iff.1 hx
   have hj:j < ls.length:=(List.getElem?_eq_some_iff.1 hy).1
   have:=hs.cell1 hj
   rw [this]
   have e:ls[j]=y:=(List.getElem?_eq_some_iff.1 hy).2
   rw [e];rfl) hlt (by rw [List.length_map];omega) (by rw [List.length_map];exact hc) (by
   show (Lib.join _ [32]).length≤_
   rw [hj];omega)
  rw [List.length_map] at key
  refine key.mono ?_
  rintro e w' ⟨rfl,hb⟩
  show a0X w F _ (.returned (.string ⟨(Lib.join _ [32]).toArray⟩)) w'
  rw [hj]
  exact a3a hF hb
 ·obtain rfl:ls=[]:=List.eq_nil_of_length_eq_zero (by omega)
  refine (Tryz.strings_Join_none A c ⟨#[32]⟩ w).mono ?_
  rintro e w' ⟨rfl,rfl⟩
  exact a3a hF (Below.refl _ _)
theorem b3H (ls:List (List UInt8)) (u1:ls.length≤1000000) (u2:(joinL ls).length≤100000000):a0q Tryz.prog 26 [a0M ls] (a0p (joinL ls)):=by
 refine a0m Tryz.func26 rfl kr _ _ _ rfl 5 rfl rfl (fun w F=>?_)
 refine ru 8 ?_
 refine cll (c4u ls u1 u2) ?_
 refine ru 4 ?_
 refine rt1 ?_
 exact Frz.fz
theorem a8t {l:List UInt8} {ws:List (List UInt8)} (h:a2m l=some ws):joinL ws=l:=by
 unfold a2m at h
 by_cases h0:l=[]
 ·rw [if_pos h0] at h;injection h with h;subst h;subst h0;rfl
 ·rw [if_neg h0] at h
  split at h
  ·injection h with h;subst h;exact b5X l
  ·cases h
set_option maxHeartbeats 1000000
theorem c0j (l:List UInt8) (c:UInt8):a0q Tryz.prog 78 [a0p l,a0p [c]] (a0h (Lib.indexByte l c)):=by
 refine ⟨⟨_,_,Tryz.func78,rfl,by kernel_rfl⟩,fun w F vs hF hr hw=>?_⟩
 obtain ⟨u,v,rfl,hu,hv⟩:=c3A hr
 rw [hu.imm_inv,hv.imm_inv]
 refine (Tryz.strings_Index_one ⟨l.toArray⟩ c w).mono ?_
 rintro e w' ⟨rfl,rfl⟩
 exact a3a hF (Below.refl _ _)
theorem b8A {w w':World} {F:Addr→Prop} {u v x:Value} (hF:∀ a,F a→a.spot=none∧(w.cell? a).isSome=true) (hb:Below w.heap.size w w'):a0X w F (t3 (.imm u) (.imm v) (.imm x)) (.returned (.tuple #[u,v,x])) w' :=
 ⟨hb,_,F,rfl,fun _ h=>h,fun _ h=>.inl h,fun a ha=>⟨(hF a ha).1,by rw [World.cell?_of_block (hb.block _ (a1a (hF a ha).2))];exact (hF a ha).2⟩,
  .tup _ 3 _ (fun i=>match i with | 0=>u | 1=>v | _=>x) rfl (fun i hi=>by match i,hi with | 0,_=>rfl | 1,_=>rfl | 2,_=>rfl) (fun i hi=>by match i,hi with | 0,_=>exact .imm _ | 1,_=>exact .imm _ | 2,_=>exact .imm _)⟩
@[reducible] def c3E (x:Bs×Bs×Bool):HV:=t3 (a0p x.1) (a0p x.2.1) (a0s x.2.2)
theorem c3Y (l:List UInt8) (c:UInt8) (hl:l.length≤1000000):a0q Tryz.prog 57 [a0p l,a0p [c]] (c3E (a4k c l)):=by
 refine ⟨⟨_,_,Tryz.func57,rfl,by kernel_rfl⟩,fun w F vs hF hr hw=>?_⟩
 obtain ⟨u,v,rfl,hu,hv⟩:=c3A hr
 rw [hu.imm_inv,hv.imm_inv]
 obtain ⟨m,hm⟩:=hw.max 0 (by kernel_rfl)
 refine (Tryz.strings_Cut ⟨l.toArray⟩ ⟨#[c]⟩ m w (by rw [a2J];omega) hm).mono ?_
 rintro e w' ⟨rfl,n,rfl⟩
 rw [show Lib.cut (ByteArray.mk l.toArray).data.toList (ByteArray.mk #[c]).data.toList=a4k c l from c2b l c]
 exact b8A hF ⟨rfl,by simp,rfl,by simp,fun k hk=>rfl⟩
@[reducible] def c6b (c:UInt8) (q:Nat):Nat→HV:=fun i=>match i with
 | 0=>.fp 1 (fun _=>a0p [c])
 | 1=>.pt 6101 q 0 0
 | _=>.fp 1 (fun _=>a0h 0)
theorem c5c (c0:Nat) (s:Bs) (ch:UInt8):a3c Tryz.prog 141 c0 [a0p s,a0p [ch],a0h 0] [] (a4W (fun (q:Nat) _=>True) (fun q=>.fn (.func 159) 3 (c6b ch q)) (fun q=>[(6101,⟨q,1,1,9,0,fun _ _=>a0p s⟩)])):=by
 refine a0v Tryz.func141 rfl kr _ _ _ _ rfl 8 rfl rfl (fun X ok hX=>?_)
 refine ru 2 ?_
 refine a0t 3 (a5U (id:=6101) (sz:=1) rfl rfl rfl omx omx) rfl rfl a0e rfl rfl (c':=c0+1) rfl ?_
 refine a0t 4 (a5U (id:=6102) (sz:=1) rfl rfl rfl omx omx) rfl rfl a0e rfl rfl (c':=c0+2) rfl ?_
 refine a0t 5 (a5U (id:=6103) (sz:=1) rfl rfl rfl omx omx) rfl rfl a0e rfl rfl (c':=c0+3) rfl ?_
 refine ru 10 ?_
 refine a1F ok hX a3m.one rfl (a0r rfl) [(6102,_),(6103,_)] rfl (a0g rfl (a0g rfl a0e)) (c0) (trivial) (by rfl) (by rfl) (.fn _ _ _ _ (fun i hi=>by match i,hi with | 0,_=>exact .fz _ _ (.pt 6102 _ 0 0 1 _ (fun _=>a0p [ch]) (List.mem_cons_self ..) rfl (Nat.lt_succ_self 0) (Nat.le_refl 1) (fun j hj=>.imm _)) | 1,_=>exact .pt _ _ _ _ _ rfl rfl | 2,_=>exact .fz _ _ (.pt 6103 _ 0 0 1 _ (fun _=>a0h 0) (List.mem_cons_of_mem _ (List.mem_cons_self ..)) rfl (Nat.lt_succ_self 0) (Nat.le_refl 1) (fun j hj=>.imm _)))) ?_
 exact ⟨⟨_,rfl,c5C (.fz _ _ (.imm _))⟩,trivial⟩
theorem c5z (c0:Nat) (s:Bs) (ch:UInt8):a3c Tryz.prog 120 c0 [a0p s,a0p [ch]] [] (a4W (fun (q:Nat) _=>True) (fun q=>.fn (.func 159) 3 (c6b ch q)) (fun q=>[(6101,⟨q,1,1,9,0,fun _ _=>a0p s⟩)])):=by
 refine a0v Tryz.func120 rfl kr _ _ _ _ rfl 8 rfl rfl (fun X ok hX=>?_)
 refine ru 9 ?_
 refine a0l 7 (xs:=[_,_,_]) (pre:=[]) (c5c _ s ch) ⟨rfl,⟨rfl,⟨rfl,trivial⟩⟩⟩ a0e rfl rfl (fun q c1 hx1=>?_)
 (try dsimp only)
 refine ru 4 ?_
 refine fr1 ok hX rw1 (q) (trivial) (.fn _ _ _ _ (fun i hi=>by match i,hi with | 0,_=>exact .fz _ _ (.fp _ _ (Nat.le_refl _) _ _ (fun _ _=>.imm _)) | 1,_=>exact .pt _ _ _ _ _ rfl rfl | 2,_=>exact .fz _ _ (.fp _ _ (Nat.le_refl _) _ _ (fun _ _=>.imm _)))) ?_
 exact ⟨⟨_,rfl,c5C (.fz _ _ (.imm _))⟩,trivial⟩
instance {f:Fn} {y:Nat→HV}:Frz (.fn f 0 y):=⟨.fn _ _ _ _ fun i hi=>absurd hi (Nat.not_lt_zero _)⟩
theorem c3Q (s:Bs) (ch:UInt8) (hs:s.length≤1000000):b8l Tryz.prog 159 9 (.string ⟨s.toArray⟩) (.fp 1 (fun _=>a0p [ch])) [.fp 1 (fun _=>a0h 0)] (a0j ch s).length (fun i=>[a0p ((a0j ch s).getD i [])]):=by
 refine b6x Tryz.func159 rfl kr _ _ _ _ _ rfl 52 rfl rfl (fun X hXN hXy hXt O W F hg=>?_)
 refine ru 8 ?_
 refine wdc (fun hr0 hc0=>?_) (fun hr0 hc0=>?_)
 ·skip
  exfalso;simp at hr0
 refine ru 4 ?_
 refine c0d (α:=Nat×List UInt8) (fun x=>[(0,.v (.fn (.yield X.l) 0 fun _=>default)),(1,.v (.fp 1 (fun _=>a0p [ch]))),(2,.v (.pt 6001 0 0 0)),(3,.v (.fp 1 (fun _=>a0h 0)))]) (fun x=>[(6001,bxO 0 9 (.string ⟨x.2.toArray⟩))]) (fun x=>a0j ch x.2=(a0j ch s).drop x.1∧x.2.length≤1000000) (fun x=>x.1) (fun x=>x.2.length) ((0,s)) (by exact ⟨rfl,hs⟩) (by first | exact hg | simpa using hg) (a0c rfl (Nat.le_refl _) tsa hsa) (fun x O W F c hx hg NhL1 hL1=>?_)
 revert hx hg hL1;obtain ⟨i,r⟩:=x;intro hx hg hL1;dsimp only at hx hg hL1 ⊢
 obtain ⟨hx1,hx2⟩:=hx
 have hii:i < (a0j ch s).length:=(by have h9:=congrArg List.length hx1;rw [List.length_drop] at h9;have:=List.length_pos_iff.2 (a2p ch r);omega);have hgi:(a0j ch s).getD i []=(a0j ch r).getD 0 []:=(by rw [hx1,List.getD_eq_getElem?_getD,List.getD_eq_getElem?_getD,List.getElem?_drop,Nat.add_zero])
 refine ru 5 ?_
 refine cll (c0j r ch) ?_
 refine ru 10 ?_
 refine wdc (fun hr3 hc3=>?_) (fun hr3 hc3=>?_)
 ·skip
  have hm1:Lib.indexByte r ch=-1:=(by have:=Lib.indexByte_ge r ch;omega);have hsp:=b2g.1 hm1
  refine ru 3 ?_
  refine a0d ?_
  refine ru 5 ?_
  refine b2w hXt hg (by rw [hXN];exact hii) (xs:=[_]) [(0,.v (.fn (.yield X.l) 0 fun _=>default))] rfl ⟨rfl,trivial⟩ (by rw [hXy];exact ⟨Fz.eq (by rw [hgi,hsp];rfl),trivial⟩) (TmB.cons rfl (Fz.eq rfl) TmB.nil) rfl rfl rfl (fun O W F hg=>?_) (fun W F hfr hjx=>?_)
  ·skip
   refine a3A ?_
   refine a1H ?_
   exact c1P hXt rfl hg (by rw [hXN];have h9:=congrArg List.length hx1;rw [hsp,List.length_drop] at h9;simp at h9;omega) rfl rfl
  ·skip
   refine a3A ?_
   refine a1H ?_
   exact b4N rfl (by rw [hXN];omega) hjx
 have hm0:0≤Lib.indexByte r ch:=om;have hsp:=b2g.2 hm0
 refine ru 17 ?_
 refine b2w hXt hg (by rw [hXN];exact hii) (xs:=[_]) [(0,.v (.fn (.yield X.l) 0 fun _=>default)),(1,.v (.fp 1 (fun _=>a0p [ch]))),(2,.v (.pt 6001 0 0 0)),(3,.v (.fp 1 (fun _=>a0h 0))),(7,.v (a0h (Lib.indexByte r ch)))] rfl ⟨rfl,trivial⟩ (by rw [hXy];exact ⟨Fz.eq (by rw [hgi,hsp.1];show a0p (r.take _)=_;congr 2;omega),trivial⟩) (TmB.cons rfl (Fz.eq rfl) (TmB.cons rfl (Fz.eq rfl) (TmB.box rfl (TmB.cons rfl (Fz.eq rfl) (TmB.cons rfl (Fz.eq rfl) TmB.nil))))) rfl rfl rfl (fun O W F hg=>?_) (fun W F hfr hjx=>?_)
 ·refine ru 1 ?_
  refine a3A ?_
  refine ru 1 ?_
  refine wdc (fun hr4 hc4=>?_) (fun hr4 hc4=>?_)
  ·skip
   exfalso;simp at hr4
  refine ru 12 ?_
  exact hL1 ((i+1,r.drop ((Lib.indexByte r ch).toNat+1))) O W F _ _ (by (try dsimp only);exact ⟨by have h9:=hsp.1;rw [hx1] at h9;have h8:=congrArg (List.drop 1) h9;rw [List.drop_drop] at h8;exact h8.symm,by rw [List.length_drop];omega⟩) (by (try dsimp only);(have h9:=hsp.2;rw [List.length_drop];omega)) (by (try dsimp only);first | exact hg | simpa using hg) (a0c rfl (Nat.le_refl _) tsa (a0k.cons rfl (b1T (by show Sb (a0p _) (a0p _);rw [show (Lib.indexByte r ch+(([ch]:Bs).length:Int)).toNat=(Lib.indexByte r ch).toNat+1 by simp;omega,List.take_of_length_le (by rw [List.length_drop];simp)];exact .refl _)) a0k.nil))
 ·refine ru 1 ?_
  refine a3A ?_
  refine ru 1 ?_
  refine wdc (fun hr4 hc4=>?_) (fun hr4 hc4=>?_)
  ·refine ru 3 ?_
   refine a0f ?_
   refine ru 2 ?_
   exact b4N rfl (by rw [hXN];omega) hjx
  exfalso;simp at hr4
end Go.Proofs.YtjdmfohncgkdoaaGreatDoor
namespace Go.Proofs.YtjdmfohncgkdoaaGreatDoor
set_option linter.unusedSimpArgs false
set_option linter.unusedVariables false
def T.kidsT:T→List T
 | .name _=>[]
 | .times _ _ t=>[t]
 | .many _ ts=>ts
theorem b9R (b:Nat) (t:T):(t.top b).kids=rootsL b t.kidsT:=by
 cases t <;> simp [T.top,T.kidsT,rootsL]
def a8s (t:T):List Sg:=match t with | .name s=>[⟨1,0,0,0,s⟩] | _=>[]
def a9I (t:T):List Sg:=match t with | .times lo hi _=>[⟨5,0,lo,hi,[]⟩] | _=>[]
theorem c0C (t:T):t.sig=a8s t++T.sigL t.kind true t.kidsT++a9I t:=by
 cases t with
 | name s=>simp [T.sig,a8s,a9I,T.kidsT,T.sigL,T.kind]
 | times lo hi t=>simp [T.sig,a8s,a9I,T.kidsT,T.sigL,T.kind,orS]
 | many k ts=>simp [T.sig,a8s,a9I,T.kidsT,T.kind]
theorem c3q {t:T} (h:t.ok=true):T.okL t.kidsT=true:=by
 cases t with
 | name s=>rfl
 | times lo hi t=>simp only [T.ok,Bool.and_eq_true] at h;simp [T.kidsT,T.okL,h.2]
 | many k ts=>simp only [T.ok,Bool.and_eq_true] at h;exact h.2
theorem b3Z {e:List Pt} {b i:Nat} {t:T} (h:AtP e b (T.flat b t)) (hi:i < t.kidsT.length):AtP e (b+T.sizeL (t.kidsT.take i)) (T.flat (b+T.sizeL (t.kidsT.take i)) (t.kidsT.getD i default)):=by
  cases t with
  | name s=>exact absurd hi (Nat.not_lt_zero _)
  | times lo hi' t =>
    obtain rfl:i=0:=by simpa [T.kidsT] using hi
    simp only [T.flat] at h
    have:=a6f h
    simpa [T.kidsT,T.sizeL] using this
  | many k ts=>exact a8d h hi
theorem b8B {t:T} (h:t.ok=true):t.kind=1∨t.kind=2∨t.kind=3∨t.kind=4:=by
  cases t with
  | name s=>exact .inl rfl
  | times lo hi t=>exact .inr (.inr (.inr rfl))
  | many k ts =>
    simp only [T.ok,Bool.and_eq_true,Bool.or_eq_true,decide_eq_true_eq] at h
    rcases h.1.1 with hk | hk
    · exact .inr (.inl hk)
    · exact .inr (.inr (.inl hk))
theorem c4t {p k:Int} (hp:p=2∨p=3∨p=4) (hk:k=1∨k=2∨k=3∨k=4):(decide (k=3)||decide (k=2)&&!decide (p=3)||decide (k=4)&&decide (p=4))=inB p k:=by
 rcases hp with rfl | rfl | rfl <;> rcases hk with rfl | rfl | rfl | rfl <;> rfl
end Go.Proofs.YtjdmfohncgkdoaaGreatDoor
namespace Go.Proofs.YtjdmfohncgkdoaaGreatDoor
set_option linter.unusedSimpArgs false
set_option linter.unusedVariables false
set_option maxRecDepth 100000
set_option maxHeartbeats 1000000
open Go.RowKit
instance frz_fn0 (f:Fn) (c:Nat→HV):Frz (.fn f 0 c):=⟨.fn _ 0 _ _ (fun i hi=>absurd hi (Nat.not_lt_zero _))⟩
@[reducible] def c6u:Nat→Nat→HV:=fun i _=>a0p (([[],[],[40],[41],[124]]:List (List UInt8)).getD i [])
theorem b8W {x:Sg} (h1:1 < x.kind) (h2:x.kind < 5):(x.kind=2∧a0V x=[40])∨(x.kind=3∧a0V x=[41])∨(x.kind=4∧a0V x=[124]):=by
 have:x.kind=2∨x.kind=3∨x.kind=4:=by omega
 unfold a0V
 rcases this with h | h | h
 ·exact .inl ⟨h,by rw [h];rfl⟩
 ·exact .inr (.inl ⟨h,by rw [h];rfl⟩)
 ·exact .inr (.inr ⟨h,by rw [h];rfl⟩)
theorem b1m {x:Sg} (h1:1 < x.kind) (h2:x.kind < 5):a0p (([[],[],[40],[41],[124]]:List (List UInt8)).getD (0+x.kind.toNat) [])=a0p (a0V x):=by
 rcases b8W h1 h2 with ⟨h,e⟩ | ⟨h,e⟩ | ⟨h,e⟩ <;> rw [e,h] <;> rfl
theorem a8O {x:Sg} (h1:1 < x.kind) (h2:x.kind < 5):(a0V x).length≤1:=by
 rcases b8W h1 h2 with ⟨h,e⟩ | ⟨h,e⟩ | ⟨h,e⟩ <;> rw [e] <;> decide
theorem b3B (l:List Sg) (hl:l.length≤1000) (hok:∀ x∈l,SgOk x):a0q Tryz.prog 96 [a3B l] (a0p (a6N l)):=by
 refine a0m Tryz.func96 rfl kr _ _ _ rfl 60 rfl rfl (fun w F=>?_)
 refine ru 7 ?_
 refine a0t 7 (a0b (id:=7) (hs:=[_,_,_,_,_]) ei_44.h omx rfl omx ⟨rfl,rfl,rfl,rfl,⟨rfl,rfl,rfl,rfl,⟨rfl,rfl,rfl,rfl,⟨rfl,rfl,rfl,rfl,⟨rfl,rfl,rfl,rfl,trivial⟩⟩⟩⟩⟩) rfl rfl a0e rfl rfl (c':=1) rfl ?_
 refine ru 15 ?_
 refine a0n (α:=Nat×List UInt8) (fun x c=>⟨60,[(0,.v (a3B l)),(3,.v (.os 7 0 0 5)),(4,.v (a0p x.2)),(5,.v (a0h x.1))],[(7,⟨0,5,1,9,0,c6u⟩)],c⟩) (fun x=>x.1≤l.length∧x.2.length≤200 * x.1∧x.2++a4V (decide (x.1=0)) (l.drop x.1)=a6N l) (fun x=>l.length - x.1) ((0,[])) (by exact ⟨Nat.zero_le _,Nat.zero_le _,rfl⟩) (a0c rfl (Nat.le_refl _) tsa (a0k.cons rfl (a5M.of fun i j hi hj=>by match i,hi,j,hj with | 0,_,0,_=>exact .refl _ | 1,_,0,_=>exact .refl _ | 2,_,0,_=>exact .refl _ | 3,_,0,_=>exact .refl _ | 4,_,0,_=>exact .refl _) a0k.nil)) (fun x c hx NhL1 hL1=>?_)
 revert hx hL1;obtain ⟨k,acc⟩:=x;intro hx hL1;dsimp only at hx hL1 ⊢
 obtain ⟨hk,hb,hL⟩:=hx
 refine ru 9 ?_
 refine wdc (fun hr0 hc0=>?_) (fun hr0 hc0=>?_)
 ·skip
  have hkl:k < l.length:=om;have hx:=b6D hok hkl;have hnm:=hx.name;have htl:=b0U _ _ hx.low hx.high
  refine ru 26 ?_
  refine wdc (fun hr1 hc1=>?_) (fun hr1 hc1=>?_)
  ·skip
   have ha1:(acc++[32]).length=acc.length+1:=List.length_append;have hsep:b6g (decide (k=0)) (l.getD k default)=[32]:=(by unfold b6g;rw [if_pos ⟨decide_eq_false om,hc1.2⟩])
   refine ru 11 ?_
   refine rvl (a0h (l.getD k default).kind) (rfl) ?_
   refine ru 3 ?_
   refine wdc (fun hr2 hc2=>?_) (fun hr2 hc2=>?_)
   ·refine ru 4 ?_
    refine rvl (a0p (l.getD k default).name) (rfl) ?_
    refine ru 9 ?_
    refine rvl (a0h (l.getD k default).kind) (rfl) ?_
    refine ru 4 ?_
    refine ry (a0h (l.getD k default).kind) rfl (fun hb=>rfl) ?_
    refine ru 4 ?_
    refine wdc (fun hr3 hc3=>?_) (fun hr3 hc3=>?_)
    ·skip
     exfalso;omega
    refine ru 6 ?_
    refine rvl (a0h (l.getD k default).kind) (rfl) ?_
    refine ru 3 ?_
    refine wdc (fun hr4 hc4=>?_) (fun hr4 hc4=>?_)
    ·skip
     exfalso;omega
    refine ru 8 ?_
    exact hL1 ((k+1,(acc++[32])++(l.getD k default).name)) _ _ (by (try dsimp only);exact ⟨by omega,by (try simp only [List.length_append,List.length_cons,List.length_nil]);omega,by have h:=a1c (p:=(l.getD k default).name) hkl hL hsep (if_pos hc2);simpa only [List.append_nil,List.append_assoc] using h⟩) (by (try dsimp only);omega) (a0c rfl (Nat.le_refl _) tsa hsa)
   refine ru 7 ?_
   refine rvl (a0h (l.getD k default).kind) (rfl) ?_
   refine ru 4 ?_
   refine ry (a0h (l.getD k default).kind) rfl (fun hb=>rfl) ?_
   refine ru 4 ?_
   refine wdc (fun hr3 hc3=>?_) (fun hr3 hc3=>?_)
   ·skip
    have hpl:(a0V (l.getD k default)).length≤1:=a8O hc3.1 hc3.2
    refine ru 5 ?_
    refine rvl (a0h (l.getD k default).kind) (rfl) ?_
    refine ru 2 ?_
    refine rvl (a0p (a0V (l.getD k default))) ((by exact b1m hc3.1 hc3.2)) ?_
    refine ru 8 ?_
    refine rvl (a0h (l.getD k default).kind) (rfl) ?_
    refine ru 3 ?_
    refine wdc (fun hr4 hc4=>?_) (fun hr4 hc4=>?_)
    ·skip
     exfalso;omega
    refine ru 8 ?_
    exact hL1 ((k+1,(acc++[32])++a0V (l.getD k default))) _ _ (by (try dsimp only);exact ⟨by omega,by (try simp only [List.length_append,List.length_cons,List.length_nil]);omega,by have h:=a1c (p:=a0V (l.getD k default)) hkl hL hsep (rfl);simpa only [List.append_nil,List.append_assoc] using h⟩) (by (try dsimp only);omega) (a0c rfl (Nat.le_refl _) tsa hsa)
   refine ru 6 ?_
   refine rvl (a0h (l.getD k default).kind) (rfl) ?_
   refine ru 3 ?_
   refine wdc (fun hr4 hc4=>?_) (fun hr4 hc4=>?_)
   ·refine ru 4 ?_
    refine rvl (a0h (l.getD k default).low) (rfl) ?_
    refine ru 2 ?_
    refine rvl (a0h (l.getD k default).high) (rfl) ?_
    refine cll (a9G _ _ hx.low hx.high) ?_
    refine ru 10 ?_
    exact hL1 ((k+1,(acc++[32])++a0N (l.getD k default).low (l.getD k default).high)) _ _ (by (try dsimp only);exact ⟨by omega,by (try simp only [List.length_append,List.length_cons,List.length_nil]);omega,by have h:=a1c (p:=a0N (l.getD k default).low (l.getD k default).high) hkl hL hsep (by unfold a0V;rw [if_neg hc2,if_neg (fun h=>by have h3:=hr3;rw [h] at h3;simp at h3),if_neg (fun h=>by have h3:=hr3;rw [h] at h3;simp at h3),if_neg (fun h=>by have h3:=hr3;rw [h] at h3;simp at h3),if_pos hc4]);simpa only [List.append_nil,List.append_assoc] using h⟩) (by (try dsimp only);omega) (a0c rfl (Nat.le_refl _) tsa hsa)
   refine ru 8 ?_
   exact hL1 ((k+1,acc++[32])) _ _ (by (try dsimp only);exact ⟨by omega,by (try simp only [List.length_append,List.length_cons,List.length_nil]);omega,by have h:=a1c (p:=[]) hkl hL hsep (by unfold a0V;rw [if_neg hc2,if_neg (fun h=>by have h3:=hr3;rw [h] at h3;simp at h3),if_neg (fun h=>by have h3:=hr3;rw [h] at h3;simp at h3),if_neg (fun h=>by have h3:=hr3;rw [h] at h3;simp at h3),if_neg hc4]);simpa only [List.append_nil,List.append_assoc] using h⟩) (by (try dsimp only);omega) (a0c rfl (Nat.le_refl _) tsa hsa)
  have hsep:b6g (decide (k=0)) (l.getD k default)=[]:=(by unfold b6g;rw [if_neg (fun h=>by have h1:=of_decide_eq_false h.1;have h2:=hr1;rw [show decide ((0:Int) < (k:Int))=true from decide_eq_true om,Bool.true_and] at h2;simp only [bne_eq_false_iff_eq] at h2;exact h.2 h2)])
  refine ru 7 ?_
  refine rvl (a0h (l.getD k default).kind) (rfl) ?_
  refine ru 3 ?_
  refine wdc (fun hr2 hc2=>?_) (fun hr2 hc2=>?_)
  ·refine ru 4 ?_
   refine rvl (a0p (l.getD k default).name) (rfl) ?_
   refine ru 9 ?_
   refine rvl (a0h (l.getD k default).kind) (rfl) ?_
   refine ru 4 ?_
   refine ry (a0h (l.getD k default).kind) rfl (fun hb=>rfl) ?_
   refine ru 4 ?_
   refine wdc (fun hr3 hc3=>?_) (fun hr3 hc3=>?_)
   ·skip
    exfalso;omega
   refine ru 6 ?_
   refine rvl (a0h (l.getD k default).kind) (rfl) ?_
   refine ru 3 ?_
   refine wdc (fun hr4 hc4=>?_) (fun hr4 hc4=>?_)
   ·skip
    exfalso;omega
   refine ru 8 ?_
   exact hL1 ((k+1,(acc)++(l.getD k default).name)) _ _ (by (try dsimp only);exact ⟨by omega,by (try simp only [List.length_append,List.length_cons,List.length_nil]);omega,by have h:=a1c (p:=(l.getD k default).name) hkl hL hsep (if_pos hc2);simpa only [List.append_nil,List.append_assoc] using h⟩) (by (try dsimp only);omega) (a0c rfl (Nat.le_refl _) tsa hsa)
  refine ru 7 ?_
  refine rvl (a0h (l.getD k default).kind) (rfl) ?_
  refine ru 4 ?_
  refine ry (a0h (l.getD k default).kind) rfl (fun hb=>rfl) ?_
  refine ru 4 ?_
  refine wdc (fun hr3 hc3=>?_) (fun hr3 hc3=>?_)
  ·skip
   have hpl:(a0V (l.getD k default)).length≤1:=a8O hc3.1 hc3.2
   refine ru 5 ?_
   refine rvl (a0h (l.getD k default).kind) (rfl) ?_
   refine ru 2 ?_
   refine rvl (a0p (a0V (l.getD k default))) ((by exact b1m hc3.1 hc3.2)) ?_
   refine ru 8 ?_
   refine rvl (a0h (l.getD k default).kind) (rfl) ?_
   refine ru 3 ?_
   refine wdc (fun hr4 hc4=>?_) (fun hr4 hc4=>?_)
   ·skip
    exfalso;omega
   refine ru 8 ?_
   exact hL1 ((k+1,(acc)++a0V (l.getD k default))) _ _ (by (try dsimp only);exact ⟨by omega,by (try simp only [List.length_append,List.length_cons,List.length_nil]);omega,by have h:=a1c (p:=a0V (l.getD k default)) hkl hL hsep (rfl);simpa only [List.append_nil,List.append_assoc] using h⟩) (by (try dsimp only);omega) (a0c rfl (Nat.le_refl _) tsa hsa)
  refine ru 6 ?_
  refine rvl (a0h (l.getD k default).kind) (rfl) ?_
  refine ru 3 ?_
  refine wdc (fun hr4 hc4=>?_) (fun hr4 hc4=>?_)
  ·refine ru 4 ?_
   refine rvl (a0h (l.getD k default).low) (rfl) ?_
   refine ru 2 ?_
   refine rvl (a0h (l.getD k default).high) (rfl) ?_
   refine cll (a9G _ _ hx.low hx.high) ?_
   refine ru 10 ?_
   exact hL1 ((k+1,(acc)++a0N (l.getD k default).low (l.getD k default).high)) _ _ (by (try dsimp only);exact ⟨by omega,by (try simp only [List.length_append,List.length_cons,List.length_nil]);omega,by have h:=a1c (p:=a0N (l.getD k default).low (l.getD k default).high) hkl hL hsep (by unfold a0V;rw [if_neg hc2,if_neg (fun h=>by have h3:=hr3;rw [h] at h3;simp at h3),if_neg (fun h=>by have h3:=hr3;rw [h] at h3;simp at h3),if_neg (fun h=>by have h3:=hr3;rw [h] at h3;simp at h3),if_pos hc4]);simpa only [List.append_nil,List.append_assoc] using h⟩) (by (try dsimp only);omega) (a0c rfl (Nat.le_refl _) tsa hsa)
  refine ru 8 ?_
  exact hL1 ((k+1,acc)) _ _ (by (try dsimp only);exact ⟨by omega,by (try simp only [List.length_append,List.length_cons,List.length_nil]);omega,by have h:=a1c (p:=[]) hkl hL hsep (by unfold a0V;rw [if_neg hc2,if_neg (fun h=>by have h3:=hr3;rw [h] at h3;simp at h3),if_neg (fun h=>by have h3:=hr3;rw [h] at h3;simp at h3),if_neg (fun h=>by have h3:=hr3;rw [h] at h3;simp at h3),if_neg hc4]);simpa only [List.append_nil,List.append_assoc] using h⟩) (by (try dsimp only);omega) (a0c rfl (Nat.le_refl _) tsa hsa)
 refine ru 2 ?_
 refine a0d ?_
 refine ru 9 ?_
 refine rt1 ?_
 have e:=b4E om hL;rw [e];exact .imm _
@[reducible] def c3C (g:Nat) (l:List Sg):HObj:=⟨g,l.length,5,162,0,a9y l⟩
def b9x (b:Bool):List Sg:=if b=true then [⟨2,0,0,0,[]⟩] else []
def c5m (b:Bool):List Sg:=if b=true then [⟨3,0,0,0,[]⟩] else []
theorem b7N (b:Bool) (l:List Sg):a1n b l=b9x b++l++c5m b:=by cases b <;> simp [a1n,b9x,c5m]
theorem c0h {t:T} {b:Nat} (h:t.ok=true) (hk:(t.top b).kind=1):a8s t=[⟨1,0,0,0,(t.top b).name⟩]:=by
  rw [a2G] at hk
  cases t with
  | name s=>rfl
  | times lo hi t=>simp [T.kind] at hk
  | many k ts =>
    simp only [T.kind] at hk
    subst hk
    simp [T.ok] at h
theorem b9t {t:T} {b:Nat} (hk:¬ (t.top b).kind=1):a8s t=[]:=by
 rw [a2G] at hk
 cases t with
 | name s=>exact absurd rfl hk
 | times lo hi t=>rfl
 | many k ts=>rfl
theorem b7J {t:T} {b:Nat} (h:t.ok=true) (hk:(t.top b).kind=4):a9I t=[⟨5,0,(t.top b).low,(t.top b).high,[]⟩]:=by
  rw [a2G] at hk
  cases t with
  | name s=>simp [T.kind] at hk
  | times lo hi t=>rfl
  | many k ts =>
    simp only [T.kind] at hk
    subst hk
    simp [T.ok] at h
theorem b8i {t:T} {b:Nat} (hk:¬ (t.top b).kind=4):a9I t=[]:=by
 rw [a2G] at hk
 cases t with
 | name s=>rfl
 | times lo hi t=>exact absurd rfl hk
 | many k ts=>rfl
theorem b1j {x:Sg} {out o':List Sg} {g n ty:Nat} {f:Nat→Nat→HV} (ho:out++[x]=o') (hn:n=out.length) (h0:f 0 0=a0h x.kind:=by rfl) (h1:f 0 1=a0h x.at_:=by rfl) (h2:f 0 2=a0h x.low:=by rfl) (h3:f 0 3=a0h x.high:=by rfl) (h4:f 0 4=a0p x.name:=by rfl) :
  a5M ⟨g,n+1,5,ty,0,cat n (a9y out) f⟩ ⟨g,o'.length,5,ty,0,a9y o'⟩:=by
 subst ho
 exact a0x (enc:=sgF) (d:=default) (x:=x) (out:=out) hn (fun i j _ _=>.refl _) (a5e (by rw [h0];exact .refl _) (by rw [h1];exact .refl _) (by rw [h2];exact .refl _) (by rw [h3];exact .refl _) (by rw [h4];exact .refl _))
theorem c0Q {k out o':List Sg} {g n m ty:Nat} (ho:out++k=o') (hn:n=out.length) (hm:m=n+k.length):a5M ⟨g,m,5,ty,0,cat n (a9y out) (a9y k)⟩ ⟨g,o'.length,5,ty,0,a9y o'⟩:=by
 subst ho;subst hn;subst hm
 refine ⟨rfl,by simp,rfl,rfl,Nat.le_refl _,fun i j hi hj=>?_,fun h=>absurd h (Nat.not_lt_zero _)⟩
 exact a9j (l:=out) (k:=k) (enc:=sgF) (d:=default) rfl (fun i j _ _=>.refl _) (fun i j _ _=>.refl _) i j (by rw [List.length_append];exact hi) hj
theorem b0F (e:List Pt) (he:e.length≤100000) (b:Nat) (t:T) (hok:t.ok=true) (hat:AtP e b (T.flat b t)) (hkl:t.kidsT.length≤100000) (hl:t.sig.length≤100000)
    (ih:∀ i,i < t.kidsT.length→∀ bin,a0q Tryz.prog 97 [a5N e,a0h ((b+T.sizeL (t.kidsT.take i)+(t.kidsT.getD i default).size - 1:Nat):Int),a0s bin] (a3B (a1n bin (t.kidsT.getD i default).sig))) (bin:Bool) :
    a0q Tryz.prog 97 [a5N e,a0h ((b+t.size - 1:Nat):Int),a0s bin] (a3B (a1n bin t.sig)):=by
  have htop:=a3Y hat
  have hps:=t.size_pos
  have hkid:=b9R b t
  have hrl:=a1L t.kidsT b
  have hsk:=c0C t
  have hkx:=c3q hok
  have hkk:=b8B hok
  have hopl:(b9x bin).length≤1:=by unfold b9x;split <;> simp
  have hnl:(a8s t).length≤1:=by unfold a8s;split <;> simp
  have hsl:(T.sigL t.kind true t.kidsT).length≤100000:=by rw [hsk] at hl;simp only [List.length_append] at hl;omega
  have hdk:∀ i,i < t.kidsT.length→(t.kidsT.getD i default).ok=true:=fun i hi=>by
    have:∀ (ts:List T) i,T.okL ts=true→i < ts.length→(ts.getD i default).ok=true:=by
      intro ts
      induction ts with
      | nil=>intro i _ h;exact absurd h (Nat.not_lt_zero _)
      | cons x ts ihh =>
        intro i h hi
        simp only [T.okL,Bool.and_eq_true] at h
        cases i with
        | zero=>exact h.1
        | succ i=>simpa using ihh i h.2 (by simpa using hi)
    exact this _ i hkx hi
  generalize htp:t.top b=p at htop hkid
  have hpk:p.kind=t.kind:=by rw [←htp];exact a2G b t
  refine a0m Tryz.func97 rfl kr _ _ _ rfl 102 rfl rfl (fun w F=>?_)
  refine ru 16 ?_
  refine rvl (ptH p) (b0m om htop.1) ?_
  refine ru 4 ?_
  refine a6e (α:=List Sg×Nat) (fun x c=>⟨102,[(0,.v (a5N e)),(1,.v (a0h ((b+t.size - 1:Nat):Int))),(2,.v (a0s bin)),(7,.v (.os 9002 x.2 0 x.1.length)),(8,.v (.pt 8 0 0 0))],[(8,⟨0,1,5,188,0,fun _=>ptF p⟩),(9002,c3C x.2 x.1)],c⟩) (fun x=>x.1=b9x bin) (fun NhJ1 hJ1=>?_) (fun x c hx=>?_)
  · refine ru 1 ?_
    refine a4v 7 9002 5 162 (a9y []) rfl (by decide) rfl (c':=3) rfl ?_
    refine ru 4 ?_
    refine wdc (fun hr0 hc0=>?_) (fun hr0 hc0=>?_)
    · refine ru 3 ?_
      refine a0t 18 (a0b (id:=18) (hs:=[_]) ei_158.h omx rfl omx ⟨rfl,rfl,rfl,rfl,trivial⟩) rfl rfl a0e rfl rfl (c':=4) rfl ?_
      first
      | refine a0t 19 (a0a ei_158.h omy rfl omy omy (a0u rfl omy) omy rfl) rfl rfl (a0g rfl (a0C rfl)) rfl rfl (c':=5) rfl ?_
      | refine a0t 19 (a0a ei_158.h omy rfl omy omy (a0G rfl omy) omy rfl) rfl rfl (a0g rfl (a0C rfl)) rfl rfl (c':=5) rfl ?_
      | refine a0t 19 (a0a ei_158.h omy rfl omy omy (a0F rfl) omy rfl) rfl rfl (a0g rfl a0e) rfl rfl (c':=5) rfl ?_
      | refine a0t 19 (a0a ei_158.h omy rfl omy omy (a0w 5 (fun _ _=>default) rfl) omy rfl) rfl rfl (a0g rfl a0e) rfl rfl (c':=5) rfl ?_
      refine ru 2 ?_
      exact hJ1 (([⟨2,0,0,0,[]⟩],4)) _ _ (by (try dsimp only);rw [hc0];rfl) (a0c rfl (Nat.le_refl _) tsa (a0k.cons rfl (by exact a7z (.refl _) (.refl _) (.refl _) (.refl _) (.refl _)) (a0k.cons rfl (b1j (out:=[]) (x:=⟨2,0,0,0,[]⟩) rfl rfl) a0k.nil)))
    refine ru 1 ?_
    exact hJ1 (([],2)) _ _ (by (try dsimp only);rw [hc0];rfl) (a0c rfl (Nat.le_refl _) tsa (a0k.cons rfl (by exact a7z (.refl _) (.refl _) (.refl _) (.refl _) (.refl _)) (a0k.cons rfl (.refl _) a0k.nil)))
  · skip
    revert hx;obtain ⟨o,g⟩:=x;intro hx;dsimp only at hx ⊢
    have hol2:o.length≤10:=(by rw [hx];omega)
    refine a6e (α:=List Sg×Nat) (fun x c=>⟨102,[(0,.v (a5N e)),(1,.v (a0h ((b+t.size - 1:Nat):Int))),(2,.v (a0s bin)),(7,.v (.os 9002 x.2 0 x.1.length)),(8,.v (.pt 8 0 0 0))],[(8,⟨0,1,5,188,0,fun _=>ptF p⟩),(9002,c3C x.2 x.1)],c⟩) (fun x=>x.1=b9x bin++a8s t) (fun NhJ2 hJ2=>?_) (fun x c hx=>?_)
    · refine ru 7 ?_
      refine wdc (fun hr1 hc1=>?_) (fun hr1 hc1=>?_)
      · refine ru 5 ?_
        refine a0t 27 (a0b (id:=27) (hs:=[_]) ei_158.h omx rfl omx ⟨rfl,rfl,rfl,rfl,trivial⟩) rfl rfl a0e rfl rfl (c':=c+1) rfl ?_
        first
        | refine a0t 28 (a0a ei_158.h omy rfl omy omy (a0u rfl omy) omy rfl) rfl rfl (a0g rfl (a0C rfl)) rfl rfl (c':=c+2) rfl ?_
        | refine a0t 28 (a0a ei_158.h omy rfl omy omy (a0G rfl omy) omy rfl) rfl rfl (a0g rfl (a0C rfl)) rfl rfl (c':=c+2) rfl ?_
        | refine a0t 28 (a0a ei_158.h omy rfl omy omy (a0F rfl) omy rfl) rfl rfl (a0g rfl a0e) rfl rfl (c':=c+2) rfl ?_
        | refine a0t 28 (a0a ei_158.h omy rfl omy omy (a0w 5 (fun _ _=>default) rfl) omy rfl) rfl rfl (a0g rfl a0e) rfl rfl (c':=c+2) rfl ?_
        refine ru 2 ?_
        exact hJ2 ((o++[⟨1,0,0,0,p.name⟩],c+1)) _ _ (by (try dsimp only);rw [hx,c0h (b:=b) hok (by rw [htp];exact hc1),htp]) (a0c rfl (Nat.le_refl _) (tsr rfl (tsr rfl (tsr rfl (a0K.cons rfl (a1N (by simp)) tsa)))) (a0k.cons rfl (.refl _) (a0k.cons rfl (b1j (x:=⟨1,0,0,0,p.name⟩) rfl rfl) a0k.nil)))
      refine ru 1 ?_
      exact hJ2 ((o,g)) _ _ (by (try dsimp only);rw [hx,b9t (b:=b) (by rw [htp];exact hc1),List.append_nil]) (a0c rfl (Nat.le_refl _) tsa hsa)
    · skip
      revert hx;obtain ⟨o,g⟩:=x;intro hx;dsimp only at hx ⊢
      have hol2:o.length≤10:=(by rw [hx];simp only [List.length_append];omega)
      refine ru 7 ?_
      refine a0n (α:=Nat×List Sg×Nat) (fun x c=>⟨102,[(0,.v (a5N e)),(1,.v (a0h ((b+t.size - 1:Nat):Int))),(2,.v (a0s bin)),(7,.v (.os 9002 x.2.2 0 x.2.1.length)),(8,.v (.pt 8 0 0 0)),(9,.v (a0h x.1))],[(8,⟨0,1,5,188,0,fun _=>ptF p⟩),(9002,c3C x.2.2 x.2.1)],c⟩) (fun x=>x.1≤t.kidsT.length∧x.2.1=b9x bin++a8s t++T.sigL t.kind true (t.kidsT.take x.1)) (fun x=>t.kidsT.length - x.1) ((0,o,g)) (by exact ⟨Nat.zero_le _,by rw [hx,List.take_zero];simp [T.sigL]⟩) (a0c rfl (Nat.le_refl _) tsa hsa) (fun x c hx NhL3 hL3=>?_)
      revert hx hL3;obtain ⟨i,o,g⟩:=x;intro hx hL3;dsimp only at hx hL3 ⊢
      obtain ⟨hi,hoo⟩:=hx
      have hol:=a6z hkx (i:=i) (k:=t.kind) hi;have hol2:o.length≤200000:=(by rw [hoo,List.length_append,List.length_append];omega)
      refine ru 6 ?_
      refine rvl (a1z p.kids) (rfl) ?_
      refine ru 4 ?_
      refine wdc (fun hr2 hc2=>?_) (fun hr2 hc2=>?_)
      · skip
        have him:i < t.kidsT.length:=(by have h:=hr2;simp [hkid,hrl] at h;omega);have hka:=b3Z hat him;have hkt:=a3Y hka;have hkd:(e.getD (b+T.sizeL (t.kidsT.take i)+(t.kidsT.getD i default).size - 1) default).kind=(t.kidsT.getD i default).kind:=(by rw [hkt.1,a2G]);have hks:=(t.kidsT.getD i default).size_pos;have hkn:=a2C (k:=t.kind) him;have hp4:t.kind=2∨t.kind=3∨t.kind=4:=(by rcases hkk with h | h | h | h;(exfalso;cases t <;> simp [T.kind,T.kidsT] at h him;subst h;simp [T.ok] at hok);exact .inl h;exact .inr (.inl h);exact .inr (.inr h));have hdoc:=c4t hp4 (b8B (hdk i him));have hroot:=a4n t.kidsT b i him
        refine ru 9 ?_
        refine rvl (a1z p.kids) (rfl) ?_
        refine ru 3 ?_
        refine rvl (a0h ((b+T.sizeL (t.kidsT.take i)+(t.kidsT.getD i default).size - 1:Nat):Int)) (by exact a2c (i:=i) om (by rw [hkid,hroot];unfold T.root;omega)) ?_
        refine ru 3 ?_
        refine rvl (a0h (t.kidsT.getD i default).kind) (a2T om hkd) ?_
        refine ru 3 ?_
        refine a6e (α:=List Sg×Nat) (fun x c=>⟨102,[(0,.v (a5N e)),(1,.v (a0h ((b+t.size - 1:Nat):Int))),(2,.v (a0s bin)),(7,.v (.os 9002 x.2 0 x.1.length)),(8,.v (.pt 8 0 0 0)),(9,.v (a0h i)),(10,.v (a0h (t.kidsT.getD i default).kind))],[(8,⟨0,1,5,188,0,fun _=>ptF p⟩),(9002,c3C x.2 x.1)],c⟩) (fun x=>x.1=b9x bin++a8s t++T.sigL t.kind true (t.kidsT.take i)++orS t.kind (decide (i=0))) (fun NhJ4 hJ4=>?_) (fun x c hx=>?_)
        · refine ru 11 ?_
          refine wdc (fun hr3 hc3=>?_) (fun hr3 hc3=>?_)
          · refine ru 3 ?_
            refine a0t 54 (a0b (id:=54) (hs:=[_]) ei_158.h omx rfl omx ⟨rfl,rfl,rfl,rfl,trivial⟩) rfl rfl a0e rfl rfl (c':=c+1) rfl ?_
            first
            | refine a0t 55 (a0a ei_158.h omy rfl omy omy (a0u rfl omy) omy rfl) rfl rfl (a0g rfl (a0C rfl)) rfl rfl (c':=c+2) rfl ?_
            | refine a0t 55 (a0a ei_158.h omy rfl omy omy (a0G rfl omy) omy rfl) rfl rfl (a0g rfl (a0C rfl)) rfl rfl (c':=c+2) rfl ?_
            | refine a0t 55 (a0a ei_158.h omy rfl omy omy (a0F rfl) omy rfl) rfl rfl (a0g rfl a0e) rfl rfl (c':=c+2) rfl ?_
            | refine a0t 55 (a0a ei_158.h omy rfl omy omy (a0w 5 (fun _ _=>default) rfl) omy rfl) rfl rfl (a0g rfl a0e) rfl rfl (c':=c+2) rfl ?_
            refine ru 2 ?_
            exact hJ4 ((o++[⟨4,0,0,0,[]⟩],c+1)) _ _ (by (try dsimp only);rw [hoo];unfold orS;rw [if_pos ⟨by rw [←hpk];exact hc3.1,decide_eq_false om⟩]) (a0c rfl (Nat.le_refl _) (tsr rfl (tsr rfl (tsr rfl (a0K.cons rfl (a1N (by simp)) tsa)))) (a0k.cons rfl (.refl _) (a0k.cons rfl (b1j (x:=⟨4,0,0,0,[]⟩) rfl rfl) a0k.nil)))
          refine ru 1 ?_
          exact hJ4 ((o,g)) _ _ (by (try dsimp only);rw [hoo];unfold orS;rw [if_neg (fun h=>by have h1:=of_decide_eq_false h.2;have h2:=hr3;rw [hpk,h.1] at h2;simp at h2;omega),List.append_nil]) (a0c rfl (Nat.le_refl _) tsa hsa)
        · skip
          revert hx;obtain ⟨o,g⟩:=x;intro hx;dsimp only at hx ⊢
          have hor:=c1E t.kind (decide (i=0));have hol2:o.length≤200000:=(by rw [hx];simp only [List.length_append];omega)
          refine ru 4 ?_
          first
          | refine a3K 59 (HOp.val (v':=a1z p.kids) (a0A ty_104.h rfl omy omy (fun h=>(by first | rfl | cases h))) (rfl)) rfl rfl (a0C rfl) rfl rfl (k':=4) rfl ?_
          | refine a3K 59 (HOp.val (v':=a1z p.kids) (a0o ty_104.h rfl omy (fun h=>(by first | rfl | cases h))) (rfl)) rfl rfl a0e rfl rfl (k':=4) rfl ?_
          refine ru 2 ?_
          first
          | refine a3K 62 (HOp.val (v':=a0h ((b+T.sizeL (t.kidsT.take i)+(t.kidsT.getD i default).size - 1:Nat):Int)) (a0A ty_3.h rfl omy omy (fun h=>(by first | rfl | cases h))) (by exact a2c (i:=i) (by omega) (by rw [hkid,hroot];unfold T.root;omega))) rfl rfl (a0C rfl) rfl rfl (k':=7) rfl ?_
          | refine a3K 62 (HOp.val (v':=a0h ((b+T.sizeL (t.kidsT.take i)+(t.kidsT.getD i default).size - 1:Nat):Int)) (a0o ty_3.h rfl omy (fun h=>(by first | rfl | cases h))) (by exact a2c (i:=i) (by omega) (by rw [hkid,hroot];unfold T.root;omega))) rfl rfl a0e rfl rfl (k':=7) rfl ?_
          refine ru 6 ?_
          first
          | refine a5Q 69 12 68 true _ (fun hb=>a4Y fd_188_0.h rfl) rfl rfl rfl rfl a0e rfl rfl rfl (k':=14) rfl ?_
          | refine a8W 69 12 68 _ _ true _ (fun hb=>a4Y fd_188_0.h rfl) rfl rfl rfl rfl a0e rfl (k':=14) rfl ?_
          | refine a5Q 69 12 68 true _ (fun hb=>a2n fd_188_0.h rfl (by first | exact Nat.le_of_ble_eq_true rfl | (simp at hb;first | omega | (dsimp only;omega) | (simp <;> omega)) | omega | (dsimp only;omega))) rfl rfl rfl rfl a0e rfl rfl rfl (k':=14) rfl ?_
          | refine a8W 69 12 68 _ _ true _ (fun hb=>a2n fd_188_0.h rfl (by first | exact Nat.le_of_ble_eq_true rfl | (simp at hb;first | omega | (dsimp only;omega) | (simp <;> omega)) | omega | (dsimp only;omega))) rfl rfl rfl rfl a0e rfl (k':=14) rfl ?_
          first
          | refine a5Q 70 12 68 true _ (fun hb=>a0A ty_3.h rfl (by first | exact Nat.le_of_ble_eq_true rfl | (simp at hb;first | omega | (dsimp only;omega) | (simp <;> omega)) | omega | (dsimp only;omega)) (by first | exact Nat.le_of_ble_eq_true rfl | (simp at hb;first | omega | (dsimp only;omega) | (simp <;> omega)) | omega | (dsimp only;omega)) (fun h=>(by first | rfl | cases h))) rfl rfl rfl rfl (a0C rfl) rfl rfl rfl (k':=15) rfl ?_
          | refine a8W 70 12 68 _ _ true _ (fun hb=>a0A ty_3.h rfl (by first | exact Nat.le_of_ble_eq_true rfl | (simp at hb;first | omega | (dsimp only;omega) | (simp <;> omega)) | omega | (dsimp only;omega)) (by first | exact Nat.le_of_ble_eq_true rfl | (simp at hb;first | omega | (dsimp only;omega) | (simp <;> omega)) | omega | (dsimp only;omega)) (fun h=>(by first | rfl | cases h))) rfl rfl rfl rfl (a0C rfl) rfl (k':=15) rfl ?_
          | refine a5Q 70 12 68 true _ (fun hb=>a0o ty_3.h rfl (by first | exact Nat.le_of_ble_eq_true rfl | (simp at hb;first | omega | (dsimp only;omega) | (simp <;> omega)) | omega | (dsimp only;omega)) (fun h=>(by first | rfl | cases h))) rfl rfl rfl rfl a0e rfl rfl rfl (k':=15) rfl ?_
          | refine a8W 70 12 68 _ _ true _ (fun hb=>a0o ty_3.h rfl (by first | exact Nat.le_of_ble_eq_true rfl | (simp at hb;first | omega | (dsimp only;omega) | (simp <;> omega)) | omega | (dsimp only;omega)) (fun h=>(by first | rfl | cases h))) rfl rfl rfl rfl a0e rfl (k':=15) rfl ?_
          first
          | refine a5Q 71 12 68 true _ (fun hb=>a8A rfl rfl) rfl rfl rfl rfl a0e rfl rfl rfl (k':=16) rfl ?_
          | refine a8W 71 12 68 _ _ true _ (fun hb=>a8A rfl rfl) rfl rfl rfl rfl a0e rfl (k':=16) rfl ?_
          first
          | refine b5K 72 (a6M (gi:=9) (j:=65) _ _ rfl rfl rfl rfl) rfl rfl (k':=17) rfl ?_
          | refine b5K 72 (a7T (gi:=9) (j:=65) _ _ rfl rfl rfl rfl) rfl rfl (k':=17) rfl ?_
          | refine b5K 72 (a3P (gi:=9) (j:=65) _ _ _ _ rfl rfl rfl rfl (fun _=>.refl _) (fun _=>.refl _)) rfl rfl (k':=17) rfl ?_
          refine ru 5 ?_
          first
          | refine a5Q 78 21 77 true _ (fun hb=>a4Y fd_188_0.h rfl) rfl rfl rfl rfl a0e rfl rfl rfl (k':=23) rfl ?_
          | refine a8W 78 21 77 _ _ true _ (fun hb=>a4Y fd_188_0.h rfl) rfl rfl rfl rfl a0e rfl (k':=23) rfl ?_
          | refine a5Q 78 21 77 true _ (fun hb=>a2n fd_188_0.h rfl (by first | exact Nat.le_of_ble_eq_true rfl | (simp at hb;first | omega | (dsimp only;omega) | (simp <;> omega)) | omega | (dsimp only;omega))) rfl rfl rfl rfl a0e rfl rfl rfl (k':=23) rfl ?_
          | refine a8W 78 21 77 _ _ true _ (fun hb=>a2n fd_188_0.h rfl (by first | exact Nat.le_of_ble_eq_true rfl | (simp at hb;first | omega | (dsimp only;omega) | (simp <;> omega)) | omega | (dsimp only;omega))) rfl rfl rfl rfl a0e rfl (k':=23) rfl ?_
          first
          | refine a5Q 79 21 77 true _ (fun hb=>a0A ty_3.h rfl (by first | exact Nat.le_of_ble_eq_true rfl | (simp at hb;first | omega | (dsimp only;omega) | (simp <;> omega)) | omega | (dsimp only;omega)) (by first | exact Nat.le_of_ble_eq_true rfl | (simp at hb;first | omega | (dsimp only;omega) | (simp <;> omega)) | omega | (dsimp only;omega)) (fun h=>(by first | rfl | cases h))) rfl rfl rfl rfl (a0C rfl) rfl rfl rfl (k':=24) rfl ?_
          | refine a8W 79 21 77 _ _ true _ (fun hb=>a0A ty_3.h rfl (by first | exact Nat.le_of_ble_eq_true rfl | (simp at hb;first | omega | (dsimp only;omega) | (simp <;> omega)) | omega | (dsimp only;omega)) (by first | exact Nat.le_of_ble_eq_true rfl | (simp at hb;first | omega | (dsimp only;omega) | (simp <;> omega)) | omega | (dsimp only;omega)) (fun h=>(by first | rfl | cases h))) rfl rfl rfl rfl (a0C rfl) rfl (k':=24) rfl ?_
          | refine a5Q 79 21 77 true _ (fun hb=>a0o ty_3.h rfl (by first | exact Nat.le_of_ble_eq_true rfl | (simp at hb;first | omega | (dsimp only;omega) | (simp <;> omega)) | omega | (dsimp only;omega)) (fun h=>(by first | rfl | cases h))) rfl rfl rfl rfl a0e rfl rfl rfl (k':=24) rfl ?_
          | refine a8W 79 21 77 _ _ true _ (fun hb=>a0o ty_3.h rfl (by first | exact Nat.le_of_ble_eq_true rfl | (simp at hb;first | omega | (dsimp only;omega) | (simp <;> omega)) | omega | (dsimp only;omega)) (fun h=>(by first | rfl | cases h))) rfl rfl rfl rfl a0e rfl (k':=24) rfl ?_
          first
          | refine a5Q 80 21 77 true _ (fun hb=>b3n rfl rfl) rfl rfl rfl rfl a0e rfl rfl rfl (k':=25) rfl ?_
          | refine a8W 80 21 77 _ _ true _ (fun hb=>b3n rfl rfl) rfl rfl rfl rfl a0e rfl (k':=25) rfl ?_
          first
          | refine b5K 81 (a6M (gi:=18) (j:=74) _ _ rfl rfl rfl rfl) rfl rfl (k':=26) rfl ?_
          | refine b5K 81 (a7T (gi:=18) (j:=74) _ _ rfl rfl rfl rfl) rfl rfl (k':=26) rfl ?_
          | refine b5K 81 (a3P (gi:=18) (j:=74) _ _ _ _ rfl rfl rfl rfl (fun _=>.refl _) (fun _=>.refl _)) rfl rfl (k':=26) rfl ?_
          refine ru 1 ?_
          refine d0 28 (a0i (xs:=[_,_,_]) (ih i him (inB t.kind (t.kidsT.getD i default).kind)) ⟨rfl,⟨rfl,⟨rfl,trivial⟩⟩⟩ ⟨(Fz.eq rfl),⟨(Fz.eq rfl),⟨(a1d (by rw [←hdoc,←hpk];simp only [a8D,Bool.not_eq_true,bne])),trivial⟩⟩⟩) ?_
          first
          | refine a2f 84 (a0a ei_158.h omy rfl omy omy (a0u rfl omy) omy rfl) rfl rfl (a0g rfl (a0C rfl)) rfl rfl (k':=29) rfl ?_
          | refine a2f 84 (a0a ei_158.h omy rfl omy omy (a0G rfl omy) omy rfl) rfl rfl (a0g rfl (a0C rfl)) rfl rfl (k':=29) rfl ?_
          | refine a2f 84 (a0a ei_158.h omy rfl omy omy (a0F rfl) omy rfl) rfl rfl (a0g rfl a0e) rfl rfl (k':=29) rfl ?_
          | refine a2f 84 (a0a ei_158.h omy rfl omy omy (a0w 5 (fun _ _=>default) rfl) omy rfl) rfl rfl (a0g rfl a0e) rfl rfl (k':=29) rfl ?_
          refine ru 1 ?_
          refine b4f kr kr (c':=c+30) rfl ?_
          refine ru 7 ?_
          exact hL3 ((i+1,o++a1n (inB t.kind (t.kidsT.getD i default).kind) (t.kidsT.getD i default).sig,c+28)) _ _ (by (try dsimp only);exact ⟨by omega,by rw [hx,a3G t.kind t.kidsT i him];simp only [List.append_assoc]⟩) (by (try dsimp only);omega) (a0c rfl (Nat.le_refl _) (tsr rfl (tsr rfl (tsr rfl (a0K.cons rfl (by dsimp only;exact a1N (by rw [List.length_append])) tsa)))) (a0k.cons rfl (.refl _) (a0k.cons rfl (by dsimp only;exact c0Q (out:=o) (k:=a1n (inB t.kind (t.kidsT.getD i default).kind) (t.kidsT.getD i default).sig) rfl rfl rfl) a0k.nil)))
      have hit:i=t.kidsT.length:=(by have h:=hr2;simp [hkid,hrl] at h;omega)
      refine ru 2 ?_
      refine a0d ?_
      refine ru 2 ?_
      refine a6e (α:=List Sg×Nat) (fun x c=>⟨102,[(2,.v (a0s bin)),(7,.v (.os 9002 x.2 0 x.1.length)),(8,.v (.pt 8 0 0 0))],[(8,⟨0,1,5,188,0,fun _=>ptF p⟩),(9002,c3C x.2 x.1)],c⟩) (fun x=>x.1=b9x bin++t.sig) (fun NhJ5 hJ5=>?_) (fun x c hx=>?_)
      · refine ru 7 ?_
        refine wdc (fun hr4 hc4=>?_) (fun hr4 hc4=>?_)
        · refine ru 7 ?_
          refine a0t 94 (a0b (id:=94) (hs:=[_]) ei_158.h omx rfl omx ⟨rfl,rfl,rfl,rfl,trivial⟩) rfl rfl a0e rfl rfl (c':=c+1) rfl ?_
          first
          | refine a0t 95 (a0a ei_158.h omy rfl omy omy (a0u rfl omy) omy rfl) rfl rfl (a0g rfl (a0C rfl)) rfl rfl (c':=c+2) rfl ?_
          | refine a0t 95 (a0a ei_158.h omy rfl omy omy (a0G rfl omy) omy rfl) rfl rfl (a0g rfl (a0C rfl)) rfl rfl (c':=c+2) rfl ?_
          | refine a0t 95 (a0a ei_158.h omy rfl omy omy (a0F rfl) omy rfl) rfl rfl (a0g rfl a0e) rfl rfl (c':=c+2) rfl ?_
          | refine a0t 95 (a0a ei_158.h omy rfl omy omy (a0w 5 (fun _ _=>default) rfl) omy rfl) rfl rfl (a0g rfl a0e) rfl rfl (c':=c+2) rfl ?_
          refine ru 2 ?_
          exact hJ5 ((o++[⟨5,0,p.low,p.high,[]⟩],c+1)) _ _ (by (try dsimp only);rw [hoo,hit,List.take_length,hsk,b7J (b:=b) hok (by rw [htp];exact hc4),htp];simp only [List.append_assoc]) (a0c rfl (Nat.le_refl _) (tsr rfl (a0K.cons rfl (a1N (by simp)) tsa)) (a0k.cons rfl (.refl _) (a0k.cons rfl (b1j (x:=⟨5,0,p.low,p.high,[]⟩) rfl rfl) a0k.nil)))
        refine ru 1 ?_
        exact hJ5 ((o,g)) _ _ (by (try dsimp only);rw [hoo,hit,List.take_length,hsk,b8i (b:=b) (by rw [htp];exact hc4)];simp only [List.append_assoc,List.append_nil]) (a0c rfl (Nat.le_refl _) tsa hsa)
      · skip
        revert hx;obtain ⟨o,g⟩:=x;intro hx;dsimp only at hx ⊢
        have hol2:o.length≤200000:=(by rw [hx];simp only [List.length_append];omega)
        refine a6e (α:=List Sg×Nat) (fun x c=>⟨102,[(7,.v (.os 9002 x.2 0 x.1.length))],[(9002,c3C x.2 x.1)],c⟩) (fun x=>x.1=a1n bin t.sig) (fun NhJ6 hJ6=>?_) (fun x c hx=>?_)
        · refine ru 5 ?_
          refine wdc (fun hr5 hc5=>?_) (fun hr5 hc5=>?_)
          · refine ru 3 ?_
            refine a0t 99 (a0b (id:=99) (hs:=[_]) ei_158.h omx rfl omx ⟨rfl,rfl,rfl,rfl,trivial⟩) rfl rfl a0e rfl rfl (c':=c+1) rfl ?_
            first
            | refine a0t 100 (a0a ei_158.h omy rfl omy omy (a0u rfl omy) omy rfl) rfl rfl (a0g rfl (a0C rfl)) rfl rfl (c':=c+2) rfl ?_
            | refine a0t 100 (a0a ei_158.h omy rfl omy omy (a0G rfl omy) omy rfl) rfl rfl (a0g rfl (a0C rfl)) rfl rfl (c':=c+2) rfl ?_
            | refine a0t 100 (a0a ei_158.h omy rfl omy omy (a0F rfl) omy rfl) rfl rfl (a0g rfl a0e) rfl rfl (c':=c+2) rfl ?_
            | refine a0t 100 (a0a ei_158.h omy rfl omy omy (a0w 5 (fun _ _=>default) rfl) omy rfl) rfl rfl (a0g rfl a0e) rfl rfl (c':=c+2) rfl ?_
            refine ru 2 ?_
            exact hJ6 ((o++[⟨3,0,0,0,[]⟩],c+1)) _ _ (by (try dsimp only);rw [hx,b7N];unfold c5m;rw [if_pos hc5]) (a0c rfl (Nat.le_refl _) (a0K.cons rfl (a1N (by simp)) a0K.nil) (a0k.cons rfl (b1j (x:=⟨3,0,0,0,[]⟩) rfl rfl) a0k.nil))
          refine ru 1 ?_
          exact hJ6 ((o,g)) _ _ (by (try dsimp only);rw [hx,b7N];unfold c5m;rw [if_neg (by rw [hc5];decide),List.append_nil]) (a0c rfl (Nat.le_refl _) tsa hsa)
        · skip
          revert hx;obtain ⟨o,g⟩:=x;intro hx;dsimp only at hx ⊢
          refine ru 7 ?_
          refine a8h rfl (a0r rfl) [(9002,_)] rfl (a0g rfl a0e) ?_
          rw [←hx];exact a1x (l:=o) (enc:=sgF) (d:=default) (List.mem_cons_self ..) rfl rfl (Nat.le_refl _) (fun i j hi hj=>b3K _ j)
@[reducible] def b8K (ls:List (List UInt8)):Nat→Nat→HV:=fun i _=>a0p (ls.getD i [])
@[reducible] def c4h (ls:List (List UInt8)):HV:=.sl 1 ls.length (b8K ls)
@[reducible] def a3U (g:Nat) (ls:List (List UInt8)):HObj:=⟨g,ls.length,1,9,0,b8K ls⟩
instance frz_nmsV (l:List (List UInt8)):Frz (c4h l):=⟨.sl _ _ _ _ fun i j _ _=>.imm _⟩
theorem a1V {kp sh:List (Nat×HObj)} {g:Nat} {l:List (List UInt8)}:OKz kp sh (a3U g l) (a3U g l):=.of fun i j _ _=>.fz _ _ (.imm _)
theorem a6Y (a b:List (List UInt8)) (ha:a.length≤1000000):a0q Tryz.prog 22 [c4h a,c4h b] (a0s (decide (a=b))):=by
 refine a0m Tryz.func22 rfl kr _ _ _ rfl 26 rfl rfl (fun w F=>?_)
 refine ru 15 ?_
 refine wdc (fun hr0 hc0=>?_) (fun hr0 hc0=>?_)
 ·refine ru 7 ?_
  refine rt1 ?_
  exact a1d (by symm;simp only [decide_eq_false_iff_not];intro h;subst h;omega)
 refine ru 9 ?_
 refine a0n (α:=Nat) (fun x c=>⟨26,[(0,.v (c4h a)),(1,.v (c4h b)),(5,.v (a0h x))],[],c⟩) (fun x=>x≤a.length∧a.length=b.length∧∀ i,i < x→a.getD i []=b.getD i []) (fun x=>a.length - x) (0) (by exact ⟨Nat.zero_le _,by omega,fun i h=>absurd h (Nat.not_lt_zero _)⟩) (a0c rfl (Nat.le_refl _) tsa a0k.nil) (fun k c hx NhL1 hL1=>?_)
 (try dsimp only at hx hL1 ⊢)
 obtain ⟨hk,hab,hok⟩:=hx
 refine ru 9 ?_
 refine wdc (fun hr1 hc1=>?_) (fun hr1 hc1=>?_)
 ·refine ru 17 ?_
  refine wdc (fun hr2 hc2=>?_) (fun hr2 hc2=>?_)
  ·refine ru 8 ?_
   refine a0f ?_
   refine ru 2 ?_
   refine rt1 ?_
   exact a1d (by symm;simp only [decide_eq_false_iff_not];intro h;subst h;simp at hc2)
  refine ru 8 ?_
  exact hL1 (k+1) _ _ (by (try dsimp only);exact ⟨by omega,hab,fun i hi=>by rcases Nat.lt_or_ge i k with h | h;exact hok i h;have:i=k:=om;subst this;simpa using hc2⟩) (by (try dsimp only);omega) (a0c rfl (Nat.le_refl _) tsa a0k.nil)
 refine ru 2 ?_
 refine a0d ?_
 refine ru 8 ?_
 refine rt1 ?_
 exact a1d (by symm;simp only [decide_eq_true_eq];exact a4L [] hab (fun i h1=>hok i om))
def c2I (l:List (List UInt8)) (s:List UInt8):Int:=if s∈l then (l.idxOf s:Int) else -1
theorem c4w {l:List (List UInt8)} {s:List UInt8} {k:Nat} (hk:k < l.length) (h:l.getD k []=s) (hn:∀ i,i < k→l.getD i []≠s):c2I l s=(k:Int):=by
 have hk':l[k]=s:=by rwa [List.getD_eq_getElem?_getD,List.getElem?_eq_getElem hk] at h
 have hm:s∈l:=by rw [←hk'];exact List.getElem_mem hk
 unfold c2I
 rw [if_pos hm]
 congr 1
 have hi:=List.idxOf_lt_length_of_mem hm
 have hgi:l[l.idxOf s]=s:=List.getElem_idxOf hi
 rcases Nat.lt_trichotomy (l.idxOf s) k with h1 | h1 | h1
 ·exact absurd (by rw [List.getD_eq_getElem?_getD,List.getElem?_eq_getElem hi];exact hgi) (hn _ h1)
 ·exact h1
 ·have:=List.not_of_lt_findIdx (p:=(· == s)) (xs:=l) (i:=k) h1
  simp [hk'] at this
theorem c4v {l:List (List UInt8)} {s:List UInt8} (hn:∀ i,i < l.length→l.getD i []≠s):c2I l s=-1:=by
 unfold c2I
 rw [if_neg]
 intro hm
 obtain ⟨i,hi,h⟩:=List.mem_iff_getElem.1 hm
 exact hn i hi (by rw [List.getD_eq_getElem?_getD,List.getElem?_eq_getElem hi];exact h)
theorem c2K (l:List (List UInt8)) (s:List UInt8):decide (0≤c2I l s)=decide (s∈l):=by
 unfold c2I
 by_cases h:s∈l
 ·rw [if_pos h,decide_eq_true h,decide_eq_true (by omega)]
 ·rw [if_neg h,decide_eq_false h];rfl
theorem c3o (g:Nat) (l:List (List UInt8)) (s:List UInt8) (hl:l.length≤1000000):a5F Tryz.prog 138 [.os 8001 g 0 l.length,a0p s] [(8001,a3U g l)] (a0h (c2I l s)) [(8001,a3U g l)]:=by
 intro c
 refine a0v Tryz.func138 rfl kr _ _ _ _ rfl 19 rfl rfl (fun X ok hX=>?_)
 refine ru 14 ?_
 refine a0n (α:=Nat) (fun x c=>⟨19,[(0,.v (.os 8001 g 0 l.length)),(1,.v (a0p s)),(7,.v (a0h l.length)),(8,.v (a0h x))],[(8001,a3U g l)],c⟩) (fun x=>x≤l.length∧∀ i,i < x→l.getD i []≠s) (fun x=>l.length - x) (0) (by exact ⟨Nat.zero_le _,fun i h=>absurd h (Nat.not_lt_zero _)⟩) (a0c rfl (Nat.le_refl _) tsa hsa) (fun k c hx NhL1 hL1=>?_)
 (try dsimp only at hx hL1 ⊢)
 obtain ⟨hk,hE⟩:=hx
 refine ru 6 ?_
 refine wdc (fun hr0 hc0=>?_) (fun hr0 hc0=>?_)
 ·refine ru 17 ?_
  refine rvl (a0p (l.getD k [])) (by simp only [Nat.zero_add];rfl) ?_
  refine ru 3 ?_
  refine wdc (fun hr1 hc1=>?_) (fun hr1 hc1=>?_)
  ·skip
   have hks:l.getD k []=s:=(by have h:=hr1;simpa [eq_comm] using h)
   refine ru 9 ?_
   refine a0f ?_
   refine ru 2 ?_
   refine fr1 ok hX rw1 (()) (trivial) (by rw [c4w om hks hE];exact kza) ?_
   exact ⟨⟨_,rfl,a1V⟩,trivial⟩
  refine ru 7 ?_
  exact hL1 (k+1) _ _ (by (try dsimp only);exact ⟨by omega,fun i hi=>by by_cases e:i=k;(· subst e;exact fun h=>by rw [h] at hr1;simp at hr1);exact hE i om⟩) (by (try dsimp only);omega) (a0c rfl (Nat.le_refl _) tsa hsa)
 refine ru 2 ?_
 refine a0d ?_
 refine ru 8 ?_
 refine fr1 ok hX rw1 (()) (trivial) (by rw [c4v (fun i hi=>hE i om)];exact kza) ?_
 exact ⟨⟨_,rfl,a1V⟩,trivial⟩
theorem a5w (g:Nat) (l:List (List UInt8)) (s:List UInt8) (hl:l.length≤1000000):a5F Tryz.prog 118 [.os 8001 g 0 l.length,a0p s] [(8001,a3U g l)] (a0s (decide (s∈l))) [(8001,a3U g l)]:=by
 intro c
 refine a0v Tryz.func118 rfl kr _ _ _ _ rfl 9 rfl rfl (fun X ok hX=>?_)
 refine ru 9 ?_
 refine a0l 7 (xs:=[_,_]) (pre:=[(8001,_)]) (c3o g l s hl _) ⟨rfl,⟨rfl,trivial⟩⟩ (a0g rfl a0e) rfl rfl (fun u c1 hx1=>?_)
 (try dsimp only)
 refine ru 5 ?_
 refine fr1 ok hX rw1 (()) (trivial) (by rw [←c2K];exact kza) ?_
 exact ⟨⟨_,rfl,a1V⟩,trivial⟩
theorem a9M {kp sh:List (Nat×HObj)} {l o':List (List UInt8)} {x:List UInt8} {g n ty:Nat} {f:Nat→Nat→HV} (ho:l++[x]=o') (hn:n=l.length:=by rfl) (h0:f 0 0=a0p x:=by rfl):OKz kp sh ⟨g,n+1,1,ty,0,cat n (b8K l) f⟩ ⟨g,o'.length,1,ty,0,b8K o'⟩:=by
 subst hn;subst ho
 refine ⟨rfl,by simp,rfl,rfl,Nat.le_refl _,fun i j hi hj=>.fz _ _ ?_,fun h=>absurd h (Nat.not_lt_zero _)⟩
 show Fz sh (cat l.length (b8K l) f i j) (a0p ((l++[x]).getD i []))
 by_cases h':i < l.length
 ·rw [a7u h',a4E h'];exact .imm _
 ·have hi':i=l.length:=by simp only at hi;omega
  subst hi'
  obtain rfl:j=0:=by simp only at hj;omega
  rw [a7l (Nat.le_refl _),Nat.sub_self,a2E,h0];exact .imm _
theorem a7E (s:Bs) (hs:s.length≤1000000):a0q Tryz.prog 37 [a0p s] (a0s (nameV s)):=by
 refine a0m Tryz.func37 rfl kr _ _ _ rfl 27 rfl rfl (fun w F=>?_)
 refine ru 8 ?_
 refine a0l 8 (xs:=[_]) (pre:=[]) (b6G _ s hs) ⟨rfl,trivial⟩ a0e rfl rfl (fun r c1 hr=>?_)
 (try dsimp only)
 refine ru 23 ?_
 refine ry (a0p (r.1.getD 0 default).name) rfl (fun hb=>rfl) ?_
 refine ru 7 ?_
 refine rt1 ?_
 exact a1d (by rw [←b5u hr];simp [a8D,b9e])
theorem b7o (s:Bs) (hs:s.length≤1000000):a0q Tryz.prog 62 [a0p s] (t2 (a0h ((a3f s).getD 0)) (a0s (a1C s).isSome)):=by
  have hv:(a1C s).isSome=((a3f s).isSome&&decide ((a3f s).getD 0≥0)&&decide ((a3f s).getD 0≤999)):=by
    unfold a1C
    cases a3f s with
    | none=>rfl
    | some n =>
      show (if 0≤n∧n≤999 then some n else none).isSome=(true&&decide (n≥0)&&decide (n≤999))
      by_cases h1:0≤n <;> by_cases h2:n≤999 <;> simp [h1,h2]
  refine a0m Tryz.func62 rfl kr _ _ _ rfl 21 rfl rfl (fun w F=>?_)
  refine ru 9 ?_
  refine cll (c5B s om) ?_
  refine ru 24 ?_
  refine rt2 ?_
  exact a1y (.imm _) (a1d (by rw [hv]))
@[reducible] def c6r (o:Option (List Bs)):HV:=t2 (a0M (o.getD [])) (a0s o.isSome)
theorem c5E (s:Bs) (hs:s.length≤1000000):a0q Tryz.prog 91 [a0p s] (c6r (b3r s)):=by
 have hN:=a2P 44 s
 refine b6N Tryz.func91 rfl kr _ _ _ rfl 22 rfl rfl (fun w F=>?_)
 refine ru 15 ?_
 refine a0l 7 (xs:=[_,_]) (pre:=[]) (c5z _ s 44) ⟨rfl,⟨rfl,trivial⟩⟩ a0e rfl rfl (fun q c1 hx1=>?_)
 (try dsimp only)
 refine ru 3 ?_
 refine (a1q 4 0 8001 1 9 (b8K []) (fun _ _=>.os 8001 c1 0 0) rfl rfl (fun j hj=>.inl ⟨by omega,rfl⟩) (by decide) (by decide) (c':=c1+1) rfl).wp ?_
 refine b6X (α:=Nat×List Bs×Nat) (bid:=6101) (gb:=q) ⟨rfl,rfl,rfl⟩ (c3Q s 44 hs) rfl (cs:=[_]) rfl (fun i hi=>by rcases i with _ | i <;> first | rfl | (rcases i with _ | i <;> first | rfl | (rcases i with _ | i <;> first | rfl | (rcases i with _ | i <;> first | rfl | (exact absurd hi (by simp)))))) (Fz.eq rfl) ⟨(Fz.eq rfl),trivial⟩ rfl (fun _=>rfl) rfl (fun x=>[(2,⟨0,1,1,44,0,fun _ _=>.imm (.slice none 0 0)⟩),(3,⟨1,1,1,4,0,fun _ _=>a0s false⟩),(4,⟨2,1,1,44,0,fun _ _=>.os 8001 x.2.2 0 x.2.1.length⟩),(8001,a3U x.2.2 x.2.1)]) (fun x=>x.1) (fun x=>x.1≤(a0j 44 s).length∧x.2.1.length=x.1∧a8M ((a0j 44 s).drop x.1) x.2.1=b3r s) ((0,[],c1)) (by exact ⟨Nat.zero_le _,rfl,rfl⟩) (by first | rfl | omega) (hsr rfl (a0k.cons rfl (b1T (.refl _)) (a0k.cons rfl (b1T (.refl _)) hsa))) rfl (fun x vq c hx hi C1 lr hC1 NhR1 hR1=>?_) (fun x vq c hx hi=>?_)
 ·skip
  revert hx hi hR1;obtain ⟨i,out,g⟩:=x;intro hx hi hR1;dsimp only at hx hi hR1 ⊢
  obtain ⟨hx1,hx2,hx3⟩:=hx
  have hwl:((a0j 44 s).getD i []).length≤1000000:=Nat.le_trans (b2B hi) hs;obtain ⟨v_,hv_⟩:∃ v_,(a0j 44 s).getD i []=v_:=⟨_,rfl⟩;rw [hv_] at hwl ⊢;have hd_:(a0j 44 s).drop i=v_::(a0j 44 s).drop (i+1):=(by rw [List.drop_eq_getElem_cons hi,←hv_,List.getD_eq_getElem?_getD,List.getElem?_eq_getElem hi];rfl);rw [hd_] at hx3
  refine ru 3 ?_
  refine hR1 _ (fun C2 hC2=>?_)
  refine ru 5 ?_
  refine cll (a7E v_ hwl) ?_
  refine ru 4 ?_
  first
  | refine a4x 15 3 12 false _ (fun hb=>a0B (xs:=[_,_]) (pre:=[(8001,_)]) (a5w g out v_ (by omega)) ⟨rfl,⟨rfl,trivial⟩⟩) rfl rfl rfl rfl (a0g rfl a0e) rfl rfl rfl ?_
  | refine a3S 15 3 12 _ _ false _ (fun hb=>a0B (xs:=[_,_]) (pre:=[(8001,_)]) (a5w g out v_ (by omega)) ⟨rfl,⟨rfl,trivial⟩⟩) rfl rfl rfl rfl (a0g rfl a0e) rfl rfl rfl ?_
  refine ru 3 ?_
  refine wdc (fun hr0 hc0=>?_) (fun hr0 hc0=>?_)
  ·skip
   have hno:b3r s=none:=(by rw [←hx3];unfold a8M;rw [if_neg (fun hh=>by rcases hc0 with h | h;(rw [hh.1] at h;cases h);exact hh.2 h)])
   refine ru 9 ?_
   refine c4d ?_
   refine ru 2 ?_
   refine b8Y ?_
   refine rt2 ?_
   rw [hno];exact a1y (.nil _ _ _ (by decide) _) (.imm _)
  have hx4:a8M ((a0j 44 s).drop (i+1)) (out++[v_])=b3r s:=(by rw [←hx3];show _=(if nameV v_=true∧v_∉out then _ else _);rw [if_pos (by simpa using hc0)])
  refine ru 5 ?_
  refine a0t 19 (a0b (id:=19) (hs:=[_]) ei_44.h omx rfl omx ⟨rfl,rfl,rfl,rfl,trivial⟩) rfl rfl a0e rfl rfl (c':=c+1) rfl ?_
  first
  | refine a0t 20 (a0a ei_44.h omy rfl omy omy (a0u rfl omy) omy rfl) rfl rfl (a0g rfl (a0C rfl)) rfl rfl (c':=c+2) rfl ?_
  | refine a0t 20 (a0a ei_44.h omy rfl omy omy (a0G rfl omy) omy rfl) rfl rfl (a0g rfl (a0C rfl)) rfl rfl (c':=c+2) rfl ?_
  | refine a0t 20 (a0a ei_44.h omy rfl omy omy (a0F rfl) omy rfl) rfl rfl (a0g rfl a0e) rfl rfl (c':=c+2) rfl ?_
  | refine a0t 20 (a0a ei_44.h omy rfl omy omy (a0w 1 (fun _ _=>default) rfl) omy rfl) rfl rfl (a0g rfl a0e) rfl rfl (c':=c+2) rfl ?_
  refine ru 3 ?_
  exact b7b ⟨(i+1,out++[v_],c+1),by (try dsimp only);exact ⟨hi,by simp [hx2],hx4⟩,by first | rfl | omega,(hsr rfl (hsr rfl (hsr rfl (a0k.cons rfl (b1T (a1N (by simp))) (a0k.cons rfl (a0x (enc:=fun x _=>a0p x) (d:=[]) rfl (fun i j hi hj=>.refl _) (fun j hj=>.refl _)) a0k.nil)))))⟩
 ·skip
  revert hx hi;obtain ⟨i,out,g⟩:=x;intro hx hi;dsimp only at hx hi ⊢
  obtain ⟨hx1,hx2,hx3⟩:=hx
  have hx5:b3r s=some out:=(by rw [←hx3,hi,List.drop_of_length_le (Nat.le_refl _)];rfl)
  refine ru 10 ?_
  refine b8Y ?_
  refine a4X rfl (a0Q rfl rfl ty_44.h rqc rfl rfl) (a0Q rfl rfl ty_4.h rqc rfl rfl) [(8001,_)] rfl (a0g rfl a0e) ?_
  rw [hx5];exact a1y (a1x (l:=out) (enc:=fun x _=>a0p x) (d:=[]) (List.mem_cons_self ..) rfl rfl (Nat.le_refl _) (fun i j hi hj=>.imm _)) (.imm _)
theorem c1G (s:Bs) (hs:s.length≤1000000):a0q Tryz.prog 63 [a0p s] (t3 (a0s ((a0Z s).getD (false,[])).1) (a0M ((a0Z s).getD (false,[])).2) (a0s (a0Z s).isSome)):=by
 refine a0m Tryz.func63 rfl kr _ _ _ rfl 16 rfl rfl (fun w F=>?_)
 refine ru 14 ?_
 refine wdc (fun hr0 hc0=>?_) (fun hr0 hc0=>?_)
 ·skip
  have hl:a0Z s=some (true,[]):=(by unfold a0Z;rw [if_pos (by simpa using hr0)])
  refine ru 9 ?_
  refine rt3 ?_
  rw [hl];exact a1r (.imm _) (.nil _ _ _ (by decide) _) (.imm _)
 have hl:a0Z s=(b3r s).map (fun l=>(false,l)):=(by unfold a0Z;rw [if_neg (by simpa using hr0)])
 refine ru 5 ?_
 refine cll (c5E s hs) ?_
 refine ru 17 ?_
 refine rt3 ?_
 rw [hl];cases b3r s with | none=>exact a1r (.imm _) (show Fz _ (a0M []) (a0M []) from .sl _ _ _ _ fun _ _ _ _=>.imm _) (.imm _) | some l=>exact a1r (.imm _) (show Fz _ (a0M l) (a0M l) from .sl _ _ _ _ fun _ _ _ _=>.imm _) (.imm _)
@[reducible] def ndG (n:Nd) (g k:Nat):Nat→HV:=fun j=>match j with
 | 0=>a0p n.name
 | 1=>.os 8001 g 0 k
 | 2=>a0s n.inl
 | 3=>a0s n.pick
 | 4=>a0s n.leaf
 | 5=>a0h n.attr
 | 6=>a0s n.all
 | 7=>a0M n.marks
 | _=>a0p n.expr
@[reducible] def ndO (g0:Nat) (n:Nd) (g k:Nat):HObj:=⟨g0,1,9,46,0,fun _=>ndG n g k⟩
theorem c3G {kp sh:List (Nat×HObj)} {g ty:Nat} {f f':Nat→Nat→HV} (h:∀ j,j < 9→Kz kp sh (f 0 j) (f' 0 j)):OKz kp sh ⟨g,1,9,ty,0,f⟩ ⟨g,1,9,ty,0,f'⟩:=.of fun i j hi hj=>by
 obtain rfl:i=0:=by omega
 exact h j hj
theorem a6U {kp sh:List (Nat×HObj)} (l:List Bs):Kz kp sh (a0M l) (a0M l):=.fz _ _ (.sl _ _ _ _ fun _ _ _ _=>.imm _)
theorem b3X {kp sh:List (Nat×HObj)} {a b:Bool} (h:a=b):Kz kp sh (a0s a) (a0s b):=by subst h;exact .fz _ _ (.imm _)
theorem c2E {kp sh:List (Nat×HObj)} {id g g' n n':Nat} {o:HObj} (h:g=g') (k:n=n') (ho:hget kp id=some o) (hg:o.g=g):Kz kp sh (.os id g 0 n) (.os id g' 0 n'):=by subst h;subst k;exact .os _ _ _ _ _ ho hg
theorem b9O (c g0 g:Nat) (n:Nd) (v:Bs):a3c Tryz.prog 86 c [.pt 4 g0 0 0,a0p v] [(4,ndO g0 n g n.groups.length),(8001,a3U g n.groups)] (a4W (fun (_:Unit) _=>True) (fun _=>a0s true) (fun _=>[(4,ndO g0 { n with inl:=true } g n.groups.length),(8001,a3U g n.groups)])):=by
 refine a0v Tryz.func86 rfl kr _ _ _ _ rfl 8 rfl rfl (fun X ok hX=>?_)
 refine ru 19 ?_
 refine fr1 ok hX rw1 (()) (trivial) (kza) ?_
 exact ⟨⟨_,rfl,c3G (by exact q9 (.fz _ _ (.imm _)) (.os _ _ _ _ _ rfl rfl) (.fz _ _ (.imm _)) (.fz _ _ (.imm _)) (.fz _ _ (.imm _)) (.fz _ _ (.imm _)) (.fz _ _ (.imm _)) (a6U _) (.fz _ _ (.imm _)))⟩,⟨⟨_,rfl,a1V⟩,trivial⟩⟩
theorem b8J (c g0 g:Nat) (n:Nd) (v:Bs):a3c Tryz.prog 87 c [.pt 4 g0 0 0,a0p v] [(4,ndO g0 n g n.groups.length),(8001,a3U g n.groups)] (a4W (fun (_:Unit) _=>True) (fun _=>a0s true) (fun _=>[(4,ndO g0 { n with pick:=true } g n.groups.length),(8001,a3U g n.groups)])):=by
 refine a0v Tryz.func87 rfl kr _ _ _ _ rfl 8 rfl rfl (fun X ok hX=>?_)
 refine ru 19 ?_
 refine fr1 ok hX rw1 (()) (trivial) (kza) ?_
 exact ⟨⟨_,rfl,c3G (by exact q9 (.fz _ _ (.imm _)) (.os _ _ _ _ _ rfl rfl) (.fz _ _ (.imm _)) (.fz _ _ (.imm _)) (.fz _ _ (.imm _)) (.fz _ _ (.imm _)) (.fz _ _ (.imm _)) (a6U _) (.fz _ _ (.imm _)))⟩,⟨⟨_,rfl,a1V⟩,trivial⟩⟩
theorem c4U (c g0 g:Nat) (n:Nd) (v:Bs) (hv:v.length≤1000000):a3c Tryz.prog 88 c [.pt 4 g0 0 0,a0p v] [(4,ndO g0 n g n.groups.length),(8001,a3U g n.groups)] (a4W (fun (_:Unit) _=>True) (fun _=>a0s (a1C v).isSome) (fun _=>[(4,ndO g0 { n with attr:=(a3f v).getD 0 } g n.groups.length),(8001,a3U g n.groups)])):=by
 refine a0v Tryz.func88 rfl kr _ _ _ _ rfl 17 rfl rfl (fun X ok hX=>?_)
 refine ru 8 ?_
 refine cll (b7o v hv) ?_
 refine ru 23 ?_
 refine fr1 ok hX rw1 (()) (trivial) (kza) ?_
 exact ⟨⟨_,rfl,c3G (by exact q9 (.fz _ _ (.imm _)) (.os _ _ _ _ _ rfl rfl) (.fz _ _ (.imm _)) (.fz _ _ (.imm _)) (.fz _ _ (.imm _)) (.fz _ _ (.imm _)) (.fz _ _ (.imm _)) (a6U _) (.fz _ _ (.imm _)))⟩,⟨⟨_,rfl,a1V⟩,trivial⟩⟩
theorem c2F (c g0 g:Nat) (n:Nd) (v:Bs) (hv:v.length≤1000000):a3c Tryz.prog 89 c [.pt 4 g0 0 0,a0p v] [(4,ndO g0 n g n.groups.length),(8001,a3U g n.groups)] (a4W (fun (_:Unit) _=>True) (fun _=>a0s (a0Z v).isSome) (fun _=>[(4,ndO g0 { n with all:=((a0Z v).getD (false,[])).1,marks:=((a0Z v).getD (false,[])).2 } g n.groups.length),(8001,a3U g n.groups)])):=by
 refine a0v Tryz.func89 rfl kr _ _ _ _ rfl 23 rfl rfl (fun X ok hX=>?_)
 refine ru 8 ?_
 refine cll (c1G v hv) ?_
 refine ru 30 ?_
 refine fr1 ok hX rw1 (()) (trivial) (kza) ?_
 exact ⟨⟨_,rfl,c3G (by exact q9 (.fz _ _ (.imm _)) (.os _ _ _ _ _ rfl rfl) (.fz _ _ (.imm _)) (.fz _ _ (.imm _)) (.fz _ _ (.imm _)) (.fz _ _ (.imm _)) (.fz _ _ (.imm _)) (a6U _) (.fz _ _ (.imm _)))⟩,⟨⟨_,rfl,a1V⟩,trivial⟩⟩
theorem c1K (c g0 g:Nat) (n:Nd) (v:Bs) (hv:v.length≤1000000) (hn:n.groups.length≤4):a3c Tryz.prog 85 c [.pt 4 g0 0 0,a0p v] [(4,ndO g0 n g n.groups.length),(8001,a3U g n.groups)] (a4W (fun (q:Nat) _=>True) (fun _=>a0s (a1E 0 n v).2) (fun q=>[(4,ndO g0 (a1E 0 n v).1 q (a1E 0 n v).1.groups.length),(8001,a3U q (a1E 0 n v).1.groups)])):=by
 refine a0v Tryz.func85 rfl kr _ _ _ _ rfl 34 rfl rfl (fun X ok hX=>?_)
 refine ru 9 ?_
 refine cll (a7E v hv) ?_
 refine ru 7 ?_
 first
 | refine a4x 14 3 8 false _ (fun hb=>a0B (xs:=[_,_]) (pre:=[(8001,_)]) (a5w g n.groups v (by omega)) ⟨rfl,⟨rfl,trivial⟩⟩) rfl rfl rfl rfl (a0g rfl a0e) rfl rfl rfl ?_
 | refine a3S 14 3 8 _ _ false _ (fun hb=>a0B (xs:=[_,_]) (pre:=[(8001,_)]) (a5w g n.groups v (by omega)) ⟨rfl,⟨rfl,trivial⟩⟩) rfl rfl rfl rfl (a0g rfl a0e) rfl rfl rfl ?_
 refine ru 11 ?_
 refine wdc (fun hr0 hc0=>?_) (fun hr0 hc0=>?_)
 ·skip
  have hR:a1E 0 n v=(n,false):=(by unfold a1E;rw [if_pos rfl,if_neg (fun hh=>by obtain ⟨q1,q2,q3⟩:=hh;have h9:=hr0;simp [q1,q2] at h9;omega)])
  refine ru 7 ?_
  refine fr1 ok hX rw1 (g) (trivial) ((b3X (by rw [hR]))) ?_
  exact ⟨⟨_,rfl,(by rw [hR];exact c3G (by exact q9 (.fz _ _ (.imm _)) (.os _ _ _ _ _ rfl rfl) (.fz _ _ (.imm _)) (.fz _ _ (.imm _)) (.fz _ _ (.imm _)) (.fz _ _ (.imm _)) (.fz _ _ (.imm _)) (a6U _) (.fz _ _ (.imm _))))⟩,⟨⟨_,rfl,(by rw [hR];exact a1V)⟩,trivial⟩⟩
 have hR:a1E 0 n v=({ n with groups:=n.groups++[v] },true):=(by unfold a1E;rw [if_pos rfl,if_pos (by have h9:=hr0;simp at h9;exact ⟨h9.1.1,h9.1.2,by omega⟩)])
 refine ru 10 ?_
 refine a0t 30 (a0b (id:=30) (hs:=[_]) ei_44.h omx rfl omx ⟨rfl,rfl,rfl,rfl,trivial⟩) rfl rfl a0e rfl rfl (c':=c+1) rfl ?_
 first
 | refine a0t 31 (a0a ei_44.h omy rfl omy omy (a0u rfl omy) omy rfl) rfl rfl (a0g rfl (a0C rfl)) rfl rfl (c':=c+2) rfl ?_
 | refine a0t 31 (a0a ei_44.h omy rfl omy omy (a0G rfl omy) omy rfl) rfl rfl (a0g rfl (a0C rfl)) rfl rfl (c':=c+2) rfl ?_
 | refine a0t 31 (a0a ei_44.h omy rfl omy omy (a0F rfl) omy rfl) rfl rfl (a0g rfl a0e) rfl rfl (c':=c+2) rfl ?_
 | refine a0t 31 (a0a ei_44.h omy rfl omy omy (a0w 1 (fun _ _=>default) rfl) omy rfl) rfl rfl (a0g rfl a0e) rfl rfl (c':=c+2) rfl ?_
 refine ru 11 ?_
 refine fr1 ok hX rw1 (c+1) (trivial) ((b3X (by rw [hR]))) ?_
 exact ⟨⟨_,rfl,(by rw [hR];exact c3G (by exact q9 (.fz _ _ (.imm _)) (c2E rfl (by simp) rfl rfl) (.fz _ _ (.imm _)) (.fz _ _ (.imm _)) (.fz _ _ (.imm _)) (.fz _ _ (.imm _)) (.fz _ _ (.imm _)) (a6U _) (.fz _ _ (.imm _))))⟩,⟨⟨_,rfl,(by rw [hR];exact a9M rfl)⟩,trivial⟩⟩
set_option linter.unusedSectionVars false
@[reducible] def b5a (g:Nat) (l:List (Value×Value)):HObj:=⟨g,0,2,0,1,fun _ _=>.imm (.tuple (l.map fun p=>Value.tuple #[p.1,p.2]).toArray)⟩
theorem b9r {o:HObj} {ob:Obj} {g:Nat} {l:List (Value×Value)} (h:RawIs o ob) (ho:o=b5a g l):∃ es,ob=.map es es.size∧es.toList.map (fun e=>(e.key,e.val))=l∧∀ (i:Nat) (e:MapEntry),es[i]?=some e→e.born=i:=by
  cases h with
  | iter g' ty' s' p'=>injection ho with _ _ hs;cases hs
  | map g' ty' es c hc hb =>
    subst hc
    injection ho with _ _ _ _ _ hf
    have h0:=congrFun (congrFun hf 0) 0
    injection h0 with h0
    injection h0 with h0
    refine ⟨es,rfl,?_,hb⟩
    have h1:=congrArg Array.toList h0
    simp only [Array.toList_map] at h1
    have h2:(es.toList.map fun e=>(e.key,e.val)).map (fun p=>Value.tuple #[p.1,p.2])=l.map fun p=>Value.tuple #[p.1,p.2]:=by
      rw [List.map_map];exact h1
    refine (List.map_inj_right (fun p q hpq=>?_)).1 h2
    injection hpq with hpq
    have a1:p.1=q.1:=by have:=congrArg (fun a=>a[0]?) hpq;simpa using this
    have a2:p.2=q.2:=by have:=congrArg (fun a=>a[1]?) hpq;simpa using this
    exact Prod.ext a1 a2
theorem b8e (g:Nat) (es:Array MapEntry) (l:List (Value×Value)) (h:es.toList.map (fun e=>(e.key,e.val))=l) (hb:∀ (i:Nat) (e:MapEntry),es[i]?=some e→e.born=i):RawIs (b5a g l) (.map es es.size):=by
 have e:b5a g l=⟨g,0,2,0,1,fun _ _=>.imm (.tuple (es.map fun e=>.tuple #[e.key,e.val]))⟩:=by
  unfold b5a
  congr 1
  funext i j
  congr 2
  subst h
  rw [List.map_map]
  apply Array.ext'
  simp
 rw [e];exact .map g 0 es _ rfl hb
section
variable {K:Nat→Prop} {w0 w w':World} {F0:Addr→Prop} {E E':Env} {h h':Nat→Option HObj}
theorem R.mapAt (r:R K w0 F0 E h w) {id g:Nat} {l:List (Value×Value)} (ho:h id=some (b5a g l)):∃ lc b es,E.L id=some lc∧lc.g=g∧lc.A=some b∧w.heap[b]?=some (.map es es.size)∧es.toList.map (fun e=>(e.key,e.val))=l∧∀ (i:Nat) (e:MapEntry),es[i]?=some e→e.born=i:=by
 obtain ⟨lc,hl,a⟩:=r.obj id _ ho
 rcases a.at_ with ⟨h0,h1,h2,h3⟩ | ⟨b,cs,h1,h2,h3,h4,h5,h6,h8,h9⟩ | ⟨b,ob,h1,h2,h3,h4⟩
 ·exact absurd h3 (by show ¬ (1≤0);omega)
 ·exact absurd h9.2 (by show ¬ (1≤0);omega)
 ·obtain ⟨es,rfl,e,hb⟩:=b9r h3 rfl
  exact ⟨lc,b,es,hl,a.g,h1,h2,e,hb⟩
theorem R.setMap (r:R K w0 F0 E h w) {id g:Nat} {l l':List (Value×Value)} {lc:Loc} {b:Nat} {es es':Array MapEntry} {c:Nat} (ho:h id=some (b5a g l)) (hl:E.L id=some lc) (hb:lc.A=some b) (hw:w.heap[b]?=some (.map es c)) (he:es'.toList.map (fun e=>(e.key,e.val))=l') (hbn:∀ (i:Nat) (e:MapEntry),es'[i]?=some e→e.born=i) :
  Ext w E { w with heap:=w.heap.setIfInBounds b (.map es' es'.size) } E∧R K w0 F0 E (a2Q h id (b5a g l')) { w with heap:=w.heap.setIfInBounds b (.map es' es'.size) }:=by
 obtain ⟨l2,hl',a⟩:=r.obj id _ ho
 rw [hl] at hl';injection hl' with hl';subst hl'
 have hlt:=a.lt hb
 refine r.write id _ _ lc b ho hl hb rfl rfl rfl (by simp) (fun k hk=>?_) (fun k hk=>?_) (fun e=>⟨a.g,a.G,a.sz,a.pos,.inr (.inr ⟨b,_,hb,?_,b8e g es' l' he hbn,a.notK hb⟩)⟩)
 ·show (w.heap.setIfInBounds b _)[k]?=_
  rw [Array.getElem?_setIfInBounds_ne (Ne.symm hk)]
 ·have:=(r.frz _ hk).2
  simp [World.cell?,hw] at this
 ·show (w.heap.setIfInBounds b _)[b]?=_
  rw [Array.getElem?_setIfInBounds_self_of_lt hlt]
end
def mfind {α:Type} [DecidableEq α] (a:α):List (α×Value)→Nat→Option (Nat×Value)
 | [],_=>none
 | p::r,i=>if a=p.1 then some (i,p.2) else mfind a r (i+1)
def c1X {α:Type} [DecidableEq α] (l:List (α×Value)) (a:α):Option Value:=(mfind a l 0).map (·.2)
def c4Q {α:Type} [DecidableEq α] (l:List (α×Value)) (a:α) (v:Value):List (α×Value):=match mfind a l 0 with | some (i,_)=>l.set i (a,v) | none=>l++[(a,v)]
@[reducible] def encL {α:Type} (enc:α→Value) (l:List (α×Value)):List (Value×Value):=l.map fun p=>(enc p.1,p.2)
structure KeyOk (P:Program) (T:TypeId) (α:Type) [DecidableEq α] (enc:α→Value) (zero:Value):Prop where
 all:∃ kt et,P.underlying T=some (.map kt et)∧(∀ w,(zeroValue et).run P w=.ok zero w)∧(∀ b a w,(Instr.checkKey b 10000 kt (enc a)).run P w=.ok () w) ∧
  (∀ a (es:List MapEntry) (l:List (α×Value)),es.map (fun e=>(e.key,e.val))=encL enc l→∀ w,(Instr.findKey kt (enc a) es).run P w=.ok (mfind a l 0) w)
 stay:∀ a,Instr.sameBits 10000 (enc a) (enc a)=true
theorem a8c {α:Type} [DecidableEq α] {a:α}:∀ {l:List (α×Value)} {i n:Nat} {v:Value},mfind a l i=some (n,v)→∃ k,n=i+k∧l[k]?=some (a,v)
  | [],i,n,v,h=>by cases h
  | p :: r, i, n, v, h => by
    unfold mfind at h
    split at h
    · rename_i e;injection h with h;injection h with h1 h2
      exact ⟨0,by omega,by rw [e,←h2];rfl⟩
    · obtain ⟨k,h1,h2⟩:=a8c h
      exact ⟨k+1,by omega,by simpa using h2⟩
section
variable {P:Program} {ov:Nat→Option HV} {g:Nat} {d:Option Tmp} {ty:TypeId} {pos:String} {af:Array Edge} {gd:Option (Nat×Bool)} {T yT:TypeId} {x y z:Operand}
theorem a8f {id:Nat}:HOp P ⟨d,.makeMap T none,ty,pos,af,gd⟩ ov g [] (.mp id g) [(id,b5a g [])]:=by
 refine ⟨?_⟩;intro K w0 F0 E hh a w Q N r ht hG hBd hpre hN
 have hnew:=r.newRaw id (b5a g []) (.map #[] 0) (b8e g #[] [] rfl (fun i e h=>by simp at h)) hG (by show 0 < 2;omega)
 refine a3J (v:=.map (some w.heap.size)) (w':=w.alloc (.map #[] 0)) ?_ (hN _ _ _ hnew.1 hnew.2 (fun g' hg'=>hg'.imp (fun h=>h) fun h=>⟨by simp,h⟩) ?_)
 ·simp only [execOp,Instr.makeMap,Option.map_none,Sem.run_bind,Sem.run_pure,Result.andThen_ok];rfl
 ·refine .mp w.heap.size id g (.inr rfl) (fun l hl _=>?_)
  rw [Env.new_L] at hl;injection hl with hl;subst hl
  rfl
section
variable {α:Type} [DecidableEq α] {enc:α→Value} {zero:Value}
def lkV (ok:Bool) (r:Option Value) (zero:Value):HV:=match ok with | true=>t2 (.imm (r.getD zero)) (.imm (.bool r.isSome)) | false=>.imm (r.getD zero)
def lkW (ok:Bool) (r:Option Value) (zero:Value):Value:=match ok with | true=>.tuple #[r.getD zero,.bool r.isSome] | false=>r.getD zero
theorem c4j {w:World} {E:Env} (ok:Bool) (r:Option Value) (zero:Value):Rep w E (lkW ok r zero) (lkV ok r zero):=by
 cases ok with
 | true=>exact .tup _ 2 _ (fun i=>match i with | 0=>r.getD zero | _=>.bool r.isSome) rfl (fun i hi=>by match i,hi with | 0,_=>rfl | 1,_=>rfl) (fun i hi=>by match i,hi with | 0,_=>exact .imm _ | 1,_=>exact .imm _)
 | false=>exact .imm _
theorem b6c (hK:KeyOk P T α enc zero) (w:World) (b:Nat) (es:Array MapEntry) (c:Nat) (hb:w.heap[b]?=some (.map es c)) (l:List (α×Value)) (he:es.toList.map (fun e=>(e.key,e.val))=encL enc l) (a:α) (ok:Bool) :
  (Instr.lookup T (.map (some b)) (enc a) ok).run P w=.ok (lkW ok (c1X l a) zero) w:=by
 obtain ⟨kt,et,h1,h2,h3,h4⟩:=hK.all
 unfold Instr.lookup
 have hg:(getObj b).run P w=.ok (.map es c) w:=by simp [getObj,Sem.run,hb]
 simp only [Sem.run_bind,run_underlying h1,Result.andThen_ok,hg,Sem.run_pure,h3,h4 a es.toList l he]
 unfold c1X lkW
 cases mfind a l 0 with
 | none=>simp only [Sem.run_bind,h2,Result.andThen_ok,Sem.run_pure,Option.map_none,Option.getD_none,Option.isSome_none];cases ok <;> rfl
 | some p=>obtain ⟨i,v⟩:=p;simp only [Sem.run_pure,Result.andThen_ok,Option.map_some,Option.getD_some,Option.isSome_some];cases ok <;> rfl
def c0R (hv:HV) (v:Value):Prop:=∀ (w:World) (E:Env) (u:Value),Rep w E u hv→u=v
theorem c0R.imm (v:Value):c0R (.imm v) v:=fun _ _ _ h=>h.imm_inv
theorem a0H (hK:KeyOk P T α enc zero) {id gg:Nat} {l:List (α×Value)} {a:α} {ok:Bool} {hk:HV} (h1:ovl ov x=some (.mp id gg)) (h2:ovl ov y=some hk) (h3:c0R hk (enc a)) :
    HOp P ⟨d,.lookup T x y ok,ty,pos,af,gd⟩ ov g [(id,b5a gg (encL enc l))] (lkV ok (c1X l a) zero) []:=by
  refine ⟨?_⟩;intro K w0 F0 E hh ac w Q N r ht hG hBd hpre hN
  have ho:=hpre _ (List.mem_cons_self ..)
  obtain ⟨lc,b,es,hl,hlg,hlA,hwb,he,hbn⟩:=r.mapAt ho
  have hX:=ht x _ (by simp [Op.operands]) h1
  have e2:=h3 _ _ _ (ht y _ (by simp [Op.operands]) h2)
  generalize hρ:ac.eval x=u at hX
  cases hX with
  | mp b' _ _ hgg hh' =>
    have h4:=hh' lc hl hlg
    rw [hlA] at h4;injection h4 with h4;subst h4
    refine a3J (v:=lkW ok (c1X l a) zero) ?_ (hN _ _ _ (Ext.refl _ _) r (fun g' hg'=>.inl hg') (c4j ok _ zero))
    simp only [execOp,hρ,e2,Sem.run_bind,b6c hK w b es es.size hwb l he a ok,Result.andThen_ok,Sem.run_pure]
theorem b6V {es:Array MapEntry} (h:∀ (i:Nat) (e:MapEntry),es[i]?=some e→e.born=i) (k v:Value):∀ (i:Nat) (e:MapEntry),(es.push ⟨k,v,es.size⟩)[i]?=some e→e.born=i:=fun i e he=>by
 rw [Array.getElem?_push] at he
 split at he
 ·rename_i e1;injection he with he;subst he;exact e1.symm
 ·exact h i e he
theorem b3t {es:Array MapEntry} (h:∀ (i:Nat) (e:MapEntry),es[i]?=some e→e.born=i) (k:Nat) (f:MapEntry→MapEntry) (hf:∀ e,(f e).born=e.born):∀ (i:Nat) (e:MapEntry),(es.modify k f)[i]?=some e→e.born=i:=fun i e he=>by
  rw [Array.getElem?_modify] at he
  split at he
  · cases hq : es[i]? with
    | none=>rw [hq] at he;cases he
    | some e0=>rw [hq] at he;injection he with he;subst he;rw [hf];exact h i e0 hq
  · exact h i e he
theorem b0e (hK:KeyOk P T α enc zero) (w:World) (b:Nat) (es:Array MapEntry) (hb:w.heap[b]?=some (.map es es.size)) (hbn:∀ (i:Nat) (e:MapEntry),es[i]?=some e→e.born=i) (l:List (α×Value)) (he:es.toList.map (fun e=>(e.key,e.val))=encL enc l) (a:α) (v:Value) :
    ∃ es',(Instr.mapUpdate T (.map (some b)) (enc a) v).run P w=.ok () { w with heap:=w.heap.setIfInBounds b (.map es' es'.size) }∧es'.toList.map (fun e=>(e.key,e.val))=encL enc (c4Q l a v)∧∀ (i:Nat) (e:MapEntry),es'[i]?=some e→e.born=i:=by
  obtain ⟨kt,et,h1,h2,h3,h4⟩:=hK.all
  have hg:(getObj b).run P w=.ok (.map es es.size) w:=by simp [getObj,Sem.run,hb]
  have hs:∀ o,(setObj b o).run P w=.ok () { w with heap:=w.heap.setIfInBounds b o }:=fun o=>by simp [setObj,Sem.run,hb]
  unfold c4Q
  cases hm:mfind a l 0 with
  | none =>
    refine ⟨es.push { key:=enc a,val:=v,born:=es.size },?_,?_,b6V hbn _ _⟩
    · unfold Instr.mapUpdate
      simp only [Sem.run_bind,run_underlying h1,Result.andThen_ok,hg,h3,h4 a es.toList l he,hm,hs,Array.size_push]
    · simp [he,encL]
  | some p =>
    obtain ⟨i,u⟩:=p
    obtain ⟨k,rfl,hk⟩:=a8c hm
    rw [Nat.zero_add] at *
    have hkey:∃ e,es[k]?=some e∧e.key=enc a:=by
      have:=congrArg (fun q=>q[k]?) he
      simp only [encL,List.getElem?_map,hk,Option.map_some] at this
      cases hq:es[k]? with
      | none=>rw [←Array.getElem?_toList] at hq;rw [hq] at this;cases this
      | some e=>rw [←Array.getElem?_toList] at hq;rw [hq] at this;injection this with this;injection this with t1 t2;exact ⟨e,rfl,t1⟩
    obtain ⟨e,hek,hea⟩:=hkey
    have hst:(Instr.keyThatStays (((es[k]?).map (·.key)).getD (enc a)) (enc a)).run P w=.ok (enc a) w:=by
      unfold Instr.keyThatStays
      rw [hek]
      simp [hea,hK.stay a]
    refine ⟨es.modify k fun e=>{ e with key:=enc a,val:=v },?_,?_,b3t hbn k _ (fun _=>rfl)⟩
    · unfold Instr.mapUpdate
      simp only [Sem.run_bind,run_underlying h1,Result.andThen_ok,hg,h3,h4 a es.toList l he,hm,hst,hs,Array.size_modify]
    · rw [Array.toList_modify]
      apply List.ext_getElem?
      intro j
      have hj:=congrArg (fun q=>q[j]?) he
      simp only [encL,List.getElem?_map] at hj
      simp only [encL,List.getElem?_map,List.getElem?_modify,List.getElem?_set]
      have hkl:k < l.length:=by
        rcases Nat.lt_or_ge k l.length with h | h
        · exact h
        · rw [List.getElem?_eq_none h] at hk;cases hk
      by_cases e:k=j
      · subst e
        rw [if_pos rfl,if_pos hkl]
        rw [←Array.getElem?_toList] at hek
        rw [hek];simp
      · rw [if_neg e,←hj]
        simp [e]
theorem a3x (hK:KeyOk P T α enc zero) {id gg:Nat} {l:List (α×Value)} {a:α} {v:Value} {hk:HV} (h1:ovl ov x=some (.mp id gg)) (h2:ovl ov y=some hk) (h3:c0R hk (enc a)) (h4:ovl ov z=some (.imm v)) :
    HOp P ⟨d,.mapUpdate T x y z,ty,pos,af,gd⟩ ov g [(id,b5a gg (encL enc l))] (.imm undef) [(id,b5a gg (encL enc (c4Q l a v)))]:=by
  refine ⟨?_⟩;intro K w0 F0 E hh ac w Q N r ht hG hBd hpre hN
  have ho:=hpre _ (List.mem_cons_self ..)
  obtain ⟨lc,b,es,hl,hlg,hlA,hwb,he,hbn⟩:=r.mapAt ho
  have hX:=ht x _ (by simp [Op.operands]) h1
  have e2:=h3 _ _ _ (ht y _ (by simp [Op.operands]) h2)
  have e3:=Rep.imm_inv (ht z _ (by simp [Op.operands]) h4)
  generalize hρ:ac.eval x=u at hX
  cases hX with
  | mp b' _ _ hgg hh' =>
    have h4:=hh' lc hl hlg
    rw [hlA] at h4;injection h4 with h4;subst h4
    obtain ⟨es',hrun,he',hbn'⟩:=b0e hK w b es hwb hbn l he a v
    have a2Q:=r.setMap ho hl hlA hwb he' hbn'
    refine c1x (w':={ w with heap:=w.heap.setIfInBounds b (.map es' es'.size) }) ?_ (hN _ _ _ a2Q.1 a2Q.2 (fun g' hg'=>.inl hg') (.imm _))
    simp only [execOp,hρ,e2,e3,Sem.run_bind,hrun,Result.andThen_ok,Sem.run_pure]
end
end
section
variable {P:Program} {α:Type} [DecidableEq α] {enc:α→Value}
end
end Go.Proofs.YtjdmfohncgkdoaaGreatDoor
