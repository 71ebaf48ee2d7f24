/-
  The reader of signs: its small parts.
-/
import Derived.Test.YtdbbbafiegpbpaaGreatDoorHcl
import Derived.Test.YtdbbbafiegpbpaaGreatDoorLexV
import Derived.Test.YtdbbbafiegpbpaaGreatDoorChecked
import Derived.Shelf.Lays
import Derived.Shelf.Strings.BuilderK
import Derived.Shelf.Strings.BuilderF
import Derived.Shelf.Strings.Builder1
import Derived.Lib.OthersKept
import Derived.Deep.WholeRow
import Derived.Laws.Tables
import Derived.Lib.ItoaLen
import Derived.Lib.Bytealg
import Derived.Shelf.Small.Strs
import Derived.Test.YtdbbbafiegpbpaaGreatDoorProg
import Derived.Lib.AppendStr
import Derived.Laws.Bits64b
import Derived.Laws.BitsAll
import Derived.Lib.TrailingZeros
import Derived.Test.YtdbbbafiegpbpaaGreatDoorHc
import Derived.Laws.Bits
import Derived.RangeFuncBox
import Derived.RangeFuncBound
import Derived.RangeFuncCalls
import Derived.RangeFuncLeaves
import Derived.Shelf.Abstract
import Derived.Shelf.RegionOpen
import Derived.WalkKit
import Derived.OwnWalkIn
import Derived.TacticsInMore
import Derived.LoopNIn
import Derived.LoopIn
import Derived.Maps.AppendAt
import Derived.RangeFuncNested
import Derived.Laws.BitsAllLaws
namespace Go.Proofs.YtdbbbafiegpbpaaGreatDoor
set_option linter.unusedSimpArgs false
set_option linter.unusedVariables false
set_option maxRecDepth 100000
open Go.RowKit
@[reducible] def rdF (s:List UInt8) (i:Nat):Nat→Nat→HV:=fun _ j=>match j with | 0=>strV s | _=>intV i
@[reducible] def rdO (g:Nat) (s:List UInt8) (i:Nat):HObj:=⟨g,1,2,158,0,rdF s i⟩
@[reducible] def c7R (e:Int×Int):Nat→HV:=fun j=>match j with | 0=>intV e.1 | _=>intV e.2
@[reducible] def a6P (e:Int×Int):HV:=.ifc 154 (.agg 2 (c7R e))
theorem b9m {sh:List (Nat×HObj)} {f f':Nat→HV} (h0:Fz sh (f 0) (f' 0)) (h1:Fz sh (f 1) (f' 1)):Fz sh (.agg 2 f) (.agg 2 f'):=.agg _ _ _ fun i hi=>by
 match i,hi with
 | 0,_=>exact h0
 | 1,_=>exact h1
theorem a0Y {sh:List (Nat×HObj)} {f f':Nat→HV} (h0:Fz sh (f 0) (f' 0)) (h1:Fz sh (f 1) (f' 1)) (h2:Fz sh (f 2) (f' 2)) (h3:Fz sh (f 3) (f' 3)) (h4:Fz sh (f 4) (f' 4)):Fz sh (.agg 5 f) (.agg 5 f'):=.agg _ _ _ fun i hi=>by
 match i,hi with
 | 0,_=>exact h0
 | 1,_=>exact h1
 | 2,_=>exact h2
 | 3,_=>exact h3
 | 4,_=>exact h4
instance frz_fault (e:Int×Int):Frz (a6P e):=⟨.ifc _ _ _ (b9m (.imm _) (.imm _))⟩
theorem a1B {kp sh:List (Nat×HObj)} (e:Int×Int):Kz kp sh (a6P e) (a6P e):=.fz _ _ Frz.fz
theorem a4m {kp sh:List (Nat×HObj)} {g i:Nat} {s:List UInt8}:OKz kp sh (rdO g s i) (rdO g s i):=b9N (.fz _ _ (.imm _)) (.fz _ _ (.imm _))
theorem b3T (x:Int):HPure Tryz.prog 76 [.imm (.int .u8 x)] (boolV (smallZ x)):=by
 refine a0k Tryz.func76 rfl kr _ _ _ rfl 9 rfl rfl (fun w F=>?_)
 refine ru 17 ?_
 refine rt1 ?_
 exact Frz.fz
theorem b0N (x:Int):HPure Tryz.prog 112 [.imm (.int .u8 x)] (boolV (a0Q x)):=by
 refine a0k Tryz.func112 rfl kr _ _ _ rfl 9 rfl rfl (fun w F=>?_)
 refine ru 17 ?_
 refine rt1 ?_
 exact Frz.fz
theorem a3v (g:Nat) (s:List UInt8) (i:Nat) (hs:s.length≤1000000) (hi:i≤s.length):a4S Tryz.prog 75 [.pt 9001 g 0 0] [(9001,rdO g s i)] (.imm (.int .u8 (bz s i))) [(9001,rdO g s i)]:=by
 intro c
 refine a0v Tryz.func75 rfl kr _ _ _ _ rfl 22 rfl rfl (fun X ok hX=>?_)
 refine ru 20 ?_
 refine wdc (fun hr0 hc0=>?_) (fun hr0 hc0=>?_)
 ·refine ru 16 ?_
  refine fr1 ok hX rw1 (()) (trivial) (by rw [a3E (by simpa using hc0)];exact kza) ?_
  exact ⟨⟨_,rfl,b9N kza kza⟩,trivial⟩
 refine ru 8 ?_
 refine fr1 ok hX rw1 (()) (trivial) (by rw [a6x (by simpa using hc0)];exact kza) ?_
 exact ⟨⟨_,rfl,b9N kza kza⟩,trivial⟩
theorem b2T (c g:Nat) (s:List UInt8) (i:Nat) (p e:Int):a4s Tryz.prog 79 c [.pt 9001 g 0 0,intV p,intV e] [(9001,rdO g s i)] (c6R (fun (y:Int×Int) _=>y=(p,e)) a6P (fun _=>[(9001,rdO g s i)])):=by
 refine a0v Tryz.func79 rfl kr _ _ _ _ rfl 10 rfl rfl (fun X ok hX=>?_)
 refine ru 5 ?_
 refine b6C rfl ?_
 exact b4M ok hX (p,e) rfl rfl (.ifc _ _ _ (.fz _ _ (b9m (.imm _) (.imm _)))) ⟨⟨_,rfl,b9N (.fz _ _ (.imm _)) (.fz _ _ (.imm _))⟩,trivial⟩
theorem b4U (c g:Nat) (s:List UInt8) (i:Nat) (hs:s.length≤1000000) (hi:i≤s.length):a4s Tryz.prog 78 c [.pt 9001 g 0 0] [(9001,rdO g s i)] (c6R (fun (y:Int×Int) _=>y=a1r s i) a6P (fun _=>[(9001,rdO g s i)])):=by
 refine a0v Tryz.func78 rfl kr _ _ _ _ rfl 24 rfl rfl (fun X ok hX=>?_)
 refine ru 15 ?_
 refine wdc (fun hr0 hc0=>?_) (fun hr0 hc0=>?_)
 ·refine ru 6 ?_
  refine a2c (xs:=[_,_,_]) (pre:=[(9001,_)]) (b2T _ _ _ _ _ _) ⟨rfl,⟨rfl,⟨rfl,trivial⟩⟩⟩ (a0i rfl a0g) (fun y c1 hy=>?_)
  refine (a0F ?_)
  exact b4M ok hX y (by rw [hy];unfold a1r;rw [if_pos om,hc0]) rfl (a1B _) ⟨⟨_,rfl,a4m⟩,trivial⟩
 refine ru 8 ?_
 refine a2c (xs:=[_,_,_]) (pre:=[(9001,_)]) (b2T _ _ _ _ _ _) ⟨rfl,⟨rfl,⟨rfl,trivial⟩⟩⟩ (a0i rfl a0g) (fun y c2 hy=>?_)
 refine ?_
 exact b4M ok hX y (by rw [hy];unfold a1r;rw [if_neg om]) rfl (a1B _) ⟨⟨_,rfl,a4m⟩,trivial⟩
theorem a0H {a b:Int} (h:a=b):Sb (intV a) (intV b):=by subst h;exact .refl _
theorem b7s {g ty fl:Nat} {f f':Nat→Nat→HV} (h0:Sb (f 0 0) (f' 0 0)) (h1:Sb (f 0 1) (f' 0 1)) (hfn:fl≤1:=by exact Nat.zero_le _):a2X ⟨g,1,2,ty,fl,f⟩ ⟨g,1,2,ty,fl,f'⟩:=.of (hfn:=hfn) fun i j hi hj=>by
 obtain rfl:i=0:=by omega
 match j,hj with | 0,_=>exact h0 | 1,_=>exact h1
theorem a6C {kp sh:List (Nat×HObj)} {a b:Int} (h:a=b):Kz kp sh (intV a) (intV b):=by subst h;exact .fz _ _ (.imm _)
theorem c7P (l:List UInt8) (v:Int) (hl:l.length≤1000000) (h:Lib.atoiAll l=.ok v):HPure Tryz.prog 117 [strV l] (t2 (intV v) (.imm .nilIface)):=by
 refine ⟨⟨_,_,Tryz.func117,rfl,by kernel_rfl⟩,fun w F vs hF hr hw=>?_⟩
 obtain ⟨u,rfl,hu⟩:=c7L hr
 rw [hu.imm_inv]
 refine (Tryz.strconv_Atoi_ok ⟨l.toArray⟩ (by rw [a5X];omega) v h w).mono ?_
 rintro e w' ⟨rfl,hb⟩
 have hb:=c2l hb
 exact ⟨hb,_,F,rfl,fun _ h=>h,fun _ h=>.inl h,fun a ha=>⟨(hF a ha).1,by rw [World.cell?_of_block (hb.block _ (a1p (hF a ha).2))];exact (hF a ha).2⟩,
  .tup _ 2 _ (fun i=>match i with | 0=>.int .i64 v | _=>.nilIface) rfl (fun i hi=>by match i,hi with | 0,_=>rfl | 1,_=>rfl) (fun i hi=>by match i,hi with | 0,_=>exact .imm _ | 1,_=>exact .imm _)⟩
@[reducible] def c9S (g:Nat) (s:List UInt8) (i:Nat) (low:Int):HEnd→List (Nat×HObj)→Nat→Prop :=
 RoP (fun (x:Int×Nat) _=>numR s i low=.ok x) (fun x=>intV x.1) (fun x=>[(9001,rdO g s x.2)]) (fun (y:(Int×Int)×Nat) _=>numR s i low=.error y.1) (fun y=>a6P y.1) (fun y=>[(9001,rdO g s y.2)])
theorem b5p (c g:Nat) (s:List UInt8) (i:Nat) (low:Int) (hs:s.length≤1000000) (hi:i≤s.length):a4s Tryz.prog 113 c [.pt 9001 g 0 0,intV low] [(9001,rdO g s i)] (c9S g s i low):=by
 refine a0v Tryz.func113 rfl kr _ _ _ _ rfl 81 rfl rfl (fun X ok hX=>?_)
 refine ru 16 ?_
 refine a0l (α:=Nat) (fun x c=>⟨81,[(0,.v (.pt 9001 g 0 0)),(1,.v (intV low)),(4,.v (intV 0)),(5,.v (intV i))],[(9001,rdO g s (i+x))],c⟩) (fun x=>x≤2∧i+x≤s.length∧(0 < x→a0Q (bz s i)=true)∧(1 < x→a0Q (bz s (i+1))=true∧bz s i≠48)) (fun x=>3 - x) (0) (by exact ⟨by omega,by omega,fun h=>absurd h om,fun h=>absurd h om⟩) (a0c rfl (Nat.le_refl _) tsa hsa) (fun k c hx NhL1 hL1=>?_)
 (try dsimp only at hx hL1 ⊢)
 obtain ⟨hk,hik,hk0,hk1⟩:=hx
 refine ru 4 ?_
 refine hq_ 13 (a0C (xs:=[_]) (pre:=[(9001,_)]) (a3v g s (i+k) hs hik) ⟨rfl,trivial⟩) rfl rfl (a0i rfl a0g) rfl rfl ?_
 refine cll (b0N _) ?_
 refine ru 2 ?_
 refine wdc (fun hr0 hc0=>?_) (fun hr0 hc0=>?_)
 ·skip
  have hlt:=a2b hc0
  refine ru 32 ?_
  refine wdc (fun hr1 hc1=>?_) (fun hr1 hc1=>?_)
  ·refine ru 2 ?_
   refine a2c (xs:=[_]) (pre:=[(9001,_)]) (b4U _ g s (i+k) hs hik) ⟨rfl,trivial⟩ (a0i rfl a0g) (fun y c1 hy=>?_)
   refine (a0F (a1T (a0F (a1T (a0F ?_)))))
   exact a2x ok hX (y,i+k) (by rw [hy];exact a7U (c1j hk hk0 hk1 hc0 (by rw [a3E (show i < s.length by omega)];omega))) rfl (a1B _) ⟨⟨_,rfl,a4m⟩,trivial⟩
  refine ru 13 ?_
  exact hL1 (k+1) _ _ (by (try dsimp only);exact c1U hk hk0 hk1 hc0 (by rw [a3E (show i < s.length by omega)];simp only [Bool.and_eq_false_iff,decide_eq_false_iff_not,beq_eq_false_iff_ne] at hc1;omega)) (by (try dsimp only);omega) (a0c rfl (Nat.le_refl _) tsa (a0f.cons rfl (b7s (.refl _) (a0H om)) a0f.nil))
 refine ru 2 ?_
 refine a0d ?_
 refine ru 13 ?_
 refine wdc (fun hr2 hc2=>?_) (fun hr2 hc2=>?_)
 ·refine ru 2 ?_
  refine a2c (xs:=[_]) (pre:=[(9001,_)]) (b4U _ g s (i+k) hs hik) ⟨rfl,trivial⟩ (a0i rfl a0g) (fun y c2 hy=>?_)
  refine (a0F ?_)
  obtain rfl:k=0:=om;exact a2x ok hX (y,i+0) (by rw [hy];exact a7U (b1r hc0)) rfl (a1B _) ⟨⟨_,rfl,a4m⟩,trivial⟩
 obtain ⟨v,hv,hnum,hv0,hv1⟩:=c5e hk om hk0 hk1 hc0
 refine ru 14 ?_
 refine clx (c7P _ v (by simp;omega) hv) ?_
 refine ru 19 ?_
 refine wdc (fun hr3 hc3=>?_) (fun hr3 hc3=>?_)
 ·refine ru 3 ?_
  refine a2c (xs:=[_,_,_]) (pre:=[(9001,_)]) (b2T _ _ _ _ _ _) ⟨rfl,⟨rfl,⟨rfl,trivial⟩⟩⟩ (a0i rfl a0g) (fun y c3 hy=>?_)
  refine (a0F ?_)
  exact a2x ok hX (y,i+k) (by rw [hy];exact a7s hnum (by simpa using hc3)) rfl (a1B _) ⟨⟨_,rfl,a4m⟩,trivial⟩
 refine ru 9 ?_
 refine a1q ok hX a3g.two rfl (a0h rfl) [] rfl a0g ((v,i+k)) (a9g hnum (by simpa using hc3)) (by rfl) (by rfl) (kza) ?_
 exact ⟨⟨_,rfl,a4m⟩,trivial⟩
@[reducible] def sgF (x:Sg):Nat→HV:=fun j=>match j with | 0=>intV x.kind | 1=>intV x.at_ | 2=>intV x.low | 3=>intV x.high | _=>strV x.name
@[reducible] def sgH (x:Sg):HV:=.agg 5 (sgF x)
@[reducible] def SgP (R:Except (Int×Int) (Sg×Nat)) (g:Nat) (s:List UInt8):HEnd→List (Nat×HObj)→Nat→Prop :=
 RoP (fun (x:Sg×Nat) _=>R=.ok x) (fun x=>sgH x.1) (fun x=>[(9001,rdO g s x.2)]) (fun (y:(Int×Int)×Nat) _=>R=.error y.1) (fun y=>a6P y.1) (fun y=>[(9001,rdO g s y.2)])
theorem a3w {kp sh:List (Nat×HObj)} {f f':Nat→HV} (h0:Kz kp sh (f 0) (f' 0)) (h1:Kz kp sh (f 1) (f' 1)) (h2:Kz kp sh (f 2) (f' 2)) (h3:Kz kp sh (f 3) (f' 3)) (h4:Kz kp sh (f 4) (f' 4)):Kz kp sh (.agg 5 f) (.agg 5 f'):=.agg _ _ _ fun i hi=>by
 match i,hi with
 | 0,_=>exact h0
 | 1,_=>exact h1
 | 2,_=>exact h2
 | 3,_=>exact h3
 | 4,_=>exact h4
theorem a0y {kp sh:List (Nat×HObj)} {v:Value}:Kz kp sh (.imm v) (.imm v):=.fz _ _ (.imm _)
theorem c5X (c g:Nat) (s:List UInt8) (i:Nat) (hs:s.length≤1000000) (hi:i < s.length):a4s Tryz.prog 100 c [.pt 9001 g 0 0] [(9001,rdO g s i)] (SgP (a2t s i) g s):=by
 refine a0v Tryz.func100 rfl kr _ _ _ _ rfl 71 rfl rfl (fun X ok hX=>?_)
 refine ru 29 ?_
 refine (a1e 9001 (rdO g s (i+1)) rfl (by exact b7s (.refl _) (a0H om))).wp ?_
 refine ru 11 ?_
 refine b2L 22 (xs:=[_,_]) (pre:=[(9001,_)]) (b5p _ g s (i+1) 0 hs om) ⟨rfl,⟨rfl,trivial⟩⟩ (a0i rfl a0g) rfl rfl (fun y c1 hy=>(a0F (a2x ok hX y (by unfold a2t;rw [hy]) rfl (a1B _) ⟨⟨_,rfl,a4m⟩,trivial⟩))) (fun x1 c1 hn=>?_)
 obtain ⟨n,p⟩:=x1
 (try dsimp only)
 refine ru 5 ?_
 have hnp:=b1C om hn
 refine ru 11 ?_
 refine hq_ 28 (a0C (xs:=[_]) (pre:=[(9001,_)]) (a3v g s p hs hnp.1) ⟨rfl,trivial⟩) rfl rfl (a0i rfl a0g) rfl rfl ?_
 refine ru 3 ?_
 refine wdc (fun hr0 hc0=>?_) (fun hr0 hc0=>?_)
 ·skip
  have hlt:=a4e (s:=s) (i:=p) om
  refine ru 19 ?_
  refine (a1e 9001 (rdO g s (p+1)) rfl (by exact b7s (.refl _) (a0H om))).wp ?_
  refine ru 2 ?_
  refine hq_ 39 (a0C (xs:=[_]) (pre:=[(9001,_)]) (a3v g s (p+1) hs hlt) ⟨rfl,trivial⟩) rfl rfl (a0i rfl a0g) rfl rfl ?_
  refine ru 3 ?_
  refine wdc (fun hr1 hc1=>?_) (fun hr1 hc1=>?_)
  ·refine ru 5 ?_
   refine b2L 45 (xs:=[_,_]) (pre:=[(9001,_)]) (b5p _ g s (p+1) (if 1 > n then 1 else n) hs hlt) ⟨rfl,⟨rfl,trivial⟩⟩ (a0i rfl a0g) rfl rfl (fun y c2 hy=>(a0F (a2x ok hX y (by unfold a2t;rw [hn];simp only;rw [if_pos hc0,if_neg hc1,hy]) rfl (a1B _) ⟨⟨_,rfl,a4m⟩,trivial⟩))) (fun x2 c2 hm=>?_)
   obtain ⟨m,q⟩:=x2
   (try dsimp only)
   refine ru 6 ?_
   have hmq:=b1C hlt hm
   refine ru 2 ?_
   refine hq_ 59 (a0C (xs:=[_]) (pre:=[(9001,_)]) (a3v g s q hs hmq.1) ⟨rfl,trivial⟩) rfl rfl (a0i rfl a0g) rfl rfl ?_
   refine ru 3 ?_
   refine wdc (fun hr3 hc3=>?_) (fun hr3 hc3=>?_)
   ·refine ru 2 ?_
    refine a2c (xs:=[_]) (pre:=[(9001,_)]) (b4U _ g s q hs hmq.1) ⟨rfl,trivial⟩ (a0i rfl a0g) (fun y c3 hy=>?_)
    refine (a0F ?_)
    exact a2x ok hX (y,q) (by rw [hy];unfold a2t;rw [hn];simp only;rw [if_pos hc0,if_neg hc1,hm];simp only;rw [if_neg hc3]) rfl (a1B _) ⟨⟨_,rfl,a4m⟩,trivial⟩
   refine ru 21 ?_
   refine a1q ok hX a3g.two rfl (a0I rfl rfl ty_120.h rqc rfl rfl) [] rfl a0g ((⟨5,i,n,m,[]⟩,q+1)) (by unfold a2t;rw [hn];simp only;rw [if_pos hc0,if_neg hc1,hm];simp only;rw [if_pos hc3]) (by rfl) (by rfl) (a3w a0y a0y a0y a0y a0y) ?_
   exact ⟨⟨_,rfl,b9N kza (a6C om)⟩,trivial⟩
  refine ru 6 ?_
  refine hq_ 59 (a0C (xs:=[_]) (pre:=[(9001,_)]) (a3v g s (p+1) hs hlt) ⟨rfl,trivial⟩) rfl rfl (a0i rfl a0g) rfl rfl ?_
  refine ru 3 ?_
  refine wdc (fun hr3 hc3=>?_) (fun hr3 hc3=>?_)
  ·skip
   exfalso;exact hc3 hc1
  refine ru 21 ?_
  refine a1q ok hX a3g.two rfl (a0I rfl rfl ty_120.h rqc rfl rfl) [] rfl a0g ((⟨5,i,n,-1,[]⟩,p+2)) (by unfold a2t;rw [hn];simp only;rw [if_pos hc0,if_pos hc1]) (by rfl) (by rfl) (a3w a0y a0y a0y a0y a0y) ?_
  exact ⟨⟨_,rfl,b9N kza (a6C om)⟩,trivial⟩
 refine ru 3 ?_
 refine hq_ 48 (a0C (xs:=[_]) (pre:=[(9001,_)]) (a3v g s p hs hnp.1) ⟨rfl,trivial⟩) rfl rfl (a0i rfl a0g) rfl rfl ?_
 refine ru 8 ?_
 refine wdc (fun hr2 hc2=>?_) (fun hr2 hc2=>?_)
 ·refine ru 3 ?_
  refine a2c (xs:=[_,_,_]) (pre:=[(9001,_)]) (b2T _ _ _ _ _ _) ⟨rfl,⟨rfl,⟨rfl,trivial⟩⟩⟩ (a0i rfl a0g) (fun y c4 hy=>?_)
  refine (a0F ?_)
  exact a2x ok hX (y,p) (by rw [hy];unfold a2t;rw [hn];simp only;rw [if_neg hc0,if_pos hc2.1,if_pos hc2.2]) rfl (a1B _) ⟨⟨_,rfl,a4m⟩,trivial⟩
 refine ru 6 ?_
 refine hq_ 59 (a0C (xs:=[_]) (pre:=[(9001,_)]) (a3v g s p hs hnp.1) ⟨rfl,trivial⟩) rfl rfl (a0i rfl a0g) rfl rfl ?_
 refine ru 3 ?_
 refine wdc (fun hr3 hc3=>?_) (fun hr3 hc3=>?_)
 ·refine ru 2 ?_
  refine a2c (xs:=[_]) (pre:=[(9001,_)]) (b4U _ g s p hs hnp.1) ⟨rfl,trivial⟩ (a0i rfl a0g) (fun y c5 hy=>?_)
  refine (a0F ?_)
  exact a2x ok hX (y,p) (by rw [hy];unfold a2t;rw [hn];simp only;rw [if_neg hc0,if_neg hc3]) rfl (a1B _) ⟨⟨_,rfl,a4m⟩,trivial⟩
 refine ru 21 ?_
 refine a1q ok hX a3g.two rfl (a0I rfl rfl ty_120.h rqc rfl rfl) [] rfl a0g ((⟨5,i,n,n,[]⟩,p+1)) (by unfold a2t;rw [hn];simp only;rw [if_neg hc0,if_pos hc3,if_neg (fun h0=>by rw [hc3,h0] at hr2;exact absurd hr2 (by decide))]) (by rfl) (by rfl) (a3w a0y a0y a0y a0y a0y) ?_
 exact ⟨⟨_,rfl,b9N kza (a6C om)⟩,trivial⟩
@[reducible] def sg0:Nat→Nat→HV:=fun _ j=>.imm (([.int .i64 0,.int .i64 0,.int .i64 0,.int .i64 0,.string ByteArray.empty]:List Value).getD j undef)
theorem c8u (c0 g:Nat) (s:List UInt8) (i:Nat) (hs:s.length≤1000000) (hi:smallZ (bz s i)=true):a4s Tryz.prog 99 c0 [.pt 9001 g 0 0] [(9001,rdO g s i)] (SgP (b1L s i) g s):=by
 have hil:=a7W hi
 refine a0v Tryz.func99 rfl kr _ _ _ _ rfl 52 rfl rfl (fun X ok hX=>?_)
 refine ru 16 ?_
 refine a0l (α:=Nat) (fun x c=>⟨52,[(0,.v (.pt 9001 g 0 0)),(2,.v (.pt 2 c0 0 0)),(3,.v (intV i))],[(9001,rdO g s (i+x)),(2,⟨c0,1,5,120,0,sg0⟩)],c⟩) (fun x=>x≤12∧i+x≤s.length∧(∀ j,j < x→alnumZ (bz s (i+j))=true)) (fun x=>12 - x) (0) (by exact ⟨by omega,by omega,fun j h=>absurd h om⟩) (a0c rfl (Nat.le_refl _) tsa hsa) (fun k c hx NhL1 hL1=>?_)
 (try dsimp only at hx hL1 ⊢)
 obtain ⟨hk,hik,hal⟩:=hx
 refine ru 4 ?_
 refine hq_ 9 (a0C (xs:=[_]) (pre:=[(9001,_)]) (a3v g s (i+k) hs hik) ⟨rfl,trivial⟩) rfl rfl (a0i rfl a0g) rfl rfl ?_
 refine cll (b3T _) ?_
 refine ru 9 ?_
 first
 | refine a5v 20 10 18 true _ (fun hb=>a0C (xs:=[_]) (pre:=[(9001,_)]) (a3v g s (i+k) hs hik) ⟨rfl,trivial⟩) rfl rfl rfl rfl (a0i rfl a0g) rfl rfl rfl ?_
 | refine a4R 20 10 18 11 false true _ _ (fun hb hb2=>a0C (xs:=[_]) (pre:=[(9001,_)]) (a3v g s (i+k) hs hik) ⟨rfl,trivial⟩) rfl rfl rfl rfl rfl (a0i rfl a0g) rfl rfl rfl ?_
 | refine b7o 20 10 18 _ _ true _ (fun hb=>a0C (xs:=[_]) (pre:=[(9001,_)]) (a3v g s (i+k) hs hik) ⟨rfl,trivial⟩) rfl rfl rfl rfl (a0i rfl a0g) rfl rfl rfl ?_
 first
 | refine stg 18 (fun hb=>a0e (xs:=[_]) (b0N _) ⟨rfl,trivial⟩ ⟨(Fz.eq rfl),trivial⟩) rfl rfl rfl rfl rfl ?_
 | refine a4R 21 10 18 11 false true _ _ (fun hb hb2=>a0e (xs:=[_]) (b0N _) ⟨rfl,trivial⟩ ⟨(Fz.eq rfl),trivial⟩) rfl rfl rfl rfl rfl a0g rfl rfl rfl ?_
 | refine sth 18 (fun hb=>a0e (xs:=[_]) (b0N _) ⟨rfl,trivial⟩ ⟨(Fz.eq rfl),trivial⟩) rfl rfl rfl rfl rfl ?_
 refine ru 4 ?_
 refine wdc (fun hr0 hc0=>?_) (fun hr0 hc0=>?_)
 ·skip
  have hall:alnumZ (bz s (i+k))=true:=(by unfold alnumZ;rw [Bool.or_eq_true];rcases hc0 with h | h;exact .inl h;exact .inr h.2);have hlt:i+k < s.length:=a4e (fun h=>by rw [h] at hall;exact absurd hall (by decide))
  refine ru 15 ?_
  refine wdc (fun hr1 hc1=>?_) (fun hr1 hc1=>?_)
  ·refine ru 2 ?_
   refine a2c (xs:=[_]) (pre:=[(9001,_)]) (b4U _ g s (i+k) hs hik) ⟨rfl,trivial⟩ (a0i rfl a0g) (fun y c1 hy=>?_)
   refine (a0F (a1T (a0F (a1T (a0F ?_)))))
   obtain rfl:k=12:=om;exact a2x ok hX (y,i+12) (by rw [hy,b6s hlt];exact b8u (fun j hj=>by rcases Nat.lt_or_ge j 12 with h | h;exact hal j h;obtain rfl:j=12:=om;exact hall)) rfl (a1B _) ⟨⟨_,rfl,a4m⟩,trivial⟩
  refine ru 13 ?_
  exact hL1 (k+1) _ _ (by (try dsimp only);exact ⟨by omega,by omega,fun j hj=>by rcases Nat.lt_or_ge j k with h | h;exact hal j h;obtain rfl:j=k:=om;exact hall⟩) (by (try dsimp only);omega) (a0c rfl (Nat.le_refl _) tsa (a0f.cons rfl (b7s (.refl _) (a0H om)) hsa))
 have hno:alnumZ (bz s (i+k))=false:=(by unfold alnumZ;rw [hc0.1,Bool.false_or];have h2:=hc0.2;rcases Nat.eq_zero_or_pos k with h | h;subst h;rw [Nat.add_zero] at hc0;rw [hi] at hc0;exact absurd hc0.1 (by decide);rw [show decide ((i:Int) < ((i+k:Nat):Int))=true from decide_eq_true om,Bool.true_and] at h2;exact h2)
 refine ru 2 ?_
 refine a0d ?_
 refine ru 20 ?_
 refine a1q ok hX a3g.two rfl (a0I rfl rfl ty_120.h rqc rfl rfl) [] rfl a0g ((⟨1,i,0,0,(s.drop i).take (i+k - i)⟩,i+k)) (b8C hk hal hno) (by rfl) (by rfl) (a3w a0y a0y a0y a0y a0y) ?_
 exact ⟨⟨_,rfl,a4m⟩,trivial⟩
theorem b9i:∀ k:Fin 6,(((⟨#[40,41,124,42,43,63]⟩:ByteArray)[k.val]'k.isLt).toNat < 128)∧((((⟨#[40,41,124,42,43,63]⟩:ByteArray)[k.val]'k.isLt).toNat:Int)=b7A k.val):=by decide +kernel
theorem b7P {k:Nat} (h:k < 6):((⟨#[40,41,124,42,43,63]⟩:ByteArray)[k]'h).toNat < 128:=(b9i ⟨k,h⟩).1
theorem c7J {k:Nat} (h:k < 6):(((⟨#[40,41,124,42,43,63]⟩:ByteArray)[k]'h).toNat:Int)=b7A k:=(b9i ⟨k,h⟩).2
theorem c5n (c0 g:Nat) (s:List UInt8) (i:Nat) (hs:s.length≤1000000) (hi:i≤s.length) (hi0:smallZ (bz s i)=false) (hi1:bz s i≠123):a4s Tryz.prog 98 c0 [.pt 9001 g 0 0] [(9001,rdO g s i)] (SgP (a3L s i) g s):=by
 refine a0v Tryz.func98 rfl kr _ _ _ _ rfl 56 rfl rfl (fun X ok hX=>?_)
 refine ru 8 ?_
 refine a0u 6 (b4s (id:=6) kr rfl) rfl rfl a0g rfl rfl (c':=c0+2) rfl ?_
 refine ru 3 ?_
 refine a0l (α:=Nat) (fun x c=>⟨56,[(0,.v (.pt 9001 g 0 0)),(2,.v (.pt 2 c0 0 0)),(6,.v (.pt 6 (c0+1) 0 0))],[(6,a7Q (c0+1) ⟨#[40,41,124,42,43,63]⟩ x),(9001,rdO g s i),(2,⟨c0,1,5,120,0,sg0⟩)],c⟩) (fun x=>x≤6∧(∀ j,j < x→bz s i≠b7A j)) (fun x=>6 - x) (0) (by exact ⟨by omega,fun j h=>absurd h om⟩) (a0c rfl (Nat.le_refl _) tsa hsa) (fun k c hx NhL1 hL1=>?_)
 (try dsimp only at hx hL1 ⊢)
 obtain ⟨hk,hno⟩:=hx
 refine ru 1 ?_
 rcases Nat.lt_or_ge k 6 with hk6 | hk6
 ·refine ru 1 ?_
  refine a0u 7 (b7r (c:=b7A k) rfl hk6 (b7P hk6) (c7J hk6)) rfl rfl (a0P rfl) rfl rfl (c':=c+1) rfl ?_
  refine ru 4 ?_
  refine wdc (fun hr0 hc0=>?_) (fun hr0 hc0=>?_)
  ·skip
   have hck:=b9x k
   refine ru 15 ?_
   refine hq_ 12 (a0C (xs:=[_]) (pre:=[(9001,_)]) (a3v g s i hs hi) ⟨rfl,trivial⟩) rfl rfl (a0i rfl a0g) rfl rfl ?_
   refine ru 5 ?_
   refine wdc (fun hr1 hc1=>?_) (fun hr1 hc1=>?_)
   ·refine ru 3 ?_
    exact hL1 (k+1) _ _ (by (try dsimp only);exact ⟨by omega,fun j hj=>by rcases Nat.lt_or_ge j k with h | h;exact hno j h;obtain rfl:j=k:=om;exact hc1⟩) (by (try dsimp only);omega) (a0c rfl (Nat.le_refl _) tsa hsa)
   refine ru 28 ?_
   refine wdc (fun hr2 hc2=>?_) (fun hr2 hc2=>?_)
   ·refine ru 30 ?_
    refine a0o ?_
    refine ru 2 ?_
    refine a1q ok hX a3g.two rfl (a0I rfl rfl ty_120.h rqc rfl rfl) [] rfl a0g ((⟨5,i,0,-1,[]⟩,i+1)) (c8h (hc1.trans hc2)) (by rfl) (by rfl) (a3w a0y a0y a0y a0y a0y) ?_
    exact ⟨⟨_,rfl,b9N kza (a6C om)⟩,trivial⟩
   refine ru 6 ?_
   refine wdc (fun hr3 hc3=>?_) (fun hr3 hc3=>?_)
   ·refine ru 30 ?_
    refine a0o ?_
    refine ru 2 ?_
    refine a1q ok hX a3g.two rfl (a0I rfl rfl ty_120.h rqc rfl rfl) [] rfl a0g ((⟨5,i,1,-1,[]⟩,i+1)) (c7M (hc1.trans hc3)) (by rfl) (by rfl) (a3w a0y a0y a0y a0y a0y) ?_
    exact ⟨⟨_,rfl,b9N kza (a6C om)⟩,trivial⟩
   refine ru 6 ?_
   refine wdc (fun hr4 hc4=>?_) (fun hr4 hc4=>?_)
   ·refine ru 30 ?_
    refine a0o ?_
    refine ru 2 ?_
    refine a1q ok hX a3g.two rfl (a0I rfl rfl ty_120.h rqc rfl rfl) [] rfl a0g ((⟨5,i,0,1,[]⟩,i+1)) (c7B (hc1.trans hc4)) (by rfl) (by rfl) (a3w a0y a0y a0y a0y a0y) ?_
    exact ⟨⟨_,rfl,b9N kza (a6C om)⟩,trivial⟩
   refine ru 23 ?_
   refine a0o ?_
   refine ru 2 ?_
   refine a1q ok hX a3g.two rfl (a0I rfl rfl ty_120.h rqc rfl rfl) [] rfl a0g ((⟨2+k,i,0,0,[]⟩,i+1)) (c5q hk6 hc1 hc2 hc3 hc4) (by rfl) (by rfl) (a3w a0y a0y a0y a0y a0y) ?_
   exact ⟨⟨_,rfl,b9N kza (a6C om)⟩,trivial⟩
  exfalso;cases hr0
 ·refine ru 1 ?_
  refine st1 (b3m rfl (by show ¬ k < 6;omega)) rfl rfl rfl ?_
  refine ru 4 ?_
  refine wdc (fun hr0 hc0=>?_) (fun hr0 hc0=>?_)
  ·skip
   exfalso;cases hr0
  refine ru 2 ?_
  refine a0d ?_
  refine ru 5 ?_
  refine a2c (xs:=[_]) (pre:=[(9001,_)]) (b4U _ g s i hs hi) ⟨rfl,trivial⟩ (a0i rfl a0g) (fun y c1 hy=>?_)
  refine (a0F ?_)
  exact a2x ok hX (y,i) (by rw [hy];exact c1T hi0 hi1 (fun j hj=>hno j om)) rfl (a1B _) ⟨⟨_,rfl,a4m⟩,trivial⟩
theorem c3F (c0 g:Nat) (s:List UInt8) (i:Nat) (hs:s.length≤1000000) (hi:i≤s.length):a4s Tryz.prog 80 c0 [.pt 9001 g 0 0] [(9001,rdO g s i)] (SgP (a3L s i) g s):=by
 refine a0v Tryz.func80 rfl kr _ _ _ _ rfl 21 rfl rfl (fun X ok hX=>?_)
 refine ru 16 ?_
 refine hq_ 8 (a0C (xs:=[_]) (pre:=[(9001,_)]) (a3v g s i hs hi) ⟨rfl,trivial⟩) rfl rfl (a0i rfl a0g) rfl rfl ?_
 refine ru 7 ?_
 refine cll (b3T _) ?_
 refine ru 3 ?_
 refine wdc (fun hr0 hc0=>?_) (fun hr0 hc0=>?_)
 ·refine ru 10 ?_
  refine a7d 20 (xs:=[]) (pre:=[(9001,_)]) (c8u _ g s i hs hc0) rfl trivial (a0i rfl a0g) rfl rfl (fun y c1 hy=>(a0F (a2x ok hX y (by unfold a3L;rw [if_pos hc0,hy]) rfl (a1B _) ⟨⟨_,rfl,a4m⟩,trivial⟩))) (fun x1 c1 hx=>?_)
  obtain ⟨x,q⟩:=x1
  (try dsimp only)
  refine ru 4 ?_
  refine a1q ok hX a3g.two rfl (a0I rfl rfl ty_120.h rqc rfl rfl) [] rfl a0g ((x,q)) (by unfold a3L;rw [if_pos hc0,hx]) (by rfl) (by rfl) (a3w a0y a0y a0y a0y a0y) ?_
  exact ⟨⟨_,rfl,a4m⟩,trivial⟩
 refine ru 7 ?_
 refine wdc (fun hr1 hc1=>?_) (fun hr1 hc1=>?_)
 ·refine ru 10 ?_
  refine a7d 20 (xs:=[]) (pre:=[(9001,_)]) (c5X _ g s i hs (a4e om)) rfl trivial (a0i rfl a0g) rfl rfl (fun y c2 hy=>(a0F (a2x ok hX y (by unfold a3L;rw [if_neg (by rw [hc0];decide),if_pos hc1,hy]) rfl (a1B _) ⟨⟨_,rfl,a4m⟩,trivial⟩))) (fun x2 c2 hx=>?_)
  obtain ⟨x,q⟩:=x2
  (try dsimp only)
  refine ru 4 ?_
  refine a1q ok hX a3g.two rfl (a0I rfl rfl ty_120.h rqc rfl rfl) [] rfl a0g ((x,q)) (by unfold a3L;rw [if_neg (by rw [hc0];decide),if_pos hc1,hx]) (by rfl) (by rfl) (a3w a0y a0y a0y a0y a0y) ?_
  exact ⟨⟨_,rfl,a4m⟩,trivial⟩
 refine ru 6 ?_
 refine a7d 20 (xs:=[]) (pre:=[(9001,_)]) (c5n _ g s i hs hi hc0 hc1) rfl trivial (a0i rfl a0g) rfl rfl (fun y c3 hy=>(a0F (a2x ok hX y hy rfl (a1B _) ⟨⟨_,rfl,a4m⟩,trivial⟩))) (fun x3 c3 hx=>?_)
 obtain ⟨x,q⟩:=x3
 (try dsimp only)
 refine ru 4 ?_
 refine a1q ok hX a3g.two rfl (a0I rfl rfl ty_120.h rqc rfl rfl) [] rfl a0g ((x,q)) (hx) (by rfl) (by rfl) (a3w a0y a0y a0y a0y a0y) ?_
 exact ⟨⟨_,rfl,a4m⟩,trivial⟩
end Go.Proofs.YtdbbbafiegpbpaaGreatDoor
namespace Go.Proofs.YtdbbbafiegpbpaaGreatDoor
set_option linter.unusedSimpArgs false
set_option linter.unusedVariables false
open Go.RowKit
open Go.Lib hiding intOf
end Go.Proofs.YtdbbbafiegpbpaaGreatDoor
namespace Go.Proofs
open Go.Shelf
set_option maxRecDepth 100000
end Go.Proofs
namespace Go.Proofs.YtdbbbafiegpbpaaGreatDoor
set_option linter.unusedSimpArgs false
set_option linter.unusedVariables false
open Go.RowKit
open Go.Lib hiding intOf
def c9L (n:Nat):UInt8:=if n < 10 then UInt8.ofNat (48+n) else UInt8.ofNat (87+n)
def c6I (c:UInt8):Bool:=decide (32 < c.toNat)&&!decide (c.toNat=127)
def c9c (c:UInt8):List UInt8 :=
 if c.toNat=92 then [92,92] else if c.toNat=32 then [92,115] else if c.toNat=10 then [92,110] else if c6I c then [c] else [92,120,c9L (c.toNat / 16),c9L (c.toNat % 16)]
def c8Z (l:List UInt8):List UInt8:=l.flatMap c9c
set_option maxRecDepth 100000
end Go.Proofs.YtdbbbafiegpbpaaGreatDoor
namespace Go.Proofs.YtdbbbafiegpbpaaGreatDoor
set_option linter.unusedSimpArgs false
set_option linter.unusedVariables false
open Classical in
noncomputable def d0a (l:List UInt8):Option (List UInt8):=if h:∃ b,c8Z b=l then some h.choose else none
end Go.Proofs.YtdbbbafiegpbpaaGreatDoor
namespace Go.Proofs
open Go.Shelf
def Tryz.lays137_ren:Go.Shelf.Ren:=⟨fun | 137=>77 | 217=>97 | 266=>111 | n=>n,fun | 9=>9 | 5=>5 | 3=>3 | n=>n,fun | n=>n⟩
theorem Tryz.lays137:Go.Proofs.Lays.n137 Tryz.prog Tryz.lays137_ren:={
 mixed:=by kernel_rfl
 f137:=Tryz.func77.trans (congrArg some (by kernel_rfl))
 f217:=Tryz.func97.trans (congrArg some (by kernel_rfl))
 f266:=Tryz.func111.trans (congrArg some (by kernel_rfl))
 t3:=Tryz.underlying3
 a3:=Tryz.isAgg3
 z3:=Tryz.sizeOf3
 v3:=Tryz.zeroValue3
 t5:=Tryz.underlying5
 a5:=Tryz.isAgg5
 z5:=Tryz.sizeOf5
 v5:=Tryz.zeroValue5
 t9:=Tryz.underlying9
 a9:=Tryz.isAgg9
 z9:=Tryz.sizeOf9
 v9:=Tryz.zeroValue9 }
open Go.RowKit in
theorem Tryz.strings_IndexByte (s:ByteArray) (c:Int) (w:World) :
  Calls Tryz.prog 77 #[.string s,.int .u8 c] w fun e w'=>e=.returned (.int .i64 (Lib.indexByte s.data.toList c.toNat.toUInt8))∧w'=w:=Any.strings_IndexByte Tryz.lays137 s c w
end Go.Proofs
namespace Go.Proofs.YtdbbbafiegpbpaaGreatDoor
set_option linter.unusedSimpArgs false
set_option linter.unusedVariables false
set_option maxRecDepth 100000
open Go.RowKit
theorem c4g (c:UInt8):((c.toNat:Int)).toNat.toUInt8=c:=by simp
theorem a8G (l:List UInt8) (c:UInt8):HPure Tryz.prog 77 [strV l,u8V c] (intV (Lib.indexByte l c)):=by
 refine ⟨⟨_,_,Tryz.func77,rfl,by kernel_rfl⟩,fun w F vs hF hr hw=>?_⟩
 obtain ⟨u,v,rfl,hu,hv⟩:=c6v hr
 rw [hu.imm_inv,hv.imm_inv]
 refine (Tryz.strings_IndexByte ⟨l.toArray⟩ c.toNat w).mono ?_
 rintro e w' ⟨rfl,rfl⟩
 rw [c4g]
 exact a8i hF (Below.refl _ _)
instance:Inhabited Sg:=⟨⟨0,0,0,0,[]⟩⟩
@[reducible] def c3v (l:List Sg):Nat→Nat→HV:=fun i j=>sgF (l.getD i default) j
@[reducible] def a4u (l:List Sg):HV:=.sl 5 l.length (c3v l)
def b7E (r:Except (Int×Int) (List Sg)):List Sg×Int×Int:=match r with | .ok l=>(l,0,0) | .error e=>([],e.1,e.2)
@[reducible] def c3e (r:List Sg×Int×Int):HV:=t3 (a4u r.1) (intV r.2.1) (intV r.2.2)
@[reducible] def cell1 (g ty:Nat) (x:HV):HObj:=⟨g,1,1,ty,0,fun _ _=>x⟩
theorem a5z {kp sh:List (Nat×HObj)} {g ty:Nat} {f:Nat→Nat→HV} {y:HV} (h:Kz kp sh (f 0 0) y):OKz kp sh ⟨g,1,1,ty,0,f⟩ (cell1 g ty y):=c6q h
theorem c6U (c ga gb gd gl n:Nat) (F:Nat→Nat→HV) (hF:∀ i j,∃ v,F i j=.imm v) (va ve:Int):c6r Tryz.prog 74 a9w a9w c [.pt 2 ga 0 0,.pt 3 gb 0 0,.pt 4 gd 0 0] (.imm .nilIface)
  [(2,cell1 ga 111 (.os 54 gl 0 n)),(3,cell1 gb 3 (intV va)),(4,cell1 gd 29 (intV ve)),(54,⟨gl,n,5,120,0,F⟩)]
  (a9t (fun (_:Unit) _=>True) (fun _=>.tup 0 fun _=>default) (fun _=>[(2,cell1 ga 111 (.os 54 gl 0 n)),(3,cell1 gb 3 (intV va)),(4,cell1 gd 29 (intV ve)),(54,⟨gl,n,5,120,0,F⟩)])):=by
 refine b9P _ _ _ d0d Tryz.func74 rfl kr _ _ _ rfl 21 rfl rfl rfl rfl rfl rfl (by decide) (fun X ok hX=>?_)
 refine ru 6 ?_
 refine wdc (fun hr0 hc0=>?_) (fun hr0 hc0=>?_)
 ·skip
  exfalso;cases hr0
 refine ru 1 ?_
 refine a1Y ?_
 refine a1w ok hX a3g.one rfl  [] rfl a0g (()) (trivial) (by rfl) (by rfl) (kza) ?_
 exact ⟨⟨_,rfl,a5z kza⟩,⟨⟨_,rfl,a5z kza⟩,⟨⟨_,rfl,a5z kza⟩,⟨⟨_,rfl,.of (fun i j hi hj=>by obtain ⟨v,hv⟩:=hF i j;rw [hv];exact a0y)⟩,trivial⟩⟩⟩⟩
theorem c7l (c ga gb gd:Nat) (x:HV) (va ve:Int) (e:Int×Int):c6r Tryz.prog 74 b8l b2b c [.pt 2 ga 0 0,.pt 3 gb 0 0,.pt 4 gd 0 0] (a6P e)
  [(2,cell1 ga 111 x),(3,cell1 gb 3 (intV va)),(4,cell1 gd 29 (intV ve))]
  (a9t (fun (_:Unit) _=>True) (fun _=>.tup 0 fun _=>default) (fun _=>[(2,cell1 ga 111 (.imm (.slice none 0 0))),(3,cell1 gb 3 (intV e.1)),(4,cell1 gd 29 (intV e.2))])):=by
 refine b9P _ _ _ (c9R _) Tryz.func74 rfl kr _ _ _ rfl 21 rfl rfl rfl rfl rfl rfl (by decide) (fun X ok hX=>?_)
 refine ru 6 ?_
 refine wdc (fun hr0 hc0=>?_) (fun hr0 hc0=>?_)
 ·refine ru 3 ?_
  refine s0 (b0x kr rfl) ?_
  refine ru 3 ?_
  refine a0u 4 (a0X (id:=104) (sz:=2) zc_154.h rfl rfl omx omx) rfl rfl a0g rfl rfl (c':=c+1) rfl ?_
  refine ru 11 ?_
  refine wdc (fun hr1 hc1=>?_) (fun hr1 hc1=>?_)
  ·skip
   exfalso;cases hr1
  refine ru 11 ?_
  refine a1Y ?_
  refine a1w ok hX a3g.one rfl  [] rfl a0g (()) (trivial) (by rfl) (by rfl) (kza) ?_
  exact ⟨⟨_,rfl,a5z kza⟩,⟨⟨_,rfl,a5z kza⟩,⟨⟨_,rfl,a5z kza⟩,trivial⟩⟩⟩
 exfalso;cases hr0
section
variable {P:Program}
end
section
variable {P:Program} {ov:Nat→Option HV} {g:Nat} {d:Option Tmp} {ty T U:TypeId} {pos:String} {af:Array Edge} {gd:Option (Nat×Bool)} {x y:Operand}
end
section
variable {K:Nat→Prop} {w0 w:World} {F0:Addr→Prop} {E:Env} {h:Nat→Option HObj}
end
end Go.Proofs.YtdbbbafiegpbpaaGreatDoor
namespace Go.Proofs.YtdbbbafiegpbpaaGreatDoor
set_option linter.unusedSimpArgs false
set_option linter.unusedVariables false
set_option maxRecDepth 100000
open Go.RowKit
open Go.Lib hiding intOf
def a4h (a b:Int):List UInt8 :=
 if a=0∧b=-1 then [42]
 else if a=1∧b=-1 then [43]
 else if a=0∧b=1 then [63]
 else if a=b then [123]++itoa a++[125]
 else if b=-1 then [123]++itoa a++[44,125]
 else [123]++itoa a++[44]++itoa b++[125]
@[reducible] def I64 (n:Int):Prop:=-9223372036854775808≤n∧n≤9223372036854775807
def a3M (x:Sg):List UInt8 :=
 if x.kind=1 then x.name else if x.kind=2 then [40] else if x.kind=3 then [41] else if x.kind=4 then [124] else if x.kind=5 then a4h x.low x.high else []
def c8D (f:Bool) (x:Sg):List UInt8:=if f=false∧x.kind≠5 then [32] else []
def a9G:Bool→List Sg→List UInt8
 | _,[]=>[]
 | f,x::r=>c8D f x++a3M x++a9G false r
structure SgOk (x:Sg):Prop where
 name:x.name.length≤100
 low:I64 x.low
 high:I64 x.high
end Go.Proofs.YtdbbbafiegpbpaaGreatDoor
namespace Go.Proofs.YtdbbbafiegpbpaaGreatDoor
set_option linter.unusedSimpArgs false
set_option linter.unusedVariables false
set_option maxRecDepth 100000
open Go.Lib hiding intOf
theorem a5k (p u:List UInt8) (k:Nat):bz (p++u) (p.length+k)=bz u k:=by
 unfold bz
 simp only [List.length_append]
 by_cases h:k < u.length
 ·rw [if_pos (by omega),if_pos h]
  congr 2
  rw [List.getD_eq_getElem?_getD,List.getD_eq_getElem?_getD,List.getElem?_append_right (by omega),show p.length+k - p.length=k by omega]
 ·rw [if_neg (by omega),if_neg h]
theorem b0w (p u:List UInt8):bz (p++u) p.length=bz u 0:=a5k p u 0
theorem a2g {v:List UInt8} (w:List UInt8) {k:Nat} (h:k < v.length):bz (v++w) k=bz v k:=by
 unfold bz
 rw [if_pos (by rw [List.length_append];omega),if_pos h]
 congr 2
 rw [List.getD_eq_getElem?_getD,List.getD_eq_getElem?_getD,List.getElem?_append_left h]
theorem b6W (p u:List UInt8) (k:Nat):a4N (p++u) (p.length+k)=((a4N u k).1,p.length+(a4N u k).2):=by
 unfold a4N
 rw [show p.length+k+1=p.length+(k+1) by omega,show p.length+k+2=p.length+(k+2) by omega]
 simp only [a5k]
 repeat' split
 all_goals rfl
theorem c1J {v:List UInt8} (w:List UInt8) {k q:Nat} {o:Option Int} (h:a4N v k=(o,q)) (hq:q < v.length):a4N (v++w) k=(o,q):=by
 unfold a4N at h ⊢
 by_cases h0:a0Q (bz v k)=true
 ·have l0:=a2b h0
  rw [a2g w l0,if_pos h0]
  rw [if_pos h0] at h
  by_cases h1:a0Q (bz v (k+1))=true
  ·have l1:=a2b h1
   rw [if_pos h1] at h
   rw [a2g w l1,if_pos h1]
   by_cases h2:bz v k=48
   ·rw [if_pos h2] at h ⊢;exact h
   ·rw [if_neg h2] at h ⊢
    have l2:k+2 < v.length:=by
     by_cases h3:a0Q (bz v (k+2))=true
     ·exact a2b h3
     ·rw [if_neg h3] at h;injection h with _ h;omega
    rw [a2g w l2];exact h
  ·have l1:k+1 < v.length:=by
    rw [if_neg h1] at h;injection h with _ h;omega
   rw [a2g w l1,if_neg h1]
   rw [if_neg h1] at h
   exact h
 ·rw [if_neg h0] at h
  have:k < v.length:=by injection h with _ h;omega
  rw [a2g w this,if_neg h0];exact h
theorem a4x {s:List UInt8} {i q:Nat} {low v:Int} (h:numR s i low=.ok (v,q)):a4N s i=(some v,q)∧¬ (v < low∨20 < v):=by
 unfold numR at h
 split at h
 ·cases h
 ·rename_i n q' hn
  split at h
  ·cases h
  ·rename_i hv
   injection h with h;injection h with h1 h2;subst h1;subst h2
   exact ⟨hn,hv⟩
theorem a8g {v:List UInt8} (w:List UInt8) {i q:Nat} {low n:Int} (h:numR v i low=.ok (n,q)) (hq:q < v.length):numR (v++w) i low=.ok (n,q):=by
 have:=a4x h
 exact a9g (c1J w this.1 hq) this.2
theorem a5E {p u:List UInt8} {k q:Nat} {low n:Int} (h:numR u k low=.ok (n,q)):numR (p++u) (p.length+k) low=.ok (n,p.length+q):=by
 have:=a4x h
 refine a9g ?_ this.2
 rw [b6W,this.1]
inductive CountIs (s:List UInt8) (i:Nat) (n m:Int) (q:Nat):Prop
 | from_ (p:Nat):numR s (i+1) 0=.ok (n,p)→bz s p=44→bz s (p+1)=125→m=-1→q=p+2→CountIs s i n m q
 | both (p r:Nat):numR s (i+1) 0=.ok (n,p)→bz s p=44→¬ bz s (p+1)=125→numR s (p+1) (if 1 > n then 1 else n)=.ok (m,r)→bz s r=125→q=r+1→CountIs s i n m q
 | one (p:Nat):numR s (i+1) 0=.ok (n,p)→bz s p=125→n≠0→m=n→q=p+1→CountIs s i n m q
theorem b0i {s:List UInt8} {i q:Nat} {n m:Int} (h:CountIs s i n m q):a2t s i=.ok (⟨5,i,n,m,[]⟩,q):=by
 cases h with
 | from_ p h h1 h2 hm hq=>subst hm;subst hq;unfold a2t;rw [h];simp only;rw [if_pos h1,if_pos h2]
 | both p r h h1 h2 h3 h4 hq=>subst hq;unfold a2t;rw [h];simp only;rw [if_pos h1,if_neg h2,h3];simp only;rw [if_pos h4]
 | one p h h1 h2 hm hq=>subst hm;subst hq;unfold a2t;rw [h];simp only;rw [if_neg (by omega),if_pos h1,if_neg h2]
theorem a6X {s:List UInt8} {i q:Nat} {x:Sg} (h:a2t s i=.ok (x,q)):x=⟨5,i,x.low,x.high,[]⟩∧CountIs s i x.low x.high q:=by
 unfold a2t at h
 split at h
 ·cases h
 ·rename_i n p hn
  split at h
  ·rename_i h44
   split at h
   ·rename_i h125
    injection h with h;injection h with h1 h2;subst h1;subst h2
    exact ⟨rfl,.from_ p hn h44 h125 rfl rfl⟩
   ·rename_i h125
    split at h
    ·cases h
    ·rename_i m q' hm
     split at h
     ·rename_i h6
      injection h with h;injection h with h1 h2;subst h1;subst h2
      exact ⟨rfl,.both p q' hn h44 h125 hm h6 rfl⟩
     ·cases h
  ·split at h
   ·rename_i h125
    split at h
    ·cases h
    ·rename_i h0
     injection h with h;injection h with h1 h2;subst h1;subst h2
     exact ⟨rfl,.one p hn h125 h0 rfl rfl⟩
   ·cases h
theorem b1D {s:List UInt8} {i q:Nat} {low n:Int} (h:numR s i low=.ok (n,q)):i < q∧q≤s.length∧0≤n:=by
 have a:=a4x h
 by_cases hi:i≤s.length
 ·have b:=a6b hi a.1
  have c:=b.2.2 _ rfl
  omega
 ·have:a4N s i=(none,i):=b1r (by rw [a6x (by omega)];decide)
  rw [this] at a;cases a.1
theorem b4d {v:List UInt8} (w:List UInt8) {i q:Nat} {n m:Int} (h:CountIs v i n m q):CountIs (v++w) i n m q:=by
  cases h with
  | from_ p h h1 h2 hm hq =>
    have l2:=a4e (s:=v) (i:=p+1) (by omega)
    exact .from_ p (a8g w h (by omega)) (by rw [a2g w (by omega)];exact h1) (by rw [a2g w l2];exact h2) hm hq
  | both p r h h1 h2 h3 h4 hq =>
    have l4:=a4e (s:=v) (i:=r) (by omega)
    have l1:=a4e (s:=v) (i:=p) (by omega)
    have l2:=b1D h3
    exact .both p r (a8g w h l1) (by rw [a2g w l1];exact h1) (by rw [a2g w (by omega)];exact h2) (a8g w h3 l4) (by rw [a2g w l4];exact h4) hq
  | one p h h1 h2 hm hq =>
    have l1:=a4e (s:=v) (i:=p) (by omega)
    exact .one p (a8g w h l1) (by rw [a2g w l1];exact h1) h2 hm hq
theorem b0C {p u:List UInt8} {k q:Nat} {n m:Int} (h:CountIs u k n m q):CountIs (p++u) (p.length+k) n m (p.length+q):=by
  cases h with
  | from_ a h h1 h2 hm hq =>
    refine .from_ (p.length+a) ?_ (by rw [a5k];exact h1) (by rw [Nat.add_assoc,a5k];exact h2) hm (by omega)
    rw [Nat.add_assoc];exact a5E h
  | both a r h h1 h2 h3 h4 hq =>
    refine .both (p.length+a) (p.length+r) ?_ (by rw [a5k];exact h1) (by rw [Nat.add_assoc,a5k];exact h2) ?_ (by rw [a5k];exact h4) (by omega)
    · rw [Nat.add_assoc];exact a5E h
    · rw [Nat.add_assoc];exact a5E h3
  | one a h h1 h2 hm hq =>
    refine .one (p.length+a) ?_ (by rw [a5k];exact h1) h2 hm (by omega)
    rw [Nat.add_assoc];exact a5E h
@[reducible] def TimesOk (a b:Int):Prop:=(0≤a∧a≤20)∧(b=-1∨(1≤b∧a≤b∧b≤20))
inductive SgW:Sg→Prop
 | name {p:Int} {n:List UInt8}:n.length≤12→smallZ (bz n 0)=true→(∀ j,j < n.length→alnumZ (bz n j)=true)→SgW ⟨1,p,0,0,n⟩
 | open_ {p:Int}:SgW ⟨2,p,0,0,[]⟩
 | shut {p:Int}:SgW ⟨3,p,0,0,[]⟩
 | or_ {p:Int}:SgW ⟨4,p,0,0,[]⟩
 | times {p a b:Int}:TimesOk a b→SgW ⟨5,p,a,b,[]⟩
theorem b7U {s:List UInt8}:∀ {f i j:Nat},j < a7O s i f→alnumZ (bz s (i+j))=true
  | 0,i,j,h=>by simp [a7O] at h
  | f + 1, i, j, h => by
    unfold a7O at h
    split at h
    · rename_i ha
      cases j with
      | zero=>exact ha
      | succ j=>rw [show i+(j+1)=i+1+j by omega];exact b7U (f:=f) (by omega)
    · omega
theorem c3r {s:List UInt8}:∀ {f i:Nat},a7O s i f≤f
  | 0,i=>by simp [a7O]
  | f + 1, i => by
    unfold a7O
    split
    · have:=c3r (s:=s) (f:=f) (i:=i+1);omega
    · omega
theorem c2U {s:List UInt8} {i k j:Nat} (h:j < k) (hk:i+k≤s.length):bz ((s.drop i).take k) j=bz s (i+j):=by
 unfold bz
 rw [if_pos (by rw [List.length_take,List.length_drop];omega),if_pos (by omega)]
 congr 2
 rw [List.getD_eq_getElem?_getD,List.getD_eq_getElem?_getD,List.getElem?_take,if_pos h,List.getElem?_drop]
theorem c6A {s:List UInt8} {i q:Nat} {x:Sg} (h:a3L s i=.ok (x,q)):SgW x:=by
  unfold a3L at h
  split at h
  · rename_i hs
    have hlt:=a7W hs
    unfold b1L at h
    split at h
    · cases h
    · rename_i h13
      injection h with h;injection h with h _;subst h
      have h1:=c3r (s:=s) (f:=13) (i:=i)
      have h2:=b4p (s:=s) (f:=13) (i:=i) (by omega)
      have h0:0 < a7O s i 13:=by
        have:alnumZ (bz s i)=true:=by unfold alnumZ;rw [hs];rfl
        unfold a7O;rw [if_pos this];omega
      refine .name (by rw [List.length_take];omega) ?_ (fun j hj=>?_)
      · rw [c2U h0 h2];exact hs
      · have:j < a7O s i 13:=by rw [List.length_take] at hj;omega
        rw [c2U this h2];exact b7U this
  split at h
  · have hc:=a6X h
    rw [hc.1]
    refine .times ?_
    cases hc.2 with
    | from_ p h1 _ _ hm _ =>
      have a:=a4x h1
      have b:=b1D h1
      exact ⟨⟨b.2.2,by omega⟩,.inl hm⟩
    | both p r h1 _ _ h2 _ _ =>
      have a:=a4x h1
      have b:=b1D h1
      have c:=(a4x h2).2
      refine ⟨⟨b.2.2,by omega⟩,.inr ?_⟩
      split at c <;> omega
    | one p h1 _ h3 hm _ =>
      have a:=a4x h1
      have b:=b1D h1
      exact ⟨⟨b.2.2,by omega⟩,.inr ⟨by omega,by omega,by omega⟩⟩
  split at h
  · injection h with h;injection h with h _;subst h;exact .open_
  split at h
  · injection h with h;injection h with h _;subst h;exact .shut
  split at h
  · injection h with h;injection h with h _;subst h;exact .or_
  split at h
  · injection h with h;injection h with h _;subst h;exact .times (by decide)
  split at h
  · injection h with h;injection h with h _;subst h;exact .times (by decide)
  split at h
  · injection h with h;injection h with h _;subst h;exact .times (by decide)
  cases h
theorem b7N {s:List UInt8}:∀ {f i:Nat} {out l:List Sg},(∀ x∈out,SgW x)→b3t s f i out=.ok l→∀ x∈l,SgW x
  | 0,i,out,l,h,e=>by injection e with e;subst e;exact h
  | f + 1, i, out, l, h, e => by
    simp only [b3t] at e
    split at e
    · injection e with e;subst e;exact h
    split at e
    · exact b7N h e
    split at e
    · split at e <;> cases e
    · split at e
      · cases e
      · rename_i x q hx
        refine b7N ?_ e
        intro y hy
        rcases List.mem_append.1 hy with hy | hy
        · exact h y hy
        · rw [List.mem_singleton] at hy;subst hy;exact c6A hx
theorem b3i {s:List UInt8} {l:List Sg} (h:lexV s=.ok l):∀ x∈l,SgW x:=b7N (fun x h=>by cases h) h
theorem b2S:I64 0:=by constructor <;> decide
theorem c2V {n:Int} (h:-1≤n) (h2:n≤20):I64 n:=by constructor <;> omega
theorem SgW.ok {x:Sg} (h:SgW x):SgOk x:=by
 cases h with
 | name h1 _ _=>exact ⟨Nat.le_trans h1 (by decide),b2S,b2S⟩
 | open_=>exact ⟨Nat.zero_le _,b2S,b2S⟩
 | shut=>exact ⟨Nat.zero_le _,b2S,b2S⟩
 | or_=>exact ⟨Nat.zero_le _,b2S,b2S⟩
 | @times p a b h=>exact ⟨Nat.zero_le _,c2V (n:=a) (by omega) (by omega),c2V (n:=b) (by omega) (by omega)⟩
def b1e (a b:Int):Bool:=match a3L (a4h a b) 0 with
 | .ok (x,q)=>decide (x=⟨5,0,a,b,[]⟩)&&decide (q=(a4h a b).length)
 | _=>false
theorem c4a:∀ a:Fin 21,b1e a.val (-1)=true:=by decide +kernel
theorem c4S:∀ a b:Fin 21,(decide (1≤b.val)&&decide (a.val≤b.val))=true→b1e a.val b.val=true:=by decide +kernel
theorem c1G {a b:Int} (h:TimesOk a b):a3L (a4h a b) 0=.ok (⟨5,0,a,b,[]⟩,(a4h a b).length):=by
 have:b1e a b=true:=by
  obtain ⟨⟨h0,h1⟩,h2⟩:=h
  rcases h2 with h2 | ⟨h2,h3,h4⟩
  ·subst h2
   have:=c4a ⟨a.toNat,by omega⟩
   simpa [Int.toNat_of_nonneg h0] using this
  ·have:=c4S ⟨a.toNat,by omega⟩ ⟨b.toNat,by omega⟩ (by simp;omega)
   simpa [Int.toNat_of_nonneg h0,Int.toNat_of_nonneg (show 0≤b by omega)] using this
 unfold b1e at this
 split at this
 ·rename_i x q hx
  rw [hx]
  simp only [Bool.and_eq_true,decide_eq_true_eq] at this
  rw [this.1,this.2]
 ·cases this
theorem a6B {p u:List UInt8} {x:Sg} {q:Nat} (h:a3L u 0=.ok (x,q)) (hs:smallZ (bz u 0)=false):a3L (p++u) p.length=.ok ({ x with at_:=(p.length:Int) },p.length+q):=by
 unfold a3L at h ⊢
 rw [b0w]
 rw [hs] at h ⊢
 rw [if_neg (by decide)] at h ⊢
 split at h
 ·rename_i h1
  rw [if_pos h1]
  have hc:=a6X h
  have:=b0i (b0C (p:=p) hc.2)
  rw [Nat.add_zero] at this
  rw [this,hc.1]
 ·rename_i h1
  rw [if_neg h1]
  repeat' split at h
  all_goals first
   | (cases h;done)
   | (injection h with h;injection h with h2 h3;subst h2;subst h3;rename_i h4;simp only [h4];rfl)
theorem b1y {v:List UInt8} (w:List UInt8) {x:Sg} {q:Nat} (h:a3L v 0=.ok (x,q)) (hs:smallZ (bz v 0)=false):a3L (v++w) 0=.ok (x,q):=by
 have hl:=a7t h
 unfold a3L at h ⊢
 rw [a2g w (by omega)]
 rw [hs] at h ⊢
 rw [if_neg (by decide)] at h ⊢
 split at h
 ·rename_i h1
  rw [if_pos h1]
  have hc:=a6X h
  rw [b0i (b4d w hc.2),hc.1]
 ·rename_i h1
  rw [if_neg h1]
  repeat' split at h
  all_goals first
   | (cases h;done)
   | (rename_i h4;simp only [h4];exact h)
def Sep (w:List UInt8):Prop:=alnumZ (bz w 0)=false
theorem b7b {x:Sg} (h:SgW x) (p w:List UInt8) (hw:x.kind=1→Sep w):a3L (p++(a3M x++w)) p.length=.ok ({ x with at_:=(p.length:Int) },p.length+(a3M x).length):=by
  cases h with
  | @name a n h1 h2 h3 =>
    have hn:a3M ⟨1,a,0,0,n⟩=n:=rfl
    rw [hn]
    have h0:0 < n.length:=by
      rcases Nat.eq_zero_or_pos n.length with h | h
      · rw [a6x (by omega)] at h2;exact absurd h2 (by decide)
      · exact h
    have hs:smallZ (bz (p++(n++w)) p.length)=true:=by rw [b0w,a2g w h0];exact h2
    unfold a3L
    rw [if_pos hs]
    rw [b8C (k:=n.length) (by omega) (fun j hj=>by rw [a5k,a2g w hj];exact h3 j hj) (by rw [a5k];have:=a5k n w 0;rw [Nat.add_zero] at this;rw [this];exact hw rfl)]
    rw [show p.length+n.length - p.length=n.length by omega,List.drop_left,List.take_left]
  | @open_ a=>exact a6B (p:=p) (u:=[40]++w) (x:=⟨2,0,0,0,[]⟩) (q:=1) (b1y w rfl (by decide)) (by rw [a2g w (by decide)];decide)
  | @shut a=>exact a6B (p:=p) (u:=[41]++w) (x:=⟨3,0,0,0,[]⟩) (q:=1) (b1y w rfl (by decide)) (by rw [a2g w (by decide)];decide)
  | @or_ a=>exact a6B (p:=p) (u:=[124]++w) (x:=⟨4,0,0,0,[]⟩) (q:=1) (b1y w rfl (by decide)) (by rw [a2g w (by decide)];decide)
  | @times c a b h =>
    have hn:a3M ⟨5,c,a,b,[]⟩=a4h a b:=rfl
    rw [hn]
    have ht:=c1G h
    have h0:smallZ (bz (a4h a b) 0)=false:=by
      unfold a4h
      repeat' split
      all_goals rfl
    have hl:=a7t ht
    exact a6B (p:=p) (x:=⟨5,0,a,b,[]⟩) (b1y w ht h0) (by rw [a2g w (by omega)];exact h0)
theorem a7a (a b:Int):alnumZ (bz (a4h a b) 0)=false∧bz (a4h a b) 0≠32∧0 < (a4h a b).length:=by
 unfold a4h
 repeat' split
 all_goals first
  | exact ⟨by decide,by decide,by decide⟩
  | (simp only [List.cons_append,List.nil_append,List.append_assoc];exact ⟨rfl,by show (123:Int)≠32;decide,Nat.succ_pos _⟩)
theorem b7t {x:Sg} (h:SgW x):bz (a3M x) 0≠32∧0 < (a3M x).length:=by
  cases h with
  | @name a n h1 h2 h3 =>
    have hn:a3M ⟨1,a,0,0,n⟩=n:=rfl
    rw [hn]
    exact ⟨fun h=>by rw [h] at h2;exact absurd h2 (by decide),by have:=a7W h2;omega⟩
  | open_=>exact ⟨show bz [40] 0≠32 by decide,show 0 < [40].length by decide⟩
  | shut=>exact ⟨show bz [41] 0≠32 by decide,show 0 < [41].length by decide⟩
  | or_=>exact ⟨show bz [124] 0≠32 by decide,show 0 < [124].length by decide⟩
  | @times c a b h=>exact (a7a a b).2
theorem c2H:∀ {l:List Sg},(∀ x∈l,SgW x)→Sep (a9G false l)
  | [],_=>by show alnumZ (bz [] 0)=false;decide
  | x :: r, h => by
    have hx:=h x (List.mem_cons_self ..)
    unfold Sep a9G c8D
    by_cases h5:x.kind=5
    · rw [if_neg (by simp [h5]),List.nil_append]
      cases hx with
      | @times c a b h =>
        have hn:a3M ⟨5,c,a,b,[]⟩=a4h a b:=rfl
        rw [hn,a2g _ (a7a a b).2.2]
        exact (a7a a b).1
      | name _ _ _=>exact absurd h5 (by show ¬ (1:Int)=5;decide)
      | open_=>exact absurd h5 (by show ¬ (2:Int)=5;decide)
      | shut=>exact absurd h5 (by show ¬ (3:Int)=5;decide)
      | or_=>exact absurd h5 (by show ¬ (4:Int)=5;decide)
    · rw [if_pos ⟨rfl,h5⟩]
      rfl
def b4T:List Sg→List Sg→Prop
 | [],[]=>True
 | x::a,y::b=>y={ x with at_:=y.at_ }∧b4T a b
 | _,_=>False
theorem b5Z:∀ {l:List Sg} {f:Bool} {p:List UInt8} {out:List Sg},(∀ x∈l,SgW x)→out.length+l.length≤200 →
    ∃ l',a4D (p++a9G f l) p.length out=.ok (out++l')∧b4T l l'
  | [],f,p,out,_,_=>⟨[],by rw [a8n (by simp [a9G]),List.append_nil],trivial⟩
  | x :: r, f, p, out, h, hl => by
    have hx:=h x (List.mem_cons_self ..)
    have hr:∀ y∈r,SgW y:=fun y hy=>h y (List.mem_cons_of_mem _ hy)
    have hp:=b7t hx
    rw [List.length_cons] at hl
    have key:∀ q:List UInt8,∃ l',a4D (q++(a3M x++a9G false r)) q.length out=.ok (out++l')∧b4T (x::r) l':=by
      intro q
      have h0:bz (q++(a3M x++a9G false r)) q.length=bz (a3M x) 0:=by rw [b0w,a2g _ hp.2]
      rw [b1j (by simp only [List.length_append];omega) (by rw [h0];exact hp.1) (by omega) (b7b hx q (a9G false r) (fun _=>c2H hr))]
      obtain ⟨l',e,hs⟩:=b5Z (l:=r) (f:=false) (p:=q++a3M x) (out:=out++[{ x with at_:=(q.length:Int) }]) hr (by rw [List.length_append];show out.length+1+_≤_;omega)
      rw [List.length_append,List.append_assoc] at e
      exact ⟨{ x with at_:=(q.length:Int) }::l',by rw [e,List.append_assoc];rfl,rfl,hs⟩
    unfold a9G c8D
    by_cases h5:f=false∧x.kind≠5
    · rw [if_pos h5]
      obtain ⟨l',e,hs⟩:=key (p++[32])
      refine ⟨l',?_,hs⟩
      rw [b1u (by simp) (by rw [b0w];rfl),←e]
      simp [List.append_assoc]
    · rw [if_neg h5]
      exact key p
end Go.Proofs.YtdbbbafiegpbpaaGreatDoor
namespace Go.Proofs.YtdbbbafiegpbpaaGreatDoor
set_option linter.unusedSimpArgs false
set_option linter.unusedVariables false
structure Pt where
 kind:Int
 low:Int
 high:Int
 name:List UInt8
 kids:List Int
 deriving DecidableEq
instance:Inhabited Pt:=⟨⟨0,0,0,[],[]⟩⟩
inductive T where
 | name (s:List UInt8)
 | times (lo hi:Int) (t:T)
 | many (k:Int) (ts:List T)
instance:Inhabited T:=⟨.name []⟩
mutual
def T.size:T→Nat
 | .name _=>1
 | .times _ _ t=>T.size t+1
 | .many _ ts=>T.sizeL ts+1
def T.sizeL:List T→Nat
 | []=>0
 | t::ts=>T.size t+T.sizeL ts
end
def rootsL (b:Nat):List T→List Int
 | []=>[]
 | t::ts=>(((b+t.size:Nat):Int) - 1)::rootsL (b+t.size) ts
mutual
def T.flat (b:Nat):T→List Pt
 | .name s=>[⟨1,0,0,s,[]⟩]
 | .times lo hi t=>T.flat b t++[⟨4,lo,hi,[],[((b+t.size:Nat):Int) - 1]⟩]
 | .many k ts=>T.flatL b ts++[⟨k,0,0,[],rootsL b ts⟩]
def T.flatL (b:Nat):List T→List Pt
 | []=>[]
 | t::ts=>T.flat b t++T.flatL (b+t.size) ts
end
def T.root (b:Nat) (t:T):Int:=((b+t.size:Nat):Int) - 1
theorem T.size_pos (t:T):0 < t.size:=by cases t <;> simp [T.size]
mutual
theorem T.flat_len (b:Nat):∀ t:T,(T.flat b t).length=t.size
 | .name s=>by simp [T.flat,T.size]
 | .times lo hi t=>by simp [T.flat,T.size,T.flat_len b t]
 | .many k ts=>by simp [T.flat,T.size,T.flatL_len b ts]
theorem T.flatL_len (b:Nat):∀ ts:List T,(T.flatL b ts).length=T.sizeL ts
 | []=>by simp [T.flatL,T.sizeL]
 | t::ts=>by simp [T.flatL,T.sizeL,T.flat_len b t,T.flatL_len (b+t.size) ts]
end
theorem T.sizeL_snoc:∀ (ts:List T) (t:T),T.sizeL (ts++[t])=T.sizeL ts+t.size
 | [],t=>by simp [T.sizeL]
 | x::ts,t=>by simp [T.sizeL,T.sizeL_snoc ts t,Nat.add_assoc]
theorem T.flatL_snoc:∀ (ts:List T) (b:Nat) (t:T),T.flatL b (ts++[t])=T.flatL b ts++T.flat (b+T.sizeL ts) t
 | [],b,t=>by simp [T.flatL,T.sizeL]
 | x::ts,b,t=>by simp [T.flatL,T.sizeL,T.flatL_snoc ts,Nat.add_assoc]
theorem a3D:∀ (ts:List T) (b:Nat) (t:T),rootsL b (ts++[t])=rootsL b ts++[T.root (b+T.sizeL ts) t]
 | [],b,t=>by simp [rootsL,T.sizeL,T.root]
 | x::ts,b,t=>by simp [rootsL,T.sizeL,a3D ts,Nat.add_assoc]
theorem a0K:∀ (ts:List T) (b:Nat),(rootsL b ts).length=ts.length
 | [],b=>rfl
 | x::ts,b=>by simp [rootsL,a0K ts]
def kd (l:List Sg) (i:Nat):Int:=if i < l.length then (l.getD i default).kind else 0
theorem a9y {l:List Sg} {i:Nat} (h:i < l.length):kd l i=(l.getD i default).kind:=by unfold kd;rw [if_pos h]
theorem b2t {l:List Sg} {i:Nat} (h:l.length≤i):kd l i=0:=by unfold kd;rw [if_neg (by omega)]
theorem a2m {l:List Sg} {i:Nat} (h:kd l i≠0):i < l.length:=by
 rcases Nat.lt_or_ge i l.length with h1 | h1
 ·exact h1
 ·exact absurd (b2t h1) h
inductive Seg (l:List Sg):Nat→Nat→Nat→T→Prop
 | name (p:Nat):kd l p=1→Seg l 0 p (p+1) (.name (l.getD p default).name)
 | group (p q:Nat) (t:T):kd l p=2→Seg l 3 (p+1) q t→kd l q=3→Seg l 0 p (q+1) t
 | item (p q:Nat) (t:T):Seg l 0 p q t→kd l q≠5→Seg l 1 p q t
 | times (p q:Nat) (t:T):Seg l 0 p q t→kd l q=5→Seg l 1 p (q+1) (.times (l.getD q default).low (l.getD q default).high t)
 | row1 (p q:Nat) (t:T):Seg l 1 p q t→Seg l 2 p q t
 | row (p q:Nat) (ts:List T) (c:Nat→Nat):2≤ts.length→c 0=p→c ts.length=q→(∀ i,i < ts.length→Seg l 1 (c i) (c (i+1)) (ts.getD i default))→Seg l 2 p q (.many 2 ts)
 | choice1 (p q:Nat) (t:T):Seg l 2 p q t→Seg l 3 p q t
 | choice (p q:Nat) (ts:List T) (c e:Nat→Nat):2≤ts.length→c 0=p→e (ts.length - 1)=q→(∀ i,i < ts.length→Seg l 2 (c i) (e i) (ts.getD i default))→(∀ i,i+1 < ts.length→kd l (e i)=4∧c (i+1)=e i+1)→Seg l 3 p q (.many 3 ts)
def c9K (l:List Sg):Nat→Nat→Nat→Bool→Bool→Int×Bool
  | 0,_,d,it,_=>(-1,decide (0 < l.length)&&(it||decide (0 < d)))
  | f + 1, i, d, it, ct =>
    if (it=true∧kd l i≠1∧kd l i≠2)∨(kd l i=3∧d=0)∨(kd l i=5∧ct=true) then ((i:Int),false)
    else c9K l f (i+1) (if kd l i=2 then d+1 else if kd l i=3 then d - 1 else d) (decide (kd l i=2)||decide (kd l i=4)) (!decide (kd l i=1)&&!decide (kd l i=3))
def chk (l:List Sg) (i d:Nat) (it ct:Bool):Int×Bool:=c9K l (l.length - i) i d it ct
theorem a7x {l:List Sg} {i d:Nat} {it ct:Bool} (h:l.length≤i):chk l i d it ct=(-1,decide (0 < l.length)&&(it||decide (0 < d))):=by
 unfold chk;rw [show l.length - i=0 by omega];rfl
theorem a3m {l:List Sg} {i d:Nat} {it ct:Bool} (h:i < l.length):chk l i d it ct =
  if (it=true∧kd l i≠1∧kd l i≠2)∨(kd l i=3∧d=0)∨(kd l i=5∧ct=true) then ((i:Int),false)
  else chk l (i+1) (if kd l i=2 then d+1 else if kd l i=3 then d - 1 else d) (decide (kd l i=2)||decide (kd l i=4)) (!decide (kd l i=1)&&!decide (kd l i=3)):=by
 unfold chk
 rw [show l.length - i=(l.length - (i+1))+1 by omega]
 rfl
theorem a8U {l:List Sg} {i d:Nat} {it ct:Bool} (h:i < l.length) (hb:(it=true∧kd l i≠1∧kd l i≠2)∨(kd l i=3∧d=0)∨(kd l i=5∧ct=true)):chk l i d it ct=((i:Int),false):=by
 rw [a3m h,if_pos hb]
theorem c6m {l:List Sg} {i d:Nat} {it ct:Bool} (h:kd l i=1):chk l i d it ct=chk l (i+1) d false false:=by
 rw [a3m (a2m (by rw [h];decide)),if_neg (by rw [h];simp),h];rfl
theorem b8i {l:List Sg} {i d:Nat} {it ct:Bool} (h:kd l i=2):chk l i d it ct=chk l (i+1) (d+1) true true:=by
 rw [a3m (a2m (by rw [h];decide)),if_neg (by rw [h];simp),h];rfl
theorem c9m {l:List Sg} {i d:Nat} {ct:Bool} (h:kd l i=3):chk l i (d+1) false ct=chk l (i+1) d false false:=by
 rw [a3m (a2m (by rw [h];decide)),if_neg (by rw [h];simp),h];rfl
theorem c7I {l:List Sg} {i d:Nat} {ct:Bool} (h:kd l i=4):chk l i d false ct=chk l (i+1) d true true:=by
 rw [a3m (a2m (by rw [h];decide)),if_neg (by rw [h];simp),h];rfl
theorem c8S {l:List Sg} {i d:Nat} (h:kd l i=5):chk l i d false false=chk l (i+1) d false true:=by
 rw [a3m (a2m (by rw [h];decide)),if_neg (by rw [h];simp),h];rfl
theorem c3x {l:List Sg} {i d:Nat} {it ct it' ct':Bool} (h:kd l i=1∨kd l i=2):chk l i d it ct=chk l i d it' ct':=by
 rcases h with h | h
 ·rw [c6m h,c6m h]
 ·rw [b8i h,b8i h]
theorem a5r {l:List Sg} {v p q:Nat} {t:T} (h:Seg l v p q t):kd l p=1∨kd l p=2:=by
 induction h with
 | name p h=>exact .inl h
 | group p q t h _ _ _=>exact .inr h
 | item p q t _ _ ih=>exact ih
 | times p q t _ _ ih=>exact ih
 | row1 p q t _ ih=>exact ih
 | row p q ts c h2 h0 _ _ ih=>rw [←h0];exact ih 0 (by omega)
 | choice1 p q t _ ih=>exact ih
 | choice p q ts c e h2 h0 _ _ _ ih=>rw [←h0];exact ih 0 (by omega)
theorem a0W {l:List Sg} {v p q:Nat} {t:T} (h:Seg l v p q t):p < q∧q≤l.length:=by
  induction h with
  | name p h=>have:=a2m (l:=l) (i:=p) (by rw [h];decide);omega
  | group p q t h _ h3 ih=>have:=a2m (l:=l) (i:=q) (by rw [h3];decide);omega
  | item p q t _ _ ih=>exact ih
  | times p q t _ h5 ih=>have:=a2m (l:=l) (i:=q) (by rw [h5];decide);omega
  | row1 p q t _ ih=>exact ih
  | row p q ts c h2 h0 he _ ih =>
    have mono:∀ i,i < ts.length→c 0 < c (i+1)∧c (i+1)≤l.length:=by
      intro i
      induction i with
      | zero=>intro hi;exact ih 0 hi
      | succ i ihi=>intro hi;have a:=ihi (by omega);have b:=ih (i+1) hi;omega
    have:=mono (ts.length - 1) (by omega)
    rw [show ts.length - 1+1=ts.length by omega,h0,he] at this
    exact this
  | choice1 p q t _ ih=>exact ih
  | choice p q ts c e h2 h0 he _ hs ih =>
    have mono:∀ i,i < ts.length→c 0 < e i∧e i≤l.length:=by
      intro i
      induction i with
      | zero=>intro hi;exact ih 0 hi
      | succ i ihi=>intro hi;have a:=ihi (by omega);have b:=ih (i+1) hi;have c:=hs i hi;omega
    have:=mono (ts.length - 1) (by omega)
    rw [h0,he] at this
    exact this
theorem c5z {n:Nat} {c:Nat→Nat} (h:∀ i,i < n→c i < c (i+1)):∀ i j,i≤j→j≤n→c i+(j - i)≤c j:=by
  intro i j
  induction j with
  | zero => intro h1 h2; have : i = 0 := by omega
            subst this;simp
  | succ j ih =>
    intro h1 h2
    by_cases e:i=j+1
    · subst e;simp
    · have:=ih (by omega) (by omega);have:=h j (by omega);omega
theorem a1y:∀ (ts:List T) (i:Nat),i < ts.length→T.sizeL (ts.take (i+1))=T.sizeL (ts.take i)+(ts.getD i default).size
  | t::ts,0,_=>by simp [T.sizeL]
  | t :: ts, i + 1, h => by
    have:=a1y ts i (by simpa using h)
    simp only [List.take_succ_cons,T.sizeL,this,List.getD_cons_succ,Nat.add_assoc]
theorem a8Q (ts:List T):T.sizeL (ts.take 0)=0:=by rw [List.take_zero];rfl
theorem a2J {l:List Sg} {v p q:Nat} {t:T} (h:Seg l v p q t):t.size+1+2 * p≤2 * q:=by
  induction h with
  | name p h=>simp only [T.size];omega
  | group p q t h _ h3 ih=>omega
  | item p q t _ _ ih=>exact ih
  | times p q t _ h5 ih=>simp only [T.size];omega
  | row1 p q t _ ih=>exact ih
  | row p q ts c h2 h0 he _ ih =>
    have key:∀ i,i≤ts.length→T.sizeL (ts.take i)+i+2 * c 0≤2 * c i:=by
      intro i
      induction i with
      | zero=>intro _;simp [T.sizeL]
      | succ i ihi=>intro hi;have a:=ihi (by omega);have b:=ih i hi;rw [a1y ts i hi];omega
    have:=key ts.length (Nat.le_refl _)
    rw [List.take_length,h0,he] at this
    simp only [T.size];omega
  | choice1 p q t _ ih=>exact ih
  | choice p q ts c e h2 h0 he _ hs ih =>
    have key:∀ i,i < ts.length→T.sizeL (ts.take (i+1))+1+2 * i+2 * c 0≤2 * e i:=by
      intro i
      induction i with
      | zero=>intro hi;have b:=ih 0 hi;rw [a1y ts 0 hi,a8Q];omega
      | succ i ihi=>intro hi;have a:=ihi (by omega);have b:=ih (i+1) hi;have c:=hs i hi;rw [a1y ts (i+1) hi];omega
    have:=key (ts.length - 1) (by omega)
    rw [show ts.length - 1+1=ts.length by omega,List.take_length,h0,he] at this
    simp only [T.size];omega
theorem a6j {l:List Sg} {v p q:Nat} {t:T} (h:Seg l v p q t):∀ d ct,∃ ct',chk l p d true ct=chk l q d false ct'∧(v=0→ct'=false)∧(v≠0→kd l q=5→ct'=true):=by
  induction h with
  | name p h=>intro d ct;exact ⟨false,c6m h,fun _=>rfl,fun h=>absurd rfl h⟩
  | group p q t h hs h3 ih =>
    intro d ct
    obtain ⟨ct',e,_,_⟩:=ih (d+1) true
    exact ⟨false,by rw [b8i h,e,c9m h3],fun _=>rfl,fun h=>absurd rfl h⟩
  | item p q t _ h5 ih =>
    intro d ct
    obtain ⟨ct',e,_,_⟩:=ih d ct
    exact ⟨ct',e,fun h=>(by omega),fun _ h=>absurd h h5⟩
  | times p q t _ h5 ih =>
    intro d ct
    obtain ⟨ct',e,h0,_⟩:=ih d ct
    exact ⟨true,by rw [e,h0 rfl,c8S h5],fun h=>(by omega),fun _ _=>rfl⟩
  | row1 p q t _ ih =>
    intro d ct
    obtain ⟨ct',e,_,h1⟩:=ih d ct
    exact ⟨ct',e,fun h=>(by omega),fun _=>h1 (by decide)⟩
  | row p q ts c h2 h0 he hs ih =>
    intro d ct
    have key:∀ i,i < ts.length→∃ ct',chk l (c 0) d true ct=chk l (c (i+1)) d false ct'∧(kd l (c (i+1))=5→ct'=true):=by
      intro i
      induction i with
      | zero=>intro hi;obtain ⟨ct',e,_,h1⟩:=ih 0 hi d ct;exact ⟨ct',e,h1 (by decide)⟩
      | succ i ihi =>
        intro hi
        obtain ⟨c1,e1,_⟩:=ihi (by omega)
        obtain ⟨c2,e2,_,h1⟩:=ih (i+1) hi d true
        exact ⟨c2,by rw [e1,←e2];exact c3x (a5r (hs (i+1) hi)),h1 (by decide)⟩
    obtain ⟨ct',e,h1⟩:=key (ts.length - 1) (by omega)
    rw [show ts.length - 1+1=ts.length by omega,h0,he] at e
    rw [show ts.length - 1+1=ts.length by omega,he] at h1
    exact ⟨ct',e,fun h=>(by omega),fun _=>h1⟩
  | choice1 p q t _ ih =>
    intro d ct
    obtain ⟨ct',e,_,h1⟩:=ih d ct
    exact ⟨ct',e,fun h=>(by omega),fun _=>h1 (by decide)⟩
  | choice p q ts c e h2 h0 he _ hs ih =>
    intro d ct
    have key:∀ i,i < ts.length→∃ ct',chk l (c 0) d true ct=chk l (e i) d false ct'∧(kd l (e i)=5→ct'=true):=by
      intro i
      induction i with
      | zero=>intro hi;obtain ⟨ct',e,_,h1⟩:=ih 0 hi d ct;exact ⟨ct',e,h1 (by decide)⟩
      | succ i ihi =>
        intro hi
        obtain ⟨c1,e1,_⟩:=ihi (by omega)
        obtain ⟨c2,e2,_,h1⟩:=ih (i+1) hi d true
        have hh:=hs i hi
        exact ⟨c2,by rw [e1,←e2,c7I hh.1,hh.2],h1 (by decide)⟩
    obtain ⟨ct',e',h1⟩:=key (ts.length - 1) (by omega)
    rw [h0,he] at e'
    rw [he] at h1
    exact ⟨ct',e',fun h=>(by omega),fun _=>h1⟩
def badAt (l:List Sg) (q:Nat):Int×Bool:=if q < l.length then ((q:Int),false) else (-1,true)
structure BadS (l:List Sg) (p q:Nat):Prop where
 le:p≤q
 len:q≤l.length
 bad:∀ d ct,chk l p d true ct=badAt l q
def b7C (l:List Sg):Prop:=∀ x∈l,1≤x.kind∧x.kind≤5
theorem c6W {l:List Sg} (h:b7C l) (i:Nat):(i < l.length∧1≤kd l i∧kd l i≤5)∨(l.length≤i∧kd l i=0):=by
 rcases Nat.lt_or_ge i l.length with h1 | h1
 ·left
  rw [a9y h1,List.getD_eq_getElem?_getD,List.getElem?_eq_getElem h1]
  exact ⟨h1,h _ (List.getElem_mem h1)⟩
 ·exact .inr ⟨h1,b2t h1⟩
theorem b1s {l:List Sg} {q:Nat} (h:q < l.length):badAt l q=((q:Int),false):=if_pos h
theorem a8M {l:List Sg} {q:Nat} (h:l.length≤q):badAt l q=(-1,true):=if_neg (by omega)
theorem b2C {l:List Sg} {p:Nat} (hl:l≠[]) (hp:p≤l.length) (h1:kd l p≠1) (h2:kd l p≠2):BadS l p p :=
 ⟨Nat.le_refl _,hp,fun d ct=>by
  rcases Nat.lt_or_ge p l.length with h | h
  ·rw [b1s h];exact a8U h (.inl ⟨rfl,h1,h2⟩)
  ·rw [a8M h,a7x h,decide_eq_true (List.length_pos_iff.2 hl)];rfl⟩
theorem b7Y {l:List Sg} {p q:Nat} (h:kd l p=2) (hb:BadS l (p+1) q):BadS l p q :=
 ⟨by have:=hb.le;omega,hb.len,fun d ct=>by rw [b8i h];exact hb.bad _ _⟩
theorem c1B {l:List Sg} {p q:Nat} {t:T} (hk:b7C l) (h:kd l p=2) (hs:Seg l 3 (p+1) q t) (h1:kd l q≠1) (h2:kd l q≠2) (h3:kd l q≠3) (h4:kd l q≠4):BadS l p q:=by
 have hlt:=a0W hs
 refine ⟨by omega,hlt.2,fun d ct=>?_⟩
 obtain ⟨ct',e,_,h5⟩:=a6j hs (d+1) true
 rw [b8i h,e]
 rcases c6W hk q with ⟨hq,ha,hb⟩ | ⟨hq,_⟩
 ·rw [b1s hq]
  have k5:kd l q=5:=by omega
  exact a8U hq (.inr (.inr ⟨k5,h5 (by decide) k5⟩))
 ·rw [a8M hq,a7x hq,decide_eq_true (by omega),decide_eq_true (by omega)];rfl
def b1d (l:List Sg) (p q:Nat) (ts:List T):Prop:=1≤ts.length∧∃ c:Nat→Nat,c 0=p∧c ts.length=q∧∀ i,i < ts.length→Seg l 1 (c i) (c (i+1)) (ts.getD i default)
theorem c0d {l:List Sg} {p q:Nat} {t:T} (h:Seg l 1 p q t):b1d l p q [t] :=
 ⟨Nat.le_refl _,fun i=>if i=0 then p else q,rfl,rfl,fun i hi=>by
  have:i=0:=by simpa using hi
  subst this;exact h⟩
theorem a2o {α:Type} (l:List α) (x d:α):(l++[x]).getD l.length d=x:=by
 rw [List.getD_eq_getElem?_getD,List.getElem?_append_right (Nat.le_refl _)];simp
theorem a4z {α:Type} {l k:List α} {i:Nat} {d:α} (h:i < l.length):(l++k).getD i d=l.getD i d:=by
 rw [List.getD_eq_getElem?_getD,List.getElem?_append_left h,←List.getD_eq_getElem?_getD]
theorem b6x {l:List Sg} {p q r:Nat} {ts:List T} {t:T} (h:b1d l p q ts) (h2:Seg l 1 q r t):b1d l p r (ts++[t]):=by
 obtain ⟨h1,c,h0,he,hs⟩:=h
 refine ⟨by simp,fun i=>if i≤ts.length then c i else r,by simp [h0],by simp only [List.length_append,List.length_singleton];rw [if_neg (by omega)],fun i hi=>?_⟩
 rw [List.length_append,List.length_singleton] at hi
 by_cases e:i=ts.length
 ·subst e
  rw [a2o]
  simp only [Nat.le_refl,if_true,if_neg (show ¬ ts.length+1≤ts.length by omega),he]
  exact h2
 ·have hi':i < ts.length:=by omega
  rw [a4z hi']
  simp only [if_pos (show i≤ts.length by omega),if_pos (show i+1≤ts.length by omega)]
  exact hs i hi'
theorem b2n {l:List Sg} {p q:Nat} {ts:List T} (h:b1d l p q ts) (h2:2≤ts.length):Seg l 2 p q (.many 2 ts):=by
 obtain ⟨h1,c,h0,he,hs⟩:=h
 exact .row p q ts c h2 h0 he hs
theorem a9V {l:List Sg} {p q:Nat} {t:T} (h:b1d l p q [t]):Seg l 2 p q t:=by
 obtain ⟨h1,c,h0,he,hs⟩:=h
 have:=hs 0 (by simp)
 rw [h0,show 0+1=[t].length from rfl,he] at this
 exact .row1 p q t this
theorem b1I {l:List Sg} {p q:Nat} {ts:List T} (h:b1d l p q ts):p < q∧q≤l.length∧T.sizeL ts+ts.length+2 * p≤2 * q:=by
  obtain ⟨h1,c,h0,he,hs⟩:=h
  have key:∀ i,i < ts.length→c 0 < c (i+1)∧c (i+1)≤l.length∧T.sizeL (ts.take (i+1))+(i+1)+2 * c 0≤2 * c (i+1):=by
    intro i
    induction i with
    | zero =>
      intro hi
      have a:=a0W (hs 0 hi);have b:=a2J (hs 0 hi)
      rw [a1y ts 0 hi,a8Q];omega
    | succ i ih =>
      intro hi
      have a:=a0W (hs (i+1) hi);have b:=a2J (hs (i+1) hi);have c:=ih (by omega)
      rw [a1y ts (i+1) hi];omega
  have:=key (ts.length - 1) (by omega)
  rw [show ts.length - 1+1=ts.length by omega,List.take_length,h0,he] at this
  exact this
theorem b9r {l:List Sg} {p q:Nat} {ts:List T} (h:b1d l p q ts) (d:Nat) (ct:Bool):∃ ct',chk l p d true ct=chk l q d false ct':=by
  by_cases h2:2≤ts.length
  · obtain ⟨ct',e,_⟩:=a6j (b2n h h2) d ct;exact ⟨ct',e⟩
  · match ts, h, h2 with
    | [t],h,_=>obtain ⟨ct',e,_⟩:=a6j (a9V h) d ct;exact ⟨ct',e⟩
    | [],h,_=>exact absurd h.1 (by simp)
    | _::_::_,_,h2=>exact absurd (by simp) h2
theorem b7G {l:List Sg} {p q r:Nat} {ts:List T} (h:b1d l p q ts) (hk:kd l q=1∨kd l q=2) (hb:BadS l q r):BadS l p r:=by
 have:=b1I h
 refine ⟨by have:=hb.le;omega,hb.len,fun d ct=>?_⟩
 obtain ⟨ct',e⟩:=b9r h d ct
 rw [e,c3x hk];exact hb.bad d ct
def b1Q (l:List Sg) (p q:Nat) (ts:List T):Prop:=1≤ts.length∧∃ c e:Nat→Nat,c 0=p∧e (ts.length - 1)=q∧(∀ i,i < ts.length→Seg l 2 (c i) (e i) (ts.getD i default))∧∀ i,i+1 < ts.length→kd l (e i)=4∧c (i+1)=e i+1
theorem c0Y {l:List Sg} {p q:Nat} {t:T} (h:Seg l 2 p q t):b1Q l p q [t] :=
 ⟨Nat.le_refl _,fun _=>p,fun _=>q,rfl,rfl,fun i hi=>by
  have:i=0:=by simpa using hi
  subst this;exact h,fun i hi=>by simp at hi⟩
theorem c0s {l:List Sg} {p q r:Nat} {ts:List T} {t:T} (h:b1Q l p q ts) (h4:kd l q=4) (h2:Seg l 2 (q+1) r t):b1Q l p r (ts++[t]):=by
 obtain ⟨h1,c,e,h0,he,hs,hg⟩:=h
 refine ⟨by simp,fun i=>if i < ts.length then c i else q+1,fun i=>if i < ts.length then e i else r,by simp only;rw [if_pos (by omega)];exact h0,by simp,fun i hi=>?_,fun i hi=>?_⟩
 ·rw [List.length_append,List.length_singleton] at hi
  by_cases e':i=ts.length
  ·subst e'
   rw [a2o]
   simp only [Nat.lt_irrefl,if_false]
   exact h2
  ·have hi':i < ts.length:=by omega
   rw [a4z hi']
   simp only [if_pos hi']
   exact hs i hi'
 ·rw [List.length_append,List.length_singleton] at hi
  simp only
  rw [if_pos (show i < ts.length by omega)]
  by_cases e':i+1=ts.length
  ·rw [if_neg (by omega),show i=ts.length - 1 by omega,he];exact ⟨h4,rfl⟩
  ·rw [if_pos (by omega)];exact hg i (by omega)
theorem a8X {l:List Sg} {p q:Nat} {ts:List T} (h:b1Q l p q ts) (h2:2≤ts.length):Seg l 3 p q (.many 3 ts):=by
 obtain ⟨h1,c,e,h0,he,hs,hg⟩:=h
 exact .choice p q ts c e h2 h0 he hs hg
theorem a7G {l:List Sg} {p q:Nat} {t:T} (h:b1Q l p q [t]):Seg l 3 p q t:=by
 obtain ⟨h1,c,e,h0,he,hs,hg⟩:=h
 have:=hs 0 (by simp)
 rw [h0,show 0=[t].length - 1 from rfl,he] at this
 exact .choice1 p q t this
theorem b3R {l:List Sg} {p q:Nat} {ts:List T} (h:b1Q l p q ts):p < q∧q≤l.length∧T.sizeL ts+ts.length+2 * p≤2 * q:=by
  obtain ⟨h1,c,e,h0,he,hs,hg⟩:=h
  have key:∀ i,i < ts.length→c 0 < e i∧e i≤l.length∧T.sizeL (ts.take (i+1))+(i+1)+2 * c 0≤2 * e i:=by
    intro i
    induction i with
    | zero =>
      intro hi
      have a:=a0W (hs 0 hi);have b:=a2J (hs 0 hi)
      rw [a1y ts 0 hi,a8Q];omega
    | succ i ih =>
      intro hi
      have a:=a0W (hs (i+1) hi);have b:=a2J (hs (i+1) hi);have c:=ih (by omega);have d:=hg i hi
      rw [a1y ts (i+1) hi];omega
  have:=key (ts.length - 1) (by omega)
  rw [show ts.length - 1+1=ts.length by omega,List.take_length,h0,he] at this
  exact this
theorem c1H {l:List Sg} {p q:Nat} {ts:List T} (h:b1Q l p q ts) (d:Nat) (ct:Bool):∃ ct',chk l p d true ct=chk l q d false ct':=by
  by_cases h2:2≤ts.length
  · obtain ⟨ct',e,_⟩:=a6j (a8X h h2) d ct;exact ⟨ct',e⟩
  · match ts, h, h2 with
    | [t],h,_=>obtain ⟨ct',e,_⟩:=a6j (a7G h) d ct;exact ⟨ct',e⟩
    | [],h,_=>exact absurd h.1 (by simp)
    | _::_::_,_,h2=>exact absurd (by simp) h2
theorem c0S {l:List Sg} {p q r:Nat} {ts:List T} (h:b1Q l p q ts) (h4:kd l q=4) (hb:BadS l (q+1) r):BadS l p r:=by
 have:=b3R h
 refine ⟨by have:=hb.le;omega,hb.len,fun d ct=>?_⟩
 obtain ⟨ct',e⟩:=c1H h d ct
 rw [e,c7I h4];exact hb.bad d true
theorem c1l {l:List Sg} {q:Nat} {t:T} (hk:b7C l) (hs:Seg l 3 0 q t) (hq:q < l.length) (h1:kd l q≠1) (h2:kd l q≠2) (h4:kd l q≠4):chk l 0 0 true true=((q:Int),false):=by
 obtain ⟨ct',e,_,h5⟩:=a6j hs 0 true
 rw [e]
 have:=c6W hk q
 rcases Int.lt_or_le (kd l q) 4 with h | h
 ·exact a8U hq (.inr (.inl ⟨by omega,rfl⟩))
 ·have k5:kd l q=5:=by omega
  exact a8U hq (.inr (.inr ⟨k5,h5 (by decide) k5⟩))
theorem b1K {l:List Sg} {t:T} (hs:Seg l 3 0 l.length t):chk l 0 0 true true=(-1,false):=by
 obtain ⟨ct',e,_,h5⟩:=a6j hs 0 true
 rw [e,a7x (Nat.le_refl _)]
 simp
@[reducible] def a9I (l:List Sg) (v q:Nat):Prop:=(2≤v→kd l q≠1∧kd l q≠2)∧(3≤v→kd l q≠4)
theorem c4w {l:List Sg} {v p q:Nat} {t:T} (h:Seg l v p q t):∀ {q':Nat} {t':T},Seg l v p q' t'→a9I l v q→a9I l v q'→q=q'∧t=t':=by
  induction h with
  | name p h =>
    intro q' t' h' _ _
    cases h' with
    | name _ _=>exact ⟨rfl,rfl⟩
    | group _ _ _ h2 _ _=>rw [h] at h2;exact absurd h2 (by decide)
  | group p q t h hs h3 ih =>
    intro q' t' h' _ _
    cases h' with
    | name _ h2=>rw [h] at h2;exact absurd h2 (by decide)
    | group _ q2 _ h2 hs2 h32 =>
      have:=ih hs2 ⟨fun _=>by rw [h3];decide,fun _=>by rw [h3];decide⟩ ⟨fun _=>by rw [h32];decide,fun _=>by rw [h32];decide⟩
      exact ⟨by rw [this.1],this.2⟩
  | item p q t hs h5 ih =>
    intro q' t' h' _ _
    have e:a9I l 0=fun _=>a9I l 0 0:=by funext q;simp [a9I]
    cases h' with
    | item _ _ _ hs2 h52=>exact ih hs2 ⟨fun h=>absurd h (by decide),fun h=>absurd h (by decide)⟩ ⟨fun h=>absurd h (by decide),fun h=>absurd h (by decide)⟩
    | times _ q2 t2 hs2 h52 =>
      have:=ih hs2 ⟨fun h=>absurd h (by decide),fun h=>absurd h (by decide)⟩ ⟨fun h=>absurd h (by decide),fun h=>absurd h (by decide)⟩
      rw [this.1] at h5;exact absurd h52 h5
  | times p q t hs h5 ih =>
    intro q' t' h' _ _
    cases h' with
    | item _ _ _ hs2 h52 =>
      have:=ih hs2 ⟨fun h=>absurd h (by decide),fun h=>absurd h (by decide)⟩ ⟨fun h=>absurd h (by decide),fun h=>absurd h (by decide)⟩
      rw [this.1] at h5;exact absurd h5 h52
    | times _ q2 t2 hs2 h52 =>
      have:=ih hs2 ⟨fun h=>absurd h (by decide),fun h=>absurd h (by decide)⟩ ⟨fun h=>absurd h (by decide),fun h=>absurd h (by decide)⟩
      rw [this.1,this.2];exact ⟨rfl,rfl⟩
  | row1 p q t hs ih =>
    intro q' t' h' he he'
    cases h' with
    | row1 _ _ _ hs2=>exact ih hs2 ⟨fun h=>absurd h (by decide),fun h=>absurd h (by decide)⟩ ⟨fun h=>absurd h (by decide),fun h=>absurd h (by decide)⟩
    | row _ _ ts c h2 h0 hq hs2 =>
      have a:=hs2 0 (by omega)
      rw [h0] at a
      have b:=ih a ⟨fun h=>absurd h (by decide),fun h=>absurd h (by decide)⟩ ⟨fun h=>absurd h (by decide),fun h=>absurd h (by decide)⟩
      have d:=a5r (hs2 1 (by omega))
      rw [←b.1] at d
      have:=he.1 (by decide)
      exact absurd d (by omega)
  | row p q ts c h2 h0 hq hs ih =>
    intro q' t' h' he he'
    cases h' with
    | row1 _ _ _ hs2 =>
      have b:=ih 0 (by omega) (h0.symm▸hs2) ⟨fun h=>absurd h (by decide),fun h=>absurd h (by decide)⟩ ⟨fun h=>absurd h (by decide),fun h=>absurd h (by decide)⟩
      have d:=a5r (hs 1 (by omega))
      rw [b.1] at d
      have:=he'.1 (by decide)
      exact absurd d (by omega)
    | row _ _ ts2 c2 h22 h02 hq2 hs2 =>
      have key:∀ i,i≤ts.length→i≤ts2.length→c i=c2 i∧∀ j,j < i→ts.getD j default=ts2.getD j default:=by
        intro i
        induction i with
        | zero=>intro _ _;exact ⟨by rw [h0,h02],fun j hj=>absurd hj (Nat.not_lt_zero _)⟩
        | succ i ihi =>
          intro h1 h3
          have a:=ihi (by omega) (by omega)
          have b:=ih i h1 (a.1▸hs2 i h3) ⟨fun h=>absurd h (by decide),fun h=>absurd h (by decide)⟩ ⟨fun h=>absurd h (by decide),fun h=>absurd h (by decide)⟩
          refine ⟨b.1,fun j hj=>?_⟩
          by_cases e:j=i
          · subst e;exact b.2
          · exact a.2 j (by omega)
      have hlen:ts.length=ts2.length:=by
        rcases Nat.lt_trichotomy ts.length ts2.length with h | h | h
        · have a:=(key ts.length (Nat.le_refl _) (by omega)).1
          have d:=a5r (hs2 ts.length h)
          rw [←a,hq] at d
          have:=he.1 (by decide);exact absurd d (by omega)
        · exact h
        · have a:=(key ts2.length (by omega) (Nat.le_refl _)).1
          have d:=a5r (hs ts2.length h)
          rw [a,hq2] at d
          have:=he'.1 (by decide);exact absurd d (by omega)
      have k:=key ts.length (Nat.le_refl _) (by omega)
      refine ⟨by rw [←hq,k.1,hlen,hq2],?_⟩
      congr 1
      apply List.ext_getElem hlen
      intro i h1 h3
      have:=k.2 i h1
      rwa [List.getD_eq_getElem?_getD,List.getD_eq_getElem?_getD,List.getElem?_eq_getElem h1,List.getElem?_eq_getElem h3] at this
  | choice1 p q t hs ih =>
    intro q' t' h' he he'
    cases h' with
    | choice1 _ _ _ hs2=>exact ih hs2 ⟨fun _=>he.1 (by decide),fun h=>absurd h (by decide)⟩ ⟨fun _=>he'.1 (by decide),fun h=>absurd h (by decide)⟩
    | choice _ _ ts c e h2 h0 hq hs2 hg =>
      have a:=hs2 0 (by omega)
      rw [h0] at a
      have g:=(hg 0 (by omega)).1
      have b:=ih a ⟨fun _=>he.1 (by decide),fun h=>absurd h (by decide)⟩ ⟨fun _=>by rw [g];decide,fun h=>absurd h (by decide)⟩
      rw [←b.1] at g
      exact absurd g (he.2 (by decide))
  | choice p q ts c e h2 h0 hq hs hg ih =>
    intro q' t' h' he he'
    have e4:∀ i,i+1 < ts.length→a9I l 2 (e i):=fun i hi=>⟨fun _=>by rw [(hg i hi).1];decide,fun h=>absurd h (by decide)⟩
    cases h' with
    | choice1 _ _ _ hs2 =>
      have b:=ih 0 (by omega) (h0.symm▸hs2) (e4 0 (by omega)) ⟨fun _=>he'.1 (by decide),fun h=>absurd h (by decide)⟩
      have g:=(hg 0 (by omega)).1
      rw [b.1] at g
      exact absurd g (he'.2 (by decide))
    | choice _ _ ts2 c2 e2 h22 h02 hq2 hs2 hg2 =>
      have e42:∀ i,i+1 < ts2.length→a9I l 2 (e2 i):=fun i hi=>⟨fun _=>by rw [(hg2 i hi).1];decide,fun h=>absurd h (by decide)⟩
      have en:∀ i,i < ts.length→a9I l 2 (e i):=fun i hi=>by
        by_cases h:i+1 < ts.length
        · exact e4 i h
        · rw [show i=ts.length - 1 by omega,hq];exact ⟨fun _=>he.1 (by decide),fun h=>absurd h (by decide)⟩
      have en2:∀ i,i < ts2.length→a9I l 2 (e2 i):=fun i hi=>by
        by_cases h:i+1 < ts2.length
        · exact e42 i h
        · rw [show i=ts2.length - 1 by omega,hq2];exact ⟨fun _=>he'.1 (by decide),fun h=>absurd h (by decide)⟩
      have key:∀ i,i < ts.length→i < ts2.length→c i=c2 i∧e i=e2 i∧∀ j,j < i+1→ts.getD j default=ts2.getD j default:=by
        intro i
        induction i with
        | zero =>
          intro h1 h3
          have b:=ih 0 h1 ((h0.trans h02.symm)▸hs2 0 h3) (en 0 h1) (en2 0 h3)
          exact ⟨by rw [h0, h02], b.1, fun j hj => by obtain rfl : j = 0 := by omega
                                                      exact b.2⟩
        | succ i ihi =>
          intro h1 h3
          have a:=ihi (by omega) (by omega)
          have hc:c (i+1)=c2 (i+1):=by rw [(hg i h1).2,(hg2 i h3).2,a.2.1]
          have b:=ih (i+1) h1 (hc▸hs2 (i+1) h3) (en _ h1) (en2 _ h3)
          refine ⟨hc,b.1,fun j hj=>?_⟩
          by_cases e:j=i+1
          · subst e;exact b.2
          · exact a.2.2 j (by omega)
      have hlen:ts.length=ts2.length:=by
        rcases Nat.lt_trichotomy ts.length ts2.length with h | h | h
        · have a:=(key (ts.length - 1) (by omega) (by omega)).2.1
          have d:=(hg2 (ts.length - 1) (by omega)).1
          rw [←a,hq] at d
          exact absurd d (he.2 (by decide))
        · exact h
        · have a:=(key (ts2.length - 1) (by omega) (by omega)).2.1
          have d:=(hg (ts2.length - 1) (by omega)).1
          rw [a,hq2] at d
          exact absurd d (he'.2 (by decide))
      have k:=key (ts.length - 1) (by omega) (by omega)
      refine ⟨by rw [←hq,k.2.1,hlen,hq2],?_⟩
      congr 1
      apply List.ext_getElem hlen
      intro i h1 h3
      have:=k.2.2 i (by omega)
      rwa [List.getD_eq_getElem?_getD,List.getD_eq_getElem?_getD,List.getElem?_eq_getElem h1,List.getElem?_eq_getElem h3] at this
def c6K (l:List Sg):Nat→Nat→Int→Nat
  | 0,i,_=>i
  | f + 1, i, d =>
    let d':=if kd l i=2 then d+1 else if kd l i=3 then d - 1 else d
    if d'=0 then i else c6K l f (i+1) d'
def a1G (l:List Sg) (i:Nat) (d:Int):Nat:=c6K l (l.length - i) i d
theorem b5O {l:List Sg} {i:Nat} {d:Int} (h:l.length≤i):a1G l i d=i:=by unfold a1G;rw [show l.length - i=0 by omega];rfl
theorem a1s {l:List Sg} {i:Nat} {d d':Int} (h:i < l.length) (hd:d'=if kd l i=2 then d+1 else if kd l i=3 then d - 1 else d):a1G l i d=if d'=0 then i else a1G l (i+1) d':=by
 subst hd
 unfold a1G
 rw [show l.length - i=(l.length - (i+1))+1 by omega]
 rfl
theorem b0X {l:List Sg}:∀ {n i:Nat} {d:Int},l.length - i=n→i≤l.length→i≤a1G l i d∧a1G l i d≤l.length
  | 0,i,d,hn,hi=>by rw [b5O (by omega)];omega
  | n + 1, i, d, hn, hi => by
    have e:=a1s (l:=l) (i:=i) (d:=d) (by omega) rfl
    generalize (if kd l i=2 then d+1 else if kd l i=3 then d - 1 else d)=d' at e
    rw [e]
    by_cases h:d'=0
    · rw [if_pos h];omega
    · rw [if_neg h]
      have:=b0X (l:=l) (n:=n) (i:=i+1) (d:=d') (by omega) (by omega);omega
theorem c1V {l:List Sg} {v p q:Nat} {t:T} (h:Seg l v p q t):∀ d:Int,1≤d→a1G l p d=a1G l q d:=by
  induction h with
  | name p h=>intro d hd;rw [a1s (a2m (by rw [h];decide)) rfl,h];simp;intro h;omega
  | group p q t h hs h3 ih =>
    intro d hd
    rw [a1s (a2m (by rw [h];decide)) rfl,h]
    simp only [if_true]
    rw [if_neg (by omega),ih (d+1) (by omega),a1s (a2m (by rw [h3];decide)) rfl,h3]
    simp;intro h;omega
  | item p q t _ _ ih=>exact ih
  | times p q t _ h5 ih =>
    intro d hd
    rw [ih d hd,a1s (a2m (by rw [h5];decide)) rfl,h5]
    simp;intro h;omega
  | row1 p q t _ ih=>exact ih
  | row p q ts c h2 h0 hq hs ih =>
    intro d hd
    have key:∀ i,i≤ts.length→a1G l (c 0) d=a1G l (c i) d:=by
      intro i
      induction i with
      | zero=>intro _;rfl
      | succ i ihi=>intro hi;rw [ihi (by omega)];exact ih i hi d hd
    rw [←h0,key ts.length (Nat.le_refl _),hq]
  | choice1 p q t _ ih=>exact ih
  | choice p q ts c e h2 h0 hq hs hg ih =>
    intro d hd
    have key:∀ i,i < ts.length→a1G l (c 0) d=a1G l (e i) d:=by
      intro i
      induction i with
      | zero=>intro hi;exact ih 0 hi d hd
      | succ i ihi =>
        intro hi
        have g:=hg i hi
        rw [ihi (by omega),a1s (a2m (by rw [g.1];decide)) rfl,g.1]
        simp only [show ¬ (4:Int)=2 by decide,show ¬ (4:Int)=3 by decide,if_false]
        rw [if_neg (by omega),←g.2]
        exact ih (i+1) hi d hd
    rw [←h0,key (ts.length - 1) (by omega),hq]
theorem b7w {l:List Sg} {p q:Nat} {t:T} (h:kd l p=2) (hs:Seg l 3 (p+1) q t) (h3:kd l q=3):a1G l p 0=q:=by
 rw [a1s (a2m (by rw [h];decide)) rfl,h]
 simp only [if_true]
 rw [if_neg (by omega),c1V hs (0+1) (by omega),a1s (a2m (by rw [h3];decide)) rfl,h3]
 simp
def c3J (l:List Sg) (from_ to_:Nat) (way:Int):Nat→Nat→List Int→List Int
  | 0,_,acc=>acc
  | f + 1, i, acc =>
    if to_≤i then acc
    else
      let a1:=if way=2∧from_ < i∧(kd l i=1∨kd l i=2) then acc++[(i:Int)] else acc
      let a2:=if way=3∧kd l i=4 then a1++[((i+1:Nat):Int)] else a1
      c3J l from_ to_ way f ((if kd l i=2 then a1G l i 0 else i)+1) a2
def a2W (l:List Sg) (from_ to_:Nat) (way:Int) (i:Nat) (acc:List Int):List Int:=c3J l from_ to_ way (to_ - i) i acc
theorem b6c {l:List Sg} {from_ to_:Nat} {way:Int} (hl:to_≤l.length):∀ {f f' i:Nat} {acc:List Int},to_ - i≤f→to_ - i≤f'→c3J l from_ to_ way f i acc=c3J l from_ to_ way f' i acc
  | 0,0,_,_,_,_=>rfl
  | 0,f'+1,i,acc,h,h'=>by simp only [c3J];rw [if_pos (by omega)]
  | f+1,0,i,acc,h,h'=>by simp only [c3J];rw [if_pos (by omega)]
  | f + 1, f' + 1, i, acc, h, h' => by
    simp only [c3J]
    by_cases h1:to_≤i
    · rw [if_pos h1,if_pos h1]
    · rw [if_neg h1,if_neg h1]
      have:i≤(if kd l i=2 then a1G l i 0 else i):=by
        split
        · exact (b0X rfl (by omega)).1
        · omega
      exact b6c hl (by omega) (by omega)
theorem a8x {l:List Sg} {from_ to_ i:Nat} {way:Int} {acc:List Int} (h:to_≤i):a2W l from_ to_ way i acc=acc:=by
 unfold a2W;rw [show to_ - i=0 by omega];rfl
theorem a3n {l:List Sg} {from_ to_ i:Nat} {way:Int} {acc a1 a2:List Int} {j:Nat} (hl:to_≤l.length) (h:i < to_) (h1:a1=if way=2∧from_ < i∧(kd l i=1∨kd l i=2) then acc++[(i:Int)] else acc)
  (h2:a2=if way=3∧kd l i=4 then a1++[((i+1:Nat):Int)] else a1) (hj:j=if kd l i=2 then a1G l i 0 else i):a2W l from_ to_ way i acc=a2W l from_ to_ way (j+1) a2:=by
 subst h1;subst h2;subst hj
 have:i≤(if kd l i=2 then a1G l i 0 else i):=by
  split
  ·exact (b0X rfl (by omega)).1
  ·omega
 unfold a2W
 rw [show to_ - i=(to_ - i - 1)+1 by omega]
 simp only [c3J]
 rw [if_neg (by omega)]
 exact b6c hl (by omega) (by omega)
@[reducible] def b5T (from_:Nat) (way:Int) (p:Nat):List Int:=if way=2∧from_ < p then [(p:Int)] else []
theorem a6m {l:List Sg} {from_ to_:Nat} {way:Int} (hl:to_≤l.length) {v p q:Nat} {t:T} (h:Seg l v p q t):v≤1→q≤to_→∀ acc,a2W l from_ to_ way p acc=a2W l from_ to_ way q (acc++b5T from_ way p):=by
  induction h with
  | name p h =>
    intro _ hq acc
    rw [a3n (a1:=acc++b5T from_ way p) (a2:=acc++b5T from_ way p) (j:=p) hl (by omega) (by rw [h];unfold b5T;by_cases hw:way=2∧from_ < p <;> simp [hw]) (by rw [h];simp) (by rw [h];simp)]
  | group p q t h hs h3 _ =>
    intro _ hq acc
    have:=a0W hs
    rw [a3n (a1:=acc++b5T from_ way p) (a2:=acc++b5T from_ way p) (j:=q) hl (by omega) (by rw [h];unfold b5T;by_cases hw:way=2∧from_ < p <;> simp [hw]) (by rw [h];simp) (by rw [h,b7w h hs h3];simp)]
  | item p q t _ _ ih=>exact fun _=>ih (by decide)
  | times p q t hs h5 ih =>
    intro _ hq acc
    rw [ih (by decide) (by omega) acc]
    rw [a3n (i:=q) (a1:=acc++b5T from_ way p) (a2:=acc++b5T from_ way p) (j:=q) hl (by omega) (by rw [h5];simp) (by rw [h5];simp) (by rw [h5];simp)]
  | row1 _ _ _ _ _=>intro h;exact absurd h (by decide)
  | row _ _ _ _ _ _ _ _ _=>intro h;exact absurd h (by decide)
  | choice1 _ _ _ _ _=>intro h;exact absurd h (by decide)
  | choice _ _ _ _ _ _ _ _ _ _ _=>intro h;exact absurd h (by decide)
def a1j (c:Nat→Nat) (n:Nat):List Int:=(List.range n).map fun i=>((c (i+1):Nat):Int)
theorem a6d (c:Nat→Nat) (n:Nat):a1j c (n+1)=a1j c n++[((c (n+1):Nat):Int)]:=by simp [a1j,List.range_succ]
theorem b4P {l:List Sg} {from_ to_:Nat} {way:Int} (hl:to_≤l.length) {p q:Nat} {t:T} (h:Seg l 2 p q t) (hq:q≤to_) (hw:way≠2):∀ acc,a2W l from_ to_ way p acc=a2W l from_ to_ way q acc:=by
  have ad:∀ p,b5T from_ way p=[]:=fun p=>by unfold b5T;rw [if_neg (by omega)]
  cases h with
  | row1 _ _ _ h=>intro acc;have:=a6m (from_:=from_) (way:=way) hl h (by decide) hq acc;rwa [ad,List.append_nil] at this
  | row _ _ ts c h2 h0 he hs =>
    intro acc
    have up:=c5z (n:=ts.length) (c:=c) (fun i hi=>(a0W (hs i hi)).1)
    have key:∀ i,i≤ts.length→a2W l from_ to_ way (c 0) acc=a2W l from_ to_ way (c i) acc:=by
      intro i
      induction i with
      | zero=>intro _;rfl
      | succ i ihi =>
        intro hi
        have u:=up (i+1) ts.length hi (Nat.le_refl _)
        have:=a6m (from_:=from_) (way:=way) hl (hs i hi) (by decide) (by omega) acc
        rw [ad,List.append_nil] at this
        rw [ihi (by omega),this]
    rw [←h0,key ts.length (Nat.le_refl _),he]
theorem b2c {l:List Sg} {p q:Nat} {t:T} (h:Seg l 2 p q t):a2W l p q 3 p [(p:Int)]++[(q:Int)]=[(p:Int),(q:Int)]:=by
 rw [b4P (a0W h).2 h (Nat.le_refl _) (by decide),a8x (Nat.le_refl _)];rfl
theorem a1F {l:List Sg} {v p q:Nat} {way:Int} {t:T} (h:Seg l v p q t) (hv:v≤1):a2W l p q way p [(p:Int)]++[(q:Int)]=[(p:Int),(q:Int)]:=by
 rw [a6m (a0W h).2 h hv (Nat.le_refl _),a8x (Nat.le_refl _)]
 unfold b5T;rw [if_neg (by omega)];rfl
theorem b0m {l:List Sg} {p q:Nat} {ts:List T} {c:Nat→Nat} (h0:c 0=p) (he:c ts.length=q) (h1:1≤ts.length) (hs:∀ i,i < ts.length→Seg l 1 (c i) (c (i+1)) (ts.getD i default)) :
    a2W l p q 2 p [(p:Int)]++[(q:Int)]=[(p:Int)]++a1j c ts.length:=by
  have up:=c5z (n:=ts.length) (c:=c) (fun i hi=>(a0W (hs i hi)).1)
  have hql:q≤l.length:=by rw [←he];have:=(a0W (hs (ts.length - 1) (by omega))).2;rwa [show ts.length - 1+1=ts.length by omega] at this
  have key:∀ i,i < ts.length→a2W l p q 2 (c 0) [(p:Int)]=a2W l p q 2 (c (i+1)) ([(p:Int)]++a1j c i):=by
    intro i
    induction i with
    | zero =>
      intro hi
      have u:=up (0+1) ts.length (by omega) (Nat.le_refl _)
      rw [he] at u
      rw [a6m hql (hs 0 hi) (by decide) (by omega)]
      unfold b5T;rw [if_neg (by omega)];rfl
    | succ i ihi =>
      intro hi
      have u:=up (i+1+1) ts.length (by omega) (Nat.le_refl _)
      have u2:=up 0 (i+1) (by omega) (by omega)
      rw [he] at u
      rw [ihi (by omega),a6m hql (hs (i+1) hi) (by decide) (by omega),a6d]
      unfold b5T;rw [if_pos ⟨rfl,by omega⟩,List.append_assoc]
  have k:=key (ts.length - 1) (by omega)
  rw [show ts.length - 1+1=ts.length by omega,h0,he] at k
  rw [k,a8x (Nat.le_refl _),List.append_assoc]
  congr 1
  have:=a6d c (ts.length - 1)
  rw [show ts.length - 1+1=ts.length by omega,he] at this
  exact this.symm
theorem b2i {l:List Sg} {p q:Nat} {ts:List T} {c e:Nat→Nat} (h1:1≤ts.length) (h0:c 0=p) (he:e (ts.length - 1)=q) (hs:∀ i,i < ts.length→Seg l 2 (c i) (e i) (ts.getD i default)) (hg:∀ i,i+1 < ts.length→kd l (e i)=4∧c (i+1)=e i+1) :
    a2W l p q 3 p [(p:Int)]++[(q:Int)]=[(p:Int)]++a1j c (ts.length - 1)++[(q:Int)]:=by
  have mono:∀ j,j < ts.length→∀ i,i≤j→e i≤e j:=by
    intro j
    induction j with
    | zero=>intro _ i hi;rw [show i=0 by omega];exact Nat.le_refl _
    | succ j ihj =>
      intro hj i hi
      by_cases h:i=j+1
      · subst h;exact Nat.le_refl _
      · have a:=ihj (by omega) i (by omega)
        have b:=(a0W (hs (j+1) hj)).1
        have d:=hg j hj
        omega
  have hql:q≤l.length:=by rw [←he];exact (a0W (hs (ts.length - 1) (by omega))).2
  have key:∀ i,i < ts.length→a2W l p q 3 (c 0) [(p:Int)]=a2W l p q 3 (e i) ([(p:Int)]++a1j c i):=by
    intro i
    induction i with
    | zero =>
      intro hi
      rw [b4P hql (hs 0 hi) (by rw [←he];exact mono _ (by omega) 0 (by omega)) (by decide)]
      simp [a1j]
    | succ i ihi =>
      intro hi
      have g:=hg i hi
      have m1:=mono (ts.length - 1) (by omega) (i+1) (by omega)
      have m2:=(a0W (hs (i+1) hi)).1
      rw [ihi (by omega),a3n (i:=e i) (a1:=[(p:Int)]++a1j c i) (a2:=[(p:Int)]++a1j c (i+1)) (j:=e i) hql (by omega) (by rw [g.1];simp) (by rw [g.1,a6d,g.2];simp) (by rw [g.1];simp),←g.2]
      exact b4P hql (hs (i+1) hi) (by omega) (by decide) _
  have k:=key (ts.length - 1) (by omega)
  rw [h0,he] at k
  rw [k,a8x (Nat.le_refl _)]
def nameV (s:List UInt8):Bool:=match lexV s with | .ok [x]=>decide (x.kind=1)&&decide (x.name=s) | _=>false
def a1V (x:Pt):Bool :=
 if x.kind=1 then decide (x.kids.length=0)&&decide (x.low=0)&&decide (x.high=0)&&nameV x.name
 else if x.kind=2∨x.kind=3 then decide (1 < x.kids.length)&&decide (x.low=0)&&decide (x.high=0)&&decide (x.name=[])
 else if x.kind=4 then decide (x.kids.length=1)&&decide (0≤x.low)&&decide (x.low≤20)&&(decide (x.high=-1)||decide ((if 1 > x.low then 1 else x.low)≤x.high)&&decide (x.high≤20))&&decide (x.name=[])
 else false
def a2O (n:Nat):Nat→List Pt→List Int→Bool
 | _,[],op=>decide (op.length=1)||decide (n=0)
 | i,x::r,op=>(a1V x&&(decide (x.kids.length≤op.length)&&decide (op.drop (op.length - x.kids.length)=x.kids)))&&a2O n (i+1) r (op.take (op.length - x.kids.length)++[(i:Int)])
def rightV (e:List Pt):Bool:=a2O e.length 0 e []
mutual
def T.ok:T→Bool
 | .name s=>nameV s
 | .times lo hi t=>decide (0≤lo)&&decide (lo≤20)&&(decide (hi=-1)||decide ((if 1 > lo then 1 else lo)≤hi)&&decide (hi≤20))&&T.ok t
 | .many k ts=>(decide (k=2)||decide (k=3))&&decide (2≤ts.length)&&T.okL ts
def T.okL:List T→Bool
 | []=>true
 | t::ts=>T.ok t&&T.okL ts
end
theorem a7I {α:Type} (a b:List α):(a++b).drop ((a++b).length - b.length)=b:=by
 rw [List.length_append,Nat.add_sub_cancel];simp
theorem a7D {α:Type} (a b:List α):(a++b).take ((a++b).length - b.length)=a:=by
 rw [List.length_append,Nat.add_sub_cancel];simp
mutual
theorem a7m (n:Nat):∀ (t:T) (b:Nat) (r:List Pt) (op:List Int),t.ok=true→a2O n b (T.flat b t++r) op=a2O n (b+t.size) r (op++[T.root b t])
  | .name s, b, r, op, h => by
    simp only [T.ok] at h
    simp only [T.flat,List.singleton_append,a2O,a1V,if_true,h,T.size,T.root]
    simp
  | .times lo hi t, b, r, op, h => by
    simp only [T.ok,Bool.and_eq_true] at h
    have e:=a7m n t b ([⟨4,lo,hi,[],[((b+t.size:Nat):Int) - 1]⟩]++r) op h.2
    simp only [T.flat,List.append_assoc]
    rw [e]
    simp only [List.singleton_append,a2O]
    have ha:a1V ⟨4,lo,hi,[],[((b+t.size:Nat):Int) - 1]⟩=true:=by
      unfold a1V
      rw [if_neg (show ¬ (4:Int)=1 by decide),if_neg (show ¬ ((4:Int)=2∨(4:Int)=3) by decide),if_pos rfl]
      simp only [Bool.and_eq_true]
      exact ⟨⟨⟨⟨rfl,h.1.1.1⟩,h.1.1.2⟩,h.1.2⟩,rfl⟩
    have e1:=a7I op [T.root b t]
    have e2:=a7D op [T.root b t]
    rw [show ([((b+t.size:Nat):Int) - 1]:List Int)=[T.root b t] from rfl] at ha ⊢
    rw [ha,e1,e2]
    rw [decide_eq_true (by simp),decide_eq_true rfl]
    simp only [Bool.true_and,T.size,T.root]
    have e3:((b+(t.size+1):Nat):Int) - 1=((b+t.size:Nat):Int):=by omega
    have e4:b+t.size+1=b+(t.size+1):=by omega
    rw [e3,e4]
  | .many k ts, b, r, op, h => by
    simp only [T.ok,Bool.and_eq_true,Bool.or_eq_true,decide_eq_true_eq] at h
    have e:=a8k n ts b ([⟨k,0,0,[],rootsL b ts⟩]++r) op h.2
    simp only [T.flat,List.append_assoc]
    rw [e]
    simp only [List.singleton_append,a2O]
    have hl:=a0K ts b
    have ha:a1V ⟨k,0,0,[],rootsL b ts⟩=true:=by
      unfold a1V
      rw [if_neg (by show ¬ k=1;omega),if_pos (by show k=2∨k=3;exact h.1.1)]
      simp only [hl]
      rw [decide_eq_true (show 1 < ts.length by omega)];rfl
    have e1:=a7I op (rootsL b ts)
    have e2:=a7D op (rootsL b ts)
    rw [ha,e1,e2]
    rw [decide_eq_true (by simp),decide_eq_true rfl]
    simp only [Bool.true_and,T.size,T.root]
    have e3:((b+(T.sizeL ts+1):Nat):Int) - 1=((b+T.sizeL ts:Nat):Int):=by omega
    have e4:b+T.sizeL ts+1=b+(T.sizeL ts+1):=by omega
    rw [e3,e4]
theorem a8k (n:Nat):∀ (ts:List T) (b:Nat) (r:List Pt) (op:List Int),T.okL ts=true→a2O n b (T.flatL b ts++r) op=a2O n (b+T.sizeL ts) r (op++rootsL b ts)
  | [],b,r,op,h=>by simp [T.flatL,T.sizeL,rootsL]
  | t :: ts, b, r, op, h => by
    simp only [T.okL,Bool.and_eq_true] at h
    simp only [T.flatL,List.append_assoc]
    rw [a7m n t b _ op h.1,a8k n ts _ r _ h.2]
    simp [T.sizeL,rootsL,T.root,Nat.add_assoc]
end
theorem a4y {t:T} (h:t.ok=true):rightV (T.flat 0 t)=true:=by
 have:=a7m (T.flat 0 t).length t 0 [] [] h
 rw [List.append_nil] at this
 unfold rightV
 rw [this]
 simp [a2O]
theorem c2u {p:Int} {n:List UInt8} (h:SgW ⟨1,p,0,0,n⟩):nameV n=true:=by
  have:=b5Z (l:=[⟨1,0,0,0,n⟩]) (f:=true) (p:=[]) (out:=[]) (by
    intro x hx
    simp only [List.mem_singleton] at hx
    subst hx
    cases h with
    | name h1 h2 h3=>exact .name h1 h2 h3) (by simp)
  obtain ⟨l',e,hs⟩:=this
  have e:lexV n=.ok l':=by
    simpa [a9G,c8D,a3M,←b3B] using e
  unfold nameV
  rw [e]
  match l',hs with
  | [y], hs =>
    have:=hs.1
    simp only at this ⊢
    rw [this];simp
theorem c3a {l:List Sg} (h:∀ x∈l,SgW x) {i:Nat} (hi:i < l.length):SgW (l.getD i default):=by
 rw [List.getD_eq_getElem?_getD,List.getElem?_eq_getElem hi];exact h _ (List.getElem_mem hi)
theorem c3k {ts:List T} (h:∀ i,i < ts.length→(ts.getD i default).ok=true):T.okL ts=true:=by
  induction ts with
  | nil=>rfl
  | cons t ts ih =>
    simp only [T.okL,Bool.and_eq_true]
    exact ⟨h 0 (by simp),ih fun i hi=>by have:=h (i+1) (by simpa using hi);simpa using this⟩
theorem kd1 {x:Sg} (hw:SgW x) (h:x.kind=1):SgW ⟨1,0,0,0,x.name⟩:=by
 cases hw with
 | @name a n h1 h2 h3=>exact .name h1 h2 h3
 | open_=>exact absurd (show (2:Int)=1 from h) (by decide)
 | shut=>exact absurd (show (3:Int)=1 from h) (by decide)
 | or_=>exact absurd (show (4:Int)=1 from h) (by decide)
 | times _=>exact absurd (show (5:Int)=1 from h) (by decide)
theorem kd5 {x:Sg} (hw:SgW x) (h:x.kind=5):TimesOk x.low x.high:=by
 cases hw with
 | name _ _ _=>exact absurd (show (1:Int)=5 from h) (by decide)
 | open_=>exact absurd (show (2:Int)=5 from h) (by decide)
 | shut=>exact absurd (show (3:Int)=5 from h) (by decide)
 | or_=>exact absurd (show (4:Int)=5 from h) (by decide)
 | times h'=>exact h'
theorem c3g {l:List Sg} (hW:∀ x∈l,SgW x) {v p q:Nat} {t:T} (h:Seg l v p q t):t.ok=true:=by
  induction h with
  | name p h =>
    have hp:=a2m (l:=l) (i:=p) (by rw [h];decide)
    have hw:=c3a hW hp
    rw [a9y hp] at h
    exact c2u (kd1 hw h)
  | group _ _ _ _ _ _ ih=>exact ih
  | item _ _ _ _ _ ih=>exact ih
  | times p q t hs h5 ih =>
    have hp:=a2m (l:=l) (i:=q) (by rw [h5];decide)
    have hw:=c3a hW hp
    rw [a9y hp] at h5
    obtain ⟨⟨h1,h2⟩,h3⟩:=kd5 hw h5
    simp only [T.ok,Bool.and_eq_true,Bool.or_eq_true,decide_eq_true_eq]
    refine ⟨⟨⟨h1,h2⟩,?_⟩,ih⟩
    rcases h3 with h3 | h3
    · exact .inl h3
    · right;split <;> omega
  | row1 _ _ _ _ ih=>exact ih
  | row p q ts c h2 _ _ _ ih =>
    simp only [T.ok,Bool.and_eq_true,Bool.or_eq_true,decide_eq_true_eq]
    exact ⟨⟨.inl trivial,h2⟩,c3k ih⟩
  | choice1 _ _ _ _ ih=>exact ih
  | choice p q ts c e h2 _ _ _ _ ih =>
    simp only [T.ok,Bool.and_eq_true,Bool.or_eq_true,decide_eq_true_eq]
    exact ⟨⟨.inr trivial,h2⟩,c3k ih⟩
def T.kind:T→Int
 | .name _=>1
 | .times _ _ _=>4
 | .many k _=>k
def inB (p k:Int):Bool:=if p=3 then decide (k=3) else if p=2 then decide (k=2)||decide (k=3) else !decide (k=1)
def AtP (e:List Pt) (b:Nat) (l:List Pt):Prop:=∃ u v,e=u++l++v∧u.length=b
theorem c4I {e:List Pt} {b:Nat} {l:List Pt} (h:AtP e b l) {i:Nat} (hi:i < l.length):e.getD (b+i) default=l.getD i default∧b+i < e.length:=by
 obtain ⟨u,v,rfl,rfl⟩:=h
 refine ⟨?_,by simp only [List.length_append];omega⟩
 rw [List.append_assoc,List.getD_eq_getElem?_getD,List.getElem?_append_right (by omega),Nat.add_sub_cancel_left,List.getElem?_append_left hi,←List.getD_eq_getElem?_getD]
theorem a4J {e:List Pt} {b:Nat} {l k:List Pt} (h:AtP e b (l++k)):AtP e b l:=by
 obtain ⟨u,v,rfl,hu⟩:=h
 exact ⟨u,k++v,by simp,hu⟩
theorem b9V {e:List Pt} {b b':Nat} {l k:List Pt} (h:AtP e b (l++k)) (hb:b'=b+l.length):AtP e b' k:=by
 obtain ⟨u,v,rfl,hu⟩:=h
 exact ⟨u++l,v,by simp,by rw [List.length_append,hu,hb]⟩
theorem b3a:∀ (ts:List T) (b i:Nat),i < ts.length→∃ v,T.flatL b ts=T.flatL b (ts.take i)++T.flat (b+T.sizeL (ts.take i)) (ts.getD i default)++v
  | t::ts,b,0,_=>⟨T.flatL (b+t.size) ts,by simp [T.flatL,T.sizeL]⟩
  | t :: ts, b, i + 1, h => by
    obtain ⟨v,hv⟩:=b3a ts (b+t.size) i (by simpa using h)
    refine ⟨v,?_⟩
    simp only [T.flatL,List.take_succ_cons,T.sizeL,hv,List.getD_cons_succ,List.append_assoc,Nat.add_assoc]
theorem c7V {e:List Pt} {b i:Nat} {ts:List T} {k:Int} (h:AtP e b (T.flat b (.many k ts))) (hi:i < ts.length):AtP e (b+T.sizeL (ts.take i)) (T.flat (b+T.sizeL (ts.take i)) (ts.getD i default)):=by
 obtain ⟨v,hv⟩:=b3a ts b i hi
 simp only [T.flat,hv] at h
 have h:=a4J (a4J h)
 exact b9V h (by rw [T.flatL_len])
theorem a2T:∀ (ts:List T) (b i:Nat),i < ts.length→(rootsL b ts).getD i 0=T.root (b+T.sizeL (ts.take i)) (ts.getD i default)
  | t::ts,b,0,_=>by simp [rootsL,T.root,T.sizeL]
  | t :: ts, b, i + 1, h => by
    have:=a2T ts (b+t.size) i (by simpa using h)
    simp only [rootsL,List.getD_cons_succ,List.take_succ_cons,T.sizeL,this,Nat.add_assoc]
def T.top (b:Nat):T→Pt
 | .name s=>⟨1,0,0,s,[]⟩
 | .times lo hi t=>⟨4,lo,hi,[],[((b+t.size:Nat):Int) - 1]⟩
 | .many k ts=>⟨k,0,0,[],rootsL b ts⟩
theorem a6s (b:Nat) (t:T):(t.top b).kind=t.kind:=by cases t <;> rfl
theorem c1A (b:Nat) (t:T):(T.flat b t).getD (t.size - 1) default=t.top b:=by
 cases t with
 | name s=>rfl
 | times lo hi t=>simp only [T.flat,T.size,T.top,Nat.add_sub_cancel];rw [←T.flat_len b t];exact a2o _ _ _
 | many k ts=>simp only [T.flat,T.size,T.top,Nat.add_sub_cancel];rw [←T.flatL_len b ts];exact a2o _ _ _
theorem a3x {e:List Pt} {b:Nat} {t:T} (h:AtP e b (T.flat b t)):e.getD (b+t.size - 1) default=t.top b∧b+t.size≤e.length:=by
 have hs:=t.size_pos
 have:=c4I h (i:=t.size - 1) (by rw [T.flat_len];omega)
 rw [c1A,show b+(t.size - 1)=b+t.size - 1 by omega] at this
 exact ⟨this.1,by omega⟩
set_option maxRecDepth 100000
theorem c3W {s:List UInt8} (h:nameV s=true):SgW ⟨1,0,0,0,s⟩:=by
 unfold nameV at h
 split at h
 ·rename_i x hx
  simp only [Bool.and_eq_true,decide_eq_true_eq] at h
  have:=kd1 (b3i hx x (by simp)) h.1
  rw [h.2] at this;exact this
 ·cases h
theorem b9g {s:List UInt8} (h:nameV s=true):s.length≤12:=by
 have:=c3W h
 cases this with
 | name h1 _ _=>exact h1
mutual
theorem a7y:∀ (t:T) (b:Nat),t.ok=true→∀ x∈T.flat b t,x.kids.length≤t.size∧x.name.length≤12
  | .name s, b, h => fun x hx => by
    simp only [T.flat,List.mem_singleton] at hx
    subst hx;exact ⟨Nat.zero_le _,b9g (by simpa [T.ok] using h)⟩
  | .times lo hi t, b, h => fun x hx => by
    simp only [T.ok,Bool.and_eq_true] at h
    simp only [T.flat,List.mem_append,List.mem_singleton] at hx
    rcases hx with hx | rfl
    · have:=a7y t b h.2 x hx
      exact ⟨Nat.le_trans this.1 (by simp only [T.size];omega),this.2⟩
    · exact ⟨by show 1≤_;simp only [T.size];omega,Nat.zero_le _⟩
  | .many k ts, b, h => fun x hx => by
    simp only [T.ok,Bool.and_eq_true] at h
    simp only [T.flat,List.mem_append,List.mem_singleton] at hx
    rcases hx with hx | rfl
    · have:=a9a ts b h.2 x hx
      exact ⟨Nat.le_trans this.1 (by simp only [T.size];omega),this.2⟩
    · refine ⟨?_,Nat.zero_le _⟩
      show (rootsL b ts).length≤_
      rw [a0K]
      have:∀ ts:List T,ts.length≤T.sizeL ts:=fun ts=>by
        induction ts with
        | nil=>exact Nat.le_refl _
        | cons t ts ih=>have:=t.size_pos;simp only [List.length_cons,T.sizeL];omega
      have:=this ts
      simp only [T.size];omega
theorem a9a:∀ (ts:List T) (b:Nat),T.okL ts=true→∀ x∈T.flatL b ts,x.kids.length≤T.sizeL ts∧x.name.length≤12
  | [],b,_=>fun x hx=>by simp [T.flatL] at hx
  | t :: ts, b, h => fun x hx => by
    simp only [T.okL,Bool.and_eq_true] at h
    simp only [T.flatL,List.mem_append] at hx
    rcases hx with hx | hx
    · have:=a7y t b h.1 x hx
      exact ⟨Nat.le_trans this.1 (by simp only [T.sizeL];omega),this.2⟩
    · have:=a9a ts _ h.2 x hx
      exact ⟨Nat.le_trans this.1 (by simp only [T.sizeL];omega),this.2⟩
end
theorem b8Y {l:List Sg} {t t':T} (h:Seg l 3 0 l.length t) (h':Seg l 3 0 l.length t'):t=t':=by
 have e:a9I l 3 l.length:=⟨fun _=>by rw [b2t (Nat.le_refl _)];decide,fun _=>by rw [b2t (Nat.le_refl _)];decide⟩
 exact (c4w h h' e e).2
theorem b6B {x:Pt} {ts:List T} {b:Nat} (hx:a1V x=true) (hk:rootsL b ts=x.kids) (hok:T.okL ts=true):∃ t:T,t.ok=true∧T.flat b t=T.flatL b ts++[x]:=by
  have hl:=a0K ts b
  rw [hk] at hl
  unfold a1V at hx
  obtain ⟨kind,low,high,name,kids⟩:=x
  simp only at hx hk hl
  by_cases h1:kind=1
  · rw [if_pos h1] at hx
    simp only [Bool.and_eq_true,decide_eq_true_eq] at hx
    obtain ⟨⟨⟨h2,h3⟩,h4⟩,h5⟩:=hx
    rw [h2] at hl
    have:ts=[]:=List.length_eq_zero_iff.1 hl.symm
    subst this
    refine ⟨.name name,by simpa [T.ok] using h5,?_⟩
    subst h1;subst h3;subst h4
    rw [List.length_eq_zero_iff.1 h2];rfl
  · rw [if_neg h1] at hx
    by_cases h2:kind=2∨kind=3
    · rw [if_pos h2] at hx
      simp only [Bool.and_eq_true,decide_eq_true_eq] at hx
      obtain ⟨⟨⟨h3,h4⟩,h5⟩,h6⟩:=hx
      refine ⟨.many kind ts,?_,?_⟩
      · simp only [T.ok,Bool.and_eq_true,Bool.or_eq_true,decide_eq_true_eq]
        exact ⟨⟨h2,by omega⟩,hok⟩
      · subst h4;subst h5;subst h6;simp only [T.flat,hk]
    · rw [if_neg h2] at hx
      by_cases h3:kind=4
      · rw [if_pos h3] at hx
        have hx0:=hx
        simp only [Bool.and_eq_true,decide_eq_true_eq] at hx
        obtain ⟨⟨⟨⟨h4,h5⟩,h6⟩,h7⟩,h8⟩:=hx
        rw [h4] at hl
        match ts,hl,hk,hok with
        | [t], _, hk, hok =>
          simp only [T.okL,Bool.and_eq_true] at hok
          refine ⟨.times low high t,?_,?_⟩
          · simp only [T.ok]
            rw [hok.1,decide_eq_true h5,decide_eq_true h6,h7];rfl
          · subst h3;subst h8;rw [←hk];simp [T.flat,T.flatL,rootsL]
      · rw [if_neg h3] at hx;cases hx
theorem a7A:∀ (ts us:List T) (b:Nat),rootsL b (ts++us)=rootsL b ts++rootsL (b+T.sizeL ts) us
 | [],us,b=>by simp [rootsL,T.sizeL]
 | t::ts,us,b=>by simp [rootsL,T.sizeL,a7A ts,Nat.add_assoc]
theorem b2v:∀ (ts us:List T) (b:Nat),T.flatL b (ts++us)=T.flatL b ts++T.flatL (b+T.sizeL ts) us
 | [],us,b=>by simp [T.flatL,T.sizeL]
 | t::ts,us,b=>by simp [T.flatL,T.sizeL,b2v ts,Nat.add_assoc]
theorem b4L:∀ (ts us:List T),T.okL (ts++us)=(T.okL ts&&T.okL us)
 | [],us=>by simp [T.okL]
 | t::ts,us=>by simp [T.okL,b4L ts,Bool.and_assoc]
theorem a8F (n:Nat):∀ (r:List Pt) (i:Nat) (ts:List T),T.okL ts=true→T.sizeL ts=i→a2O n i r (rootsL 0 ts)=true→∃ us:List T,T.okL us=true∧T.flatL 0 us=T.flatL 0 ts++r∧(us.length=1∨n=0)
  | [],i,ts,hok,hs,h=>⟨ts,hok,by simp,by simpa [a2O,a0K] using h⟩
  | x :: r, i, ts, hok, hs, h => by
    simp only [a2O,Bool.and_eq_true,decide_eq_true_eq] at h
    obtain ⟨⟨hal,hk,hd⟩,hr⟩:=h
    rw [a0K] at hk hd hr
    obtain ⟨u,v,rfl,hv⟩:∃ u v,ts=u++v∧v.length=x.kids.length:=⟨ts.take (ts.length - x.kids.length),ts.drop (ts.length - x.kids.length),(List.take_append_drop _ _).symm,by rw [List.length_drop];omega⟩
    have hul:(u++v).length - x.kids.length=(rootsL 0 u).length:=by rw [a0K,List.length_append];omega
    rw [hul,a7A,List.drop_left] at hd
    rw [hul,a7A,List.take_left] at hr
    rw [b4L,Bool.and_eq_true] at hok
    obtain ⟨t,htok,hfl⟩:=b6B hal hd hok.2
    have hsz:T.sizeL u+T.sizeL v=i:=by
      have:∀ a b:List T,T.sizeL (a++b)=T.sizeL a+T.sizeL b:=fun a b=>by
        induction a with
        | nil=>simp [T.sizeL]
        | cons t a ih=>simp [T.sizeL,ih,Nat.add_assoc]
      rw [this] at hs;exact hs
    have htl:t.size=T.sizeL v+1:=by
      have:=congrArg List.length hfl
      rw [T.flat_len,List.length_append,T.flatL_len] at this
      simpa using this
    have e1:rootsL 0 u++[(i:Int)]=rootsL 0 (u++[t]):=by
      rw [a3D]
      congr 1
      unfold T.root
      congr 1
      omega
    rw [e1] at hr
    obtain ⟨us,h1,h2,h3⟩:=a8F n r (i+1) (u++[t]) (by rw [b4L,hok.1];simp [T.okL,htok]) (by rw [T.sizeL_snoc];omega) hr
    refine ⟨us,h1,?_,h3⟩
    rw [h2,T.flatL_snoc,b2v,hfl]
    simp
theorem b4h {e:List Pt} (h:rightV e=true):e=[]∨∃ t:T,t.ok=true∧e=T.flat 0 t:=by
  obtain ⟨us,hok,hf,hu⟩:=a8F e.length e 0 [] rfl rfl h
  simp only [T.flatL,List.nil_append] at hf
  rcases hu with hu | hu
  · match us, hu with
    | [t], _ =>
      simp only [T.okL,Bool.and_eq_true] at hok
      exact .inr ⟨t,hok.1,by rw [←hf];simp [T.flatL]⟩
  · exact .inl (List.length_eq_zero_iff.1 hu)
mutual
theorem a8Y:∀ (t:T) (b:Nat),t.ok=true→∀ x∈T.flat b t,a1V x=true
  | .name s, b, h => fun x hx => by
    simp only [T.flat,List.mem_singleton] at hx
    subst hx
    simp only [T.ok] at h
    simp [a1V,h]
  | .times lo hi t, b, h => fun x hx => by
    simp only [T.ok,Bool.and_eq_true] at h
    simp only [T.flat,List.mem_append,List.mem_singleton] at hx
    rcases hx with hx | rfl
    · exact a8Y t b h.2 x hx
    · unfold a1V
      rw [if_neg (show ¬ (4:Int)=1 by decide),if_neg (show ¬ ((4:Int)=2∨(4:Int)=3) by decide),if_pos rfl]
      simp only [Bool.and_eq_true]
      exact ⟨⟨⟨⟨rfl,h.1.1.1⟩,h.1.1.2⟩,h.1.2⟩,rfl⟩
  | .many k ts, b, h => fun x hx => by
    simp only [T.ok,Bool.and_eq_true,Bool.or_eq_true,decide_eq_true_eq] at h
    simp only [T.flat,List.mem_append,List.mem_singleton] at hx
    rcases hx with hx | rfl
    · exact a9X ts b h.2 x hx
    · unfold a1V
      rw [if_neg (by show ¬ k=1;omega),if_pos (by show k=2∨k=3;exact h.1.1)]
      simp only [a0K]
      rw [decide_eq_true (show 1 < ts.length by omega)];rfl
theorem a9X:∀ (ts:List T) (b:Nat),T.okL ts=true→∀ x∈T.flatL b ts,a1V x=true
  | [],b,_=>fun x hx=>by simp [T.flatL] at hx
  | t :: ts, b, h => fun x hx => by
    simp only [T.okL,Bool.and_eq_true] at h
    simp only [T.flatL,List.mem_append] at hx
    rcases hx with hx | hx
    · exact a8Y t b h.1 x hx
    · exact a9X ts _ h.2 x hx
end
def a3K (x:Nat):List Nat:=(List.range 64).filter fun j=>x.testBit j
theorem b2H:a3K 0=[]:=by simp [a3K]
theorem b1Y (p:Nat→Bool) (k:Nat) (hk:p k=true) (hlo:∀ j,j < k→p j=false):∀ n,k < n →
    (List.range n).filter p=k::(List.range n).filter (fun j=>p j&&decide (j≠k)):=by
  intro n
  induction n with
  | zero=>intro h;omega
  | succ n ih =>
    intro h
    rw [List.range_succ,List.filter_append,List.filter_append]
    by_cases hkn:k < n
    · rw [ih hkn]
      have:n≠k:=by omega
      simp [List.filter_cons,this]
    · obtain rfl:k=n:=by omega
      have h1:(List.range k).filter p=[]:=by
        rw [List.filter_eq_nil_iff]
        intro a ha
        simp [hlo a (by simpa using ha)]
      have h2:(List.range k).filter (fun j=>p j&&decide (j≠k))=[]:=by
        rw [List.filter_eq_nil_iff]
        intro a ha
        simp [hlo a (by simpa using ha)]
      rw [h1,h2]
      simp [List.filter_cons,hk]
theorem a5q (k m j:Nat):(2 ^ k * (2 * m+1)).testBit j=(decide (k≤j)&&(2 * m+1).testBit (j - k)):=Nat.testBit_two_pow_mul
theorem b8x (k m j:Nat):(2 ^ k * (2 * m+1) &&& (2 ^ k * (2 * m+1) - 1)).testBit j=((2 ^ k * (2 * m+1)).testBit j&&decide (j≠k)):=by
 have hp:0 < 2 ^ k:=Nat.two_pow_pos k
 have e:2 ^ k * (2 * m+1) - 1=2 ^ k * (2 * m)+(2 ^ k - 1):=by rw [Nat.mul_add];omega
 rw [Nat.testBit_and,e,Nat.testBit_two_pow_mul_add _ (by omega),a5q]
 by_cases h:j < k
 ·simp [h,Nat.not_le.2 h]
 ·have hk:k≤j:=by omega
  simp only [hk,h,decide_true,Bool.true_and,if_false]
  by_cases hj:j=k
  ·subst hj;simp [Nat.testBit_zero]
  ·obtain ⟨i,rfl⟩:∃ i,j=k+(i+1):=⟨j - k - 1,by omega⟩
   have:k+(i+1) - k=i+1:=by omega
   rw [this,Nat.testBit_succ,Nat.testBit_succ]
   have d1:(2 * m+1) / 2=m:=by omega
   have d2:2 * m / 2=m:=by omega
   rw [d1,d2]
   simp
theorem a8J (x:Nat) (h0:x≠0) (h:x < 2 ^ 64):Lib.ctz 64 x < 64∧a3K x=Lib.ctz 64 x::a3K (x &&& (x - 1)):=by
 obtain ⟨m,hm,hk⟩:=Lib.ctzFrom_spec 64 x (by omega) h
 have e:Lib.ctz 64 x=Lib.ctzFrom 64 x:=by simp [Lib.ctz,h0]
 rw [e]
 refine ⟨hk,?_⟩
 obtain ⟨k,hkk⟩:∃ k,Lib.ctzFrom 64 x=k:=⟨_,rfl⟩
 rw [hkk] at hm hk ⊢
 have hb:∀ j,x.testBit j=(decide (k≤j)&&(2 * m+1).testBit (j - k)):=fun j=>by rw [hm];exact a5q k m j
 have h1:x.testBit k=true:=by rw [hb];simp [Nat.testBit_zero]
 have h2:∀ j,j < k→x.testBit j=false:=fun j hj=>by rw [hb];simp [Nat.not_le.2 hj]
 unfold a3K
 rw [b1Y (fun j=>x.testBit j) k h1 h2 64 hk]
 have:(fun j=>x.testBit j&&decide (j≠k))=(fun j=>(x &&& (x - 1)).testBit j):=by
  funext j
  rw [hm]
  exact (b8x k m j).symm
 rw [this]
theorem a5Z (x:Nat) (h0:x≠0):x &&& (x - 1) < x:=by
 have:=@Nat.and_le_right x (x - 1)
 omega
def pc:Nat→Nat→Nat
 | 0,_=>0
 | n+1,x=>x % 2+pc n (x / 2)
theorem a6W (p:Nat→Bool) (n:Nat):((List.range (n+1)).filter p).length=(if p 0 then 1 else 0)+((List.range n).filter (fun j=>p (j+1))).length:=by
 rw [List.range_succ_eq_map,List.filter_cons]
 have h:(List.filter p (List.map Nat.succ (List.range n))).length=(List.filter (fun j=>p (j+1)) (List.range n)).length:=by
  rw [List.filter_map,List.length_map];rfl
 split <;> simp [h,Nat.add_comm]
theorem c7D:∀ (n x:Nat),((List.range n).filter (fun j=>x.testBit j)).length=pc n x:=by
  intro n
  induction n with
  | zero=>intro x;simp [pc]
  | succ n ih =>
    intro x
    rw [a6W,pc,←ih (x / 2)]
    congr 1
    · rw [Nat.testBit_zero]
      rcases Nat.mod_two_eq_zero_or_one x with h | h <;> simp [h]
    · congr 1
      apply List.filter_congr
      intro j _
      rw [Nat.testBit_succ]
theorem b4R (x:Nat):(a3K x).length=pc 64 x:=c7D 64 x
def m0:Nat→Nat | 0=>0 | n+1=>256 * m0 n+0x55
def m1:Nat→Nat | 0=>0 | n+1=>256 * m1 n+0x33
def m2:Nat→Nat | 0=>0 | n+1=>256 * m2 n+0x0f
def b0 (r:Nat):Nat:=(r / 2 &&& 0x55)+(r &&& 0x55)
def b1 (r:Nat):Nat:=(r / 4 &&& 0x33)+(r &&& 0x33)
def b2 (r:Nat):Nat:=(r / 16+r) &&& 0x0f
def ps:Nat→Nat→Nat | 0,_=>0 | n+1,x=>ps n (x / 256)+pc 8 (x % 256)
def r1:Nat→Nat | 0=>0 | n+1=>256 * r1 n+1
end Go.Proofs.YtdbbbafiegpbpaaGreatDoor
namespace Go.Proofs.YtdbbbafiegpbpaaGreatDoor
set_option linter.unusedSimpArgs false
set_option linter.unusedVariables false
open Go.RowKit
theorem c9i (a:Int) (x m:Nat) (h:a=(x:Int)) (hx:x < 18446744073709551616) (hm:m < 18446744073709551616):bits .and .u64 a (m:Int)=((x &&& m:Nat):Int):=by
 subst h;exact bits_and_u64_nat x m hx hm
def a7B (w:World):Prop:=∀ j,j < 64→w.cell? ⟨0,j,none⟩=some (.int .u8 (Lib.deBruijn64tab.getD j 0))
theorem a7B.below {B:Nat} {w w':World} (h:a7B w) (hb:Below B w w') (hB:0 < B):a7B w':=fun j hj=>(hb.cell hB).trans (h j hj)
set_option maxHeartbeats 1000000 in
theorem c0g (x k idx:Nat) (w:World) (hx0:((x:Int) == 0)=false)
  (key:IntKind.u64.wrap (bits BinOp.and IntKind.u64 (x:Int) (IntKind.u64.wrap (-(x:Int))) * 285870213051353865) / 288230376151711744=(idx:Int))
  (hi:idx < 64) (hk:k < 64) (hcell:w.cell? ⟨0,idx,none⟩=some (.int .u8 k)) :
  Calls Tryz.prog 60 #[.int .u64 x] w fun e w'=>e=.returned (.int .i64 k)∧w'=w:=by
 go_enter Tryz.func60,Tryz.ntmps60
 go_wp2_with (simp only [key])
 go_ret
 exact ⟨rfl,rfl⟩
theorem c2y (x a:Nat) (hx:x < 18446744073709551616) (hx0:x≠0) (hlow:x &&& (18446744073709551616 - x)=a) :
  IntKind.u64.wrap (bits BinOp.and IntKind.u64 (x:Int) (IntKind.u64.wrap (-(x:Int))) * 285870213051353865) / 288230376151711744=((a * 285870213051353865 % 18446744073709551616 / 288230376151711744:Nat):Int):=by
 have e1:IntKind.u64.wrap (-(x:Int))=((18446744073709551616 - x:Nat):Int):=by rw [IntKind.wrap_u64];omega
 rw [e1,bits_and_u64_nat x _ hx (by omega),hlow,IntKind.wrap_u64]
 omega
theorem a4b (x:Nat) (hx:x < 18446744073709551616) (hx0:x≠0) (w:World) (hT:a7B w) :
  Calls Tryz.prog 60 #[.int .u64 x] w fun e w'=>e=.returned (.int .i64 (Lib.ctz 64 x))∧w'=w:=by
 obtain ⟨hlow,hk⟩:=Lib.lowest_bit 64 x hx0 hx
 obtain ⟨hi,htab⟩:=Lib.deBruijn64_at _ hk
 have hcell:=hT _ hi
 rw [htab] at hcell
 exact c0g x _ _ w (by simp;omega) (c2y x _ hx hx0 hlow) hi hk hcell
structure Bag where
 a:Nat
 b:Nat
 c:Nat
 d:Nat
def Bag.cells (x:Bag):List Value:=[.int .u64 x.a,.int .u64 x.b,.int .u64 x.c,.int .u64 x.d]
def Bag.ok (x:Bag):Prop:=x.a < 18446744073709551616∧x.b < 18446744073709551616∧x.c < 18446744073709551616∧x.d < 18446744073709551616
theorem a5n:∀ w,(isAgg 47).run Tryz.prog w=.ok true w:=fun w=>by kernel_rfl
theorem a3R:∀ w,(sizeOf 47).run Tryz.prog w=.ok 4 w:=fun w=>by kernel_rfl
theorem a2P (w:World) (ρ:Operand→Value) (x:Operand) (d:Option Tmp) (ty:TypeId) (pos:String) (af:Array _) (g:Option _) :
  (execOp ρ ⟨d,.load 47 x,ty,pos,af,g⟩).run Tryz.prog w=a8s Tryz.prog 47 4 w (ρ x):=a7F _ a5n 4 a3R w ρ x d ty pos af g
theorem a2s (w:World) (ρ:Operand→Value) (p x:Operand) (d:Option Tmp) (ty:TypeId) (pos:String) (af:Array _) (g:Option _) :
  (execOp ρ ⟨d,.store 47 p x,ty,pos,af,g⟩).run Tryz.prog w=a7X Tryz.prog 47 4 w (ρ p) (ρ x):=b0G _ 4 (by kernel_rfl) w ρ p x d ty pos af g
theorem c5c:∀ w,(isAgg 45).run Tryz.prog w=.ok true w:=fun w=>by kernel_rfl
theorem c1n:∀ w,(sizeOf 45).run Tryz.prog w=.ok 4 w:=fun w=>by kernel_rfl
theorem a2Z (w:World) (ρ:Operand→Value) (x:Operand) (d:Option Tmp) (ty:TypeId) (pos:String) (af:Array _) (g:Option _) :
  (execOp ρ ⟨d,.load 45 x,ty,pos,af,g⟩).run Tryz.prog w=a8s Tryz.prog 45 4 w (ρ x):=a7F _ c5c 4 c1n w ρ x d ty pos af g
theorem Bag.cells_length (x:Bag):x.cells.length=4:=rfl
theorem a8r (x:Bag):(∀ u,u∈x.cells→u.oneCell'=true)=True:=by simp [Bag.cells];exact ⟨rfl,rfl,rfl,rfl⟩
theorem a9Y (w:World) (cs:Array Value) (t:TypeId) (g n:Nat) (hg:g=w.heap.size) (h:cs.size=n):rd (w.alloc (.cells cs t)) ⟨g,0,none⟩ n=some cs.toList:=by
 subst h;subst hg;exact (Blk.new w t cs).rd_
theorem a4Q (w:World) (g g':Nat) (cs:Array Value) (n:Nat) (hg:g=g') (hr:a3G w g'=some n) (h:cs.size=n):rd (w.setRow g' cs) ⟨g,0,none⟩ n=some cs.toList:=by
 obtain ⟨cur,t,h1,h2⟩:=b0e hr
 subst hg;subst h
 exact (Blk.setRow (t:=t) (cs:=cur) h1 cs).rd_
theorem a5b (w:World) (a:Addr) (u:Value) (g:Nat):a3G (w.setCell a u) g=a3G w g:=by
  unfold a3G World.setCell
  simp only [Array.getElem?_modify]
  by_cases hg:a.block=g
  · subst hg
    cases h:w.heap[a.block]? with
    | none=>simp
    | some o =>
      cases o with
      | cells cur t z=>obtain ⟨z1,z2⟩:=z;rcases z1 with _ | z1 <;> rcases z2 with _ | z2 <;> simp <;> split <;> simp
      | _=>simp
  · rw [if_neg hg]
theorem a5x {w w':World} {g:Nat} (h:w'.heap[g]?=w.heap[g]?):a3G w' g=a3G w g:=by unfold a3G;rw [h]
theorem a6Q (w:World) (cs:Array Value) (t:TypeId) (g:Nat) (hg:g=w.heap.size):a3G (w.alloc (.cells cs t)) g=some cs.size:=by subst hg;exact c0h w cs t
theorem a6S (w:World) (o:Obj) (g:Nat) (hg:g < w.heap.size):a3G (w.alloc o) g=a3G w g:=a5x (Below.heap_alloc w o g hg)
theorem a5o (w:World) (g g':Nat) (cs:Array Value) (hg:g≠g'):a3G (w.setRow g' cs) g=a3G w g:=a5x (a1k w g' cs g hg)
theorem a3t (w:World) (k g:Nat):a3G (w.drewN k) g=a3G w g:=a5x rfl
theorem a4r (w:World) (g:Nat):a3G w.drew g=a3G w g:=a5x rfl
theorem a4d (w:World) (g:Nat) (cs:Array Value) (a:Addr) (n:Nat) (h:a.block≠g):rd (w.setRow g cs) a n=rd w a n:=a7e (a1k w g cs _ h) n
attribute [local go_sem ↓] a2P a2s a2Z
attribute [local go_sem] a6w a8A a3z a3H a2Y a9Y a6M a4d a4Q a5b a6Q a6S a5o a3t a4r a8r Bag.cells_length
theorem c2S (n:Int) (w:World):Calls Tryz.prog 64 #[.int .i64 n] w fun e w'=>e=.returned (.bool (decide (0≤n∧n < 256)))∧w'=w:=by
 go_enter Tryz.func64,Tryz.ntmps64
 by_cases h0:0≤n
 ·by_cases h1:n < 256
  ·have d0:decide (0≤n)=true:=by simp [h0]
   have d1:decide (n < 256)=true:=by simp [h1]
   have he:decide (0≤n∧n < 256)=true:=by simp [h0,h1]
   clear h0 h1
   go_wp2
   go_ret
   exact ⟨a5F he.symm,rfl⟩
  ·have d0:decide (0≤n)=true:=by simp [h0]
   have d1:decide (n < 256)=false:=by simp [h1]
   have he:decide (0≤n∧n < 256)=false:=by simp [h1]
   clear h0 h1
   go_wp2
   go_ret
   exact ⟨a5F he.symm,rfl⟩
 ·have d0:decide (0≤n)=false:=by simp [h0]
  have he:decide (0≤n∧n < 256)=false:=by simp [h0]
  clear h0
  go_wp2
  go_ret
  exact ⟨a5F he.symm,rfl⟩
set_option maxHeartbeats 1000000 in
theorem c1u (x:Bag) (n:Int) (hn:¬ (0≤n∧n < 256)) (w:World):Calls Tryz.prog 37 #[.agg x.cells.toArray,.int .i64 n] w fun e w'=>e=.returned (.agg x.cells.toArray)∧Below w.heap.size w w':=by
 have he:decide (0≤n∧n < 256)=false:=by simpa using hn
 have hb:=c2S n
 rw [he] at hb
 clear he hn
 go_enter Tryz.func37,Tryz.ntmps37
 go_wp2_with (go_at_call 64;refine (hb _).mono ?_;rintro e w' ⟨rfl,rfl⟩)
 refine bodyPost_ret (a1E rfl a5n 4 a3R _ _ ⟨w.heap.size+1,0,none⟩ x.cells rfl ?_) rfl ?_
 ·exact a4Q _ _ _ _ _ rfl (by simp [go_sem]) rfl
 ·exact ⟨rfl,a2e ((Below.refl _ _).alloc (Nat.le_refl _) _ |>.alloc (by simp) _) (by simp) _⟩
def Bag.word (x:Bag):Nat→Nat | 0=>x.a | 1=>x.b | 2=>x.c | _=>x.d
def Bag.put (x:Bag):Nat→Nat→Bag
 | 0,m=>{ x with a:=x.a ||| m }
 | 1,m=>{ x with b:=x.b ||| m }
 | 2,m=>{ x with c:=x.c ||| m }
 | _,m=>{ x with d:=x.d ||| m }
theorem b3q (m:Nat) (h:m < 18446744073709551616):IntKind.u64.wrap (m:Int)=(m:Int):=by rw [IntKind.wrap_u64];omega
theorem q4 {q:Nat} (h:q < 4):q=0∨q=1∨q=2∨q=3:=by omega
theorem Bag.cell_at (x:Bag) (q:Nat) (hq:q < 4) (h:q < x.cells.length):x.cells[q]=.int .u64 (x.word q):=by
 rcases q4 hq with rfl | rfl | rfl | rfl <;> rfl
theorem Bag.set_at (x:Bag) (q m:Nat) (hq:q < 4):x.cells.set q (.int .u64 (x.word q ||| m:Nat))=(x.put q m).cells:=by
 rcases q4 hq with rfl | rfl | rfl | rfl <;> rfl
theorem Bag.word_lt (x:Bag) (hx:x.ok) (q:Nat):x.word q < 18446744073709551616:=by
 obtain ⟨h1,h2,h3,h4⟩:=hx
 unfold Bag.word;split <;> assumption
theorem b9u (n:Int) (h0:0≤n) (h1:n < 256):bits .and .i64 n 63=n % 64:=bits_mask .i64 63 (by decide) (fun n h0 h1=>by rw [IntKind.wrap_i64];omega) 6 (by decide) n h0 (by omega)
theorem b5Q (r:Nat) (hr:r < 64):2 ^ r < 18446744073709551616:=Nat.pow_lt_pow_right (m:=r) (n:=64) (by decide) hr
set_option maxHeartbeats 1000000 in
theorem c5r (x:Bag) (hx:x.ok) (q r:Nat) (hq:q < 4) (hr:r < 64) (w:World):Calls Tryz.prog 37 #[.agg x.cells.toArray,.int .i64 (64 * q+r:Nat)] w fun e w' =>
  e=.returned (.agg (x.put q (2 ^ r)).cells.toArray)∧Below w.heap.size w w':=by
 have hb:=c2S (64 * q+r:Nat)
 rw [show decide (0≤((64 * q+r:Nat):Int)∧((64 * q+r:Nat):Int) < 256)=true from by simp;omega] at hb
 obtain ⟨n,hn⟩:∃ n:Int,n=((64 * q+r:Nat):Int):=⟨_,rfl⟩
 rw [←hn] at hb ⊢
 have h6:n / 64=(q:Int):=by omega
 have h63:bits .and .i64 n 63=(r:Int):=by rw [b9u n (by omega) (by omega)];omega
 have hp:=b5Q r hr
 have h2:IntKind.u64.wrap (2 ^ r)=((2 ^ r:Nat):Int):=by
  have e:((2:Int) ^ r)=((2 ^ r:Nat):Int):=by simp
  rw [e];exact b3q _ hp
 obtain ⟨m,hm⟩:∃ m,2 ^ r=m:=⟨_,rfl⟩
 rw [hm] at hp h2 ⊢
 have hor:=bits_or_u64_nat (x.word q) m (x.word_lt hx q) hp
 have hc:=x.cell_at q hq
 have hs:=x.set_at q m hq
 have HX:=Lib.hid hx
 have HN:=Lib.hid hn
 clear hn hx hm
 go_enter Tryz.func37,Tryz.ntmps37
 go_wp2_with (go_at_call 64;refine (hb _).mono ?_;rintro e w' ⟨rfl,rfl⟩)
 refine bodyPost_ret (a1E rfl a5n 4 a3R _ _ ⟨w.heap.size+1,0,none⟩ (x.put q m).cells rfl ?_) rfl ?_
 ·exact a4Q _ _ _ _ _ rfl (by simp [go_sem]) rfl
 ·refine ⟨rfl,a2e ((Below.refl _ _).alloc (Nat.le_refl _) _ |>.alloc (by simp) _) (by simp) _⟩
def Bag.has (x:Bag) (n:Nat):Bool:=(x.word (n / 64)).testBit (n % 64)
theorem Bag.has_at (x:Bag) (q r:Nat) (hr:r < 64):x.has (64 * q+r)=(x.word q).testBit r:=by
 unfold Bag.has
 rw [show (64 * q+r) / 64=q from by omega,show (64 * q+r) % 64=r from by omega]
def Bag.with_ (x:Bag) (n:Int):Bag:=if 0≤n∧n < 256 then x.put (n.toNat / 64) (2 ^ (n.toNat % 64)) else x
theorem b6o (x:Bag) (hx:x.ok) (n:Int) (w:World):Calls Tryz.prog 37 #[.agg x.cells.toArray,.int .i64 n] w fun e w' =>
  e=.returned (.agg (x.with_ n).cells.toArray)∧Below w.heap.size w w':=by
 unfold Bag.with_
 by_cases h:0≤n∧n < 256
 ·rw [if_pos h]
  have:=c5r x hx (n.toNat / 64) (n.toNat % 64) (by omega) (by omega) w
  rw [show ((64 * (n.toNat / 64)+n.toNat % 64:Nat):Int)=n from by omega] at this
  exact this
 ·rw [if_neg h];exact c1u x n h w
theorem c1f (a b:Nat) (ha:a < 18446744073709551616) (hb:b < 18446744073709551616):a ||| b < 18446744073709551616:=Nat.or_lt_two_pow (n:=64) ha hb
theorem Bag.put_ok (x:Bag) (hx:x.ok) (q m:Nat) (hm:m < 18446744073709551616):(x.put q m).ok:=by
 obtain ⟨h1,h2,h3,h4⟩:=hx
 unfold Bag.put
 split
 ·exact ⟨c1f _ _ h1 hm,h2,h3,h4⟩
 ·exact ⟨h1,c1f _ _ h2 hm,h3,h4⟩
 ·exact ⟨h1,h2,c1f _ _ h3 hm,h4⟩
 ·exact ⟨h1,h2,h3,c1f _ _ h4 hm⟩
theorem Bag.with_ok (x:Bag) (hx:x.ok) (n:Int):(x.with_ n).ok:=by
 unfold Bag.with_;split
 ·exact x.put_ok hx _ _ (b5Q _ (by omega))
 ·exact hx
theorem Bag.put_has (x:Bag) (q r:Nat) (hq:q < 4) (hr:r < 64) (k:Nat) (hk:k < 256):(x.put q (2 ^ r)).has k=(decide (k=64 * q+r)||x.has k):=by
 have key:∀ i,i < 4→(x.put q (2 ^ r)).word i=if i=q then x.word q ||| 2 ^ r else x.word i:=by
  intro i hi
  rcases q4 hq with rfl | rfl | rfl | rfl <;> rcases q4 hi with rfl | rfl | rfl | rfl <;> rfl
 unfold Bag.has
 rw [key _ (by omega)]
 by_cases h:k / 64=q
 ·rw [if_pos h,Nat.testBit_or,Nat.testBit_two_pow,h]
  have:(r=k % 64)↔(k=64 * q+r):=by omega
  by_cases h2:r=k % 64
  ·simp [h2];omega
  ·have h3:¬ (k=64 * q+r):=fun e=>h2 (this.2 e)
   simp [h2,h3]
 ·rw [if_neg h]
  have:¬ (k=64 * q+r):=by omega
  simp [this]
theorem Bag.with_has (x:Bag) (n:Int) (k:Nat) (hk:k < 256):(x.with_ n).has k=(decide ((k:Int)=n)||x.has k):=by
 unfold Bag.with_;split
 ·rename_i h
  rw [x.put_has _ _ (by omega) (by omega) k hk]
  congr 1
  apply decide_eq_decide.2
  omega
 ·have:¬ ((k:Int)=n):=by omega
  simp [this]
def Bag.zero:Bag:=⟨0,0,0,0⟩
theorem Bag.zero_ok:Bag.zero.ok:=by unfold Bag.ok Bag.zero;simp
theorem Bag.zero_has (k:Nat):Bag.zero.has k=false:=by
 unfold Bag.has Bag.zero Bag.word;split <;> simp
def a2V (l:List Int):Bag:=l.foldl Bag.with_ Bag.zero
theorem b0l (l:List Int) (n:Int):a2V (l++[n])=(a2V l).with_ n:=by simp [a2V]
theorem a1N (l:List Int):(a2V l).ok∧∀ k,k < 256→(a2V l).has k=decide ((k:Int)∈l):=by
  have:∀ m:List Int,(a2V m.reverse).ok∧∀ k,k < 256→(a2V m.reverse).has k=decide ((k:Int)∈m):=by
    intro m
    induction m with
    | nil=>exact ⟨Bag.zero_ok,fun k _=>by simp [a2V,Bag.zero_has]⟩
    | cons n m ih =>
      rw [List.reverse_cons,b0l]
      refine ⟨Bag.with_ok _ ih.1 _,fun k hk=>?_⟩
      rw [Bag.with_has _ _ _ hk,ih.2 k hk]
      simp
  have h:=this l.reverse
  rw [List.reverse_reverse] at h
  refine ⟨h.1,fun k hk=>?_⟩
  rw [h.2 k hk]
  simp
end Go.Proofs.YtdbbbafiegpbpaaGreatDoor
namespace Go.Proofs.YtdbbbafiegpbpaaGreatDoor
set_option linter.unusedSimpArgs false
set_option linter.unusedVariables false
open Go.RowKit
attribute [local go_sem ↓] a2P a2s a2Z
attribute [local go_sem] a6w a8A a3z a3H a2Y a9Y a6M a4d a4Q a5b a6Q a6S a5o a3t a4r a8r Bag.cells_length
set_option maxHeartbeats 1000000 in
theorem c6E (A:Option Addr) (n c B:Nat) (l:List Int) (w:World) (hn:l.length=n) (h:Sl w B 1 a4T A l) (hB:B≤w.heap.size) (hl:l.length≤1000000) :
  Calls Tryz.prog 27 #[.slice A n c] w fun e w'=>e=.returned (.agg (a2V l).cells.toArray)∧Below w.heap.size w w':=by
 subst hn
 go_enter Tryz.func27,Tryz.ntmps27
 go_wp2
 go_loopw [8] (fun i wr=>∃ k:Nat,k≤l.length∧i=.int .i64 k∧Blk wr (w.heap.size+1) 47 (a2V (l.take k)).cells.toArray∧(∃ cs,Blk wr w.heap.size 47 cs∧cs.size=4)∧Below w.heap.size w wr) (fun i _=>l.length - (intOf i).toNat)
 case atStart =>
  refine ⟨0,Nat.zero_le _,rfl,?_,⟨_,Blk.new w _ _ |>.alloc _,rfl⟩,(Below.refl _ _).alloc (Nat.le_refl _) _ |>.alloc (by simp) _⟩
  have:=Blk.new (w.alloc (.cells Bag.zero.cells.toArray 47)) 47 Bag.zero.cells.toArray
  rw [World.size_alloc] at this
  exact this
 case round =>
  obtain ⟨k,hk,rfl,h1,⟨cs,h2,h3⟩,hb⟩:=hrel
  have r1:rd wr ⟨w.heap.size+1,0,none⟩ 4=some (a2V (l.take k)).cells:=h1.rd_
  by_cases hlt:k < l.length
  ·obtain ⟨b,o,rfl,hbB⟩:=h.addr (by omega) (by omega)
   have r:wr.cell? ⟨b,o+k,none⟩=some (.int .i64 l[k]):=((h.below (hb.mono hB)).cell1 hlt)
   have hok:=(a1N (l.take k)).1
   have HC:=b6o (a2V (l.take k)) hok l[k]
   have HB:=Lib.hid hb
   have HT:Hid ((a2V (l.take k)).with_ l[k]=a2V (l.take (k+1))):=by
    show _=_
    rw [←b0l,List.take_succ_eq_append_getElem hlt]
   obtain ⟨y,hy⟩:∃ y,(a2V (l.take k)).with_ l[k]=y:=⟨_,rfl⟩
   rw [hy] at HC HT
   have HH:=Lib.hid (And.intro h1 h2)
   clear hb hy h1 h2 hok
   go_wp2_with (go_at_call 37;refine (HC _).mono ?_;rintro e w1 ⟨rfl,hb1⟩;have s1:=a4C (HH.out.1.below hb1 HH.out.1.lt);rw [show (a2V (l.take k)).cells.toArray.size=4 from rfl] at s1)
   go_roundw
   case rel =>
    refine ⟨k+1,by omega,by go_num,?_,⟨cs,?_,h3⟩,?_⟩
    ·have:=(HH.out.1.below hb1 HH.out.1.lt).setRow y.cells.toArray
     rw [←HT.out]
     exact this
    ·exact (HH.out.2.below hb1 HH.out.2.lt).setRow_far (by omega) _
    ·exact a2e (HB.out.trans (hb1.mono HB.out.size)) (by omega) _
   case measure=>simp [intOf];omega
  ·have hk2:k=l.length:=by omega
   subst hk2
   rw [List.take_length] at r1
   have s2:=a4C h2
   rw [h3] at s2
   have HB:=Lib.hid hb
   clear hb h1 h2
   go_wp2
   refine bodyPost_ret (a1E rfl a5n 4 a3R _ _ ⟨w.heap.size,0,none⟩ (a2V l).cells rfl ?_) rfl ?_
   ·exact a4Q _ _ _ _ _ rfl s2 rfl
   ·exact ⟨rfl,a2e HB.out (Nat.le_refl _) _⟩
def Bag.len (x:Bag):Nat:=pc 64 x.a+pc 64 x.b+pc 64 x.c+pc 64 x.d
theorem c9s (n x:Nat):pc n x≤n:=by
 rw [←c7D];exact Nat.le_trans (List.length_filter_le _ _) (by simp)
theorem a4E (x:Bag) (k:Nat) (hk:k < 4) (w:World):(Instr.index 45 (.agg x.cells.toArray) (.int .i64 k)).run Tryz.prog w=.ok (.int .u64 (x.word k)) w:=by
 rcases q4 hk with rfl | rfl | rfl | rfl <;> simp [Instr.index,asIntOf,run_underlying Tryz.underlying45,part,go_sem,Bag.cells,Bag.word]
end Go.Proofs.YtdbbbafiegpbpaaGreatDoor
namespace Go.Proofs.YtdbbbafiegpbpaaGreatDoor
set_option linter.unusedSimpArgs false
set_option linter.unusedVariables false
open Go.RowKit Go.Shelf
attribute [local go_sem ↓] a2P a2s a2Z
attribute [local go_sem] a6w a8A a3z a3H a2Y a9Y a6M a4d a4Q a5b a6Q a6S a5o a3t a4r a8r Bag.cells_length
attribute [local go_sem] Oper.semAt_some
def a6f (k:Nat) (l:List Nat):List Int:=l.map fun j=>((64 * k+j:Nat):Int)
theorem a9e (k:Nat) (l:List Nat) (j:Nat):a6f k (l++[j])=a6f k l++[((64 * k+j:Nat):Int)]:=by simp [a6f]
def Bag.part (x:Bag):Nat→List Int | 0=>[] | k+1=>x.part k++a6f k (a3K (x.word k))
def Bag.list (x:Bag):List Int:=x.part 4
theorem Bag.part_prefix (x:Bag):∀ d k,x.part k <+: x.part (k+d):=by
 intro d
 induction d with
 | zero=>intro k;exact List.prefix_refl _
 | succ d ih=>intro k;exact (ih k).trans (by rw [←Nat.add_assoc];exact List.prefix_append _ _)
theorem Bag.here' (x:Bag) (k:Nat) (hk:k < 4) (a r:List Nat) (h:a3K (x.word k)=a++r):x.part k++a6f k a <+: x.list:=by
 have h1:x.part k++a6f k a <+: x.part (k+1):=by
  show _ <+: x.part k++a6f k (a3K (x.word k))
  rw [h,a6f,a6f,List.map_append,←List.append_assoc]
  exact List.prefix_append _ _
 have h2:=x.part_prefix (3 - k) (k+1)
 rw [show k+1+(3 - k)=4 from by omega] at h2
 exact h1.trans h2
theorem Bag.here_lt (x:Bag) (k:Nat) (hk:k < 4) (a:List Nat) (y j:Nat) (r:List Nat) (h:a3K (x.word k)=a++a3K y) (hy:a3K y=j::r):(x.part k++a6f k a).length < x.list.length:=by
 have h3:=(x.here' k hk (a++[j]) r (by rw [h,hy];simp)).length_le
 have h4:(x.part k++a6f k (a++[j])).length=(x.part k++a6f k a).length+1:=by rw [a9e,←List.append_assoc,List.length_append];rfl
 omega
attribute [local irreducible] a3K
attribute [irreducible] a6f Bag.list
set_option maxRecDepth 100000 in
set_option maxHeartbeats 2000000 in
theorem c5s (n:Nat) (hn:1≤n) (l Bx n₀:Nat) (x:Bag) (hx:x.ok) (hg:0 < n₀) (J Jx:List Int→World→Prop)
  (hY:∀ pre v W,J pre W→pre.length < x.list.length→YieldAt Fence.wide (n - 1) Tryz.prog l #[.int .i64 v] W fun e W' =>
   (e=.returned (.bool true)∧J (pre++[v]) W'∧Below n₀ W W')∨(e=.returned (.bool false)∧Jx (pre++[v]) W'))
  (W:World) (hb:rd W ⟨Bx,0,none⟩ 4=some x.cells) (hT:a7B W) (h0:J [] W) :
  CallsIn Fence.wide n Tryz.prog 59 #[.func (.yield l) #[] #[],.pointer (some ⟨Bx,0,none⟩)] W fun e W'=>(∃ v,e=.returned v) ∧
   ((∃ ys,ys=x.list∧J ys W')∨(∃ pre,pre <+: x.list∧Jx pre W')):=by
 have c0:W.cell? ⟨Bx,0,none⟩=some (.int .u64 x.a):=(a7n hb).2 0 (by omega)
 have c1:W.cell? ⟨Bx,1,none⟩=some (.int .u64 x.b):=by simpa [Addr.add,Bag.cells] using (a7n hb).2 1 (by omega)
 have c2:W.cell? ⟨Bx,2,none⟩=some (.int .u64 x.c):=by simpa [Addr.add,Bag.cells] using (a7n hb).2 2 (by omega)
 have c3:W.cell? ⟨Bx,3,none⟩=some (.int .u64 x.d):=by simpa [Addr.add,Bag.cells] using (a7n hb).2 3 (by omega)
 clear hb
 refine callsIn_of_wp Tryz.func59 rfl trivial ?_ rfl
 simp only [Tryz.ntmps59,List.size_toArray,List.length_cons,List.length_nil,Nat.reduceAdd,Nat.reduceSub,Array.replicate_succ,Array.replicate_zero,List.push_toArray,List.append_toArray,List.nil_append,List.cons_append]
 gi_wp2
 gi_loopw [7] (fun i wr=>∃ k:Nat,k≤4∧i=.int .i64 k∧J (x.part k) wr∧a7B wr) (fun i _=>4 - (intOf i).toNat)
 case atStart=>exact ⟨0,by omega,rfl,h0,hT⟩
 case round =>
  obtain ⟨k,hk,rfl,hJ,hTr⟩:=hrel
  by_cases hlt:k < 4
  ·have hc:∀ w,(Instr.index 45 (.agg #[.int .u64 x.a,.int .u64 x.b,.int .u64 x.c,.int .u64 x.d]) (.int .i64 k)).run Tryz.prog w=.ok (.int .u64 (x.word k)) w:=a4E x k hlt
   have hwk:=x.word_lt hx k
   have hk4:decide ((k:Int) < 4)=true:=by simp;omega
   gi_wp2
   gi_loopw [4] (fun v wr=>∃ y:Nat,∃ a,v=.int .u64 y∧y < 18446744073709551616∧a3K (x.word k)=a++a3K y∧J (x.part k++a6f k a) wr∧a7B wr) (fun v _=>(intOf v).toNat)
   case atStart=>exact ⟨x.word k,[],rfl,hwk,rfl,by rw [show a6f k []=[] from by unfold a6f;rfl,List.append_nil];exact hJ,hTr⟩
   case round =>
    obtain ⟨y,a,rfl,hy,ha,hJs,hT2⟩:=hrel
    by_cases h0y:y=0
    ·subst h0y
     have hfin:x.part k++a6f k a=x.part (k+1):=by
      show _=x.part k++a6f k (a3K (x.word k))
      rw [ha,b2H,List.append_nil]
     gi_wp2
     go_roundw
     case rel=>exact ⟨k+1,by omega,by go_num,by rw [←hfin];exact hJs,hT2⟩
     case measure=>simp [intOf];omega
    ·obtain ⟨hz,hst⟩:=a8J y h0y hy
     have hlen:=x.here_lt k hlt a y _ _ ha hst
     have hTZ:=a4b y hy h0y wr hT2
     obtain ⟨z,hzz⟩:∃ z,Lib.ctz 64 y=z:=⟨_,rfl⟩
     rw [hzz] at hz hst hTZ
     have hp:64 * (k:Int)+(z:Int)=((64 * k+z:Nat):Int):=by omega
     obtain ⟨V,hV⟩:∃ V:Int,((64 * k+z:Nat):Int)=V:=⟨_,rfl⟩
     obtain ⟨fn,tmps,assign,body,hyv,hR⟩:=hY _ V wr hJs hlen
     rw [hV] at hp
     have HV:=Lib.hid hV
     have hand:bits .and .u64 (y:Int) ((y:Int) - 1)=((y &&& (y - 1):Nat):Int):=by
      have e:(y:Int) - 1=((y - 1:Nat):Int):=by omega
      rw [e];exact bits_and_u64_nat y (y - 1) hy (by omega)
     have hand2:bits .and .u64 (y:Int) (IntKind.u64.wrap ((y:Int) - 1))=((y &&& (y - 1):Nat):Int):=by
      have e:IntKind.u64.wrap ((y:Int) - 1)=(y:Int) - 1:=by rw [IntKind.wrap_u64];omega
      rw [e];exact hand
     have hdec:=a5Z y h0y
     obtain ⟨y',hy'⟩:∃ y',y &&& (y - 1)=y':=⟨_,rfl⟩
     rw [hy'] at hand hand2 hdec hst
     have HA:=Lib.hid ha
     have HS:=Lib.hid hst
     have HT:=Lib.hid hT2
     clear hV hy' ha hst hT2 hT hTr hzz
     gi_wp2_with (refine ⟨trivial,?_⟩;gi_at_call 60;refine (callsIn_wide.2 hTZ).mono ?_;rintro e w1 ⟨rfl,rfl⟩)
     refine hR.mono ?_
     rintro e W3 (⟨rfl,hJ3,hk3⟩ | ⟨rfl,hJx3⟩)
     ·gi_wp2
      go_roundw
      case rel=>exact ⟨y',a++[z],by go_num,by omega,by rw [HA.out,HS.out];simp,by rw [a9e,←List.append_assoc,HV.out];exact hJ3,HT.out.below hk3 hg⟩
      case measure=>simp [intOf];omega
     ·gi_wp2
      refine bodyPost_ret (results_none rfl _ _ _) rfl ?_
      refine ⟨⟨_,rfl⟩,.inr ⟨_,?_,hJx3⟩⟩
      have h5:=x.here' k hlt (a++[z]) (a3K y') (by rw [HA.out,HS.out];simp)
      rw [a9e,←List.append_assoc,HV.out] at h5
      exact h5
  ·obtain rfl:k=4:=by omega
   gi_wp2
   go_end0
   exact ⟨⟨_,rfl⟩,.inl ⟨_,by unfold Bag.list;rfl,hJ⟩⟩
end Go.Proofs.YtdbbbafiegpbpaaGreatDoor
namespace Go.Proofs.YtdbbbafiegpbpaaGreatDoor
set_option linter.unusedSimpArgs false
set_option linter.unusedVariables false
open Go.RowKit
theorem c5t:Elem Tryz.prog 49 3 1 8 :=
 ⟨Tryz.underlying49,b9J (z:=.int .i64 0) (by kernel_rfl) rfl,by omega,by omega⟩
theorem b4W (x:Int):∀ u∈a4T x,u.oneCell'=true:=by intro u hu;simp [a4T] at hu;subst hu;rfl
set_option maxHeartbeats 400000 in
theorem b2h (A:Option Addr) (n c B:Nat) (l:List Int) (x:Int) (w:World) (hn:l.length=n) (h:Sl w B 1 a4T A l) (hl:l.length≤1000000) :
  Calls Tryz.prog 71 #[.slice A n c,.int .i64 x] w fun e w'=>e=.returned (.bool (decide (x∈l)))∧w=w':=by
 subst hn
 go_enter Tryz.func71,Tryz.ntmps71
 go_wp2
 go_loop [5] (fun i=>∃ k:Nat,k≤l.length∧i=.int .i64 k∧Hid (¬ x∈l.take k)) (fun i=>l.length - (intOf i).toNat)
 case atStart=>exact ⟨0,Nat.zero_le _,rfl,by show ¬ _;simp⟩
 case round =>
  obtain ⟨k,hk,rfl,HE⟩:=hrel
  by_cases hlt:k < l.length
  ·obtain ⟨b,o,rfl,_⟩:=h.addr (by omega) (by omega)
   have r:w.cell? ⟨b,o+k,none⟩=some (.int .i64 l[k]):=h.cell1 hlt
   by_cases he:l[k]=x
   ·have hd:decide (x∈l)=true:=by
     simp only [decide_eq_true_eq];rw [←he];exact List.getElem_mem _
    go_wp2
    go_ret
    exact ⟨rfl,rfl⟩
   ·have HN:=Lib.hid he
    go_wp2
    go_round
    case rel =>
     refine ⟨k+1,by omega,by go_num,?_⟩
     show ¬ _
     rw [List.take_succ_eq_append_getElem hlt]
     have h1:=HE.out
     have h2:=HN.out
     simp only [List.mem_append,List.mem_singleton,not_or]
     exact ⟨h1,fun e=>h2 e.symm⟩
    case measure=>simp [intOf];omega
  ·have hd:decide (x∈l)=false:=by
    have h1:=HE.out
    rw [List.take_of_length_le (by omega)] at h1
    simpa using h1
   go_wp2
   go_ret
   exact ⟨rfl,rfl⟩
def a2l (l:List Int) (k:Nat):List Int:=((List.range k).filter (fun j:Nat=>decide ((j:Int)∈l))).map (fun j:Nat=>(j:Int))
theorem a8o (l:List Int) (k:Nat):a2l l (k+1)=if (k:Int)∈l then a2l l k++[(k:Int)] else a2l l k:=by
 unfold a2l
 rw [List.range_succ,List.filter_append,List.map_append]
 by_cases h:(k:Int)∈l <;> simp [List.filter_cons,h]
theorem b9t (l:List Int) (k:Nat):(a2l l k).length≤k:=by
 unfold a2l
 rw [List.length_map]
 exact Nat.le_trans (List.length_filter_le _ _) (by simp)
theorem a8Z (l:List Int):a2l l 0=[]:=rfl
attribute [irreducible] a2l
set_option maxHeartbeats 1000000 in
set_option maxRecDepth 100000 in
theorem b6t (A:Option Addr) (n c B:Nat) (l:List Int) (w:World) (hn:l.length=n) (h:Sl w B 1 a4T A l) (hB:B≤w.heap.size) (hl:l.length≤1000000) :
  Calls Tryz.prog 69 #[.slice A n c] w (a3b 3 1 a4T w (a2l l 256)):=by
 subst hn
 go_enter Tryz.func69,Tryz.ntmps69
 go_wp2
 go_loopw [3,4] (fun v i wr=>∃ k m:Nat,∃ A' c',k≤256∧i=.int .i64 k∧v=.slice A' m c'∧m=(a2l l k).length∧Own wr w.heap.size 3 1 a4T (.slice A' m c') (a2l l k)∧Below w.heap.size w wr) (fun _ i _=>256 - (intOf i).toNat)
 case atStart=>exact ⟨0,0,none,0,by omega,rfl,rfl,by rw [a8Z];rfl,by rw [a8Z];exact Own.nil _ _ _ b1O,Below.refl _ _⟩
 case round =>
  obtain ⟨k,m,A',c',hk,rfl,rfl,hm,ho,hb⟩:=hrel
  have hmk:=b9t l k
  rw [←hm] at hmk
  have HM:=Lib.hid hm
  have HO:=Lib.hid ho
  have HB:=Lib.hid hb
  have HS:=h.below (hb.mono hB)
  have hsz:=hb.size
  clear hm ho hb
  by_cases hlt:k < 256
  ·have HC:=fun W hW=>b2h A l.length c B l k W rfl hW hl
   by_cases he:(k:Int)∈l
   ·have hd:decide ((k:Int)∈l)=true:=by simpa using he
    rw [hd] at HC
    have HL:Hid (a2l l (k+1)=a2l l k++[(k:Int)]):=by show _=_;rw [a8o,if_pos he]
    clear he hd
    go_wp2_with (first
     | (go_at_call 71;refine (HC _ HS).mono ?_;rintro e w1 ⟨rfl,rfl⟩)
     | (at_builtin;refine a7R rfl (.tmp 12) (.tmp 14) 49 rfl c5t w.heap.size a4T b4W (.slice A' m c') (a2l l k) m HM.out.symm rfl (HO.out.alloc _) (wr.heap.size+1) (some ⟨wr.heap.size,0,none⟩) 1 1 [(k:Int)] rfl rfl (Sl.new wr a4T 1 b1O 3 (k:Int)) (by omega) (by simp;omega) ?_;intro A2 c2 w2 ho2 hg2 _;have HO2:=Lib.hid ho2;have HG2:=Lib.hid hg2;clear ho2 hg2))
    go_roundw
    case rel =>
     refine ⟨k+1,m+1,A2,c2,by omega,by go_num,rfl,by rw [HL.out,List.length_append,←HM.out];rfl,by rw [HL.out];exact HO2.out,?_⟩
     exact (HO.out.alloc _).below_grown (HB.out.alloc (by omega) _) HG2.out (Nat.le_refl _) (by simp;omega)
    case measure=>simp [intOf];omega
   ·have hd:decide ((k:Int)∈l)=false:=by simpa using he
    rw [hd] at HC
    have HL:Hid (a2l l (k+1)=a2l l k):=by show _=_;rw [a8o,if_neg he]
    clear he hd
    go_wp2_with (go_at_call 71;refine (HC _ HS).mono ?_;rintro e w1 ⟨rfl,rfl⟩)
    go_roundw
    case rel=>exact ⟨k+1,m,A',c',by omega,by go_num,rfl,by rw [HL.out];exact HM.out,by rw [HL.out];exact HO.out,HB.out⟩
    case measure=>simp [intOf];omega
  ·have hk2:k=256:=by omega
   subst hk2
   go_wp2
   go_ret
   exact a3b.of HM.out.symm rfl HO.out HB.out
end Go.Proofs.YtdbbbafiegpbpaaGreatDoor
namespace Go.Proofs.YtdbbbafiegpbpaaGreatDoor
set_option linter.unusedSimpArgs false
set_option linter.unusedVariables false
open Go.RowKit Go.Shelf
attribute [local go_sem ↓] a2P a2s a2Z
attribute [local go_sem] a6w a8A a3z a3H a2Y a9Y a6M a4d a4Q a5b a6Q a6S a5o a3t a4r a8r Bag.cells_length
attribute [local go_sem] Oper.semAt_some
theorem c6n (x:Bag) (w:World):Calls Tryz.prog 33 #[.agg x.cells.toArray] w fun e w' =>
  e=.returned (.func (.func 59) #[] #[.pointer (some ⟨w.heap.size,0,none⟩)])∧w'=w.alloc (.cells x.cells.toArray 47):=by
 go_enter Tryz.func33,Tryz.ntmps33
 go_wp2
 go_ret
 exact ⟨rfl,rfl⟩
theorem b7I (n:Nat) (hn:1≤n) (Bx n₀:Nat) (x:Bag) (hx:x.ok) (hg:0 < n₀) (w:World) (hn₀:n₀≤w.heap.size) (hB:Bx < w.heap.size) (hb:rd w ⟨Bx,0,none⟩ 4=some x.cells) (hT:a7B w) :
  SeqStopsK Fence.wide n Tryz.prog 59 #[.pointer (some ⟨Bx,0,none⟩)] (fun v:Int=>#[Value.int .i64 v]) (Below n₀) (fun ys=>ys=x.list) (fun pre=>pre <+: x.list) x.list.length w:=fun l J Jx W hW _ _ hY h0 =>
 c5s n hn l Bx n₀ x hx hg J Jx hY W ((b0Q hW _ _ hB).trans hb) (hT.below hW (by omega)) h0
theorem a2q (x:Bag):x.list.length≤256:=by
  have key:∀ k,(x.part k).length≤64 * k:=by
    intro k
    induction k with
    | zero=>simp [Bag.part]
    | succ k ih =>
      show (x.part k++a6f k (a3K (x.word k))).length≤_
      have h1:(a6f k (a3K (x.word k))).length≤64:=by
        unfold a6f;rw [List.length_map,b4R];exact c9s 64 _
      rw [List.length_append];omega
  have:=key 4
  unfold Bag.list
  omega
set_option maxRecDepth 100000 in
set_option maxHeartbeats 2000000 in
theorem b2w (n:Nat) (hn:3≤n) (Bx:Nat) (x:Bag) (hx:x.ok) (w:World) (hg:0 < w.heap.size) (hB:Bx < w.heap.size) (hb:rd w ⟨Bx,0,none⟩ 4=some x.cells) (hT:a7B w) :
  CallsIn Fence.wide n Tryz.prog 65 #[.slice none 0 0,.func (.func 59) #[] #[.pointer (some ⟨Bx,0,none⟩)]] w (a3b 3 1 a4T w x.list):=by
 have h1:1≤n:=by omega
 have hle:=a2q x
 obtain ⟨i0,hi,hz0,hz1,hz2⟩:=info_parts (show (Tryz.prog.info? 3).map (fun i=>(i.zero,i.size,i.bytes))=some (some (.int .i64 0),1,8) from by kernel_rfl)
 refine callsIn_of_wp_marks Tryz.func65 rfl trivial ?_ rfl
 simp only [Tryz.ntmps65,List.size_toArray,List.length_cons,List.length_nil,Nat.reduceAdd,Nat.reduceSub,Array.replicate_succ,Array.replicate_zero,List.push_toArray,List.append_toArray,List.nil_append,List.cons_append]
 gi_wp2
 have bO:=Boxed.new w 49 (.slice none 0 0)
 have hB0:Below w.heap.size w (w.alloc (.cells #[.slice none 0 0] 49)):=(Below.refl _ w).alloc (Nat.le_refl _) _
 refine wpIn_rangeFunc_ownG rfl h1 (gf:=59) (lb:=#[.pointer (some ⟨Bx,0,none⟩)]) rfl trivial (enters_of Tryz.func59 (by kernel_rfl) rfl)
  (b7I (n - 1) (by omega) Bx w.heap.size x hx hg _ (by simp) (by simp;omega) ((b0Q hB0 _ _ hB).trans hb) (hT.below hB0 hg)) belowK_t (belowK_b (by simp)) (Below.refl _ _) (fun _=>rfl)
  (fun pre W=>(∃ v,Boxed W w.heap.size 49 v∧W.ownsRow w.heap.size 3 1 v pre.length (pre.flatMap a4T)∧True)∧Below w.heap.size w W)
  (fun _ _ _=>False)
  (OwnFrom.and (Own.from (holdsRow_own w.heap.size w.heap.size 49 3 1 (fun pre:List Int=>pre.length) (fun pre=>pre.flatMap a4T) (fun pre v=>True)) _) (ownFrom_below (Nat.le_refl _) (by simp)))
  (fun _ _ _ _ _ hs _ _=>hs)
  ⟨⟨_,bO,World.ownsRow_nil _ _ _ _,trivial⟩,hB0⟩
  (fun v=>{ tmps:=#[.slice none 0 0,.func (.func 59) #[] #[.pointer (some ⟨Bx,0,none⟩)],.pointer (some ⟨w.heap.size,0,none⟩),undef,.slice none 0 0,.int .i64 v,.func (.func 59) #[] #[.pointer (some ⟨Bx,0,none⟩)],.int .i64 v,undef,undef,undef,undef,undef],defers:=[] }) ?assign ?body ?done ?stop
 case assign =>
  intro l v W K hK
  gi_wp2
  exact hK
 case body =>
  rintro l pre v W ⟨⟨u,hv,hrow,_⟩,hB2⟩ hlt
  have hc:=hv.cell
  gi_wp2_with (gi_at_builtin;refine wpListIn_append_own _ rfl _ _ 49 rfl w.heap.size 3 i0 (.int .i64 0) 1 8 Tryz.underlying49 hi hz0 hz1 hz2 rfl (by decide) _ _ _ rfl (hrow.alloc _) ⟨W.heap.size,0,none⟩ 1 1 [.int .i64 v] rfl rfl (cell_one_new _ _ _) (by simp [Value.oneCell']) (by unfold maxLen;omega) (by omega) (by have:=hB2.size;simp;omega) ?_;intro v' w1 hown' hgrow _;obtain ⟨g',cap',rfl⟩:=ownsRow_succ hown';obtain ⟨hv1,hv2,hr2,hk2,hb2⟩:=hv.appended (by decide) hrow hB2.size (Nat.le_refl _) hown' hgrow;have hc1:=hv1.cell;have hf1:=hv1.frozen)
  exact ⟨hk2.from _,hb2,⟨_,hv2,by rw [List.flatMap_append];simpa [a4T] using hr2,trivial⟩,hB2.trans hb2⟩
 case done =>
  rintro D ys W hD rfl ⟨⟨u,hv,hrow,_⟩,hB2⟩ hK
  have hc:=hv.cell
  gi_wp2
  refine ⟨by simp,.inl ⟨_,_,rfl,run_takeDeferred hK,?_⟩⟩
  refine ⟨_,results_tmp rfl _ _ _,?_⟩
  have ho:Own W w.heap.size 3 1 a4T u x.list:=⟨b1O,hrow⟩
  have ho2:Own (W.putObj D (.deferred none)) w.heap.size 3 1 a4T u x.list:=⟨b1O,ownsRow_putObj hrow _ hK rfl⟩
  obtain ⟨A,c,rfl,_⟩:=ho.form
  exact a3b.of rfl rfl ho2 (hB2.trans (belowK_b (w:=w) (Nat.le_refl _) W D _ _ (by simp at hD;omega) hK rfl rfl))
 case stop =>
  rintro D c pre W _ _ h _
  exact h.elim
theorem b1J (Bx:Nat) (x:Bag) (hx:x.ok) (w:World) (hg:0 < w.heap.size) (hB:Bx < w.heap.size) (hb:rd w ⟨Bx,0,none⟩ 4=some x.cells) (hT:a7B w) :
  Calls Tryz.prog 65 #[.slice none 0 0,.func (.func 59) #[] #[.pointer (some ⟨Bx,0,none⟩)]] w (a3b 3 1 a4T w x.list) :=
 callsIn_wide.1 (b2w 3 (by omega) Bx x hx w hg hB hb hT)
theorem b4w (Bx:Nat) (x:Bag) (hx:x.ok) (w:World) (hg:0 < w.heap.size) (hB:Bx < w.heap.size) (hb:rd w ⟨Bx,0,none⟩ 4=some x.cells) (hT:a7B w) :
  Calls Tryz.prog 38 #[.func (.func 59) #[] #[.pointer (some ⟨Bx,0,none⟩)]] w (a3b 3 1 a4T w x.list):=by
 have HA:=b1J Bx x hx w hg hB hb hT
 clear hT hb
 go_enter Tryz.func38,Tryz.ntmps38
 go_wp2_with (go_at_call 65;refine HA.mono ?_;rintro e w1 ⟨A',c',rfl,ho,hb1⟩)
 go_ret
 exact a3b.of rfl rfl ho hb1
theorem c2q (x:Bag) (hx:x.ok) (w:World) (hg:0 < w.heap.size) (hT:a7B w) :
  Calls Tryz.prog 17 #[.agg x.cells.toArray] w (a3b 3 1 a4T w x.list):=by
 have HX:=Lib.hid hx
 have hb0:Below w.heap.size w ((w.alloc (.cells x.cells.toArray 47)).alloc (.cells x.cells.toArray 47)):=((Below.refl _ w).alloc (Nat.le_refl _) _).alloc (by simp) _
 have HC:=b4w (w.heap.size+1) x hx ((w.alloc (.cells x.cells.toArray 47)).alloc (.cells x.cells.toArray 47)) (by have:=hb0.size;omega) (by simp) (a9Y _ _ _ _ _ (by simp) rfl) (hT.below hb0 hg)
 have HB:=Lib.hid hb0
 clear hT hb0
 go_enter Tryz.func17,Tryz.ntmps17
 have HA:=c6n x
 go_wp2_with (first
  | (go_at_call 33;refine (HA _).mono ?_;rintro e w1 ⟨rfl,rfl⟩)
  | (go_at_call 38;refine HC.mono ?_;rintro e w1 ⟨A',c',rfl,ho,hb1⟩))
 go_ret
 refine a3b.of rfl rfl (ho.base_le (by simp;omega)) (HB.out.trans (hb1.mono (by simp;omega)))
end Go.Proofs.YtdbbbafiegpbpaaGreatDoor
namespace Go.Proofs.YtdbbbafiegpbpaaGreatDoor
set_option linter.unusedSimpArgs false
set_option linter.unusedVariables false
theorem Bag.part_eq (x:Bag):∀ k,x.part k=((List.range (64 * k)).filter x.has).map (fun j:Nat=>(j:Int)):=by
  intro k
  induction k with
  | zero=>rfl
  | succ k ih =>
    show x.part k++a6f k (a3K (x.word k))=_
    rw [ih,Nat.mul_succ,List.range_add,List.filter_append,List.map_append,List.filter_map,List.map_map]
    congr 1
    unfold a6f a3K
    have:List.filter (x.has∘fun j=>64 * k+j) (List.range 64)=List.filter (fun j=>(x.word k).testBit j) (List.range 64):=by
      apply List.filter_congr
      intro j hj
      simp only [List.mem_range] at hj
      exact x.has_at k j hj
    rw [this]
    rfl
theorem Bag.list_eq (x:Bag):x.list=((List.range 256).filter x.has).map (fun j:Nat=>(j:Int)):=by
 unfold Bag.list;exact x.part_eq 4
theorem b6Q (l:List Int):(a2V l).list=a2l l 256:=by
 rw [Bag.list_eq]
 unfold a2l
 congr 1
 apply List.filter_congr
 intro k hk
 exact (a1N l).2 k (List.mem_range.1 hk)
theorem Bag.mem_list (x:Bag) (k:Nat) (hk:k < 256):((k:Int)∈x.list)↔x.has k=true:=by
 rw [Bag.list_eq,List.mem_map]
 constructor
 ·rintro ⟨j,hj,e⟩
  have:j=k:=by omega
  subst this
  exact (List.mem_filter.1 hj).2
 ·intro h
  exact ⟨k,List.mem_filter.2 ⟨List.mem_range.2 hk,h⟩,rfl⟩
theorem c1a (a b:Nat) (ha:a < 18446744073709551616) (hb:b < 18446744073709551616) (h:∀ j,j < 64→a.testBit j=b.testBit j):a=b:=by
 apply Nat.eq_of_testBit_eq
 intro j
 by_cases hj:j < 64
 ·exact h j hj
 ·have h2:(2:Nat) ^ 64≤2 ^ j:=Nat.pow_le_pow_right (by omega) (by omega)
  rw [Nat.testBit_lt_two_pow (Nat.lt_of_lt_of_le (by simpa using ha) h2),Nat.testBit_lt_two_pow (Nat.lt_of_lt_of_le (by simpa using hb) h2)]
theorem Bag.ext_has (x y:Bag) (hx:x.ok) (hy:y.ok) (h:∀ k,k < 256→x.has k=y.has k):x=y:=by
 have key:∀ q,q < 4→x.word q=y.word q:=fun q hq=>c1a _ _ (x.word_lt hx q) (y.word_lt hy q) fun j hj=>by
  have:=h (64 * q+j) (by omega)
  rwa [x.has_at q j hj,y.has_at q j hj] at this
 have h0:=key 0 (by omega);have h1:=key 1 (by omega);have h2:=key 2 (by omega);have h3:=key 3 (by omega)
 cases x;cases y
 simp only [Bag.word] at h0 h1 h2 h3
 simp only [Bag.mk.injEq]
 exact ⟨h0,h1,h2,h3⟩
theorem Bag.ext_list (x y:Bag) (hx:x.ok) (hy:y.ok) (h:x.list=y.list):x=y :=
 x.ext_has y hx hy fun k hk=>by
  have h1:=x.mem_list k hk
  have h2:=y.mem_list k hk
  rw [h] at h1
  exact Bool.eq_iff_iff.2 (h1.symm.trans h2)
theorem b3D (l:List Int):a2l l 256=(a2V l).list:=(b6Q l).symm
theorem Bag.of_list (x:Bag) (hx:x.ok):a2V x.list=x :=
 Bag.ext_has _ _ (a1N _).1 hx fun k hk=>by
  rw [(a1N x.list).2 k hk]
  have:=x.mem_list k hk
  by_cases h:x.has k=true
  ·rw [h];simpa using this.2 h
  ·have h2:¬ ((k:Int)∈x.list):=fun e=>h (this.1 e)
   simp only [Bool.not_eq_true] at h
   rw [h];simpa using h2
end Go.Proofs.YtdbbbafiegpbpaaGreatDoor
namespace Go.Proofs.YtdbbbafiegpbpaaGreatDoor
set_option linter.unusedSimpArgs false
set_option linter.unusedVariables false
open Go.RowKit
attribute [local go_sem ↓] a2P a2s a2Z
attribute [local go_sem] a6w a8A a3z a3H a2Y a9Y a6M a4d a4Q a5b a6Q a6S a5o a3t a4r a8r Bag.cells_length
def Bag.mix (f:Nat→Nat→Nat) (x y:Bag) (k:Nat):Bag:=⟨if 0 < k then f x.a y.a else x.a,if 1 < k then f x.b y.b else x.b,if 2 < k then f x.c y.c else x.c,if 3 < k then f x.d y.d else x.d⟩
theorem b6m (f:Nat→Nat→Nat) (x y:Bag) (k:Nat) (hk:k < 4):(x.mix f y k).cells.toArray[k]?=some (.int .u64 (x.word k)):=by
 rcases q4 hk with rfl | rfl | rfl | rfl <;> rfl
theorem c0v (f:Nat→Nat→Nat) (x y:Bag) (k:Nat) (hk:k < 4):(x.mix f y k).cells.toArray.setIfInBounds k (.int .u64 (f (x.word k) (y.word k):Nat))=(x.mix f y (k+1)).cells.toArray:=by
 rcases q4 hk with rfl | rfl | rfl | rfl <;> rfl
def orF (a b:Nat):Nat:=a ||| b
def a6U (a b:Nat):Nat:=a &&& b
theorem b5R (a b:Nat) (ha:a < 18446744073709551616) (hb:b < 18446744073709551616):orF a b < 18446744073709551616:=Nat.or_lt_two_pow (n:=64) ha hb
theorem c7w (x y:Bag) (hx:x.ok) (hy:y.ok):(x.mix orF y 4).ok:=by
 obtain ⟨h1,h2,h3,h4⟩:=hx
 obtain ⟨g1,g2,g3,g4⟩:=hy
 exact ⟨b5R _ _ h1 g1,b5R _ _ h2 g2,b5R _ _ h3 g3,b5R _ _ h4 g4⟩
theorem c8i (a b:Nat) (ha:a < 18446744073709551616) (hb:b < 18446744073709551616) (w:World):Calls Tryz.prog 62 #[.int .u64 a,.int .u64 b] w fun e w'=>e=.returned (.int .u64 (orF a b:Nat))∧w=w':=by
 have hb:bits .or .u64 (a:Int) (b:Int)=((orF a b:Nat):Int):=bits_or_u64_nat a b ha hb
 go_enter Tryz.func62,Tryz.ntmps62
 go_wp2
 go_ret
 exact ⟨rfl,rfl⟩
set_option maxHeartbeats 1000000 in
theorem c2n (x y:Bag) (hx:x.ok) (hy:y.ok) (w:World):Calls Tryz.prog 61 #[.agg x.cells.toArray,.agg y.cells.toArray,.func (.func 62) #[] #[]] w fun e w' =>
  e=.returned (.agg (x.mix orF y 4).cells.toArray)∧Below w.heap.size w w':=by
 go_enter Tryz.func61,Tryz.ntmps61
 go_wp2
 go_loopw [11] (fun i wr=>∃ k:Nat,k≤4∧i=.int .i64 k∧Blk wr w.heap.size 47 (x.mix orF y k).cells.toArray∧(∃ cs,Blk wr (w.heap.size+1+1) 47 cs∧cs.size=4)∧Below w.heap.size w wr) (fun i _=>4 - (intOf i).toNat)
 case atStart =>
  refine ⟨0,by omega,rfl,((Blk.new w _ _).alloc _).alloc _,⟨Bag.zero.cells.toArray,?_,rfl⟩,(((Below.refl _ _).alloc (Nat.le_refl _) _).alloc (by simp) _).alloc (by simp;omega) _⟩
  have:=Blk.new ((w.alloc (.cells x.cells.toArray 47)).alloc (.cells y.cells.toArray 47)) 47 Bag.zero.cells.toArray
  rw [World.size_alloc,World.size_alloc] at this
  exact this
 case round =>
  obtain ⟨k,hk,rfl,h1,⟨cs,h2,h3⟩,hb⟩:=hrel
  by_cases hlt:k < 4
  ·have hi:=a4E y k hlt
   have hc:wr.cell? ⟨w.heap.size,k,none⟩=some (.int .u64 (x.word k)):=by rw [h1.cell k];exact b6m orF x y k hlt
   have hf:=h1.frozen k
   have HD:=c8i (x.word k) (y.word k) (x.word_lt hx k) (y.word_lt hy k)
   have HS:=Lib.hid (c0v orF x y k hlt)
   have HH:=Lib.hid (And.intro h1 h2)
   have HB:=Lib.hid hb
   have H3:=Lib.hid h3
   obtain ⟨r,hr⟩:∃ r,orF (x.word k) (y.word k)=r:=⟨_,rfl⟩
   rw [hr] at HD HS
   clear h1 h2 hb h3 hr
   go_wp2_with (go_at_call 62;refine (HD _).mono ?_;rintro e w' ⟨rfl,rfl⟩)
   go_roundw
   case rel =>
    refine ⟨k+1,by omega,by go_num,?_,⟨cs,HH.out.2.far (by simp;omega) _,H3.out⟩,HB.out.setCell (by simp) _⟩
    rw [←HS.out]
    exact HH.out.1.set_ k _
   case measure=>simp [intOf];omega
  ·obtain rfl:k=4:=by omega
   have r1:rd wr ⟨w.heap.size,0,none⟩ 4=some (x.mix orF y 4).cells:=h1.rd_
   have s2:=a4C h2
   rw [h3] at s2
   have HB:=Lib.hid hb
   clear hb h1 h2
   go_wp2
   refine bodyPost_ret (a1E rfl a5n 4 a3R _ _ ⟨w.heap.size+1+1,0,none⟩ (x.mix orF y 4).cells rfl ?_) rfl ?_
   ·exact a4Q _ _ _ _ _ rfl s2 rfl
   ·exact ⟨rfl,a2e HB.out (by omega) _⟩
set_option maxHeartbeats 1000000 in
theorem c8n (x y:Bag) (hx:x.ok) (hy:y.ok) (w:World):Calls Tryz.prog 34 #[.agg x.cells.toArray,.agg y.cells.toArray] w fun e w'=>e=.returned (.agg (x.mix orF y 4).cells.toArray)∧Below w.heap.size w w':=by
 have HC:=c2n x y hx hy
 obtain ⟨z,hz⟩:∃ z,x.mix orF y 4=z:=⟨_,rfl⟩
 rw [hz] at HC ⊢
 clear hz
 have hB0:Below w.heap.size w (((w.alloc (.cells x.cells.toArray 47)).alloc (.cells y.cells.toArray 47)).alloc (.cells Bag.zero.cells.toArray 47)):=(((Below.refl _ w).alloc (Nat.le_refl _) _).alloc (by simp) _).alloc (by simp;omega) _
 have hblk:Blk (((w.alloc (.cells x.cells.toArray 47)).alloc (.cells y.cells.toArray 47)).alloc (.cells Bag.zero.cells.toArray 47)) (w.heap.size+1+1) 47 Bag.zero.cells.toArray:=by
  have:=Blk.new ((w.alloc (.cells x.cells.toArray 47)).alloc (.cells y.cells.toArray 47)) 47 Bag.zero.cells.toArray
  rw [World.size_alloc,World.size_alloc] at this
  exact this
 have HB0:=Lib.hid hB0
 have HK:=Lib.hid hblk
 clear hB0 hblk
 go_enter Tryz.func34,Tryz.ntmps34
 go_wp2_with (go_at_call 61;refine (HC _).mono ?_;rintro e w1 ⟨rfl,hb1⟩;have s1:=a4C (HK.out.below hb1 HK.out.lt);rw [show Bag.zero.cells.toArray.size=4 from rfl] at s1;have HB1:=Lib.hid hb1;clear hb1)
 refine bodyPost_ret (a1E rfl a5n 4 a3R _ _ ⟨w.heap.size+1+1,0,none⟩ z.cells rfl ?_) rfl ?_
 ·exact a4Q _ _ _ _ _ rfl s1 rfl
 ·exact ⟨rfl,a2e (HB0.out.trans (HB1.out.mono (by simp;omega))) (by omega) _⟩
theorem b0u (a b:Nat) (ha:a < 18446744073709551616) (hb:b < 18446744073709551616):a6U a b < 18446744073709551616:=Nat.lt_of_le_of_lt Nat.and_le_left ha
theorem c5B (x y:Bag) (hx:x.ok) (hy:y.ok):(x.mix a6U y 4).ok:=by
 obtain ⟨h1,h2,h3,h4⟩:=hx
 obtain ⟨g1,g2,g3,g4⟩:=hy
 exact ⟨b0u _ _ h1 g1,b0u _ _ h2 g2,b0u _ _ h3 g3,b0u _ _ h4 g4⟩
theorem c4m (a b:Nat) (ha:a < 18446744073709551616) (hb:b < 18446744073709551616) (w:World):Calls Tryz.prog 70 #[.int .u64 a,.int .u64 b] w fun e w'=>e=.returned (.int .u64 (a6U a b:Nat))∧w=w':=by
 have hb:bits .and .u64 (a:Int) (b:Int)=((a6U a b:Nat):Int):=bits_and_u64_nat a b ha hb
 go_enter Tryz.func70,Tryz.ntmps70
 go_wp2
 go_ret
 exact ⟨rfl,rfl⟩
set_option maxHeartbeats 1000000 in
theorem c0y (x y:Bag) (hx:x.ok) (hy:y.ok) (w:World):Calls Tryz.prog 61 #[.agg x.cells.toArray,.agg y.cells.toArray,.func (.func 70) #[] #[]] w fun e w' =>
  e=.returned (.agg (x.mix a6U y 4).cells.toArray)∧Below w.heap.size w w':=by
 go_enter Tryz.func61,Tryz.ntmps61
 go_wp2
 go_loopw [11] (fun i wr=>∃ k:Nat,k≤4∧i=.int .i64 k∧Blk wr w.heap.size 47 (x.mix a6U y k).cells.toArray∧(∃ cs,Blk wr (w.heap.size+1+1) 47 cs∧cs.size=4)∧Below w.heap.size w wr) (fun i _=>4 - (intOf i).toNat)
 case atStart =>
  refine ⟨0,by omega,rfl,((Blk.new w _ _).alloc _).alloc _,⟨Bag.zero.cells.toArray,?_,rfl⟩,(((Below.refl _ _).alloc (Nat.le_refl _) _).alloc (by simp) _).alloc (by simp;omega) _⟩
  have:=Blk.new ((w.alloc (.cells x.cells.toArray 47)).alloc (.cells y.cells.toArray 47)) 47 Bag.zero.cells.toArray
  rw [World.size_alloc,World.size_alloc] at this
  exact this
 case round =>
  obtain ⟨k,hk,rfl,h1,⟨cs,h2,h3⟩,hb⟩:=hrel
  by_cases hlt:k < 4
  ·have hi:=a4E y k hlt
   have hc:wr.cell? ⟨w.heap.size,k,none⟩=some (.int .u64 (x.word k)):=by rw [h1.cell k];exact b6m a6U x y k hlt
   have hf:=h1.frozen k
   have HD:=c4m (x.word k) (y.word k) (x.word_lt hx k) (y.word_lt hy k)
   have HS:=Lib.hid (c0v a6U x y k hlt)
   have HH:=Lib.hid (And.intro h1 h2)
   have HB:=Lib.hid hb
   have H3:=Lib.hid h3
   obtain ⟨r,hr⟩:∃ r,a6U (x.word k) (y.word k)=r:=⟨_,rfl⟩
   rw [hr] at HD HS
   clear h1 h2 hb h3 hr
   go_wp2_with (go_at_call 70;refine (HD _).mono ?_;rintro e w' ⟨rfl,rfl⟩)
   go_roundw
   case rel =>
    refine ⟨k+1,by omega,by go_num,?_,⟨cs,HH.out.2.far (by simp;omega) _,H3.out⟩,HB.out.setCell (by simp) _⟩
    rw [←HS.out]
    exact HH.out.1.set_ k _
   case measure=>simp [intOf];omega
  ·obtain rfl:k=4:=by omega
   have r1:rd wr ⟨w.heap.size,0,none⟩ 4=some (x.mix a6U y 4).cells:=h1.rd_
   have s2:=a4C h2
   rw [h3] at s2
   have HB:=Lib.hid hb
   clear hb h1 h2
   go_wp2
   refine bodyPost_ret (a1E rfl a5n 4 a3R _ _ ⟨w.heap.size+1+1,0,none⟩ (x.mix a6U y 4).cells rfl ?_) rfl ?_
   ·exact a4Q _ _ _ _ _ rfl s2 rfl
   ·exact ⟨rfl,a2e HB.out (by omega) _⟩
set_option maxHeartbeats 1000000 in
theorem c5I (x y:Bag) (hx:x.ok) (hy:y.ok) (w:World):Calls Tryz.prog 44 #[.agg x.cells.toArray,.agg y.cells.toArray] w fun e w'=>e=.returned (.agg (x.mix a6U y 4).cells.toArray)∧Below w.heap.size w w':=by
 have HC:=c0y x y hx hy
 obtain ⟨z,hz⟩:∃ z,x.mix a6U y 4=z:=⟨_,rfl⟩
 rw [hz] at HC ⊢
 clear hz
 have hB0:Below w.heap.size w (((w.alloc (.cells x.cells.toArray 47)).alloc (.cells y.cells.toArray 47)).alloc (.cells Bag.zero.cells.toArray 47)):=(((Below.refl _ w).alloc (Nat.le_refl _) _).alloc (by simp) _).alloc (by simp;omega) _
 have hblk:Blk (((w.alloc (.cells x.cells.toArray 47)).alloc (.cells y.cells.toArray 47)).alloc (.cells Bag.zero.cells.toArray 47)) (w.heap.size+1+1) 47 Bag.zero.cells.toArray:=by
  have:=Blk.new ((w.alloc (.cells x.cells.toArray 47)).alloc (.cells y.cells.toArray 47)) 47 Bag.zero.cells.toArray
  rw [World.size_alloc,World.size_alloc] at this
  exact this
 have HB0:=Lib.hid hB0
 have HK:=Lib.hid hblk
 clear hB0 hblk
 go_enter Tryz.func44,Tryz.ntmps44
 go_wp2_with (go_at_call 61;refine (HC _).mono ?_;rintro e w1 ⟨rfl,hb1⟩;have s1:=a4C (HK.out.below hb1 HK.out.lt);rw [show Bag.zero.cells.toArray.size=4 from rfl] at s1;have HB1:=Lib.hid hb1;clear hb1)
 refine bodyPost_ret (a1E rfl a5n 4 a3R _ _ ⟨w.heap.size+1+1,0,none⟩ z.cells rfl ?_) rfl ?_
 ·exact a4Q _ _ _ _ _ rfl s1 rfl
 ·exact ⟨rfl,a2e (HB0.out.trans (HB1.out.mono (by simp;omega))) (by omega) _⟩
end Go.Proofs.YtdbbbafiegpbpaaGreatDoor
namespace Go.Proofs.YtdbbbafiegpbpaaGreatDoor
set_option linter.unusedSimpArgs false
set_option linter.unusedVariables false
set_option maxRecDepth 10000
def bun (x y:Bag):Bag:=x.mix orF y 4
theorem a9f {x y:Bag} (hx:x.ok) (hy:y.ok):(bun x y).ok:=c7w x y hx hy
theorem b1k (x y:Bag) (k:Nat):(bun x y).has k=(x.has k||y.has k):=by
 unfold Bag.has bun
 have:∀ q,(x.mix orF y 4).word q=orF (x.word q) (y.word q):=fun q=>by
  match q with
  | 0=>rfl
  | 1=>rfl
  | 2=>rfl
  | q+3=>rfl
 rw [this]
 unfold orF
 rw [Nat.testBit_or]
theorem c3C {x y:Bag} (h:∀ q,q < 4→x.word q=y.word q):x=y:=by
 cases x;cases y
 have h0:=h 0 (by omega);have h1:=h 1 (by omega);have h2:=h 2 (by omega);have h3:=h 3 (by omega)
 simp only [Bag.word] at h0 h1 h2 h3
 subst h0;subst h1;subst h2;subst h3;rfl
theorem b1H (x y:Bag) (q:Nat) (hq:q < 4):(bun x y).word q=x.word q ||| y.word q:=by
 match q,hq with
 | 0,_=>rfl
 | 1,_=>rfl
 | 2,_=>rfl
 | 3,_=>rfl
theorem b5J (x y:Bag):bun x y=bun y x:=c3C fun q hq=>by rw [b1H _ _ q hq,b1H _ _ q hq,Nat.or_comm]
theorem b3b (x y z:Bag):bun (bun x y) z=bun x (bun y z):=c3C fun q hq=>by simp only [b1H _ _ q hq,Nat.or_assoc]
theorem a9A (x y z:Bag):bun (bun x y) z=bun (bun x z) y:=by rw [b3b,b5J y z,←b3b]
def a3f (n:Nat):Bag:=Bag.zero.with_ (n:Int)
theorem b3g (n:Nat):(a3f n).ok:=Bag.with_ok _ Bag.zero_ok _
theorem a5H (n k:Nat) (hk:k < 256):(a3f n).has k=decide (k=n):=by
 unfold a3f
 rw [Bag.with_has _ _ _ hk,Bag.zero_has,Bool.or_false]
 exact decide_eq_decide.2 (by omega)
structure Pc where
 first:Bag
 ends:Bag
 empty:Bool
instance:Inhabited Pc:=⟨⟨Bag.zero,Bag.zero,false⟩⟩
def Pc.ok (p:Pc):Prop:=p.first.ok∧p.ends.ok
def Pc.nil:Pc:=⟨Bag.zero,Bag.zero,true⟩
theorem Pc.nil_ok:Pc.nil.ok:=⟨Bag.zero_ok,Bag.zero_ok⟩
def Pc.join (a b:Pc):Pc:=⟨if a.empty then bun a.first b.first else a.first,if b.empty then bun b.ends a.ends else b.ends,a.empty&&b.empty⟩
theorem Pc.join_ok {a b:Pc} (ha:a.ok) (hb:b.ok):(a.join b).ok:=by
 unfold Pc.join Pc.ok
 constructor
 ·dsimp only;split;exact a9f ha.1 hb.1;exact ha.1
 ·dsimp only;split;exact a9f hb.2 ha.2;exact hb.2
abbrev Lk:=Bag×Bag
def a1W (β:Nat→Bag) (q:Lk):Nat→Bag:=fun p=>if q.1.has p=true then bun (β p) q.2 else β p
theorem b7j (β:Nat→Bag) (q r:Lk):a1W (a1W β q) r=a1W (a1W β r) q:=by
 funext p
 unfold a1W
 by_cases h1:q.1.has p=true <;> by_cases h2:r.1.has p=true <;> simp [h1,h2,a9A]
def links (β:Nat→Bag) (l:List Lk):Nat→Bag:=l.foldl a1W β
theorem a0M (β:Nat→Bag) (l k:List Lk):links β (l++k)=links (links β l) k:=List.foldl_append ..
theorem b6Z {l k:List Lk} (h:l.Perm k) (β:Nat→Bag):links β l=links β k:=by
 induction h generalizing β with
 | nil=>rfl
 | cons q _ ih=>exact ih (a1W β q)
 | swap q r l=>show links (a1W (a1W β r) q) l=links (a1W (a1W β q) r) l;rw [b7j]
 | trans _ _ ih1 ih2=>exact (ih1 β).trans (ih2 β)
def Lks (N:Nat) (l:List Lk):Prop:=∀ q∈l,q.1.ok∧q.2.ok∧∀ p,N≤p→p < 256→q.1.has p=false
theorem Lks.app {N:Nat} {l k:List Lk} (h:Lks N l) (h2:Lks N k):Lks N (l++k):=fun q hq=>by
 rcases List.mem_append.1 hq with hq | hq
 ·exact h q hq
 ·exact h2 q hq
theorem Lks.mono {N M:Nat} {l:List Lk} (h:Lks N l) (hM:N≤M):Lks M l:=fun q hq=>⟨(h q hq).1,(h q hq).2.1,fun p hp=>(h q hq).2.2 p (Nat.le_trans hM hp)⟩
theorem a1h {N:Nat}:∀ {l:List Lk} {β:Nat→Bag},Lks N l→(∀ p,(β p).ok)→∀ p,(links β l p).ok
  | [],_,_,h,p=>h p
  | q :: l, β, hl, h, p => a1h (l := l) (β := a1W β q) (fun r hr => hl r (List.mem_cons_of_mem _ hr)) (fun p => by
    have:=hl q (List.mem_cons_self ..)
    unfold a1W;split
    · exact a9f (h p) this.2.1
    · exact h p) p
theorem a2B {N:Nat}:∀ {l:List Lk} {β:Nat→Bag},Lks N l→(∀ p,N≤p→p < 256→β p=Bag.zero)→∀ p,N≤p→p < 256→links β l p=Bag.zero
  | [],_,_,h,p,hp,h2=>h p hp h2
  | q :: l, β, hl, h, p, hp, h2 => a2B (l := l) (β := a1W β q) (fun r hr => hl r (List.mem_cons_of_mem _ hr)) (fun p hp h2 => by
    unfold a1W;rw [if_neg (by rw [(hl q (List.mem_cons_self ..)).2.2 p hp h2];decide)];exact h p hp h2) p hp h2
def InB (N M:Nat) (x:Bag):Prop:=∀ p,p < 256→x.has p=true→N≤p∧p < M
def Pc.inB (N M:Nat) (p:Pc):Prop:=InB N M p.first∧InB N M p.ends
theorem a3j (N M:Nat):InB N M Bag.zero:=fun p _ h=>by rw [Bag.zero_has] at h;cases h
theorem b2Z {N M:Nat} {x y:Bag} (hx:InB N M x) (hy:InB N M y):InB N M (bun x y):=fun p hp h=>by
 rw [b1k,Bool.or_eq_true] at h
 rcases h with h | h
 ·exact hx p hp h
 ·exact hy p hp h
theorem InB.mono {N M N' M':Nat} {x:Bag} (h:InB N M x) (h1:N'≤N) (h2:M≤M'):InB N' M' x:=fun p hq hp=>by have:=h p hq hp;omega
theorem Pc.inB.mono {N M N' M':Nat} {x:Pc} (h:x.inB N M) (h1:N'≤N) (h2:M≤M'):x.inB N' M':=⟨InB.mono h.1 h1 h2,InB.mono h.2 h1 h2⟩
theorem Pc.inB_nil (N M:Nat):Pc.nil.inB N M:=⟨a3j N M,a3j N M⟩
theorem Pc.inB_join {N M:Nat} {a b:Pc} (ha:a.inB N M) (hb:b.inB N M):(a.join b).inB N M:=by
 unfold Pc.join Pc.inB
 constructor
 ·dsimp only;split;exact b2Z ha.1 hb.1;exact ha.1
 ·dsimp only;split;exact b2Z hb.2 ha.2;exact hb.2
def a0j (lo hi:Int):Nat:=(if hi < 0 then (if 1 > lo then 1 else lo) else hi).toNat
mutual
def T.w:T→Nat
 | .name _=>1
 | .times lo hi t=>t.w * a0j lo hi
 | .many _ ts=>T.wL ts
def T.wL:List T→Nat
 | []=>0
 | t::ts=>t.w+T.wL ts
end
structure Ly where
 on:List Bag
 lk:List Lk
 pc:Pc
instance:Inhabited Ly:=⟨⟨[],[],default⟩⟩
def a3S (lo hi:Int) (g:Nat→Ly) (many:Nat):Nat→List Bag×List Lk×Pc×List Pc
  | 0=>([],[],Pc.nil,[])
  | k + 1 =>
    let (on,lk,out,rest):=a3S lo hi g many k
    let x:=g k
    let lk1:=lk++x.lk++(if hi < 0∧k+1=many then [(x.pc.ends,x.pc.first)] else [])
    if (k:Int) < lo then (on++x.on,lk1++[(out.ends,x.pc.first)],out.join x.pc,rest) else (on++x.on,lk1,out,rest++[x.pc])
def a1X:List Pc→List Lk×Pc
 | []=>([],Pc.nil)
 | x::r=>((a1X r).1++[(x.ends,(a1X r).2.first)],{ x.join (a1X r).2 with empty:=true })
def a6V (lo hi:Int) (g:Nat→Ly):Ly :=
 let (on,lk,out,rest):=a3S lo hi g (a0j lo hi) (a0j lo hi)
 ⟨on,lk++(a1X rest).1++[(out.ends,(a1X rest).2.first)],out.join (a1X rest).2⟩
mutual
def lay (m:List UInt8→Bag):T→Nat→Ly
 | .name s,N=>⟨[m s],[],⟨a3f N,a3f N,false⟩⟩
 | .times lo hi t,N=>a6V lo hi (fun k=>lay m t (N+k * t.w))
 | .many k ts,N=>if k=3 then a5J m ts N ⟨[],[],default⟩ else a5I m ts N ⟨[],[],Pc.nil⟩
def a5J (m:List UInt8→Bag):List T→Nat→Ly→Ly
 | [],_,a=>a
 | t::ts,N,a=>a5J m ts (N+t.w) ⟨a.on++(lay m t N).on,a.lk++(lay m t N).lk,⟨bun a.pc.first (lay m t N).pc.first,bun a.pc.ends (lay m t N).pc.ends,a.pc.empty||(lay m t N).pc.empty⟩⟩
def a5I (m:List UInt8→Bag):List T→Nat→Ly→Ly
 | [],_,a=>a
 | t::ts,N,a=>a5I m ts (N+t.w) ⟨a.on++(lay m t N).on,a.lk++(lay m t N).lk++[(a.pc.ends,(lay m t N).pc.first)],a.pc.join (lay m t N).pc⟩
end
structure Ly.Ok (N w:Nat) (x:Ly):Prop where
 len:x.on.length=w
 on:∀ b∈x.on,b.ok
 lk:Lks (N+w) x.lk
 pc:x.pc.ok
 inB:x.pc.inB N (N+w)
theorem a5l {N M:Nat} {a b:Bag} (ha:a.ok) (hb:b.ok) (hi:InB N M a):Lks M [(a,b)]:=fun q hq=>by
 rw [List.mem_singleton] at hq;subst hq
 refine ⟨ha,hb,fun p hp h2=>?_⟩
 cases h:a.has p with
 | false=>rfl
 | true=>have:=hi p h2 h;omega
theorem b1N {lo hi:Int} {g:Nat→Ly} {many N w:Nat} (hg:∀ k,k < many→(g k).Ok (N+k * w) w):∀ k,k≤many →
    (a3S lo hi g many k).1.length=k * w∧(∀ b∈(a3S lo hi g many k).1,b.ok)∧Lks (N+k * w) (a3S lo hi g many k).2.1∧(a3S lo hi g many k).2.2.1.ok∧(a3S lo hi g many k).2.2.1.inB N (N+k * w)∧∀ p∈(a3S lo hi g many k).2.2.2,p.ok∧p.inB N (N+k * w)
  | 0,_=>⟨by simp [a3S],fun b hb=>by simp [a3S] at hb,fun q hq=>by simp [a3S] at hq,Pc.nil_ok,Pc.inB_nil _ _,fun p hp=>by simp [a3S] at hp⟩
  | k + 1, h => by
    obtain ⟨h1,h2,h3,h4,h5,h6⟩:=b1N hg k (by omega)
    have hx:=hg k (by omega)
    have e:N+k * w+w=N+(k+1) * w:=by rw [Nat.succ_mul];omega
    have hlk:Lks (N+(k+1) * w) ((a3S lo hi g many k).2.1++(g k).lk++(if hi < 0∧k+1=many then [((g k).pc.ends,(g k).pc.first)] else [])):=by
      refine ((h3.mono (by omega)).app (by rw [←e];exact hx.lk)).app ?_
      split
      · rw [←e];exact a5l hx.pc.2 hx.pc.1 hx.inB.2
      · exact fun q hq=>by cases hq
    have hlen:((a3S lo hi g many k).1++(g k).on).length=(k+1) * w:=by rw [List.length_append,h1,hx.len,Nat.succ_mul]
    have hon:∀ b∈(a3S lo hi g many k).1++(g k).on,b.ok:=fun b hb=>by
      rcases List.mem_append.1 hb with hb | hb
      · exact h2 b hb
      · exact hx.on b hb
    have hin:(g k).pc.inB N (N+(k+1) * w):=hx.inB.mono (by omega) (by omega)
    simp only [a3S]
    split
    · refine ⟨hlen,hon,hlk.app (a5l h4.2 hx.pc.1 (h5.2.mono (Nat.le_refl _) (by omega))),Pc.join_ok h4 hx.pc,Pc.inB_join (h5.mono (Nat.le_refl _) (by omega)) hin,fun p hp=>⟨(h6 p hp).1,(h6 p hp).2.mono (Nat.le_refl _) (by omega)⟩⟩
    · refine ⟨hlen,hon,hlk,h4,h5.mono (Nat.le_refl _) (by omega),fun p hp=>?_⟩
      rcases List.mem_append.1 hp with hp | hp
      · exact ⟨(h6 p hp).1,(h6 p hp).2.mono (Nat.le_refl _) (by omega)⟩
      · rw [List.mem_singleton] at hp;subst hp;exact ⟨hx.pc,hin⟩
theorem a6v {N M:Nat}:∀ {l:List Pc},(∀ p∈l,p.ok∧p.inB N M)→Lks M (a1X l).1∧(a1X l).2.ok∧(a1X l).2.inB N M
  | [],_=>⟨fun q hq=>by simp [a1X] at hq,Pc.nil_ok,Pc.inB_nil _ _⟩
  | x :: r, h => by
    obtain ⟨h1,h2,h3⟩:=a6v (l:=r) (fun p hp=>h p (List.mem_cons_of_mem _ hp))
    have hx:=h x (List.mem_cons_self ..)
    exact ⟨h1.app (a5l hx.1.2 h2.1 hx.2.2),Pc.join_ok hx.1 h2,Pc.inB_join hx.2 h3⟩
theorem c4Z {lo hi:Int} {g:Nat→Ly} {N w:Nat} (hg:∀ k,k < a0j lo hi→(g k).Ok (N+k * w) w):(a6V lo hi g).Ok N (w * a0j lo hi):=by
 obtain ⟨h1,h2,h3,h4,h5,h6⟩:=b1N (lo:=lo) (hi:=hi) hg (a0j lo hi) (Nat.le_refl _)
 obtain ⟨t1,t2,t3⟩:=a6v h6
 rw [Nat.mul_comm] at h1 h3 h5 t1 t3
 exact ⟨h1,h2,(h3.app t1).app (a5l h4.2 t2.1 h5.2),Pc.join_ok h4 t2,Pc.inB_join h5 t3⟩
theorem b0j:(default:Pc).ok:=⟨Bag.zero_ok,Bag.zero_ok⟩
mutual
theorem a3N {m:List UInt8→Bag} (hm:∀ s,(m s).ok):∀ (t:T) (N:Nat),N+t.w≤256→(lay m t N).Ok N t.w
  | .name s, N, h => by
    simp only [T.w] at h
    refine ⟨rfl,fun b hb=>by simp [lay] at hb;subst hb;exact hm s,fun q hq=>by simp [lay] at hq,⟨b3g N,b3g N⟩,?_⟩
    have:InB N (N+1) (a3f N):=fun p hp h=>by rw [a5H _ _ hp] at h;have:=of_decide_eq_true h;omega
    exact ⟨this,this⟩
  | .times lo hi t, N, h => by
    simp only [T.w] at h ⊢
    refine c4Z (fun k hk=>a3N hm t (N+k * t.w) ?_)
    have:(k+1) * t.w≤a0j lo hi * t.w:=Nat.mul_le_mul_right _ hk
    rw [Nat.succ_mul] at this
    rw [Nat.mul_comm] at h
    omega
  | .many k ts, N, h => by
    simp only [T.w] at h
    simp only [lay,T.w]
    split
    · have:=b4A hm ts N N ⟨[],[],default⟩ (by omega) (Nat.le_refl _) ⟨by simp,fun b hb=>(by cases hb),fun q hq=>(by cases hq),b0j,⟨a3j _ _,a3j _ _⟩⟩
      simpa using this
    · have:=b4O hm ts N N ⟨[],[],Pc.nil⟩ (by omega) (Nat.le_refl _) ⟨by simp,fun b hb=>(by cases hb),fun q hq=>(by cases hq),Pc.nil_ok,Pc.inB_nil _ _⟩
      simpa using this
theorem b4A {m:List UInt8→Bag} (hm:∀ s,(m s).ok):∀ (ts:List T) (N N0:Nat) (a:Ly),N+T.wL ts≤256→N0≤N→a.Ok N0 (N - N0)→(a5J m ts N a).Ok N0 (N+T.wL ts - N0)
  | [],N,N0,a,h,hn,ha=>by simpa [a5J,T.wL] using ha
  | t :: ts, N, N0, a, h, hn, ha => by
    simp only [T.wL] at h ⊢
    have ht:=a3N hm t N (by omega)
    have e:N+t.w - N0=(N - N0)+t.w:=by omega
    have:=b4A hm ts (N+t.w) N0 ⟨a.on++(lay m t N).on,a.lk++(lay m t N).lk,⟨bun a.pc.first (lay m t N).pc.first,bun a.pc.ends (lay m t N).pc.ends,a.pc.empty||(lay m t N).pc.empty⟩⟩ (by omega) (by omega)
      ⟨by rw [List.length_append,ha.len,ht.len,e],fun b hb=>(List.mem_append.1 hb).elim (ha.on b) (ht.on b),(ha.lk.mono (by omega)).app (ht.lk.mono (by omega)),⟨a9f ha.pc.1 ht.pc.1,a9f ha.pc.2 ht.pc.2⟩,
        ⟨b2Z (ha.inB.1.mono (Nat.le_refl _) (by omega)) (ht.inB.1.mono hn (by omega)),b2Z (ha.inB.2.mono (Nat.le_refl _) (by omega)) (ht.inB.2.mono hn (by omega))⟩⟩
    rw [show N+(t.w+T.wL ts) - N0=N+t.w+T.wL ts - N0 by omega]
    exact this
theorem b4O {m:List UInt8→Bag} (hm:∀ s,(m s).ok):∀ (ts:List T) (N N0:Nat) (a:Ly),N+T.wL ts≤256→N0≤N→a.Ok N0 (N - N0)→(a5I m ts N a).Ok N0 (N+T.wL ts - N0)
  | [],N,N0,a,h,hn,ha=>by simpa [a5I,T.wL] using ha
  | t :: ts, N, N0, a, h, hn, ha => by
    simp only [T.wL] at h ⊢
    have ht:=a3N hm t N (by omega)
    have e:N+t.w - N0=(N - N0)+t.w:=by omega
    have hae:InB N0 (N0+(N+t.w - N0)) a.pc.ends:=ha.inB.2.mono (Nat.le_refl _) (by omega)
    have:=b4O hm ts (N+t.w) N0 ⟨a.on++(lay m t N).on,a.lk++(lay m t N).lk++[(a.pc.ends,(lay m t N).pc.first)],a.pc.join (lay m t N).pc⟩ (by omega) (by omega)
      ⟨by rw [List.length_append,ha.len,ht.len,e],fun b hb=>(List.mem_append.1 hb).elim (ha.on b) (ht.on b),((ha.lk.mono (by omega)).app (ht.lk.mono (by omega))).app (a5l ha.pc.2 ht.pc.1 hae),Pc.join_ok ha.pc ht.pc,
        Pc.inB_join (ha.inB.mono (Nat.le_refl _) (by omega)) (ht.inB.mono hn (by omega))⟩
    rw [show N+(t.w+T.wL ts) - N0=N+t.w+T.wL ts - N0 by omega]
    exact this
end
end Go.Proofs.YtdbbbafiegpbpaaGreatDoor
namespace Go.Proofs.YtdbbbafiegpbpaaGreatDoor
set_option linter.unusedSimpArgs false
set_option linter.unusedVariables false
set_option maxRecDepth 100000
set_option maxHeartbeats 1000000
open Go.RowKit
@[reducible] def a6R (n:Nat):HV:=.imm (.int .u64 (n:Int))
@[reducible] def a2I (x:Bag):Nat→HV:=fun j=>a6R (x.word j)
@[reducible] def bagH (x:Bag):HV:=.agg 4 (a2I x)
@[reducible] def a4p (l:List Int):Nat→Nat→HV:=fun i _=>intV (l.getD i 0)
@[reducible] def a0m (l:List Int):HV:=.sl 1 l.length (a4p l)
theorem b4C {sh:List (Nat×HObj)} {a b:Int} (h:a=b):Fz sh (intV a) (intV b):=by subst h;exact .imm _
theorem a6l {w:World} {E:Env} {v:Value} {x:Bag} (h:Rep w E v (bagH x)):v=.agg x.cells.toArray:=by
  cases h with
  | agg cs _ _ vs hn hv hr =>
    congr 1
    apply Array.ext_getElem?
    intro i
    by_cases hi:i < 4
    · rw [(hv i hi).1]
      have:=(hr i hi).imm_inv
      rw [this]
      match i,hi with
      | 0,_=>rfl
      | 1,_=>rfl
      | 2,_=>rfl
      | 3,_=>rfl
    · rw [Array.getElem?_eq_none (by omega),Array.getElem?_eq_none (by simp [Bag.cells];omega)]
theorem c5b {w:World} {E:Env} (x:Bag):Rep w E (.agg x.cells.toArray) (bagH x):=.agg _ 4 _ (fun j=>.int .u64 (x.word j)) (by simp [Bag.cells]) (fun i hi=>by
 match i,hi with
 | 0,_=>exact ⟨rfl,rfl⟩
 | 1,_=>exact ⟨rfl,rfl⟩
 | 2,_=>exact ⟨rfl,rfl⟩
 | 3,_=>exact ⟨rfl,rfl⟩) (fun i hi=>.imm _)
theorem a8c {w w':World} {F:Addr→Prop} {x:Bag} (hF:∀ a,F a→a.spot=none∧(w.cell? a).isSome=true) (hb:Below w.heap.size w w'):a0Z w F (bagH x) (.returned (.agg x.cells.toArray)) w' :=
 ⟨hb,_,F,rfl,fun _ h=>h,fun _ h=>.inl h,fun a ha=>⟨(hF a ha).1,by rw [World.cell?_of_block (hb.block _ (a1p (hF a ha).2))];exact (hF a ha).2⟩,c5b x⟩
instance frz_bag (x:Bag):Frz (bagH x):=⟨.agg _ _ _ fun _ _=>.imm _⟩
instance frz_bagp (x:Bag):Frz (.fp 4 (a2I x)):=⟨.fp _ _ (Nat.le_refl _) _ _ fun _ _=>.imm _⟩
instance frz_fny (f:Fn) (c:Nat→HV):Frz (.fn f 0 c):=⟨.fn _ 0 _ _ (fun i hi=>absurd hi (Nat.not_lt_zero _))⟩
instance frz_iList (l:List Int):Frz (a0m l):=⟨.sl _ _ _ _ fun _ _ _ _=>.imm _⟩
theorem c3p (x:Bag) (hx:x.ok) (n:Int):HPure Tryz.prog 37 [bagH x,intV n] (bagH (x.with_ n)):=by
 refine ⟨⟨_,_,Tryz.func37,rfl,by kernel_rfl⟩,fun w F vs hF hr hw=>?_⟩
 obtain ⟨u,v,rfl,hu,hv⟩:=c6v hr
 rw [a6l hu,hv.imm_inv]
 refine (b6o x hx n w).mono ?_
 rintro e w' ⟨rfl,hb⟩
 exact a8c hF hb
theorem c5a (x y:Bag) (hx:x.ok) (hy:y.ok):HPure Tryz.prog 34 [bagH x,bagH y] (bagH (bun x y)):=by
 refine ⟨⟨_,_,Tryz.func34,rfl,by kernel_rfl⟩,fun w F vs hF hr hw=>?_⟩
 obtain ⟨u,v,rfl,hu,hv⟩:=c6v hr
 rw [a6l hu,a6l hv]
 refine (c8n x y hx hy w).mono ?_
 rintro e w' ⟨rfl,hb⟩
 exact a8c hF hb
theorem c9g (x y:Bag) (hx:x.ok) (hy:y.ok):HPure Tryz.prog 44 [bagH x,bagH y] (bagH (x.mix a6U y 4)):=by
 refine ⟨⟨_,_,Tryz.func44,rfl,by kernel_rfl⟩,fun w F vs hF hr hw=>?_⟩
 obtain ⟨u,v,rfl,hu,hv⟩:=c6v hr
 rw [a6l hu,a6l hv]
 refine (c5I x y hx hy w).mono ?_
 rintro e w' ⟨rfl,hb⟩
 exact a8c hF hb
theorem c9p (l:List Int) (hl:l.length≤1000000):HPure Tryz.prog 27 [a0m l] (bagH (a2V l)):=by
 refine ⟨⟨_,_,Tryz.func27,rfl,by kernel_rfl⟩,fun w F vs hF hr hw=>?_⟩
 obtain ⟨v,rfl,hv⟩:=c7L hr
 obtain ⟨A,c,rfl,hc,hm,hs⟩:=b8A 1 a4T (fun _=>rfl) (fun x _=>intV x) (fun x j hj=>by obtain rfl:j=0:=(by omega);rfl) 0 l hv
 refine (c6E A l.length c w.heap.size l w rfl hs (Nat.le_refl _) hl).mono ?_
 rintro e w' ⟨rfl,hb⟩
 exact a8c hF hb
theorem b3G {w:World} (hw:LibW w):a7B w∧0 < w.heap.size:=by
 have h2:=hw.dbt (by unfold hasLib;kernel_rfl)
 have hn:Tryz.prog.globalNamed "math/bits.deBruijn64tab" = some 0:=by kernel_rfl
 refine ⟨fun j hj=>?_,hw.ok _ ⟨_,by simp [a3h],hn⟩⟩
 have:=h2.cell hn j (by simpa [Lib.deBruijn64tab] using hj)
 rw [this]
 simp only [List.getD_eq_getElem?_getD,List.getElem?_map]
 cases Lib.deBruijn64tab[j]? <;> rfl
theorem c9Y (y:Nat) (hy:y < 18446744073709551616) (h0:y≠0):HPure Tryz.prog 60 [a6R y] (intV (Lib.ctz 64 y)):=by
 refine ⟨⟨_,_,Tryz.func60,rfl,by kernel_rfl⟩,fun w F vs hF hr hw=>?_⟩
 obtain ⟨v,rfl,hv⟩:=c7L hr
 rw [hv.imm_inv]
 refine (a4b y hy h0 w (b3G hw).1).mono ?_
 rintro e w' ⟨rfl,rfl⟩
 exact a8i hF (Below.refl _ _)
theorem c2d (x:Bag):HPure Tryz.prog 33 [bagH x] (.fn (.func 59) 1 (fun i=>[HV.fp 4 (a2I x)].getD i default)):=by
 refine a0k Tryz.func33 rfl kr _ _ _ rfl 4 rfl rfl (fun w F=>?_)
 refine ru 13 ?_
 refine a5f rfl (a0h rfl) [(1,_)] rfl (a0i rfl a0g) ?_
 exact .fn _ _ _ _ (fun i hi=>by obtain rfl:i=0:=(by simpa using hi);exact .pt 1 0 0 0 4 _ (a2I x) (List.mem_cons_self ..) rfl (Nat.lt_succ_self 0) (Nat.le_refl 4) (fun j hj=>by show Fz _ (a2I x (0+j)) (a2I x j);rw [Nat.zero_add];exact .imm _))
def c9I (P:Program) (T:TypeId):Option Nat:=match P.underlying T with
  | some (.array len e) => match tyOf P e with
    | some (false,1)=>some len
    | _=>none
  | _=>none
section
variable {P:Program} {ov:Nat→Option HV} {g:Nat} {d:Option Tmp} {ty T:TypeId} {pos:String} {af:Array Edge} {x y:Operand} {gd:Option (Nat×Bool)}
theorem b6O {n:Nat} {f:Nat→HV} {k:IntKind} {i:Int} (hT:c9I P T=some n) (h1:ovl ov x=some (.agg n f)) (h2:ovl ov y=some (.imm (.int k i))) (hi0:0≤i) (hi:i < (n:Int)) :
    HOp P ⟨d,.index T x y,ty,pos,af,gd⟩ ov g [] (f i.toNat) [] :=
  a0q fun w E ρ hr=>by
    have e1:=hr x _ (by simp [Op.operands]) h1
    have e2:=Rep.imm_inv (hr y _ (by simp [Op.operands]) h2)
    unfold c9I at hT
    split at hT
    · rename_i len' e hu
      split at hT
      · rename_i ht
        injection hT with hT
        subst hT
        generalize hv:ρ x=v at e1
        cases e1 with
        | agg cs _ _ vs hn hc hrep =>
          refine ⟨vs i.toNat,?_,hrep _ (by omega)⟩
          have hcs:=(hc i.toNat (by omega)).1
          simp [execOp,hv,e2,Instr.index,asIntOf,run_underlying hu,hi0,hi,part,(a2Q ht).1,(a2Q ht).2.1,hcs]
      · cases hT
    · cases hT
end
theorem c1m (x:Bag) (k:Nat) (hk:k < 4):(x.part (k+1)).length=(x.part k).length+(a3K (x.word k)).length:=by
 show (x.part k++a6f k (a3K (x.word k))).length=_
 rw [List.length_append];simp [a6f]
theorem b5K (x:Bag):∀ k m,m≤k→∃ r,x.part k=x.part m++r
  | 0,m,h=>⟨[],by obtain rfl:m=0:=(by omega);simp⟩
  | k + 1, m, h => by
    by_cases e:m=k+1
    · subst e;exact ⟨[],by simp⟩
    · obtain ⟨r,hr⟩:=b5K x k m (by omega)
      exact ⟨r++a6f k (a3K (x.word k)),by show x.part k++_=_;rw [hr,List.append_assoc]⟩
theorem c6i (x:Bag) (k m:Nat) (hk:k < 4) (hm:m < (a3K (x.word k)).length):(x.part k).length+m < x.list.length∧x.list.getD ((x.part k).length+m) 0=((64 * k+(a3K (x.word k)).getD m 0:Nat):Int):=by
 obtain ⟨r,hr⟩:=b5K x 4 (k+1) (by omega)
 have e:x.list=x.part k++(a6f k (a3K (x.word k))++r):=by
  unfold Bag.list
  rw [hr]
  show x.part k++a6f k (a3K (x.word k))++r=_
  rw [List.append_assoc]
 have hl:(a6f k (a3K (x.word k))).length=(a3K (x.word k)).length:=by simp [a6f]
 refine ⟨by rw [e,List.length_append,List.length_append,hl];omega,?_⟩
 rw [e,List.getD_eq_getElem?_getD,List.getElem?_append_right (by omega),Nat.add_sub_cancel_left,List.getElem?_append_left (by omega)]
 simp only [a6f,List.getElem?_map,List.getD_eq_getElem?_getD]
 rw [List.getElem?_eq_getElem hm]
 simp
theorem b8e {w y m:Nat} (hy:y≠0) (hlt:y < 18446744073709551616) (hd:(a3K w).drop m=a3K y):m < (a3K w).length∧(a3K w).getD m 0=Lib.ctz 64 y∧(a3K w).drop (m+1)=a3K (y &&& (y - 1)):=by
 have h:=(a8J y hy hlt).2
 rw [h] at hd
 have hm:m < (a3K w).length:=by
  rcases Nat.lt_or_ge m (a3K w).length with h1 | h1
  ·exact h1
  ·rw [List.drop_eq_nil_of_le h1] at hd;cases hd
 rw [List.drop_eq_getElem_cons hm] at hd
 injection hd with h1 h2
 exact ⟨hm,by rw [List.getD_eq_getElem?_getD,List.getElem?_eq_getElem hm];exact h1,h2⟩
theorem c1z {w m:Nat} (hd:(a3K w).drop m=a3K 0) (hm:m≤(a3K w).length):m=(a3K w).length:=by
 rw [b2H] at hd
 have:=congrArg List.length hd
 rw [List.length_drop] at this
 simp at this
 omega
theorem c5L {y:Nat} (hy:y < 18446744073709551616) (h0:y≠0):(.imm (.int .u64 (bits .and .u64 (y:Int) ((y:Int) - 1))):HV)=a6R (y &&& (y - 1)):=by
 have e:((y:Int) - 1)=((y - 1:Nat):Int):=by omega
 rw [e,c9i (y:Int) y (y - 1) rfl hy (by omega)]
theorem b5a (bg:Bag) (hbg:bg.ok):b9S Tryz.prog 59 [.fp 4 (a2I bg)] bg.list.length (fun i=>[intV (bg.list.getD i 0)]):=by
 refine b5r Tryz.func59 rfl kr _ _ _ _ rfl 26 rfl rfl (fun X hXN hXy O W F hg=>?_)
 refine ru 4 ?_
 refine rvl (bagH bg) ((by show HV.agg 4 _=HV.agg 4 _;congr 1;funext j;simp only [Nat.zero_add])) ?_
 refine ru 4 ?_
 refine b1x (α:=Nat) (fun x=>[(0,.v (.fn (.yield X.l) 0 fun _=>default)),(1,.v (.fp 4 (a2I bg))),(6,.v (bagH bg)),(7,.v (intV x))]) (fun x=>x≤4) (fun x=>(bg.part x).length) (fun x=>4 - x) (0) om (by first | exact hg | simpa using hg) (a0c rfl (Nat.le_refl _) tsa a0f.nil) (fun k O W F c hx hg NhL1 hL1=>?_)
 (try dsimp only at hx hg hL1 ⊢)
 refine ru 6 ?_
 refine wdc (fun hr0 hc0=>?_) (fun hr0 hc0=>?_)
 ·skip
  have hk4:k < 4:=om;have hwl:=bg.word_lt hbg k
  refine ru 7 ?_
  refine s0 (HOp.val (v':=a6R (bg.word k)) (b6O (by kernel_rfl) rfl rfl (by first | exact Nat.le_of_ble_eq_true rfl | omega | (dsimp only;omega) | (simp <;> omega)) (by first | exact Nat.le_of_ble_eq_true rfl | omega | (dsimp only;omega) | (simp <;> omega))) (rfl)) ?_
  refine ru 5 ?_
  refine b1x (α:=Nat×Nat) (fun x=>[(0,.v (.fn (.yield X.l) 0 fun _=>default)),(1,.v (.fp 4 (a2I bg))),(3,.v (intV k)),(4,.v (a6R x.1)),(6,.v (bagH bg)),(7,.v (intV k))]) (fun x=>x.1 < 18446744073709551616∧(a3K (bg.word k)).drop x.2=a3K x.1∧x.2≤(a3K (bg.word k)).length) (fun x=>(bg.part k).length+x.2) (fun x=>x.1) ((bg.word k,0)) (by exact ⟨hwl,rfl,Nat.zero_le _⟩) (by first | exact hg | simpa using hg) (a0c rfl (Nat.le_refl _) tsa a0f.nil) (fun x O W F c hx hg NhL2 hL2=>?_)
  revert hx hg hL2;obtain ⟨y,m⟩:=x;intro hx hg hL2;dsimp only at hx hg hL2 ⊢
  obtain ⟨hy,hd,hm⟩:=hx
  refine ru 7 ?_
  refine wdc (fun hr1 hc1=>?_) (fun hr1 hc1=>?_)
  ·skip
   have hy0:y≠0:=om;have hon:=b8e hy0 hy hd;have hla:=c6i bg k m hk4 hon.1;have hcz:=(a8J y hy0 hy).1
   refine ru 10 ?_
   refine cll (c9Y y hy hy0) ?_
   refine ru 1 ?_
   refine b5C hg (by rw [hXN];exact hla.1) (xs:=[_]) [(0,.v (.fn (.yield X.l) 0 fun _=>default)),(1,.v (.fp 4 (a2I bg))),(3,.v (intV k)),(4,.v (a6R y)),(6,.v (bagH bg)),(7,.v (intV k))] rfl ⟨rfl,trivial⟩ (by rw [hXy];exact ⟨b4C (by rw [hla.2,hon.2.1];omega),trivial⟩) (b2E.cons rfl (Fz.eq rfl) (b2E.cons rfl (Fz.eq rfl) (b2E.cons rfl (Fz.eq rfl) (b2E.cons rfl (Fz.eq rfl) (b2E.cons rfl (Fz.eq rfl) (b2E.cons rfl (Fz.eq rfl) b2E.nil)))))) rfl (fun O W F hg=>?_) (fun W F hfr hjx=>?_)
   ·refine ru 1 ?_
    refine a3U ?_
    refine ru 1 ?_
    refine wdc (fun hr2 hc2=>?_) (fun hr2 hc2=>?_)
    ·skip
     exfalso;simp at hr2
    refine ru 8 ?_
    refine rvl (a6R (y &&& (y - 1))) (c5L hy hy0) ?_
    refine ru 2 ?_
    exact hL2 ((y &&& (y - 1),m+1)) O W F _ _ (by (try dsimp only);exact ⟨by have:=a5Z y hy0;omega,hon.2.2,hon.1⟩) (by (try dsimp only);exact a5Z y hy0) (by (try dsimp only);first | exact hg | simpa using hg) (a0c rfl (Nat.le_refl _) tsa a0f.nil)
   ·refine ru 1 ?_
    refine a3U ?_
    refine ru 1 ?_
    refine wdc (fun hr2 hc2=>?_) (fun hr2 hc2=>?_)
    ·refine ru 3 ?_
     refine a0o ?_
     refine ru 3 ?_
     refine a0o ?_
     refine ru 1 ?_
     refine b1f rfl ?_
     exact .inr ⟨_,by rw [hXN];exact hla.1,hjx⟩
    exfalso;simp at hr2
  refine ru 2 ?_
  refine a0d ?_
  refine ru 7 ?_
  exact hL1 (k+1) O W F _ _ (by (try dsimp only);omega) (by (try dsimp only);omega) (by (try dsimp only);have h0:y=0:=om;rw [c1m bg k hk4,←c1z (by rw [hd,h0]) hm];exact hg) (a0c rfl (Nat.le_refl _) tsa a0f.nil)
 refine ru 2 ?_
 refine a0d ?_
 refine ru 1 ?_
 refine a1Y ?_
 refine b1f rfl ?_
 obtain rfl:k=4:=om;exact .inl ⟨O,by have hj:=hg.j;rw [hXN];unfold Bag.list;exact hj⟩
def c8j (on be:HV) (f e:Bag) (m:Bool):Nat→Nat→HV:=fun _ j=>match j with
 | 0=>on | 1=>be
 | 2=>a2I f 0 | 3=>a2I f 1 | 4=>a2I f 2 | 5=>a2I f 3
 | 6=>a2I e 0 | 7=>a2I e 1 | 8=>a2I e 2 | 9=>a2I e 3
 | _=>boolV m
@[reducible] def a9D (g:Nat) (on be:HV):HObj:=⟨g,1,11,103,0,c8j on be Bag.zero Bag.zero false⟩
@[reducible] def b8j (β:Nat→Bag):Nat→Nat→HV:=fun i j=>a2I (β i) j
@[reducible] def a4t (g N:Nat) (β:Nat→Bag):HObj:=⟨g,N,4,47,0,b8j β⟩
def a4o (A B:Bag) (β:Nat→Bag) (i:Nat):Nat→Bag:=fun p=>if (p:Int)∈A.list.take i then bun (β p) B else β p
theorem a7c (A B:Bag) (β:Nat→Bag):a4o A B β 0=β:=by funext p;simp [a4o]
theorem a4v (A:Bag) {i:Nat} (hi:i < A.list.length):∃ q:Nat,q < 256∧A.has q=true∧A.list.getD i 0=(q:Int):=by
 have hm:A.list.getD i 0∈A.list:=by rw [List.getD_eq_getElem?_getD,List.getElem?_eq_getElem hi];exact List.getElem_mem hi
 rw [A.list_eq] at hm
 obtain ⟨q,hq,he⟩:=List.mem_map.1 hm
 rw [List.mem_filter,List.mem_range] at hq
 exact ⟨q,hq.1,hq.2,by rw [A.list_eq];exact he.symm⟩
theorem b0n (A:Bag):A.list.Nodup:=by
 rw [A.list_eq]
 exact List.Pairwise.map _ (fun a b h=>by intro e;exact h (Int.ofNat.inj e)) ((List.nodup_range (n:=256)).filter _)
theorem c2j (A:Bag) {i:Nat} (hi:i < A.list.length):A.list.getD i 0∉A.list.take i:=by
 intro h
 obtain ⟨k,hk,he⟩:=List.mem_take_iff_getElem.1 h
 have hk2:k < i∧k < A.list.length:=by omega
 rw [List.getD_eq_getElem?_getD,List.getElem?_eq_getElem hi] at he
 have:=(List.getElem_inj (b0n A)).1 he
 omega
theorem a5C (A B:Bag) (β:Nat→Bag) {i q:Nat} (hi:i < A.list.length) (hq:A.list.getD i 0=(q:Int)) (p:Nat):a4o A B β (i+1) p=if p=q then bun (a4o A B β i q) B else a4o A B β i p:=by
 have hn:=c2j A hi
 have e:A.list.take (i+1)=A.list.take i++[(q:Int)]:=by
  rw [List.take_add_one,List.getElem?_eq_getElem hi]
  rw [List.getD_eq_getElem?_getD,List.getElem?_eq_getElem hi] at hq
  simp at hq
  rw [hq];rfl
 rw [hq] at hn
 unfold a4o
 rw [e]
 by_cases hp:p=q
 ·subst hp
  rw [if_pos rfl,if_neg hn,if_pos (by simp)]
 ·rw [if_neg hp]
  have:((p:Int)∈A.list.take i++[(q:Int)])↔(p:Int)∈A.list.take i:=by
   simp;intro h;exact absurd (by exact_mod_cast h) hp
  by_cases h:(p:Int)∈A.list.take i
  ·rw [if_pos h,if_pos (this.2 h)]
  ·rw [if_neg h,if_neg (fun h'=>h (this.1 h'))]
theorem c1M {A B:Bag} (hB:B.ok) {β:Nat→Bag} (hβ:∀ p,(β p).ok) (i p:Nat):(a4o A B β i p).ok:=by
 unfold a4o;split
 ·exact a9f (hβ p) hB
 ·exact hβ p
theorem a1Q (A B:Bag) (β:Nat→Bag) {p:Nat} (hp:p < 256):a4o A B β A.list.length p=a1W β (A,B) p:=by
 unfold a4o a1W
 rw [List.take_length]
 by_cases h:A.has p=true
 ·rw [if_pos ((A.mem_list p hp).2 h),if_pos h]
 ·rw [if_neg (fun h'=>h ((A.mem_list p hp).1 h')),if_neg h]
theorem a3F {kp sh:List (Nat×HObj)} {g1 g2 g3 M:Nat} {o2 o3:HObj} (h2:hget kp 9002=some o2) (e2:o2.g=g2) (h3:hget kp 9003=some o3) (e3:o3.g=g3):OKz kp sh (a9D g1 (.os 9002 g2 0 M) (.os 9003 g3 0 M)) (a9D g1 (.os 9002 g2 0 M) (.os 9003 g3 0 M)):=.of fun i j hi hj=>by
 match j,hj with
 | 0,_=>exact .os _ _ _ _ _ h2 e2
 | 1,_=>exact .os _ _ _ _ _ h3 e3
 | 2,_=>exact .fz _ _ (.imm _)
 | 3,_=>exact .fz _ _ (.imm _)
 | 4,_=>exact .fz _ _ (.imm _)
 | 5,_=>exact .fz _ _ (.imm _)
 | 6,_=>exact .fz _ _ (.imm _)
 | 7,_=>exact .fz _ _ (.imm _)
 | 8,_=>exact .fz _ _ (.imm _)
 | 9,_=>exact .fz _ _ (.imm _)
 | 10,_=>exact .fz _ _ (.imm _)
theorem a1o {kp sh:List (Nat×HObj)} {g M:Nat} {β β':Nat→Bag} (h:∀ p,p < M→β p=β' p):OKz kp sh (a4t g M β) (a4t g M β'):=.of fun i j hi hj=>by
 show Kz kp sh (a2I (β i) j) (a2I (β' i) j)
 rw [h i hi];exact .fz _ _ (.imm _)
theorem b0s {g M:Nat} {f:Nat→Nat→HV} {β:Nat→Bag} (h:∀ i j,i < M→j < 4→f i j=a2I (β i) j):a2X ⟨g,M,4,47,0,f⟩ (a4t g M β):=a2X.of fun i j hi hj=>by
 rw [h i j hi hj];exact .refl _
theorem c4o {γ:Nat→Bag} {x:Bag} {q i j:Nat} (hj:j < 4):upd (b8j γ) q 0 4 (bagH x).cell i j=a2I (if i=q then x else γ i) j:=by
 unfold upd inb
 have h0:(Nat.ble 0 j&&Nat.blt j (0+4))=true:=by simp [hj]
 by_cases e:i=q
 ·subst e
  have:Nat.beq i i=true:=by simp
  rw [h0,this,if_pos rfl];rfl
 ·have:Nat.beq i q=false:=(by rw [Bool.eq_false_iff];intro h;exact e (Nat.eq_of_beq_eq_true h))
  rw [this,if_neg e];rfl
theorem c2M (A B:Bag) (hA:A.ok) (hB:B.ok) (M g1 g2 g3:Nat) (ρ β:Nat→Bag) (hβ:∀ p,(β p).ok) (hN:M≤256) (hin:∀ p,p < 256→A.has p=true→p < M) :
  a4S Tryz.prog 105 [.pt 9001 g1 0 0,bagH A,bagH B] [(9001,a9D g1 (.os 9002 g2 0 M) (.os 9003 g3 0 M)),(9002,a4t g2 M ρ),(9003,a4t g3 M β)] (.tup 0 fun _=>default) [(9001,a9D g1 (.os 9002 g2 0 M) (.os 9003 g3 0 M)),(9002,a4t g2 M ρ),(9003,a4t g3 M (a1W β (A,B)))]:=by
 intro c
 refine b0H Tryz.func105 rfl kr _ _ _ _ rfl 25 rfl rfl (fun X ok hX hM=>?_)
 refine ru 10 ?_
 refine cll (c2d A) ?_
 refine ru 3 ?_
 refine a8a (α:=Nat) ⟨rfl,rfl,rfl⟩ (b5a A hA) rfl (cs:=[_]) rfl (fun i hi=>by first | rfl | (cases i <;> first | rfl | (simp at hi))) ⟨(Fz.eq rfl),trivial⟩ rfl (fun _=>rfl) rfl (fun x=>[(9001,a9D g1 (.os 9002 g2 0 M) (.os 9003 g3 0 M)),(9002,a4t g2 M ρ),(9003,a4t g3 M (a4o A B β x)),(3,⟨c,1,1,55,0,fun _ _=>.pt 9001 g1 0 0⟩),(5,⟨c+2,1,4,47,0,fun _ j=>a2I B j⟩)]) (fun x=>x) (fun x=>x≤A.list.length) (0) om (by first | rfl | omega) hsa rfl (fun i c hx hi C1 lr hC1 NhR1 hR1=>?_) (fun i c hx hi=>?_)
 ·skip
  (try dsimp only at hx hi hR1 ⊢)
  obtain ⟨q,hq256,hqA,hq⟩:=a4v A hi;have hqN:=hin q hq256 hqA;rw [hq]
  refine ru 3 ?_
  refine hR1 _ (fun C2 hC2=>?_)
  refine ru 15 ?_
  refine d0 14 (a0e (xs:=[_,_]) (c5a (a4o A B β i q) B (c1M hB hβ i q) hB) ⟨rfl,⟨rfl,trivial⟩⟩ ⟨(Fz.eq (by show HV.agg 4 _=_;rw [Nat.zero_add];rfl)),⟨(Fz.eq rfl),trivial⟩⟩) ?_
  refine ru 4 ?_
  exact a4k ⟨i+1,by (try dsimp only);omega,by first | rfl | omega,(hsr rfl (hsr rfl (a0f.cons rfl (b0s fun p j hp hj=>(c4o hj).trans (by rw [a5C A B β hi hq,Nat.zero_add];rfl)) hsa)))⟩
 ·skip
  (try dsimp only at hx hi ⊢)
  refine ru 1 ?_
  refine b5l ?_
  refine b4u hM ?_
  refine a1w ok hX a3g.one rfl  [] rfl a0g (()) (trivial) (by rfl) (by rfl) (kza) ?_
  exact ⟨⟨_,rfl,a3F rfl rfl rfl rfl⟩,⟨⟨_,rfl,a1o (fun _ _=>rfl)⟩,⟨⟨_,rfl,a1o (fun p hp=>by first | (rw [hi];exact a1Q A B β om) | exact a1Q A B β om)⟩,trivial⟩⟩⟩
def pcF (p:Pc):Nat→HV:=fun j=>match j with
 | 0=>a6R (p.first.word 0) | 1=>a6R (p.first.word 1) | 2=>a6R (p.first.word 2) | 3=>a6R (p.first.word 3)
 | 4=>a6R (p.ends.word 0) | 5=>a6R (p.ends.word 1) | 6=>a6R (p.ends.word 2) | 7=>a6R (p.ends.word 3)
 | _=>boolV p.empty
@[reducible] def pcH (p:Pc):HV:=.agg 9 (pcF p)
theorem b2l {sh:List (Nat×HObj)} (p:Pc) (j:Nat):Fz sh (pcF p j) (pcF p j):=by unfold pcF;split <;> exact .imm _
instance (p:Pc) (j:Nat):Frz (pcF p j):=⟨b2l p j⟩
theorem a1Z {sh:List (Nat×HObj)} {f:Nat→HV} {x:Bag} (h:∀ j,j < 4→f j=a2I x j):Fz sh (.agg 4 f) (bagH x):=.agg _ _ _ fun j hj=>by rw [h j hj];exact .imm _
theorem j4 {f g:Nat→HV} (h0:f 0=g 0) (h1:f 1=g 1) (h2:f 2=g 2) (h3:f 3=g 3):∀ j,j < 4→f j=g j:=fun j hj=>by
 match j,hj with | 0,_=>exact h0 | 1,_=>exact h1 | 2,_=>exact h2 | 3,_=>exact h3
theorem j9 {P:Nat→Prop} (h0:P 0) (h1:P 1) (h2:P 2) (h3:P 3) (h4:P 4) (h5:P 5) (h6:P 6) (h7:P 7) (h8:P 8):∀ j,j < 9→P j:=fun j hj=>by
 match j,hj with | 0,_=>exact h0 | 1,_=>exact h1 | 2,_=>exact h2 | 3,_=>exact h3 | 4,_=>exact h4 | 5,_=>exact h5 | 6,_=>exact h6 | 7,_=>exact h7 | 8,_=>exact h8
theorem a3c {g ty:Nat} {f:Nat→Nat→HV} {p:Pc} (h:∀ j,j < 9→f 0 j=pcF p j):a2X ⟨g,1,9,ty,0,f⟩ ⟨g,1,9,ty,0,fun _=>pcF p⟩:=a2X.of fun i j hi hj=>by
 obtain rfl:i=0:=by omega
 rw [h j hj];exact .refl _
theorem a9E {kp sh:List (Nat×HObj)} {f:Nat→HV} {p:Pc} (h:∀ j,j < 9→f j=pcF p j):Kz kp sh (.agg 9 f) (pcH p):=.fz _ _ (.agg _ _ _ fun j hj=>by rw [h j hj];exact b2l p j)
theorem c6w {g1 g2 g3 M M' M'':Nat} {a b:HV} {ρ β ρ' β':Nat→Bag} {o1:HObj} (h1:o1.g=g1):a7J [(9001,a9D g1 a b),(9002,a4t g2 M ρ),(9003,a4t g3 M β)] [(9001,o1),(9002,a4t g2 M' ρ'),(9003,a4t g3 M'' β')] :=
 a1f (.head _) h1.symm (a1f (.tail _ (.head _)) rfl (a1f (.tail _ (.tail _ (.head _))) rfl a4q))
theorem b5B (a b:Pc) (ha:a.ok) (hb:b.ok) (M g1 g2 g3:Nat) (ρ β:Nat→Bag) (hβ:∀ p,(β p).ok) (hN:M≤256) (hin:∀ p,p < 256→a.ends.has p=true→p < M) :
  a4S Tryz.prog 91 [.pt 9001 g1 0 0,pcH a,pcH b] [(9001,a9D g1 (.os 9002 g2 0 M) (.os 9003 g3 0 M)),(9002,a4t g2 M ρ),(9003,a4t g3 M β)] (pcH (a.join b)) [(9001,a9D g1 (.os 9002 g2 0 M) (.os 9003 g3 0 M)),(9002,a4t g2 M ρ),(9003,a4t g3 M (a1W β (a.ends,b.first)))]:=by
 intro c
 refine a0v Tryz.func91 rfl kr _ _ _ _ rfl 42 rfl rfl (fun X ok hX=>?_)
 refine ru 14 ?_
 refine (a1a 10 [] rfl a0g rfl ((show Fz [] _ (bagH a.ends) from a1Z (by exact j4 rfl rfl rfl rfl)))).seq ?_
 refine (a1a 12 [] rfl a0g rfl ((show Fz [] _ (bagH b.first) from a1Z (by exact j4 rfl rfl rfl rfl)))).seq ?_
 refine hm_ 13 (a1R (xs:=[_,_,_]) (pre:=[(9001,_),(9002,_),(9003,_)]) (c2M a.ends b.first ha.2 hb.1 M g1 g2 g3 ρ β hβ hN hin) ((c6w rfl)) ⟨rfl,⟨rfl,⟨rfl,trivial⟩⟩⟩) rfl rfl (a0i rfl (a0i rfl (a0i rfl a0g))) rfl rfl (c':=c+4) rfl ?_
 refine ru 26 ?_
 refine wdc (fun hr0 hc0=>?_) (fun hr0 hc0=>?_)
 ·refine ru 5 ?_
  refine s0 (a0e (xs:=[_,_]) (c5a a.first b.first ha.1 hb.1) ⟨rfl,⟨rfl,trivial⟩⟩ ⟨(a1Z (by exact j4 rfl rfl rfl rfl)),⟨(a1Z (by exact j4 rfl rfl rfl rfl)),trivial⟩⟩) ?_
  refine ru 11 ?_
  refine wdc (fun hr1 hc1=>?_) (fun hr1 hc1=>?_)
  ·refine ru 5 ?_
   refine s0 (a0e (xs:=[_,_]) (c5a b.ends a.ends hb.2 ha.2) ⟨rfl,⟨rfl,trivial⟩⟩ ⟨(a1Z (by exact j4 rfl rfl rfl rfl)),⟨(a1Z (by exact j4 rfl rfl rfl rfl)),trivial⟩⟩) ?_
   refine ru 11 ?_
   refine fr1 ok hX rw1 (()) (trivial) ((by rw [show a.join b=⟨bun a.first b.first,bun b.ends a.ends,true⟩ from by simp [Pc.join,hc0,hc1]];exact a9E (by exact j9 rfl rfl rfl rfl rfl rfl rfl rfl (by simp [pcF,hc0,hc1];rfl)))) ?_
   exact ⟨⟨_,rfl,a3F rfl rfl rfl rfl⟩,⟨⟨_,rfl,a1o (fun _ _=>rfl)⟩,⟨⟨_,rfl,a1o (fun _ _=>rfl)⟩,trivial⟩⟩⟩
  refine ru 9 ?_
  refine fr1 ok hX rw1 (()) (trivial) ((by rw [show a.join b=⟨bun a.first b.first,b.ends,false⟩ from by simp [Pc.join,hc0,hc1]];exact a9E (by exact j9 rfl rfl rfl rfl rfl rfl rfl rfl (by simp [pcF,hc0,hc1];rfl)))) ?_
  exact ⟨⟨_,rfl,a3F rfl rfl rfl rfl⟩,⟨⟨_,rfl,a1o (fun _ _=>rfl)⟩,⟨⟨_,rfl,a1o (fun _ _=>rfl)⟩,trivial⟩⟩⟩
 refine ru 9 ?_
 refine wdc (fun hr1 hc1=>?_) (fun hr1 hc1=>?_)
 ·refine ru 5 ?_
  refine s0 (a0e (xs:=[_,_]) (c5a b.ends a.ends hb.2 ha.2) ⟨rfl,⟨rfl,trivial⟩⟩ ⟨(a1Z (by exact j4 rfl rfl rfl rfl)),⟨(a1Z (by exact j4 rfl rfl rfl rfl)),trivial⟩⟩) ?_
  refine ru 11 ?_
  refine fr1 ok hX rw1 (()) (trivial) ((by rw [show a.join b=⟨a.first,bun b.ends a.ends,false⟩ from by simp [Pc.join,hc0,hc1]];exact a9E (by exact j9 rfl rfl rfl rfl rfl rfl rfl rfl (by simp [pcF,hc0,hc1];rfl)))) ?_
  exact ⟨⟨_,rfl,a3F rfl rfl rfl rfl⟩,⟨⟨_,rfl,a1o (fun _ _=>rfl)⟩,⟨⟨_,rfl,a1o (fun _ _=>rfl)⟩,trivial⟩⟩⟩
 refine ru 9 ?_
 refine fr1 ok hX rw1 (()) (trivial) ((by rw [show a.join b=⟨a.first,b.ends,false⟩ from by simp [Pc.join,hc0,hc1]];exact a9E (by exact j9 rfl rfl rfl rfl rfl rfl rfl rfl (by simp [pcF,hc0,hc1];rfl)))) ?_
 exact ⟨⟨_,rfl,a3F rfl rfl rfl rfl⟩,⟨⟨_,rfl,a1o (fun _ _=>rfl)⟩,⟨⟨_,rfl,a1o (fun _ _=>rfl)⟩,trivial⟩⟩⟩
theorem c2T (x:Sg) (j:Nat):∃ v,sgF x j=.imm v:=by
 match j with
 | 0=>exact ⟨_,rfl⟩
 | 1=>exact ⟨_,rfl⟩
 | 2=>exact ⟨_,rfl⟩
 | 3=>exact ⟨_,rfl⟩
 | j+4=>exact ⟨_,rfl⟩
theorem c5F {sh:List (Nat×HObj)} (x:Sg) (j:Nat):Fz sh (sgF x j) (sgF x j):=by
 obtain ⟨v,hv⟩:=c2T x j
 rw [hv];exact .imm _
theorem c4N {g ty fl:Nat} {f f':Nat→Nat→HV} (h0:Sb (f 0 0) (f' 0 0)) (hfn:fl≤1:=by exact Nat.zero_le _):a2X ⟨g,1,1,ty,fl,f⟩ ⟨g,1,1,ty,fl,f'⟩:=.of (hfn:=hfn) fun i j hi hj=>by
 obtain rfl:i=0:=by omega
 match j,hj with | 0,_=>exact h0
@[reducible] def c9X:HV:=.fn (.func 74) ([.pt 2 0 0 0,.pt 3 1 0 0,.pt 4 2 0 0]:List HV).length (fun i=>([.pt 2 0 0 0,.pt 3 1 0 0,.pt 4 2 0 0]:List HV).getD i default)
theorem b4j {w:World} {F:Addr→Prop} {s:List UInt8} {fn:Func} {n clk:Nat} {tm:List (Nat×TV)} {hp:List (Nat×HObj)} {y:Int×Int} {x:HV} {va ve:Int} (hv:lexV s=.error y) (hfn:fn.results=#[.cell 2 111,.cell 3 3,.cell 4 29])
  (h2:tget tm 2=some (.v (.pt 2 0 0 0))) (h3:tget tm 3=some (.v (.pt 3 1 0 0))) (h4:tget tm 4=some (.v (.pt 4 2 0 0)))
  (o2:hget hp 2=some (cell1 0 111 x)) (o3:hget hp 3=some (cell1 1 3 (intV va))) (o4:hget hp 4=some (cell1 2 29 (intV ve))) :
  b1X ((Ctx.top w F).wait c9X) (bodyPostD Tryz.prog fn (a0Z w F (c3e (b7E (lexV s))))) ⟨n,tm,hp,clk⟩ (a6P y):=by
 refine b9K ⟨rfl,rfl⟩ (c7l clk 0 1 2 x va ve y) (a0i o2 (a0i o3 (a0i o4 a0g))) (fun x kp c' h=>by obtain ⟨_,_,h,_⟩:=h;cases h) (fun r kp c' h=>?_)
 obtain ⟨_,_,hr,hk⟩:=h
 subst hk
 refine b0I hfn (a0I h2 rfl ty_111.h (fun h=>by first | rfl | cases h) rfl rfl) (a0I h3 rfl ty_3.h (fun h=>by first | rfl | cases h) rfl rfl) (a0I h4 rfl ty_29.h (fun h=>by first | rfl | cases h) rfl rfl) [] rfl a0g ?_
 rw [hv]
 exact a3l (.nil 0 5 _ (by decide) none) (.imm _) (.imm _)
theorem c6X (g:Nat) (s:List UInt8) (i:Nat) (hs:s.length≤1000000) (hi:i≤s.length) {x:Sg} {q:Nat} (h:a3L s i=.ok (x,q)):a4S Tryz.prog 80 [.pt 9001 g 0 0] [(9001,rdO g s i)] (sgH x) [(9001,rdO g s q)]:=fun c =>
 (c3F c g s i hs hi).mono fun e kp c' hP=>by
  rcases hP with ⟨y,hy,he,hk⟩ | ⟨y,hy,_⟩
  ·rw [h] at hy;injection hy with hy;subst hy;exact ⟨(),trivial,he,hk⟩
  ·rw [h] at hy;cases hy
theorem c8A (s:List UInt8) (hs:s.length≤1000000):HPure Tryz.prog 49 [strV s] (c3e (b7E (lexV s))):=by
 have hV:=b3B s
 refine b7H Tryz.func49 rfl kr _ _ _ rfl 55 rfl rfl (fun w F=>?_)
 refine ru 10 ?_
 refine b7x rfl ?_
 refine ru 5 ?_
 refine a0u 10 (a6a (id:=9001) (sz:=2) rfl rfl rfl (by decide) (by decide)) rfl rfl a0g rfl rfl (c':=4) rfl ?_
 refine ru 4 ?_
 refine (a1x 2 0 54 5 120 (c3v []) (fun _ _=>.os 54 4 0 0) rfl rfl (fun j hj=>.inl ⟨by omega,rfl⟩) (by decide) (by decide) (c':=5) rfl).wp ?_
 refine a0l (α:=Nat×List Sg×Nat×Nat) (fun x c=>⟨55,[(0,.v (strV s)),(2,.v (.pt 2 0 0 0)),(3,.v (.pt 3 1 0 0)),(4,.v (.pt 4 2 0 0)),(5,.v (.pt 9001 3 0 0))],[(9001,rdO 3 s x.1),(2,cell1 0 111 (.os 54 x.2.2.1 0 x.2.2.2)),(3,cell1 1 3 (intV 0)),(4,cell1 2 29 (intV 0)),(54,⟨x.2.2.1,x.2.2.2,5,120,0,c3v x.2.1⟩)],c⟩) (fun x=>x.1≤s.length∧x.2.1.length≤200∧x.2.2.2=x.2.1.length∧a4D s x.1 x.2.1=lexV s) (fun x=>s.length - x.1) ((0,[],4,0)) (by exact ⟨Nat.zero_le _,Nat.zero_le _,rfl,hV⟩) (a0c rfl (Nat.le_refl _) tsa (a0f.cons rfl (b7s (.refl _) (.refl _)) (hsr rfl (a0f.cons rfl (c4N (.refl _)) (a0f.cons rfl (c4N (.refl _)) hsa))))) (fun x c hx NhL1 hL1=>?_)
 revert hx hL1;obtain ⟨i,out,gl,n⟩:=x;intro hx hL1;dsimp only at hx hL1 ⊢
 obtain ⟨hi,hol,hn,hL⟩:=hx
 refine ru 3 ?_
 refine a0l (α:=Nat) (fun x c=>⟨55,[(0,.v (strV s)),(2,.v (.pt 2 0 0 0)),(3,.v (.pt 3 1 0 0)),(4,.v (.pt 4 2 0 0)),(5,.v (.pt 9001 3 0 0))],[(9001,rdO 3 s x),(2,cell1 0 111 (.os 54 gl 0 n)),(3,cell1 1 3 (intV 0)),(4,cell1 2 29 (intV 0)),(54,⟨gl,n,5,120,0,c3v out⟩)],c⟩) (fun x=>i≤x∧x≤s.length∧a4D s x out=lexV s) (fun x=>s.length - x) (i) (by exact ⟨Nat.le_refl _,hi,hL⟩) (a0c rfl (Nat.le_refl _) tsa hsa) (fun j c hx NhL2 hL2=>?_)
 (try dsimp only at hx hL2 ⊢)
 obtain ⟨hij,hj,hLj⟩:=hx
 refine ru 4 ?_
 refine hq_ 12 (a0C (xs:=[_]) (pre:=[(9001,_)]) (a3v 3 s j hs hj) ⟨rfl,trivial⟩) rfl rfl (a0i rfl a0g) rfl rfl ?_
 refine ru 3 ?_
 refine wdc (fun hr0 hc0=>?_) (fun hr0 hc0=>?_)
 ·skip
  have hlt:j < s.length:=a4e om
  refine ru 14 ?_
  exact hL2 (j+1) _ _ (by (try dsimp only);exact ⟨by omega,hlt,by rw [←b1u hlt hc0];exact hLj⟩) (by (try dsimp only);omega) (a0c rfl (Nat.le_refl _) tsa (a0f.cons rfl (b7s (.refl _) (a0H om)) hsa))
 refine ru 2 ?_
 refine a0d ?_
 refine ru 14 ?_
 refine wdc (fun hr1 hc1=>?_) (fun hr1 hc1=>?_)
 ·refine ru 11 ?_
  refine a0o ?_
  refine ru 1 ?_
  refine c4E ⟨rfl,rfl⟩ (c6U _ 0 1 2 gl n (c3v out) (fun i j=>c2T _ j) 0 0) (a0i rfl (a0i rfl (a0i rfl (a0i rfl a0g)))) (fun x kp c' h=>by obtain ⟨_,_,h,_⟩:=h;cases h) (fun r kp c' h=>?_);obtain ⟨_,_,hr,hk⟩:=h;subst hk
  refine b0I rfl (a0I rfl rfl ty_111.h rqc rfl rfl) (a0I rfl rfl ty_3.h rqc rfl rfl) (a0I rfl rfl ty_29.h rqc rfl rfl) [(54,_)] rfl (a0i rfl a0g) ?_
  have e:lexV s=.ok out:=(by rw [←hLj];exact a8n om);rw [e];exact a3l (a2r (l:=out) (enc:=sgF) (d:=default) (List.mem_cons_self ..) rfl hn (Nat.le_refl _) (fun i j hi hj=>c5F _ j)) (.imm _) (.imm _)
 have hjl:j < s.length:=om
 refine ru 10 ?_
 refine wdc (fun hr2 hc2=>?_) (fun hr2 hc2=>?_)
 ·refine ru 4 ?_
  refine hq_ 33 (a0C (xs:=[_]) (pre:=[(9001,_)]) (a3v 3 s j hs hj) ⟨rfl,trivial⟩) rfl rfl (a0i rfl a0g) rfl rfl ?_
  refine ru 6 ?_
  refine cll (b3T _) ?_
  refine ru 3 ?_
  first
  | refine stg 37 (fun hb=>a0e (xs:=[_,_]) (a8G [40,41,124,42,43,63,123] (s.getD j 0)) ⟨rfl,⟨rfl,trivial⟩⟩ ⟨(Fz.eq rfl),⟨(Fz.eq (by rw [a3E hjl])),trivial⟩⟩) rfl rfl rfl rfl rfl ?_
  | refine sth 37 (fun hb=>a0e (xs:=[_,_]) (a8G [40,41,124,42,43,63,123] (s.getD j 0)) ⟨rfl,⟨rfl,trivial⟩⟩ ⟨(Fz.eq rfl),⟨(Fz.eq (by rw [a3E hjl])),trivial⟩⟩) rfl rfl rfl rfl rfl ?_
  refine ru 4 ?_
  refine wdc (fun hr3 hc3=>?_) (fun hr3 hc3=>?_)
  ·skip
   have hb:a4L (bz s j)=false:=(by have h:=hr3;rw [a3E hjl] at h;rw [b2M] at h;rw [a3E hjl];simpa using h)
   refine ru 2 ?_
   refine a2c (xs:=[_]) (pre:=[(9001,_)]) (b4U _ 3 s j hs hj) ⟨rfl,trivial⟩ (a0i rfl a0g) (fun y c1 hy=>?_)
   refine (a0F (a0F (a1T (a0F (a1T ?_)))))
   exact b4j (by rw [←hLj,hy];exact b2B hjl hc0 om hb) rfl rfl rfl rfl rfl rfl rfl
  have hb:a4L (bz s j)=true:=(by have h:=hr3;rw [a3E hjl] at h;rw [b2M] at h;rw [a3E hjl];simpa using h)
  refine ru 8 ?_
  refine a2c (xs:=[_,_,_]) (pre:=[(9001,_)]) (b2T _ 3 s j _ _) ⟨rfl,⟨rfl,⟨rfl,trivial⟩⟩⟩ (a0i rfl a0g) (fun y c2 hy=>?_)
  refine (a0F (a1T (a0F (a1T ?_))))
  exact b4j (by rw [←hLj,hy];exact a9S hjl hc0 om hb) rfl rfl rfl rfl rfl rfl rfl
 refine ru 2 ?_
 rcases hone:a3L s j with e | ⟨x,q⟩
 ·refine ru 3 ?_
  exact c8f (xs:=[_]) (pre:=[(9001,_)]) [(2,.v (.pt 2 0 0 0)),(3,.v (.pt 3 1 0 0)),(4,.v (.pt 4 2 0 0))] kr rfl (c3F _ 3 s j hs hj) ⟨rfl,trivial⟩ (a0i rfl a0g) kr kr kr (b4m rfl (b4m rfl (b4m rfl c7C))) kr (fun r kp c' h=>by rcases h with ⟨x,hx,_⟩ | ⟨y,_,hy,_⟩;rw [hone] at hx;cases hx;cases hy) (fun x kp c' h=>by rcases h with ⟨x,hx,he,_⟩ | ⟨y,hy,he,hk⟩;cases he;injection he with he;subst he;subst hk;rw [hone] at hy;injection hy with hy;(repeat (first | with_reducible refine a0F ?_ | with_reducible refine a1T ?_));exact b4j (by rw [←hLj,←hy];exact b2K hjl hc0 om hone) rfl rfl rfl rfl rfl rfl rfl)
 ·refine ru 3 ?_
  refine c8C 52 (a1R (xs:=[_]) (pre:=[(9001,_)]) (c6X 3 s j hs hj hone) (a1f (.head _) rfl a4q) ⟨rfl,trivial⟩) rfl rfl (a0i rfl a0g) rfl rfl (k':=3) rfl ?_
  refine a2n 53 (a0b (id:=53) (hs:=[_]) ei_111.h omx rfl omx ⟨rfl,rfl,rfl,rfl,trivial⟩) rfl rfl a0g rfl rfl (k':=4) rfl ?_
  first
  | refine a2n 54 (a0a ei_111.h (by first | exact Nat.le_of_ble_eq_true rfl | omega | (dsimp only;omega) | (simp <;> omega)) rfl (by first | exact Nat.le_of_ble_eq_true rfl | omega | (dsimp only;omega) | (simp <;> omega)) (by first | exact Nat.le_of_ble_eq_true rfl | omega | (dsimp only;omega) | (simp <;> omega)) (a0x rfl (by first | exact Nat.le_of_ble_eq_true rfl | omega | (dsimp only;omega) | (simp <;> omega))) (by first | exact Nat.le_of_ble_eq_true rfl | omega | (dsimp only;omega) | (simp <;> omega)) rfl) rfl rfl (a0i rfl (a0P rfl)) rfl rfl (k':=5) rfl ?_
  | refine a2n 54 (a0a ei_111.h (by first | exact Nat.le_of_ble_eq_true rfl | omega | (dsimp only;omega) | (simp <;> omega)) rfl (by first | exact Nat.le_of_ble_eq_true rfl | omega | (dsimp only;omega) | (simp <;> omega)) (by first | exact Nat.le_of_ble_eq_true rfl | omega | (dsimp only;omega) | (simp <;> omega)) (a0S rfl (by first | exact Nat.le_of_ble_eq_true rfl | omega | (dsimp only;omega) | (simp <;> omega))) (by first | exact Nat.le_of_ble_eq_true rfl | omega | (dsimp only;omega) | (simp <;> omega)) rfl) rfl rfl (a0i rfl (a0P rfl)) rfl rfl (k':=5) rfl ?_
  | refine a2n 54 (a0a ei_111.h (by first | exact Nat.le_of_ble_eq_true rfl | omega | (dsimp only;omega) | (simp <;> omega)) rfl (by first | exact Nat.le_of_ble_eq_true rfl | omega | (dsimp only;omega) | (simp <;> omega)) (by first | exact Nat.le_of_ble_eq_true rfl | omega | (dsimp only;omega) | (simp <;> omega)) (a0O rfl) (by first | exact Nat.le_of_ble_eq_true rfl | omega | (dsimp only;omega) | (simp <;> omega)) rfl) rfl rfl (a0i rfl a0g) rfl rfl (k':=5) rfl ?_
  | refine a2n 54 (a0a ei_111.h (by first | exact Nat.le_of_ble_eq_true rfl | omega | (dsimp only;omega) | (simp <;> omega)) rfl (by first | exact Nat.le_of_ble_eq_true rfl | omega | (dsimp only;omega) | (simp <;> omega)) (by first | exact Nat.le_of_ble_eq_true rfl | omega | (dsimp only;omega) | (simp <;> omega)) (a0z 5 (fun _ _=>default) rfl) (by first | exact Nat.le_of_ble_eq_true rfl | omega | (dsimp only;omega) | (simp <;> omega)) rfl) rfl rfl (a0i rfl a0g) rfl rfl (k':=5) rfl ?_
  refine ru 3 ?_
  have hq:=a7t hone
  exact hL1 ((q,out++[x],c+4,n+1)) _ _ (by (try dsimp only);exact ⟨hq.2,by rw [List.length_append];show out.length+1≤200;omega,by rw [List.length_append,hn];rfl,by rw [←b1j hjl hc0 om hone];exact hLj⟩) (by (try dsimp only);omega) (a0c rfl (Nat.le_refl _) tsa (hsr rfl (hsr rfl (hsr rfl (hsr rfl (a0f.cons rfl (a2X.of fun i j hi hj=>b8U (l:=out) (k:=[x]) (enc:=sgF) (d:=default) hn (fun i j _ _=>.refl _) (b7V (x:=x) (enc:=sgF) (d:=default) (fun j hj=>by match j,hj with | 0,_=>exact .refl _ | 1,_=>exact .refl _ | 2,_=>exact .refl _ | 3,_=>exact .refl _ | 4,_=>exact .refl _)) i j (by rw [List.length_append,←hn];exact hi) hj) a0f.nil))))))
@[reducible] def a2M (l:List Int):Nat→Nat→HV:=fun i _=>intV (l.getD i 0)
@[reducible] def a1u (l:List Int):HV:=.sl 1 l.length (a2M l)
@[reducible] def ptF (x:Pt):Nat→HV:=fun j=>match j with | 0=>intV x.kind | 1=>intV x.low | 2=>intV x.high | 3=>strV x.name | _=>a1u x.kids
@[reducible] def ptH (x:Pt):HV:=.agg 5 (ptF x)
@[reducible] def b6U (l:List Pt):Nat→Nat→HV:=fun i=>ptF (l.getD i default)
@[reducible] def ptsV (l:List Pt):HV:=.sl 5 l.length (b6U l)
@[reducible] def b6v (g:Nat) (l:List Pt):HObj:=⟨g,l.length,5,164,0,b6U l⟩
@[reducible] def erF (l:List Sg) (p g2 n:Nat) (b:Bool):Nat→Nat→HV:=fun _ j=>match j with | 0=>a4u l | 1=>intV p | 2=>.os 9002 g2 0 n | _=>boolV b
@[reducible] def erO (g:Nat) (l:List Sg) (p g2 n:Nat) (b:Bool):HObj:=⟨g,1,4,118,0,erF l p g2 n b⟩
theorem b0T {sh:List (Nat×HObj)} (x:Pt) (j:Nat):Fz sh (ptF x j) (ptF x j):=by
 match j with
 | 0=>exact .imm _
 | 1=>exact .imm _
 | 2=>exact .imm _
 | 3=>exact .imm _
 | j+4=>exact .sl _ _ _ _ fun i j _ _=>.imm _
instance frz_sgsV (l:List Sg):Frz (a4u l):=⟨.sl _ _ _ _ fun i j _ _=>c5F _ j⟩
instance frz_kidsV (l:List Int):Frz (a1u l):=⟨.sl _ _ _ _ fun i j _ _=>.imm _⟩
instance frz_ptsV (l:List Pt):Frz (ptsV l):=⟨.sl _ _ _ _ fun i j _ _=>b0T _ j⟩
theorem a2C {kp sh:List (Nat×HObj)} {g:Nat} {l:List Pt}:OKz kp sh (b6v g l) (b6v g l):=.of fun i j _ _=>.fz _ _ (b0T _ j)
theorem c8T {x:Pt} {f:Nat→HV} (h0:Sb (f 0) (ptF x 0)) (h1:Sb (f 1) (ptF x 1)) (h2:Sb (f 2) (ptF x 2)) (h3:Sb (f 3) (ptF x 3)) (h4:Sb (f 4) (ptF x 4)):∀ j,j < 5→Sb (f j) (ptF x j):=fun j hj=>by
 match j,hj with
 | 0,_=>exact h0
 | 1,_=>exact h1
 | 2,_=>exact h2
 | 3,_=>exact h3
 | 4,_=>exact h4
theorem a4Y {kp sh:List (Nat×HObj)} {g p g2 n:Nat} {l:List Sg} {b:Bool} {o:HObj} (h:hget kp 9002=some o) (hg:o.g=g2):OKz kp sh (erO g l p g2 n b) (erO g l p g2 n b):=c8E (.fz _ _ (show Fz sh (a4u l) (a4u l) from Frz.fz)) (.fz _ _ (.imm _)) (.os _ _ _ _ _ h hg) (.fz _ _ (.imm _))
theorem b2D {g ty fl:Nat} {f f':Nat→Nat→HV} (h0:Sb (f 0 0) (f' 0 0)) (h1:Sb (f 0 1) (f' 0 1)) (h2:Sb (f 0 2) (f' 0 2)) (h3:Sb (f 0 3) (f' 0 3)) (hfn:fl≤1:=by exact Nat.zero_le _):a2X ⟨g,1,4,ty,fl,f⟩ ⟨g,1,4,ty,fl,f'⟩:=.of (hfn:=hfn) fun i j hi hj=>by
 obtain rfl:i=0:=by omega
 match j,hj with | 0,_=>exact h0 | 1,_=>exact h1 | 2,_=>exact h2 | 3,_=>exact h3
theorem a0G {α:Type} {enc:α→Nat→HV} {d x:α} {out:List α} {g n sz ty:Nat} {f F:Nat→Nat→HV} (hn:n=out.length) (hF:∀ i j,i < out.length→j < sz→Sb (F i j) (enc (out.getD i d) j)) (h:∀ j,j < sz→Sb (f 0 j) (enc x j)) :
  a2X ⟨g,n+1,sz,ty,0,cat n F f⟩ ⟨g,(out++[x]).length,sz,ty,0,fun i=>enc ((out++[x]).getD i d)⟩:=by
 subst hn
 refine ⟨rfl,by simp,rfl,rfl,Nat.le_refl _,fun i j hi hj=>?_,fun h=>absurd h (Nat.not_lt_zero _)⟩
 exact b8U (l:=out) (k:=[x]) (enc:=enc) (d:=d) rfl hF (b7V (x:=x) (enc:=enc) (d:=d) h) i j (by rw [List.length_append];exact hi) hj
theorem a3k {id g lo n n':Nat} (h:n=n'):Sb (.os id g lo n) (.os id g lo n'):=by subst h;exact .refl _
theorem a4P (g:Nat) (l:List Sg) (p g2:Nat) (out:List Pt) (b:Bool) (hl:l.length≤1000) (hp:p≤l.length):a4S Tryz.prog 82 [.pt 9001 g 0 0] [(9001,erO g l p g2 out.length b),(9002,b6v g2 out)] (intV (kd l p)) [(9001,erO g l p g2 out.length b),(9002,b6v g2 out)]:=by
 intro c
 refine a0v Tryz.func82 rfl kr _ _ _ _ rfl 24 rfl rfl (fun X ok hX=>?_)
 refine ru 20 ?_
 refine wdc (fun hr0 hc0=>?_) (fun hr0 hc0=>?_)
 ·refine ru 18 ?_
  refine fr1 ok hX rw1 (()) (trivial) (by rw [a9y (by simpa using hc0)];exact kza) ?_
  exact ⟨⟨_,rfl,a4Y rfl rfl⟩,⟨⟨_,rfl,a2C⟩,trivial⟩⟩
 refine ru 8 ?_
 refine fr1 ok hX rw1 (()) (trivial) (by rw [b2t (by simpa using hc0)];exact kza) ?_
 exact ⟨⟨_,rfl,a4Y rfl rfl⟩,⟨⟨_,rfl,a2C⟩,trivial⟩⟩
theorem c1W (c g:Nat) (l:List Sg) (p g2 n:Nat) (b:Bool) (out:List Pt) (x:Pt) (hn:n=out.length) (ho:out.length≤100000):a4s Tryz.prog 102 c [.pt 9001 g 0 0,ptH x] [(9001,erO g l p g2 n b),(9002,b6v g2 out)]
  (a9t (fun (g':Nat) _=>True) (fun _=>intV out.length) (fun g'=>[(9001,erO g l p g' (out++[x]).length b),(9002,b6v g' (out++[x]))])):=by
 subst hn
 refine a0v Tryz.func102 rfl kr _ _ _ _ rfl 21 rfl rfl (fun X ok hX=>?_)
 refine ru 14 ?_
 refine a2n 11 (a0b (id:=11) (hs:=[_]) ei_68.h omx rfl omx ⟨rfl,rfl,rfl,rfl,trivial⟩) rfl rfl a0g rfl rfl (k':=7) rfl ?_
 first
 | refine a2n 12 (a0a ei_68.h (by first | exact Nat.le_of_ble_eq_true rfl | omega | (dsimp only;omega) | (simp <;> omega)) rfl (by first | exact Nat.le_of_ble_eq_true rfl | omega | (dsimp only;omega) | (simp <;> omega)) (by first | exact Nat.le_of_ble_eq_true rfl | omega | (dsimp only;omega) | (simp <;> omega)) (a0x rfl (by first | exact Nat.le_of_ble_eq_true rfl | omega | (dsimp only;omega) | (simp <;> omega))) (by first | exact Nat.le_of_ble_eq_true rfl | omega | (dsimp only;omega) | (simp <;> omega)) rfl) rfl rfl (a0i rfl (a0P rfl)) rfl rfl (k':=8) rfl ?_
 | refine a2n 12 (a0a ei_68.h (by first | exact Nat.le_of_ble_eq_true rfl | omega | (dsimp only;omega) | (simp <;> omega)) rfl (by first | exact Nat.le_of_ble_eq_true rfl | omega | (dsimp only;omega) | (simp <;> omega)) (by first | exact Nat.le_of_ble_eq_true rfl | omega | (dsimp only;omega) | (simp <;> omega)) (a0S rfl (by first | exact Nat.le_of_ble_eq_true rfl | omega | (dsimp only;omega) | (simp <;> omega))) (by first | exact Nat.le_of_ble_eq_true rfl | omega | (dsimp only;omega) | (simp <;> omega)) rfl) rfl rfl (a0i rfl (a0P rfl)) rfl rfl (k':=8) rfl ?_
 | refine a2n 12 (a0a ei_68.h (by first | exact Nat.le_of_ble_eq_true rfl | omega | (dsimp only;omega) | (simp <;> omega)) rfl (by first | exact Nat.le_of_ble_eq_true rfl | omega | (dsimp only;omega) | (simp <;> omega)) (by first | exact Nat.le_of_ble_eq_true rfl | omega | (dsimp only;omega) | (simp <;> omega)) (a0O rfl) (by first | exact Nat.le_of_ble_eq_true rfl | omega | (dsimp only;omega) | (simp <;> omega)) rfl) rfl rfl (a0i rfl a0g) rfl rfl (k':=8) rfl ?_
 | refine a2n 12 (a0a ei_68.h (by first | exact Nat.le_of_ble_eq_true rfl | omega | (dsimp only;omega) | (simp <;> omega)) rfl (by first | exact Nat.le_of_ble_eq_true rfl | omega | (dsimp only;omega) | (simp <;> omega)) (by first | exact Nat.le_of_ble_eq_true rfl | omega | (dsimp only;omega) | (simp <;> omega)) (a0z 5 (fun _ _=>default) rfl) (by first | exact Nat.le_of_ble_eq_true rfl | omega | (dsimp only;omega) | (simp <;> omega)) rfl) rfl rfl (a0i rfl a0g) rfl rfl (k':=8) rfl ?_
 refine ru 6 ?_
 refine (a1e 9001 (erO g l p (c+1+7) (out++[x]).length b) rfl (by exact b2D (.refl _) (.refl _) (a3k (by simp)) (.refl _))).wp ?_;refine (a1e 9002 (b6v (c+1+7) (out++[x])) rfl (by exact a0G (enc:=ptF) (d:=default) rfl (fun i j _ _=>.refl _) (c8T (.refl _) (.refl _) (.refl _) (.refl _) (.refl _)))).wp ?_
 refine ru 11 ?_
 refine fr1 ok hX rw1 ((c+1+7)) (trivial) (a6C (by simp)) ?_
 exact ⟨⟨_,rfl,a4Y rfl rfl⟩,⟨⟨_,rfl,a2C⟩,trivial⟩⟩
theorem c3l (c g:Nat) (l:List Sg) (p g2 n:Nat) (b:Bool) (out:List Pt) (k:Int) (ks:List Int) (hn:n=out.length) (ho:out.length≤100000):a4s Tryz.prog 83 c [.pt 9001 g 0 0,intV k,a1u ks] [(9001,erO g l p g2 n b),(9002,b6v g2 out)]
  (a9t (fun (y:Nat×List Pt×Int) _=>if ks.length=1 then y.2=(out,ks.getD 0 0) else y.2=(out++[⟨k,0,0,[],ks⟩],(out.length:Int))) (fun y=>intV y.2.2) (fun y=>[(9001,erO g l p y.1 y.2.1.length b),(9002,b6v y.1 y.2.1)])):=by
 subst hn
 refine a0v Tryz.func83 rfl kr _ _ _ _ rfl 18 rfl rfl (fun X ok hX=>?_)
 refine ru 13 ?_
 refine wdc (fun hr0 hc0=>?_) (fun hr0 hc0=>?_)
 ·refine ru 10 ?_
  refine fr1 ok hX rw1 ((g2,out,ks.getD 0 0)) ((by rw [if_pos om])) (kza) ?_
  exact ⟨⟨_,rfl,a4Y rfl rfl⟩,⟨⟨_,rfl,a2C⟩,trivial⟩⟩
 refine ru 8 ?_
 refine (a1a 16 [] rfl a0g rfl ((show Fz [] (.agg 5 _) (ptH ⟨k,0,0,[],ks⟩) from a0Y (.imm _) (.imm _) (.imm _) (.imm _) (show Fz [] (a1u ks) (a1u ks) from Frz.fz)))).seq ?_
 refine a0s 17 (xs:=[_,_]) (pre:=[(9001,_),(9002,_)]) (c1W _ g l p g2 _ b out ⟨k,0,0,[],ks⟩ rfl ho) ⟨rfl,⟨rfl,trivial⟩⟩ (a0i rfl (a0i rfl a0g)) rfl rfl (fun g3 c1 hx1=>?_)
 (try dsimp only)
 refine ru 4 ?_
 refine fr1 ok hX rw1 ((g3,out++[⟨k,0,0,[],ks⟩],(out.length:Int))) ((by rw [if_neg om])) (kza) ?_
 exact ⟨⟨_,rfl,a4Y rfl rfl⟩,⟨⟨_,rfl,a2C⟩,trivial⟩⟩
end Go.Proofs.YtdbbbafiegpbpaaGreatDoor
