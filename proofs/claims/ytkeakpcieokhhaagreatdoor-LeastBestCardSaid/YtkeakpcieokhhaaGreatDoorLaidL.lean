/-
  The document's states: New (printed by tools/gen_df10.py).
-/
import Derived.Test.YtkeakpcieokhhaaGreatDoorDfaP
import Derived.Test.YtkeakpcieokhhaaGreatDoorNc2
import Derived.Lib.Small
import Derived.Test.YtkeakpcieokhhaaGreatDoorHc
import Derived.Test.YtkeakpcieokhhaaGreatDoorHq
import Derived.Test.YtkeakpcieokhhaaGreatDoorChecked
import Derived.ProofKit
import Derived.OpenShut
import Derived.ChangeOld
import Derived.Deep.Slices
import Derived.Laws.StructEq
import Derived.DeepKeys
import Derived.Test.YtkeakpcieokhhaaGreatDoorEx4
import Derived.Test.YtkeakpcieokhhaaGreatDoorExprV
import Derived.Shelf.Small.Wraps
import Derived.Ground.Names2Prog
import Derived.Ground.SlgnProg
import Derived.Shelf.SlicesE.Clone
import Derived.Test.YtkeakpcieokhhaaGreatDoorProg
import Derived.Test.YtkeakpcieokhhaaGreatDoorRows
import Derived.LaidLaws
import Derived.LaidMore
import Derived.LaidSub
import Derived.HandedShaped
import Derived.Shelf.Vars
import Derived.Stop.Joined
set_option linter.unusedSimpArgs false
set_option linter.unusedVariables false
namespace Go.Proofs.YtkeakpcieokhhaaGreatDoor
set_option maxRecDepth 100000
set_option maxHeartbeats 4000000
open Go.RowKit
theorem c6D {g ty fl:Nat} {f f':Nat→Nat→HV} (h0:Sb (f 0 0) (f' 0 0)) (h1:Sb (f 0 1) (f' 0 1)) (h2:Sb (f 0 2) (f' 0 2)) (hfn:fl≤1:=by exact Nat.zero_le _):a2o ⟨g,1,3,ty,fl,f⟩ ⟨g,1,3,ty,fl,f'⟩:=.of (hfn:=hfn) fun i j hi hj=>by
 obtain rfl:i=0:=by omega
 match j,hj with | 0,_=>exact h0 | 1,_=>exact h1 | 2,_=>exact h2
def d2h (p:Pc):Option (List Bag×List (List Int))→HV
 | some (S,R)=>t2 (tabD S R (accS p.empty p.ends S)) (boolV true)
 | none=>t2 (.agg 3 fun _=>.imm (.slice none 0 0)) (boolV false)
theorem d1W {sh:List (Nat×HObj)} {g2 g3 g4 n m:Nat} {S:List Bag} {R:List (List Int)} {A:List Bool} (hn:n=S.length) (hm:m=R.length) (m2:(9102,sdO g2 S)∈sh) (m3:(9103,nxO g3 R)∈sh) (m4:(9104,acO g4 A)∈sh) (hA:A.length=S.length):∀ i,i < 3→Fz sh (dtF g2 g3 g4 n m i) (tdF S R A i):=fun i hi=>by
  subst hn;subst hm
  match i,hi with
  | 0,_=>exact Fz.os 9102 g2 0 S.length (sdO g2 S) _ m2 rfl (Nat.le_of_eq (Nat.zero_add _)) (fun i j hi hj=>by rw [Nat.zero_add];show Fz sh (a0i _) (a0i _);exact Frz.fz)
  | 1,_=>exact Fz.os 9103 g3 0 R.length (nxO g3 R) _ m3 rfl (Nat.le_of_eq (Nat.zero_add _)) (fun i j hi hj=>by rw [Nat.zero_add];exact .imm _)
  | 2, _ =>
    show Fz sh (.os 9104 g4 0 S.length) (.sl 1 A.length _)
    rw [←hA]
    exact Fz.os 9104 g4 0 A.length (acO g4 A) _ m4 rfl (Nat.le_of_eq (Nat.zero_add _)) (fun i j hi hj=>by rw [Nat.zero_add];exact .imm _)
theorem c7n:Sb (.imm (.slice none 0 0)) (a0i Bag.zero.list):=by
 rw [(a9M Bag.zero_ok).2 rfl];exact Sb.nil 0 1 _ (Nat.zero_le _) _
theorem c3j {e:Bool} {E:Bag} {S:List Bag} (hS:0 < S.length) (s:Bag):accS e E (S++[s])=accS e E S++[decide (s.mix a7A E 4≠Bag.zero)]:=by
 cases S with
 | nil=>simp at hS
 | cons x r=>simp [accS]
theorem b6d {z:Bag} {g:Nat→Bag} {S A:List Bag} {k:Nat} {x:Int} (h:a4A z (a1D z g S k).1 (g k)=(A,x)):(a1D z g S (k+1)).1=A∧(a1D z g S (k+1)).2=(a1D z g S k).2++[x]:=by
 have e:a1D z g S (k+1)=((a4A z (a1D z g S k).1 (g k)).1,(a1D z g S k).2++[(a4A z (a1D z g S k).1 (g k)).2]):=rfl
 rw [e,h];exact ⟨rfl,rfl⟩
theorem c9b {zs:List Value} (hz:zs=List.replicate 32 (Value.int .i64 0)) {j:Nat} (hj:j < 32) {x:HV} (hx:x=intV 0):Sb (.imm (zs.getD j undef)) x:=by
 subst hz;subst hx
 rw [show (List.replicate 32 (Value.int .i64 0)).getD j undef=.int .i64 0 from by rw [List.getD_eq_getElem?_getD,List.getElem?_replicate,if_pos hj];rfl];exact .refl _
theorem b5Z {g s off:Nat} {r:List Int} {x:Int} (hr:r.length=s) (hs:s < 32) (ho:off=s):a2o ⟨g,1,32,80,0,upd (fun _ j=>intV (r.getD j 0)) 0 off 1 (fun j=>(intV x).cell j)⟩ ⟨g,1,32,80,0,fun _ j=>intV ((r++[x]).getD j 0)⟩:=.of fun i j hi hj=>by
 subst ho;subst hr
 obtain rfl:i=0:=by omega
 by_cases h:j=r.length
 ·subst h
  rw [a5r ⟨rfl,by omega,by omega⟩,b7Z rfl];exact .refl _
 ·rw [a2V omo]
  rcases Nat.lt_or_ge j r.length with h2 | h2
  ·rw [b8E h2];exact .refl _
  ·rw [b1K (l:=r) h2,b1K (l:=r++[x]) (by simp;omega)];exact .refl _
theorem c3r (wd:Nat) (on:List Bag) (β:Nat→Bag) (p:Pc) (hw:wd≤256) (hF:InB 0 wd p.first) (hβ:∀ q,InB 0 wd (β q)) (hpk:p.ok):HPure Tryz.prog 19 [ndR wd on β p] (d2h p (tabV wd on β p)):=by
 refine b4w Tryz.func19 rfl kr _ _ _ rfl 76 rfl rfl (fun w F=>?_)
 refine ru 9 ?_
 refine a0w 11 (a0b (id:=9102) (hs:=[_]) ei_25.h (nb rfl) rfl (nb rfl) ⟨rfl,rfl,rfl,rfl,trivial⟩) rfl rfl pre0 rfl rfl (c':=3) rfl ?_
 refine ru 2 ?_
 refine a0w 14 (a0b (id:=9104) (hs:=[_]) ei_27.h (nb rfl) rfl (nb rfl) ⟨rfl,rfl,rfl,rfl,trivial⟩) rfl rfl pre0 rfl rfl (c':=4) rfl ?_
 refine ru 1 ?_
 refine a0w 4 (a1a (id:=9101) (sz:=3) zc_29.h rfl rfl (nb rfl) (nb rfl)) rfl rfl pre0 rfl rfl (c':=5) rfl ?_
 refine ru 5 ?_
 refine (a1e 9101 ⟨4,1,3,29,0,fun _ j=>match j with | 0=>.os 9102 2 0 1 | 1=>.imm (.slice none 0 0) | _=>.os 9104 3 0 1⟩ rfl (c6D (.refl _) (.refl _) (.refl _))).wp ?_;refine (a1v 9101 1 9103 32 80 (c1T []) (fun _=>dtF 2 6 3 1 0) rfl rfl (fun j hj=>by match j,hj with | 0,_=>exact .inr rfl | 1,_=>exact .inl ⟨rfl,rfl⟩ | 2,_=>exact .inr rfl) (by decide) (by decide) (c':=7) rfl).wp ?_
 refine ru 5 ?_
 refine a0m (α:=Nat×Nat×Nat×Nat×List Bag×List (List Int)) (fun x c=>⟨76,[(1,.v (.pt 1 0 0 0)),(2,.v (.pt 2 1 0 0)),(3,.v (boolV false)),(4,.v (.pt 9101 4 0 0)),(5,.v (intV (x.1:Int)))],[(9101,dtO 4 x.2.1 x.2.2.1 x.2.2.2.1 x.2.2.2.2.1.length x.2.2.2.2.2.length),(9102,sdO x.2.1 x.2.2.2.2.1),(9103,nxO x.2.2.1 x.2.2.2.2.2),(9104,acO x.2.2.2.1 (accS p.empty p.ends x.2.2.2.2.1)),(1,⟨0,1,5,61,0,fun _=>ndF (.sl 1 wd (lrF (onF on))) (.sl 1 wd (lrF β)) p 0⟩),(2,⟨1,1,3,29,0,fun _ _=>.imm (.slice none 0 0)⟩)],c⟩) (fun x=>x.1≤x.2.2.2.2.1.length∧x.2.2.2.2.2.length=x.1∧x.2.2.2.2.1.length≤200∧SetOk wd x.2.2.2.2.1∧tabV wd on β p=goA Bag.zero (gD wd on β p.first) x.1 x.2.2.2.2.1 x.2.2.2.2.2) (fun x=>201 - x.1) ((0,2,6,3,[Bag.zero],[])) (by exact ⟨by decide,rfl,by decide,SetOk.zero wd,rfl⟩) (a0d rfl (Nat.le_refl _) tsa (hsr rfl (a0e.cons rfl (.of fun i j hi hj=>by obtain rfl:i=0:=om;exact c7n) (hsr rfl (a0e.cons rfl (.of fun i j hi hj=>by obtain rfl:i=0:=om;exact .refl _) (hsr rfl (a0e.cons rfl (.of fun i j hi hj=>by match j,hj with | 0,_=>exact .refl _ | 1,_=>exact .refl _ | 2,_=>exact .refl _) a0e.nil))))))) (fun x c hx NhL1 hL1=>?_)
 revert hx hL1;obtain ⟨a,g2,g3,g4,S,R⟩:=x;intro hx hL1;dsimp only at hx hL1 ⊢
 obtain ⟨haS,hRa,hS2,hok,hT⟩:=hx
 refine ru 10 ?_
 refine wdc (fun hr0 hc0=>?_) (fun hr0 hc0=>?_)
 ·skip
  have ha:a < S.length:=om;have hSa:=hok.at ha;have hst:=b2a (z:=Bag.zero) (g:=gD wd on β p.first) (R:=R) ha hS2;let k0:=c
  refine ru 6 ?_
  refine s0 (b0H (m:=32) (hs:=[]) ar_80.h rfl rfl trivial) ?_
  refine ru 8 ?_
  refine hq_ 26 (a0D (xs:=[_,_,_]) (pre:=[(9101,_),(9102,_),(9103,_),(9104,_)]) (c9i 4 g2 g3 g4 S R (accS p.empty p.ends S) wd on β p hw hF hβ a ha om hSa.2) ⟨rfl,⟨rfl,⟨rfl,trivial⟩⟩⟩) rfl rfl (a0h rfl (a0h rfl (a0h rfl (a0h rfl pre0)))) rfl rfl ?_
  refine ru 11 ?_
  refine a0m (α:=Nat×Nat×Nat) (fun x c=>⟨76,[(1,.v (.pt 1 0 0 0)),(2,.v (.pt 2 1 0 0)),(3,.v (boolV false)),(4,.v (.pt 9101 4 0 0)),(5,.v (intV (a:Int))),(6,.v (.pt 6 k0 0 0)),(7,.v (.pt 7 (k0+2) 0 0)),(8,.v (intV x.1))],[(9101,dtO 4 x.2.1 g3 x.2.2 (a1D Bag.zero (gD wd on β p.first S a) S x.1).1.length R.length),(9102,sdO x.2.1 (a1D Bag.zero (gD wd on β p.first S a) S x.1).1),(9103,nxO g3 R),(9104,acO x.2.2 (accS p.empty p.ends (a1D Bag.zero (gD wd on β p.first S a) S x.1).1)),(1,⟨0,1,5,61,0,fun _=>ndF (.sl 1 wd (lrF (onF on))) (.sl 1 wd (lrF β)) p 0⟩),(2,⟨1,1,3,29,0,fun _ _=>.imm (.slice none 0 0)⟩),(6,⟨k0,1,32,80,0,fun _ j=>intV ((a1D Bag.zero (gD wd on β p.first S a) S x.1).2.getD j 0)⟩),(7,⟨k0+2,1,32,104,0,fun _ j=>a0i ((gD wd on β p.first S a) j).list⟩)],c⟩) (fun x=>x.1≤32) (fun x=>32 - x.1) ((0,g2,g4)) om (a0d rfl (Nat.le_refl _) tsa (hsr rfl (hsr rfl (hsr rfl (hsr rfl (hsr rfl (hsr rfl (a0e.cons rfl (.of fun i j hi hj=>c9b rfl hj rfl) (a0e.cons rfl (.of fun i j hi hj=>by show Sb (a0i (a3Z (a2Y β p.first S a) on wd j)) _;rw [b4T hw hj hok.fst hSa.2];exact .refl _) a0e.nil))))))))) (fun x c hx NhL2 hL2=>?_)
  revert hx hL2;obtain ⟨s,q2,q4⟩:=x;intro hx hL2;dsimp only at hx hL2 ⊢
  have hl:=a4j Bag.zero (gD wd on β p.first S a) S s;have hok1:=hok.row (g:=(gD wd on β p.first S a)) (fun k hk=>⟨c1m,d1I hk⟩) s om;have hone:=hok1.one;have hAl:=a8S p.empty p.ends (a1D Bag.zero (gD wd on β p.first S a) S s).1
  refine ru 7 ?_
  refine wdc (fun hr1 hc1=>?_) (fun hr1 hc1=>?_)
  ·skip
   have hs32:s < 32:=om
   refine ru 9 ?_
   refine rvl (a0i ((gD wd on β p.first S a) s).list) ((by show a0i ((gD wd on β p.first S a) (0+s * 1)).list=_;rw [Nat.mul_one,Nat.zero_add])) ?_
   refine ru 16 ?_
   refine wdc (fun hr2 hc2=>?_) (fun hr2 hc2=>?_)
   ·skip
    have h9:=of_decide_eq_true hr2;have hne:(gD wd on β p.first S a) s≠Bag.zero:=(fun e=>by rw [(a9M c1m).2 e] at h9;simp at h9)
    refine ru 3 ?_
    refine hq_ 38 (a0D (xs:=[_,_]) (pre:=[(9101,_),(9102,_),(9103,_),(9104,_)]) (c6n 4 q2 g3 q4 (a1D Bag.zero (gD wd on β p.first S a) S s).1 R (accS p.empty p.ends (a1D Bag.zero (gD wd on β p.first S a) S s).1) om (hok1.ok) ((gD wd on β p.first S a) s) c1m) ⟨rfl,⟨rfl,trivial⟩⟩) rfl rfl (a0h rfl (a0h rfl (a0h rfl (a0h rfl pre0)))) rfl rfl ?_
    refine ru 9 ?_
    refine wdc (fun hr3 hc3=>?_) (fun hr3 hc3=>?_)
    ·skip
     have hP:a4A Bag.zero (a1D Bag.zero (gD wd on β p.first S a) S s).1 ((gD wd on β p.first S a) s)=((a1D Bag.zero (gD wd on β p.first S a) S s).1++[(gD wd on β p.first S a) s],((a1D Bag.zero (gD wd on β p.first S a) S s).1.length:Int)):=(by rw [b9L hne,if_pos (of_decide_eq_true hr3)]);obtain ⟨A1,A2⟩:=b6d hP
     refine ru 13 ?_
     refine a0w 47 (a0b (id:=47) (hs:=[_]) ei_25.h omx rfl omx ⟨rfl,rfl,rfl,rfl,trivial⟩) rfl rfl pre0 rfl rfl (c':=c+1) rfl ?_
     first
     | refine a0w 48 (a0a ei_25.h omy rfl omy omy (a0x rfl omy) omy rfl) rfl rfl (a0h rfl (a0K rfl)) rfl rfl (c':=c+2) rfl ?_
     | refine a0w 48 (a0a ei_25.h omy rfl omy omy (a0T rfl omy) omy rfl) rfl rfl (a0h rfl (a0K rfl)) rfl rfl (c':=c+2) rfl ?_
     | refine a0w 48 (a0a ei_25.h omy rfl omy omy (a0P rfl) omy rfl) rfl rfl (a0h rfl pre0) rfl rfl (c':=c+2) rfl ?_
     | refine a0w 48 (a0a ei_25.h omy rfl omy omy (a0B 1 (fun _ _=>default) rfl) omy rfl) rfl rfl (a0h rfl pre0) rfl rfl (c':=c+2) rfl ?_
     refine ru 10 ?_
     refine clx (d0C ((gD wd on β p.first S a) s).list p.ends.list (a8Q _) (a8Q _)) ?_
     refine ru 2 ?_
     refine a1X 58 (a0b (id:=58) (hs:=[_]) ei_27.h omx rfl omx ⟨rfl,rfl,rfl,rfl,trivial⟩) rfl rfl pre0 rfl rfl (k':=9) rfl ?_
     first
     | refine a1X 59 (a0a ei_27.h omy rfl omy omy (a0x rfl omy) omy rfl) rfl rfl (a0h rfl (a0K rfl)) rfl rfl (k':=10) rfl ?_
     | refine a1X 59 (a0a ei_27.h omy rfl omy omy (a0T rfl omy) omy rfl) rfl rfl (a0h rfl (a0K rfl)) rfl rfl (k':=10) rfl ?_
     | refine a1X 59 (a0a ei_27.h omy rfl omy omy (a0P rfl) omy rfl) rfl rfl (a0h rfl pre0) rfl rfl (k':=10) rfl ?_
     | refine a1X 59 (a0a ei_27.h omy rfl omy omy (a0B 1 (fun _ _=>default) rfl) omy rfl) rfl rfl (a0h rfl pre0) rfl rfl (k':=10) rfl ?_
     refine ru 17 ?_
     exact hL2 ((s+1,c+1,c+3+9)) _ _ omd omd (a0d rfl (Nat.le_refl _) (tsr rfl (tsr rfl (tsr rfl (tsr rfl (tsr rfl (tsr rfl (tsr rfl (a0v.cons rfl (a0J om) a0v.nil)))))))) (a0e.cons rfl (by (try dsimp only);rw [A1];exact c6D (a3w (by simp)) (.refl _) (a3w (by simp))) (a0e.cons rfl (by (try dsimp only);rw [A1];exact a0I (enc:=fun b _=>a0i (Bag.list b)) (d:=Bag.zero) rfl (fun _ _ _ _=>.refl _) (fun _ _=>.refl _)) (hsr rfl (a0e.cons rfl (by (try dsimp only);rw [A1,c3j hone];exact a0I (enc:=fun b _=>boolV b) (d:=false) hAl.symm (fun _ _ _ _=>.refl _) (fun j hj=>by show Sb (boolV (decide (((b1M ((gD wd on β p.first S a) s).list p.ends.list 256).length:Int) > 0))) (boolV (decide _));rw [c8O _ _ c1m hpk.2];exact .refl _)) (hsr rfl (hsr rfl (a0e.cons rfl (by (try dsimp only);rw [A2];exact b5Z hl.2.2 hs32 om) hsa))))))))
    have hP:a4A Bag.zero (a1D Bag.zero (gD wd on β p.first S a) S s).1 ((gD wd on β p.first S a) s)=((a1D Bag.zero (gD wd on β p.first S a) S s).1,rfV (a1D Bag.zero (gD wd on β p.first S a) S s).1 ((gD wd on β p.first S a) s)):=(by rw [b9L hne,if_neg (of_decide_eq_false hr3)]);obtain ⟨A1,A2⟩:=b6d hP
    refine ru 15 ?_
    exact hL2 ((s+1,q2,q4)) _ _ omd omd (a0d rfl (Nat.le_refl _) (tsr rfl (tsr rfl (tsr rfl (tsr rfl (tsr rfl (tsr rfl (tsr rfl (a0v.cons rfl (a0J om) a0v.nil)))))))) (a0e.cons rfl (by (try dsimp only);rw [A1];exact .refl _) (a0e.cons rfl (by (try dsimp only);rw [A1];exact .refl _) (hsr rfl (a0e.cons rfl (by (try dsimp only);rw [A1];exact .refl _) (hsr rfl (hsr rfl (a0e.cons rfl (by (try dsimp only);rw [A2];exact b5Z hl.2.2 hs32 om) hsa))))))))
   have h9:=of_decide_eq_false hr2;have hz:(gD wd on β p.first S a) s=Bag.zero:=(a9M c1m).1 (List.eq_nil_of_length_eq_zero om);have hP:a4A Bag.zero (a1D Bag.zero (gD wd on β p.first S a) S s).1 ((gD wd on β p.first S a) s)=((a1D Bag.zero (gD wd on β p.first S a) S s).1,-1):=(by unfold a4A;rw [if_pos hz]);obtain ⟨A1,A2⟩:=b6d hP
   refine ru 15 ?_
   exact hL2 ((s+1,q2,q4)) _ _ omd omd (a0d rfl (Nat.le_refl _) (tsr rfl (tsr rfl (tsr rfl (tsr rfl (tsr rfl (tsr rfl (tsr rfl (a0v.cons rfl (a0J om) a0v.nil)))))))) (a0e.cons rfl (by (try dsimp only);rw [A1];exact .refl _) (a0e.cons rfl (by (try dsimp only);rw [A1];exact .refl _) (hsr rfl (a0e.cons rfl (by (try dsimp only);rw [A1];exact .refl _) (hsr rfl (hsr rfl (a0e.cons rfl (by (try dsimp only);rw [A2];exact b5Z hl.2.2 hs32 om) hsa))))))))
  obtain rfl:s=32:=om
  refine ru 2 ?_
  refine a0c ?_
  refine ru 7 ?_
  refine a0w 67 (a0b (id:=67) (hs:=[_]) ei_26.h omx rfl omx ⟨rfl,rfl,rfl,rfl,trivial⟩) rfl rfl pre0 rfl rfl (c':=c+1) rfl ?_
  first
  | refine a0w 68 (a0a ei_26.h omy rfl omy omy (a0x rfl omy) omy rfl) rfl rfl (a0h rfl (a0K rfl)) rfl rfl (c':=c+2) rfl ?_
  | refine a0w 68 (a0a ei_26.h omy rfl omy omy (a0T rfl omy) omy rfl) rfl rfl (a0h rfl (a0K rfl)) rfl rfl (c':=c+2) rfl ?_
  | refine a0w 68 (a0a ei_26.h omy rfl omy omy (a0P rfl) omy rfl) rfl rfl (a0h rfl pre0) rfl rfl (c':=c+2) rfl ?_
  | refine a0w 68 (a0a ei_26.h omy rfl omy omy (a0B 32 (fun _ _=>default) rfl) omy rfl) rfl rfl (a0h rfl pre0) rfl rfl (c':=c+2) rfl ?_
  refine ru 12 ?_
  refine wdc (fun hr4 hc4=>?_) (fun hr4 hc4=>?_)
  ·skip
   have h9:=of_decide_eq_true hr4
   refine ru 10 ?_
   refine a0o ?_
   refine ru 2 ?_
   refine a9o ?_
   refine rt2 ?_
   rw [hT,hst,if_pos om];exact a4D (.agg 3 _ _ fun i hi=>by match i,hi with | 0,_=>exact .imm _ | 1,_=>exact .imm _ | 2,_=>exact .imm _) (.imm _)
  have h9:=of_decide_eq_false hr4
  refine ru 8 ?_
  exact hL1 ((a+1,q2,c+1,q4,(a1D Bag.zero (gD wd on β p.first S a) S 32).1,R++[(a1D Bag.zero (gD wd on β p.first S a) S 32).2])) _ _ (by (try dsimp only);exact ⟨by omega,by simp [hRa],by omega,hok1,by rw [hT,hst,if_neg om]⟩) omd (a0d rfl (Nat.le_refl _) (tsr rfl (tsr rfl (tsr rfl (tsr rfl (a0v.cons rfl (a0J om) a0v.nil))))) (a0e.cons rfl (c6D (.refl _) (a3w (by simp)) (.refl _)) (hsr rfl (a0e.cons rfl (a0I (enc:=fun (r:List Int) j=>intV (r.getD j 0)) (d:=[]) rfl (fun _ _ _ _=>.refl _) (fun _ _=>.refl _)) hsa))))
 have haE:a=S.length:=om
 refine ru 2 ?_
 refine a0c ?_
 refine ru 10 ?_
 refine a9o ?_
 refine a9t rfl (a0H rfl rfl ty_29.h rqc rfl rfl) (a0g rfl) [(9102,_),(9103,_),(9104,_)] rfl (a0h rfl (a0h rfl (a0h rfl pre0))) ?_
 rw [hT,b9l om];exact a4D (.agg 3 _ _ (d1W rfl rfl (.head _) (.tail _ (.head _)) (.tail _ (.tail _ (.head _))) (a8S _ _ _))) (.imm _)
set_option maxHeartbeats 1000000
@[reducible] def c9t:HV:=.agg 3 fun _=>.imm (.slice none 0 0)
@[reducible] def TabP (s:List UInt8) (l:List Mn) (y:HV):Prop:=HPure Tryz.prog 5 [strV s,mnsV l] y
structure TabOk (s:List UInt8) (l:List Mn) (wd:Nat) (on:List Bag) (β:Nat→Bag) (p:Pc) (e:List Pt) (S:List Bag) (R:List (List Int)):Prop where
 net:NetOk s l wd on β p e
 is:tabV wd on β p=some (S,R)
 tab:TabP s l (t4 (tabP R (accS p.empty p.ends S)) (tabD S R (accS p.empty p.ends S)) (intV 0) (boolV true))
section
variable {s:List UInt8} {l:List Mn} {wd:Nat} {on:List Bag} {β:Nat→Bag} {p:Pc} {e:List Pt}
theorem NetOk.new (V:NetOk s l wd on β p e):HPure Tryz.prog 18 [netP wd on β p] (d1R p (tabV wd on β p)):=b4b wd (by have:=V.w60;omega) on V.onk β V.bek p V.pck
theorem NetOk.ref (V:NetOk s l wd on β p e):HPure Tryz.prog 19 [ndR wd on β p] (d2h p (tabV wd on β p)):=c3r wd on β p (by have:=V.w60;omega) V.inF V.inβ V.pck
theorem NetOk.many (V:NetOk s l wd on β p e):∃ k:Int,0 < e.length→HPure Tryz.prog 17 [ptsV e,intV ((e.length:Int) - 1)] (intV k):=by
 rcases V.is with ⟨rfl,_⟩ | ⟨t,hok,rfl,_⟩
 ·exact ⟨0,fun h=>absurd h (Nat.lt_irrefl _)⟩
 ·refine ⟨a4a t.w,fun h=>?_⟩
  have:=a9k (T.flat 0 t) V.ptb.1 t 0 hok ⟨[],[],by simp,rfl⟩
  have hsz:(T.flat 0 t).length=t.size:=T.flat_len 0 t
  have hps:=t.size_pos
  have e:((T.flat 0 t).length:Int) - 1=((0+t.size - 1:Nat):Int):=by omega
  rw [e];exact this
end
theorem c1V {sh:List (Nat×HObj)} (S:List Bag) (R:List (List Int)) (A:List Bool) (i:Nat):Fz sh (tdF S R A i) (tdF S R A i):=by
 unfold tdF
 split
 ·exact .sl _ _ _ _ fun _ _ _ _=>.sl _ _ _ _ fun _ _ _ _=>.imm _
 ·exact .sl _ _ _ _ fun _ _ _ _=>.imm _
 ·exact .sl _ _ _ _ fun _ _ _ _=>.imm _
def d2B (p:Pc):Option (List Bag×List (List Int))→HV
 | some (S,R)=>t4 (tabP R (accS p.empty p.ends S)) (tabD S R (accS p.empty p.ends S)) (intV 0) (boolV true)
 | none=>t4 b8X c9t (intV 7) (boolV false)
theorem c2m (s:List UInt8) (l:List Mn) (y:HV) (z:Int) (b:Bool) (hx:NetP s l (t4 b8X y (intV z) (boolV b))) (hy:∀ sh,Fz sh y y) (n:Nat) (f:Nat→Nat→HV) (hyf:y=.sl 5 n f∨y=a1g) (hb:b=false∨z≠0):TabP s l (t4 b8X c9t (intV z) (boolV false)):=by
 refine a0l Tryz.func5 rfl kr _ _ _ rfl 71 rfl rfl (fun w F=>?_)
 refine ru 12 ?_
 refine cll (hx) ?_
 refine ru 13 ?_
 rcases hyf with rfl | rfl
 ·refine ru 13 ?_
  first
  | refine stg 34 (fun hb=>a2T (T:=52) rfl (a0O el_52.h).1 rfl) rfl rfl rfl rfl rfl ?_
  | refine sth 34 (fun hb=>a2T (T:=52) rfl (a0O el_52.h).1 rfl) rfl rfl rfl rfl rfl ?_
  | refine stg 34 (fun hb=>a3I (T:=52) rfl (a0O el_52.h).1 rfl) rfl rfl rfl rfl rfl ?_
  | refine sth 34 (fun hb=>a3I (T:=52) rfl (a0O el_52.h).1 rfl) rfl rfl rfl rfl rfl ?_
  | refine stg 34 (fun hb=>a2X (T:=52) rfl (a0O el_52.h).1 rfl) rfl rfl rfl rfl rfl ?_
  | refine sth 34 (fun hb=>a2X (T:=52) rfl (a0O el_52.h).1 rfl) rfl rfl rfl rfl rfl ?_
  refine ru 4 ?_
  first
  | refine stg 38 (fun hb=>a2T (T:=52) rfl (a0O el_52.h).1 rfl) rfl rfl rfl rfl rfl ?_
  | refine a4M 41 14 38 34 false true _ _ (fun hb hb2=>a2T (T:=52) rfl (a0O el_52.h).1 rfl) rfl rfl rfl rfl rfl pre0 rfl rfl rfl ?_
  | refine sth 38 (fun hb=>a2T (T:=52) rfl (a0O el_52.h).1 rfl) rfl rfl rfl rfl rfl ?_
  | refine stg 38 (fun hb=>a3I (T:=52) rfl (a0O el_52.h).1 rfl) rfl rfl rfl rfl rfl ?_
  | refine a4M 41 14 38 34 false true _ _ (fun hb hb2=>a3I (T:=52) rfl (a0O el_52.h).1 rfl) rfl rfl rfl rfl rfl pre0 rfl rfl rfl ?_
  | refine sth 38 (fun hb=>a3I (T:=52) rfl (a0O el_52.h).1 rfl) rfl rfl rfl rfl rfl ?_
  | refine stg 38 (fun hb=>a2X (T:=52) rfl (a0O el_52.h).1 rfl) rfl rfl rfl rfl rfl ?_
  | refine a4M 41 14 38 34 false true _ _ (fun hb hb2=>a2X (T:=52) rfl (a0O el_52.h).1 rfl) rfl rfl rfl rfl rfl pre0 rfl rfl rfl ?_
  | refine sth 38 (fun hb=>a2X (T:=52) rfl (a0O el_52.h).1 rfl) rfl rfl rfl rfl rfl ?_
  first
  | refine stg 38 (fun hb=>a4T rfl rfl rfl omb omb) rfl rfl rfl rfl rfl ?_
  | refine a4M 42 14 38 34 false true _ _ (fun hb hb2=>a4T rfl rfl rfl (by first | exact Nat.le_of_ble_eq_true rfl | (simp at hb;omega) | (simp at hb2;omega) | (simp at hb hb2;first | omega | (dsimp only;omega) | (simp <;> omega)) | omega | (dsimp only;omega)) (by first | exact Nat.le_of_ble_eq_true rfl | (simp at hb;omega) | (simp at hb2;omega) | (simp at hb hb2;first | omega | (dsimp only;omega) | (simp <;> omega)) | omega | (dsimp only;omega))) rfl rfl rfl rfl rfl pre0 rfl rfl rfl ?_
  | refine sth 38 (fun hb=>a4T rfl rfl rfl omb omb) rfl rfl rfl rfl rfl ?_
  | refine stg 38 (fun hb=>a5t rfl rfl) rfl rfl rfl rfl rfl ?_
  | refine a4M 42 14 38 34 false true _ _ (fun hb hb2=>a5t rfl rfl) rfl rfl rfl rfl rfl pre0 rfl rfl rfl ?_
  | refine sth 38 (fun hb=>a5t rfl rfl) rfl rfl rfl rfl rfl ?_
  refine a4M 43 14 38 34 false true _ _ (v:=intV 0) (fun h1 h2=>absurd h2 (by rcases hb with h | h <;> simp [h])) rfl rfl rfl rfl rfl pre0 rfl rfl rfl ?_
  refine ru 5 ?_
  refine wdc (fun hr0 hc0=>?_) (fun hr0 hc0=>?_)
  ·refine ru 12 ?_
   refine a4o rfl (a0g rfl) (a0H rfl rfl ty_29.h rqc rfl rfl) (a0g rfl) (a0g rfl) [] rfl pre0 ?_
   exact b0p (.imm _) (.agg 3 _ _ fun i hi=>by match i,hi with | 0,_=>exact .imm _ | 1,_=>exact .imm _ | 2,_=>exact .imm _) (.imm _) (.imm _)
  exfalso;rcases hb with h | h <;> simp [h] at hr0
 ·refine ru 20 ?_
  refine a4M 43 14 38 34 false true _ _ (v:=intV 0) (fun h1 h2=>absurd h2 (by rcases hb with h | h <;> simp [h])) rfl rfl rfl rfl rfl pre0 rfl rfl rfl ?_
  refine ru 5 ?_
  refine wdc (fun hr0 hc0=>?_) (fun hr0 hc0=>?_)
  ·refine ru 12 ?_
   refine a4o rfl (a0g rfl) (a0H rfl rfl ty_29.h rqc rfl rfl) (a0g rfl) (a0g rfl) [] rfl pre0 ?_
   exact b0p (.imm _) (.agg 3 _ _ fun i hi=>by match i,hi with | 0,_=>exact .imm _ | 1,_=>exact .imm _ | 2,_=>exact .imm _) (.imm _) (.imm _)
  exfalso;rcases hb with h | h <;> simp [h] at hr0
section
variable {s:List UInt8} {l:List Mn} {wd:Nat} {on:List Bag} {β:Nat→Bag} {p:Pc} {e:List Pt}
theorem NetOk.tab (V:NetOk s l wd on β p e):∃ k:Int,TabP s l (if 0 < e.length∧25 < k then t4 b8X c9t (intV 0) (boolV false) else d2B p (tabV wd on β p)):=by
 have hnew:=V.new
 have href:=V.ref
 obtain ⟨k,hM⟩:=V.many
 have hel:=V.eln
 refine ⟨k,?_⟩
 generalize tabV wd on β p=o at hnew href ⊢
 refine a0l Tryz.func5 rfl kr _ _ _ rfl 71 rfl rfl (fun w F=>?_)
 refine ru 12 ?_
 refine cll (V.net) ?_
 refine ru 32 ?_
 first
 | refine stg 38 (fun hb=>a4T rfl rfl rfl omb omb) rfl rfl rfl rfl rfl ?_
 | refine a4M 42 14 38 34 false true _ _ (fun hb hb2=>a4T rfl rfl rfl (by first | exact Nat.le_of_ble_eq_true rfl | (simp at hb;omega) | (simp at hb2;omega) | (simp at hb hb2;first | omega | (dsimp only;omega) | (simp <;> omega)) | omega | (dsimp only;omega)) (by first | exact Nat.le_of_ble_eq_true rfl | (simp at hb;omega) | (simp at hb2;omega) | (simp at hb hb2;first | omega | (dsimp only;omega) | (simp <;> omega)) | omega | (dsimp only;omega))) rfl rfl rfl rfl rfl pre0 rfl rfl rfl ?_
 | refine sth 38 (fun hb=>a4T rfl rfl rfl omb omb) rfl rfl rfl rfl rfl ?_
 | refine stg 38 (fun hb=>a5t rfl rfl) rfl rfl rfl rfl rfl ?_
 | refine a4M 42 14 38 34 false true _ _ (fun hb hb2=>a5t rfl rfl) rfl rfl rfl rfl rfl pre0 rfl rfl rfl ?_
 | refine sth 38 (fun hb=>a5t rfl rfl) rfl rfl rfl rfl rfl ?_
 first
 | refine stg 38 (fun hb=>a0f (xs:=[_,_]) (hM (by simp at hb;omega)) ⟨rfl,⟨rfl,trivial⟩⟩ ⟨(Fz.eq rfl),⟨(Fz.eq rfl),trivial⟩⟩) rfl rfl rfl rfl rfl ?_
 | refine a4M 43 14 38 34 false true _ _ (fun hb hb2=>a0f (xs:=[_,_]) (hM (by simp at hb;omega)) ⟨rfl,⟨rfl,trivial⟩⟩ ⟨(Fz.eq rfl),⟨(Fz.eq rfl),trivial⟩⟩) rfl rfl rfl rfl rfl pre0 rfl rfl rfl ?_
 | refine sth 38 (fun hb=>a0f (xs:=[_,_]) (hM (by simp at hb;omega)) ⟨rfl,⟨rfl,trivial⟩⟩ ⟨(Fz.eq rfl),⟨(Fz.eq rfl),trivial⟩⟩) rfl rfl rfl rfl rfl ?_
 refine ru 5 ?_
 refine wdc (fun hr0 hc0=>?_) (fun hr0 hc0=>?_)
 ·refine ru 12 ?_
  refine a4o rfl (a0g rfl) (a0H rfl rfl ty_29.h rqc rfl rfl) (a0g rfl) (a0g rfl) [] rfl pre0 ?_
  rw [if_pos (by simp at hr0;omega)];exact b0p (.imm _) (.agg 3 _ _ fun i hi=>by match i,hi with | 0,_=>exact .imm _ | 1,_=>exact .imm _ | 2,_=>exact .imm _) (.imm _) (.imm _)
 rw [if_neg (by simp at hr0;omega)]
 refine ru 3 ?_
 rcases o with _ | ⟨S,R⟩
 ·refine ru 2 ?_
  refine s0 (HOp.val (v':=t2 b8X (intV 7)) (a0f (xs:=[_]) (hnew) ⟨rfl,trivial⟩ ⟨(Fz.eq rfl),trivial⟩) (rfl)) ?_
  refine ru 11 ?_
  refine cll (V.doc) ?_
  refine s0 (HOp.val (v':=t2 c9t (boolV false)) (a0f (xs:=[_]) (href) ⟨rfl,trivial⟩ ⟨(Fz.eq rfl),trivial⟩) (rfl)) ?_
  refine ru 15 ?_
  refine wdc (fun hr1 hc1=>?_) (fun hr1 hc1=>?_)
  ·refine ru 15 ?_
   refine a4o rfl (a0g rfl) (a0H rfl rfl ty_29.h rqc rfl rfl) (a0g rfl) (a0g rfl) [] rfl pre0 ?_
   exact b0p (.imm _) (.agg 3 _ _ fun i hi=>by match i,hi with | 0,_=>exact .imm _ | 1,_=>exact .imm _ | 2,_=>exact .imm _) (.imm _) (a1V (by decide))
  exfalso;simp at hr1
 ·refine ru 2 ?_
  refine s0 (HOp.val (v':=t2 (tabP R (accS p.empty p.ends S)) (intV 0)) (a0f (xs:=[_]) (hnew) ⟨rfl,trivial⟩ ⟨(Fz.eq rfl),trivial⟩) (rfl)) ?_
  refine ru 11 ?_
  refine cll (V.doc) ?_
  refine s0 (HOp.val (v':=t2 (tabD S R (accS p.empty p.ends S)) (boolV true)) (a0f (xs:=[_]) (href) ⟨rfl,trivial⟩ ⟨(Fz.eq rfl),trivial⟩) (rfl)) ?_
  refine ru 15 ?_
  refine wdc (fun hr1 hc1=>?_) (fun hr1 hc1=>?_)
  ·skip
   exfalso;simp at hr1
  refine ru 14 ?_
  refine a4o rfl (a0g rfl) (a0H rfl rfl ty_29.h rqc rfl rfl) (a0g rfl) (a0g rfl) [] rfl pre0 ?_
  exact b0p (show Fz _ (tabP R (accS p.empty p.ends S)) (tabP R (accS p.empty p.ends S)) from Frz.fz) (.agg 3 _ _ fun i hi=>by match i,hi with | 0,_=>exact c1V _ _ _ 0 | 1,_=>exact c1V _ _ _ 1 | 2,_=>exact c1V _ _ _ 2) (.imm _) (.imm _)
end
theorem c1L (s:List UInt8) (l:List Mn) (hs:s.length≤9223372036854775807):(∃ z:Int,TabP s l (t4 b8X c9t (intV z) (boolV false)))∨∃ wd on β p e S R,TabOk s l wd on β p e S R:=by
 rcases c0p s l hs with ⟨x,hx⟩ | ⟨e,hx,hne,hel,hmb⟩ | ⟨wd,on,β,p,e,V⟩
 ·exact .inl ⟨x,c2m s l _ x false hx (fun sh=>.imm _) 0 (fun _ _=>default) (.inr rfl) (.inl rfl)⟩
 ·exact .inl ⟨6,c2m s l _ 6 true hx (fun sh=>Frz.fz) _ _ (.inl rfl) (.inr (by decide))⟩
 ·obtain ⟨k,hk⟩:=V.tab
  by_cases h:0 < e.length∧25 < k
  ·rw [if_pos h] at hk;exact .inl ⟨0,hk⟩
  ·rw [if_neg h] at hk
   rcases ht:tabV wd on β p with _ | ⟨S,R⟩
   ·rw [ht] at hk;exact .inl ⟨7,hk⟩
   ·rw [ht] at hk;exact .inr ⟨wd,on,β,p,e,S,R,V,ht,hk⟩
def c6k (n:Nat) (r:List Int):Prop:=r.length=32∧∀ x∈r,-1≤x∧x < (n:Int)∧x≠0
theorem c6C (z:Bag) (g:List Bag→Nat→Nat→Bag) {S':List Bag} {R':List (List Int)} (n:Nat):∀ (at_:Nat) (S:List Bag) (R:List (List Int)),R.length=at_→at_≤S.length→1≤S.length→S.length≤200→200≤n+at_→(∀ r∈R,c6k S.length r)→c5c z g n at_ S R=some (S',R')→R'.length=S'.length∧1≤S'.length∧S'.length≤200∧∀ r∈R',c6k S'.length r:=by
  induction n with
  | zero =>
    intro at_ S R h1 h2 h3 h4 h5 h6 h
    injection h with h;injection h with ha hb;subst ha;subst hb
    exact ⟨by omega,h3,h4,h6⟩
  | succ n ih =>
    intro at_ S R h1 h2 h3 h4 h5 h6 h
    have e:c5c z g (n+1) at_ S R=if at_ < S.length then (if 200 < (a1D z (g S at_) S 32).1.length then none else c5c z g n (at_+1) (a1D z (g S at_) S 32).1 (R++[(a1D z (g S at_) S 32).2])) else some (S,R):=rfl
    have hl:=a4j z (g S at_) S 32
    have ht:=c1f z (g S at_) S h3 32
    rw [e] at h
    clear e
    generalize a1D z (g S at_) S 32=w at h hl ht
    obtain ⟨A,r⟩:=w
    dsimp only at h hl ht
    by_cases hlt:at_ < S.length
    · rw [if_pos hlt] at h
      by_cases hle:200 < A.length
      · rw [if_pos hle] at h;cases h
      · rw [if_neg hle] at h
        refine ih (at_+1) A _ (by simp [h1]) omo omo omo omo (fun q hq=>?_) h
        rcases List.mem_append.1 hq with hq | hq
        · exact ⟨(h6 q hq).1,fun x hx=>by have:=(h6 q hq).2 x hx;omega⟩
        · simp at hq;subst hq;exact ⟨hl.2.2,ht⟩
    · rw [if_neg hlt] at h
      injection h with h;injection h with ha hb;subst ha;subst hb
      exact ⟨by omega,h3,h4,h6⟩
theorem c0C {wd:Nat} {on:List Bag} {β:Nat→Bag} {p:Pc} {S:List Bag} {R:List (List Int)} (h:tabV wd on β p=some (S,R)):R.length=S.length∧1≤S.length∧S.length≤200∧∀ r∈R,c6k S.length r :=
 c6C _ _ 200 0 [Bag.zero] [] rfl (Nat.zero_le _) (Nat.le_refl _) (by show 1≤200;omega) (Nat.le_refl _) (fun r hr=>by cases hr) h
theorem b4g {wd:Nat} {on:List Bag} {β:Nat→Bag} {p:Pc} {S:List Bag} {R:List (List Int)} (h:tabV wd on β p=some (S,R)):b3a R:=fun i hi s hs=>by
 obtain ⟨h1,h2,h3,h4⟩:=c0C h
 have e:R.getD i []=R[i]:=by rw [List.getD_eq_getElem?_getD,List.getElem?_eq_getElem hi];rfl
 have h5:=h4 _ (List.getElem_mem hi)
 have hs2:s < R[i].length:=by rw [h5.1];exact hs
 have e2:R[i].getD s 0=R[i][s]:=by rw [List.getD_eq_getElem?_getD,List.getElem?_eq_getElem hs2];rfl
 rw [e,e2]
 have:=h5.2 _ (List.getElem_mem hs2)
 rw [h1]
 exact ⟨this.1,this.2.1⟩
def byK (R:List (List Int)) (a:Int) (k:Nat):List Int:=((List.range k).filter (fun j:Nat=>nxT R a (j:Int) != -1)).map fun j:Nat=>(j:Int)
theorem c0g (R:List (List Int)) (a:Int) (k:Nat):(byK R a k).length≤k:=by
 unfold byK
 rw [List.length_map]
 exact Nat.le_trans (List.length_filter_le _ _) (by rw [List.length_range];exact Nat.le_refl _)
theorem b1N (R:List (List Int)) (a:Int) {p:Nat} (hp:p < 256):∀ k,k≤256→((a8z R a k).has p=true↔p < k∧nxT R a (p:Int)≠-1)
  | 0, _ => by
    show Bag.zero.has p=true↔_
    rw [Bag.zero_has]
    exact ⟨fun h=>(by cases h),fun h=>absurd h.1 (Nat.not_lt_zero _)⟩
  | k + 1, hk => by
    have ih:=b1N R a hp k omo
    unfold a8z
    split
    · rename_i h
      rw [ih]
      refine ⟨fun ⟨x,y⟩=>⟨by omega,y⟩,fun ⟨x,y⟩=>⟨?_,y⟩⟩
      rcases Nat.lt_succ_iff_lt_or_eq.1 x with e | rfl
      · exact e
      · exact absurd h y
    · rename_i h
      rw [Bag.with_has _ _ _ hp,Bool.or_eq_true,decide_eq_true_eq,ih]
      constructor
      · rintro (e | ⟨x,y⟩)
        · obtain rfl:p=k:=by omega
          exact ⟨Nat.lt_succ_self _,h⟩
        · exact ⟨by omega,y⟩
      · rintro ⟨x,y⟩
        rcases Nat.lt_succ_iff_lt_or_eq.1 x with e | rfl
        · exact .inr ⟨e,y⟩
        · exact .inl rfl
theorem a7o (R:List (List Int)) (a:Int):(a8z R a 32).list=byK R a 32:=by
  rw [Bag.list_eq]
  unfold byK
  congr 1
  refine a7P (n:=32) 224 (fun p hp=>?_) (fun p h1 h2=>?_)
  · rw [Bool.eq_iff_iff,b1N R a omo 32 (by decide),bne_iff_ne]
    exact ⟨fun h=>h.2,fun h=>⟨hp,h⟩⟩
  · cases h : (a8z R a 32).has p with
    | false=>rfl
    | true=>have:=(b1N R a omo 32 (by decide)).1 h;omega
end Go.Proofs.YtkeakpcieokhhaaGreatDoor
namespace Go.Proofs.YtkeakpcieokhhaaGreatDoor
open Go.Lib (compareInt)
structure Wy where
 price:Int
 word:List Int
 known:Bool
 deriving DecidableEq
def Wy.zero:Wy:=⟨0,[],false⟩
instance:Inhabited Wy:=⟨Wy.zero⟩
def orV:List Int→Int
 | []=>0
 | a::l=>if a≠0 then a else orV l
def a5E:List Int→List Int→Int
 | [],[]=>0
 | [],_::_=>-1
 | _::_,[]=>1
 | a::l,b::m=>if compareInt a b≠0 then compareInt a b else a5E l m
def c5j (w o:Wy):Int:=orV [compareInt w.price o.price,compareInt w.word.length o.word.length,a5E w.word o.word]
def a3q (w o:Wy):Bool:=!o.known||decide (c5j w o < 0)
def withV (w:Wy) (s p:Int):Wy:=⟨w.price+p,w.word++[s],true⟩
def priceOk (P:List Int) (s:Nat):Bool:=decide (s < P.length)&&decide (0≤P.getD s 0)&&decide (P.getD s 0≤1000000)
end Go.Proofs.YtkeakpcieokhhaaGreatDoor
namespace Go.Proofs.YtkeakpcieokhhaaGreatDoor
structure One where
 key:Int
 came:Int
 thing:Int
def a2f (a b:One):Bool:=if a.key=b.key then decide (a.came < b.came) else decide (a.key < b.key)
theorem a9R (a b:One):a2f a b=true↔a.key < b.key∨(a.key=b.key∧a.came < b.came):=by
 unfold a2f
 by_cases h:a.key=b.key
 ·rw [if_pos h];simp [h]
 ·rw [if_neg h];simp [h]
theorem a3M (a b:One):a2f a b=false↔b.key < a.key∨(a.key=b.key∧b.came≤a.came):=by
 rw [←Bool.not_eq_true,a9R];omega
theorem a9a {a b:One} (h:a2f a b=true):a2f b a=false:=by rw [a9R] at h;rw [a3M];omega
theorem c8o {a b c:One} (h:a2f a b=false) (k:a2f c b=true):a2f a c=false:=by rw [a3M] at h ⊢;rw [a9R] at k;omega
theorem b4S {a b c:One} (h:a2f a b=false) (k:a2f b c=false):a2f a c=false:=by rw [a3M] at h k ⊢;omega
theorem a9w (a:One):a2f a a=false:=by rw [a3M];omega
def a7T (g:Nat→One) (i j:Nat) (k:Nat):One:=if k=i then g j else if k=j then g i else g k
theorem a7I (g:Nat→One) (i j:Nat):a7T g i j i=g j:=by simp [a7T]
theorem a7E (g:Nat→One) (i j:Nat):a7T g i j j=g i:=by unfold a7T;split;rename_i h;rw [h];simp
theorem a3x (g:Nat→One) (i j k:Nat) (h1:k≠i) (h2:k≠j):a7T g i j k=g k:=by simp [a7T,h1,h2]
def HeapN (g:Nat→One) (n:Nat):Prop:=∀ k,0 < k→k < n→a2f (g k) (g ((k - 1) / 2))=false
def b3p (g:Nat→One) (n j:Nat):Prop:=(∀ k,0 < k→k < n→k≠j→a2f (g k) (g ((k - 1) / 2))=false)∧(0 < j→∀ k,0 < k→k < n→(k - 1) / 2=j→a2f (g k) (g ((j - 1) / 2))=false)
def a4n (g:Nat→One) (n i:Nat):Prop:=(∀ k,0 < k→k < n→(k - 1) / 2≠i→a2f (g k) (g ((k - 1) / 2))=false)∧(0 < i→∀ k,0 < k→k < n→(k - 1) / 2=i→a2f (g k) (g ((i - 1) / 2))=false)
theorem HeapN.congr {g g':Nat→One} {n:Nat} (h:HeapN g n) (e:∀ k,k < n→g' k=g k):HeapN g' n:=fun k h0 hk=>by
 rw [e k hk,e _ (by omega)];exact h k h0 hk
theorem c3v {g:Nat→One} {n:Nat} (h:HeapN g n):b3p g (n+1) n :=
 ⟨fun k h0 hk hne=>h k h0 (by omega),fun _ k _ _ e=>by omega⟩
theorem c7W {g:Nat→One} {n:Nat} (h:b3p g n 0):HeapN g n:=fun k h0 hk=>h.1 k h0 hk (by omega)
theorem c6F {g:Nat→One} {n j:Nat} (h:b3p g n j) (hl:a2f (g j) (g ((j - 1) / 2))=false):HeapN g n:=fun k h0 hk=>by
 by_cases e:k=j
 ·subst e;exact hl
 ·exact h.1 k h0 hk e
theorem c7I {g:Nat→One} {n j:Nat} (h:b3p g n j) (hj:0 < j) (hn:j < n) (hl:a2f (g j) (g ((j - 1) / 2))=true):b3p (a7T g ((j - 1) / 2) j) n ((j - 1) / 2):=by
 obtain ⟨i,hi⟩:∃ i,(j - 1) / 2=i:=⟨_,rfl⟩
 rw [hi] at hl ⊢
 have hij:i < j:=by omega
 refine ⟨fun k h0 hk hne=>?_,fun hi0 k h0 hk hp=>?_⟩
 ·by_cases e1:k=j
  ·subst e1
   rw [a7E,hi,a7I]
   exact a9a hl
  ·rw [a3x g i j k hne e1]
   have hk1:=h.1 k h0 hk e1
   by_cases e2:(k - 1) / 2=i
   ·rw [e2] at hk1 ⊢
    rw [a7I]
    exact c8o hk1 hl
   ·by_cases e3:(k - 1) / 2=j
    ·rw [e3,a7E]
     have:=h.2 hj k h0 hk e3
     rwa [hi] at this
    ·rw [a3x _ _ _ _ e2 e3];exact hk1
 ·have hpi:=h.1 i hi0 (by omega) (by omega)
  rw [a3x g i j ((i - 1) / 2) (by omega) (by omega)]
  by_cases e1:k=j
  ·subst e1
   rw [a7E];exact hpi
  ·rw [a3x g i j k (by omega) e1]
   have:=h.1 k h0 hk e1
   rw [hp] at this
   exact b4S this hpi
theorem b8s {g:Nat→One} {n m:Nat} (h:HeapN g m) (hm:n≤m):a4n (a7T g 0 n) n 0 :=
 ⟨fun k h0 hk hne=>by
  rw [a3x _ _ _ _ (by omega) (by omega),a3x _ _ _ _ hne (by omega)]
  exact h k h0 (by omega),fun h0=>by omega⟩
theorem c1g {g:Nat→One} {n i:Nat} (h:a4n g n i) (hl:n≤2 * i+1):HeapN g n:=fun k h0 hk=>h.1 k h0 hk (by omega)
theorem b3d {g:Nat→One} {n i j:Nat} (h:a4n g n i) (hj:a2f (g j) (g i)=false) (hm:∀ c,0 < c→c < n→(c - 1) / 2=i→a2f (g c) (g j)=false):HeapN g n:=fun k h0 hk=>by
 by_cases e:(k - 1) / 2=i
 ·rw [e];exact b4S (hm k h0 hk e) hj
 ·exact h.1 k h0 hk e
theorem c1v {g:Nat→One} {n i j:Nat} (h:a4n g n i) (hj0:0 < j) (hjn:j < n) (hji:(j - 1) / 2=i) (hl:a2f (g j) (g i)=true) (hm:∀ c,0 < c→c < n→(c - 1) / 2=i→a2f (g c) (g j)=false) :
  a4n (a7T g i j) n j:=by
 refine ⟨fun k h0 hk hne=>?_,fun _ k h0 hk hp=>?_⟩
 ·by_cases e2:(k - 1) / 2=i
  ·rw [e2,a7I]
   by_cases e1:k=j
   ·subst e1;rw [a7E];exact a9a hl
   ·rw [a3x _ _ _ _ (by omega) e1];exact hm k h0 hk e2
  ·rw [a3x g i j ((k - 1) / 2) e2 hne]
   by_cases e1:k=i
   ·subst e1
    rw [a7I]
    exact h.2 h0 j hj0 hjn hji
   ·rw [a3x _ _ _ _ e1 (by omega)];exact h.1 k h0 hk e2
 ·rw [a3x g i j k (by omega) (by omega),hji,a7I]
  have:=h.1 k h0 hk (by omega)
  rwa [hp] at this
theorem c2t {g:Nat→One} {n:Nat} (h:HeapN g n):∀ k,k < n→a2f (g k) (g 0)=false:=by
  intro k
  induction k using Nat.strongRecOn with
  | ind k ih =>
    intro hk
    by_cases h0:k=0
    · subst h0;exact a9w _
    · exact b4S (h k (by omega) hk) (ih _ (by omega) (by omega))
def at_ (l:List One) (k:Nat):One:=l.getD k ⟨0,0,0⟩
theorem a7a {l:List One} {k:Nat} (h:k < l.length):at_ l k=l[k]:=by simp [at_,h]
def a1Z (l:List One) (i j:Nat):List One:=(l.set i (at_ l j)).set j (at_ l i)
theorem a1t (l:List One) (i j:Nat):(a1Z l i j).length=l.length:=by simp [a1Z]
theorem a6G (l:List One) (i j:Nat) (hi:i < l.length) (hj:j < l.length):at_ (a1Z l i j)=a7T (at_ l) i j:=by
 funext k
 unfold a7T
 by_cases h1:k=i
 ·subst h1
  rw [if_pos rfl]
  by_cases h2:j=k
  ·subst h2;simp [at_,a1Z,hi]
  ·simp [at_,a1Z,hi,List.getElem_set_ne h2]
 ·rw [if_neg h1]
  by_cases h2:k=j
  ·subst h2;rw [if_pos rfl];simp [at_,a1Z,hj]
  ·rw [if_neg h2]
   simp [at_,a1Z,List.getElem?_set_ne (Ne.symm h2),List.getElem?_set_ne (Ne.symm h1)]
theorem a8e (l:List One) (i j:Nat) (hi:i < l.length) (hj:j < l.length):(a1Z l i j).Perm l:=by
 have h:=Array.swap_perm (xs:=l.toArray) (i:=i) (j:=j) (by simpa using hi) (by simpa using hj)
 have e:(l.toArray.swap i j (by simpa using hi) (by simpa using hj))=(a1Z l i j).toArray:=by
  simp [Array.swap,a1Z,at_,hi,hj]
 rw [e] at h
 simpa [Array.perm_iff_toList_perm] using h
end Go.Proofs.YtkeakpcieokhhaaGreatDoor
namespace Go.Proofs.YtkeakpcieokhhaaGreatDoor
open Go.RowKit
def Dsp (P:Program) (pre:List (Nat×HObj)) (T:TypeId) (x:HV) (name:String) (f:FuncId) (y:HV):Prop :=
 ∀ K w0 F0 E h w,R K w0 F0 E h w→(∀ p∈pre,h p.1=some p.2)→∀ v,Rep w E v x→∃ u,Rep w E u y∧∀ n,(method (n+1) T v name).run P w=.ok (f,u) w
theorem b7i {P:Program} {T:TypeId} {x:HV} {name:String} {f:FuncId} (hm:∀ n v w,(method (n+1) T v name).run P w=.ok (f,v) w):Dsp P [] T x name f x :=
 fun K w0 F0 E h w r _ v hv=>⟨v,hv,fun n=>hm n v w⟩
theorem a3S {P:Program} {T elem:TypeId} {name:String} {f:FuncId} {id gg:Nat} {o:HObj} {y:HV} (hm:((P.info? T).bind fun i=>(i.methods.find? (·.name == name)).map fun m=>(m.path.isEmpty,m.func))=some (true,some (f,false)))
    (hu:P.underlying T=some (.pointer elem)) (hT:tyOf P elem=some (false,1)) (hg:o.g=gg) (hi:0 < o.n) (hs:0 < o.sz) (hy:o.f 0 0=y):Dsp P [(id,o)] T (.pt id gg 0 0) name f y:=by
  subst hg
  intro K w0 F0 E h w r hp v hv
  have ho:=hp (id,o) (List.mem_cons_self ..)
  obtain ⟨l,bl,cs,hl,hlg,hlsz,hA,hB,hcs,hn,hm',vs,hvs⟩:=r.objAt ho hi
  cases hv with
  | pt b' k' _ _ _ _ hg hh =>
    obtain ⟨hb',rfl⟩:=hh l hl hlg
    rw [hA] at hb';injection hb' with hb';subst hb'
    obtain ⟨u,hrun,hrep⟩:=a2e hT (fun _=>rfl) w E bl (0 * l.sz+0) (fun j=>vs 0 j) (fun j=>o.f 0 j) (fun j hj=>by
      obtain rfl:j=0:=by omega
      rw [hB.cell,Nat.zero_mul,Nat.add_zero]
      have:=hvs 0 0 hi hs
      rw [Nat.zero_mul,Nat.add_zero] at this
      exact this)
    refine ⟨u,?_,fun n=>b0E n T name f hm elem hu _ u w hrun⟩
    rw [←hy];exact hrep
section
variable {P:Program} {ops:Array Oper} {ov:Nat→Option HV} {g:Nat} {d:Option Tmp} {ty:TypeId} {pos:String} {af:Array Edge} {gd:Option (Nat×Bool)}
theorem b4O {f:FuncId} {t:Operand} {name:String} {args:List Operand} {at_:Array TypeId} {ρ:Operand→Value} {T:TypeId} {v u:Value} {w:World} (hf:c5m P f) (hρ:ρ t=.iface T v) (hm:∀ n,(method (n+1) T v name).run P w=.ok (f,u) w) :
  (execOp ρ ⟨d,.call ⟨.invoke t name,args.toArray,at_⟩,ty,pos,af,gd⟩).run P w=.ok (.enter f (u::args.map ρ).toArray) w:=by
 have hargs:#[u]++args.toArray.map ρ=(u::args.map ρ).toArray:=by simp
 have hext:(#[Value.iface T v]++args.toArray.map ρ).extract 1 (#[Value.iface T v]++args.toArray.map ρ).size=args.toArray.map ρ:=by
  apply Array.ext'
  simp [List.take_of_length_le]
 have hget:(#[Value.iface T v]++args.toArray.map ρ)[0]?=some (Value.iface T v):=by simp
 have hdep:P.types.size+Made.depth=(P.types.size+(Made.depth - 1))+1:=by unfold Made.depth;rfl
 have hrun:(callMethod (Value.iface T v) name (args.toArray.map ρ)).run P w=.ok (.enter f (u::args.map ρ).toArray) w:=by
  unfold callMethod
  have hprog:(program).run P w=.ok P w:=rfl
  simp only [Sem.run_bind,hprog,Result.andThen_ok,hdep,hm,hargs]
  exact a0E hf _ w
 have hdo:(do let dd ←resolve ρ ⟨.invoke t name,args.toArray,at_⟩ ty;invoke dd.target dd.args:Sem Next).run P w=.ok (.enter f (u::args.map ρ).toArray) w:=by
  unfold resolve invoke
  simp only [hρ,Sem.run_bind,Sem.run_pure,Result.andThen_ok]
  simp only [hget,hext]
  exact hrun
 exact hdo
theorem a8O {f:FuncId} {T:TypeId} {t:Operand} {name:String} {args:List Operand} {at_:Array TypeId} {x y r:HV} {xs:List HV} {pre0 pre post:List (Nat×HObj)} (hd:Dsp P pre0 T x name f y) (hc:a3E P f (y::xs) pre r post) (hk:a6W pre post) (h0:ovl ov t=some (.ifc T x)) (hx:a1Q ov args xs) :
    HOp P ⟨d,.call ⟨.invoke t name,args.toArray,at_⟩,ty,pos,af,gd⟩ ov g (pre0++pre) r post:=by
  refine ⟨?_⟩;intro K w0 F0 E hh a w Q N rr ht hG hBd hpre hN
  have hrep:=hx.rep (w:=w) (E:=E) (ρ:=a.eval) (fun x hv hx h=>ht x hv (by simp [Op.operands,Call.operands];exact .inr hx) h)
  have hrec:=ht t _ (by simp [Op.operands,Call.operands]) h0
  generalize hρ:a.eval t=z at hrec
  cases hrec with
  | ifc _ v _ hv =>
    obtain ⟨u,hu,hm⟩:=hd K w0 F0 E hh w rr (fun p hp=>hpre p (List.mem_append.2 (.inl hp))) v hv
    have hexec:=b4O (d:=d) (args:=args) (at_:=at_) (ty:=ty) (pos:=pos) (af:=af) (gd:=gd) (hc 0).1 hρ hm
    unfold Oper.wp
    rw [hexec]
    simp only [Oper.upon]
    have h:=hc.sem hk rr (fun p hp=>hpre p (List.mem_append.2 (.inr hp))) (u::args.map a.eval) ⟨hu,hrep⟩ hBd
    refine Calls.mono h ?_
    rintro e w' ⟨v,E',rfl,e',r',hg',hv⟩
    exact hN v w' E' e' r' (fun g' h=>.inl (hg' g' h)) hv
theorem a4X {f:FuncId} {T:TypeId} {t:Operand} {name:String} {args:List Operand} {at_:Array TypeId} {x y r:HV} {xs:List HV} {pre0 pre:List (Nat×HObj)} (hd:Dsp P pre0 T x name f y) (hc:a3E P f (y::xs) pre r pre) (h0:ovl ov t=some (.ifc T x)) (hx:a1Q ov args xs) :
    HOp P ⟨d,.call ⟨.invoke t name,args.toArray,at_⟩,ty,pos,af,gd⟩ ov g (pre0++pre) r []:=by
  refine ⟨?_⟩;intro K w0 F0 E hh a w Q N rr ht hG hBd hpre hN
  have hrep:=hx.rep (w:=w) (E:=E) (ρ:=a.eval) (fun x hv hx h=>ht x hv (by simp [Op.operands,Call.operands];exact .inr hx) h)
  have hrec:=ht t _ (by simp [Op.operands,Call.operands]) h0
  have hpre2:∀ p∈pre,hh p.1=some p.2:=fun p hp=>hpre p (List.mem_append.2 (.inr hp))
  generalize hρ:a.eval t=z at hrec
  cases hrec with
  | ifc _ v _ hv =>
    obtain ⟨u,hu,hm⟩:=hd K w0 F0 E hh w rr (fun p hp=>hpre p (List.mem_append.2 (.inl hp))) v hv
    have hexec:=b4O (d:=d) (args:=args) (at_:=at_) (ty:=ty) (pos:=pos) (af:=af) (gd:=gd) (hc 0).1 hρ hm
    unfold Oper.wp
    rw [hexec]
    simp only [Oper.upon]
    have h:=hc.sem (a9J pre) rr hpre2 (u::args.map a.eval) ⟨hu,hrep⟩ hBd
    refine Calls.mono h ?_
    rintro e w' ⟨v,E',rfl,e',r',hg',hv⟩
    rw [a8X hpre2] at r'
    exact hN v w' E' e' r' (fun g' h=>.inl (hg' g' h)) hv
end
theorem c9w {P:Program} {Post:HEnd→List (Nat×HObj)→Nat→Prop} {C:Ctx} {ops:Array Oper} {Q:Exit→Act→World→Prop} {n clk:Nat} {tm:List (Nat×TV)} {hp:List (Nat×HObj)} {rest:List Oper} {ty T:TypeId} {pos name:String} {af:Array Edge} {f:FuncId} {t:Nat} {args:List Operand} {at_:Array TypeId} {x y:HV} {xs:List HV} {pre0 pre:List (Nat×HObj)} (d:Nat)
    (hd:Dsp P pre0 T x name f y) (hpre0:∀ p∈pre0,hget hp p.1=some p.2) (h0:tget tm t=some (.v (.ifc T x)))
    (hc:a2Z P f clk (y::xs) pre Post) (hx:a1Q (a0F (tget tm)) args xs) (hpre:∀ p∈pre,hget hp p.1=some p.2) (hlt:Nat.blt d n=true) (hk:a0R tm d=true)
    (h:∀ r kp c',Post (.ret r) kp c'→HSeq C P ops rest ⟨n,(d,.v r)::tm,kp++hp,c'⟩ Q) (hpan:∀ x kp c',Post (.pan x) kp c'→b2Q C Q ⟨n,tm,kp++hp,c'⟩ x) :
    HSeq C P ops (⟨some d,.call ⟨.invoke (.tmp t) name,args.toArray,at_⟩,ty,pos,af,none⟩::rest) ⟨n,tm,hp,clk⟩ Q:=by
  intro a w ⟨E,e0,r,hG,hsz,hdf,ht⟩
  have hlt:d < n:=by simpa [Nat.blt_eq] using hlt
  unfold a9E
  rw [if_pos (by simp [Region.wanted])]
  left
  have hrep:=a4v ht hx
  have hfn:Rep w E (a.eval (.tmp t)) (.ifc T x):=ht t _ h0
  generalize hρ:a.eval (.tmp t)=z at hfn
  cases hfn with
  | ifc _ v _ hv0 =>
    obtain ⟨u,hu,hm⟩:=hd C.K C.w0 C.E0.F E (hget hp) w r hpre0 v hv0
    have hexec:=b4O (d:=some d) (args:=args) (at_:=at_) (ty:=ty) (pos:=pos) (af:=af) (gd:=none) hc.1 hρ hm
    unfold Oper.wp
    rw [hexec]
    simp only [Oper.upon]
    have hcalls:=hc.2 ⟨C.K,C.w0,C.E0.F,E,hget hp,w,pre⟩ (u::args.map a.eval) ⟨r,fun id o ho=>hpre (id,o) (a1z ho)⟩ rfl ⟨hu,hrep⟩ hG
    refine Calls.mono hcalls ?_
    rintro e w' ⟨x,kp,c',E',hP,e',r',hG',_,hv⟩
    cases e with
    | returned v =>
      cases x with
      | pan x=>exact hv.elim
      | ret x =>
        refine h x kp c' hP _ w' ⟨E',e0.trans e',by simp only [a0M];exact r',hG',by simp [Act.put,hsz],hdf.ext e',fun t y hy=>?_⟩
        simp only [a0A] at hy
        split at hy
        · rename_i htd
          subst htd
          injection hy with hy
          subst hy
          rw [a0X (by rw [hsz];exact hlt)]
          exact hv
        · rename_i htd
          rw [a0y htd]
          have:=(ht t y hy).ext e'
          cases y with
          | v z=>exact this
          | un j b z =>
            have hne:=a2s hk t j b z hy
            simp only [TVRep,a0y hne] at this ⊢;exact this
    | panicked ch =>
      cases x with
      | ret x=>exact hv.elim
      | pan x =>
        obtain ⟨v,rfl,hv⟩:=hv
        exact hpan x kp c' hP a w' E' v (e0.trans e') (by simp only [a0M];exact r') hG' hsz (hdf.ext e') (fun t y hy=>(ht t y hy).ext e') hv
    | outgrown=>cases x <;> exact hv.elim
theorem b7B {P:Program} {α:Type} {I:α→Nat→Prop} {r:α→HV} {kpf:α→List (Nat×HObj)} {C:Ctx} {ops:Array Oper} {Q:Exit→Act→World→Prop} {n clk:Nat} {tm:List (Nat×TV)} {hp:List (Nat×HObj)} {rest:List Oper} {ty T:TypeId} {pos name:String} {af:Array Edge} {f:FuncId} {t:Nat} {args:List Operand} {at_:Array TypeId} {x y:HV} {xs:List HV} {pre0 pre:List (Nat×HObj)} (d:Nat)
  (hd:Dsp P pre0 T x name f y) (hpre0:∀ p∈pre0,hget hp p.1=some p.2) (h0:tget tm t=some (.v (.ifc T x)))
  (hc:a2Z P f clk (y::xs) pre (a5P I r kpf)) (hx:a1Q (a0F (tget tm)) args xs) (hpre:∀ p∈pre,hget hp p.1=some p.2) (hlt:Nat.blt d n=true) (hk:a0R tm d=true)
  (h:∀ x c',I x c'→HSeq C P ops rest ⟨n,(d,.v (r x))::tm,kpf x++hp,c'⟩ Q) :
  HSeq C P ops (⟨some d,.call ⟨.invoke (.tmp t) name,args.toArray,at_⟩,ty,pos,af,none⟩::rest) ⟨n,tm,hp,clk⟩ Q :=
 c9w d hd hpre0 h0 hc hx hpre hlt hk (fun _ _ c' ⟨x,hI,he,hk⟩=>by injection he with he;subst he;subst hk;exact h x c' hI) (fun _ _ _ ⟨_,_,he,_⟩=>by cases he)
set_option maxRecDepth 100000
set_option maxHeartbeats 1000000
@[reducible] def qoF (l:List One):Nat→Nat→HV:=fun i j=>match j with
 | 0=>intV (at_ l i).key
 | 1=>intV (at_ l i).came
 | _=>intV (at_ l i).thing
@[reducible] def qrO (g:Nat) (l:List One):HObj:=⟨g,l.length,3,190,0,qoF l⟩
theorem a9c {sh:List (Nat×HObj)} (l:List One) (i:Nat):∀ j,j < 3→Fz sh (qoF l i j) (qoF l i j):=fun j hj=>by
 match j,hj with
 | 0,_=>exact .imm _
 | 1,_=>exact .imm _
 | 2,_=>exact .imm _
theorem a2S {kp sh:List (Nat×HObj)} {g:Nat} {l:List One}:OKz kp sh (qrO g l) (qrO g l):=.of fun i j hi hj=>.fz _ _ (a9c _ _ j hj)
theorem c9H {kp sh:List (Nat×HObj)} {a b:Bool} (h:a=b):Kz kp sh (boolV a) (boolV b):=by subst h;exact .fz _ _ (.imm _)
theorem c5h (g:Nat) (l:List One):a3E Tryz.prog 177 [.os 8101 g 0 l.length] [(8101,qrO g l)] (intV (l.length:Int)) [(8101,qrO g l)]:=by
 intro c
 refine a0q Tryz.func177 rfl kr _ _ _ _ rfl 5 rfl rfl (fun X ok hX=>?_)
 refine ru 13 ?_
 refine fr1 ok hX rw1 (()) (trivial) (kza) ?_
 exact ⟨⟨_,rfl,a2S⟩,trivial⟩
theorem a9j (g:Nat) (l:List One) (i j:Nat) (hi:i < l.length) (hj:j < l.length):a3E Tryz.prog 178 [.os 8101 g 0 l.length,intV (i:Int),intV (j:Int)] [(8101,qrO g l)] (boolV (a2f (at_ l i) (at_ l j))) [(8101,qrO g l)]:=by
 intro c
 refine a0q Tryz.func178 rfl kr _ _ _ _ rfl 40 rfl rfl (fun X ok hX=>?_)
 refine ru 21 ?_
 refine wdc (fun hr0 hc0=>?_) (fun hr0 hc0=>?_)
 ·skip
  have hne:¬ (at_ l i).key=(at_ l j).key:=(by simpa using hr0)
  refine ru 18 ?_
  refine fr1 ok hX rw1 (()) (trivial) ((c9H (by unfold a2f;rw [if_neg hne];simp))) ?_
  exact ⟨⟨_,rfl,a2S⟩,trivial⟩
 have hne:(at_ l i).key=(at_ l j).key:=(by simpa using hr0)
 refine ru 19 ?_
 refine fr1 ok hX rw1 (()) (trivial) ((c9H (by unfold a2f;rw [if_pos hne];simp))) ?_
 exact ⟨⟨_,rfl,a2S⟩,trivial⟩
theorem c6O {kp sh:List (Nat×HObj)} {g i j a b:Nat} {l:List One} (ha:a=i) (hb:b=j) (hi:i < l.length) (hj:j < l.length):OKz kp sh ⟨g,l.length,3,190,0,upd (upd (qoF l) a 0 3 fun k=>(ldv true 3 (qoF l b) 0).cell k) b 0 3 fun k=>(ldv true 3 (qoF l a) 0).cell k⟩ (qrO g (a1Z l i j)):=by
 subst ha;subst hb
 refine a2J (a1t l a b).symm fun i' j' hi' hj'=>?_
 have e:∀ k,(ldv true 3 (qoF l k) 0).cell j'=qoF l k j':=fun k=>rfl
 have hs:qoF (a1Z l a b) i' j'=if i'=a then qoF l b j' else if i'=b then qoF l a j' else qoF l i' j':=by
  have hw:at_ (a1Z l a b) i'=a7T (at_ l) a b i':=by rw [a6G l a b hi hj]
  have key:∀ x:One,at_ (a1Z l a b) i'=x→∀ y,at_ l y=x→qoF (a1Z l a b) i' j'=qoF l y j':=fun x h1 y h2=>by
   match j',hj' with
   | 0,_=>show intV _=intV _;rw [h1,h2]
   | 1,_=>show intV _=intV _;rw [h1,h2]
   | 2,_=>show intV _=intV _;rw [h1,h2]
  by_cases h1:i'=a
  ·rw [if_pos h1];exact key _ (by rw [hw,h1,a7I]) b rfl
  ·rw [if_neg h1]
   by_cases h2:i'=b
   ·rw [if_pos h2];exact key _ (by rw [hw,h2,a7E]) a rfl
   ·rw [if_neg h2];exact key _ (by rw [hw,a3x _ _ _ _ h1 h2]) i' rfl
 rw [hs]
 by_cases h2:i'=b
 ·rw [a5r ⟨h2,Nat.zero_le _,by omega⟩,Nat.sub_zero,e]
  by_cases h1:i'=a
  ·rw [if_pos h1,←h1,←h2];exact a9c l i' j' hj'
  ·rw [if_neg h1,if_pos h2];exact a9c l a j' hj'
 ·rw [a2V (fun h=>h2 h.1)]
  by_cases h1:i'=a
  ·rw [a5r ⟨h1,Nat.zero_le _,by omega⟩,Nat.sub_zero,e,if_pos h1];exact a9c l b j' hj'
  ·rw [a2V (fun h=>h1 h.1),if_neg h1,if_neg h2];exact a9c l i' j' hj'
theorem b1F (g:Nat) (l:List One) (i j:Nat) (hi:i < l.length) (hj:j < l.length):a3E Tryz.prog 179 [.os 8101 g 0 l.length,intV (i:Int),intV (j:Int)] [(8101,qrO g l)] (.tup 0 fun _=>default) [(8101,qrO g (a1Z l i j))]:=by
 intro c
 refine a0q Tryz.func179 rfl kr _ _ _ _ rfl 20 rfl rfl (fun X ok hX=>?_)
 refine ru 18 ?_
 refine a1p ?_
 refine a0Z ok hX a2w.one rfl  [] rfl pre0 (()) (trivial) (by rfl) (by rfl) (kza) ?_
 exact ⟨⟨_,rfl,(c6O om om hi hj)⟩,trivial⟩
theorem R.few {K:Nat→Prop} {w0 w:World} {F0:Addr→Prop} {E:Env} {h:Nat→Option HObj} (r:R K w0 F0 E h w) {id k:Nat} {o:HObj} (ho:h id=some o) (hk:k≤o.n) (hf:o.fl≤k):R K w0 F0 E (a2H h id { o with n:=k }) w :=
  have key:∀ id' o',a2H h id { o with n:=k } id'=some o'→∃ o1,h id'=some o1:=fun id' o' h'=>by
    unfold a2H at h'
    split at h'
    · rename_i e;subst e;exact ⟨o,ho⟩
    · exact ⟨o',h'⟩
  { r with
    obj:=fun id' o' ho'=>by
      unfold a2H at ho'
      split at ho'
      · rename_i e
        subst e
        injection ho' with ho'
        subst ho'
        obtain ⟨l,hl,a⟩:=r.obj _ _ ho
        refine ⟨l,hl,a.g,a.G,a.sz,a.pos,?_⟩
        rcases a.at_ with ⟨h1,h2,h3,h4⟩ | ⟨b,cs,h1,h2,h3,h4,h5,h6,⟨vs,h8⟩,h9,h10⟩ | ⟨b,ob,h1,h2,h3,h4⟩
        · exact .inl ⟨h1,h2,by show k=0;omega,by show o.fl≤k;exact hf⟩
        · exact .inr (.inl ⟨b,cs,h1,h2,h3,Nat.le_trans hk h4,h5,h6,⟨vs,fun i j hi hj=>h8 i j (Nat.lt_of_lt_of_le hi hk) hj⟩,h9,hf⟩)
        · have:=h3.n;have:=h3.fl;omega
      · exact r.obj id' o' ho'
    inj:=fun a b oa ob la lb x ha hb=>by
      obtain ⟨o1,h1⟩:=key a oa ha
      obtain ⟨o2,h2⟩:=key b ob hb
      exact r.inj a b o1 o2 la lb x h1 h2 }
theorem c4x {C:Ctx} {n clk:Nat} {tm:List (Nat×TV)} {hp:List (Nat×HObj)} (id k:Nat) {g m sz ty fl:Nat} {f:Nat→Nat→HV} (h:hget hp id=some ⟨g,m,sz,ty,fl,f⟩) (hk:k≤m) (hf:fl≤k):a4t C ⟨n,tm,hp,clk⟩ ⟨n,tm,(id,⟨g,k,sz,ty,fl,f⟩)::hp,clk⟩:=by
 intro a w ⟨E,e0,r,hG,hsz,hdf,ht⟩
 exact ⟨E,e0,by have:=r.few h hk hf;rw [a0p];exact this,hG,hsz,hdf,ht⟩
theorem b1u {C:Ctx} {n clk:Nat} {tm:List (Nat×TV)} {hp:List (Nat×HObj)} (t j:Nat) (b:Bool) {y:HV} (h:tget tm t=some (.un j b y)) (hj:tget tm j=some (.v (.imm (.bool b)))):a4t C ⟨n,tm,hp,clk⟩ ⟨n,(t,.v y)::tm,hp,clk⟩:=by
 intro a w ⟨E,e0,r,hG,hsz,hdf,htm⟩
 refine ⟨E,e0,r,hG,hsz,hdf,fun t' z hz'=>?_⟩
 simp only [a0A] at hz'
 split at hz'
 ·rename_i e;subst e;injection hz' with hz';subst hz'
  have h1:TVRep w E a (a.tmps.getD t' undef) (.un j b y):=htm t' _ h
  have h2:Rep w E (a.tmps.getD j undef) (.imm (.bool b)):=htm j _ hj
  exact h1.1 (Rep.imm_inv h2)
 ·exact htm t' z hz'
@[reducible] def d2e (gr n:Nat) (came:Int):Nat→Nat→HV:=fun _ j=>match j with
 | 0=>.os 8101 gr 0 n
 | _=>intV came
@[reducible] def a8q (g gr n:Nat) (came:Int):HObj:=⟨g,1,2,136,0,d2e gr n came⟩
@[reducible] def qoH (x:One):Nat→HV:=fun j=>match j with
 | 0=>intV x.key
 | 1=>intV x.came
 | _=>intV x.thing
@[reducible] def qoV (x:One):HV:=.ifc 190 (.agg 3 (qoH x))
@[reducible] def qI (gq:Nat):HV:=.ifc 188 (.pt 8 gq 0 0)
theorem a3v {kp sh:List (Nat×HObj)} {g gr n n':Nat} {came came':Int} {o1:HObj} {F:Nat→Nat→HV} (f0:F 0 0=.os 8101 gr 0 n) (f1:F 0 1=intV came) (k:n=n':=by rfl) (kc:came=came':=by rfl) (h1:hget kp 8101=some o1:=by rfl) (e1:o1.g=gr:=by rfl):OKz kp sh ⟨g,1,2,136,0,F⟩ (a8q g gr n' came'):=by
 subst k;subst kc
 exact .of fun i j hi hj=>by
  obtain rfl:i=0:=by omega
  match j,hj with
  | 0,_=>rw [f0];exact .os _ _ _ _ _ h1 e1
  | 1,_=>rw [f1];exact .fz _ _ (.imm _)
theorem c1C (l:List One) (x:One):∀ j,j < 3→qoF (l++[x]) l.length j=qoH x j:=fun j hj=>by
 have e:at_ (l++[x]) l.length=x:=by simp [at_]
 match j,hj with
 | 0,_=>show intV _=intV _;rw [e]
 | 1,_=>show intV _=intV _;rw [e]
 | 2,_=>show intV _=intV _;rw [e]
theorem c5b {l:List One} {x:One} {i:Nat} (hi:i < l.length):qoF (l++[x]) i=qoF l i:=by
 have e:at_ (l++[x]) i=at_ l i:=by rw [a7a (by simp;omega),a7a hi,List.getElem_append_left]
 funext j
 show (match j with | 0=>intV (at_ (l++[x]) i).key | 1=>intV (at_ (l++[x]) i).came | _=>intV (at_ (l++[x]) i).thing)=_
 rw [e];first | done | rfl
theorem c4A {sh:List (Nat×HObj)} (x:One):∀ j,j < 3→Fz sh (qoH x j) (qoH x j):=fun j hj=>by
 match j,hj with
 | 0,_=>exact .imm _
 | 1,_=>exact .imm _
 | 2,_=>exact .imm _
theorem d0c {kp sh:List (Nat×HObj)} {x:One} {f:Nat→HV} (h:∀ j,j < 3→f j=qoH x j):Kz kp sh (.ifc 190 (.agg 3 f)) (qoV x) :=
 .fz _ _ (.ifc _ _ _ (.agg _ _ _ fun j hj=>by rw [h j hj];exact c4A x j hj))
theorem c6d {kp sh:List (Nat×HObj)} {g:Nat} {l:List One} {x:One} {f:Nat→Nat→HV} (h:∀ j,j < 3→Fz sh (f 0 j) (qoH x j)):OKz kp sh ⟨g,l.length+1,3,190,0,cat l.length (qoF l) f⟩ (qrO g (l++[x])):=by
 refine a2J (by simp) fun i j hi hj=>?_
 by_cases h':i < l.length
 ·rw [a6O h',c5b h'];exact a9c l i j hj
 ·obtain rfl:i=l.length:=by omega
  rw [a7c (Nat.le_refl _),Nat.sub_self,c1C l x j hj];exact h j hj
theorem c3Z {kp sh:List (Nat×HObj)} {g a m:Nat} {l:List One} {x:One} {F:Nat→HV} (ha:a=l.length):OKz kp sh ⟨g,l.length,3,190,0,upd (qoF (l++[x])) a 0 m F⟩ (qrO g l):=by
 refine a2J rfl fun i j hi hj=>?_
 rw [a2V omo,c5b hi];exact a9c l i j hj
theorem c3W {g gr n n':Nat} {came:Int} (h:n=n'):a2o (a8q g gr n came) (a8q g gr n' came):=by subst h;exact .refl _
theorem c8w (c gq gr:Nat) (l:List One) (came:Int) (x:One) {F:Nat→HV} (hF:∀ j,j < 3→F j=qoH x j) (hl:l.length≤100000):a2Z Tryz.prog 181 c [.pt 8 gq 0 0,.ifc 190 (.agg 3 F)] [(8,a8q gq gr l.length came),(8101,qrO gr l)] (a5P (fun (q:Nat) _=>True) (fun _=>.tup 0 fun _=>default) (fun q=>[(8,a8q gq q (l++[x]).length came),(8101,qrO q (l++[x]))])):=by
 refine a0q Tryz.func181 rfl kr _ _ _ _ rfl 20 rfl rfl (fun X ok hX=>?_)
 refine ru 3 ?_
 refine s0 (a4W kr rfl) ?_
 refine ru 13 ?_
 refine wdc (fun hr0 hc0=>?_) (fun hr0 hc0=>?_)
 ·refine ru 6 ?_
  refine a1X 17 (a0b (id:=17) (hs:=[_]) ei_134.h omx rfl omx ⟨rfl,rfl,rfl,rfl,trivial⟩) rfl rfl pre0 rfl rfl (k':=6) rfl ?_
  first
  | refine a1X 18 (a0a ei_134.h omy rfl omy omy (a0x rfl omy) omy rfl) rfl rfl (a0h rfl (a0K rfl)) rfl rfl (k':=7) rfl ?_
  | refine a1X 18 (a0a ei_134.h omy rfl omy omy (a0T rfl omy) omy rfl) rfl rfl (a0h rfl (a0K rfl)) rfl rfl (k':=7) rfl ?_
  | refine a1X 18 (a0a ei_134.h omy rfl omy omy (a0P rfl) omy rfl) rfl rfl (a0h rfl pre0) rfl rfl (k':=7) rfl ?_
  | refine a1X 18 (a0a ei_134.h omy rfl omy omy (a0B 3 (fun _ _=>default) rfl) omy rfl) rfl rfl (a0h rfl pre0) rfl rfl (k':=7) rfl ?_
  refine ru 3 ?_
  refine a1p ?_
  refine a0Z ok hX a2w.one rfl  [] rfl pre0 ((c+2+6)) (trivial) (by rfl) (by rfl) (kza) ?_
  exact ⟨⟨_,rfl,(a3v rfl rfl (by simp))⟩,⟨⟨_,rfl,(c6d (fun j hj=>by have e:∀ z,z=F j→Fz [] z (qoH x j):=(fun z hz=>by rw [hz,hF j hj];exact c4A x j hj);match j,hj with | 0,_=>exact e _ rfl | 1,_=>exact e _ rfl | 2,_=>exact e _ rfl))⟩,trivial⟩⟩
 exfalso;simp at hr0
theorem c9X (c gq gr:Nat) (l:List One) (came:Int) (x:One) (hl:l.length≤100000):a2Z Tryz.prog 180 c [.pt 8 gq 0 0] [(8,a8q gq gr (l++[x]).length came),(8101,qrO gr (l++[x]))] (a5P (fun (_:Unit) _=>True) (fun _=>qoV x) (fun _=>[(8,a8q gq gr l.length came),(8101,qrO gr l)])):=by
 refine a0q Tryz.func180 rfl kr _ _ _ _ rfl 27 rfl rfl (fun X ok hX=>?_)
 refine ru 51 ?_
 refine (c4x 8101 l.length rfl (by simp) (Nat.zero_le _)).wp ?_
 refine ru 7 ?_
 refine fr1 ok hX rw1 (()) (trivial) ((d0c (f:=qoF (l++[x]) (0+(((l++[x]).length:Int) - 1).toNat)) (by rw [show 0+(((l++[x]).length:Int) - 1).toNat=l.length from by simp];exact c1C l x))) ?_
 exact ⟨⟨_,rfl,(a3v rfl rfl (by simp))⟩,⟨⟨_,rfl,(c3Z (by simp))⟩,trivial⟩⟩
theorem d1m (c gq gr:Nat) (came:Int) (l:List One) (j:Nat) (hl:l.length≤1000000) (hj:j < l.length) (hu:b3p (at_ l) l.length j):a2Z Tryz.prog 117 c [qI gq,intV (j:Int)] [(8,a8q gq gr l.length came),(8101,qrO gr l)] (a5P (fun (m:List One) _=>m.Perm l∧HeapN (at_ m) m.length) (fun _=>.tup 0 fun _=>default) (fun m=>[(8,a8q gq gr m.length came),(8101,qrO gr m)])):=by
 refine a0q Tryz.func117 rfl kr _ _ _ _ rfl 23 rfl rfl (fun X ok hX=>?_)
 refine ru 1 ?_
 refine a0m (α:=Nat×List One) (fun x c=>⟨23,[(0,.v (qI gq)),(1,.v (intV (x.1:Int)))],[(8,a8q gq gr x.2.length came),(8101,qrO gr x.2)],c⟩) (fun x=>x.2.length=l.length∧x.2.Perm l∧x.1 < l.length∧b3p (at_ x.2) x.2.length x.1) (fun x=>x.1) ((j,l)) (by exact ⟨rfl,.refl _,hj,hu⟩) (a0d rfl (Nat.le_refl _) tsa hsa) (fun x c hx NhL1 hL1=>?_)
 revert hx hL1;obtain ⟨k,m⟩:=x;intro hx hL1;dsimp only at hx hL1 ⊢
 obtain ⟨hml,hmp,hk,hU⟩:=hx
 refine ru 2 ?_
 rcases Nat.eq_zero_or_pos k with h0 | h0
 ·refine ru 3 ?_
  first
  | refine hq_ 7 (HOp.val (v':=intV 0) (b6G b5H rfl rfl rfl omy omy omy omy) ((by subst h0;first | done | rfl | decide))) rfl rfl pre0 rfl rfl ?_
  | refine hq_ 7 (HOp.val (v':=intV 0) (b4Z rfl rfl (by first | decide | omega)) ((by subst h0;first | done | rfl | decide))) rfl rfl pre0 rfl rfl ?_
  refine ru 10 ?_
  refine rvl (boolV true) ((by subst h0;first | done | rfl)) ?_
  refine b4h 12 3 11 false true (v:=.imm undef) (fun h=>absurd h (by decide)) rfl rfl rfl rfl pre0 rfl rfl rfl ?_
  refine b4h 13 3 11 false true (v:=.imm undef) (fun h=>absurd h (by decide)) rfl rfl rfl rfl pre0 rfl rfl rfl ?_
  refine b4h 14 3 11 false true (v:=.imm undef) (fun h=>absurd h (by decide)) rfl rfl rfl rfl pre0 rfl rfl rfl ?_
  refine b4h 15 3 11 false true (v:=.imm undef) (fun h=>absurd h (by decide)) rfl rfl rfl rfl pre0 rfl rfl rfl ?_
  refine b4h 16 3 11 false true (v:=.imm undef) (fun h=>absurd h (by decide)) rfl rfl rfl rfl pre0 rfl rfl rfl ?_
  refine s0 (a4w rfl rfl) ?_
  refine ru 2 ?_
  refine wdc (fun hr0 hc0=>?_) (fun hr0 hc0=>?_)
  ·refine ru 3 ?_
   refine a0c ?_
   refine ru 1 ?_
   refine a1p ?_
   refine a0Z ok hX a2w.one rfl  [] rfl pre0 (m) (⟨hmp,(by subst h0;exact c7W hU)⟩) (by rfl) (by rfl) (kza) ?_
   exact ⟨⟨_,rfl,(a3v rfl rfl)⟩,⟨⟨_,rfl,a2S⟩,trivial⟩⟩
  exfalso;simp at hr0
 ·refine ru 3 ?_
  first
  | refine hq_ 7 (HOp.val (v':=intV (((k - 1) / 2:Nat):Int)) (b6G b5H rfl rfl rfl omy omy omy omy) ((congrArg intV omo))) rfl rfl pre0 rfl rfl ?_
  | refine hq_ 7 (HOp.val (v':=intV (((k - 1) / 2:Nat):Int)) (b4Z rfl rfl (by first | decide | omega)) ((congrArg intV omo))) rfl rfl pre0 rfl rfl ?_
  refine ru 10 ?_
  refine rvl (boolV false) ((congrArg boolV (by rw [beq_eq_false_iff_ne];omega))) ?_
  refine c2x 12 11 false (a1A rfl) rfl rfl rfl rfl pre0 rfl rfl ?_
  refine c2x 13 11 false (a1A rfl) rfl rfl rfl rfl pre0 rfl rfl ?_
  refine c2x 14 11 false (a1A rfl) rfl rfl rfl rfl pre0 rfl rfl ?_
  refine c2x 15 11 false (a4X (xs:=[_,_]) (args:=[_,_]) (pre0:=[(8,_)]) (pre:=[(8101,_)]) (a3S kr Tryz.underlying188 rfl rfl (nb rfl) (nb rfl) rfl) (a9j gr m k ((k - 1) / 2) om om) rfl ⟨rfl,⟨rfl,trivial⟩⟩) rfl rfl rfl rfl (a0h rfl (a0h rfl pre0)) rfl rfl ?_
  refine c2x 16 11 false (c1x rfl) rfl rfl rfl rfl pre0 rfl rfl ?_
  refine s0 (b1e rfl rfl) ?_
  refine ru 2 ?_
  refine wdc (fun hr0 hc0=>?_) (fun hr0 hc0=>?_)
  ·refine ru 3 ?_
   refine a0c ?_
   refine ru 1 ?_
   refine a1p ?_
   refine a0Z ok hX a2w.one rfl  [] rfl pre0 (m) (⟨hmp,c6F hU (by simpa using hr0)⟩) (by rfl) (by rfl) (kza) ?_
   exact ⟨⟨_,rfl,(a3v rfl rfl)⟩,⟨⟨_,rfl,a2S⟩,trivial⟩⟩
  refine ru 7 ?_
  refine hm_ 21 (a8O (xs:=[_,_]) (args:=[_,_]) (pre0:=[(8,_)]) (pre:=[(8101,qrO gr m)]) (post:=[(8101,qrO gr (a1Z m ((k - 1) / 2) k))]) (a3S kr Tryz.underlying188 rfl rfl (nb rfl) (nb rfl) rfl) (b1F gr m ((k - 1) / 2) k om om) (a0L (List.mem_cons_self ..) rfl a1Y) rfl ⟨rfl,⟨rfl,trivial⟩⟩) rfl rfl (a0h rfl (a0h rfl pre0)) rfl rfl (c':=c+1) rfl ?_
  refine ru 7 ?_
  exact hL1 (((k - 1) / 2,a1Z m ((k - 1) / 2) k)) _ _ (by (try dsimp only);exact ⟨by rw [a1t];exact hml,(a8e m _ _ om om).trans hmp,by omega,(by rw [show at_ (a1Z m ((k - 1) / 2) k)=a7T (at_ m) ((k - 1) / 2) k from a6G m _ _ om om,a1t];exact c7I hU h0 om (by simpa using hr0))⟩) omd (a0d rfl (Nat.le_refl _) tsa (a0e.cons rfl (c3W (a1t m _ _).symm) hsa))
theorem b1l {g:Nat→One} {N k j:Nat} (hj:(j=2 * k+2∧a2f (g (2 * k+2)) (g (2 * k+1))=true)∨(j=2 * k+1∧(N≤2 * k+2∨a2f (g (2 * k+2)) (g (2 * k+1))=false))):∀ c,0 < c→c < N→(c - 1) / 2=k→a2f (g c) (g j)=false:=by
 intro c h0 hc hk
 have hc2:c=2 * k+1∨c=2 * k+2:=by omega
 rcases hj with ⟨rfl,h⟩ | ⟨rfl,h⟩
 ·rcases hc2 with rfl | rfl
  ·exact a9a h
  ·exact a9w _
 ·rcases hc2 with rfl | rfl
  ·exact a9w _
  ·rcases h with h | h
   ·omega
   ·exact h
structure DnOk (l m:List One) (N:Nat):Prop where
 perm:m.Perm l
 heap:HeapN (at_ m) N
 rest:∀ q,N≤q→at_ m q=at_ l q
theorem c0H {l m:List One} {N k j:Nat} (hml:m.length=l.length) (hmp:m.Perm l) (hU:a4n (at_ m) N k) (hR:∀ q,N≤q→at_ m q=at_ l q) (hl:l.length≤1000000) (hN:N≤l.length) (hk:k < N) (hj:0 < j∧j < N∧(j - 1) / 2=k) (hls:a2f (at_ m j) (at_ m k)=true) (hm:∀ c,0 < c→c < N→(c - 1) / 2=k→a2f (at_ m c) (at_ m j)=false) (hjb:j≤1000000) :
  (a1Z m k j).length=l.length∧(a1Z m k j).Perm l∧a4n (at_ (a1Z m k j)) N j∧(∀ q,N≤q→at_ (a1Z m k j) q=at_ l q)∧j≤1000000:=by
 have e:=a6G m k j omo omo
 refine ⟨by rw [a1t];exact hml,(a8e m _ _ omo omo).trans hmp,?_,fun q hq=>?_,hjb⟩
 ·rw [e];exact c1v hU hj.1 hj.2.1 hj.2.2 hls hm
 ·rw [e,a3x _ _ _ _ omo omo];exact hR q hq
theorem c8b (c gq gr:Nat) (came:Int) (l:List One) (N:Nat) (hl:l.length≤1000000) (hN:N≤l.length) (hu:a4n (at_ l) N 0):a2Z Tryz.prog 118 c [qI gq,intV 0,intV (N:Int)] [(8,a8q gq gr l.length came),(8101,qrO gr l)] (a5P (fun (m:List One×Bool) _=>DnOk l m.1 N) (fun m=>boolV m.2) (fun m=>[(8,a8q gq gr m.1.length came),(8101,qrO gr m.1)])):=by
 refine a0q Tryz.func118 rfl kr _ _ _ _ rfl 48 rfl rfl (fun X ok hX=>?_)
 refine ru 13 ?_
 refine a0m (α:=Nat×List One) (fun x c=>⟨48,[(0,.v (qI gq)),(1,.v (intV 0)),(2,.v (intV (N:Int))),(7,.v (intV (x.1:Int)))],[(8,a8q gq gr x.2.length came),(8101,qrO gr x.2)],c⟩) (fun x=>x.2.length=l.length∧x.2.Perm l∧a4n (at_ x.2) N x.1∧(∀ q,N≤q→at_ x.2 q=at_ l q)∧x.1≤1000000) (fun x=>N - x.1) ((0,l)) (by exact ⟨rfl,.refl _,hu,fun _ _=>rfl,Nat.zero_le _⟩) (a0d rfl (Nat.le_refl _) tsa hsa) (fun x c hx NhL1 hL1=>?_)
 revert hx hL1;obtain ⟨k,m⟩:=x;intro hx hL1;dsimp only at hx hL1 ⊢
 obtain ⟨hml,hmp,hU,hR,hkb⟩:=hx
 refine ru 6 ?_
 refine rvl (intV ((2 * k+1:Nat):Int)) ((congrArg intV om)) ?_
 refine ru 15 ?_
 refine wdc (fun hr0 hc0=>?_) (fun hr0 hc0=>?_)
 ·skip
  have hlf:N≤2 * k+1:=(by simp at hr0;omega)
  refine ru 3 ?_
  refine a0c ?_
  refine ru 11 ?_
  refine fr1 ok hX rw1 ((m,_)) (⟨hmp,c1g hU hlf,hR⟩) (kza) ?_
  exact ⟨⟨_,rfl,(a3v rfl rfl)⟩,⟨⟨_,rfl,a2S⟩,trivial⟩⟩
 have hlf:2 * k+1 < N:=(by simp at hr0;omega)
 refine ru 13 ?_
 refine rvl (intV ((2 * k+2:Nat):Int)) ((congrArg intV om)) ?_
 refine ru 12 ?_
 first
 | refine b4h 32 3 28 true _ (fun hb=>a4X (xs:=[_,_]) (args:=[_,_]) (pre0:=[(8,_)]) (pre:=[(8101,_)]) (a3S (by kernel_rfl) Tryz.underlying188 rfl rfl (nb rfl) (nb rfl) rfl) (a9j gr m (2 * k+2) (2 * k+1) (by simp at hb;omega) omo) rfl ⟨rfl,⟨rfl,trivial⟩⟩) rfl rfl rfl rfl (a0h rfl (a0h rfl pre0)) rfl rfl rfl ?_
 | refine b6e 32 3 28 _ _ true _ (fun hb=>a4X (xs:=[_,_]) (args:=[_,_]) (pre0:=[(8,_)]) (pre:=[(8101,_)]) (a3S (by kernel_rfl) Tryz.underlying188 rfl rfl (nb rfl) (nb rfl) rfl) (a9j gr m (2 * k+2) (2 * k+1) (by simp at hb;omega) omo) rfl ⟨rfl,⟨rfl,trivial⟩⟩) rfl rfl rfl rfl (a0h rfl (a0h rfl pre0)) rfl rfl rfl ?_
 refine ru 3 ?_
 refine wdc (fun hr1 hc1=>?_) (fun hr1 hc1=>?_)
 ·skip
  have hch:(2 * k+2 < N)∧a2f (at_ m (2 * k+2)) (at_ m (2 * k+1))=true:=(by simp at hr1;exact ⟨by omega,hr1.2⟩)
  refine ru 11 ?_
  refine hq_ 38 (a4X (xs:=[_,_]) (args:=[_,_]) (pre0:=[(8,_)]) (pre:=[(8101,_)]) (a3S kr Tryz.underlying188 rfl rfl (nb rfl) (nb rfl) rfl) (a9j gr m (2 * k+2) k om om) rfl ⟨rfl,⟨rfl,trivial⟩⟩) rfl rfl (a0h rfl (a0h rfl pre0)) rfl rfl ?_
  refine ru 3 ?_
  refine wdc (fun hr2 hc2=>?_) (fun hr2 hc2=>?_)
  ·refine ru 3 ?_
   refine a0c ?_
   refine ru 11 ?_
   refine fr1 ok hX rw1 ((m,_)) (⟨hmp,b3d hU (by simpa using hr2) (b1l (.inl ⟨rfl,hch.2⟩)),hR⟩) (kza) ?_
   exact ⟨⟨_,rfl,(a3v rfl rfl)⟩,⟨⟨_,rfl,a2S⟩,trivial⟩⟩
  refine ru 7 ?_
  refine hm_ 43 (a8O (xs:=[_,_]) (args:=[_,_]) (pre0:=[(8,_)]) (pre:=[(8101,qrO gr m)]) (post:=[(8101,qrO gr (a1Z m k (2 * k+2)))]) (a3S kr Tryz.underlying188 rfl rfl (nb rfl) (nb rfl) rfl) (b1F gr m k (2 * k+2) om om) (a0L (List.mem_cons_self ..) rfl a1Y) rfl ⟨rfl,⟨rfl,trivial⟩⟩) rfl rfl (a0h rfl (a0h rfl pre0)) rfl rfl (c':=c+1) rfl ?_
  refine ru 7 ?_
  exact hL1 ((2 * k+2,a1Z m k (2 * k+2))) _ _ (by (try dsimp only);exact c0H hml hmp hU hR hl hN om om (by simpa using hr2) (b1l (.inl ⟨rfl,hch.2⟩)) om) omd (a0d rfl (Nat.le_refl _) tsa (a0e.cons rfl (c3W (a1t m _ _).symm) hsa))
 have hch:N≤2 * k+2∨a2f (at_ m (2 * k+2)) (at_ m (2 * k+1))=false:=(by by_cases h9:2 * k+2 < N;(right;simp at hr1;exact hr1 om);(left;omega))
 refine ru 8 ?_
 refine hq_ 38 (a4X (xs:=[_,_]) (args:=[_,_]) (pre0:=[(8,_)]) (pre:=[(8101,_)]) (a3S kr Tryz.underlying188 rfl rfl (nb rfl) (nb rfl) rfl) (a9j gr m (2 * k+1) k om om) rfl ⟨rfl,⟨rfl,trivial⟩⟩) rfl rfl (a0h rfl (a0h rfl pre0)) rfl rfl ?_
 refine ru 3 ?_
 refine wdc (fun hr2 hc2=>?_) (fun hr2 hc2=>?_)
 ·refine ru 3 ?_
  refine a0c ?_
  refine ru 11 ?_
  refine fr1 ok hX rw1 ((m,_)) (⟨hmp,b3d hU (by simpa using hr2) (b1l (.inr ⟨rfl,hch⟩)),hR⟩) (kza) ?_
  exact ⟨⟨_,rfl,(a3v rfl rfl)⟩,⟨⟨_,rfl,a2S⟩,trivial⟩⟩
 refine ru 7 ?_
 refine hm_ 43 (a8O (xs:=[_,_]) (args:=[_,_]) (pre0:=[(8,_)]) (pre:=[(8101,qrO gr m)]) (post:=[(8101,qrO gr (a1Z m k (2 * k+1)))]) (a3S kr Tryz.underlying188 rfl rfl (nb rfl) (nb rfl) rfl) (b1F gr m k (2 * k+1) om om) (a0L (List.mem_cons_self ..) rfl a1Y) rfl ⟨rfl,⟨rfl,trivial⟩⟩) rfl rfl (a0h rfl (a0h rfl pre0)) rfl rfl (c':=c+1) rfl ?_
 refine ru 7 ?_
 exact hL1 ((2 * k+1,a1Z m k (2 * k+1))) _ _ (by (try dsimp only);exact c0H hml hmp hU hR hl hN om om (by simpa using hr2) (b1l (.inr ⟨rfl,hch⟩)) om) omd (a0d rfl (Nat.le_refl _) tsa (a0e.cons rfl (c3W (a1t m _ _).symm) hsa))
theorem c8y (l l':List One) (n:Nat) (hn:l.length=n+1) (h2:l'.Perm (a1Z l 0 n)) (h3:HeapN (at_ l') n) (h4:∀ k,n≤k→at_ l' k=at_ (a1Z l 0 n) k) :
  ∃ l'',l'=l''++[at_ l 0]∧l''.length=n∧((at_ l 0)::l'').Perm l∧HeapN (at_ l'') l''.length:=by
 have hlen:l'.length=n+1:=by rw [h2.length_eq,a1t,hn]
 have e:at_ l' n=at_ l 0:=by rw [h4 n (Nat.le_refl _),a6G _ _ _ omo omo,a7E]
 have hs:l'=l'.take n++[at_ l 0]:=by
  rw [←e,a7a omo]
  have h1:=(List.take_append_drop n l').symm
  have h5:l'.drop n=[l'[n]]:=by
   rw [List.drop_eq_getElem_cons omo,List.drop_eq_nil_of_le omo]
  rw [h5] at h1
  exact h1
 have ht:(l'.take n).length=n:=by rw [List.length_take];omega
 refine ⟨l'.take n,hs,ht,?_,?_⟩
 ·have h5:((at_ l 0)::l'.take n).Perm l':=by
   conv=>rhs;rw [hs]
   exact (List.perm_append_comm (l₁:=[at_ l 0]) (l₂:=l'.take n))
  exact (h5.trans h2).trans (a8e l 0 n omo omo)
 ·rw [ht]
  refine h3.congr fun k hk=>?_
  rw [a7a omo,a7a omo,List.getElem_take]
theorem d0d {l:List One} {x:One} (h:HeapN (at_ l) l.length):b3p (at_ (l++[x])) (l++[x]).length l.length:=by
 rw [List.length_append,List.length_singleton]
 refine c3v (h.congr fun k hk=>?_)
 rw [a7a (by simp;omega),a7a hk,List.getElem_append_left]
@[reducible] def HpI (l:List One) (m:List One×Nat):Prop:=m.1.Perm l∧HeapN (at_ m.1) m.1.length
theorem c6L (c gq gr:Nat) (l:List One) (came:Int) (x:One) {F:Nat→HV} (hF:∀ j,j < 3→F j=qoH x j) (hl:l.length≤100000) (hh:HeapN (at_ l) l.length):a2Z Tryz.prog 97 c [qI gq,.ifc 190 (.agg 3 F)] [(8,a8q gq gr l.length came),(8101,qrO gr l)] (a5P (fun m _=>HpI (l++[x]) m) (fun _=>.tup 0 fun _=>default) (fun m=>[(8,a8q gq m.2 m.1.length came),(8101,qrO m.2 m.1)])):=by
 have hlx:(l++[x]).length=l.length+1:=by simp
 refine a0q Tryz.func97 rfl kr _ _ _ _ rfl 12 rfl rfl (fun X ok hX=>?_)
 refine ru 4 ?_
 refine b7B 6 (xs:=[_]) (pre:=[(8,_),(8101,_)]) (b7i (fun n v w=>by kernel_rfl)) pre0 rfl (c8w _ gq gr l came x hF hl) ⟨rfl,trivial⟩ (a0h rfl (a0h rfl pre0)) rfl rfl (fun q c1 hx1=>?_)
 (try dsimp only)
 refine ru 5 ?_
 refine hq_ 9 (a4X (xs:=[]) (args:=[]) (pre0:=[(8,_)]) (pre:=[(8101,_)]) (a3S kr Tryz.underlying188 rfl rfl (nb rfl) (nb rfl) rfl) (c5h q (l++[x])) rfl trivial) rfl rfl (a0h rfl (a0h rfl pre0)) rfl rfl ?_
 refine ru 1 ?_
 refine rvl (intV (l.length:Int)) ((congrArg intV om)) ?_
 refine a0n 11 (xs:=[_,_]) (pre:=[(8,_),(8101,_)]) (d1m _ gq q came (l++[x]) l.length om om (d0d hh)) ⟨rfl,⟨rfl,trivial⟩⟩ (a0h rfl (a0h rfl pre0)) rfl rfl (fun m c2 hm=>?_)
 (try dsimp only)
 refine ru 1 ?_
 refine a1p ?_
 refine a0Z ok hX a2w.one rfl  [] rfl pre0 ((m,q)) (hm) (by rfl) (by rfl) (kza) ?_
 exact ⟨⟨_,rfl,(a3v rfl rfl)⟩,⟨⟨_,rfl,a2S⟩,trivial⟩⟩
theorem c9e (c gq gr:Nat) (l:List One) (came:Int) (hl:l.length≤100000) (h0:0 < l.length) (hh:HeapN (at_ l) l.length):a2Z Tryz.prog 98 c [qI gq] [(8,a8q gq gr l.length came),(8101,qrO gr l)] (a5P (fun (m:List One) _=>(at_ l 0::m).Perm l∧HeapN (at_ m) m.length) (fun _=>qoV (at_ l 0)) (fun m=>[(8,a8q gq gr m.length came),(8101,qrO gr m)])):=by
 obtain ⟨n,hn⟩:∃ n,l.length=n+1:=⟨l.length - 1,by omega⟩
 have hsl:(a1Z l 0 n).length=l.length:=a1t l 0 n
 have hds:a4n (at_ (a1Z l 0 n)) n 0:=by rw [a6G l 0 n omo omo];exact b8s hh omo
 refine a0q Tryz.func98 rfl kr _ _ _ _ rfl 15 rfl rfl (fun X ok hX=>?_)
 refine ru 8 ?_
 refine hq_ 5 (a4X (xs:=[]) (args:=[]) (pre0:=[(8,_)]) (pre:=[(8101,_)]) (a3S kr Tryz.underlying188 rfl rfl (nb rfl) (nb rfl) rfl) (c5h gr l) rfl trivial) rfl rfl (a0h rfl (a0h rfl pre0)) rfl rfl ?_
 refine ru 1 ?_
 refine rvl (intV (n:Int)) ((congrArg intV om)) ?_
 refine ru 7 ?_
 refine hm_ 9 (a8O (xs:=[_,_]) (args:=[_,_]) (pre0:=[(8,_)]) (pre:=[(8101,qrO gr l)]) (post:=[(8101,qrO gr (a1Z l 0 n))]) (a3S kr Tryz.underlying188 rfl rfl (nb rfl) (nb rfl) rfl) (b1F gr l 0 n om om) (a0L (List.mem_cons_self ..) rfl a1Y) rfl ⟨rfl,⟨rfl,trivial⟩⟩) rfl rfl (a0h rfl (a0h rfl pre0)) rfl rfl (c':=c+1) rfl ?_
 refine ru 3 ?_
 refine (a1e 8 (a8q gq gr (a1Z l 0 n).length came) rfl (c3W hsl.symm)).wp ?_
 refine ru 3 ?_
 refine a0n 12 (xs:=[_,_,_]) (pre:=[(8,_),(8101,_)]) (c8b _ gq gr came (a1Z l 0 n) n om om hds) ⟨rfl,⟨rfl,⟨rfl,trivial⟩⟩⟩ (a0h rfl (a0h rfl pre0)) rfl rfl (fun m c1 hm=>?_)
 (try dsimp only)
 refine ru 3 ?_
 obtain ⟨hm1,hm2,hm3⟩:=hm;obtain ⟨m1,mb⟩:=m;obtain ⟨m2,e1,e2,e3,e4⟩:=c8y l m1 n hn hm1 hm2 hm3;dsimp only at e1 ⊢;subst e1
 refine b3S ?_
 refine ru 1 ?_
 refine b7B 14 (xs:=[]) (pre:=[(8,_),(8101,_)]) (b7i (fun n v w=>by kernel_rfl)) pre0 rfl (c9X _ gq gr m2 came (at_ l 0) om) trivial (a0h rfl (a0h rfl pre0)) rfl rfl (fun u c2 hx2=>?_)
 (try dsimp only)
 refine ru 4 ?_
 refine fr1 ok hX rw1 (m2) (⟨e3,e4⟩) ((by exact d0c (fun j _=>rfl))) ?_
 exact ⟨⟨_,rfl,(a3v rfl rfl)⟩,⟨⟨_,rfl,a2S⟩,trivial⟩⟩
theorem c4J (c gq gr:Nat) (l:List One) (came key thing:Int) (hl:l.length≤100000) (hh:HeapN (at_ l) l.length) (hc:0≤came∧came≤1000000):a2Z Tryz.prog 55 c [.pt 8 gq 0 0,intV key,intV thing] [(8,a8q gq gr l.length came),(8101,qrO gr l)] (a5P (fun m _=>HpI (l++[⟨key,came,thing⟩]) m) (fun _=>.tup 0 fun _=>default) (fun m=>[(8,a8q gq m.2 m.1.length (came+1)),(8101,qrO m.2 m.1)])):=by
 refine a0q Tryz.func55 rfl kr _ _ _ _ rfl 28 rfl rfl (fun X ok hX=>?_)
 refine ru 7 ?_
 refine wdc (fun hr0 hc0=>?_) (fun hr0 hc0=>?_)
 ·skip
  exfalso;simp at hr0
 refine ru 16 ?_
 refine b3g kr kr kr kr (c':=c+12) rfl ?_ (by simp)
 refine a0n 20 (xs:=[_,_]) (pre:=[(8,_),(8101,_)]) (c6L _ gq gr l came ⟨key,came,thing⟩ (fun j hj=>by match j,hj with | 0,_=>rfl | 1,_=>rfl | 2,_=>rfl) hl hh) ⟨rfl,⟨rfl,trivial⟩⟩ (a0h rfl (a0h rfl pre0)) rfl rfl (fun m c1 hm=>?_)
 (try dsimp only)
 refine a2E ?_
 refine ru 11 ?_
 refine a1p ?_
 refine a0Z ok hX a2w.one rfl  [] rfl pre0 (m) (hm) (by rfl) (by rfl) (kza) ?_
 exact ⟨⟨_,rfl,(a3v rfl rfl)⟩,⟨⟨_,rfl,a2S⟩,trivial⟩⟩
theorem c7H (c gq gr:Nat) (l:List One) (came:Int) (hl:l.length≤100000) (h0:0 < l.length) (hh:HeapN (at_ l) l.length):a2Z Tryz.prog 57 c [.pt 8 gq 0 0] [(8,a8q gq gr l.length came),(8101,qrO gr l)] (a5P (fun (m:List One) _=>(at_ l 0::m).Perm l∧HeapN (at_ m) m.length) (fun _=>t3 (intV (at_ l 0).thing) (intV (at_ l 0).key) (boolV true)) (fun m=>[(8,a8q gq gr m.length came),(8101,qrO gr m)])):=by
 refine a0q Tryz.func57 rfl kr _ _ _ _ rfl 33 rfl rfl (fun X ok hX=>?_)
 refine ru 27 ?_
 refine wdc (fun hr0 hc0=>?_) (fun hr0 hc0=>?_)
 ·skip
  exfalso;simp at hr0;subst hr0;simp at h0
 refine ru 8 ?_
 refine a0n 24 (xs:=[_]) (pre:=[(8,_),(8101,_)]) (c9e _ gq gr l came hl h0 hh) ⟨rfl,trivial⟩ (a0h rfl (a0h rfl pre0)) rfl rfl (fun m c1 hm=>?_)
 (try dsimp only)
 refine s0 (a4W kr rfl) ?_
 refine ru 21 ?_
 refine a2b ok hX a2w.one rfl (a0g rfl) (a0g rfl) (a0g rfl) [] rfl pre0 (m) (hm) (by rfl) (by rfl) ((b0k kza kza kza)) ?_
 exact ⟨⟨_,rfl,(a3v rfl rfl)⟩,⟨⟨_,rfl,a2S⟩,trivial⟩⟩
theorem d1O (gq gr:Nat) (l:List One) (came:Int):a3E Tryz.prog 56 [.pt 8 gq 0 0] [(8,a8q gq gr l.length came),(8101,qrO gr l)] (intV (l.length:Int)) [(8,a8q gq gr l.length came),(8101,qrO gr l)]:=by
 intro c
 refine a0q Tryz.func56 rfl kr _ _ _ _ rfl 10 rfl rfl (fun X ok hX=>?_)
 refine ru 12 ?_
 refine wdc (fun hr0 hc0=>?_) (fun hr0 hc0=>?_)
 ·skip
  exfalso;simp at hr0
 refine ru 13 ?_
 refine fr1 ok hX rw1 (()) (trivial) (kza) ?_
 exact ⟨⟨_,rfl,(a3v rfl rfl)⟩,⟨⟨_,rfl,a2S⟩,trivial⟩⟩
end Go.Proofs.YtkeakpcieokhhaaGreatDoor
namespace Go.Proofs.YtkeakpcieokhhaaGreatDoor
open Go.ChangeShapes Go.WideShapes Go.ChangeAt Go.RowKit Go.Deep
section
variable {H:Type} {encH:TypeId×Value→H} {P:Program} {w:World} {base:Nat} {spare:Nat→Bool} {held:Bool}
theorem b5l {α:Type} {t e:TypeId} {fuel:Nat} {A:Option Addr} {n c:Nat} {x:DataW H×List MemPlace} (ht:P.underlying t=some (.slice e)) (size:Nat) (hC:P.cellsOf e=size) (hpos:0 < size)
    (enc:α→List Value) (henc:∀ a,(enc a).length=size) (ok:α→Prop)
    (hel:∀ (m:Nat) (cs:List Value) (y:DataW H×List MemPlace),DataW.trod encH P w base spare held m e cs=some y→∃ a:α,cs=enc a∧ok a)
    (hf:DataW.trod encH P w base spare held fuel t [.slice A n c]=some x) :
    ∃ l:List α,l.length=n∧Sl w w.heap.size size enc A l∧n≤c∧c≤9223372036854775807∧∀ a∈l,ok a:=by
  rcases open_slice ht hf with ⟨h0,_⟩ | ⟨a,len,cap,m,k,D,Pl,hcs,hb,hl,hm,hmm,hx,hi⟩
  · injection h0 with h0 _
    injection h0 with h1 h2 h3
    subst h1;subst h2;subst h3
    exact ⟨[],rfl,⟨henc,a1l.none_⟩,by omega,by omega,by simp⟩
  · injection hcs with h0 _
    injection h0 with h1 h2 h3
    subst h1;subst h2;subst h3
    have hnm:n≤m:=by rw [hmm];split <;> omega
    have each:∀ k,k≤n→∃ l:List α,l.length=k∧(∀ i (hi:i < l.length),w.cells? base (a.add (i * size)) size=some (enc l[i]))∧∀ y∈l,ok y:=by
      intro k
      induction k with
      | zero=>intro _;exact ⟨[],rfl,fun i hi=>by simp at hi,by simp⟩
      | succ k ih =>
        intro hk
        obtain ⟨l,hl1,hl2,hl3⟩:=ih (by omega)
        obtain ⟨cs',h1,h2⟩:=hi k (by omega)
        rw [hC] at h1
        obtain ⟨a',rfl,hok⟩:=hel _ _ _ h2
        refine ⟨l++[a'],by simp [hl1],fun i hi=>?_,fun y hy=>?_⟩
        · by_cases hik:i < l.length
          · rw [List.getElem_append_left hik];exact hl2 i hik
          · have:i=k:=by simp at hi;omega
            subst this
            simp [hl1,h1]
        · rcases List.mem_append.1 hy with hy | hy
          · exact hl3 y hy
          · simp at hy;subst hy;exact hok
    obtain ⟨l,hl1,hl2,hl3⟩:=each n (Nat.le_refl _)
    refine ⟨l,hl1,⟨henc,?_,fun hn=>?_⟩,hl,by unfold maxLen at hm;omega,hl3⟩
    · have:∀ m:List α,(m.flatMap enc).length=m.length * size:=by
        intro m
        induction m with
        | nil=>simp
        | cons x m ih=>simp [List.flatMap_cons,ih,henc,Nat.add_mul,Nat.add_comm]
      exact this l
    · refine ⟨a,rfl,?_,fun j u hu=>?_⟩
      · have h0:=hl2 0 hn
        have:=World.cells?_block h0 hpos
        rwa [a3r] at this
      · have hfl:(l.flatMap enc).length=l.length * size:=by
          have:∀ m:List α,(m.flatMap enc).length=m.length * size:=by
            intro m
            induction m with
            | nil=>simp
            | cons x m ih=>simp [List.flatMap_cons,ih,henc,Nat.add_mul,Nat.add_comm]
          exact this l
        have hj:j < l.length * size:=by
          rcases Nat.lt_or_ge j (l.flatMap enc).length with hlt | hge
          · rw [hfl] at hlt;exact hlt
          · rw [List.getElem?_eq_none hge] at hu;cases hu
        have hjd:j / size < l.length:=(Nat.div_lt_iff_lt_mul hpos).2 hj
        have hjm:j % size < size:=Nat.mod_lt _ hpos
        have e1:j=j / size * size+j % size:=by rw [Nat.mul_comm];exact (Nat.div_add_mod j size).symm
        rw [e1] at hu ⊢
        rw [a1M henc _ _ _ hjd hjm] at hu
        have:=(World.cells?_some (hl2 _ hjd)).2.2 (j % size) hjm
        rw [a5U] at this
        rw [this,hu]
def c3l (x:Int):Prop:=(Lit.int .i64 x).wf=true
theorem c4Z {e:TypeId} (he:P.underlying e=some (.int .i64)) (m:Nat) (cs:List Value) (y:DataW H×List MemPlace) (h:DataW.trod encH P w base spare held m e cs=some y):∃ a:Int,cs=a4I a∧c3l a:=by
 obtain ⟨b,rfl,_,hw⟩:=DataW.trod_int he h
 exact ⟨b,rfl,hw⟩
end
end Go.Proofs.YtkeakpcieokhhaaGreatDoor
namespace Go.Proofs.YtkeakpcieokhhaaGreatDoor
open Go.RowKit
structure Tok where
 kind:Int
 typ:Int
 attr:Int
 rune:Int
 m0:Int
 m1:Int
 m2:Int
 m3:Int
 m4:Int
 m5:Int
 m6:Int
 m7:Int
theorem Tok.eq_iff (s t:Tok):(s.kind=t.kind∧s.typ=t.typ∧s.attr=t.attr∧s.rune=t.rune∧s.m0=t.m0∧s.m1=t.m1∧s.m2=t.m2∧s.m3=t.m3∧s.m4=t.m4∧s.m5=t.m5∧s.m6=t.m6∧s.m7=t.m7)↔s=t:=by
 cases s;cases t;simp only [Tok.mk.injEq]
instance tokDec:DecidableEq Tok:=fun s t=>decidable_of_iff _ (Tok.eq_iff s t)
def Tok.cells (t:Tok):List Value:=[.int .i64 t.kind,.int .i64 t.typ,.int .i64 t.attr,.int .i32 t.rune,.int .u16 t.m0,.int .u16 t.m1,.int .u16 t.m2,.int .u16 t.m3,.int .u16 t.m4,.int .u16 t.m5,.int .u16 t.m6,.int .u16 t.m7]
theorem Tok.cells_length (t:Tok):t.cells.length=12:=rfl
def Tok.val (t:Tok):Value:=.agg t.cells.toArray
attribute [local go_sem] a6a a7Q a2K a2L
end Go.Proofs.YtkeakpcieokhhaaGreatDoor
namespace Go.Proofs.YtkeakpcieokhhaaGreatDoor
open Go.RowKit
theorem a8T (x:Int):(a4I x).length=1:=by simp [a4I]
theorem c1z (x:Int):∀ u∈a4I x,u.oneCell'=true:=by
 intro u hu
 simp only [a4I,List.mem_cons,List.not_mem_nil,or_false] at hu
 subst hu;rfl
theorem c2U:Elem Tryz.prog 23 3 1 8 :=
 ⟨Tryz.underlying23,b4t (z:=.int .i64 0) (by kernel_rfl) rfl,by omega,by omega⟩
set_option maxHeartbeats 400000 in
theorem b9V (A:Option Addr) (n c B:Nat) (l:List Int) (w:World) (hn:l.length=n) (h:Sl w B 1 a4I A l) (hB:B≤w.heap.size) (hl:n≤1000000000) :
    Calls Tryz.prog 99 #[.slice A n c] w (a3N 3 1 a4I w l):=by
  have hq:=Lib.run_eql_slice_nil (P:=Tryz.prog) w 23 3 A n c 0 0 Tryz.underlying23
  cases A with
  | none =>
    have hl0:l=[]:=by
      rcases Nat.eq_zero_or_pos l.length with h0 | h0
      · exact List.eq_nil_of_length_eq_zero h0
      · obtain ⟨b,o,e,_⟩:=h.addr h0 omo;cases e
    subst hl0
    obtain rfl:0=n:=hn
    go_enter Tryz.func99,Tryz.ntmps99
    go_wp2
    go_ret
    exact a3N.of rfl rfl (Own.nil _ _ _ a8T) (Below.refl _ _)
  | some a =>
    have HN:=Lib.hid hn;clear hn
    go_enter Tryz.func99,Tryz.ntmps99
    go_wp2_with (at_builtin;refine a5e rfl _ _ _ rfl c2U w.heap.size a4I c1z _ [] 0 rfl rfl (Own.empty _ _ a8T (Nat.le_refl _)) B _ n _ l rfl HN.out (h.alloc hB _) omo (b6r (Nat.le_refl _) _) ?_;intro A2 c2 w2 hown2 hg2 hat2)
    go_ret
    exact a3N.of HN.out rfl (by simpa using hown2) ((Own.empty _ _ a8T (Nat.le_refl _)).below_grown ((Below.refl _ _).alloc (Nat.le_refl _) _) hg2 (Nat.le_refl _) (b6r (Nat.le_refl _) _))
theorem b7v (t:Int) (j:Nat) (h:j < 1):intV t=.imm ((a4I t).getD j undef):=by
 match j,h with | 0,_=>rfl
end Go.Proofs.YtkeakpcieokhhaaGreatDoor
namespace Go.Proofs
open Go.Shelf
def Tryz.lays122_ren:Go.Shelf.Ren:=⟨fun | 122=>95 | 215=>116 | n=>n,fun | 3=>3 | 4=>4 | n=>n,fun | n=>n⟩
theorem Tryz.lays122:Go.Proofs.Lays.n122 Tryz.prog Tryz.lays122_ren:={
 mixed:=by kernel_rfl
 f122:=Tryz.func95.trans (congrArg some (by kernel_rfl))
 f215:=Tryz.func116.trans (congrArg some (by kernel_rfl))
 t3:=Tryz.underlying3
 a3:=Tryz.isAgg3
 z3:=Tryz.sizeOf3
 v3:=Tryz.zeroValue3
 t4:=Tryz.underlying4
 a4:=Tryz.isAgg4
 z4:=Tryz.sizeOf4
 v4:=Tryz.zeroValue4 }
open Go.RowKit in
theorem Tryz.cmp_Compare_int (x y:Int) (w:World) :
  Calls Tryz.prog 95 #[.int .i64 x,.int .i64 y] w fun e w'=>e=.returned (.int .i64 (Lib.compareInt x y))∧w'=w:=Any.cmp_Compare_int Tryz.lays122 x y w
end Go.Proofs
namespace Go.Proofs.YtkeakpcieokhhaaGreatDoor
set_option maxRecDepth 100000
set_option maxHeartbeats 1000000
open Go.RowKit
open Go.Lib (compareInt)
@[reducible] def wyF (w:Wy):Nat→HV:=fun j=>match j with
 | 0=>intV w.price
 | 1=>a0i w.word
 | _=>boolV w.known
@[reducible] def wyV (w:Wy):HV:=.agg 3 (wyF w)
theorem a8v {sh:List (Nat×HObj)} (w:Wy):∀ j,j < 3→Fz sh (wyF w j) (wyF w j):=fun j hj=>by
 match j,hj with
 | 0,_=>exact .imm _
 | 1,_=>exact (show Fz _ (a0i _) (a0i _) from Frz.fz)
 | 2,_=>exact .imm _
theorem b9F (a b:Int):HPure Tryz.prog 95 [intV a,intV b] (intV (compareInt a b)):=by
 refine ⟨⟨_,_,Tryz.func95,rfl,by kernel_rfl⟩,fun w F vs hF hr hw=>?_⟩
 obtain ⟨u,v,rfl,hu,hv⟩:=c6v hr
 rw [hu.imm_inv,hv.imm_inv]
 refine (Tryz.cmp_Compare_int a b w).mono ?_
 rintro e w' ⟨rfl,rfl⟩
 exact a6L hF (Below.refl _ _)
theorem c4q {l:List Int} {k:Nat} (h:k < l.length) (h0:l.getD k 0=0):orV (l.drop k)=orV (l.drop (k+1)):=by
 rw [List.drop_eq_getElem_cons h]
 rw [List.getD_eq_getElem?_getD,List.getElem?_eq_getElem h] at h0
 show (if l[k]≠0 then l[k] else orV (l.drop (k+1)))=_
 rw [if_neg (fun h9=>h9 h0)]
theorem c9y {l:List Int} {k:Nat} (h:k < l.length) (h0:l.getD k 0≠0):orV (l.drop k)=l.getD k 0:=by
 rw [List.drop_eq_getElem_cons h]
 rw [List.getD_eq_getElem?_getD,List.getElem?_eq_getElem h] at h0 ⊢
 show (if l[k]≠0 then l[k] else orV (l.drop (k+1)))=l[k]
 exact if_pos h0
theorem c6u (l:List Int) (hl:l.length≤1000000):HPure Tryz.prog 94 [a0i l] (intV (orV l)):=by
 refine a0l Tryz.func94 rfl kr _ _ _ rfl 18 rfl rfl (fun w F=>?_)
 refine ru 19 ?_
 refine a0m (α:=Nat) (fun x c=>⟨18,[(3,.v (intV 0)),(6,.v (a0i l)),(7,.v (intV (l.length:Int))),(8,.v (intV (x:Int)))],[],c⟩) (fun x=>x≤l.length∧orV (l.drop x)=orV l) (fun x=>l.length - x) (0) (by exact ⟨Nat.zero_le _,rfl⟩) (a0d rfl (Nat.le_refl _) tsa a0e.nil) (fun k c hx NhL1 hL1=>?_)
 (try dsimp only at hx hL1 ⊢)
 obtain ⟨hk,ho⟩:=hx
 refine ru 6 ?_
 refine wdc (fun hr0 hc0=>?_) (fun hr0 hc0=>?_)
 ·skip
  have hkl:k < l.length:=om
  refine ru 18 ?_
  refine wdc (fun hr1 hc1=>?_) (fun hr1 hc1=>?_)
  ·skip
   have hne:l.getD k 0≠0:=(by simpa using hr1)
   refine ru 9 ?_
   refine a0o ?_
   refine ru 2 ?_
   refine rt1 ?_
   exact a6p (by rw [←ho,c9y hkl hne];simp)
  have he:l.getD k 0=0:=(by simpa using hr1)
  refine ru 7 ?_
  exact hL1 (k+1) _ _ (by (try dsimp only);exact ⟨by omega,by rw [←ho,c4q hkl he]⟩) omd (a0d rfl (Nat.le_refl _) tsa a0e.nil)
 refine ru 2 ?_
 refine a0c ?_
 refine ru 9 ?_
 refine rt1 ?_
 exact a6p (by rw [←ho,List.drop_eq_nil_of_le om];rfl)
theorem b4M {a b:List Int} {k:Nat} (ha:k < a.length) (hb:k < b.length):a5E (a.drop k) (b.drop k)=if compareInt (a.getD k 0) (b.getD k 0)≠0 then compareInt (a.getD k 0) (b.getD k 0) else a5E (a.drop (k+1)) (b.drop (k+1)):=by
 rw [List.drop_eq_getElem_cons ha,List.drop_eq_getElem_cons hb,List.getD_eq_getElem?_getD,List.getElem?_eq_getElem ha,List.getD_eq_getElem?_getD,List.getElem?_eq_getElem hb]
 rfl
theorem c5f (a b:List Int) (ha:a.length≤1000000) (hb:b.length≤1000000):HPure Tryz.prog 96 [a0i a,a0i b] (intV (a5E a b)):=by
 refine a0l Tryz.func96 rfl kr _ _ _ rfl 36 rfl rfl (fun w F=>?_)
 refine ru 14 ?_
 refine a0m (α:=Nat) (fun x c=>⟨36,[(0,.v (a0i a)),(1,.v (a0i b)),(9,.v (a0i a)),(10,.v (intV (a.length:Int))),(11,.v (intV (x:Int)))],[],c⟩) (fun x=>x≤a.length∧x≤b.length∧a5E (a.drop x) (b.drop x)=a5E a b) (fun x=>a.length - x) (0) (by exact ⟨Nat.zero_le _,Nat.zero_le _,rfl⟩) (a0d rfl (Nat.le_refl _) tsa a0e.nil) (fun k c hx NhL1 hL1=>?_)
 (try dsimp only at hx hL1 ⊢)
 obtain ⟨hk,hkb,ho⟩:=hx
 refine ru 6 ?_
 refine wdc (fun hr0 hc0=>?_) (fun hr0 hc0=>?_)
 ·skip
  have hka:k < a.length:=om
  refine ru 22 ?_
  refine wdc (fun hr1 hc1=>?_) (fun hr1 hc1=>?_)
  ·refine ru 9 ?_
   refine a0o ?_
   refine ru 2 ?_
   refine rt1 ?_
   exact a6p (by rw [←ho,List.drop_eq_getElem_cons hka,show b.drop k=[] from List.drop_eq_nil_of_le om];rfl)
  have hkl:k < b.length:=om
  refine ru 15 ?_
  refine cll (b9F (a.getD k 0) (b.getD k 0)) ?_
  refine ru 9 ?_
  refine wdc (fun hr2 hc2=>?_) (fun hr2 hc2=>?_)
  ·skip
   have hne:compareInt (a.getD k 0) (b.getD k 0)≠0:=(by simpa using hr2)
   refine ru 9 ?_
   refine a0o ?_
   refine ru 2 ?_
   refine rt1 ?_
   exact a6p (by rw [←ho,b4M hka hkl,if_pos hne])
  have he:compareInt (a.getD k 0) (b.getD k 0)=0:=(by simpa using hr2)
  refine ru 7 ?_
  exact hL1 (k+1) _ _ (by (try dsimp only);exact ⟨by omega,by omega,by rw [←ho,b4M hka hkl,if_neg (fun h=>h he)]⟩) omd (a0d rfl (Nat.le_refl _) tsa a0e.nil)
 refine ru 2 ?_
 refine a0c ?_
 refine ru 12 ?_
 refine wdc (fun hr3 hc3=>?_) (fun hr3 hc3=>?_)
 ·refine ru 7 ?_
  refine rt1 ?_
  exact a6p (by rw [←ho,show a.drop k=[] from List.drop_eq_nil_of_le om,List.drop_eq_getElem_cons (show k < b.length by omega)];rfl)
 refine ru 8 ?_
 refine rt1 ?_
 exact a6p (by rw [←ho,show a.drop k=[] from List.drop_eq_nil_of_le om,show b.drop k=[] from List.drop_eq_nil_of_le om];rfl)
theorem b5q (p q:Wy) (hp:p.word.length≤1000000) (hq:q.word.length≤1000000):HPure Tryz.prog 54 [wyV p,wyV q] (boolV (a3q p q)):=by
 refine a0l Tryz.func54 rfl kr _ _ _ rfl 30 rfl rfl (fun w F=>?_)
 refine ru 8 ?_
 cases hk:q.known
 ·refine ru 4 ?_
  refine d0 4 (HOp.val (v':=boolV true) (a1A rfl) ((by rw [hk];rfl))) ?_
  refine ru 1 ?_
  first
  | refine a5h 10 3 8 false _ (fun hb=>a0t ty_3.h rfl omb omb (fun h=>(by first | rfl | cases h))) rfl rfl rfl rfl (a0K rfl) rfl rfl rfl (k':=6) rfl ?_
  | refine a5h 10 3 8 false _ (fun hb=>a0j ty_3.h rfl omb (fun h=>(by first | rfl | cases h))) rfl rfl rfl rfl pre0 rfl rfl rfl (k':=6) rfl ?_
  refine ru 1 ?_
  first
  | refine a5h 12 3 8 false _ (fun hb=>a0t ty_3.h rfl omb omb (fun h=>(by first | rfl | cases h))) rfl rfl rfl rfl (a0K rfl) rfl rfl rfl (k':=8) rfl ?_
  | refine a5h 12 3 8 false _ (fun hb=>a0j ty_3.h rfl omb (fun h=>(by first | rfl | cases h))) rfl rfl rfl rfl pre0 rfl rfl rfl (k':=8) rfl ?_
  refine a5h 13 3 8 false _ (fun hb=>a0f (xs:=[_,_]) (b9F p.price q.price) ⟨rfl,⟨rfl,trivial⟩⟩ ⟨fe,⟨fe,trivial⟩⟩) rfl rfl rfl rfl pre0 rfl rfl rfl (k':=9) rfl ?_
  refine ru 1 ?_
  first
  | refine a5h 15 3 8 false _ (fun hb=>a0t ty_23.h rfl omb omb (fun h=>(by first | rfl | cases h))) rfl rfl rfl rfl (a0K rfl) rfl rfl rfl (k':=11) rfl ?_
  | refine a5h 15 3 8 false _ (fun hb=>a0j ty_23.h rfl omb (fun h=>(by first | rfl | cases h))) rfl rfl rfl rfl pre0 rfl rfl rfl (k':=11) rfl ?_
  refine ru 2 ?_
  first
  | refine a5h 18 3 8 false _ (fun hb=>a0t ty_23.h rfl omb omb (fun h=>(by first | rfl | cases h))) rfl rfl rfl rfl (a0K rfl) rfl rfl rfl (k':=14) rfl ?_
  | refine a5h 18 3 8 false _ (fun hb=>a0j ty_23.h rfl omb (fun h=>(by first | rfl | cases h))) rfl rfl rfl rfl pre0 rfl rfl rfl (k':=14) rfl ?_
  refine ru 1 ?_
  refine a5h 20 3 8 false _ (fun hb=>a0f (xs:=[_,_]) (b9F p.word.length q.word.length) ⟨rfl,⟨rfl,trivial⟩⟩ ⟨fe,⟨fe,trivial⟩⟩) rfl rfl rfl rfl pre0 rfl rfl rfl (k':=16) rfl ?_
  refine ru 1 ?_
  first
  | refine a5h 22 3 8 false _ (fun hb=>a0t ty_23.h rfl omb omb (fun h=>(by first | rfl | cases h))) rfl rfl rfl rfl (a0K rfl) rfl rfl rfl (k':=18) rfl ?_
  | refine a5h 22 3 8 false _ (fun hb=>a0j ty_23.h rfl omb (fun h=>(by first | rfl | cases h))) rfl rfl rfl rfl pre0 rfl rfl rfl (k':=18) rfl ?_
  refine ru 1 ?_
  first
  | refine a5h 24 3 8 false _ (fun hb=>a0t ty_23.h rfl omb omb (fun h=>(by first | rfl | cases h))) rfl rfl rfl rfl (a0K rfl) rfl rfl rfl (k':=20) rfl ?_
  | refine a5h 24 3 8 false _ (fun hb=>a0j ty_23.h rfl omb (fun h=>(by first | rfl | cases h))) rfl rfl rfl rfl pre0 rfl rfl rfl (k':=20) rfl ?_
  refine a5h 25 3 8 false _ (fun hb=>a0f (xs:=[_,_]) (c5f p.word q.word hp hq) ⟨rfl,⟨rfl,trivial⟩⟩ ⟨fe,⟨fe,trivial⟩⟩) rfl rfl rfl rfl pre0 rfl rfl rfl (k':=21) rfl ?_
  refine b3g kr kr kr kr (c':=23) rfl ?_ (by simp)
  refine b4h 26 3 8 false true (v:=.imm undef) (fun h=>absurd h (by decide)) rfl rfl rfl rfl pre0 rfl rfl rfl ?_
  refine b4h 27 3 8 false true (v:=.imm undef) (fun h=>absurd h (by decide)) rfl rfl rfl rfl pre0 rfl rfl rfl ?_
  refine b4h 28 3 8 false true (v:=.imm undef) (fun h=>absurd h (by decide)) rfl rfl rfl rfl pre0 rfl rfl rfl ?_
  refine s0 (a4w rfl rfl) ?_
  refine ru 1 ?_
  refine a2E ?_
  refine ru 2 ?_
  refine rt1 ?_
  exact a1V (by unfold a3q;rw [hk];rfl)
 ·refine ru 4 ?_
  refine d0 4 (HOp.val (v':=boolV false) (a1A rfl) ((by rw [hk];rfl))) ?_
  refine ru 1 ?_
  first
  | refine a5h 10 3 8 false _ (fun hb=>a0t ty_3.h rfl omb omb (fun h=>(by first | rfl | cases h))) rfl rfl rfl rfl (a0K rfl) rfl rfl rfl (k':=6) rfl ?_
  | refine a5h 10 3 8 false _ (fun hb=>a0j ty_3.h rfl omb (fun h=>(by first | rfl | cases h))) rfl rfl rfl rfl pre0 rfl rfl rfl (k':=6) rfl ?_
  refine ru 1 ?_
  first
  | refine a5h 12 3 8 false _ (fun hb=>a0t ty_3.h rfl omb omb (fun h=>(by first | rfl | cases h))) rfl rfl rfl rfl (a0K rfl) rfl rfl rfl (k':=8) rfl ?_
  | refine a5h 12 3 8 false _ (fun hb=>a0j ty_3.h rfl omb (fun h=>(by first | rfl | cases h))) rfl rfl rfl rfl pre0 rfl rfl rfl (k':=8) rfl ?_
  refine a5h 13 3 8 false _ (fun hb=>a0f (xs:=[_,_]) (b9F p.price q.price) ⟨rfl,⟨rfl,trivial⟩⟩ ⟨fe,⟨fe,trivial⟩⟩) rfl rfl rfl rfl pre0 rfl rfl rfl (k':=9) rfl ?_
  refine ru 1 ?_
  first
  | refine a5h 15 3 8 false _ (fun hb=>a0t ty_23.h rfl omb omb (fun h=>(by first | rfl | cases h))) rfl rfl rfl rfl (a0K rfl) rfl rfl rfl (k':=11) rfl ?_
  | refine a5h 15 3 8 false _ (fun hb=>a0j ty_23.h rfl omb (fun h=>(by first | rfl | cases h))) rfl rfl rfl rfl pre0 rfl rfl rfl (k':=11) rfl ?_
  refine ru 2 ?_
  first
  | refine a5h 18 3 8 false _ (fun hb=>a0t ty_23.h rfl omb omb (fun h=>(by first | rfl | cases h))) rfl rfl rfl rfl (a0K rfl) rfl rfl rfl (k':=14) rfl ?_
  | refine a5h 18 3 8 false _ (fun hb=>a0j ty_23.h rfl omb (fun h=>(by first | rfl | cases h))) rfl rfl rfl rfl pre0 rfl rfl rfl (k':=14) rfl ?_
  refine ru 1 ?_
  refine a5h 20 3 8 false _ (fun hb=>a0f (xs:=[_,_]) (b9F p.word.length q.word.length) ⟨rfl,⟨rfl,trivial⟩⟩ ⟨fe,⟨fe,trivial⟩⟩) rfl rfl rfl rfl pre0 rfl rfl rfl (k':=16) rfl ?_
  refine ru 1 ?_
  first
  | refine a5h 22 3 8 false _ (fun hb=>a0t ty_23.h rfl omb omb (fun h=>(by first | rfl | cases h))) rfl rfl rfl rfl (a0K rfl) rfl rfl rfl (k':=18) rfl ?_
  | refine a5h 22 3 8 false _ (fun hb=>a0j ty_23.h rfl omb (fun h=>(by first | rfl | cases h))) rfl rfl rfl rfl pre0 rfl rfl rfl (k':=18) rfl ?_
  refine ru 1 ?_
  first
  | refine a5h 24 3 8 false _ (fun hb=>a0t ty_23.h rfl omb omb (fun h=>(by first | rfl | cases h))) rfl rfl rfl rfl (a0K rfl) rfl rfl rfl (k':=20) rfl ?_
  | refine a5h 24 3 8 false _ (fun hb=>a0j ty_23.h rfl omb (fun h=>(by first | rfl | cases h))) rfl rfl rfl rfl pre0 rfl rfl rfl (k':=20) rfl ?_
  refine a5h 25 3 8 false _ (fun hb=>a0f (xs:=[_,_]) (c5f p.word q.word hp hq) ⟨rfl,⟨rfl,trivial⟩⟩ ⟨fe,⟨fe,trivial⟩⟩) rfl rfl rfl rfl pre0 rfl rfl rfl (k':=21) rfl ?_
  refine b3g kr kr kr kr (c':=23) rfl ?_ (by simp)
  refine (b1u 13 8 false rfl rfl).seq ?_;refine (b1u 20 8 false rfl rfl).seq ?_;refine (b1u 25 8 false rfl rfl).seq ?_
  refine d0X 26 8 false (a0b (id:=26) (hs:=[_,_,_]) ei_23.h omb rfl omb ⟨rfl,rfl,rfl,rfl,⟨rfl,rfl,rfl,rfl,⟨rfl,rfl,rfl,rfl,trivial⟩⟩⟩) rfl rfl rfl rfl pre0 rfl rfl (c':=24) rfl ?_
  refine d0X 27 8 false (a7n (xs:=[_]) [(26,_)] (c6u [compareInt p.price q.price,compareInt p.word.length q.word.length,a5E p.word q.word] (by simp)) ⟨rfl,trivial⟩ ⟨(Fz.os _ _ _ _ _ _ (List.mem_cons_self ..) rfl (Nat.le_refl _) (fun i j hi hj=>by obtain rfl:j=0:=Nat.lt_one_iff.1 hj;match i,hi with | 0,_=>exact .imm _ | 1,_=>exact .imm _ | 2,_=>exact .imm _)),trivial⟩ rfl) rfl rfl rfl rfl (a0h rfl pre0) rfl rfl (c':=25) rfl ?_
  refine c2x 28 8 false hli rfl rfl rfl rfl pre0 rfl rfl ?_
  refine s0 (b1e rfl rfl) ?_
  refine ru 1 ?_
  refine a2E ?_
  refine ru 2 ?_
  refine rt1 ?_
  exact a1V (by unfold a3q;rw [hk];rfl)
end Go.Proofs.YtkeakpcieokhhaaGreatDoor
namespace Go.Proofs.YtkeakpcieokhhaaGreatDoor
open Go.RowKit
section
variable {K:Nat→Prop} {w0 w w':World} {F0:Addr→Prop} {E:Env} {h:Nat→Option HObj}
theorem R.newB (r:R K w0 F0 E h w) (hb:Below w.heap.size w w') (id g b cap sz:Nat) (ty:TypeId) (cs:Array Value) (f:Nat→Nat→HV) (n:Nat) (vs:Nat→Nat→Value) (hg:¬ E.G g) (hsz:0 < sz) (hbs:w.heap.size≤b) (hB:Blk w' b ty cs) (hcs:cs.size=cap * sz) (hn:n≤cap) (hm:cap≤maxLen)
  (hv:∀ i j,i < n→j < sz→cs[i * sz+j]?=some (vs i j)∧(vs i j).oneCell'=true∧Rep w E (vs i j) (f i j)) :
  Ext w E w' (E.new id g b cap sz)∧R K w0 F0 (E.new id g b cap sz) (a2H h id ⟨g,n,sz,ty,0,f⟩) w':=by
 have e:Ext w E w' (E.new id g b cap sz):=Ext.new w E id g b cap sz hg _ hb.size (fun a ha=>((r.extBelow hb).F a ha).2)
 refine ⟨e,hb.os.trans r.os,hb.tape.trans r.tape,hb.output.trans r.output,Nat.le_trans r.size hb.size,fun k hk hK=>(hb.block k (Nat.lt_of_lt_of_le hk r.size)).trans (r.keep k hk hK),
  fun a ha=>⟨(r.frz a ha).1,by rw [(e.F a ha).2];exact (r.frz a ha).2⟩,r.fnew,r.klib,r.lib,fun b hm=>(hb.block b (a1c (r.bks b hm))).trans (r.bks b hm),fun k o ho=>?_,fun k k' o o' l l' b' ho ho' hl hl' hb1 hb2=>?_⟩
 ·by_cases hk:k=id
  ·subst hk
   rw [a0u] at ho
   injection ho with ho
   subst ho
   refine ⟨_,Env.new_L _ _ _ _ _ _,rfl,.inr rfl,rfl,hsz,.inr (.inl ⟨b,cs,rfl,hB,hcs,hn,hm,fun hlt=>absurd hlt (by have:=r.size;omega),⟨vs,fun i j hi hj=>⟨(hv i j hi hj).1,(hv i j hi hj).2.1,(hv i j hi hj).2.2.ext e⟩⟩,fun k hk=>?_,Nat.zero_le _⟩)⟩
   have:=a1k (r.frz _ hk).2
   exact absurd this (by simp;omega)
  ·rw [a0r _ _ hk] at ho
   obtain ⟨l,hl,a⟩:=r.obj k o ho
   exact ⟨l,by rw [Env.new_Lne E hk];exact hl,a.ext e (fun b hb'=>hb.block b (a.lt hb')) (fun _ _ _ hF=>hF)⟩
 ·have old:∀ k o l,k≠id→a2H h id ⟨g,n,sz,ty,0,f⟩ k=some o→(E.new id g b cap sz).L k=some l→h k=some o∧E.L k=some l∧∀ b,l.A=some b→b < w.heap.size:=by
   intro k o l hk ho hl
   rw [a0r _ _ hk] at ho
   rw [Env.new_Lne E hk] at hl
   obtain ⟨l',hl',a⟩:=r.obj k o ho
   rw [hl] at hl'
   injection hl' with hl'
   subst hl'
   exact ⟨ho,hl,fun b hb'=>a.lt hb'⟩
  by_cases hk:k=id <;> by_cases hk':k'=id
  ·rw [hk,hk']
  ·subst hk
   rw [Env.new_L] at hl
   injection hl with hl
   subst hl
   have:=(old k' o' l' hk' ho' hl').2.2 b' hb2
   injection hb1 with hb1
   omega
  ·subst hk'
   rw [Env.new_L] at hl'
   injection hl' with hl'
   subst hl'
   have:=(old k o l hk ho hl).2.2 b' hb1
   injection hb2 with hb2
   omega
  ·have a1:=old k o l hk ho hl
   have a2:=old k' o' l' hk' ho' hl'
   exact r.inj k k' o o' l l' b' a1.1 a2.1 a1.2.1 a2.2.1 hb1 hb2
end
theorem c1N {α:Type} {K:Nat→Prop} {w0 w w':World} {F0:Addr→Prop} {E:Env} {h:Nat→Option HObj} (r:R K w0 F0 E h w) {c:Nat} (hng:¬ E.G c) (id:Nat) {e:TypeId} {sz:Nat} (hs:0 < sz) {enc:α→List Value} (encF:α→Nat→HV) (hFe:∀ x j,j < sz→encF x j=.imm ((enc x).getD j undef)) (h1:∀ x,∀ u∈enc x,u.oneCell'=true) (d:α) {l:List α} {en:Ending}
  (hgv:a3N e sz enc w l en w'):∃ v E',en=.returned v∧Ext w E w' E'∧R K w0 F0 E' (a2H h id ⟨c,l.length,sz,e,0,fun i=>encF (l.getD i d)⟩) w'∧(∀ g,E'.G g→E.G g∨g=c)∧Rep w' E' v (.os id c 0 l.length):=by
 obtain ⟨A,cp,rfl,hown,hb⟩:=hgv
 have henc:=hown.1
 rcases hown.2.2 with ⟨hv,hn⟩ | ⟨b,cap,cur,hv,hbase,hblk,hn,hcap,hsz,htake⟩
 ·injection hv with hA _ hc
  subst hA;subst hc
  have hl:l=[]:=List.eq_nil_of_length_eq_zero hn
  subst hl
  have r1:=r.growSame hb
  obtain ⟨e2,r2⟩:=r1.newNil id c sz e (fun i=>encF (([]:List α).getD i d)) hng hs
  refine ⟨_,_,rfl,(r.extBelow hb).trans e2,r2,fun g hg=>hg,?_⟩
  refine .os none 0 0 id c 0 (.inr rfl) (Nat.le_refl _) (Nat.zero_le _) (fun h=>absurd h (Nat.lt_irrefl _)) (fun l hl _=>?_)
  rw [Env.place_L] at hl;injection hl with hl;subst hl
  exact ⟨rfl,fun _=>rfl⟩
 ·injection hv with hA _ hc
  subst hA;subst hc
  have hB:Blk w' b e cur:=hblk
  have hcell:∀ i j,i < l.length→j < sz→cur[i * sz+j]?=some ((enc (l.getD i d)).getD j undef)∧((enc (l.getD i d)).getD j undef).oneCell'=true:=by
   intro i j hi hj
   have hlt:=a6Y (sz:=sz) hi hj
   have hg:l.getD i d=l[i]:=by simp [List.getD,List.getElem?_eq_getElem hi]
   have hj':j < (enc l[i]).length:=by rw [henc];exact hj
   have hg2:(enc l[i]).getD j undef=(enc l[i])[j]:=by simp [List.getD,List.getElem?_eq_getElem hj']
   rw [hg,hg2,←Array.getElem?_toList]
   have:=a1M henc l i j hi hj
   rw [←htake,List.getElem?_take,if_pos hlt] at this
   rw [this,List.getElem?_eq_getElem hj']
   exact ⟨rfl,h1 _ _ (List.getElem_mem hj')⟩
  obtain ⟨e2,r2⟩:=r.newB hb id c b cp sz e cur (fun i=>encF (l.getD i d)) l.length (fun i j=>(enc (l.getD i d)).getD j undef) hng hs hbase hB hsz hn hcap (fun i j hi hj=>⟨(hcell i j hi hj).1,(hcell i j hi hj).2,by show Rep _ _ _ (encF _ _);rw [hFe _ _ hj];exact .imm _⟩)
  refine ⟨_,_,rfl,e2,r2,fun g hg=>hg,?_⟩
  refine .os _ _ _ id c 0 (.inr rfl) hn hcap (fun _=>⟨b,0,rfl,fun l' hl' _=>?_⟩) (fun l' hl' _=>?_)
  ·rw [Env.new_L] at hl';injection hl' with hl';subst hl'
   exact ⟨rfl,(Nat.zero_mul _).symm⟩
  ·rw [Env.new_L] at hl';injection hl' with hl';subst hl'
   exact ⟨Nat.zero_add _,fun _=>by simp⟩
theorem b9u {α:Type} {P:Program} {ov:Nat→Option HV} {g:Nat} {d:Option Tmp} {ty:TypeId} {pos:String} {af:Array Edge} {gd:Option (Nat×Bool)} {f:FuncId} {args:List Operand} {at_:Array TypeId} {xs:List HV} {id:Nat} {e:TypeId} {sz:Nat} {enc:α→List Value} {encF:α→Nat→HV} {dflt:α} {l:List α} (hf:c5m P f) (hs:0 < sz) (hFe:∀ x j,j < sz→encF x j=.imm ((enc x).getD j undef)) (h1:∀ x,∀ u∈enc x,u.oneCell'=true)
  (hc:∀ w E vs,RepAll w E vs xs→Calls P f vs.toArray w (a3N e sz enc w l)) (hx:a1Q ov args xs) :
  HOp P ⟨d,.call ⟨.value (.func f),args.toArray,at_⟩,ty,pos,af,gd⟩ ov g [] (.os id g 0 l.length) [(id,⟨g,l.length,sz,e,0,fun i=>encF (l.getD i dflt)⟩)]:=by
 refine ⟨?_⟩;intro K w0 F0 E hh a w Q N rr ht hG hBd hpre hN
 have hrep:=hx.rep (w:=w) (E:=E) (ρ:=a.eval) (fun x hv hx h=>ht x hv (by simp [Op.operands,Call.operands];exact .inr hx) h)
 unfold Oper.wp execOp
 have hargs:args.toArray.map a.eval=(args.map a.eval).toArray:=by simp
 simp only [resolve,Act.eval,Deferred.ofValue,invoke,Sem.run_bind,Sem.run_pure,Result.andThen_ok,Array.empty_append,Array.append_empty]
 rw [a0E hf]
 simp only [Oper.upon]
 have h:=hc w E (args.map a.eval) hrep
 rw [←hargs] at h
 refine Calls.mono h fun en w' hgv=>?_
 obtain ⟨v,E',rfl,e',r',hg',hv⟩:=c1N rr hG id hs encF hFe h1 dflt hgv
 exact hN v w' E' e' r' (fun g' h=>(hg' g' h).imp (fun h=>h) (fun h=>⟨by simp,h⟩)) hv
theorem b2u {P:Program} {ov:Nat→Option HV} {g:Nat} {d:Option Tmp} {ty:TypeId} {pos:String} {af:Array Edge} {gd:Option (Nat×Bool)} {f:FuncId} {t:Nat} {args:List Operand} {at_:Array TypeId} {x r:HV} {xs ys:List HV} (hp:HPure P f ys r) (h0:ovl ov (.tmp t)=some (.bnd (.func f) x)) (hx:a1Q ov args xs) (hz:FzAll [] (x::xs) ys) :
    HOp P ⟨d,.call ⟨.value (.tmp t),args.toArray,at_⟩,ty,pos,af,gd⟩ ov g [] r []:=by
  refine ⟨?_⟩;intro K w0 F0 E hh a w Q N rr ht hG hBd hpre hN
  have hrep:=hx.rep (w:=w) (E:=E) (ρ:=a.eval) (fun x hv hx h=>ht x hv (by simp [Op.operands,Call.operands];exact .inr hx) h)
  have hrec:=ht (.tmp t) _ (by simp [Op.operands,Call.operands]) h0
  unfold Oper.wp execOp
  generalize hρ:a.eval (.tmp t)=u at hrec
  cases hrec with
  | bnd _ v _ hv =>
    have hargs:#[v]++args.toArray.map a.eval=(v::args.map a.eval).toArray:=by simp
    simp only [resolve,hρ,Deferred.ofValue,invoke,Sem.run_bind,Sem.run_pure,Result.andThen_ok,Array.empty_append,Array.append_empty]
    rw [a0E hp.1]
    simp only [Oper.upon]
    have hc:=hp.calls rr [] rfl hpre (x::xs) (v::args.map a.eval) hz ⟨hv,hrep⟩
    rw [←hargs] at hc
    refine Calls.mono hc ?_
    rintro e w' ⟨v,E',rfl,e',r',hg',hv⟩
    exact hN v w' E' e' r' (fun g' h=>.inl (hg' g' h)) hv
end Go.Proofs.YtkeakpcieokhhaaGreatDoor
namespace Go.Proofs.YtkeakpcieokhhaaGreatDoor
set_option maxRecDepth 100000
set_option maxHeartbeats 1000000
open Go.RowKit
open Go.Lib (compareInt)
theorem c7w (m:List Int) (hl:m.length≤1000000) (w:World) (E:Env) (vs:List Value) (hr:RepAll w E vs [a0i m]):Calls Tryz.prog 99 vs.toArray w (a3N 3 1 a4I w m):=by
 obtain ⟨v,rfl,hv⟩:=c8L hr
 obtain ⟨A,c,rfl,hc,hm,hs⟩:=b8e 1 a4I a8T (fun x _=>intV x) b7v 0 m hv
 exact b9V A _ c _ m w rfl hs (Nat.le_refl _) omo
theorem c3C:c5m Tryz.prog 99:=⟨_,_,Tryz.func99,rfl,by kernel_rfl⟩
theorem c9k {sh:List (Nat×HObj)} {id g ty:Nat} {l:List Int} {x:Int}:Fz ((id,⟨g,l.length+1,1,ty,0,cat l.length (fun i _=>intV (l.getD i 0)) (bsf [intV x])⟩)::sh) (.os id g 0 (l.length+1)) (a0i (l++[x])):=by
 have e:a0i (l++[x])=.sl 1 (l.length+1) (a5g (l++[x])):=by show HV.sl 1 (l++[x]).length _=_;rw [List.length_append];rfl
 rw [e]
 refine .os _ _ _ _ _ _ (List.mem_cons_self ..) rfl (by simp) fun i j hi hj=>?_
 have hj:j < 1:=hj
 obtain rfl:j=0:=by omega
 show Fz _ (cat l.length (fun i _=>intV (l.getD i 0)) (bsf [intV x]) (0+i) 0) (intV ((l++[x]).getD i 0))
 rw [Nat.zero_add]
 by_cases h:i < l.length
 ·rw [a6O h,List.getD_eq_getElem?_getD (l:=l++[x]),List.getElem?_append_left h,←List.getD_eq_getElem?_getD];exact .imm _
 ·obtain rfl:i=l.length:=by omega
  rw [a7c (Nat.le_refl _),Nat.sub_self,List.getD_eq_getElem?_getD,List.getElem?_append_right (Nat.le_refl _),Nat.sub_self];exact .imm _
theorem c3H (p:Wy) (s q:Int) (hp:p.word.length≤100000) (h0:0≤p.price∧p.price≤1000000000000) (h1:0≤q∧q≤1000000):HPure Tryz.prog 60 [wyV p,intV s,intV q] (wyV (withV p s q)):=by
 refine a0l Tryz.func60 rfl kr _ _ _ rfl 18 rfl rfl (fun w F=>?_)
 refine ru 14 ?_
 refine a1X 13 (b9u (id:=13) (xs:=[_]) (args:=[_]) (encF:=fun x _=>intV x) (dflt:=0) c3C (by decide) b7v c1z (c7w p.word om) ⟨rfl,trivial⟩) rfl rfl pre0 rfl rfl (k':=7) rfl ?_
 refine ru 1 ?_
 refine a1X 15 (a0b (id:=15) (hs:=[_]) ei_23.h omx rfl omx ⟨rfl,rfl,rfl,rfl,trivial⟩) rfl rfl pre0 rfl rfl (k':=9) rfl ?_
 first
 | refine a1X 16 (a0a ei_23.h omy rfl omy omy (a0x rfl omy) omy rfl) rfl rfl (a0h rfl (a0K rfl)) rfl rfl (k':=10) rfl ?_
 | refine a1X 16 (a0a ei_23.h omy rfl omy omy (a0T rfl omy) omy rfl) rfl rfl (a0h rfl (a0K rfl)) rfl rfl (k':=10) rfl ?_
 | refine a1X 16 (a0a ei_23.h omy rfl omy omy (a0P rfl) omy rfl) rfl rfl (a0h rfl pre0) rfl rfl (k':=10) rfl ?_
 | refine a1X 16 (a0a ei_23.h omy rfl omy omy (a0B 1 (fun _ _=>default) rfl) omy rfl) rfl rfl (a0h rfl pre0) rfl rfl (k':=10) rfl ?_
 refine ru 5 ?_
 refine a5a rfl (a0H rfl rfl ty_131.h rqc rfl rfl) [(13,_)] rfl (a0h rfl pre0) ?_
 exact .agg _ _ _ (fun j hj=>by match j,hj with | 0,_=>exact .imm _ | 1,_=>exact c9k | 2,_=>exact .imm _)
theorem c7v (P:List Int) (s:Nat) (hP:P.length≤1000000):HPure Tryz.prog 59 [a0i P,intV (s:Int)] (t2 (intV (if priceOk P s=true then P.getD s 0 else 0)) (boolV (priceOk P s))):=by
 refine a0l Tryz.func59 rfl kr _ _ _ rfl 28 rfl rfl (fun w F=>?_)
 refine ru 29 ?_
 refine wdc (fun hr0 hc0=>?_) (fun hr0 hc0=>?_)
 ·skip
  have hk:priceOk P s=false:=(by rw [←Bool.not_eq_true];unfold priceOk;simp only [Bool.and_eq_true,decide_eq_true_eq];omega)
  refine ru 8 ?_
  refine rt2 ?_
  rw [hk];exact a4D (.imm _) (.imm _)
 have hk:priceOk P s=true:=(by unfold priceOk;simp only [Bool.and_eq_true,decide_eq_true_eq];omega)
 refine ru 13 ?_
 refine rt2 ?_
 rw [hk];exact a4D (a6p (by simp)) (.imm _)
end Go.Proofs.YtkeakpcieokhhaaGreatDoor
namespace Go.Proofs.YtkeakpcieokhhaaGreatDoor
section
variable {β:Type} [DecidableEq β]
theorem c4i {Q U:List β} (h:Q.Nodup) (hs:∀ x∈Q,x∈U):Q.length≤U.length:=by
  induction Q generalizing U with
  | nil=>exact Nat.zero_le _
  | cons a r ih =>
    rw [List.nodup_cons] at h
    have ha:a∈U:=hs a (List.mem_cons_self ..)
    have:=ih (U:=U.erase a) h.2 (fun x hx=>by
      have hx2:=hs x (List.mem_cons_of_mem _ hx)
      exact (List.mem_erase_of_ne (fun e=>h.1 (by rw [←e];exact hx))).2 hx2)
    rw [List.length_erase_of_mem ha] at this
    have:0 < U.length:=List.length_pos_of_mem ha
    simp only [List.length_cons]
    omega
end
end Go.Proofs.YtkeakpcieokhhaaGreatDoor
namespace Go.Proofs.YtkeakpcieokhhaaGreatDoor
open Go.Lib (compareInt)
theorem a3G (a b:Int):(compareInt a b=-1∧a < b)∨(compareInt a b=0∧a=b)∨(compareInt a b=1∧b < a):=by
 unfold compareInt
 split
 ·exact .inl ⟨rfl,by assumption⟩
 ·split
  ·exact .inr (.inr ⟨rfl,by assumption⟩)
  ·exact .inr (.inl ⟨rfl,by omega⟩)
theorem a4z (a b:Int) (l m:List Int):a5E (a::l) (b::m)=if compareInt a b≠0 then compareInt a b else a5E l m:=rfl
theorem a5A:∀ a:List Int,a5E a a=0
  | []=>rfl
  | a :: l => by
    have h:=a3G a a
    rw [a4z,if_neg omo,a5A l]
theorem b2A:∀ a b:List Int,(a5E a b=-1∧a5E b a=1)∨(a5E a b=0∧a=b)∨(a5E a b=1∧a5E b a=-1)
  | [],[]=>.inr (.inl ⟨rfl,rfl⟩)
  | [],b::m=>.inl ⟨rfl,rfl⟩
  | a::l,[]=>.inr (.inr ⟨rfl,rfl⟩)
  | a :: l, b :: m => by
    rw [a4z,a4z]
    have h1:=a3G a b
    have h2:=a3G b a
    have h3:=b2A l m
    by_cases h0:a=b
    · subst h0
      rw [if_neg omo,if_neg omo]
      rcases h3 with h3 | h3 | h3
      · exact .inl h3
      · exact .inr (.inl ⟨h3.1,by rw [h3.2]⟩)
      · exact .inr (.inr h3)
    · rw [if_pos omo,if_pos omo]
      omega
theorem b1c:∀ a b c:List Int,a5E a b≤0→a5E b c≤0→a5E a c≤0
  | [],_,[],_,_=>Int.le_refl _
  | [],_,_::_,_,_=>(by decide:(-1:Int)≤0)
  | _::_,[],_,h,_=>absurd (show (1:Int)≤0 from h) (by decide)
  | _::_,_::_,[],_,h=>absurd (show (1:Int)≤0 from h) (by decide)
  | a :: l, b :: m, c :: n, h1, h2 => by
    rw [a4z] at h1 h2 ⊢
    have k1:=a3G a b
    have k2:=a3G b c
    have k3:=a3G a c
    by_cases e1:compareInt a b≠0
    · rw [if_pos e1] at h1
      by_cases e2:compareInt b c≠0
      · rw [if_pos e2] at h2
        rw [if_pos omo];omega
      · rw [if_pos omo];omega
    · rw [if_neg e1] at h1
      by_cases e2:compareInt b c≠0
      · rw [if_pos e2] at h2
        rw [if_pos omo];omega
      · rw [if_neg e2] at h2
        rw [if_neg omo]
        exact b1c l m n h1 h2
theorem b2V:∀ (a b:List Int) (s:Int),a.length=b.length→a5E (a++[s]) (b++[s])=a5E a b
  | [],[],s,_=>a5A [s]
  | [],_::_,_,h=>by cases h
  | _::_,[],_,h=>by cases h
  | a :: l, b :: m, s, h => by
    show a5E (a::(l++[s])) (b::(m++[s]))=_
    rw [a4z,a4z,b2V l m s (by simpa using h)]
def leW (w o:Wy):Prop:=w.price < o.price∨(w.price=o.price∧(w.word.length < o.word.length∨(w.word.length=o.word.length∧a5E w.word o.word≤0)))
theorem b1W (w o:Wy):(c5j w o < 0→leW w o)∧(¬ c5j w o < 0↔leW o w):=by
 have h1:=a3G w.price o.price
 have h2:=a3G w.word.length o.word.length
 have h3:=b2A w.word o.word
 have e:c5j w o=if compareInt w.price o.price≠0 then compareInt w.price o.price else if compareInt w.word.length o.word.length≠0 then compareInt w.word.length o.word.length else if a5E w.word o.word≠0 then a5E w.word o.word else 0:=rfl
 rw [e]
 unfold leW
 by_cases k1:compareInt w.price o.price≠0
 ·rw [if_pos k1];omega
 ·rw [if_neg k1]
  by_cases k2:compareInt w.word.length o.word.length≠0
  ·rw [if_pos k2];omega
  ·rw [if_neg k2]
   have h4:a5E o.word w.word=- a5E w.word o.word:=by
    rcases h3 with h3 | h3 | h3
    ·omega
    ·rw [h3.2,a5A];rfl
    ·omega
   by_cases k3:a5E w.word o.word≠0
   ·rw [if_pos k3];omega
   ·rw [if_neg k3];omega
theorem b1r (w:Wy):leW w w:=.inr ⟨rfl,.inr ⟨rfl,by rw [a5A];exact Int.le_refl _⟩⟩
theorem a7l {a b c:Wy} (h:leW a b) (k:leW b c):leW a c:=by
 unfold leW at h k ⊢
 rcases h with h | ⟨h,h2⟩
 ·omega
 ·rcases k with k | ⟨k,k2⟩
  ·omega
  ·refine .inr ⟨by omega,?_⟩
   rcases h2 with h2 | ⟨h2,h3⟩
   ·omega
   ·rcases k2 with k2 | ⟨k2,k3⟩
    ·omega
    ·exact .inr ⟨by omega,b1c _ _ _ h3 k3⟩
theorem c3L {a b:Wy} (h:leW a b) (s p:Int):leW (withV a s p) (withV b s p):=by
 unfold leW at h ⊢
 have ha:(withV a s p).word.length=a.word.length+1:=by simp [withV]
 have hb:(withV b s p).word.length=b.word.length+1:=by simp [withV]
 have pa:(withV a s p).price=a.price+p:=rfl
 have pb:(withV b s p).price=b.price+p:=rfl
 rw [ha,hb,pa,pb]
 rcases h with h | ⟨h,h2⟩
 ·omega
 ·refine .inr ⟨by omega,?_⟩
  rcases h2 with h2 | ⟨h2,h3⟩
  ·omega
  ·exact .inr ⟨by omega,by show a5E (a.word++[s]) (b.word++[s])≤0;rw [b2V _ _ _ h2];exact h3⟩
theorem b2p {w o:Wy}:a3q w o=false↔o.known=true∧leW o w:=by
 unfold a3q
 rw [Bool.or_eq_false_iff,Bool.not_eq_false',decide_eq_false_iff_not,(b1W w o).2]
theorem b2D {w o:Wy} (h:a3q w o=true) (hk:o.known=true):leW w o:=by
 unfold a3q at h
 rw [hk] at h
 have h:decide (c5j w o < 0)=true:=by simpa using h
 exact (b1W w o).1 (of_decide_eq_true h)
def bw (B:List Wy) (v:Nat):Wy:=B.getD v default
theorem a5k {B:List Wy} {v:Nat} {w:Wy} (h:v < B.length):bw (B.set v w) v=w:=by simp [bw,h]
theorem a7k {B:List Wy} {u v:Nat} {w:Wy} (h:u≠v):bw (B.set v w) u=bw B u:=by
 unfold bw
 rw [List.getD_eq_getElem?_getD,List.getD_eq_getElem?_getD,List.getElem?_set_ne (Ne.symm h)]
def priceW (P:List Int):List Int→Int
 | []=>0
 | s::r=>P.getD s.toNat 0+priceW P r
theorem a5b (P:List Int):∀ (w:List Int) (s:Int),priceW P (w++[s])=priceW P w+P.getD s.toNat 0
 | [],s=>by show P.getD s.toNat 0+0=0+_;omega
 | a::w,s=>by show P.getD a.toNat 0+priceW P (w++[s])=P.getD a.toNat 0+priceW P w+_;rw [a5b P w s];omega
theorem a9X (R:List (List Int)):∀ (w:List Int) (a s:Int),runX R a (w++[s])=nxT R (runX R a w) s
 | [],a,s=>rfl
 | b::w,a,s=>a9X R w (nxT R a b) s
def wOk (R:List (List Int)) (P:List Int) (fr v:Nat) (w:Wy):Prop:=runX R (fr:Int) w.word=(v:Int)∧w.price=priceW P w.word∧∀ s∈w.word,∃ k:Nat,s=(k:Int)∧k < 32∧priceOk P k=true
structure LInv (R:List (List Int)) (P:List Int) (fr:Nat) (B:List Wy) (Q:List One) (came:Int) (dn:List Nat) (K:Int) (pend:Nat→Nat→Prop):Prop where
 len:B.length=R.length
 ok:∀ v,v < R.length→(bw B v).known=true→wOk R P fr v (bw B v)
 wl:∀ v,v < R.length→(bw B v).known=true→(bw B v).word.length≤dn.length
 wz:∀ v,v < R.length→(bw B v).known=false→(bw B v).word=[]
 frm:bw B fr=⟨0,[],true⟩
 item:∀ x∈Q,K≤x.key∧∃ v:Nat,x.thing=(v:Int)∧v < R.length∧(bw B v).known=true∧(bw B v).price≤x.key
 dnK:∀ v∈dn,v < R.length∧(bw B v).known=true∧(bw B v).price≤K
 rel:∀ v∈dn,∀ k tq:Nat,nxT R v k=(tq:Int)→priceOk P k=true→¬ pend v k→(bw B tq).known=true∧leW (bw B tq) (withV (bw B v) k (P.getD k 0))
 wait:∀ v,v < R.length→(bw B v).known=true→v∈dn∨∃ x∈Q,x.thing=(v:Int)∧x.key=(bw B v).price
 nod:dn.Nodup
 qn:(Q.length:Int)≤came
theorem c6r {R:List (List Int)} {a:Int} {k tq:Nat} (h:nxT R a k=(tq:Int)):k < 32∧0≤a∧a < R.length:=by
 unfold nxT at h
 split at h
 ·rename_i h1;omega
 ·omega
section
variable {R:List (List Int)} {P:List Int} {fr:Nat} {B:List Wy} {Q Q':List One} {came K:Int} {dn:List Nat} {pend pend':Nat→Nat→Prop}
theorem LInv.chg (h:LInv R P fr B Q came dn K pend) (hp:∀ v∈dn,∀ k tq:Nat,nxT R v k=(tq:Int)→priceOk P k=true→¬ pend' v k→pend v k→(bw B tq).known=true∧leW (bw B tq) (withV (bw B v) k (P.getD k 0))):LInv R P fr B Q came dn K pend' :=
  { h with
    rel:=fun v hv k tq hn hk hnp=>by
      by_cases hq:pend v k
      · exact hp v hv k tq hn hk hnp hq
      · exact h.rel v hv k tq hn hk hq }
theorem LInv.upd (h:LInv R P fr B Q came dn K pend) (hR:b3a R) (hP:∀ k,priceOk P k=true→1≤P.getD k 0) {at_ tq k:Nat} (hat:at_∈dn) (hK:(bw B at_).price=K) (hw:(bw B at_).word.length+1≤dn.length) (hn:nxT R at_ k=(tq:Int)) (hp:priceOk P k=true)
    (hb:a3q (withV (bw B at_) k (P.getD k 0)) (bw B tq)=true) (hQ:Q'.Perm (Q++[⟨(bw B at_).price+P.getD k 0,came,(tq:Int)⟩])) :
    LInv R P fr (B.set tq (withV (bw B at_) k (P.getD k 0))) Q' (came+1) dn K (fun v j=>pend v j∧¬ (v=at_∧j=k)):=by
  have hP1:=hP k hp
  have htoR:tq < R.length:=by have:=(b6o hR at_ k).2;rw [hn] at this;omega
  have htoB:tq < B.length:=by rw [h.len];exact htoR
  have hkn:=(h.dnK at_ hat).2.1
  have hok:=h.ok at_ (h.dnK at_ hat).1 hkn
  generalize hw':withV (bw B at_) k (P.getD k 0)=w at hb ⊢
  have wp:w.price=(bw B at_).price+P.getD k 0:=by rw [←hw'];rfl
  have ww:w.word=(bw B at_).word++[(k:Int)]:=by rw [←hw'];rfl
  have wk:w.known=true:=by rw [←hw'];rfl
  have hle:(bw B tq).known=true→leW w (bw B tq):=fun hk=>b2D hb hk
  have hlp:(bw B tq).known=true→w.price≤(bw B tq).price:=fun hk=>by have:=hle hk;unfold leW at this;omega
  have hnd:∀ v∈dn,v≠tq:=fun v hv e=>by
    subst e
    obtain ⟨_,h2,h3⟩:=h.dnK v hv
    have:=hlp h2;omega
  have hfr:fr≠tq:=fun e=>by
    have h1:=h.frm
    have h2:=hlp (by rw [←e,h1])
    rw [←e,h1] at h2
    have h3:0≤(bw B at_).price:=by
      have h4:∀ l:List Int,(∀ s∈l,∃ k:Nat,s=(k:Int)∧k < 32∧priceOk P k=true)→0≤priceW P l:=by
        intro l
        induction l with
        | nil=>intro _;exact Int.le_refl _
        | cons a l ih =>
          intro hl
          obtain ⟨j,rfl,_,hj⟩:=hl a (List.mem_cons_self ..)
          have:=hP j hj
          have:=ih fun x hx=>hl x (List.mem_cons_of_mem _ hx)
          show 0≤P.getD ((j:Int)).toNat 0+priceW P l
          rw [Int.toNat_natCast];omega
      rw [hok.2.1];exact h4 _ hok.2.2
    have h2:w.price≤0:=h2
    omega
  refine ⟨by rw [List.length_set];exact h.len,fun v hv hk=>?_,fun v hv hk=>?_,fun v hv hk=>?_,by rw [a7k hfr];exact h.frm,fun x hx=>?_,fun v hv=>?_,fun v hv j t hn' hj hnp=>?_,fun v hv hk=>?_,h.nod,?_⟩
  · by_cases e:v=tq
    · subst e
      rw [a5k htoB]
      refine ⟨by rw [ww,a9X,hok.1,hn],by rw [wp,ww,a5b,hok.2.1,Int.toNat_natCast],fun s hs=>?_⟩
      rw [ww] at hs
      rcases List.mem_append.1 hs with hs | hs
      · exact hok.2.2 s hs
      · rw [List.mem_singleton.1 hs];exact ⟨k,rfl,(c6r hn).1,hp⟩
    · rw [a7k e] at hk ⊢;exact h.ok v hv hk
  · by_cases e:v=tq
    · subst e;rw [a5k htoB,ww,List.length_append,List.length_singleton];exact hw
    · rw [a7k e] at hk ⊢;exact h.wl v hv hk
  · by_cases e:v=tq
    · subst e;rw [a5k htoB,wk] at hk;cases hk
    · rw [a7k e] at hk ⊢;exact h.wz v hv hk
  · rcases List.mem_append.1 (hQ.mem_iff.1 hx) with hx | hx
    · obtain ⟨h1,v,h2,h3,h4,h5⟩:=h.item x hx
      refine ⟨h1,v,h2,h3,?_⟩
      by_cases e:v=tq
      · subst e;rw [a5k htoB];exact ⟨wk,by have:=hlp h4;omega⟩
      · rw [a7k e];exact ⟨h4,h5⟩
    · rw [List.mem_singleton.1 hx]
      exact ⟨by show K≤(bw B at_).price+P.getD k 0;omega,tq,rfl,htoR,by rw [a5k htoB];exact wk,by rw [a5k htoB];show w.price≤(bw B at_).price+P.getD k 0;omega⟩
  · rw [a7k (hnd v hv)];exact h.dnK v hv
  · rw [a7k (hnd v hv)]
    by_cases hq:v=at_∧j=k
    · obtain ⟨rfl,rfl⟩:=hq
      rw [hn] at hn'
      obtain rfl:tq=t:=by omega
      rw [a5k htoB,hw']
      exact ⟨wk,b1r w⟩
    · have hr:=h.rel v hv j t hn' hj (fun hp=>hnp ⟨hp,hq⟩)
      by_cases e:t=tq
      · subst e;rw [a5k htoB];exact ⟨wk,a7l (hle hr.1) hr.2⟩
      · rw [a7k e];exact hr
  · by_cases e:v=tq
    · subst e
      exact .inr ⟨_,hQ.mem_iff.2 (List.mem_append.2 (.inr (List.mem_singleton_self _))),rfl,by rw [a5k htoB,wp]⟩
    · rw [a7k e] at hk ⊢
      rcases h.wait v hv hk with h1 | ⟨x,h1,h2⟩
      · exact .inl h1
      · exact .inr ⟨x,hQ.mem_iff.2 (List.mem_append.2 (.inl h1)),h2⟩
  · rw [hQ.length_eq,List.length_append,List.length_singleton]
    have:=h.qn;omega
theorem LInv.stale (h:LInv R P fr B Q came dn K pend) {x:One} (hQ:(x::Q').Perm Q) {v:Nat} (hx:x.thing=(v:Int)) (hs:(bw B v).price < x.key):LInv R P fr B Q' came dn K pend :=
  { h with
    item:=fun y hy=>h.item y (hQ.mem_iff.1 (List.mem_cons_of_mem _ hy))
    wait:=fun u hu hk=>by
      rcases h.wait u hu hk with h1 | ⟨y,h1,h2,h3⟩
      · exact .inl h1
      · rcases List.mem_cons.1 (hQ.mem_iff.2 h1) with e | h4
        · subst e
          have e2:u=v:=by rw [hx] at h2;omega
          subst e2;omega
        · exact .inr ⟨y,h4,h2,h3⟩
    qn:=by have:=hQ.length_eq;rw [List.length_cons] at this;have:=h.qn;omega }
theorem LInv.take (h:LInv R P fr B Q came dn K fun _ _=>False) {x:One} (hQ:(x::Q').Perm Q) (hmin:∀ y∈Q,x.key≤y.key) {v:Nat} (hv:v < R.length) (hx:x.thing=(v:Int)) (hs:x.key=(bw B v).price) :
  (v∈dn→LInv R P fr B Q' came dn x.key fun _ _=>False)∧(v∉dn→LInv R P fr B Q' came (v::dn) x.key fun u _=>u=v):=by
 obtain ⟨hKx,v',hv1,hv2,hv3,hv4⟩:=h.item x (hQ.mem_iff.1 (List.mem_cons_self ..))
 obtain rfl:v=v':=by omega
 have hlen:=hQ.length_eq
 rw [List.length_cons] at hlen
 have hqn:=h.qn
 have hit:∀ y∈Q',x.key≤y.key∧∃ v:Nat,y.thing=(v:Int)∧v < R.length∧(bw B v).known=true∧(bw B v).price≤y.key:=fun y hy=>by
  have hy':=hQ.mem_iff.1 (List.mem_cons_of_mem _ hy)
  exact ⟨hmin y hy',(h.item y hy').2⟩
 have hwt:∀ u,u < R.length→(bw B u).known=true→u=v∨u∈dn∨∃ y∈Q',y.thing=(u:Int)∧y.key=(bw B u).price:=fun u hu hk=>by
  rcases h.wait u hu hk with h1 | ⟨y,h1,h2,h3⟩
  ·exact .inr (.inl h1)
  ·rcases List.mem_cons.1 (hQ.mem_iff.2 h1) with e | h4
   ·subst e;exact .inl (by rw [hx] at h2;omega)
   ·exact .inr (.inr ⟨y,h4,h2,h3⟩)
 refine ⟨fun hd=>{ h with item:=hit,dnK:=fun u hu=>?_,wait:=fun u hu hk=>?_,qn:=by omega },fun hd=>{ h with wl:=fun u hu hk=>?_,item:=hit,dnK:=fun u hu=>?_,rel:=fun u hu k tq hn hk hnp=>?_,wait:=fun u hu hk=>?_,nod:=List.nodup_cons.2 ⟨hd,h.nod⟩,qn:=by omega }⟩
 ·have:=h.dnK u hu;exact ⟨this.1,this.2.1,by omega⟩
 ·rcases hwt u hu hk with e | h1
  ·subst e;exact .inl hd
  ·exact h1
 ·rw [List.length_cons];have:=h.wl u hu hk;omega
 ·rcases List.mem_cons.1 hu with e | hu
  ·subst e;exact ⟨hv2,hv3,by omega⟩
  ·have:=h.dnK u hu;exact ⟨this.1,this.2.1,by omega⟩
 ·rcases List.mem_cons.1 hu with e | hu
  ·exact absurd e hnp
  ·exact h.rel u hu k tq hn hk (fun h=>h)
 ·rcases hwt u hu hk with e | h1 | h1
  ·subst e;exact .inl (List.mem_cons_self ..)
  ·exact .inl (List.mem_cons_of_mem _ h1)
  ·exact .inr h1
structure WaysOk (R:List (List Int)) (P:List Int) (fr:Nat) (B:List Wy):Prop where
 len:B.length=R.length
 ok:∀ v,v < R.length→(bw B v).known=true→wOk R P fr v (bw B v)
 wl:∀ v,(bw B v).word.length≤R.length
 best:∀ (u:List Int) (v:Nat),(∀ s∈u,∃ k:Nat,s=(k:Int)∧k < 32∧priceOk P k=true)→runX R (fr:Int) u=(v:Int)→(bw B v).known=true∧leW (bw B v) ⟨priceW P u,u,true⟩
theorem c8e {α:Type} {p:List α→Prop} (h0:p []) (h1:∀ l a,p l→p (l++[a])) (l:List α):p l:=by
 have:∀ m:List α,p m.reverse:=by
  intro m
  induction m with
  | nil=>exact h0
  | cons a m ih=>rw [List.reverse_cons];exact h1 _ _ ih
 rw [←List.reverse_reverse l];exact this _
theorem LInv.done (h:LInv R P fr B [] came dn K fun _ _=>False) (hR:b3a R) (hf:fr < R.length) (hd:dn.length≤R.length):WaysOk R P fr B:=by
  refine ⟨h.len,h.ok,fun v=>?_,fun u=>?_⟩
  · rcases Nat.lt_or_ge v R.length with hv | hv
    · cases hk : (bw B v).known with
      | true=>have:=h.wl v hv hk;omega
      | false=>rw [h.wz v hv hk];exact Nat.zero_le _
    · unfold bw;rw [List.getD_eq_getElem?_getD,List.getElem?_eq_none (by rw [h.len];exact hv)];exact Nat.zero_le _
  · refine c8e (p:=fun u=>∀ v:Nat,(∀ s∈u,∃ k:Nat,s=(k:Int)∧k < 32∧priceOk P k=true)→runX R (fr:Int) u=(v:Int)→(bw B v).known=true∧leW (bw B v) ⟨priceW P u,u,true⟩) ?_ ?_ u
    · intro v _ hr
      have hr:(fr:Int)=(v:Int):=hr
      obtain rfl:fr=v:=by omega
      rw [h.frm];exact ⟨rfl,b1r _⟩
    · intro l a ih v hs hr
      obtain ⟨k,rfl,hk32,hk⟩:=hs a (List.mem_append.2 (.inr (List.mem_singleton_self _)))
      rw [a9X] at hr
      have hin:=c6r hr
      obtain ⟨q,hq⟩:∃ q:Nat,runX R (fr:Int) l=(q:Int):=⟨(runX R (fr:Int) l).toNat,by omega⟩
      rw [hq] at hr
      obtain ⟨h1,h2⟩:=ih q (fun s hs'=>hs s (List.mem_append.2 (.inl hs'))) hq
      have hqR:q < R.length:=by rw [hq] at hin;omega
      have hqd:q∈dn:=by
        rcases h.wait q hqR h1 with h3 | ⟨x,h3,_⟩
        · exact h3
        · cases h3
      obtain ⟨h3,h4⟩:=h.rel q hqd k v hr hk (fun h=>h)
      refine ⟨h3,a7l h4 ?_⟩
      have:=c3L h2 (k:Int) (P.getD k 0)
      rw [a5b,Int.toNat_natCast]
      exact this
end
open Classical in
noncomputable def dnN (v:Nat) (dn:List Nat):List Nat:=if v∈dn then dn else v::dn
structure IInv (R:List (List Int)) (P:List Int) (fr v:Nat) (S:List Int) (fresh:Prop) (q0:Nat) (c0:Int) (dn:List Nat) (K:Int) (B:List Wy) (Q:List One) (came:Int) (i:Nat):Prop where
 li:LInv R P fr B Q came dn K (fun u k=>fresh∧u=v∧(k:Int)∉S.take i)
 hp:HeapN (at_ Q) Q.length
 vd:v∈dn
 vk:(bw B v).price=K
 vw:fresh→(bw B v).word.length+1≤dn.length
 c1:came≤c0+i
 c2:¬ fresh→came≤c0
 cz:0≤came
 qe:(Q.length:Int)+c0=q0+came
structure OInv (R:List (List Int)) (P:List Int) (fr:Nat) (B:List Wy) (Q:List One) (came:Int) (dn:List Nat) (K:Int):Prop where
 li:LInv R P fr B Q came dn K (fun _ _=>False)
 hp:HeapN (at_ Q) Q.length
 cz:0≤came
 c1:came≤1+32 * dn.length
 dl:dn.length≤R.length
theorem c4O {R:List (List Int)} {P:List Int} {fr:Nat} {B:List Wy} {Q:List One} {came K:Int} {dn:List Nat} {pend:Nat→Nat→Prop} (h:LInv R P fr B Q came dn K pend):dn.length≤R.length:=by
 have:=c4i (U:=List.range R.length) h.nod (fun x hx=>List.mem_range.2 (h.dnK x hx).1)
 rwa [List.length_range] at this
section
variable {R:List (List Int)} {P:List Int} {fr v:Nat} {S:List Int} {fresh:Prop} {q0 i:Nat} {c0 K came:Int} {dn:List Nat} {B:List Wy} {Q Q':List One}
theorem b6P {S:List Int} {i:Nat} {x:Int} (hi:i < S.length) (h:x∈S.take (i+1)) (h0:x∉S.take i):x=S.getD i 0:=by
 rw [List.take_succ_eq_append_getElem hi] at h
 rcases List.mem_append.1 h with h | h
 ·exact absurd h h0
 ·rw [List.mem_singleton.1 h,List.getD_eq_getElem?_getD,List.getElem?_eq_getElem hi];rfl
theorem IInv.next (h:IInv R P fr v S fresh q0 c0 dn K B Q came i) {k:Nat} (hi:i < S.length) (hs:S.getD i 0=(k:Int)) (hk:∀ tq:Nat,nxT R v k=(tq:Int)→priceOk P k=true→(bw B tq).known=true∧leW (bw B tq) (withV (bw B v) k (P.getD k 0))):IInv R P fr v S fresh q0 c0 dn K B Q came (i+1) :=
  { h with
    li:=h.li.chg fun u hu j tq hn hp hnp hp1=>by
      obtain ⟨h1,rfl,h3⟩:=hp1
      have hj:(j:Int)=S.getD i 0:=b6P hi (Classical.byContradiction fun h9=>hnp ⟨h1,rfl,h9⟩) h3
      rw [hs] at hj
      obtain rfl:j=k:=by omega
      exact hk tq hn hp
    c1:=by have:=h.c1;omega }
theorem IInv.skip (h:IInv R P fr v S fresh q0 c0 dn K B Q came i) {k:Nat} (hi:i < S.length) (hs:S.getD i 0=(k:Int)) (hk:priceOk P k=false):IInv R P fr v S fresh q0 c0 dn K B Q came (i+1) :=
 h.next hi hs fun tq _ hp=>by rw [hk] at hp;cases hp
theorem IInv.keep (h:IInv R P fr v S fresh q0 c0 dn K B Q came i) {k tq:Nat} (hi:i < S.length) (hs:S.getD i 0=(k:Int)) (hn:nxT R v k=(tq:Int)) (hb:a3q (withV (bw B v) k (P.getD k 0)) (bw B tq)=false):IInv R P fr v S fresh q0 c0 dn K B Q came (i+1) :=
 h.next hi hs fun t hn' _=>by
  rw [hn] at hn'
  obtain rfl:tq=t:=by omega
  exact b2p.1 hb
theorem IInv.better (h:IInv R P fr v S fresh q0 c0 dn K B Q came i) (hR:b3a R) (hP:∀ k,priceOk P k=true→1≤P.getD k 0) {k tq:Nat} (hi:i < S.length) (hs:S.getD i 0=(k:Int)) (hn:nxT R v k=(tq:Int)) (hp:priceOk P k=true)
  (hb:a3q (withV (bw B v) k (P.getD k 0)) (bw B tq)=true) (hQ:Q'.Perm (Q++[⟨(bw B v).price+P.getD k 0,came,(tq:Int)⟩])) (hh:HeapN (at_ Q') Q'.length) :
  IInv R P fr v S fresh q0 c0 dn K (B.set tq (withV (bw B v) k (P.getD k 0))) Q' (came+1) (i+1):=by
 have hf:fresh:=Classical.byContradiction fun h9=>by
  have:=b2p.2 (h.li.rel v h.vd k tq hn hp (fun h1=>h9 h1.1))
  rw [hb] at this;cases this
 have hne:v≠tq:=fun e=>by
  subst e
  have h1:=b2D hb (h.li.dnK v h.vd).2.1
  have h2:=hP k hp
  have h3:(withV (bw B v) k (P.getD k 0)).price=(bw B v).price+P.getD k 0:=rfl
  unfold leW at h1;omega
 have hu:=h.li.upd hR hP h.vd h.vk (h.vw hf) hn hp hb hQ
 refine ⟨hu.chg fun u hu' j t hn' hp' hnp hp1=>?_,hh,h.vd,by rw [a7k hne];exact h.vk,fun _=>by rw [a7k hne];exact h.vw hf,by have:=h.c1;omega,fun h9=>absurd hf h9,by have:=h.cz;omega,?_⟩
 ·obtain ⟨⟨h1,rfl,h3⟩,h4⟩:=hp1
  exfalso
  have hj:(j:Int)=S.getD i 0:=b6P hi (Classical.byContradiction fun h9=>hnp ⟨h1,rfl,h9⟩) h3
  rw [hs] at hj
  exact h4 ⟨rfl,by omega⟩
 ·rw [hQ.length_eq,List.length_append,List.length_singleton];have:=h.qe;omega
theorem IInv.start (h:OInv R P fr B Q came dn K) {x:One} (hQ:(x::Q').Perm Q) (hh:HeapN (at_ Q') Q'.length) (hmin:∀ y∈Q,x.key≤y.key) {v:Nat} (hv:v < R.length) (hx:x.thing=(v:Int)) (hs:x.key=(bw B v).price) (S:List Int) :
  IInv R P fr v S (v∉dn) Q'.length came (dnN v dn) x.key B Q' came 0:=by
 have ht:=h.li.take hQ hmin hv hx hs
 by_cases hd:v∈dn
 ·have e:dnN v dn=dn:=by unfold dnN;rw [if_pos hd]
  rw [e]
  exact ⟨(ht.1 hd).chg fun u hu k tq _ _ _ hp=>hp.elim,hh,hd,hs.symm,fun h9=>absurd hd h9,by omega,fun _=>Int.le_refl _,h.cz,rfl⟩
 ·have e:dnN v dn=v::dn:=by unfold dnN;rw [if_neg hd]
  rw [e]
  have hk:(bw B v).known=true:=by
   obtain ⟨_,v',h1,_,h3,_⟩:=h.li.item x (hQ.mem_iff.1 (List.mem_cons_self ..))
   obtain rfl:v=v':=by omega
   exact h3
  refine ⟨(ht.2 hd).chg fun u hu k tq _ _ hnp hp=>?_,hh,List.mem_cons_self ..,hs.symm,fun _=>?_,by omega,fun h9=>absurd hd h9,h.cz,rfl⟩
  ·exact absurd ⟨hd,hp,fun h=>by cases h⟩ hnp
  ·rw [List.length_cons];have:=h.li.wl v hv hk;omega
theorem IInv.end_ (h:IInv R P fr v S (v∉dn) q0 c0 (dnN v dn) K B Q came S.length) (hS:∀ k tq:Nat,nxT R v k=(tq:Int)→(k:Int)∈S) (hl:S.length≤32) (hc:c0≤1+32 * dn.length):OInv R P fr B Q came (dnN v dn) K∧(Q.length+33 * (R.length - (dnN v dn).length) < q0+1+33 * (R.length - dn.length)):=by
 have hl2:=c4O h.li
 have hq:=h.qe
 have h1:=h.c1
 have h2:=h.c2
 refine ⟨⟨h.li.chg fun u hu k tq hn hp _ hp1=>?_,h.hp,h.cz,?_,hl2⟩,?_⟩
 ·obtain ⟨_,rfl,h3⟩:=hp1
  rw [List.take_length] at h3
  exact absurd (hS k tq hn) h3
 ·by_cases hd:v∈dn
  ·have e:dnN v dn=dn:=by unfold dnN;rw [if_pos hd]
   rw [e];have:=h2 (fun h=>h hd);omega
  ·have e:dnN v dn=v::dn:=by unfold dnN;rw [if_neg hd]
   rw [e,List.length_cons];omega
 ·by_cases hd:v∈dn
  ·have e:dnN v dn=dn:=by unfold dnN;rw [if_pos hd]
   rw [e] at hl2 ⊢;have:=h2 (fun h=>h hd);omega
  ·have e:dnN v dn=v::dn:=by unfold dnN;rw [if_neg hd]
   rw [e,List.length_cons] at hl2 ⊢;omega
theorem OInv.stale (h:OInv R P fr B Q came dn K) {x:One} (hQ:(x::Q').Perm Q) (hh:HeapN (at_ Q') Q'.length) {v:Nat} (hx:x.thing=(v:Int)) (hs:(bw B v).price < x.key):OInv R P fr B Q' came dn K :=
 ⟨h.li.stale hQ hx hs,hh,h.cz,h.c1,h.dl⟩
def b8l (n fr:Nat):List Wy:=(List.replicate n Wy.zero).set fr ⟨0,[],true⟩
theorem c4T (n v:Nat):bw (List.replicate n Wy.zero) v=Wy.zero:=by
 unfold bw
 rw [List.getD_eq_getElem?_getD,List.getElem?_replicate]
 split <;> rfl
theorem OInv.begin (hf:fr < R.length) {Q:List One} (hQ:Q.Perm ([]++[⟨0,0,(fr:Int)⟩])) (hh:HeapN (at_ Q) Q.length):OInv R P fr (b8l R.length fr) Q (0+1) [] 0:=by
 have hl:(List.replicate R.length Wy.zero).length=R.length:=List.length_replicate ..
 have e1:bw (b8l R.length fr) fr=⟨0,[],true⟩:=a5k (by rw [hl];exact hf)
 have e2:∀ u,u≠fr→bw (b8l R.length fr) u=Wy.zero:=fun u hu=>by unfold b8l;rw [a7k hu,c4T]
 have hk:∀ u,(bw (b8l R.length fr) u).known=true→u=fr:=fun u hu=>Classical.byContradiction fun h9=>by rw [e2 u h9] at hu;cases hu
 refine ⟨⟨by unfold b8l;rw [List.length_set,hl],fun v hv h=>?_,fun v hv h=>?_,fun v hv h=>?_,e1,fun x hx=>?_,(fun v hv=>by cases hv),(fun v hv=>by cases hv),fun v hv h=>?_,List.nodup_nil,?_⟩,hh,by omega,by simp,Nat.zero_le _⟩
 ·obtain rfl:=hk v h
  rw [e1];exact ⟨rfl,rfl,fun s hs=>by cases hs⟩
 ·obtain rfl:=hk v h
  rw [e1];exact Nat.le_refl _
 ·by_cases hvf:v=fr
  ·subst hvf;rw [e1] at h;cases h
  ·rw [e2 v hvf];rfl
 ·have hx:=hQ.mem_iff.1 hx
  rw [List.nil_append,List.mem_singleton] at hx
  subst hx
  exact ⟨Int.le_refl _,fr,rfl,hf,by rw [e1],by rw [e1];exact Int.le_refl _⟩
 ·obtain rfl:=hk v h
  exact .inr ⟨_,hQ.mem_iff.2 (List.mem_singleton_self _),rfl,by rw [e1]⟩
 ·rw [hQ.length_eq];simp
theorem a7b (P:List Int):∀ l:List Int,(∀ s∈l,∃ k:Nat,s=(k:Int)∧k < 32∧priceOk P k=true)→0≤priceW P l∧priceW P l≤1000000 * l.length
  | [],_=>⟨Int.le_refl _,by simp [priceW]⟩
  | a :: l, h => by
    obtain ⟨k,rfl,_,hk⟩:=h a (List.mem_cons_self ..)
    have ih:=a7b P l fun x hx=>h x (List.mem_cons_of_mem _ hx)
    unfold priceOk at hk
    simp only [Bool.and_eq_true,decide_eq_true_eq] at hk
    show 0≤P.getD ((k:Int)).toNat 0+priceW P l∧P.getD ((k:Int)).toNat 0+priceW P l≤1000000 * ((l.length+1:Nat):Int)
    rw [Int.toNat_natCast];omega
theorem LInv.wlen {pend:Nat→Nat→Prop} (h:LInv R P fr B Q came dn K pend) (v:Nat):(bw B v).word.length≤R.length:=by
  have hd:=c4O h
  rcases Nat.lt_or_ge v R.length with hv | hv
  · cases hk : (bw B v).known with
    | true=>have:=h.wl v hv hk;omega
    | false=>rw [h.wz v hv hk];exact Nat.zero_le _
  · unfold bw;rw [List.getD_eq_getElem?_getD,List.getElem?_eq_none (by rw [h.len];exact hv)];exact Nat.zero_le _
theorem c1J {R:List (List Int)} {a:Int} {s:Int}:∀ {n:Nat},s∈byK R a n↔∃ k:Nat,s=(k:Int)∧k < n∧nxT R a k≠-1:=by
 intro n
 unfold byK
 constructor
 ·intro h
  obtain ⟨k,hk,rfl⟩:=List.mem_map.1 h
  obtain ⟨h1,h2⟩:=List.mem_filter.1 hk
  exact ⟨k,rfl,List.mem_range.1 h1,by simpa using h2⟩
 ·rintro ⟨k,rfl,h1,h2⟩
  exact List.mem_map.2 ⟨k,List.mem_filter.2 ⟨List.mem_range.2 h1,by simpa using h2⟩,rfl⟩
end
end Go.Proofs.YtkeakpcieokhhaaGreatDoor
namespace Go.Proofs.YtkeakpcieokhhaaGreatDoor
set_option maxRecDepth 100000
set_option maxHeartbeats 1000000
open Go.RowKit
open Go.Lib (compareInt)
@[reducible] def d0R (g:Nat) (B:List Wy):HObj:=⟨g,B.length,3,131,0,fun i=>wyF (bw B i)⟩
@[reducible] def d1x (B:List Wy):HV:=.sl 3 B.length (fun i=>wyF (bw B i))
theorem c7e {l:List Int} {i:Nat} (h:i < l.length):l.getD i 0∈l:=by
 rw [List.getD_eq_getElem?_getD,List.getElem?_eq_getElem h];exact List.getElem_mem h
theorem c0S {g n:Nat} {f:Nat→Nat→HV} {B:List Wy} (hn:n=B.length) (h:∀ i j,i < n→j < 3→Sb (f i j) (wyF (bw B i) j)):a2o ⟨g,n,3,131,0,f⟩ (d0R g B) :=
 ⟨rfl,hn,rfl,rfl,Nat.le_refl _,h,fun h=>absurd h (Nat.not_lt_zero _)⟩
theorem c0s:∀ j,j < 3→Sb (.imm ([Value.int .i64 0,Value.slice none 0 0,Value.bool false].getD j undef)) (wyF Wy.zero j):=fun j hj=>by
 match j,hj with
 | 0,_=>exact .refl _
 | 1,_=>exact .nil 0 1 _ (by decide) none
 | 2,_=>exact .refl _
theorem c7M {g n fr a:Nat} (ha:a=fr) (hf:fr < n):a2o ⟨g,n,3,131,0,upd (fun x j=>.imm ([Value.int .i64 0,Value.slice none 0 0,Value.bool false].getD j undef)) a (0+2) 1 fun j=>(boolV true).cell j⟩ (d0R g (b8l n fr)):=by
 subst ha
 refine c0S (by simp [b8l]) fun i j hi hj=>?_
 by_cases h:i=a
 ·subst h
  rw [show bw (b8l n i) i=⟨0,[],true⟩ from a5k (by rw [List.length_replicate];exact hi)]
  match j,hj with
  | 0,_=>rw [a2V omo];exact .refl _
  | 1,_=>rw [a2V omo];exact .nil 0 1 _ (by decide) none
  | 2,_=>rw [a5r ⟨rfl,Nat.le_refl _,by omega⟩];exact .refl _
 ·rw [a2V (fun h9=>h h9.1),show bw (b8l n a) i=Wy.zero from by unfold b8l;rw [a7k h,c4T]]
  exact c0s j hj
theorem c0j {g t a:Nat} {B:List Wy} {w:Wy} (ha:a=t) (ht:t < B.length):a2o ⟨g,B.length,3,131,0,upd (fun i=>wyF (bw B i)) a 0 3 fun j=>(wyV w).cell j⟩ (d0R g (B.set t w)):=by
 subst ha
 refine c0S (by simp) fun i j hi hj=>?_
 by_cases h:i=a
 ·subst h
  rw [a5k hi,a5r ⟨rfl,Nat.zero_le _,by omega⟩];exact .refl _
 ·rw [a2V (fun h9=>h h9.1),a7k h];exact .refl _
theorem d0b (c0:Nat) (R:List (List Int)) (A:List Bool) (P:List Int) (fr:Nat) (hR:b3a R) (hRl:R.length≤1000) (hf:fr < R.length) (hPl:P.length≤1000000) (hP:∀ k,priceOk P k=true→1≤P.getD k 0):a2Z Tryz.prog 27 c0 [tabP R A,intV (fr:Int),a0i P] [] (a5P (fun B _=>WaysOk R P fr B) (fun B=>d1x B) (fun _=>[])):=by
 refine a8H Tryz.func27 rfl kr _ _ _ _ rfl 86 rfl rfl (fun X ok hX hM=>?_)
 refine ru 10 ?_
 refine cll (b2n R A) ?_
 refine a0w 21 (b6m (id:=21) (n:=_) (m:=_) ei_77.h omx omx rfl rfl rfl rfl omx omx omx rfl) rfl rfl pre0 rfl rfl (c':=c0+3) rfl ?_
 refine ru 19 ?_
 refine (a1v 8 0 8101 3 190 (qoF []) (d2e (c0+7) 0 0) rfl rfl (fun j hj=>by match j,hj with | 0,_=>exact .inl ⟨rfl,rfl⟩ | 1,_=>exact .inr rfl) (by decide) (by decide) (c':=c0+8) rfl).wp ?_
 refine ru 2 ?_
 refine a0n 27 (xs:=[_,_,_]) (pre:=[(8,_),(8101,_)]) (c4J _ (c0+6) (c0+7) [] 0 0 (fr:Int) (by simp) (fun k h0 hk=>absurd hk (Nat.not_lt_zero _)) ⟨by decide,by decide⟩) ⟨rfl,⟨rfl,⟨rfl,trivial⟩⟩⟩ (a0h rfl (a0h rfl pre0)) rfl rfl (fun m0 c1 hm0=>?_)
 (try dsimp only)
 refine ru 4 ?_
 refine a0m (α:=List Wy×List One×Int×List Nat×Int×Nat) (fun x c=>⟨86,[(3,.v (.pt 3 c0 0 0)),(5,.v (.pt 5 (c0+1) 0 0)),(7,.v (.pt 7 (c0+3) 0 0)),(8,.v (.pt 8 (c0+6) 0 0))],[(3,⟨c0,1,1,24,0,fun _ _=>tabP R A⟩),(5,⟨c0+1,1,1,23,0,fun _ _=>a0i P⟩),(7,⟨c0+3,1,1,77,0,fun _ _=>.os 21 (c0+2) 0 x.1.length⟩),(21,d0R (c0+2) x.1),(8,a8q (c0+6) x.2.2.2.2.2 x.2.1.length x.2.2.1),(8101,qrO x.2.2.2.2.2 x.2.1)],c⟩) (fun x=>OInv R P fr x.1 x.2.1 x.2.2.1 x.2.2.2.1 x.2.2.2.2.1) (fun x=>x.2.1.length+33 * (R.length - x.2.2.2.1.length)) ((b8l R.length fr,m0.1,0+1,[],0,m0.2)) (by exact OInv.begin hf hm0.1 hm0.2) (a0d rfl (Nat.le_refl _) tsa (a0e.cons rfl (b2Z (.refl _)) (a0e.cons rfl (b2Z (.refl _)) (a0e.cons rfl (b2Z (a3w (by simp [b8l]))) (a0e.cons rfl (c7M om hf) hsa))))) (fun x c hx NhL1 hL1=>?_)
 revert hx hL1;obtain ⟨B,Q,came,dn,K,gr⟩:=x;intro hx hL1;dsimp only at hx hL1 ⊢
 refine ru 3 ?_
 refine hq_ 28 (a0D (xs:=[_]) (pre:=[(8,_),(8101,_)]) (d1O (c0+6) gr Q came) ⟨rfl,trivial⟩) rfl rfl (a0h rfl (a0h rfl pre0)) rfl rfl ?_
 refine ru 3 ?_
 refine wdc (fun hr0 hc0=>?_) (fun hr0 hc0=>?_)
 ·skip
  have hQ0:0 < Q.length:=om;have hO:=hx;have hbl:=hO.li.len;have hdl:=hO.dl;have hc1:=hO.c1;have hqn:=hO.li.qn;have hmem:at_ Q 0∈Q:=(by rw [a7a hQ0];exact List.getElem_mem hQ0);obtain ⟨hKx,v,hv1,hv2,hv3,hv4⟩:=hO.li.item _ hmem
  refine ru 5 ?_
  refine a0n 31 (xs:=[_]) (pre:=[(8,_),(8101,_)]) (c7H _ (c0+6) gr Q came om hQ0 hO.hp) ⟨rfl,trivial⟩ (a0h rfl (a0h rfl pre0)) rfl rfl (fun Q1 c2 hQ1=>?_)
  (try dsimp only)
  refine ru 2 ?_
  refine rvl (intV (v:Int)) ((congrArg intV hv1)) ?_
  refine ru 20 ?_
  refine wdc (fun hr1 hc1=>?_) (fun hr1 hc1=>?_)
  ·skip
   have hst:(bw B v).price < (at_ Q 0).key:=(by simpa using hr1)
   refine ru 3 ?_
   exact hL1 ((B,Q1,came,dn,K,gr)) _ _ (by (try dsimp only);exact hO.stale hQ1.1 hQ1.2 hv1 hst) (by (try dsimp only);have h9:=hQ1.1.length_eq;rw [List.length_cons] at h9;omega) (a0d rfl (Nat.le_refl _) tsa hsa)
  have hst:(at_ Q 0).key=(bw B v).price:=(by have h9:=hr1;simp at h9;omega);have hmin:∀ y∈Q,(at_ Q 0).key≤y.key:=(fun y hy=>by obtain ⟨j,hj,rfl⟩:=List.getElem_of_mem hy;have h9:=c2t hO.hp j hj;rw [a3M,a7a hj] at h9;omega);have hI:=IInv.start hO hQ1.1 hQ1.2 hmin hv2 hv1 hst (a8z R (v:Int) 32).list
  refine ru 6 ?_
  refine cll (d0y R A (v:Int)) ?_
  refine cll (c0V (a8z R (v:Int) 32)) ?_
  refine ru 3 ?_
  refine a7m (α:=Nat×List Wy×List One×Int×Nat) ⟨rfl,rfl,rfl⟩ (b3L (a8z R (v:Int) 32) (b1v _ _ _)) rfl (cs:=[_]) rfl (fun i hi=>by first | rfl | (cases i <;> first | rfl | (simp at hi))) ⟨(Fz.eq rfl),trivial⟩ rfl (fun _=>rfl) rfl (fun x=>[(3,⟨c0,1,1,24,0,fun _ _=>tabP R A⟩),(5,⟨c0+1,1,1,23,0,fun _ _=>a0i P⟩),(7,⟨c0+3,1,1,77,0,fun _ _=>.os 21 (c0+2) 0 x.2.1.length⟩),(21,d0R (c0+2) x.2.1),(8,a8q (c0+6) x.2.2.2.2 x.2.2.1.length x.2.2.2.1),(8101,qrO x.2.2.2.2 x.2.2.1),(9,⟨c2,1,1,3,0,fun _ _=>intV (v:Int)⟩)]) (fun x=>x.1) (fun x=>x.1≤(a8z R (v:Int) 32).list.length∧IInv R P fr v (a8z R (v:Int) 32).list (v∉dn) Q1.length came (dnN v dn) (at_ Q 0).key x.2.1 x.2.2.1 x.2.2.2.1 x.1) ((0,B,Q1,came,gr)) (by exact ⟨Nat.zero_le _,hI⟩) (by first | rfl | omega) (hsr rfl (hsr rfl (hsr rfl (hsr rfl (hsr rfl (hsr rfl (a0e.cons rfl (b2Z (.refl _)) a0e.nil))))))) rfl (fun x c hx hi C1 lr hC1 NhR2 hR2=>?_) (fun x c hx hi=>?_)
  ·skip
   revert hx hi hR2;obtain ⟨i,B1,Q2,came1,gr1⟩:=x;intro hx hi hR2;dsimp only at hx hi hR2 ⊢
   obtain ⟨hix,hI1⟩:=hx
   have hSl:(a8z R (v:Int) 32).list.length≤32:=(by rw [a7o];exact c0g R v 32);obtain ⟨k,hk1,hk32,hkn⟩:∃ k:Nat,(a8z R (v:Int) 32).list.getD i 0=(k:Int)∧k < 32∧nxT R v k≠-1:=(c1J.1 (by rw [←a7o];exact c7e hi));obtain ⟨tq,htq⟩:∃ tq:Nat,nxT R v k=(tq:Int):=⟨(nxT R v k).toNat,by have:=(b6o hR v k).1;omega⟩;have htR:tq < R.length:=(by have:=(b6o hR v k).2;omega);have hbl1:=hI1.li.len;have hw1:=hI1.li.wlen v;have hw2:=hI1.li.wlen tq;have hdn:=hI1.li.dnK v hI1.vd;have hpo:=hI1.li.ok v hv2 hdn.2.1;have hpb:=a7b P _ hpo.2.2;rw [←hpo.2.1] at hpb;have hcc:=hI1.c1;have hqq:=hI1.li.qn;rw [hk1]
   refine ru 3 ?_
   refine hR2 _ (fun C2 hC3=>?_)
   refine ru 5 ?_
   refine cll (c7v P k hPl) ?_
   refine ru 14 ?_
   refine wdc (fun hr2 hc2=>?_) (fun hr2 hc2=>?_)
   ·skip
    have hpk:priceOk P k=false:=(by simpa using hr2)
    refine ru 3 ?_
    exact a2B ⟨(i+1,B1,Q2,came1,gr1),by (try dsimp only);exact ⟨by omega,hI1.skip hi hk1 hpk⟩,by first | rfl | omega,hsa⟩
   have hpk:priceOk P k=true:=(by simpa using hr2);have hp1:=hP k hpk;have hp2:P.getD k 0≤1000000:=(by have h9:=hpk;unfold priceOk at h9;simp only [Bool.and_eq_true,decide_eq_true_eq] at h9;omega);have hwl:(withV (bw B1 v) k (P.getD k 0)).word.length=(bw B1 v).word.length+1:=(by simp [withV])
   refine ru 7 ?_
   refine cll (c0d R A v k) ?_
   refine ru 2 ?_
   refine rvl (intV (tq:Int)) ((congrArg intV (by rw [htq];exact if_neg om))) ?_
   refine ru 11 ?_
   refine rvl (wyV (bw B1 v)) ((by rw [Nat.zero_add,Int.toNat_natCast];rfl)) ?_
   refine ru 2 ?_
   refine rvl (intV (P.getD k 0)) ((congrArg intV (if_pos hpk))) ?_
   refine s0 (a0f (xs:=[_,_,_]) (c3H (bw B1 v) k (P.getD k 0) om ⟨by omega,by omega⟩ ⟨by omega,by omega⟩) ⟨rfl,⟨rfl,⟨rfl,trivial⟩⟩⟩ ⟨(show Fz _ (wyV (bw B1 v)) (wyV (bw B1 v)) from .agg _ _ _ (a8v _)),⟨(Fz.eq rfl),⟨(Fz.eq rfl),trivial⟩⟩⟩) ?_
   refine ru 7 ?_
   refine rvl (wyV (withV (bw B1 v) k (P.getD k 0))) (rfl) ?_
   refine ru 11 ?_
   refine rvl (wyV (bw B1 tq)) ((by rw [Nat.zero_add,Int.toNat_natCast];rfl)) ?_
   refine s0 (b2u (xs:=[_]) (args:=[_]) (ys:=[wyV (withV (bw B1 v) k (P.getD k 0)),wyV (bw B1 tq)]) (b5q (withV (bw B1 v) k (P.getD k 0)) (bw B1 tq) om om) rfl ⟨rfl,trivial⟩ ⟨.agg _ _ _ (a8v _),.agg _ _ _ (a8v _),trivial⟩) ?_
   refine ru 2 ?_
   refine wdc (fun hr3 hc3=>?_) (fun hr3 hc3=>?_)
   ·skip
    have hb1:a3q (withV (bw B1 v) k (P.getD k 0)) (bw B1 tq)=true:=(by simpa using hr3)
    refine ru 5 ?_
    refine rvl (wyV (withV (bw B1 v) k (P.getD k 0))) (rfl) ?_
    refine ru 7 ?_
    refine rvl (intV ((bw B1 v).price+P.getD k 0)) (rfl) ?_
    refine ru 1 ?_
    refine a0n 84 (xs:=[_,_,_]) (pre:=[(8,_),(8101,_)]) (c4J _ (c0+6) gr1 Q2 came1 ((bw B1 v).price+P.getD k 0) (tq:Int) om hI1.hp ⟨hI1.cz,by omega⟩) ⟨rfl,⟨rfl,⟨rfl,trivial⟩⟩⟩ (a0h rfl (a0h rfl pre0)) rfl rfl (fun m1 c3 hm1=>?_)
    (try dsimp only)
    refine ru 2 ?_
    exact a2B ⟨(i+1,B1.set tq (withV (bw B1 v) k (P.getD k 0)),m1.1,came1+1,m1.2),by (try dsimp only);exact ⟨by omega,hI1.better hR hP hi hk1 htq hpk hb1 hm1.1 hm1.2⟩,by first | rfl | omega,(hsr rfl (hsr rfl (a0e.cons rfl (b2Z (a3w (by simp))) (a0e.cons rfl (c0j om om) hsa))))⟩
   have hb1:a3q (withV (bw B1 v) k (P.getD k 0)) (bw B1 tq)=false:=(by simpa using hr3)
   refine ru 2 ?_
   exact a2B ⟨(i+1,B1,Q2,came1,gr1),by (try dsimp only);exact ⟨by omega,hI1.keep hi hk1 htq hb1⟩,by first | rfl | omega,hsa⟩
  ·skip
   revert hx hi;obtain ⟨i,B1,Q2,came1,gr1⟩:=x;intro hx hi;dsimp only at hx hi ⊢
   obtain ⟨hix,hI1⟩:=hx
   subst hi;have hSl:(a8z R (v:Int) 32).list.length≤32:=(by rw [a7o];exact c0g R v 32);have hE:=IInv.end_ hI1 (fun k tq hk=>by rw [a7o];exact c1J.2 ⟨k,rfl,(c6r hk).1,by omega⟩) hSl hO.c1;have hq9:=hQ1.1.length_eq;rw [List.length_cons] at hq9
   refine ru 2 ?_
   exact hL1 ((B1,Q2,came1,dnN v dn,(at_ Q 0).key,gr1)) _ _ (by (try dsimp only);exact hE.1) (by (try dsimp only);have h9:=hE.2;omega) (a0d rfl (Nat.le_refl _) tsa hsa)
 obtain rfl:Q=[]:=List.eq_nil_of_length_eq_zero om;have hW:=hx.li.done hR hf hx.dl
 refine ru 2 ?_
 refine a0c ?_
 refine ru 9 ?_
 refine b1T hM ?_
 refine a1o ok hX a2w.one rfl (a0g rfl) [(21,_)] rfl (a0h rfl pre0) (B) (hW) (by rfl) (by rfl) ((.fz _ _ (a2x (l:=B) (enc:=wyF) (d:=default) (List.mem_cons_self ..) rfl rfl (Nat.le_refl _) (fun i j hi hj=>a8v _ j hj)))) ?_
 exact trivial
@[reducible] def accF (R:List (List Int)) (A:List Bool) (i:Nat):Bool:=b4X R (i:Int)&&A.getD i false
def a1E (B:List Wy) (acc:Nat→Bool):Nat→Wy
 | 0=>Wy.zero
 | k+1=>if (bw B k).known=true∧acc k=true∧a3q (bw B k) (a1E B acc k)=true then bw B k else a1E B acc k
theorem a9H {B:List Wy} {acc:Nat→Bool} {n:Nat} (h:∀ v,(bw B v).word.length≤n):∀ k,(a1E B acc k).word.length≤n
  | 0=>Nat.zero_le _
  | k + 1 => by
    unfold a1E;split
    · exact h k
    · exact a9H h k
@[reducible] def d2o (o:Wy):HV:=t3 (a0i o.word) (intV o.price) (boolV o.known)
theorem c6x {g:Nat} {f:Nat→Nat→HV} {w:Wy} (h:∀ j,j < 3→Sb (f 0 j) (wyF w j)):a2o ⟨g,1,3,131,0,f⟩ ⟨g,1,3,131,0,fun _=>wyF w⟩:=.of fun i j hi hj=>by
 obtain rfl:i=0:=by omega
 exact h j hj
theorem d0M (c0:Nat) (B:List Wy) (R:List (List Int)) (A:List Bool) (hB:B.length≤1000) (hw:∀ v,(bw B v).word.length≤1000):a2Z Tryz.prog 26 c0 [d1x B,.bnd (.func 9) (tabP R A)] [] (a5P (fun (_:Unit) _=>True) (fun _=>d2o (a1E B (accF R A) B.length)) (fun _=>[])):=by
 have hpl:=a9H (acc:=accF R A) hw
 refine a0q Tryz.func26 rfl kr _ _ _ _ rfl 37 rfl rfl (fun X ok hX=>?_)
 refine ru 21 ?_
 refine a0m (α:=Nat) (fun x c=>⟨37,[(1,.v (.bnd (.func 9) (tabP R A))),(7,.v (.pt 7 c0 0 0)),(10,.v (d1x B)),(11,.v (intV (B.length:Int))),(12,.v (intV (x:Int)))],[(7,⟨c0,1,3,131,0,fun _=>wyF (a1E B (accF R A) x)⟩)],c⟩) (fun x=>x≤B.length) (fun x=>B.length - x) (0) (by exact Nat.zero_le _) (a0d rfl (Nat.le_refl _) tsa (a0e.cons rfl (c6x (fun j hj=>c0s j hj)) a0e.nil)) (fun k c hx NhL1 hL1=>?_)
 (try dsimp only at hx hL1 ⊢)
 refine ru 6 ?_
 refine wdc (fun hr0 hc0=>?_) (fun hr0 hc0=>?_)
 ·skip
  have hk1:=hw k;have hk2:=hpl k
  refine ru 9 ?_
  refine rvl (wyV (bw B k)) ((by first | rfl | (rw [Int.toNat_natCast];rfl))) ?_
  refine ru 12 ?_
  first
  | refine stg 19 (fun hb=>b2u (xs:=[_]) (args:=[_]) (ys:=[tabP R A,intV (k:Int)]) (a9N R A k) rfl ⟨rfl,trivial⟩ ⟨(show Fz _ (tabP R A) (tabP R A) from Frz.fz),.imm _,trivial⟩) rfl rfl rfl rfl rfl ?_
  | refine sth 19 (fun hb=>b2u (xs:=[_]) (args:=[_]) (ys:=[tabP R A,intV (k:Int)]) (a9N R A k) rfl ⟨rfl,trivial⟩ ⟨(show Fz _ (tabP R A) (tabP R A) from Frz.fz),.imm _,trivial⟩) rfl rfl rfl rfl rfl ?_
  refine ru 3 ?_
  refine ry (wyV (bw B k)) rfl (fun hb=>rfl) ?_
  refine ru 1 ?_
  refine ry (wyV (a1E B (accF R A) k)) rfl (fun hb=>rfl) ?_
  first
  | refine stg 24 (fun hb=>a0f (xs:=[_,_]) (b5q (bw B k) (a1E B (accF R A) k) omo omo) ⟨rfl,⟨rfl,trivial⟩⟩ ⟨(show Fz _ (wyV _) (wyV _) from .agg _ _ _ (a8v _)),⟨(show Fz _ (wyV _) (wyV _) from .agg _ _ _ (a8v _)),trivial⟩⟩) rfl rfl rfl rfl rfl ?_
  | refine sth 24 (fun hb=>a0f (xs:=[_,_]) (b5q (bw B k) (a1E B (accF R A) k) omo omo) ⟨rfl,⟨rfl,trivial⟩⟩ ⟨(show Fz _ (wyV _) (wyV _) from .agg _ _ _ (a8v _)),⟨(show Fz _ (wyV _) (wyV _) from .agg _ _ _ (a8v _)),trivial⟩⟩) rfl rfl rfl rfl rfl ?_
  refine ru 3 ?_
  refine wdc (fun hr1 hc1=>?_) (fun hr1 hc1=>?_)
  ·skip
   have hy:a1E B (accF R A) (k+1)=bw B k:=(by have h9:=hr1;rw [Bool.and_eq_true,Bool.and_eq_true] at h9;exact if_pos ⟨h9.1.1,h9.1.2,h9.2⟩)
   refine ru 2 ?_
   refine rvl (wyV (bw B k)) (rfl) ?_
   refine ru 8 ?_
   exact hL1 (k+1) _ _ omd omd (a0d rfl (Nat.le_refl _) tsa (a0e.cons rfl (c6x (fun j hj=>by rw [hy];exact .refl _)) a0e.nil))
  have hy:a1E B (accF R A) (k+1)=a1E B (accF R A) k:=(by refine if_neg (fun h9=>?_);have h8:=hr1.symm.trans (by rw [Bool.and_eq_true,Bool.and_eq_true];exact ⟨⟨h9.1,h9.2.1⟩,h9.2.2⟩);cases h8)
  refine ru 7 ?_
  exact hL1 (k+1) _ _ omd omd (a0d rfl (Nat.le_refl _) tsa (a0e.cons rfl (c6x (fun j hj=>by rw [hy];exact .refl _)) a0e.nil))
 obtain rfl:k=B.length:=om
 refine ru 2 ?_
 refine a0c ?_
 refine ru 16 ?_
 refine a2b ok hX a2w.one rfl (a0g rfl) (a0g rfl) (a0g rfl) [] rfl pre0 (()) (trivial) (by rfl) (by rfl) ((.fz _ _ (a3c (show Fz _ (a0i (a1E B (accF R A) B.length).word) (a0i (a1E B (accF R A) B.length).word) from Frz.fz) (.imm _) (.imm _)))) ?_
 exact trivial
theorem c5s (c0:Nat) (R:List (List Int)) (A:List Bool) (P:List Int) (fr:Nat) (hR:b3a R) (hRl:R.length≤1000) (hf:fr < R.length) (hPl:P.length≤1000000) (hP:∀ k,priceOk P k=true→1≤P.getD k 0):a2Z Tryz.prog 7 c0 [tabP R A,intV (fr:Int),a0i P] [] (a5P (fun B _=>WaysOk R P fr B) (fun B=>d2o (a1E B (accF R A) B.length)) (fun _=>[])):=by
 refine a0q Tryz.func7 rfl kr _ _ _ _ rfl 27 rfl rfl (fun X ok hX=>?_)
 refine ru 15 ?_
 first
 | refine stg 11 (fun hb=>a0f (xs:=[_]) (b2n R A) ⟨rfl,trivial⟩ ⟨(Fz.eq rfl),trivial⟩) rfl rfl rfl rfl rfl ?_
 | refine sth 11 (fun hb=>a0f (xs:=[_]) (b2n R A) ⟨rfl,trivial⟩ ⟨(Fz.eq rfl),trivial⟩) rfl rfl rfl rfl rfl ?_
 refine ru 4 ?_
 refine wdc (fun hr0 hc0=>?_) (fun hr0 hc0=>?_)
 ·skip
  exfalso;simp at hr0;omega
 refine ru 7 ?_
 refine a0n 20 (xs:=[_,_,_]) (pre:=[]) (d0b _ R A P fr hR hRl hf hPl hP) ⟨rfl,⟨rfl,⟨rfl,trivial⟩⟩⟩ pre0 rfl rfl (fun B c1 hB=>?_)
 (try dsimp only)
 refine ru 2 ?_
 refine a0n 23 (xs:=[_,_]) (pre:=[]) (d0M _ B R A (by rw [hB.len];exact hRl) (fun v=>Nat.le_trans (hB.wl v) hRl)) ⟨rfl,⟨rfl,trivial⟩⟩ pre0 rfl rfl (fun u c2 hx2=>?_)
 (try dsimp only)
 refine ru 9 ?_
 refine a2b ok hX a2w.one rfl (a0g rfl) (a0g rfl) (a0g rfl) [] rfl pre0 (B) (hB) (by rfl) (by rfl) ((.fz _ _ (a3c (show Fz _ (a0i (a1E B (accF R A) B.length).word) (a0i (a1E B (accF R A) B.length).word) from Frz.fz) (.imm _) (.imm _)))) ?_
 exact trivial
@[reducible] def rwF (w:Wy):Nat→HV:=fun j=>match j with
 | 0=>a0i w.word
 | 1=>intV w.price
 | _=>boolV w.known
@[reducible] def rwV (w:Wy):HV:=.agg 3 (rwF w)
def a7C (a b:Wy):Bool:=if a.known=true∧b.known=true then decide (c5j a b < 0) else a.known
theorem c6B {a b:Wy}:c5j a b < 0↔a.price < b.price∨(a.price=b.price∧(a.word.length < b.word.length∨(a.word.length=b.word.length∧a5E a.word b.word < 0))):=by
 have h:=(b1W a b).2
 have h3:=b2A a.word b.word
 have h4:a5E b.word a.word=- a5E a.word b.word:=by
  rcases h3 with h3 | h3 | h3
  ·omega
  ·rw [h3.2,a5A];rfl
  ·omega
 unfold leW at h
 omega
theorem c9c (a b:Wy) (ha:a.word.length≤1000000) (hb:b.word.length≤1000000):HPure Tryz.prog 10 [rwV a,rwV b] (boolV (a7C a b)):=by
 have hlt:=c6B (a:=a) (b:=b)
 refine a0l Tryz.func10 rfl kr _ _ _ rfl 69 rfl rfl (fun w F=>?_)
 refine ru 20 ?_
 refine wdc (fun hr0 hc0=>?_) (fun hr0 hc0=>?_)
 ·skip
  have hbv:a7C a b=a.known:=(by refine if_neg (fun h9=>?_);have h8:=hr0;rw [h9.1,h9.2] at h8;cases h8)
  refine ru 9 ?_
  refine rt1 ?_
  exact a1V hbv.symm
 have hbv:a7C a b=decide (c5j a b < 0):=(by refine if_pos ?_;have h8:=hr0;rw [Bool.or_eq_false_iff,Bool.not_eq_false',Bool.not_eq_false'] at h8;exact h8)
 refine ru 12 ?_
 refine wdc (fun hr1 hc1=>?_) (fun hr1 hc1=>?_)
 ·refine ru 12 ?_
  refine rt1 ?_
  exact a1V (by rw [hbv,decide_eq_decide];have h8:=hr1;simp at h8;omega)
 refine ru 14 ?_
 refine wdc (fun hr2 hc2=>?_) (fun hr2 hc2=>?_)
 ·refine ru 14 ?_
  refine rt1 ?_
  exact a1V (by rw [hbv,decide_eq_decide];have h8:=hr1;have h7:=hr2;simp at h8 h7;omega)
 have hp1:a.price=b.price:=(by have h8:=hr1;simpa using h8);have hl1:a.word.length=b.word.length:=(by have h8:=hr2;simp at h8;omega)
 refine ru 9 ?_
 refine a0m (α:=Nat) (fun x c=>⟨69,[(2,.v (.pt 2 0 0 0)),(3,.v (.pt 3 1 0 0)),(5,.v (intV (x:Int)))],[(2,⟨0,1,3,40,0,fun _=>rwF a⟩),(3,⟨1,1,3,40,0,fun _=>rwF b⟩)],c⟩) (fun x=>x≤a.word.length∧a5E (a.word.drop x) (b.word.drop x)=a5E a.word b.word) (fun x=>a.word.length - x) (0) (by exact ⟨Nat.zero_le _,rfl⟩) (a0d rfl (Nat.le_refl _) tsa (a0e.cons rfl (a2o.of fun i j hi hj=>by match j,hj with | 0,_=>exact .refl _ | 1,_=>exact .refl _ | 2,_=>exact .refl _) (a0e.cons rfl (a2o.of fun i j hi hj=>by match j,hj with | 0,_=>exact .refl _ | 1,_=>exact .refl _ | 2,_=>exact .refl _) a0e.nil))) (fun k c hx NhL1 hL1=>?_)
 (try dsimp only at hx hL1 ⊢)
 obtain ⟨hk,ho⟩:=hx
 refine ru 10 ?_
 refine wdc (fun hr3 hc3=>?_) (fun hr3 hc3=>?_)
 ·skip
  have hka:k < a.word.length:=om;have hkb:k < b.word.length:=om;have hcc:=b4M hka hkb;have htr:=a3G (a.word.getD k 0) (b.word.getD k 0)
  refine ru 19 ?_
  refine wdc (fun hr4 hc4=>?_) (fun hr4 hc4=>?_)
  ·skip
   have hne:a.word.getD k 0≠b.word.getD k 0:=(by simpa using hr4)
   refine ru 19 ?_
   refine a0o ?_
   refine ru 2 ?_
   refine rt1 ?_
   exact a1V (by rw [hbv,decide_eq_decide,hlt];rw [ho,if_pos om] at hcc;simp only [Nat.zero_add,Int.toNat_natCast];omega)
  have he:a.word.getD k 0=b.word.getD k 0:=(by simpa using hr4)
  refine ru 8 ?_
  exact hL1 (k+1) _ _ (by (try dsimp only);exact ⟨by omega,by rw [←ho,hcc,if_neg om]⟩) omd (a0d rfl (Nat.le_refl _) tsa hsa)
 refine ru 2 ?_
 refine a0c ?_
 refine ru 8 ?_
 refine rt1 ?_
 exact a1V (by rw [hbv];symm;rw [decide_eq_false_iff_not,hlt];have h9:a5E a.word b.word=0:=(by rw [←ho,List.drop_eq_nil_of_le (show a.word.length≤k by omega),List.drop_eq_nil_of_le (show b.word.length≤k by omega)];rfl);omega)
theorem b1U {B:List Wy} {acc:Nat→Bool}:∀ k,(a1E B acc k).known=true→∃ v,v < k∧acc v=true∧(bw B v).known=true∧a1E B acc k=bw B v
  | 0,h=>by cases h
  | k + 1, h => by
    unfold a1E at h ⊢
    by_cases hc:(bw B k).known=true∧acc k=true∧a3q (bw B k) (a1E B acc k)=true
    · rw [if_pos hc];exact ⟨k,Nat.lt_succ_self _,hc.2.1,hc.1,rfl⟩
    · rw [if_neg hc] at h ⊢
      obtain ⟨v,h1,h2⟩:=b1U k h
      exact ⟨v,Nat.lt_succ_of_lt h1,h2⟩
theorem a7N {B:List Wy} {acc:Nat→Bool}:∀ k v,v < k→acc v=true→(bw B v).known=true→(a1E B acc k).known=true∧leW (a1E B acc k) (bw B v)
  | 0,v,h,_,_=>absurd h (Nat.not_lt_zero _)
  | k + 1, v, h, ha, hk => by
    unfold a1E
    by_cases hc:(bw B k).known=true∧acc k=true∧a3q (bw B k) (a1E B acc k)=true
    · rw [if_pos hc]
      refine ⟨hc.1,?_⟩
      rcases Nat.lt_or_ge v k with h1 | h1
      · have h2:=a7N k v h1 ha hk
        exact a7l (b2D hc.2.2 h2.1) h2.2
      · obtain rfl:v=k:=by omega
        exact b1r _
    · rw [if_neg hc]
      rcases Nat.lt_or_ge v k with h1 | h1
      · exact a7N k v h1 ha hk
      · obtain rfl:v=k:=by omega
        have h2:a3q (bw B v) (a1E B acc v)=false:=by
          cases hq:a3q (bw B v) (a1E B acc v) with
          | false=>rfl
          | true=>exact absurd ⟨hk,ha,hq⟩ hc
        exact b2p.1 h2
theorem c2X (s:List UInt8) (hs:s≠[]):HPure Tryz.prog 23 [strV s] (bagH (a3h [bz s 0 - 97])):=by
 have hl:0 < s.length:=List.length_pos_iff.2 hs
 have hb8:(s.getD 0 0).toNat < 256:=UInt8.toNat_lt _
 have hb9:(s[0]?.getD 0).toNat < 256:=UInt8.toNat_lt _
 refine a0l Tryz.func23 rfl kr _ _ _ rfl 9 rfl rfl (fun w F=>?_)
 refine ru 11 ?_
 refine a0w 7 (a0b (id:=7) (hs:=[_]) ei_23.h omx rfl omx ⟨rfl,rfl,rfl,rfl,trivial⟩) rfl rfl pre0 rfl rfl (c':=2) rfl ?_
 refine hm_ 8 (a7n (xs:=[_]) [(7,_)] (d1E [bz s 0 - 97] (by simp)) ⟨rfl,trivial⟩ ⟨(show Fz _ _ (a0i [bz s 0 - 97]) from a2x (l:=[bz s 0 - 97]) (enc:=fun x _=>intV x) (d:=0) (List.mem_cons_self ..) rfl rfl (Nat.le_refl _) (fun i j hi hj=>by match i,hi,j,hj with | 0,_,0,_=>exact b4P (by show _=bz s 0 - 97;rw [a3R hl];rfl))),trivial⟩ rfl) rfl rfl (a0h rfl pre0) rfl rfl (c':=3) rfl ?_
 refine ru 4 ?_
 refine rt1 ?_
 exact a2m (by exact j4 rfl rfl rfl rfl)
def d0Y:List UInt8:=[97,43,32,40,98,32,124,32,99,41]
def c8m:List Sg:=[⟨1,0,0,0,[97]⟩,⟨5,1,1,-1,[]⟩,⟨2,3,0,0,[]⟩,⟨1,4,0,0,[98]⟩,⟨4,6,0,0,[]⟩,⟨1,8,0,0,[99]⟩,⟨3,9,0,0,[]⟩]
def b1L:T:=.many 2 [.times 1 (-1) (.name [97]),.many 3 [.name [98],.name [99]]]
theorem b9j:(match lexV d0Y with | .ok l=>decide (l=c8m) | .error _=>false)=true:=by decide +kernel
theorem a6S:lexV d0Y=.ok c8m:=by
 have:=b9j
 split at this
 ·rename_i l hl;rw [hl,of_decide_eq_true this]
 ·cases this
theorem b9R:b1L.ok=true:=by decide +kernel
theorem b7h:Seg c8m 3 0 c8m.length b1L:=by
  have hin:Seg c8m 3 3 6 (.many 3 [.name [98],.name [99]]):=by
    refine .choice 3 6 [.name [98],.name [99]] (fun i=>match i with | 0=>3 | _=>5) (fun i=>match i with | 0=>4 | _=>6) (by decide) rfl rfl (fun i hi=>?_) (fun i hi=>?_)
    · match i, hi with
      | 0,_=>exact .row1 _ _ _ (.item 3 4 (.name [98]) (.name 3 (by decide)) (by decide))
      | 1,_=>exact .row1 _ _ _ (.item 5 6 (.name [99]) (.name 5 (by decide)) (by decide))
    · have hi:i+1 < 2:=hi
      obtain rfl:i=0:=by omega
      exact ⟨by decide,rfl⟩
  refine .choice1 _ _ _ (.row 0 7 [.times 1 (-1) (.name [97]),.many 3 [.name [98],.name [99]]] (fun i=>match i with | 0=>0 | 1=>2 | _=>7) (by decide) rfl rfl (fun i hi=>?_))
  match i,hi with
  | 0,_=>exact .times 0 1 (.name [97]) (.name 0 (by decide)) (by decide)
  | 1,_=>exact .item 2 7 _ (.group 2 6 _ (by decide) hin (by decide)) (by decide)
theorem b9Z {r:List Pt×Int×Int} (h:ParseIs d0Y r):r=(T.flat 0 b1L,0,0):=by
 have hne:c8m≠[]:=by decide
 have hc:chk c8m 0 0 true true=(-1,false):=b1D b7h
 cases h with
 | err e hv=>rw [a6S] at hv;cases hv
 | none hv=>rw [a6S] at hv;injection hv with hv;exact absurd hv hne
 | odd l q hv _ _ hq=>rw [a6S] at hv;injection hv with hv;subst hv;rw [hc] at hq;injection hq with hq _;exact absurd hq omo
 | end_ l hv _ hq=>rw [a6S] at hv;injection hv with hv;subst hv;rw [hc] at hq;injection hq with _ hq;cases hq
 | ok l t hv hs=>rw [a6S] at hv;injection hv with hv;subst hv;rw [b9K hs b7h]
def b8Y (s:List UInt8):Bag:=a3h [bz s 0 - 97]
theorem c7l:MeanOk 23 0 (fun _=>default) [] b8Y :=
 ⟨rfl,fun i hi=>absurd hi (Nat.not_lt_zero _),trivial,fun sh=>.fn _ _ _ _ (fun i hi=>absurd hi (Nat.not_lt_zero _)),fun s hs=>c2X s (c2P hs),fun s=>(a1S _).1⟩
theorem c3p:noneV b8Y (T.flat 0 b1L)=false:=by decide +kernel
theorem c7j:b1L.w=3:=by decide +kernel
@[reducible] def d1F:Option (List Bag×List (List Int)):=tabV (0+b1L.w) (lay b8Y b1L 0).on (links (fun _=>Bag.zero) (lay b8Y b1L 0).lk) (lay b8Y b1L 0).pc
@[reducible] def c4N (S:List Bag):List Bool:=accS (lay b8Y b1L 0).pc.empty (lay b8Y b1L 0).pc.ends S
def lw3:Nat→List (List Int)
 | 0=>[[]]
 | n+1=>(lw3 n).flatMap fun w=>[0::w,1::w,2::w]
theorem b9t:∀ w:List Int,(∀ s∈w,s=0∨s=1∨s=2)→w∈lw3 w.length
  | [],_=>List.mem_singleton_self _
  | a :: w, h => by
    refine List.mem_flatMap.2 ⟨w,b9t w (fun s hs=>h s (List.mem_cons_of_mem _ hs)),?_⟩
    rcases h a (List.mem_cons_self ..) with rfl | rfl | rfl <;> simp
def b3f (S:List Bag) (R:List (List Int)) (w:List Int):Bool:=decide (0≤runX R 0 w)&&accF R (c4N S) (runX R 0 w).toNat
theorem c2Y:(match d1F with | some (S,R)=>decide (0 < R.length)&&decide (R.length≤1000)&&b3f S R [0,2]&&([0,1,2,3].all fun n=>(lw3 n).all fun w=>!b3f S R w||decide (3 < priceW [1,5,2] w)||decide (w=[0,2])) | none=>false)=true:=by decide +kernel
theorem c6Z:∃ S R,d1F=some (S,R)∧0 < R.length∧R.length≤1000∧b3f S R [0,2]=true∧∀ w:List Int,w.length≤3→(∀ s∈w,s=0∨s=1∨s=2)→b3f S R w=true→priceW [1,5,2] w≤3→w=[0,2]:=by
 have:=c2Y
 split at this
 ·rename_i S R h
  simp only [Bool.and_eq_true,decide_eq_true_eq] at this
  obtain ⟨⟨⟨h1,h2⟩,h3⟩,h4⟩:=this
  refine ⟨S,R,h,h1,h2,h3,fun w hw hs hg hp=>?_⟩
  have h5:=List.all_eq_true.1 h4 w.length (by rcases Nat.lt_or_ge w.length 4 with h9 | h9;(match w.length,h9 with | 0,_=>simp | 1,_=>simp | 2,_=>simp | 3,_=>simp);omega)
  have h6:=List.all_eq_true.1 h5 w (b9t w hs)
  simp only [hg,Bool.not_true,Bool.false_or,Bool.or_eq_true,decide_eq_true_eq] at h6
  rcases h6 with h6 | h6
  ·omega
  ·exact h6
 ·cases this
theorem d2J:HPure Tryz.prog 18 [treeNet b8Y b1L] (d1R (lay b8Y b1L 0).pc d1F):=by
 have hm:∀ s,(b8Y s).ok:=fun s=>(a1S _).1
 have hly:=a4e hm b1L 0 (by rw [c7j];decide)
 refine b4b (0+b1L.w) (by rw [c7j];decide) _ (fun i=>?_) _ (a1i hly.lk (fun _=>Bag.zero_ok)) _ hly.pc
 show ((lay b8Y b1L 0).on.getD i Bag.zero).ok
 by_cases hi:i < (lay b8Y b1L 0).on.length
 ·rw [List.getD_eq_getElem?_getD,List.getElem?_eq_getElem hi];exact hly.on _ (List.getElem_mem hi)
 ·rw [List.getD_eq_getElem?_getD,List.getElem?_eq_none omo];exact Bag.zero_ok
theorem a9P {R:List (List Int)} {P:List Int} {B:List Wy} {A:List Bool} (h:WaysOk R P 0 B) {u:List Int} {v:Nat} (hu:∀ s∈u,∃ k:Nat,s=(k:Int)∧k < 32∧priceOk P k=true) (hr:runX R 0 u=(v:Int)) (hv:v < R.length) (ha:accF R A v=true):(a1E B (accF R A) B.length).known=true∧leW (a1E B (accF R A) B.length) ⟨priceW P u,u,true⟩:=by
 have h1:=h.best u v hu hr
 have h2:=a7N (acc:=accF R A) B.length v (by rw [h.len];exact hv) ha h1.1
 exact ⟨h2.1,a7l h2.2 h1.2⟩
theorem a9U {P:List Int} (hP:∀ k,priceOk P k=true→1≤P.getD k 0):∀ l:List Int,(∀ s∈l,∃ k:Nat,s=(k:Int)∧k < 32∧priceOk P k=true)→(l.length:Int)≤priceW P l
  | [],_=>Int.le_refl _
  | a :: l, h => by
    obtain ⟨k,rfl,_,hk⟩:=h a (List.mem_cons_self ..)
    have:=hP k hk
    have ih:=a9U hP l fun x hx=>h x (List.mem_cons_of_mem _ hx)
    show ((l.length+1:Nat):Int)≤P.getD ((k:Int)).toNat 0+priceW P l
    rw [Int.toNat_natCast];omega
theorem d2l:∀ k,priceOk [1,5,2] k=true→1≤([1,5,2]:List Int).getD k 0:=fun k h=>by
 unfold priceOk at h
 simp only [Bool.and_eq_true,decide_eq_true_eq] at h
 match k,h.1.1 with
 | 0,_=>decide
 | 1,_=>decide
 | 2,_=>decide
theorem d1p {S:List Bag} {R:List (List Int)} (hg:b3f S R [0,2]=true) (hu:∀ w:List Int,w.length≤3→(∀ s∈w,s=0∨s=1∨s=2)→b3f S R w=true→priceW [1,5,2] w≤3→w=[0,2]) {B:List Wy} (h:WaysOk R [1,5,2] 0 B):(a1E B (accF R (c4N S)) B.length).known=true∧(a1E B (accF R (c4N S)) B.length).price=3∧(a1E B (accF R (c4N S)) B.length).word=[0,2]:=by
 have hg2:=hg
 unfold b3f at hg2
 rw [Bool.and_eq_true,decide_eq_true_eq] at hg2
 have hv:(runX R 0 [0,2]).toNat < R.length:=by
  have:=hg2.2
  unfold accF b4X at this
  simp only [Bool.and_eq_true,decide_eq_true_eq] at this
  omega
 have hb:=a9P (A:=c4N S) h (u:=[0,2]) (v:=(runX R 0 [0,2]).toNat) (fun s hs=>by
  rcases List.mem_cons.1 hs with rfl | hs
  ·exact ⟨0,rfl,by decide,by decide⟩
  ·rw [List.mem_singleton.1 hs];exact ⟨2,rfl,by decide,by decide⟩) omo hv hg2.2
 obtain ⟨v,hv1,hv2,hv3,hv4⟩:=b1U B.length hb.1
 have hok:=h.ok v (by rw [←h.len];exact hv1) hv3
 rw [←hv4] at hok
 generalize a1E B (accF R (c4N S)) B.length=o at hb hok ⊢
 have hle:o.price≤3:=by
  have e:priceW [1,5,2] [0,2]=3:=by decide
  have h9:o.price < priceW [1,5,2] [0,2]∨(o.price=priceW [1,5,2] [0,2]∧_):=hb.2
  rw [e] at h9
  omega
 have hge:=a9U d2l _ hok.2.2
 rw [←hok.2.1] at hge
 have hw:=hu o.word omo (fun s hs=>by
  obtain ⟨k,rfl,_,hk⟩:=hok.2.2 s hs
  unfold priceOk at hk
  simp only [Bool.and_eq_true,decide_eq_true_eq] at hk
  have:=hk.1.1
  have:k < 3:=this
  omega) (by
  unfold b3f
  rw [show runX R 0 o.word=(v:Int) from hok.1]
  simp only [Int.toNat_natCast,hv2,Bool.and_true,decide_eq_true_eq];omega) (by rw [←hok.2.1];exact hle)
 exact ⟨hb.1,by rw [hok.2.1,hw];decide,hw⟩
theorem b7M {sh:List (Nat×HObj)} {id g ty fl:Nat} {f:Nat→Nat→HV} {l:List Int} (h:∀ i,i < l.length→Fz ((id,⟨g,l.length,1,ty,fl,f⟩)::sh) (f i 0) (intV (l.getD i 0))):Fz ((id,⟨g,l.length,1,ty,fl,f⟩)::sh) (.os id g 0 l.length) (a0i l) :=
 .os _ _ _ _ _ _ (List.mem_cons_self ..) rfl (by simp) fun i j hi hj=>by
  have hj:j < 1:=hj
  obtain rfl:j=0:=by omega
  rw [Nat.zero_add];exact h i hi
theorem a7R:HPure Tryz.prog 6 [] (boolV true):=by
 have hw:=c7j
 have hB:=b6E b9R (by decide +kernel)
 have hn:=d2J
 obtain ⟨S,R,e8,h2,h3,h4,h5⟩:=c6Z
 have hrw:=b4g e8
 rw [e8] at hn
 refine a0l Tryz.func6 rfl kr _ _ _ rfl 47 rfl rfl (fun w F=>?_)
 refine ru 7 ?_
 refine a0n 12 (xs:=[_]) (pre:=[]) (b5y _ d0Y (by decide)) ⟨rfl,trivial⟩ pre0 rfl rfl (fun r c1 hr=>?_)
 (try dsimp only)
 refine ru 10 ?_
 obtain rfl:=b9Z hr
 refine ru 2 ?_
 refine cll (c7m c7l (T.flat 0 b1L) hB _ (.fine b1L b9R rfl c3p (by rw [hw];decide))) ?_
 refine ru 10 ?_
 refine cll (hn) ?_
 refine ru 10 ?_
 refine a0w 28 (a0b (id:=28) (hs:=[_,_,_]) ei_23.h omx rfl omx ⟨rfl,rfl,rfl,rfl,⟨rfl,rfl,rfl,rfl,⟨rfl,rfl,rfl,rfl,trivial⟩⟩⟩) rfl rfl pre0 rfl rfl (c':=c1+1) rfl ?_
 refine (a0V 28 [(28,_)] rfl (a0h rfl pre0) rfl ((b7M (l:=[1,5,2]) (fun i hi=>by match i,hi with | 0,_=>exact .imm _ | 1,_=>exact .imm _ | 2,_=>exact .imm _)))).seq ?_
 refine a0n 29 (xs:=[_,_,_]) (pre:=[]) (c5s _ R (c4N S) [1,5,2] 0 hrw h3 h2 (by decide) d2l) ⟨rfl,⟨rfl,⟨rfl,trivial⟩⟩⟩ pre0 rfl rfl (fun B c2 hWB=>?_)
 (try dsimp only)
 refine ru 10 ?_
 obtain ⟨p1,p2,p3⟩:=d1p h4 h5 hWB;generalize a1E B (accF R (c4N S)) B.length=o9 at p1 p2 p3 ⊢;obtain ⟨zp,zw,zk⟩:=o9;dsimp only at p1 p2 p3;subst p1;subst p2;subst p3
 refine ru 4 ?_
 refine rvl (boolV true) (rfl) ?_
 refine c2x 36 35 true (a1A rfl) rfl rfl rfl rfl pre0 rfl rfl ?_
 refine s0 (a4w rfl rfl) ?_
 refine ru 1 ?_
 refine rvl (boolV true) (rfl) ?_
 refine c2x 39 38 true (a1A rfl) rfl rfl rfl rfl pre0 rfl rfl ?_
 refine c2x 40 38 true hqi rfl rfl rfl rfl pre0 rfl rfl ?_
 refine s0 (a4w rfl rfl) ?_
 refine ru 1 ?_
 refine rvl (boolV true) (rfl) ?_
 refine c2x 43 42 true (a1A rfl) rfl rfl rfl rfl pre0 rfl rfl ?_
 refine d0X 44 42 true (a0b (id:=44) (hs:=[_,_]) ei_23.h omb rfl omb ⟨rfl,rfl,rfl,rfl,⟨rfl,rfl,rfl,rfl,trivial⟩⟩) rfl rfl rfl rfl pre0 rfl rfl (c':=c2+1) rfl ?_
 refine d0X 45 42 true (a7n (xs:=[_,_]) [(44,_)] (b7F [0,2] [0,2] (by decide) (by decide)) ⟨rfl,⟨rfl,trivial⟩⟩ ⟨(show Fz _ (a0i [0,2]) (a0i [0,2]) from Frz.fz),⟨(b7M (l:=[0,2]) (fun i hi=>by match i,hi with | 0,_=>exact .imm _ | 1,_=>exact .imm _)),trivial⟩⟩ rfl) rfl rfl rfl rfl (a0h rfl pre0) rfl rfl (c':=c2+2) rfl ?_
 refine s0 (a4w rfl rfl) ?_
 refine ru 4 ?_
 refine rt1 ?_
 exact .imm _
@[reducible] def P6:List Int:=[3,1,2,2,7,1]
theorem d2j:∀ k,priceOk P6 k=true→1≤P6.getD k 0:=fun k h=>by
 unfold priceOk at h
 simp only [Bool.and_eq_true,decide_eq_true_eq] at h
 match k,h.1.1 with
 | 0,_=>decide
 | 1,_=>decide
 | 2,_=>decide
 | 3,_=>decide
 | 4,_=>decide
 | 5,_=>decide
theorem ok6:∀ k,k < 6→priceOk P6 k=true:=fun k h=>by
 match k,h with
 | 0,_=>decide
 | 1,_=>decide
 | 2,_=>decide
 | 3,_=>decide
 | 4,_=>decide
 | 5,_=>decide
structure BestP (R:List (List Int)) (A:List Bool) (o:Wy):Prop where
 len:o.word.length≤1000
 acc:o.known=true→∃ v:Nat,runX R 0 o.word=(v:Int)∧v < R.length∧accF R A v=true
 none:A.getD 0 false=true→o.known=true∧o.word=[]∧o.price=0
 best:∀ (u:List Int) (v:Nat),(∀ s∈u,∃ k:Nat,s=(k:Int)∧k < 32∧priceOk P6 k=true)→runX R 0 u=(v:Int)→v < R.length→accF R A v=true→o.known=true∧leW o ⟨priceW P6 u,u,true⟩
theorem c7B {R:List (List Int)} {A:List Bool} {B:List Wy} (h:WaysOk R P6 0 B) (h0:0 < R.length) (hl:R.length≤1000):BestP R A (a1E B (accF R A) B.length):=by
 have hacc:(a1E B (accF R A) B.length).known=true→∃ v:Nat,wOk R P6 0 v (a1E B (accF R A) B.length)∧v < R.length∧accF R A v=true:=fun hk=>by
  obtain ⟨v,h1,h2,h3,h4⟩:=b1U B.length hk
  rw [h.len] at h1
  rw [h4];exact ⟨v,h.ok v h1 h3,h1,h2⟩
 refine ⟨Nat.le_trans (a9H h.wl _) hl,fun hk=>?_,fun ha=>?_,fun u v hu hr hv ha=>a9P h hu hr hv ha⟩
 ·obtain ⟨v,h1,h2,h3⟩:=hacc hk
  exact ⟨v,h1.1,h2,h3⟩
 ·have hb:=a9P (A:=A) h (u:=[]) (v:=0) (fun s hs=>by cases hs) rfl h0 (by unfold accF b4X;rw [ha];simp;omega)
  obtain ⟨v,h1,_,_⟩:=hacc hb.1
  have hp:=a9U d2j _ h1.2.2
  rw [←h1.2.1] at hp
  have hle:(a1E B (accF R A) B.length).price < 0∨((a1E B (accF R A) B.length).price=0∧_):=hb.2
  have hlen:(a1E B (accF R A) B.length).word.length=0:=by omega
  exact ⟨hb.1,List.eq_nil_of_length_eq_zero hlen,by omega⟩
theorem d1q {u:List Int} (h:∀ s∈u,0≤s∧s < 6):∀ s∈u,∃ k:Nat,s=(k:Int)∧k < 32∧priceOk P6 k=true:=fun s hs=>by
 have:=h s hs
 exact ⟨s.toNat,by omega,by omega,ok6 _ omo⟩
theorem c9O {l:List Int} {i:Nat} (h:i < l.length):l.take (i+1)=l.take i++[l.getD i 0]:=by
 rw [List.take_succ_eq_append_getElem h,List.getD_eq_getElem?_getD,List.getElem?_eq_getElem h];rfl
theorem d0q {R:List (List Int)} {A:List Bool} {o:Wy} (hoa:o.known=true→∃ v:Nat,runX R 0 o.word=(v:Int)∧v < R.length∧accF R A v=true) (hon:A.getD 0 false=true→o.known=true∧o.word=[]∧o.price=0) :
    (o.known&&(!(runX R 0 o.word != -1)||!(b4X R (if runX R 0 o.word=-1 then 0 else runX R 0 o.word)&&A.getD (if runX R 0 o.word=-1 then 0 else runX R 0 o.word).toNat false))||A.getD (Int.toNat 0) false&&(!o.known||((o.word.length:Nat):Int) != 0||o.price != 0))=false:=by
  have h1:(o.known&&(!(runX R 0 o.word != -1)||!(b4X R (if runX R 0 o.word=-1 then 0 else runX R 0 o.word)&&A.getD (if runX R 0 o.word=-1 then 0 else runX R 0 o.word).toNat false)))=false:=by
    cases hk:o.known with
    | false=>rfl
    | true =>
      obtain ⟨v,e1,e2,e3⟩:=hoa hk
      have e4:(b4X R (v:Int)&&A.getD ((v:Int)).toNat false)=true:=e3
      rw [e1,if_neg (show ¬ (v:Int)=-1 by omega),e4,bne_iff_ne.2 (show (v:Int)≠-1 by omega)];rfl
  have h2:(A.getD (Int.toNat 0) false&&(!o.known||((o.word.length:Nat):Int) != 0||o.price != 0))=false:=by
    cases hq:A.getD (Int.toNat 0) false with
    | false=>rfl
    | true =>
      obtain ⟨q1,q2,q3⟩:=hon hq
      rw [q1,q2,q3];rfl
  rw [h1,h2];rfl
theorem c8Z {o:Wy} {w:Wy} (hk:w.known=true) (h:leW o w):a7C w ⟨o.price,o.word,true⟩=false:=by
 unfold a7C
 rw [if_pos ⟨hk,rfl⟩,decide_eq_false_iff_not,(b1W w ⟨o.price,o.word,true⟩).2]
 exact h
theorem c8J {R:List (List Int)} {A:List Bool} {o:Wy} {w_:List Int} (hob:∀ (u:List Int) (v:Nat),(∀ s∈u,∃ k:Nat,s=(k:Int)∧k < 32∧priceOk P6 k=true)→runX R 0 u=(v:Int)→v < R.length→accF R A v=true→o.known=true∧leW o ⟨priceW P6 u,u,true⟩) (hiw:∀ s∈w_.take w_.length,0≤s∧s < 6)
  (hr5:(!(runX R 0 w_ != -1)||!(b4X R (if runX R 0 w_=-1 then 0 else runX R 0 w_)&&A.getD (if runX R 0 w_=-1 then 0 else runX R 0 w_).toNat false))=false):o.known=true∧a7C ⟨priceW P6 (w_.take w_.length),w_,true⟩ ⟨o.price,o.word,true⟩=false:=by
 rw [List.take_length] at hiw ⊢
 rw [Bool.or_eq_false_iff,Bool.not_eq_false',bne_iff_ne,Bool.not_eq_false'] at hr5
 obtain ⟨h1,h2⟩:=hr5
 rw [if_neg h1] at h2
 have h3:=h2
 rw [Bool.and_eq_true] at h3
 have h4:=h3.1
 unfold b4X at h4
 rw [Bool.and_eq_true,decide_eq_true_eq,decide_eq_true_eq] at h4
 have hv:runX R 0 w_=((runX R 0 w_).toNat:Int):=by omega
 have:=hob w_ (runX R 0 w_).toNat (d1q hiw) hv omo (by unfold accF;rw [←hv];exact h2)
 exact ⟨this.1,c8Z rfl this.2⟩
theorem b4Y (s:List UInt8) (l:List Mn) (w_:List Int) (hs:s.length≤9223372036854775807):HPure Tryz.prog 3 [strV s,mnsV l,a0i w_] (boolV true):=by
 have hn:=c1L s l hs
 refine a0l Tryz.func3 rfl kr _ _ _ rfl 150 rfl rfl (fun w F=>?_)
 refine ru 6 ?_
 rcases hn with ⟨z,hx⟩ | ⟨wd,on,β,p,e,S,R,V⟩
 ·refine ru 3 ?_
  refine cll (hx) ?_
  refine ru 30 ?_
  refine wdc (fun hr0 hc0=>?_) (fun hr0 hc0=>?_)
  ·refine ru 2 ?_
   refine cll (a7R) ?_
   refine ru 5 ?_
   refine rt1 ?_
   exact .imm _
  exfalso;simp at hr0
 ·refine ru 3 ?_
  refine cll (V.tab) ?_
  refine ru 30 ?_
  refine wdc (fun hr0 hc0=>?_) (fun hr0 hc0=>?_)
  ·refine ru 2 ?_
   refine cll (a7R) ?_
   refine ru 5 ?_
   refine rt1 ?_
   exact .imm _
  have hw60:w_.length≤60:=(by simp at hr0;omega);have hin:=c0C V.is;have hrw:=b4g V.is;have hal:=a8S p.empty p.ends S;obtain ⟨hRS,hS1,hS2,hin4⟩:=hin;have hR0:0 < R.length:=om;have hRl:R.length≤1000:=om;have hrun0:c7f R 0=0:=if_pos (by simp [b4X,hR0])
  refine ru 9 ?_
  refine wdc (fun hr1 hc1=>?_) (fun hr1 hc1=>?_)
  ·skip
   exfalso;simp at hr1
  refine ru 4 ?_
  refine a0w 45 (a0b (id:=45) (hs:=[_,_,_,_,_,_]) ei_23.h omx rfl omx ⟨rfl,rfl,rfl,rfl,⟨rfl,rfl,rfl,rfl,⟨rfl,rfl,rfl,rfl,⟨rfl,rfl,rfl,rfl,⟨rfl,rfl,rfl,rfl,⟨rfl,rfl,rfl,rfl,trivial⟩⟩⟩⟩⟩⟩) rfl rfl pre0 rfl rfl (c':=3) rfl ?_
  refine ru 7 ?_
  refine (a0V 48 [(45,_)] rfl (a0h rfl pre0) rfl ((b7M (l:=P6) (fun i hi=>by match i,hi with | 0,_=>exact .imm _ | 1,_=>exact .imm _ | 2,_=>exact .imm _ | 3,_=>exact .imm _ | 4,_=>exact .imm _ | 5,_=>exact .imm _)))).seq ?_
  refine (a0V 11 [(45,_)] rfl (a0h rfl pre0) rfl ((b7M (l:=P6) (fun i hi=>by match i,hi with | 0,_=>exact .imm _ | 1,_=>exact .imm _ | 2,_=>exact .imm _ | 3,_=>exact .imm _ | 4,_=>exact .imm _ | 5,_=>exact .imm _)))).seq ?_
  refine a0n 49 (xs:=[_,_,_]) (pre:=[]) (c5s _ R (accS p.empty p.ends S) P6 0 hrw hRl hR0 (by decide) d2j) ⟨rfl,⟨rfl,⟨rfl,trivial⟩⟩⟩ pre0 rfl rfl (fun B c1 hWB=>?_)
  (try dsimp only)
  refine ru 10 ?_
  have hbst:=c7B (A:=accS p.empty p.ends S) hWB hR0 hRl;generalize a1E B (accF R (accS p.empty p.ends S)) B.length=o at hbst ⊢;obtain ⟨hol,hoa,hon,hob⟩:=hbst
  refine ru 3 ?_
  refine cll (c5p R _ hrw 0 o.word hol) ?_
  refine ru 17 ?_
  first
  | refine stg 63 (fun hb=>a0f (xs:=[_,_]) (a9N R _ _) ⟨rfl,⟨rfl,trivial⟩⟩ ⟨(Fz.eq rfl),⟨(Fz.eq rfl),trivial⟩⟩) rfl rfl rfl rfl rfl ?_
  | refine a4M 66 4 63 60 true false _ _ (fun hb hb2=>a0f (xs:=[_,_]) (a9N R _ _) ⟨rfl,⟨rfl,trivial⟩⟩ ⟨(Fz.eq rfl),⟨(Fz.eq rfl),trivial⟩⟩) rfl rfl rfl rfl rfl pre0 rfl rfl rfl ?_
  | refine sth 63 (fun hb=>a0f (xs:=[_,_]) (a9N R _ _) ⟨rfl,⟨rfl,trivial⟩⟩ ⟨(Fz.eq rfl),⟨(Fz.eq rfl),trivial⟩⟩) rfl rfl rfl rfl rfl ?_
  refine ru 24 ?_
  refine wdc (fun hr2 hc2=>?_) (fun hr2 hc2=>?_)
  ·skip
   exfalso;have h9:=hr2;rw [hrun0] at h9;rw [d0q hoa hon] at h9;cases h9
  refine ru 17 ?_
  refine a0m (α:=Nat) (fun x c=>⟨150,[(2,.v (a0i w_)),(7,.v (tabP R (accS p.empty p.ends S))),(11,.v (a0i P6)),(12,.v (a0i o.word)),(13,.v (intV o.price)),(14,.v (boolV o.known)),(17,.v (.pt 17 c1 0 0)),(18,.v (intV (x:Int)))],[(17,⟨c1,1,3,40,0,fun _=>rwF ⟨priceW P6 (w_.take x),w_,true⟩⟩)],c⟩) (fun x=>x≤w_.length∧∀ s∈w_.take x,0≤s∧s < 6) (fun x=>w_.length - x) (0) (by exact ⟨Nat.zero_le _,fun s h=>by cases h⟩) (a0d rfl (Nat.le_refl _) tsa (a0e.cons rfl (a2o.of fun i j hi hj=>by obtain rfl:i=0:=Nat.lt_one_iff.1 hi;match j,hj with | 0,_=>exact .refl _ | 1,_=>exact .refl _ | 2,_=>exact .refl _) a0e.nil)) (fun i c hx NhL1 hL1=>?_)
  (try dsimp only at hx hL1 ⊢)
  obtain ⟨hil,hiw⟩:=hx
  refine ru 9 ?_
  refine wdc (fun hr3 hc3=>?_) (fun hr3 hc3=>?_)
  ·skip
   have hiw2:i < w_.length:=om
   refine ru 23 ?_
   refine wdc (fun hr4 hc4=>?_) (fun hr4 hc4=>?_)
   ·refine ru 2 ?_
    refine cll (a7R) ?_
    refine ru 7 ?_
    refine a0o ?_
    refine ru 2 ?_
    refine rt1 ?_
    exact .imm _
   have h6l:P6.length=6:=rfl;have hi6:0≤w_.getD i 0∧w_.getD i 0 < 6:=(by obtain ⟨q1,q2⟩:=hc4;omega);have htk:=c9O hiw2;have hpb:=a7b P6 _ (d1q hiw);have hlt6:(w_.take i).length≤60:=(by rw [List.length_take];omega);have hp7:=(a7b P6 [w_.getD i 0] (d1q (fun s hs=>by rw [List.mem_singleton.1 hs];exact hi6)));have hp8:priceW P6 [w_.getD i 0]=P6.getD (w_.getD i 0).toNat 0+0:=rfl;rw [hp8] at hp7;have hp9:((([w_.getD i 0]:List Int).length:Nat):Int)=1:=rfl;rw [hp9] at hp7
   refine ru 9 ?_
   first
   | refine a3y 118 (HOp.val (v':=intV (w_.getD i 0)) (a0t ty_3.h rfl omy omy (fun h=>(by first | rfl | cases h))) (rfl)) rfl rfl (a0K rfl) rfl rfl (k':=7) rfl ?_
   | refine a3y 118 (HOp.val (v':=intV (w_.getD i 0)) (a0j ty_3.h rfl omy (fun h=>(by first | rfl | cases h))) (rfl)) rfl rfl pre0 rfl rfl (k':=7) rfl ?_
   refine ru 1 ?_
   first
   | refine a3y 120 (HOp.val (v':=intV (P6.getD (w_.getD i 0).toNat 0)) (a0t ty_3.h rfl omy omy (fun h=>(by first | rfl | cases h))) (rfl)) rfl rfl (a0K rfl) rfl rfl (k':=9) rfl ?_
   | refine a3y 120 (HOp.val (v':=intV (P6.getD (w_.getD i 0).toNat 0)) (a0j ty_3.h rfl omy (fun h=>(by first | rfl | cases h))) (rfl)) rfl rfl pre0 rfl rfl (k':=9) rfl ?_
   refine ru 11 ?_
   exact hL1 (i+1) _ _ (by (try dsimp only);exact ⟨by omega,fun s hs=>by rw [htk] at hs;rcases List.mem_append.1 hs with h9 | h9;exact hiw s h9;rw [List.mem_singleton.1 h9];exact hi6⟩) omd (a0d rfl (Nat.le_refl _) tsa (a0e.cons rfl (a2o.of fun i' j' hi' hj'=>by obtain rfl:i'=0:=Nat.lt_one_iff.1 hi';rw [htk,a5b];match j',hj' with | 0,_=>exact .refl _ | 1,_=>exact .refl _ | 2,_=>exact .refl _) a0e.nil))
  obtain rfl:i=w_.length:=om
  refine ru 2 ?_
  refine a0c ?_
  refine ru 6 ?_
  refine cll (c5p R _ hrw 0 w_ om) ?_
  refine ru 15 ?_
  first
  | refine stg 131 (fun hb=>a0f (xs:=[_,_]) (a9N R _ _) ⟨rfl,⟨rfl,trivial⟩⟩ ⟨(Fz.eq rfl),⟨(Fz.eq rfl),trivial⟩⟩) rfl rfl rfl rfl rfl ?_
  | refine sth 131 (fun hb=>a0f (xs:=[_,_]) (a9N R _ _) ⟨rfl,⟨rfl,trivial⟩⟩ ⟨(Fz.eq rfl),⟨(Fz.eq rfl),trivial⟩⟩) rfl rfl rfl rfl rfl ?_
  refine ru 4 ?_
  refine wdc (fun hr5 hc5=>?_) (fun hr5 hc5=>?_)
  ·refine ru 2 ?_
   refine cll (a7R) ?_
   refine ru 5 ?_
   refine rt1 ?_
   exact .imm _
  refine ru 10 ?_
  first
  | refine stg 139 (fun hb=>a0f (xs:=[_,_]) (c9c ⟨priceW P6 (w_.take w_.length),w_,true⟩ ⟨o.price,o.word,true⟩ (by simpa using (by omega:w_.length≤1000000)) (by simpa using (by omega:o.word.length≤1000000))) ⟨rfl,⟨rfl,trivial⟩⟩ ⟨(.agg _ _ _ (fun j hj=>by match j,hj with | 0,_=>exact (show Fz _ (a0i w_) (a0i w_) from Frz.fz) | 1,_=>exact .imm _ | 2,_=>exact .imm _)),⟨(.agg _ _ _ (fun j hj=>by match j,hj with | 0,_=>exact (show Fz _ (a0i o.word) (a0i o.word) from Frz.fz) | 1,_=>exact .imm _ | 2,_=>exact .imm _)),trivial⟩⟩) rfl rfl rfl rfl rfl ?_
  | refine sth 139 (fun hb=>a0f (xs:=[_,_]) (c9c ⟨priceW P6 (w_.take w_.length),w_,true⟩ ⟨o.price,o.word,true⟩ (by simpa using (by omega:w_.length≤1000000)) (by simpa using (by omega:o.word.length≤1000000))) ⟨rfl,⟨rfl,trivial⟩⟩ ⟨(.agg _ _ _ (fun j hj=>by match j,hj with | 0,_=>exact (show Fz _ (a0i w_) (a0i w_) from Frz.fz) | 1,_=>exact .imm _ | 2,_=>exact .imm _)),⟨(.agg _ _ _ (fun j hj=>by match j,hj with | 0,_=>exact (show Fz _ (a0i o.word) (a0i o.word) from Frz.fz) | 1,_=>exact .imm _ | 2,_=>exact .imm _)),trivial⟩⟩) rfl rfl rfl rfl rfl ?_
  refine ru 3 ?_
  first
  | refine stg 147 (fun hb=>a0f (xs:=[]) (a7R) trivial trivial) rfl rfl rfl rfl rfl ?_
  | refine sth 147 (fun hb=>a0f (xs:=[]) (a7R) trivial trivial) rfl rfl rfl rfl rfl ?_
  refine ru 5 ?_
  refine rt1 ?_
  obtain ⟨z1,z2⟩:=c8J hob hiw (by have h9:=hr5;rw [hrun0] at h9;exact h9);exact a1V (by rw [z1,z2];rfl)
end Go.Proofs.YtkeakpcieokhhaaGreatDoor
namespace Go.Proofs.YtkeakpcieokhhaaGreatDoor
open Go.ChangeShapes Go.WideShapes Go.ChangeAt Go.RowKit Go.Deep
structure PtI where
 v:Pt
 A:Option Addr
 n:Nat
 c:Nat
def PtI.cells (x:PtI):List Value:=[.int .i64 x.v.kind,.int .i64 x.v.low,.int .i64 x.v.high,.string ⟨x.v.name.toArray⟩,.slice x.A x.n x.c]
def PtI.none:PtI:=⟨default,.none,0,0⟩
theorem PtI.cells_length (x:PtI):x.cells.length=5:=by simp [PtI.cells]
def PtI.inOk (w:World) (x:PtI):Prop:=x.v.kids.length=x.n∧Sl w w.heap.size 1 a4I x.A x.v.kids∧x.n≤x.c∧x.c≤9223372036854775807
section
variable {H:Type} {encH:TypeId×Value→H} {w:World} {base:Nat} {spare:Nat→Bool} {held:Bool}
theorem b7X {P:Program} {t e:TypeId} (ht:P.underlying t=some (.slice e)) {fuel:Nat} {v:Value} {x:DataW H×List MemPlace} (hf:DataW.trod encH P w base spare held fuel t [v]=some x):∃ A n c,v=.slice A n c:=by
 rcases open_slice ht hf with ⟨h0,_⟩ | ⟨a,len,cap,m,k,D,Pl,hcs,_⟩
 ·injection h0 with h0 _;exact ⟨_,_,_,h0⟩
 ·injection hcs with h0 _;exact ⟨_,_,_,h0⟩
end
theorem c3U (x:Int):∀ u∈a4I x,u.oneCell'=true:=by
 intro u hu
 simp only [a4I,List.mem_cons,List.not_mem_nil,or_false] at hu
 subst hu;rfl
theorem b7D {w:World} {B:Nat} {A:Option Addr} {c:Nat} {l:List Int} (h:Sl w B 1 a4I A l) (hc:l.length≤c) (hm:c≤maxLen):Rep w (Env.just (c8I w)) (.slice A l.length c) (a1x l) :=
 c4W 1 omo a4I c3U (fun x _=>intV x) 0 l hc hm h (fun i j _ hj=>by
  match j,hj with
  | 0,_=>exact .imm _)
structure MnI where
 v:Mn
 A:Option Addr
 n:Nat
 c:Nat
def MnI.cells (x:MnI):List Value:=[.string ⟨x.v.name.toArray⟩,.slice x.A x.n x.c]
def MnI.none:MnI:=⟨default,.none,0,0⟩
theorem MnI.cells_length (x:MnI):x.cells.length=2:=by simp [MnI.cells]
def MnI.inOk (w:World) (x:MnI):Prop:=x.v.on.length=x.n∧Sl w w.heap.size 1 a4I x.A x.v.on∧x.n≤x.c∧x.c≤9223372036854775807
theorem c7h (x:MnI):∀ u∈x.cells,u.oneCell'=true:=by
 intro u hu
 simp only [MnI.cells,List.mem_cons,List.not_mem_nil,or_false] at hu
 rcases hu with rfl | rfl <;> rfl
section
variable {H:Type} {encH:TypeId×Value→H} {w:World} {base:Nat} {spare:Nat→Bool} {held:Bool}
set_option maxRecDepth 100000 in
theorem d1j (m:Nat) (cs:List Value) (y:DataW H×List MemPlace) (h:DataW.trod encH Tryz.prog w base spare held m 149 cs=some y):∃ t:MnI,cs=t.cells∧t.inOk w:=by
  obtain ⟨xs,k,_,_,hlen,hxl,hx⟩:=DataW.trod_struct Tryz.underlying149 h
  have hC:Tryz.prog.cellsOf 149=2:=by kernel_rfl
  have hS:Tryz.prog.cellsOf 9=1:=by kernel_rfl
  have hK:Tryz.prog.cellsOf 23=1:=by kernel_rfl
  rw [hC] at hlen
  match cs,hlen,xs,hxl with
  | [c3, c4], _, [x3, x4], _ =>
    have f3:DataW.trod encH Tryz.prog w base spare held k 9 (([c3,c4].drop 0).take (Tryz.prog.cellsOf 9))=[x3,x4][0]?:=hx 0 _ rfl
    have f4:DataW.trod encH Tryz.prog w base spare held k 23 (([c3,c4].drop 1).take (Tryz.prog.cellsOf 23))=[x3,x4][1]?:=hx 1 _ rfl
    rw [hS] at f3
    rw [hK] at f4
    obtain ⟨b3,h3,_,_⟩:=DataW.trod_string Tryz.underlying9 f3
    simp at h3
    subst h3
    simp only [List.drop_succ_cons,List.drop_zero,List.take_succ_cons,List.take_zero] at f4
    obtain ⟨A,n,c,rfl⟩:=b7X Tryz.underlying23 f4
    obtain ⟨l,e,s,o,m',_⟩:=b5l Tryz.underlying23 1 (by kernel_rfl) omo a4I (fun a=>by simp [a4I]) c3l (c4Z Tryz.underlying3) f4
    exact ⟨⟨⟨b3.data.toList,l⟩,A,n,c⟩,rfl,e,s,o,m'⟩
end
theorem c6i {w:World} {B:Nat} {A:Option Addr} {c:Nat} {l:List MnI} (h:Sl w B 2 MnI.cells A l) (hc:l.length≤c) (hm:c≤maxLen) (hok:∀ x∈l,x.inOk w):Rep w (Env.just (c8I w)) (.slice A l.length c) (mnsV (l.map (·.v))):=by
 have key:=c4W (w:=w) 2 omo MnI.cells c7h (fun x=>mnF x.v) MnI.none l hc hm h (fun i j hi hj=>by
  have hg:l.getD i MnI.none=l[i]:=by rw [List.getD_eq_getElem?_getD,List.getElem?_eq_getElem hi];rfl
  rw [hg]
  obtain ⟨e,s,o,m⟩:=hok _ (List.getElem_mem hi)
  generalize l[i]=x at e s o m
  obtain ⟨v,A',n',c'⟩:=x
  simp only at e s o m
  subst e
  match j,hj with
  | 0,_=>exact .imm _
  | 1,_=>exact b7D s o (by unfold maxLen;omega))
 have e:mnsV (l.map (·.v))=.sl 2 l.length (fun i=>mnF (l.getD i MnI.none).v):=by
  show HV.sl 2 (l.map (·.v)).length (fun i=>mnF ((l.map (·.v)).getD i default))=_
  rw [List.length_map]
  congr 1
  funext i
  show mnF ((l.map (·.v)).getD i default)=_
  congr 1
  rw [List.getD_eq_getElem?_getD,List.getD_eq_getElem?_getD,List.getElem?_map]
  cases l[i]? <;> rfl
 rw [e];exact key
theorem b0z (W:World) (hL:LibW W) (s:ByteArray) (hs:s.size≤maxLen) (a:Option Addr) (n c:Nat) (l:List MnI) (hn:l.length=n) (sl:Sl W W.heap.size 2 MnI.cells a l) (hc:n≤c) (hm:c≤9223372036854775807) (hok:∀ x∈l,x.inOk W)
  (a2:Option Addr) (n2 c2:Nat) (l2:List Int) (hn2:l2.length=n2) (sl2:Sl W W.heap.size 1 a4I a2 l2) (hc2:n2≤c2) (hm2:c2≤9223372036854775807) (hok2:∀ x∈l2,c3l x) :
  Calls Tryz.prog 3 #[.string s,.slice a n c,.slice a2 n2 c2] W fun e w'=>e=.returned (.bool true)∧Below W.heap.size W w':=by
 subst hn;subst hn2
 have hs':s.data.toList.length≤9223372036854775807:=by have:s.size=s.data.toList.length:=rfl;rw [←this];unfold maxLen at hs;omega
 exact c4j (b4Y s.data.toList (l.map (·.v)) l2 hs') W [.string s,.slice a l.length c,.slice a2 l2.length c2] ⟨.imm _,c6i sl hc (by unfold maxLen;omega) hok,b7D sl2 hc2 (by unfold maxLen;omega),trivial⟩ hL
end Go.Proofs.YtkeakpcieokhhaaGreatDoor
namespace Go.Proofs.YtkeakpcieokhhaaGreatDoor
set_option maxRecDepth 100000
open Go.RowKit
theorem a8K {W:World} {l:List (String×DataW Unit)} (h:laidMetH Tryz.prog l W) (hl:(l.all fun x=>x.2.handleName?.isNone)=true) (n:String) (d:DataW Unit) (hf:l.filter (fun x=>x.1 == n)=[(n,d)]):laidMet Tryz.prog [(n,d)] W:=by
 rw [MakeChecks.laidMetH_plain _ _ _ hl] at h
 have:=laidMet.filter (fun x=>x.1 == n) h
 rwa [hf] at this
theorem b3r {W:World} {n:String} {name:String} {d:DataW Unit} {g:Nat} {t:TypeId} {ms:Array (String×TypeId)} (hg:Tryz.prog.globalNamed n=some g) (hty:(Tryz.prog.globals[g]?).map (·.type)=some t) (ht:Tryz.prog.underlying t=some (.interface ms))
  (h:laidMet Tryz.prog [(n,.iface name d)] W):∃ tp p,W.var? Tryz.prog n=some #[.iface tp p]:=by
 obtain ⟨ps,⟨g',t',cs,fuel,p,q,hg',ht',hvar,hd,_,_⟩,_⟩:=h
 obtain rfl:=Option.some.inj (hg.symm.trans hg')
 obtain rfl:=Option.some.inj (hty.symm.trans ht')
 obtain ⟨f1,u,v,hc,_⟩:=iface_of_trod ht hd
 refine ⟨u,v,?_⟩
 rw [hvar]
 congr 1
 apply Array.ext'
 exact hc
theorem b2K {H:Type} {enc:TypeId×Value→H} {a:Assume} {C:Checked} {os:Os} {f:FuncId} {fn:Func} {s:ChangeSpec} {conds:List PathCond} {apart fresh handsOn again:Bool} {X:World→Array Value→Prop}
  (hX:∀ (w w':World) (args:Array Value),w.heap=w'.heap→X w args→X w' args)
  (own:ownKnob C.prog.godebug=none) (started:os.Started) (noInit:C.prog.inits.idxOf? f=none) (hfn:C.prog.funcs[f]?=some fn)
  (wit:∃ (w:World) (tape:Tape) (i:Input),w.os=os∧(w.forCall tape i).Shaped C.prog∧i.vars=[]∧Input.okWide C.prog (w.forCall tape i) .any w.heap.size f i ∧
   ((s.pre enc C.prog fn conds apart (w.forCall tape i).memory i.args∧X (w.forCall tape i).memory i.args)∧sizedMet enc C.prog fn (OpenSpec.ofChange s) apart (w.forCall tape i).memory i.args)∧a.holds C.prog (lone (Frame.enter C.prog f i.args .normal) [] (w.forCall tape i)))
  (con:∀ (W:World) (base:Nat) (args:Array Value) (ds gs:List (DataW H)) (before:List MemPlace),
   (∀ (j:Nat) t v,fn.params[j]?=some t→args[j]?=some v→Value.okWide C.prog W .any base t v) →
   DataW.Whole enc C.prog fn.params.toList s.vars apart W args.toList ds gs before →
   conds.all (PathCond.test C.prog ⟨fn.params.toList,ds,s.plain.varTypes C.prog,gs⟩)=true→X W args→W.ShapedOpen C.prog →
   Calls C.prog f args W fun e W'=>∃ v,e=.returned v∧s.post enc C.prog fn apart fresh handsOn again W args v W') :
  ReturnsInHanded a C os f .any (fun w args=>(s.pre enc C.prog fn conds apart w args∧X w args)∧sizedMet enc C.prog fn (OpenSpec.ofChange s) apart w args) (s.post enc C.prog fn apart fresh handsOn again):=by
 refine returnsInHanded_of_calls own started noInit wit fun w tape i _ hsh _ hok hpre _=>?_
 obtain ⟨_,_,_,fn',hfn',_,_,_,_,hval⟩:=hok
 obtain rfl:fn'=fn:=Option.some.inj (hfn'.symm.trans hfn)
 obtain ⟨⟨⟨ds,gs,before,hw,hc⟩,hx⟩,_⟩:=hpre
 refine (con (w.forCall tape i) w.heap.size i.args ds gs before hval (DataW.Whole.of_heap (w':=w.forCall tape i) (by rfl) hw) hc (hX _ _ _ (by rfl) hx) hsh).mono fun e W' ⟨v,he,hp⟩=>?_
 subst he
 exact ChangeSpec.post_blind hp
theorem c9m {W:World} (hs:W.ShapedOpen Tryz.prog):∃ m,W.cell? ⟨1,0,none⟩=some (.int .i64 m) :=
 cell_of_shapedOpen_int (zero:=#[.int .i64 0]) (t:=3) (k:=.i64) hs (of_decide_eq_true (by kernel_rfl)) (by kernel_rfl) rfl (by kernel_rfl) (by kernel_rfl) Tryz.underlying3
theorem c5W {W:World} {l:List (String×DataW Unit)} (hs:W.ShapedOpen Tryz.prog) (h:laidMetH Tryz.prog l W) (hl:(l.all fun x=>x.2.handleName?.isNone)=true)
  (h1:l.filter (fun x=>x.1 == "internal/strconv.uint64pow10")=[("internal/strconv.uint64pow10", Rows.laid_internal_strconv_uint64pow10)])
  (h2:l.filter (fun x=>x.1 == "strconv.ErrSyntax")=[("strconv.ErrSyntax", Rows.laid_strconv_ErrSyntax)])
  (h3:l.filter (fun x=>x.1 == "strconv.ErrRange")=[("strconv.ErrRange", Rows.laid_strconv_ErrRange)])
  (h4:l.filter (fun x=>x.1 == "math/bits.deBruijn64tab")=[("math/bits.deBruijn64tab", Rows.laid_math_bits_deBruijn64tab)]):LibW W:=by
 have t:=a8K h hl _ _ h1
 have a:=a8K h hl _ _ h2
 have b:=a8K h hl _ _ h3
 have t4:=a8K h hl _ _ h4
 have t4':Lib.TabIs Tryz.prog W "math/bits.deBruijn64tab" .u8 (Lib.deBruijn64tab.map (fun n:Nat=>(n:Int))) :=
  Lib.tabIs_of_head (zs:=Lib.deBruijn64tab.map (fun n:Nat=>(n:Int))) (k:=.u8) (g:=0) (t:=196) (e:=5) (n:=64) (by kernel_rfl) (by kernel_rfl) Tryz.underlying196 Tryz.underlying5 (by kernel_rfl) (by kernel_rfl) t4
 have t':Lib.TabIs Tryz.prog W "internal/strconv.uint64pow10" .u64 Lib.pow10Tab :=
  Lib.tabIs_of_head (zs:=Lib.pow10Tab) (k:=.u64) (g:=4) (t:=250) (e:=69) (n:=20) (by kernel_rfl) (by kernel_rfl) Tryz.underlying250 Tryz.underlying69 (by kernel_rfl) (by kernel_rfl) t
 have a':=b3r (g:=2) (t:=221) (by kernel_rfl) (by kernel_rfl) Tryz.underlying221 a
 have b':=b3r (g:=3) (t:=221) (by kernel_rfl) (by kernel_rfl) Tryz.underlying221 b
 have lt:∀ {n:String} {g:Nat} {x:Array Value},Tryz.prog.globalNamed n=some g→W.var? Tryz.prog n=some x→g < W.heap.size:=by
  intro n g x hg hv
  unfold World.var? at hv
  rw [hg] at hv
  simp only [Option.bind_some] at hv
  rcases Nat.lt_or_ge g W.heap.size with h | h
  ·exact h
  ·rw [Array.getElem?_eq_none h] at hv;cases hv
 have m':=c9m hs
 refine ⟨fun k hk=>?_,fun _=>t',fun _=>a',fun _=>b',fun g hg=>by
  obtain rfl:=Option.some.inj ((show Tryz.prog.globalNamed "internal/bytealg.MaxLen" = some 1 by kernel_rfl).symm.trans hg)
  exact m',fun _=>t4'⟩
 obtain ⟨n,hn,hg⟩:=hk
 simp only [a3D,List.mem_cons,List.not_mem_nil,or_false] at hn
 rcases hn with rfl | rfl | rfl | rfl | rfl
 ·exact lt hg t'
 ·obtain ⟨_,_,a'⟩:=a';exact lt hg a'
 ·obtain ⟨_,_,b'⟩:=b';exact lt hg b'
 ·obtain rfl:=Option.some.inj ((show Tryz.prog.globalNamed "internal/bytealg.MaxLen" = some 1 by kernel_rfl).symm.trans hg)
  obtain ⟨m,hm⟩:=m'
  exact World.block_lt_of_cell? W _ hm
 ·exact lt hg t4'
theorem c7U {W:World} (hs:W.ShapedOpen Tryz.prog) (h:laidMetH Tryz.prog Rows.leastBestRow.laid W):LibW W:=c5W hs h (by kernel_rfl) (by kernel_rfl) (by kernel_rfl) (by kernel_rfl) (by kernel_rfl)
end Go.Proofs.YtkeakpcieokhhaaGreatDoor
