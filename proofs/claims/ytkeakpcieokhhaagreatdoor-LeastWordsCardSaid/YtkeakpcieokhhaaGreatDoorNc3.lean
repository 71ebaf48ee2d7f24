/-
  The document's reader of expressions: the parts of a stretch.
-/
import Derived.Test.YtkeakpcieokhhaaGreatDoorEx4
import Derived.Test.YtkeakpcieokhhaaGreatDoorHq
set_option linter.unusedSimpArgs false
set_option linter.unusedVariables false
namespace Go.Proofs.YtkeakpcieokhhaaGreatDoor
section
open Go.RowKit
set_option maxRecDepth 100000
set_option maxHeartbeats 4000000
@[reducible] def d2q (g:Nat) (l:List Pt):HObj:=⟨g,l.length,5,91,0,c6F l⟩
@[reducible] def BdP (o:List Pt):HEnd→List (Nat×HObj)→Nat→Prop:=a4Q (fun (_:Nat) _=>True) (fun g'=>.os 9003 g' 0 o.length) (fun g'=>[(9003,d2q g' o)])
@[reducible] def BdC (l:List Sg) (p q:Nat) (t:T):Prop:=∀ c g (out:List Pt),out.length≤2 * p→a2y Tryz.prog 63 c [.os 9003 g 0 out.length,a7Q l,intV p,intV q] [(9003,d2q g out)] (BdP (out++T.flat out.length t))
theorem b8K {kp sh:List (Nat×HObj)} {id g lo n n':Nat} {o:HObj} (h:hget kp id=some o) (hg:o.g=g) (hn:n=n'):Kz kp sh (.os id g lo n) (.os id g lo n'):=by subst hn;exact .os _ _ _ _ _ h hg
theorem a8Z {kp sh:List (Nat×HObj)} {o o':List Pt} {x:Pt} {g n ty:Nat} {f:Nat→Nat→HV} (hn:n=o.length) (ho:o++[x]=o') (h:∀ j,j < 5→Fz sh (f 0 j) (ptF x j)):OKz kp sh ⟨g,n+1,5,ty,0,cat n (c6F o) f⟩ ⟨g,o'.length,5,ty,0,c6F o'⟩:=by
 subst hn;subst ho
 refine ⟨rfl,by simp,rfl,rfl,Nat.le_refl _,fun i j hi hj=>.fz _ _ ?_,fun h=>absurd h (Nat.not_lt_zero _)⟩
 show Fz sh (cat o.length (c6F o) f i j) (ptF ((o++[x]).getD i default) j)
 by_cases h':i < o.length
 ·rw [a6B h',a5a h'];exact b3c _ j
 ·have hi':i=o.length:=by simp only at hi;omega
  subst hi'
  rw [a5O lrf,Nat.sub_self,a2z];exact h j hj
theorem c4h {sh:List (Nat×HObj)} {x:Pt} {f:Nat→HV} (h0:Fz sh (f 0) (ptF x 0)) (h1:Fz sh (f 1) (ptF x 1)) (h2:Fz sh (f 2) (ptF x 2)) (h3:Fz sh (f 3) (ptF x 3)) (h4:Fz sh (f 4) (ptF x 4)):∀ j,j < 5→Fz sh (f j) (ptF x j):=fun j hj=>by
 match j,hj with
 | 0,_=>exact h0
 | 1,_=>exact h1
 | 2,_=>exact h2
 | 3,_=>exact h3
 | 4,_=>exact h4
theorem b9D {sh:List (Nat×HObj)} {id g ty fl n:Nat} {ks:List Int} (hn:n=ks.length):Fz ((id,⟨g,n,1,ty,fl,a4S ks⟩)::sh) (.os id g 0 n) (a2k ks) :=
 a2v (l:=ks) (enc:=fun x _=>intV x) (d:=0) (List.mem_cons_self ..) rfl hn lrf (fun i j hi hj=>.imm _)
theorem c2b {l:List Sg} {q':Nat} {x:Int} (h:x=(q':Int)) (hq:q' < l.length):c6x l x.toNat 0=intV (kd l q'):=by rw [h,Int.toNat_natCast,b0K hq];rfl
@[reducible] def b8z (k:Int) (gk n:Nat):Nat→Nat→HV:=fun _ j=>match j with | 0=>intV k | 1=>intV 0 | 2=>intV 0 | 3=>strV [] | _=>.os 7001 gk 0 n
theorem c2o {g ty fl:Nat} {f f':Nat→Nat→HV} (h0:Sb (f 0 0) (f' 0 0)) (h1:Sb (f 0 1) (f' 0 1)) (h2:Sb (f 0 2) (f' 0 2)) (h3:Sb (f 0 3) (f' 0 3)) (h4:Sb (f 0 4) (f' 0 4)) (hfn:fl≤1:=by exact Nat.zero_le _):a2m ⟨g,1,5,ty,fl,f⟩ ⟨g,1,5,ty,fl,f'⟩:=.of (hfn:=hfn) fun i j hi hj=>by
 obtain rfl:i=0:=by omega
 match j,hj with | 0,_=>exact h0 | 1,_=>exact h1 | 2,_=>exact h2 | 3,_=>exact h3 | 4,_=>exact h4
theorem a3y {B:List Int} {i j:Nat} {x:Int} (hj:j=i) (h:B.getD i 0=x):ldv false 1 (a4S B j) 0=intV x:=by subst hj;show intV (B.getD j 0)=_;rw [h]
theorem a4H {ts:List T} {i:Nat} (h:i < ts.length):ts.take (i+1)=ts.take i++[ts.getD i default]:=by
 rw [List.take_add_one,List.getD_eq_getElem?_getD,List.getElem?_eq_getElem h];rfl
structure KidI (ts:List T) (out:List Pt) (i:Nat) (o:List Pt) (ks:List Int):Prop where
 le:i≤ts.length
 eo:o=out++T.flatL out.length (ts.take i)
 ek:ks=rootsL out.length (ts.take i)
theorem b2K {ts:List T} {out o:List Pt} {i:Nat} {ks:List Int} (h:KidI ts out i o ks) (hi:i < ts.length):KidI ts out (i+1) (o++T.flat o.length (ts.getD i default)) (ks++[T.root o.length (ts.getD i default)]):=by
 have hl:o.length=out.length+T.sizeL (ts.take i):=by rw [h.eo,List.length_append,T.flatL_len]
 refine ⟨hi,?_,?_⟩
 ·rw [a4H hi,T.flatL_snoc,hl,h.eo,List.append_assoc]
 ·rw [a4H hi,a4f,hl,h.ek]
theorem c1Y {ts:List T} {out o:List Pt} {i:Nat} {ks:List Int} (h:KidI ts out i o ks):o.length=out.length+T.sizeL (ts.take i)∧ks.length=i:=by
 refine ⟨by rw [h.eo,List.length_append,T.flatL_len],?_⟩
 rw [h.ek,a0M,List.length_take];have:=h.le;omega
theorem a8V {ts:List T} {out o:List Pt} {i:Nat} {ks:List Int} {k:Int} (h:KidI ts out i o ks) (hi:i=ts.length):o++[⟨k,0,0,[],ks⟩]=out++T.flat out.length (.many k ts):=by
 have h1:=h.eo;have h2:=h.ek
 rw [hi,List.take_length] at h1 h2
 rw [h1,h2];simp [T.flat]
structure Cuts (l:List Sg) (B:List Int) (m p q:Nat) (ts:List T) (s e:Nat→Nat):Prop where
 hlen:B.length=m+1
 hm:m=ts.length
 htwo:2≤m
 hmb:m≤2000
 hat:∀ i,i < m→B.getD i 0=(s i:Int)
 hle:∀ i,i < m→s i≤e i∧e i≤l.length
 hout:∀ i,i < m→T.sizeL (ts.take i)+2 * p≤2 * s i
 hsz:∀ i,i < m→(ts.getD i default).size+2 * s i≤2 * e i
 hall:T.sizeL ts+2 * p≤2 * q
theorem c9o (l:List Sg) (p q:Nat) (hl:l.length≤1000) (h1:kd l p=1) (hq:q=p+1) (hql:q≤l.length) (hpq:p≤q) {v:Nat} (hv:v≤1) (hsg:Seg l v p q (.name (l.getD p default).name)):BdC l p q (.name (l.getD p default).name):=by
 intro c g out ho
 obtain ⟨cb,hcb⟩:∃ cb,cb=c:=⟨_,rfl⟩
 subst hcb
 refine a0p Tryz.func63 rfl kr _ _ _ _ rfl 126 rfl rfl (fun X ok hX=>?_)
 refine ru 12 ?_
 refine a5X 3 ?_
 refine a3t (fun NhU1 hU1=>?_)
 refine ru 7 ?_
 refine wdc (fun hr0 hc0=>?_) (fun hr0 hc0=>?_)
 ·refine ru 10 ?_
  refine cll ((show HPure Tryz.prog 102 [a7Q l,intV p,intV q,intV 3] (a2k [(p:Int),(q:Int)]) from (by rw [←a4M hsg hv];exact a7H l p q 3 hl hql hpq))) ?_
  refine ru 11 ?_
  refine wdc (fun hr1 hc1=>?_) (fun hr1 hc1=>?_)
  ·refine ru 9 ?_
   refine hU1 _ ?_
   refine a3t (fun NhU2 hU2=>?_)
   refine ru 7 ?_
   refine wdc (fun hr0 hc0=>?_) (fun hr0 hc0=>?_)
   ·refine ru 10 ?_
    refine cll ((show HPure Tryz.prog 102 [a7Q l,intV p,intV q,intV 2] (a2k [(p:Int),(q:Int)]) from (by rw [←a4M hsg hv];exact a7H l p q 2 hl hql hpq))) ?_
    refine ru 11 ?_
    refine wdc (fun hr1 hc1=>?_) (fun hr1 hc1=>?_)
    ·refine ru 9 ?_
     refine hU2 _ ?_
     refine a3t (fun NhU3 hU3=>?_)
     refine ru 7 ?_
     refine wdc (fun hr0 hc0=>?_) (fun hr0 hc0=>?_)
     ·skip
      exfalso;simp at hr0
     refine ru 2 ?_
     refine a0c ?_
     refine ru 11 ?_
     refine rvl (intV (kd l p)) (c2b om om) ?_
     refine ru 3 ?_
     refine wdc (fun hr4 hc4=>?_) (fun hr4 hc4=>?_)
     ·skip
      exfalso;omega
     refine ru 10 ?_
     refine rvl (intV (kd l p)) (c2b om om) ?_
     refine ru 3 ?_
     refine wdc (fun hr5 hc5=>?_) (fun hr5 hc5=>?_)
     ·skip
      exfalso;omega
     refine ru 11 ?_
     refine a0y 124 (a0d (id:=124) (hs:=[_]) ei_52.h omx rfl omx ⟨rfl,rfl,rfl,rfl,trivial⟩) rfl rfl pre0 rfl rfl (c':=cb+1) rfl ?_
     first
     | refine a0y 125 (a0a ei_52.h omy rfl omy omy (a0D rfl omy) omy rfl) rfl rfl (a0h rfl (a0L rfl)) rfl rfl (c':=cb+2) rfl ?_
     | refine a0y 125 (a0a ei_52.h omy rfl omy omy (a1a rfl omy) omy rfl) rfl rfl (a0h rfl (a0L rfl)) rfl rfl (c':=cb+2) rfl ?_
     | refine a0y 125 (a0a ei_52.h omy rfl omy omy (a0Y rfl) omy rfl) rfl rfl (a0h rfl pre0) rfl rfl (c':=cb+2) rfl ?_
     | refine a0y 125 (a0a ei_52.h omy rfl omy omy (a0G 5 (fun _ _=>default) rfl) omy rfl) rfl rfl (a0h rfl pre0) rfl rfl (c':=cb+2) rfl ?_
     refine ru 4 ?_
     refine fr1 ok hX rw1 (_) (trivial) (b8K rfl rfl (by simp [T.flat])) ?_
     exact ⟨⟨_,rfl,a8Z (o:=out) (x:=⟨1,0,0,(l.getD p default).name,[]⟩) rfl (by simp [T.flat]) (c4h (.imm _) (.imm _) (.imm _) (.imm _) (.nil 0 1 _ dcd none))⟩,trivial⟩
    exfalso;simp at hr1
   exfalso;simp at hr0
  exfalso;simp at hr1
 exfalso;simp at hr0
theorem c4O (l:List Sg) (p q:Nat) (hl:l.length≤1000) (q':Nat) (t:T) (h2:kd l p=2) (h3:kd l q'=3) (hpq1:p+1 < q') (hq:q=q'+1) (hql:q≤l.length) (hpq:p≤q) {v:Nat} (hv:v≤1) (hsg:Seg l v p q t) (ih:BdC l (p+1) q' t):BdC l p q t:=by
 intro c g out ho
 obtain ⟨cb,hcb⟩:∃ cb,cb=c:=⟨_,rfl⟩
 subst hcb
 refine a0p Tryz.func63 rfl kr _ _ _ _ rfl 126 rfl rfl (fun X ok hX=>?_)
 refine ru 12 ?_
 refine a5X 3 ?_
 refine a3t (fun NhU1 hU1=>?_)
 refine ru 7 ?_
 refine wdc (fun hr0 hc0=>?_) (fun hr0 hc0=>?_)
 ·refine ru 10 ?_
  refine cll ((show HPure Tryz.prog 102 [a7Q l,intV p,intV q,intV 3] (a2k [(p:Int),(q:Int)]) from (by rw [←a4M hsg hv];exact a7H l p q 3 hl hql hpq))) ?_
  refine ru 11 ?_
  refine wdc (fun hr1 hc1=>?_) (fun hr1 hc1=>?_)
  ·refine ru 9 ?_
   refine hU1 _ ?_
   refine a3t (fun NhU2 hU2=>?_)
   refine ru 7 ?_
   refine wdc (fun hr0 hc0=>?_) (fun hr0 hc0=>?_)
   ·refine ru 10 ?_
    refine cll ((show HPure Tryz.prog 102 [a7Q l,intV p,intV q,intV 2] (a2k [(p:Int),(q:Int)]) from (by rw [←a4M hsg hv];exact a7H l p q 2 hl hql hpq))) ?_
    refine ru 11 ?_
    refine wdc (fun hr1 hc1=>?_) (fun hr1 hc1=>?_)
    ·refine ru 9 ?_
     refine hU2 _ ?_
     refine a3t (fun NhU3 hU3=>?_)
     refine ru 7 ?_
     refine wdc (fun hr0 hc0=>?_) (fun hr0 hc0=>?_)
     ·skip
      exfalso;simp at hr0
     refine ru 2 ?_
     refine a0c ?_
     refine ru 11 ?_
     refine rvl (intV (kd l q')) (c2b om om) ?_
     refine ru 3 ?_
     refine wdc (fun hr4 hc4=>?_) (fun hr4 hc4=>?_)
     ·skip
      exfalso;omega
     refine ru 10 ?_
     refine rvl (intV (kd l p)) (c2b om om) ?_
     refine ru 3 ?_
     refine wdc (fun hr5 hc5=>?_) (fun hr5 hc5=>?_)
     ·refine ru 6 ?_
      refine rvl (intV ((p+1:Nat):Int)) (rfl) ?_
      refine ru 2 ?_
      refine rvl (intV (q':Int)) (by rw [show (q:Int) - 1=(q':Int) by omega]) ?_
      refine a0n 116 (xs:=[_,_,_,_]) (pre:=[(9003,_)]) (ih _ g out om) ⟨rfl,⟨rfl,⟨rfl,⟨rfl,trivial⟩⟩⟩⟩ (a0h rfl pre0) rfl rfl (fun g3 c1 hx1=>?_)
      (try dsimp only)
      refine ru 5 ?_
      refine fr1 ok hX rw1 (g3) (trivial) (kza) ?_
      exact ⟨⟨_,rfl,.of (fun i j _ _=>.fz _ _ (b3c _ j))⟩,trivial⟩
     exfalso;omega
    exfalso;simp at hr1
   exfalso;simp at hr0
  exfalso;simp at hr1
 exfalso;simp at hr0
theorem c4o (l:List Sg) (p q:Nat) (hl:l.length≤1000) (q':Nat) (t:T) (h5:kd l q'=5) (hs0:Seg l 0 p q' t) (hpq1:p < q') (hq:q=q'+1) (hql:q≤l.length) (hpq:p≤q) {v:Nat} (hv:v≤1) (hsg:Seg l v p q (.times (l.getD q' default).low (l.getD q' default).high t)) (ih:BdC l p q' t):BdC l p q (.times (l.getD q' default).low (l.getD q' default).high t):=by
 intro c g out ho
 obtain ⟨cb,hcb⟩:∃ cb,cb=c:=⟨_,rfl⟩
 subst hcb
 refine a0p Tryz.func63 rfl kr _ _ _ _ rfl 126 rfl rfl (fun X ok hX=>?_)
 refine ru 12 ?_
 refine a5X 3 ?_
 refine a3t (fun NhU1 hU1=>?_)
 refine ru 7 ?_
 refine wdc (fun hr0 hc0=>?_) (fun hr0 hc0=>?_)
 ·refine ru 10 ?_
  refine cll ((show HPure Tryz.prog 102 [a7Q l,intV p,intV q,intV 3] (a2k [(p:Int),(q:Int)]) from (by rw [←a4M hsg hv];exact a7H l p q 3 hl hql hpq))) ?_
  refine ru 11 ?_
  refine wdc (fun hr1 hc1=>?_) (fun hr1 hc1=>?_)
  ·refine ru 9 ?_
   refine hU1 _ ?_
   refine a3t (fun NhU2 hU2=>?_)
   refine ru 7 ?_
   refine wdc (fun hr0 hc0=>?_) (fun hr0 hc0=>?_)
   ·refine ru 10 ?_
    refine cll ((show HPure Tryz.prog 102 [a7Q l,intV p,intV q,intV 2] (a2k [(p:Int),(q:Int)]) from (by rw [←a4M hsg hv];exact a7H l p q 2 hl hql hpq))) ?_
    refine ru 11 ?_
    refine wdc (fun hr1 hc1=>?_) (fun hr1 hc1=>?_)
    ·refine ru 9 ?_
     refine hU2 _ ?_
     refine a3t (fun NhU3 hU3=>?_)
     refine ru 7 ?_
     refine wdc (fun hr0 hc0=>?_) (fun hr0 hc0=>?_)
     ·skip
      exfalso;simp at hr0
     refine ru 2 ?_
     refine a0c ?_
     refine ru 11 ?_
     refine rvl (intV (kd l q')) (c2b om om) ?_
     refine ru 3 ?_
     refine wdc (fun hr4 hc4=>?_) (fun hr4 hc4=>?_)
     ·refine ru 7 ?_
      refine rvl (intV (q':Int)) (by rw [show (q:Int) - 1=(q':Int) by omega]) ?_
      refine a0n 83 (xs:=[_,_,_,_]) (pre:=[(9003,_)]) (ih _ g out ho) ⟨rfl,⟨rfl,⟨rfl,⟨rfl,trivial⟩⟩⟩⟩ (a0h rfl pre0) rfl rfl (fun g3 c1 hx1=>?_)
      (try dsimp only)
      refine ru 4 ?_
      have hfl:=T.flat_len out.length t;have hsz:=a3E hs0;have hol:(out++T.flat out.length t).length=out.length+t.size:=(by rw [List.length_append,hfl])
      refine ru 7 ?_
      first
      | refine a3d 90 (HOp.val (v':=intV (l.getD q' default).low) (a0r ty_3.h rfl omy omy (fun h=>(by first | rfl | cases h))) (by rw [show ((q:Int) - 1).toNat=q' by omega];rfl)) rfl rfl (a0L rfl) rfl rfl (k':=7) rfl ?_
      | refine a3d 90 (HOp.val (v':=intV (l.getD q' default).low) (a0j ty_3.h rfl omy (fun h=>(by first | rfl | cases h))) (by rw [show ((q:Int) - 1).toNat=q' by omega];rfl)) rfl rfl pre0 rfl rfl (k':=7) rfl ?_
      refine ru 5 ?_
      first
      | refine a3d 96 (HOp.val (v':=intV (l.getD q' default).high) (a0r ty_3.h rfl omy omy (fun h=>(by first | rfl | cases h))) (by rw [show ((q:Int) - 1).toNat=q' by omega];rfl)) rfl rfl (a0L rfl) rfl rfl (k':=13) rfl ?_
      | refine a3d 96 (HOp.val (v':=intV (l.getD q' default).high) (a0j ty_3.h rfl omy (fun h=>(by first | rfl | cases h))) (by rw [show ((q:Int) - 1).toNat=q' by omega];rfl)) rfl rfl pre0 rfl rfl (k':=13) rfl ?_
      refine ru 3 ?_
      refine a2x 100 (a0d (id:=100) (hs:=[_]) ei_23.h omx rfl omx ⟨rfl,rfl,rfl,rfl,trivial⟩) rfl rfl pre0 rfl rfl (k':=17) rfl ?_
      refine ru 1 ?_
      refine a2x 102 (a0d (id:=102) (hs:=[_]) ei_52.h omx rfl omx ⟨rfl,rfl,rfl,rfl,trivial⟩) rfl rfl pre0 rfl rfl (k':=19) rfl ?_
      first
      | refine a2x 103 (a0a ei_52.h omy rfl omy omy (a0D rfl omy) omy rfl) rfl rfl (a0h rfl (a0L rfl)) rfl rfl (k':=20) rfl ?_
      | refine a2x 103 (a0a ei_52.h omy rfl omy omy (a1a rfl omy) omy rfl) rfl rfl (a0h rfl (a0L rfl)) rfl rfl (k':=20) rfl ?_
      | refine a2x 103 (a0a ei_52.h omy rfl omy omy (a0Y rfl) omy rfl) rfl rfl (a0h rfl pre0) rfl rfl (k':=20) rfl ?_
      | refine a2x 103 (a0a ei_52.h omy rfl omy omy (a0G 5 (fun _ _=>default) rfl) omy rfl) rfl rfl (a0h rfl pre0) rfl rfl (k':=20) rfl ?_
      refine ru 5 ?_
      refine a1j ok hX a2j.one rfl (a0f rfl) [(100,_)] rfl (a0h rfl pre0) (_) (trivial) (by rfl) (by rfl) (b8K rfl rfl (by first | (simp [T.flat];done) | (simp [T.flat];omega))) ?_
      exact ⟨⟨_,rfl,a8Z (o:=out++T.flat out.length t) (x:=⟨4,(l.getD q' default).low,(l.getD q' default).high,[],[((out.length+t.size:Nat):Int) - 1]⟩) rfl (by first | (simp only [T.flat,List.append_assoc];done) | (simp [T.flat];done) | rfl) (c4h (.imm _) (.imm _) (.imm _) (.imm _) (a2v (l:=[((out.length+t.size:Nat):Int) - 1]) (enc:=fun x _=>intV x) (d:=0) (List.mem_cons_self ..) rfl rfl lrf (fun i j hi hj=>by obtain rfl:i=0:=(by simpa using hi);exact a7A (by rw [List.length_append,hfl];rfl))))⟩,trivial⟩
     exfalso;omega
    exfalso;simp at hr1
   exfalso;simp at hr0
  exfalso;simp at hr1
 exfalso;simp at hr0
theorem d0Q (l:List Sg) (p q:Nat) (hl:l.length≤1000) (ts:List T) (B:List Int) (m:Nat) (s e:Nat→Nat) (hC:Cuts l B m p q ts s e) (hql:q≤l.length) (hpq:p≤q) (ih:∀ i,i < ts.length→BdC l (s i) (e i) (ts.getD i default)) (hsg:Seg l 2 p q (.many 2 ts)) (hB:B=a3F l p q 2 p [(p:Int)]++[(q:Int)]) (hend:∀ i,i < m→B.getD (i+1) 0=(e i:Int)):BdC l p q (.many 2 ts):=by
 intro c g out ho
 obtain ⟨cb,hcb⟩:∃ cb,cb=c:=⟨_,rfl⟩
 subst hcb
 have hCl:=hC.hlen
 have hCm:=hC.hm
 have hC2:=hC.htwo
 have hCb:=hC.hmb
 refine a0p Tryz.func63 rfl kr _ _ _ _ rfl 126 rfl rfl (fun X ok hX=>?_)
 refine ru 12 ?_
 refine a5X 3 ?_
 refine a3t (fun NhU1 hU1=>?_)
 refine ru 7 ?_
 refine wdc (fun hr0 hc0=>?_) (fun hr0 hc0=>?_)
 ·refine ru 10 ?_
  refine cll ((show HPure Tryz.prog 102 [a7Q l,intV p,intV q,intV 3] (a2k [(p:Int),(q:Int)]) from (by rw [←c0B hsg];exact a7H l p q 3 hl hql hpq))) ?_
  refine ru 11 ?_
  refine wdc (fun hr1 hc1=>?_) (fun hr1 hc1=>?_)
  ·refine ru 9 ?_
   refine hU1 _ ?_
   refine a3t (fun NhU2 hU2=>?_)
   refine ru 7 ?_
   refine wdc (fun hr0 hc0=>?_) (fun hr0 hc0=>?_)
   ·refine ru 10 ?_
    refine cll ((show HPure Tryz.prog 102 [a7Q l,intV p,intV q,intV 2] (a2k B) from (by rw [hB];exact a7H l p q 2 hl hql hpq))) ?_
    refine ru 11 ?_
    refine wdc (fun hr1 hc1=>?_) (fun hr1 hc1=>?_)
    ·skip
     exfalso;omega
    refine ru 17 ?_
    refine (a1N 11 4 7001 1 3 (a4S []) (b8z 2 (cb+2) 0) rfl rfl (fun j hj=>by match j,hj with | 0,_=>exact .inr rfl | 1,_=>exact .inr rfl | 2,_=>exact .inr rfl | 3,_=>exact .inr rfl | 4,_=>exact .inl ⟨rfl,rfl⟩) dcd dcd (c':=cb+3) rfl).wp ?_
    refine a0l (α:=Nat×List Pt×List Int×Nat×Nat) (fun x c=>⟨126,[(0,.v (.os 9003 x.2.2.2.1 0 x.2.1.length)),(1,.v (a7Q l)),(2,.v (intV p)),(3,.v (intV q)),(9,.v (intV 2)),(10,.v (a2k B)),(11,.v (.pt 11 cb 0 0)),(12,.v (intV x.1))],[(9003,d2q x.2.2.2.1 x.2.1),(11,⟨cb,1,5,91,0,b8z 2 x.2.2.2.2 x.2.2.1.length⟩),(7001,⟨x.2.2.2.2,x.2.2.1.length,1,3,0,a4S x.2.2.1⟩)],c⟩) (fun x=>KidI ts out x.1 x.2.1 x.2.2.1) (fun x=>m - x.1) ((0,out,[],g,cb+2)) (by exact ⟨Nat.zero_le _,by simp [T.flatL],rfl⟩) (a0b rfl lrf tsa (hsr rfl (a0g.cons rfl (by exact c2o (.refl _) (.refl _) (.refl _) (.refl _) (.refl _)) hsa))) (fun x c hx NhL3 hL3=>?_)
    revert hx hL3;obtain ⟨i,o,ks,gg,gk⟩:=x;intro hx hL3;dsimp only at hx hL3 ⊢
    obtain ⟨hI1,hI2,hI3⟩:=hx
    have hI:KidI ts out i o ks:=⟨hI1,hI2,hI3⟩;have hkl:=c1Y hI
    refine ru 10 ?_
    refine wdc (fun hr2 hc2=>?_) (fun hr2 hc2=>?_)
    ·skip
     have him:i < ts.length:=om;have hin:=hC.hle i om;have hou:=hC.hout i om;have hsz:=hC.hsz i om
     refine ru 11 ?_
     refine rvl (intV (e i:Int)) (by exact a3y om (hend i om)) ?_
     refine ru 17 ?_
     refine wdc (fun hr3 hc3=>?_) (fun hr3 hc3=>?_)
     ·skip
      exfalso;simp at hr3
     refine ru 10 ?_
     refine rvl (intV (s i:Int)) (by exact a3y om (hC.hat i om)) ?_
     refine ru 1 ?_
     refine a0n 58 (xs:=[_,_,_,_]) (pre:=[(9003,_)]) (ih i him _ gg o om) ⟨rfl,⟨rfl,⟨rfl,⟨rfl,trivial⟩⟩⟩⟩ (a0h rfl pre0) rfl rfl (fun g3 c1 hx1=>?_)
     (try dsimp only)
     refine ru 3 ?_
     have hol:(o++T.flat o.length (ts.getD i default)).length=o.length+(ts.getD i default).size:=(by rw [List.length_append,T.flat_len])
     refine ru 6 ?_
     refine a0y 64 (a0d (id:=64) (hs:=[_]) ei_23.h omx rfl omx ⟨rfl,rfl,rfl,rfl,trivial⟩) rfl rfl pre0 rfl rfl (c':=c1+1) rfl ?_
     first
     | refine a0y 65 (a0a ei_23.h omy rfl omy omy (a0D rfl omy) omy rfl) rfl rfl (a0h rfl (a0L rfl)) rfl rfl (c':=c1+2) rfl ?_
     | refine a0y 65 (a0a ei_23.h omy rfl omy omy (a1a rfl omy) omy rfl) rfl rfl (a0h rfl (a0L rfl)) rfl rfl (c':=c1+2) rfl ?_
     | refine a0y 65 (a0a ei_23.h omy rfl omy omy (a0Y rfl) omy rfl) rfl rfl (a0h rfl pre0) rfl rfl (c':=c1+2) rfl ?_
     | refine a0y 65 (a0a ei_23.h omy rfl omy omy (a0G 1 (fun _ _=>default) rfl) omy rfl) rfl rfl (a0h rfl pre0) rfl rfl (c':=c1+2) rfl ?_
     refine ru 10 ?_
     exact hL3 ((i+1,o++T.flat o.length (ts.getD i default),ks++[T.root o.length (ts.getD i default)],g3,c1+1)) _ _ (by (try dsimp only);exact b2K hI him) omd (a0b rfl lrf tsa (hsr rfl (a0g.cons rfl (by exact c2o (.refl _) (.refl _) (.refl _) (.refl _) (a3A sml)) (a0g.cons rfl (a0N (enc:=fun x _=>intV x) (d:=0) rfl (fun i j _ _=>.refl _) (fun j hj=>by exact a0K (by rw [List.length_append,T.flat_len];rfl))) a0g.nil))))
    have hit:i=ts.length:=om;have hal:=hC.hall;have hol2:o.length=out.length+T.sizeL ts:=(by rw [hkl.1,hit,List.take_length])
    refine ru 2 ?_
    refine a0c ?_
    refine ru 6 ?_
    refine (a1b 68 [(7001,_)] rfl (a0h rfl pre0) rfl ((show Fz [(7001,⟨gk,ks.length,1,3,0,a4S ks⟩)] (.agg 5 (b8z 2 gk ks.length 0)) (ptH ⟨2,0,0,[],ks⟩) from a1f (.imm _) (.imm _) (.imm _) (.imm _) (b9D rfl)))).seq ?_
    refine a0y 69 (a0d (id:=69) (hs:=[_]) ei_52.h omx rfl omx ⟨rfl,rfl,rfl,rfl,trivial⟩) rfl rfl pre0 rfl rfl (c':=c+1) rfl ?_
    first
    | refine a0y 70 (a0a ei_52.h omy rfl omy omy (a0D rfl omy) omy rfl) rfl rfl (a0h rfl (a0L rfl)) rfl rfl (c':=c+2) rfl ?_
    | refine a0y 70 (a0a ei_52.h omy rfl omy omy (a1a rfl omy) omy rfl) rfl rfl (a0h rfl (a0L rfl)) rfl rfl (c':=c+2) rfl ?_
    | refine a0y 70 (a0a ei_52.h omy rfl omy omy (a0Y rfl) omy rfl) rfl rfl (a0h rfl pre0) rfl rfl (c':=c+2) rfl ?_
    | refine a0y 70 (a0a ei_52.h omy rfl omy omy (a0G 5 (fun _ _=>default) rfl) omy rfl) rfl rfl (a0h rfl pre0) rfl rfl (c':=c+2) rfl ?_
    refine ru 6 ?_
    refine a0q ?_
    refine ru 2 ?_
    refine fr1 ok hX rw1 (_) (trivial) (b8K rfl rfl (by have e:=congrArg List.length (a8V (k:=2) hI hit);rw [List.length_append] at e;exact e)) ?_
    exact ⟨⟨_,rfl,a8Z (o:=o) (x:=⟨2,0,0,[],ks⟩) rfl (a8V hI hit) (c4h (.imm _) (.imm _) (.imm _) (.imm _) (.sl _ _ _ _ fun i j _ _=>.imm _))⟩,trivial⟩
   exfalso;simp at hr0
  exfalso;simp at hr1
 exfalso;simp at hr0
theorem b9B (l:List Sg) (p q:Nat) (hl:l.length≤1000) (ts:List T) (B:List Int) (m:Nat) (s e:Nat→Nat) (hC:Cuts l B m p q ts s e) (hql:q≤l.length) (hpq:p≤q) (ih:∀ i,i < ts.length→BdC l (s i) (e i) (ts.getD i default)) (hB:B=a3F l p q 3 p [(p:Int)]++[(q:Int)]) (hend:∀ i,i+1 < m→B.getD (i+1) 0=(e i:Int)+1) (hlast:∀ i,i+1=m→B.getD (i+1) 0=(e i:Int)):BdC l p q (.many 3 ts):=by
 intro c g out ho
 obtain ⟨cb,hcb⟩:∃ cb,cb=c:=⟨_,rfl⟩
 subst hcb
 have hCl:=hC.hlen
 have hCm:=hC.hm
 have hC2:=hC.htwo
 have hCb:=hC.hmb
 refine a0p Tryz.func63 rfl kr _ _ _ _ rfl 126 rfl rfl (fun X ok hX=>?_)
 refine ru 12 ?_
 refine a5X 3 ?_
 refine a3t (fun NhU1 hU1=>?_)
 refine ru 7 ?_
 refine wdc (fun hr0 hc0=>?_) (fun hr0 hc0=>?_)
 ·refine ru 10 ?_
  refine cll ((show HPure Tryz.prog 102 [a7Q l,intV p,intV q,intV 3] (a2k B) from (by rw [hB];exact a7H l p q 3 hl hql hpq))) ?_
  refine ru 11 ?_
  refine wdc (fun hr1 hc1=>?_) (fun hr1 hc1=>?_)
  ·skip
   exfalso;omega
  refine ru 17 ?_
  refine (a1N 11 4 7001 1 3 (a4S []) (b8z 3 (cb+2) 0) rfl rfl (fun j hj=>by match j,hj with | 0,_=>exact .inr rfl | 1,_=>exact .inr rfl | 2,_=>exact .inr rfl | 3,_=>exact .inr rfl | 4,_=>exact .inl ⟨rfl,rfl⟩) dcd dcd (c':=cb+3) rfl).wp ?_
  refine a0l (α:=Nat×List Pt×List Int×Nat×Nat) (fun x c=>⟨126,[(0,.v (.os 9003 x.2.2.2.1 0 x.2.1.length)),(1,.v (a7Q l)),(2,.v (intV p)),(3,.v (intV q)),(9,.v (intV 3)),(10,.v (a2k B)),(11,.v (.pt 11 cb 0 0)),(12,.v (intV x.1))],[(9003,d2q x.2.2.2.1 x.2.1),(11,⟨cb,1,5,91,0,b8z 3 x.2.2.2.2 x.2.2.1.length⟩),(7001,⟨x.2.2.2.2,x.2.2.1.length,1,3,0,a4S x.2.2.1⟩)],c⟩) (fun x=>KidI ts out x.1 x.2.1 x.2.2.1) (fun x=>m - x.1) ((0,out,[],g,cb+2)) (by exact ⟨Nat.zero_le _,by simp [T.flatL],rfl⟩) (a0b rfl lrf tsa (hsr rfl (a0g.cons rfl (by exact c2o (.refl _) (.refl _) (.refl _) (.refl _) (.refl _)) hsa))) (fun x c hx NhL2 hL2=>?_)
  revert hx hL2;obtain ⟨i,o,ks,gg,gk⟩:=x;intro hx hL2;dsimp only at hx hL2 ⊢
  obtain ⟨hI1,hI2,hI3⟩:=hx
  have hI:KidI ts out i o ks:=⟨hI1,hI2,hI3⟩;have hkl:=c1Y hI
  refine ru 10 ?_
  refine wdc (fun hr2 hc2=>?_) (fun hr2 hc2=>?_)
  ·skip
   have him:i < ts.length:=om;have hin:=hC.hle i om;have hou:=hC.hout i om;have hsz:=hC.hsz i om
   refine ru 11 ?_
   refine rvl (intV (B.getD (i+1) 0)) (by exact a3y om rfl) ?_
   refine ru 17 ?_
   refine wdc (fun hr3 hc3=>?_) (fun hr3 hc3=>?_)
   ·skip
    have hi2:i+1 < m:=(by have h:=hr3;simp at h;omega);have hbe:=hend i hi2
    refine ru 3 ?_
    refine rvl (intV (e i:Int)) (congrArg intV (show B.getD (i+1) 0 - 1=(e i:Int) by omega)) ?_
    refine ru 11 ?_
    refine rvl (intV (s i:Int)) (by exact a3y om (hC.hat i om)) ?_
    refine ru 1 ?_
    refine a0n 58 (xs:=[_,_,_,_]) (pre:=[(9003,_)]) (ih i him _ gg o om) ⟨rfl,⟨rfl,⟨rfl,⟨rfl,trivial⟩⟩⟩⟩ (a0h rfl pre0) rfl rfl (fun g3 c1 hx1=>?_)
    (try dsimp only)
    refine ru 3 ?_
    have hol:(o++T.flat o.length (ts.getD i default)).length=o.length+(ts.getD i default).size:=(by rw [List.length_append,T.flat_len])
    refine ru 6 ?_
    refine a0y 64 (a0d (id:=64) (hs:=[_]) ei_23.h omx rfl omx ⟨rfl,rfl,rfl,rfl,trivial⟩) rfl rfl pre0 rfl rfl (c':=c1+1) rfl ?_
    first
    | refine a0y 65 (a0a ei_23.h omy rfl omy omy (a0D rfl omy) omy rfl) rfl rfl (a0h rfl (a0L rfl)) rfl rfl (c':=c1+2) rfl ?_
    | refine a0y 65 (a0a ei_23.h omy rfl omy omy (a1a rfl omy) omy rfl) rfl rfl (a0h rfl (a0L rfl)) rfl rfl (c':=c1+2) rfl ?_
    | refine a0y 65 (a0a ei_23.h omy rfl omy omy (a0Y rfl) omy rfl) rfl rfl (a0h rfl pre0) rfl rfl (c':=c1+2) rfl ?_
    | refine a0y 65 (a0a ei_23.h omy rfl omy omy (a0G 1 (fun _ _=>default) rfl) omy rfl) rfl rfl (a0h rfl pre0) rfl rfl (c':=c1+2) rfl ?_
    refine ru 10 ?_
    exact hL2 ((i+1,o++T.flat o.length (ts.getD i default),ks++[T.root o.length (ts.getD i default)],g3,c1+1)) _ _ (by (try dsimp only);exact b2K hI him) omd (a0b rfl lrf tsa (hsr rfl (a0g.cons rfl (by exact c2o (.refl _) (.refl _) (.refl _) (.refl _) (a3A sml)) (a0g.cons rfl (a0N (enc:=fun x _=>intV x) (d:=0) rfl (fun i j _ _=>.refl _) (fun j hj=>by exact a0K (by rw [List.length_append,T.flat_len];rfl))) a0g.nil))))
   have hi2:i+1=m:=(by have h:=hr3;simp at h;omega)
   refine ru 10 ?_
   refine rvl (intV (s i:Int)) (by exact a3y om (hC.hat i om)) ?_
   refine ru 1 ?_
   refine rvl (intV (e i:Int)) (congrArg intV (hlast i hi2)) ?_
   refine a0n 58 (xs:=[_,_,_,_]) (pre:=[(9003,_)]) (ih i him _ gg o om) ⟨rfl,⟨rfl,⟨rfl,⟨rfl,trivial⟩⟩⟩⟩ (a0h rfl pre0) rfl rfl (fun g3 c2 hx2=>?_)
   (try dsimp only)
   refine ru 3 ?_
   have hol:(o++T.flat o.length (ts.getD i default)).length=o.length+(ts.getD i default).size:=(by rw [List.length_append,T.flat_len])
   refine ru 6 ?_
   refine a0y 64 (a0d (id:=64) (hs:=[_]) ei_23.h omx rfl omx ⟨rfl,rfl,rfl,rfl,trivial⟩) rfl rfl pre0 rfl rfl (c':=c2+1) rfl ?_
   first
   | refine a0y 65 (a0a ei_23.h omy rfl omy omy (a0D rfl omy) omy rfl) rfl rfl (a0h rfl (a0L rfl)) rfl rfl (c':=c2+2) rfl ?_
   | refine a0y 65 (a0a ei_23.h omy rfl omy omy (a1a rfl omy) omy rfl) rfl rfl (a0h rfl (a0L rfl)) rfl rfl (c':=c2+2) rfl ?_
   | refine a0y 65 (a0a ei_23.h omy rfl omy omy (a0Y rfl) omy rfl) rfl rfl (a0h rfl pre0) rfl rfl (c':=c2+2) rfl ?_
   | refine a0y 65 (a0a ei_23.h omy rfl omy omy (a0G 1 (fun _ _=>default) rfl) omy rfl) rfl rfl (a0h rfl pre0) rfl rfl (c':=c2+2) rfl ?_
   refine ru 10 ?_
   exact hL2 ((i+1,o++T.flat o.length (ts.getD i default),ks++[T.root o.length (ts.getD i default)],g3,c2+1)) _ _ (by (try dsimp only);exact b2K hI him) omd (a0b rfl lrf tsa (hsr rfl (a0g.cons rfl (by exact c2o (.refl _) (.refl _) (.refl _) (.refl _) (a3A sml)) (a0g.cons rfl (a0N (enc:=fun x _=>intV x) (d:=0) rfl (fun i j _ _=>.refl _) (fun j hj=>by exact a0K (by rw [List.length_append,T.flat_len];rfl))) a0g.nil))))
  have hit:i=ts.length:=om;have hal:=hC.hall;have hol2:o.length=out.length+T.sizeL ts:=(by rw [hkl.1,hit,List.take_length])
  refine ru 2 ?_
  refine a0c ?_
  refine ru 6 ?_
  refine (a1b 68 [(7001,_)] rfl (a0h rfl pre0) rfl ((show Fz [(7001,⟨gk,ks.length,1,3,0,a4S ks⟩)] (.agg 5 (b8z 3 gk ks.length 0)) (ptH ⟨3,0,0,[],ks⟩) from a1f (.imm _) (.imm _) (.imm _) (.imm _) (b9D rfl)))).seq ?_
  refine a0y 69 (a0d (id:=69) (hs:=[_]) ei_52.h omx rfl omx ⟨rfl,rfl,rfl,rfl,trivial⟩) rfl rfl pre0 rfl rfl (c':=c+1) rfl ?_
  first
  | refine a0y 70 (a0a ei_52.h omy rfl omy omy (a0D rfl omy) omy rfl) rfl rfl (a0h rfl (a0L rfl)) rfl rfl (c':=c+2) rfl ?_
  | refine a0y 70 (a0a ei_52.h omy rfl omy omy (a1a rfl omy) omy rfl) rfl rfl (a0h rfl (a0L rfl)) rfl rfl (c':=c+2) rfl ?_
  | refine a0y 70 (a0a ei_52.h omy rfl omy omy (a0Y rfl) omy rfl) rfl rfl (a0h rfl pre0) rfl rfl (c':=c+2) rfl ?_
  | refine a0y 70 (a0a ei_52.h omy rfl omy omy (a0G 5 (fun _ _=>default) rfl) omy rfl) rfl rfl (a0h rfl pre0) rfl rfl (c':=c+2) rfl ?_
  refine ru 6 ?_
  refine a0q ?_
  refine ru 2 ?_
  refine fr1 ok hX rw1 (_) (trivial) (b8K rfl rfl (by have e:=congrArg List.length (a8V (k:=3) hI hit);rw [List.length_append] at e;exact e)) ?_
  exact ⟨⟨_,rfl,a8Z (o:=o) (x:=⟨3,0,0,[],ks⟩) rfl (a8V hI hit) (c4h (.imm _) (.imm _) (.imm _) (.imm _) (.sl _ _ _ _ fun i j _ _=>.imm _))⟩,trivial⟩
 exfalso;simp at hr0
theorem d1F {l:List Sg} {p q:Nat} {ts:List T} {c:Nat→Nat} (hl:l.length≤1000) (h2:2≤ts.length) (h0:c 0=p) (he:c ts.length=q) (hs:∀ i,i < ts.length→Seg l 1 (c i) (c (i+1)) (ts.getD i default)) :
    Cuts l ([(p:Int)]++a1k c ts.length) ts.length p q ts c (fun i=>c (i+1))∧(∀ i,i < ts.length→([(p:Int)]++a1k c ts.length).getD (i+1) 0=((c (i+1):Nat):Int)):=by
  have up:=c9l (n:=ts.length) (c:=c) (fun i hi=>(a1h (hs i hi)).1)
  have hsz:∀ i,i < ts.length→(ts.getD i default).size+2 * c i≤2 * c (i+1):=fun i hi=>by have:=a3E (hs i hi);omega
  have hout:∀ i,i≤ts.length→T.sizeL (ts.take i)+2 * p≤2 * c i:=by
    intro i
    induction i with
    | zero=>intro _;rw [b0j];omega
    | succ i ih=>intro hi;have:=ih omo;have:=hsz i hi;rw [a1C ts i hi];omega
  have hg:∀ i,i < ts.length→([(p:Int)]++a1k c ts.length).getD (i+1) 0=((c (i+1):Nat):Int):=fun i hi=>by
    simp [a1k,List.getD_eq_getElem?_getD,hi]
  have hlt:ts.length≤l.length:=by
    have a:=up 0 ts.length omo lrf
    have b:=(a1h (hs (ts.length - 1) omo)).2
    rw [show ts.length - 1+1=ts.length by omega] at b
    omega
  refine ⟨⟨by simp [a1k],rfl,h2,by omega,fun i hi=>?_,fun i hi=>⟨Nat.le_of_lt (a1h (hs i hi)).1,(a1h (hs i hi)).2⟩,fun i hi=>hout i omo,hsz,?_⟩,hg⟩
  · cases i with
    | zero=>rw [h0];rfl
    | succ i=>exact hg i omo
  · have:=hout ts.length lrf;rw [List.take_length,he] at this;exact this
theorem d0e {l:List Sg} {p q:Nat} {ts:List T} {c e:Nat→Nat} (hl:l.length≤1000) (h2:2≤ts.length) (h0:c 0=p) (he:e (ts.length - 1)=q) (hs:∀ i,i < ts.length→Seg l 2 (c i) (e i) (ts.getD i default)) (hgp:∀ i,i+1 < ts.length→kd l (e i)=4∧c (i+1)=e i+1) :
    Cuts l ([(p:Int)]++a1k c (ts.length - 1)++[(q:Int)]) ts.length p q ts c e∧(∀ i,i+1 < ts.length→([(p:Int)]++a1k c (ts.length - 1)++[(q:Int)]).getD (i+1) 0=(e i:Int)+1)∧(∀ i,i+1=ts.length→([(p:Int)]++a1k c (ts.length - 1)++[(q:Int)]).getD (i+1) 0=(e i:Int)):=by
  have hsz:∀ i,i < ts.length→(ts.getD i default).size+2 * c i≤2 * e i:=fun i hi=>by have:=a3E (hs i hi);omega
  have hout:∀ i,i < ts.length→T.sizeL (ts.take i)+2 * p≤2 * c i∧i+p≤c i:=by
    intro i
    induction i with
    | zero=>intro _;rw [b0j];omega
    | succ i ih=>intro hi;have:=ih omo;have:=hsz i omo;have:=hgp i hi;have:=(a1h (hs i omo)).1;rw [a1C ts i omo];omega
  have hg:∀ i,i+1 < ts.length→([(p:Int)]++a1k c (ts.length - 1)++[(q:Int)]).getD (i+1) 0=((c (i+1):Nat):Int):=fun i hi=>by
    rw [a5a (by simp [a1k];omega)]
    simp [a1k,List.getD_eq_getElem?_getD,show i < ts.length - 1 by omega]
  have hlt:ts.length≤l.length:=by
    have a:=(hout (ts.length - 1) omo).2
    have b:=(a1h (hs (ts.length - 1) omo))
    omega
  refine ⟨⟨by simp [a1k];omega,rfl,h2,by omega,fun i hi=>?_,fun i hi=>⟨Nat.le_of_lt (a1h (hs i hi)).1,(a1h (hs i hi)).2⟩,fun i hi=>(hout i hi).1,hsz,?_⟩,fun i hi=>by rw [hg i hi,(hgp i hi).2];rfl,fun i hi=>?_⟩
  · cases i with
    | zero=>rw [h0];rfl
    | succ i=>exact hg i omo
  · have a:=hout (ts.length - 1) omo
    have b:=hsz (ts.length - 1) omo
    have d:=a1C ts (ts.length - 1) omo
    rw [show ts.length - 1+1=ts.length by omega,List.take_length] at d
    rw [he] at b;omega
  · have hl1:([(p:Int)]++a1k c (ts.length - 1)).length=i+1:=by simp [a1k];omega
    rw [←hl1,a2z,←he,show ts.length - 1=i by omega]
theorem c1u (l:List Sg) (hl:l.length≤1000) {v p q:Nat} {t:T} (h:Seg l v p q t):BdC l p q t:=by
  induction h with
  | name p h=>exact c9o l p (p+1) hl h rfl (a1h (.name p h)).2 omo (v:=0) dcd (.name p h)
  | group p q t h hs h3 ih=>have a:=a1h hs;have b:=a2Z (l:=l) (i:=q) (by rw [h3];decide);exact c4O l p (q+1) hl q t h h3 a.1 rfl b omo (v:=0) dcd (.group p q t h hs h3) ih
  | item p q t _ _ ih=>exact ih
  | times p q t hs h5 ih=>have a:=a1h hs;have b:=a2Z (l:=l) (i:=q) (by rw [h5];decide);exact c4o l p (q+1) hl q t h5 hs a.1 rfl b omo (v:=1) dcd (.times p q t hs h5) ih
  | row1 p q t _ ih=>exact ih
  | row p q ts c h2 h0 he hs ih =>
    have hseg:Seg l 2 p q (.many 2 ts):=.row p q ts c h2 h0 he hs
    have a:=a1h hseg
    have C:=d1F hl h2 h0 he hs
    exact d0Q l p q hl ts _ _ _ _ C.1 a.2 omo ih hseg (b9o h0 he omo hs).symm C.2
  | choice1 p q t _ ih=>exact ih
  | choice p q ts c e h2 h0 he hs hg ih =>
    have a:=a1h (.choice p q ts c e h2 h0 he hs hg)
    have C:=d0e hl h2 h0 he hs hg
    exact b9B l p q hl ts _ _ _ _ C.1 a.2 omo ih (c1i omo h0 he hs hg).symm C.2.1 C.2.2
theorem c0f {α:Type} {I:α→Nat→Prop} {rr:α→HV} {kpf:α→List (Nat×HObj)} {C:Ctx} {P:Program} {ops:Array Oper} {Q:Exit→Act→World→Prop} {n clk:Nat} {tm:List (Nat×TV)} {hp:List (Nat×HObj)} {rest:List Oper} {ty t2:TypeId} {pos:String} {af:Array Edge} {f:FuncId} {args:List Operand} {at_:Array TypeId} {xs:List HV} {pre:List (Nat×HObj)} {id sz:Nat} {F:Nat→Nat→HV} (d:Nat)
    (hc:a2y P f (clk+1) (.os id clk 0 0::xs) ((id,⟨clk,0,sz,t2,0,F⟩)::pre) (a4Q I rr kpf)) (hsz0:0 < sz) (hx:a1L (a0F (tget tm)) args xs) (hpre:∀ p∈(id,(⟨clk,0,sz,t2,0,F⟩:HObj))::pre,hget ((id,⟨clk,0,sz,t2,0,F⟩)::hp) p.1=some p.2) (hlt:Nat.blt d n=true) (hk:a0O tm d=true)
    (h:∀ x c',I x c'→HSeq C P ops rest ⟨n,(d,.v (rr x))::tm,kpf x++(id,⟨clk,0,sz,t2,0,F⟩)::hp,c'⟩ Q) :
    HSeq C P ops (⟨some d,.call ⟨.value (.func f),(.const (.slice none 0 0)::args).toArray,at_⟩,ty,pos,af,none⟩::rest) ⟨n,tm,hp,clk⟩ Q:=by
  intro a w ⟨E,e0,r,hG,hsz,hdf,ht⟩
  have hlt:d < n:=by simpa [Nat.blt_eq] using hlt
  have hg:¬ E.G clk:=fun h=>absurd (hG _ h) (Nat.lt_irrefl _)
  obtain ⟨e1,r1⟩:=r.newNil id clk sz t2 F hg hsz0
  have hrep:RepAll w (E.place id ⟨clk,none,0,sz⟩) ((.const (.slice none 0 0)::args).map a.eval) (.os id clk 0 0::xs):=⟨.os none 0 0 id clk 0 (.inr rfl) lrf (Nat.zero_le _) (fun h=>absurd h (Nat.lt_irrefl _)) (fun l hl _=>by rw [Env.place_L] at hl;injection hl with hl;subst hl;exact ⟨rfl,fun _=>rfl⟩),a3Y (fun t x hq=>(ht t x hq).ext e1) hx⟩
  have hG1:∀ g,(E.place id ⟨clk,none,0,sz⟩).G g→g < clk+1:=fun g hg=>by
    rcases hg with hg | hg
    · exact Nat.lt_succ_of_lt (hG g hg)
    · rw [hg];exact Nat.lt_succ_self _
  unfold a8R
  rw [if_pos (by simp [Region.wanted])]
  left
  unfold Oper.wp execOp
  have hargs:(Operand.const (.slice none 0 0)::args).toArray.map a.eval=((Operand.const (.slice none 0 0)::args).map a.eval).toArray:=List.map_toArray ..
  simp only [resolve,Act.eval,Deferred.ofValue,invoke,Sem.run_bind,Sem.run_pure,Result.andThen_ok,Array.empty_append,Array.append_empty]
  rw [a0C hc.1]
  simp only [Oper.upon]
  have hcalls:=hc.2 ⟨C.K,C.w0,C.E0.F,E.place id ⟨clk,none,0,sz⟩,hget ((id,⟨clk,0,sz,t2,0,F⟩)::hp),w,_⟩ _ ⟨by simp only [a0o];exact r1,fun id o ho=>hpre (id,o) (a1z ho)⟩ rfl hrep hG1
  rw [←hargs] at hcalls
  refine Calls.mono hcalls ?_
  rintro e w' ⟨x,kp,c',E',⟨y,hI,he,hkp⟩,e',r',hG',_,hv⟩
  subst he;subst hkp
  cases e with
  | returned v =>
    refine h y c' hI _ w' ⟨E',(e0.trans e1).trans e',by simp only [a0I];exact r',hG',by simp [Act.put,hsz],(hdf.ext e1).ext e',fun t y hy=>?_⟩
    simp only [a0x] at hy
    split at hy
    · rename_i htd
      subst htd
      injection hy with hy
      subst hy
      rw [a0R (by rw [hsz];exact hlt)]
      exact hv
    · rename_i htd
      rw [a0w htd]
      have:=((ht t y hy).ext e1).ext e'
      cases y with
      | v z=>exact this
      | un j b z =>
        have hne:=a2b hk t j b z hy
        simp only [TVRep,a0w hne] at this ⊢;exact this
  | panicked ch=>exact hv.elim
  | outgrown=>exact hv.elim
theorem a4A (s:List UInt8) (r:List Pt×Int×Int) (hs:s.length≤9223372036854775807) (hp:ParseIs s r) (c:Nat):a2y Tryz.prog 31 c [strV s] [] (a4Q (fun (_:Unit) _=>True) (fun _=>c6B r) (fun _=>[])):=by
 have hlen:=a9n s
 have hlx:=c4i s hs
 have hW:∀ l,lexV s=.ok l→b9u (lexV s)=(l,0,0):=fun l h=>by rw [h];rfl
 rcases hp with ⟨e,hv⟩ | hv | ⟨l,q,hv,hne,hq,hC⟩ | ⟨l,hv,hne,hC⟩ | ⟨l,t,hv,hsg⟩
 ·skip
  have he:=a6Z hv
  rw [hv] at hlx hlen
  replace hlx:HPure Tryz.prog 61 [strV s] (c5Z ([],e.1,e.2)):=hlx
  refine a0p Tryz.func31 rfl kr _ _ _ _ rfl 42 rfl rfl (fun X ok hX=>?_)
  refine ru 10 ?_
  refine cll (hlx) ?_
  refine ru 16 ?_
  refine wdc (fun hr0 hc0=>?_) (fun hr0 hc0=>?_)
  ·refine ru 11 ?_
   refine a1q ok hX a2j.one rfl (a0f rfl) (a0f rfl) (a0f rfl) [] rfl pre0 (()) (trivial) (by rfl) (by rfl) (a9H (.fz _ _ (.nil 0 5 _ dcd none)) kza kza) ?_
   exact trivial
  exfalso;exact he hc0
 ·skip
  rw [hv] at hlx hlen
  replace hlx:HPure Tryz.prog 61 [strV s] (c5Z ([],0,0)):=hlx
  have hC:chk ([]:List Sg) 0 0 true true=(-1,false):=by rw [a8u (l:=[]) (i:=0) lrf];rfl
  have hch:=b1A [] dcd
  rw [hC] at hch
  refine a0p Tryz.func31 rfl kr _ _ _ _ rfl 42 rfl rfl (fun X ok hX=>?_)
  refine ru 10 ?_
  refine cll (hlx) ?_
  refine ru 16 ?_
  refine wdc (fun hr0 hc0=>?_) (fun hr0 hc0=>?_)
  ·skip
   exfalso;first | exact hc0 rfl | exact hc0 trivial
  refine ru 5 ?_
  refine cll (hch) ?_
  refine ru 14 ?_
  refine wdc (fun hr1 hc1=>?_) (fun hr1 hc1=>?_)
  ·skip
   exfalso;simp at hr1
  refine ru 8 ?_
  refine wdc (fun hr2 hc2=>?_) (fun hr2 hc2=>?_)
  ·skip
   exfalso;simp at hr2
  refine ru 10 ?_
  refine wdc (fun hr3 hc3=>?_) (fun hr3 hc3=>?_)
  ·refine ru 9 ?_
   refine a1q ok hX a2j.one rfl (a0f rfl) (a0f rfl) (a0f rfl) [] rfl pre0 (()) (trivial) (by rfl) (by rfl) (a9H (.fz _ _ (.nil 0 5 _ dcd none)) kza kza) ?_
   exact trivial
  exfalso;exact absurd hr3 dcd
 ·skip
  rw [hv] at hlx hlen
  have hll:l.length≤200:=hlen
  replace hlx:HPure Tryz.prog 61 [strV s] (c5Z (l,0,0)):=hlx
  clear hlen
  have hch:=b1A l omo
  rw [hC] at hch
  refine a0p Tryz.func31 rfl kr _ _ _ _ rfl 42 rfl rfl (fun X ok hX=>?_)
  refine ru 10 ?_
  refine cll (hlx) ?_
  refine ru 16 ?_
  refine wdc (fun hr0 hc0=>?_) (fun hr0 hc0=>?_)
  ·skip
   exfalso;first | exact hc0 rfl | exact hc0 trivial
  refine ru 5 ?_
  refine cll (hch) ?_
  refine ru 14 ?_
  refine wdc (fun hr1 hc1=>?_) (fun hr1 hc1=>?_)
  ·refine ru 14 ?_
   refine a1q ok hX a2j.one rfl (a0f rfl) (a0f rfl) (a0f rfl) [] rfl pre0 (()) (trivial) (by rfl) (by rfl) (a9H (.fz _ _ (.nil 0 5 _ dcd none)) kza kza) ?_
   exact trivial
  exfalso;omega
 ·skip
  rw [hv] at hlx hlen
  have hll:l.length≤200:=hlen
  replace hlx:HPure Tryz.prog 61 [strV s] (c5Z (l,0,0)):=hlx
  clear hlen
  have hch:=b1A l omo
  rw [hC] at hch
  refine a0p Tryz.func31 rfl kr _ _ _ _ rfl 42 rfl rfl (fun X ok hX=>?_)
  refine ru 10 ?_
  refine cll (hlx) ?_
  refine ru 16 ?_
  refine wdc (fun hr0 hc0=>?_) (fun hr0 hc0=>?_)
  ·skip
   exfalso;first | exact hc0 rfl | exact hc0 trivial
  refine ru 5 ?_
  refine cll (hch) ?_
  refine ru 14 ?_
  refine wdc (fun hr1 hc1=>?_) (fun hr1 hc1=>?_)
  ·skip
   exfalso;simp at hr1
  refine ru 8 ?_
  refine wdc (fun hr2 hc2=>?_) (fun hr2 hc2=>?_)
  ·refine ru 11 ?_
   refine a1q ok hX a2j.one rfl (a0f rfl) (a0f rfl) (a0f rfl) [] rfl pre0 (()) (trivial) (by rfl) (by rfl) (a9H (.fz _ _ (.nil 0 5 _ dcd none)) kza kza) ?_
   exact trivial
  exfalso;simp at hr2
 ·skip
  rw [hv] at hlx hlen
  have hll:l.length≤200:=hlen
  replace hlx:HPure Tryz.prog 61 [strV s] (c5Z (l,0,0)):=hlx
  clear hlen
  have hch:=b1A l omo
  rw [b2l hsg] at hch
  have hlt:=a1h hsg
  refine a0p Tryz.func31 rfl kr _ _ _ _ rfl 42 rfl rfl (fun X ok hX=>?_)
  refine ru 10 ?_
  refine cll (hlx) ?_
  refine ru 16 ?_
  refine wdc (fun hr0 hc0=>?_) (fun hr0 hc0=>?_)
  ·skip
   exfalso;first | exact hc0 rfl | exact hc0 trivial
  refine ru 5 ?_
  refine cll (hch) ?_
  refine ru 14 ?_
  refine wdc (fun hr1 hc1=>?_) (fun hr1 hc1=>?_)
  ·skip
   exfalso;simp at hr1
  refine ru 8 ?_
  refine wdc (fun hr2 hc2=>?_) (fun hr2 hc2=>?_)
  ·skip
   exfalso;simp at hr2
  refine ru 10 ?_
  refine wdc (fun hr3 hc3=>?_) (fun hr3 hc3=>?_)
  ·skip
   exfalso;have h:=hr3;simp at h;omega
  refine ru 7 ?_
  refine c0f 41 (xs:=[_,_,_]) (pre:=[]) (c1u l om hsg _ _ [] (Nat.zero_le _)) dcd ⟨rfl,⟨rfl,⟨rfl,trivial⟩⟩⟩ (a0h rfl pre0) rfl rfl (fun g3 c1 hx1=>?_)
  (try dsimp only)
  refine ru 6 ?_
  refine a1q ok hX a2j.one rfl (a0f rfl) (a0f rfl) (a0f rfl) [(9003,_)] rfl (a0h rfl pre0) (()) (trivial) (by rfl) (by rfl) (a9H (.fz _ _ (a2v (l:=T.flat 0 t) (enc:=ptF) (d:=default) (List.mem_cons_self ..) rfl rfl lrf (fun i j hi hj=>b3c _ j))) kza kza) ?_
  exact trivial
set_option maxHeartbeats 1000000
theorem c5b {α:Type} (d:α) {a b:List α} (hl:a.length=b.length) (h:∀ j,j < a.length→a.getD j d=b.getD j d):a=b:=by
 apply List.ext_getElem hl
 intro i h1 h2
 have:=h i h1
 rwa [List.getD_eq_getElem?_getD,List.getD_eq_getElem?_getD,List.getElem?_eq_getElem h1,List.getElem?_eq_getElem h2] at this
@[reducible] def PtB (l:List Pt):Prop:=l.length≤100000∧∀ i,i < l.length→(l.getD i default).kids.length≤100000∧(l.getD i default).name.length≤1000000
theorem b7O (a:List Int) {lo n k:Nat} (hk:k < n) (h:lo+n≤a.length):((a.drop lo).take n).getD k 0=a.getD (lo+k) 0:=by
 rw [List.getD_eq_getElem?_getD,List.getD_eq_getElem?_getD,List.getElem?_take,if_pos hk,List.getElem?_drop]
theorem c8Q (g lo n:Nat) (a b:List Int) (ha:a.length≤1000000) (hb:b.length≤1000000) (hn:lo+n≤a.length):a3K Tryz.prog 86 [.os 8001 g lo n,a2k b] [(8001,⟨g,a.length,1,3,0,a4S a⟩)] (boolV (decide ((a.drop lo).take n=b))) [(8001,⟨g,a.length,1,3,0,a4S a⟩)]:=by
 have hcl:((a.drop lo).take n).length=n:=by rw [List.length_take,List.length_drop];omega
 intro c
 refine a0p Tryz.func86 rfl kr _ _ _ _ rfl 26 rfl rfl (fun X ok hX=>?_)
 refine ru 15 ?_
 refine wdc (fun hr0 hc0=>?_) (fun hr0 hc0=>?_)
 ·refine ru 7 ?_
  refine fr1 ok hX rw1 (()) (trivial) (by rw [decide_eq_false (fun h=>hc0 (by rw [←h,hcl]))];exact kza) ?_
  exact ⟨⟨_,rfl,.of (fun i j _ _=>.fz _ _ (.imm _))⟩,trivial⟩
 refine ru 11 ?_
 refine a0l (α:=Nat) (fun x c=>⟨26,[(0,.v (.os 8001 g lo n)),(1,.v (a2k b)),(12,.v (intV n)),(13,.v (intV x))],[(8001,⟨g,a.length,1,3,0,a4S a⟩)],c⟩) (fun x=>x≤n∧∀ j,j < x→a.getD (lo+j) 0=b.getD j 0) (fun x=>n - x) (0) (by exact ⟨Nat.zero_le _,fun j hj=>absurd hj (Nat.not_lt_zero _)⟩) (a0b rfl lrf tsa hsa) (fun k c hx NhL1 hL1=>?_)
 (try dsimp only at hx hL1 ⊢)
 obtain ⟨hk,hE⟩:=hx
 refine ru 6 ?_
 refine wdc (fun hr1 hc1=>?_) (fun hr1 hc1=>?_)
 ·refine ru 15 ?_
  first
  | refine a3d 19 (HOp.val (v':=intV (a.getD (lo+k) 0)) (a0r ty_3.h rfl omy omy (fun h=>(by first | rfl | cases h))) (rfl)) rfl rfl (a0L rfl) rfl rfl (k':=4) rfl ?_
  | refine a3d 19 (HOp.val (v':=intV (a.getD (lo+k) 0)) (a0j ty_3.h rfl omy (fun h=>(by first | rfl | cases h))) (rfl)) rfl rfl pre0 rfl rfl (k':=4) rfl ?_
  refine ru 3 ?_
  first
  | refine a3d 23 (HOp.val (v':=intV (b.getD k 0)) (a0r ty_3.h rfl omy omy (fun h=>(by first | rfl | cases h))) (rfl)) rfl rfl (a0L rfl) rfl rfl (k':=8) rfl ?_
  | refine a3d 23 (HOp.val (v':=intV (b.getD k 0)) (a0j ty_3.h rfl omy (fun h=>(by first | rfl | cases h))) (rfl)) rfl rfl pre0 rfl rfl (k':=8) rfl ?_
  refine ru 3 ?_
  refine wdc (fun hr2 hc2=>?_) (fun hr2 hc2=>?_)
  ·refine ru 8 ?_
   refine a0q ?_
   refine ru 2 ?_
   refine fr1 ok hX rw1 (()) (trivial) (by rw [decide_eq_false (fun h=>hc2 (by rw [←h,b7O a om hn]))];exact kza) ?_
   exact ⟨⟨_,rfl,.of (fun i j _ _=>.fz _ _ (.imm _))⟩,trivial⟩
  refine ru 7 ?_
  exact hL1 (k+1) _ _ (by (try dsimp only);exact ⟨by omega,fun j hj=>by by_cases e:j=k;(· subst e;exact hc2);exact hE j om⟩) omd (a0b rfl lrf tsa hsa)
 refine ru 2 ?_
 refine a0c ?_
 refine ru 8 ?_
 refine fr1 ok hX rw1 (()) (trivial) (by rw [decide_eq_true (c5b 0 om (fun j hj=>by rw [b7O a om hn];exact hE j om))];exact kza) ?_
 exact ⟨⟨_,rfl,.of (fun i j _ _=>.fz _ _ (.imm _))⟩,trivial⟩
theorem b8W (a b:Int):(a == b)=decide (a=b):=rfl
theorem d1m (n:Nat):decide ((n:Int)=0)=decide (n=0):=decide_eq_decide.2 omo
theorem c9h (n:Nat):decide ((n:Int)=1)=decide (n=1):=decide_eq_decide.2 omo
theorem c1o (n:Nat):decide (1 < (n:Int))=decide (1 < n):=decide_eq_decide.2 omo
theorem c2S (s:List UInt8) (hs:s.length≤1000000):HPure Tryz.prog 112 [strV s] (boolV (nameV s)):=by
  have hlen:=a9n s
  have hlx:=d1I s hs
  have hN:nameV s=(match b9u (lexV s) with | (l,_,e)=>decide (e=0)&&decide (l.length=1)&&decide ((l.getD 0 default).kind=1)&&decide ((l.getD 0 default).name=s)):=by
    unfold nameV
    cases hv:lexV s with
    | error e =>
      have h:=a6Z hv
      have h2:¬ (e.2=0):=h
      show false=(decide (e.2=0)&&_&&_&&_)
      rw [decide_eq_false h2];rfl
    | ok l =>
      match l with
      | []=>rfl
      | [x]=>rfl
      | x::y::l=>simp [b9u]
  generalize hr:b9u (lexV s)=r at hlen hlx hN
  rw [hN]
  obtain ⟨l,a,e⟩:=r
  refine a0k Tryz.func112 rfl kr _ _ _ rfl 34 rfl rfl (fun w F=>?_)
  refine ru 8 ?_
  refine cll (hlx) ?_
  refine ru 23 ?_
  refine ry (intV (l.getD 0 default).kind) rfl (fun hb=>rfl) ?_
  refine ru 7 ?_
  refine ry (strV (l.getD 0 default).name) rfl (fun hb=>rfl) ?_
  refine ru 7 ?_
  refine rt1 ?_
  exact a1H (by simp only [b8W,c9h])
theorem c7L (x:Pt) (hk:x.kids.length≤1000000) (hn:x.name.length≤1000000):HPure Tryz.prog 85 [ptH x] (boolV (a2g x)):=by
 unfold a2g
 refine a0k Tryz.func85 rfl kr _ _ _ rfl 89 rfl rfl (fun w F=>?_)
 refine ru 20 ?_
 refine wdc (fun hr0 hc0=>?_) (fun hr0 hc0=>?_)
 ·refine ru 19 ?_
  first
  | refine stg 22 (fun hb=>a0e (xs:=[_]) (c2S x.name hn) ⟨rfl,trivial⟩ ⟨(Fz.eq rfl),trivial⟩) rfl rfl rfl rfl rfl ?_
  | refine sth 22 (fun hb=>a0e (xs:=[_]) (c2S x.name hn) ⟨rfl,trivial⟩ ⟨(Fz.eq rfl),trivial⟩) rfl rfl rfl rfl rfl ?_
  refine ru 7 ?_
  refine rt1 ?_
  rw [if_pos hc0];exact a1H (by simp only [b8W,d1m])
 refine ru 7 ?_
 refine wdc (fun hr1 hc1=>?_) (fun hr1 hc1=>?_)
 ·refine ru 2 ?_
  refine wdc (fun hr2 hc2=>?_) (fun hr2 hc2=>?_)
  ·refine ru 27 ?_
   refine rt1 ?_
   rw [if_neg hc0,if_pos (.inl hc1)];exact a1H (by simp only [b8W,c1o])
  exfalso;exact absurd hr2 (by rw [hc1];decide)
 refine ru 5 ?_
 refine wdc (fun hr2 hc2=>?_) (fun hr2 hc2=>?_)
 ·refine ru 27 ?_
  refine rt1 ?_
  rw [if_neg hc0,if_pos (.inr hc2)];exact a1H (by simp only [b8W,c1o])
 refine ru 6 ?_
 refine wdc (fun hr3 hc3=>?_) (fun hr3 hc3=>?_)
 ·refine ru 51 ?_
  refine rt1 ?_
  rw [if_neg hc0,if_neg (show ¬ (x.kind=2∨x.kind=3) by omega),if_pos hc3];exact a1H (by simp only [b8W,c9h])
 refine ru 9 ?_
 refine rt1 ?_
 rw [if_neg hc0,if_neg (show ¬ (x.kind=2∨x.kind=3) by omega),if_neg hc3];exact .imm _
theorem b8T {n i:Nat} {e:List Pt} {op:List Int} (hi:i < e.length):a3p n i (e.drop i) op=((a2g (e.getD i default)&&(decide ((e.getD i default).kids.length≤op.length)&&decide (op.drop (op.length - (e.getD i default).kids.length)=(e.getD i default).kids)))&&a3p n (i+1) (e.drop (i+1)) (op.take (op.length - (e.getD i default).kids.length)++[(i:Int)])):=by
 have h:e.drop i=e.getD i default::e.drop (i+1):=by
  rw [List.getD_eq_getElem?_getD,List.getElem?_eq_getElem hi,List.drop_eq_getElem_cons hi];rfl
 rw [h];rfl
theorem d0s {id g lo lo' n n':Nat} (h1:lo=lo') (h2:n=n'):HV.os id g lo n=HV.os id g lo' n':=by subst h1;subst h2;rfl
instance frz_ptH (x:Pt):Frz (ptH x):=⟨.agg _ _ _ fun j hj=>b3c x j⟩
theorem b7v {op:List Int} {k:Nat} (h:k≤op.length):(op.drop (op.length - k)).take k=op.drop (op.length - k):=List.take_of_length_le (by rw [List.length_drop];omega)
theorem c4M {x:Pt} {op:List Int} (h:(!a2g x||decide ((op.length:Int) - x.kids.length < 0)||!decide ((op.drop (op.length - x.kids.length)).take x.kids.length=x.kids))=true):(a2g x&&(decide (x.kids.length≤op.length)&&decide (op.drop (op.length - x.kids.length)=x.kids)))=false:=by
 by_cases hk:x.kids.length≤op.length
 ·rw [b7v hk,decide_eq_false (show ¬ ((op.length:Int) - x.kids.length < 0) by omega)] at h
  rw [decide_eq_true hk]
  cases ha:a2g x <;> rw [ha] at h <;> simp at h ⊢
  exact h
 ·rw [decide_eq_false hk];simp
theorem c0r {x:Pt} {op:List Int} (h:(!a2g x||decide ((op.length:Int) - x.kids.length < 0)||!decide ((op.drop (op.length - x.kids.length)).take x.kids.length=x.kids))=false):(a2g x&&(decide (x.kids.length≤op.length)&&decide (op.drop (op.length - x.kids.length)=x.kids)))=true∧x.kids.length≤op.length:=by
 simp only [Bool.or_eq_false_iff,Bool.not_eq_false',decide_eq_false_iff_not] at h
 have hk:x.kids.length≤op.length:=by omega
 have h2:=h.2
 rw [b7v hk] at h2
 exact ⟨by rw [h.1.1,decide_eq_true hk,h2];rfl,hk⟩
theorem c5m {op:List Int} {N k g ty:Nat} {r:Int} {F:Nat→Nat→HV} (hN:N=k) (hk:k≤op.length) (hF:∀ j,F 0 j=intV r):a2m ⟨g,N+1,1,ty,0,cat N (a4S op) F⟩ ⟨g,(op.take k++[r]).length,1,ty,0,a4S (op.take k++[r])⟩:=by
 subst hN
 have hl:(op.take N).length=N:=by rw [List.length_take];omega
 exact a0N (enc:=fun x _=>intV x) (d:=0) (out:=op.take N) hl.symm (fun i j hi hj=>by
  have:(op.take N).getD i 0=op.getD i 0:=by rw [List.getD_eq_getElem?_getD,List.getD_eq_getElem?_getD,List.getElem?_take,if_pos omo]
  show Sb (intV (op.getD i 0)) (intV ((op.take N).getD i 0))
  rw [this];exact .refl _) (fun j hj=>by rw [hF];exact .refl _)
theorem c8y {a:Bool} {ol kl:Nat} (h:(!a||decide ((ol:Int) - kl < 0))=false):ol - kl+kl≤ol:=by simp at h;omega
theorem c9u (e:List Pt) (he:PtB e):HPure Tryz.prog 47 [ptsV e] (boolV (rightV e)):=by
 have hel:=he.1
 refine a0k Tryz.func47 rfl kr _ _ _ rfl 51 rfl rfl (fun w F=>?_)
 refine ru 19 ?_
 refine a9J 3 8001 1 3 ((a4S [])) rfl dcd rfl (c':=1) rfl ?_
 refine a0l (α:=Nat×List Int×Nat) (fun x c=>⟨51,[(0,.v (ptsV e)),(3,.v (.os 8001 x.2.2 0 x.2.1.length)),(7,.v (ptsV e)),(8,.v (intV e.length)),(9,.v (intV x.1))],[(8001,⟨x.2.2,x.2.1.length,1,3,0,a4S x.2.1⟩)],c⟩) (fun x=>x.1≤e.length∧x.2.1.length≤x.1∧a3p e.length x.1 (e.drop x.1) x.2.1=rightV e) (fun x=>e.length - x.1) ((0,[],0)) (by exact ⟨Nat.zero_le _,Nat.zero_le _,rfl⟩) (a0b rfl lrf tsa hsa) (fun x c hx NhL1 hL1=>?_)
 revert hx hL1;obtain ⟨i,op,g⟩:=x;intro hx hL1;dsimp only at hx hL1 ⊢
 obtain ⟨hi,hop,hR⟩:=hx
 refine ru 6 ?_
 refine wdc (fun hr0 hc0=>?_) (fun hr0 hc0=>?_)
 ·skip
  have hil:i < e.length:=om;have hkb:=he.2 i hil;have hst:=b8T (n:=e.length) (op:=op) hil
  refine ru 9 ?_
  refine rvl (ptH (e.getD i default)) (rfl) ?_
  refine ru 11 ?_
  refine rvl (a2k (e.getD i default).kids) (rfl) ?_
  refine ru 8 ?_
  first
  | refine a3d 20 (HOp.val (v':=ptH (e.getD i default)) (a0r ty_175.h rfl omy omy (fun h=>(by first | rfl | cases h))) (rfl)) rfl rfl (a0L rfl) rfl rfl (k':=1) rfl ?_
  | refine a3d 20 (HOp.val (v':=ptH (e.getD i default)) (a0j ty_175.h rfl omy (fun h=>(by first | rfl | cases h))) (rfl)) rfl rfl pre0 rfl rfl (k':=1) rfl ?_
  refine clx (c7L (e.getD i default) om om) ?_
  refine ru 8 ?_
  first
  | refine a3C 30 7 27 false _ (fun hb=>HOp.val (v':=.os 8001 g (op.length - (e.getD i default).kids.length) (e.getD i default).kids.length) (b1p el_23.h rfl (.inr ⟨_,_,rfl,rfl⟩) (.inl ⟨rfl,rfl⟩) omb omb omb) (d0s (by simp at hb;omega) (by simp at hb;omega))) rfl rfl rfl rfl pre0 rfl rfl rfl (k':=11) rfl ?_
  | refine a3C 30 7 27 false _ (fun hb=>HOp.val (v':=.os 8001 g (op.length - (e.getD i default).kids.length) (e.getD i default).kids.length) (b1e el_23.h rfl (.inr ⟨_,_,rfl,rfl⟩) (.inl ⟨rfl,rfl⟩) omb omb omb) (d0s (by simp at hb;omega) (by simp at hb;omega))) rfl rfl rfl rfl (a0L rfl) rfl rfl rfl (k':=11) rfl ?_
  refine ru 1 ?_
  first
  | refine a3C 32 7 27 false _ (fun hb=>HOp.val (v':=a2k (e.getD i default).kids) (a0r ty_23.h rfl omb omb (fun h=>(by first | rfl | cases h))) (rfl)) rfl rfl rfl rfl (a0L rfl) rfl rfl rfl (k':=13) rfl ?_
  | refine a3C 32 7 27 false _ (fun hb=>HOp.val (v':=a2k (e.getD i default).kids) (a0j ty_23.h rfl omb (fun h=>(by first | rfl | cases h))) (rfl)) rfl rfl rfl rfl pre0 rfl rfl rfl (k':=13) rfl ?_
  refine a3C 33 7 27 false _ (fun hb=>a0B (xs:=[_,_]) (pre:=[(8001,_)]) (c8Q g (op.length - (e.getD i default).kids.length) (e.getD i default).kids.length op (e.getD i default).kids om om (c8y hb)) ⟨rfl,⟨rfl,trivial⟩⟩) rfl rfl rfl rfl (a0h rfl pre0) rfl rfl rfl (k':=14) rfl ?_
  refine ru 2 ?_
  refine b0U kr kr (c':=c+18) rfl ?_
  refine ru 1 ?_
  refine wdc (fun hr1 hc1=>?_) (fun hr1 hc1=>?_)
  ·skip
   have hf:=c4M hr1;rw [hf,Bool.false_and] at hst
   refine ru 9 ?_
   refine a0q ?_
   refine ru 2 ?_
   refine rt1 ?_
   rw [←hR,hst];exact .imm _
  obtain ⟨hf,hkl⟩:=c0r hr1;rw [hf,Bool.true_and] at hst
  refine ru 7 ?_
  refine a0y 40 (a0d (id:=40) (hs:=[_]) ei_23.h omx rfl omx ⟨rfl,rfl,rfl,rfl,trivial⟩) rfl rfl pre0 rfl rfl (c':=c+19) rfl ?_
  first
  | refine a0y 41 (a0a ei_23.h omy rfl omy omy (a0D rfl omy) omy rfl) rfl rfl (a0h rfl (a0L rfl)) rfl rfl (c':=c+20) rfl ?_
  | refine a0y 41 (a0a ei_23.h omy rfl omy omy (a1a rfl omy) omy rfl) rfl rfl (a0h rfl (a0L rfl)) rfl rfl (c':=c+20) rfl ?_
  | refine a0y 41 (a0a ei_23.h omy rfl omy omy (a0Y rfl) omy rfl) rfl rfl (a0h rfl pre0) rfl rfl (c':=c+20) rfl ?_
  | refine a0y 41 (a0a ei_23.h omy rfl omy omy (a0G 1 (fun _ _=>default) rfl) omy rfl) rfl rfl (a0h rfl pre0) rfl rfl (c':=c+20) rfl ?_
  refine ru 8 ?_
  exact hL1 ((i+1,op.take (op.length - (e.getD i default).kids.length)++[(i:Int)],c+19)) _ _ (by (try dsimp only);exact ⟨by omega,by rw [List.length_append,List.length_take];show _+1≤_;omega,by rw [←hst];exact hR⟩) omd (a0b rfl lrf (tsr rfl (a0u.cons rfl (by dsimp only;exact a3A (by rw [List.length_append,List.length_take];show _+1=_+1;omega)) tsa)) (a0g.cons rfl (by dsimp only;exact c5m (k:=op.length - (e.getD i default).kids.length) (r:=(i:Int)) om om (fun _=>rfl)) a0g.nil))
 refine ru 2 ?_
 refine a0c ?_
 refine ru 16 ?_
 refine rt1 ?_
 rw [←hR,List.drop_eq_nil_of_le om];exact a1H (by simp only [a3p,b8W,c9h,d1m])
theorem c0S {e:List Pt} {j k:Nat} {x:Pt} (hj:j=k) (h:e.getD k default=x):ldv true 5 (c6F e j) 0=ptH x:=by subst hj;subst h;rfl
theorem c2z {l:List Pt} {i:Nat} (h:i < l.length):l.getD i default∈l:=by
 rw [List.getD_eq_getElem?_getD,List.getElem?_eq_getElem h];exact List.getElem_mem h
theorem b6V {t:T} (h:t.ok=true) (hs:t.size≤100000):PtB (T.flat 0 t):=by
 refine ⟨by rw [T.flat_len];exact hs,fun i hi=>?_⟩
 have:=a7Z t 0 h _ (c2z hi)
 omega
theorem b5c {s:List UInt8} {r:List Pt×Int×Int} (h:ParseIs s r):PtB r.1∧(r.2.2=0→rightV r.1=true):=by
  have hB0:PtB ([]:List Pt):=⟨Nat.zero_le _,fun i hi=>absurd hi (Nat.not_lt_zero _)⟩
  have hlen:=a9n s
  cases h with
  | err e hv=>exact ⟨hB0,fun h=>absurd h (a6Z hv)⟩
  | none hv=>exact ⟨hB0,fun _=>rfl⟩
  | odd _ _ _ _ _ _=>exact ⟨hB0,fun h=>absurd (show (2:Int)=0 from h) dcd⟩
  | end_ _ _ _ _=>exact ⟨hB0,fun h=>absurd (show (5:Int)=0 from h) dcd⟩
  | ok l t hv hs =>
    rw [hv] at hlen
    have hll:l.length≤200:=hlen
    have hk:=c5y (b3B hv) hs
    have hz:=a3E hs
    exact ⟨b6V hk omo,fun _=>a5b hk⟩
end
section
def T.kidsT:T→List T
 | .name _=>[]
 | .times _ _ t=>[t]
 | .many _ ts=>ts
theorem a6W (b:Nat) (t:T):(t.top b).kids=rootsL b t.kidsT:=by
 cases t <;> simp [T.top,T.kidsT,rootsL]
theorem a2E {e:List Pt} {b i:Nat} {t:T} (h:AtP e b (T.flat b t)) (hi:i < t.kidsT.length):AtP e (b+T.sizeL (t.kidsT.take i)) (T.flat (b+T.sizeL (t.kidsT.take i)) (t.kidsT.getD i default)):=by
  cases t with
  | name s=>exact absurd hi (Nat.not_lt_zero _)
  | times lo hi' t =>
    obtain rfl:i=0:=by simpa [T.kidsT] using hi
    simp only [T.flat] at h
    have:=a5e h
    simpa [T.kidsT,T.sizeL] using this
  | many k ts=>exact d1U h hi
theorem c7y {t:T} (h:t.ok=true):t.kind=1∨t.kind=2∨t.kind=3∨t.kind=4:=by
  cases t with
  | name s=>exact .inl rfl
  | times lo hi t=>exact .inr (.inr (.inr rfl))
  | many k ts =>
    simp only [T.ok,Bool.and_eq_true,Bool.or_eq_true,decide_eq_true_eq] at h
    rcases h.1.1 with hk | hk
    · exact .inr (.inl hk)
    · exact .inr (.inr (.inl hk))
def b8y (o:List (List UInt8)) (x:Pt):List (List UInt8):=if x.kind=1∧x.name∉o then o++[x.name] else o
def a2r (e:List Pt):List (List UInt8):=e.foldl b8y []
theorem a8v {e:List Pt} {i:Nat} (h:i < e.length):a2r (e.take (i+1))=b8y (a2r (e.take i)) (e.getD i default):=by
 have:e.take (i+1)=e.take i++[e.getD i default]:=by
  rw [List.take_add_one,List.getD_eq_getElem?_getD,List.getElem?_eq_getElem h];rfl
 unfold a2r
 rw [this,List.foldl_append];rfl
theorem a9D {e:List Pt}:∀ i,(a2r (e.take i)).length≤i
  | 0=>by simp [a2r]
  | i + 1 => by
    have ih:=a9D (e:=e) i
    rcases Nat.lt_or_ge i e.length with h | h
    · rw [a8v h]
      unfold b8y
      split
      · rw [List.length_append];show _+1≤_;omega
      · omega
    · rw [List.take_of_length_le omo]
      rw [List.take_of_length_le omo] at ih
      omega
end
section
open Go.RowKit
set_option maxRecDepth 100000
set_option maxHeartbeats 1000000
def a4i (n:Nat):Int:=if n < 257 then n else 257
theorem a6U:∀ (ts:List T) (i:Nat),i < ts.length→T.wL (ts.take (i+1))=T.wL (ts.take i)+(ts.getD i default).w
  | [],i,h=>absurd h (Nat.not_lt_zero _)
  | t::ts,0,_=>by simp [T.wL]
  | t :: ts, i + 1, h => by
    have:=a6U ts i (by simpa using h)
    simp only [List.take_succ_cons,T.wL]
    rw [this]
    simp
    omega
theorem b7W (a b:Nat):(if 257 < a4i a+a4i b then (257:Int) else a4i a+a4i b)=a4i (a+b):=by
 unfold a4i;split <;> split <;> split <;> split <;> omega
theorem b1Y (a k:Nat) (hk:k≤1000):(if 257 < a4i a * (k:Int) then (257:Int) else a4i a * (k:Int))=a4i (a * k)∧0≤a4i a * (k:Int)∧a4i a * (k:Int)≤257000:=by
 have h0:0≤a4i a∧a4i a≤257:=by unfold a4i;split <;> omega
 have h1:0≤a4i a * (k:Int):=Int.mul_nonneg h0.1 omo
 have h2:a4i a * (k:Int)≤257 * (k:Int):=Int.mul_le_mul_of_nonneg_right h0.2 omo
 refine ⟨?_,h1,by omega⟩
 by_cases ha:a < 257
 ·have e:a4i a=(a:Int):=by unfold a4i;rw [if_pos ha]
  rw [e]
  have e2:((a:Int) * (k:Int))=((a * k:Nat):Int):=by rw [Int.natCast_mul]
  rw [e2]
  unfold a4i
  split <;> split <;> omega
 ·have e:a4i a=257:=by unfold a4i;rw [if_neg ha]
  rw [e]
  rcases Nat.eq_zero_or_pos k with rfl | hk0
  ·simp [a4i]
  ·have h3:257≤a * k:=Nat.le_trans (by omega:257≤a) (Nat.le_mul_of_pos_right a hk0)
   have e3:a4i (a * k)=257:=by unfold a4i;rw [if_neg omo]
   rw [e3]
   split <;> omega
theorem b1K (a:Nat):0≤a4i a∧a4i a≤257:=by unfold a4i;split <;> omega
theorem c5C {t:T} (h:t.kind=1) (hok:t.ok=true):t.w=1:=by
 cases t with
 | name s=>rfl
 | times lo hi t=>simp [T.kind] at h
 | many k ts=>simp [T.kind] at h;subst h;simp [T.ok] at hok
theorem b6t {t:T} (h:t.kind=4) (hok:t.ok=true):∃ lo hi u,t=.times lo hi u:=by
 cases t with
 | name s=>simp [T.kind] at h
 | times lo hi t=>exact ⟨lo,hi,t,rfl⟩
 | many k ts=>simp [T.kind] at h;subst h;simp [T.ok] at hok
theorem b1q {t:T} (h1:t.kind≠1) (h:t.kind≠4):t.w=T.wL t.kidsT:=by
 cases t with
 | name s=>simp [T.kind] at h1
 | times lo hi t=>simp [T.kind] at h
 | many k ts=>simp [T.w,T.kidsT]
theorem a7B (lo hi:Int) (h1:0≤lo):(if hi < 0 then (if lo < 1 then 1 else lo) else hi)=((a0m lo hi:Nat):Int):=by
 unfold a0m;split <;> (try split) <;> omega
theorem a9z {t:T} (b:Nat) (h:t.kind=4) (hok:t.ok=true):t.w=T.wL t.kidsT * a0m (t.top b).low (t.top b).high∧0≤(t.top b).low∧(t.top b).low≤20∧(t.top b).high≤20∧a0m (t.top b).low (t.top b).high≤20:=by
 obtain ⟨lo,hi,u,rfl⟩:=b6t h hok
 simp only [T.ok,Bool.and_eq_true,Bool.or_eq_true,decide_eq_true_eq] at hok
 refine ⟨by simp [T.w,T.kidsT,T.wL,T.top],hok.1.1.1,hok.1.1.2,?_,?_⟩
 ·show hi≤20;omega
 ·show a0m lo hi≤20
  unfold a0m
  split <;> (try split) <;> omega
@[reducible] def PlC (e:List Pt) (b:Nat) (t:T):Prop:=HPure Tryz.prog 51 [ptsV e,intV ((b+t.size - 1:Nat):Int)] (intV (a4i t.w))
theorem a8z (e:List Pt) (he:e.length≤100000) (b:Nat) (t:T) (hok:t.ok=true) (hat:AtP e b (T.flat b t)) (hkl:t.kidsT.length≤100000)
  (ih:∀ i,i < t.kidsT.length→PlC e (b+T.sizeL (t.kidsT.take i)) (t.kidsT.getD i default)):PlC e b t:=by
 have htop:=a4b hat
 have hps:=t.size_pos
 have hkid:=a6W b t
 have hrl:=a0M t.kidsT b
 generalize htp:t.top b=p at htop hkid
 have hpk:p.kind=t.kind:=by rw [←htp];exact a7i b t
 refine a0k Tryz.func51 rfl kr _ _ _ rfl 46 rfl rfl (fun w F=>?_)
 refine ru 11 ?_
 refine rvl (ptH p) (c0S om htop.1) ?_
 refine ru 12 ?_
 refine wdc (fun hr0 hc0=>?_) (fun hr0 hc0=>?_)
 ·refine ru 7 ?_
  refine rt1 ?_
  rw [c5C (by rw [←hpk];exact hc0) hok];exact .imm _
 refine ru 17 ?_
 refine a0l (α:=Nat) (fun x c=>⟨46,[(0,.v (ptsV e)),(5,.v (.pt 5 0 0 0)),(6,.v (intV (a4i (T.wL (t.kidsT.take x))))),(18,.v (a2k p.kids)),(19,.v (intV p.kids.length)),(20,.v (intV x))],[(5,⟨0,1,5,175,0,fun _=>ptF p⟩)],c⟩) (fun x=>x≤t.kidsT.length) (fun x=>t.kidsT.length - x) (0) om (a0b rfl lrf tsa hsa) (fun i c hx NhL1 hL1=>?_)
 (try dsimp only at hx hL1 ⊢)
 have hm1:=b1K (T.wL (t.kidsT.take i))
 refine ru 6 ?_
 refine wdc (fun hr1 hc1=>?_) (fun hr1 hc1=>?_)
 ·skip
  have him:i < t.kidsT.length:=(by have h:=hr1;simp [hkid,hrl] at h;omega);have hka:=a2E hat him;have hkt:=a4b hka;have hks:=(t.kidsT.getD i default).size_pos;have hroot:=a3r t.kidsT b i him;have hm2:=b1K (t.kidsT.getD i default).w;have hwt:=a6U t.kidsT i him;have hma:=b7W (T.wL (t.kidsT.take i)) (t.kidsT.getD i default).w
  refine ru 8 ?_
  refine rvl (intV ((b+T.sizeL (t.kidsT.take i)+(t.kidsT.getD i default).size - 1:Nat):Int)) (by exact a3y (i:=i) om (by rw [hkid,hroot];unfold T.root;omega)) ?_
  refine ru 7 ?_
  refine cll (ih i him) ?_
  refine ru 2 ?_
  refine rvl (intV (a4i (T.wL (t.kidsT.take (i+1))))) (by rw [hwt,←hma]) ?_
  refine ru 8 ?_
  exact hL1 (i+1) _ _ omd omd (a0b rfl lrf tsa hsa)
 have hit:i=t.kidsT.length:=(by have h:=hr1;simp [hkid,hrl] at h;omega);rw [hit,List.take_length]
 refine ru 2 ?_
 refine a0c ?_
 refine ru 10 ?_
 refine wdc (fun hr2 hc2=>?_) (fun hr2 hc2=>?_)
 ·skip
  have hct:=a9z b (by rw [←hpk];exact hc2) hok;rw [htp] at hct;have hmi:=a7B p.low p.high hct.2.1;have hmm:=b1Y (T.wL t.kidsT) (a0m p.low p.high) om
  refine ru 7 ?_
  refine a7K (α:=Nat) (fun x c=>⟨46,[(5,.v (.pt 5 0 0 0)),(6,.v (intV (a4i (T.wL t.kidsT)))),(9,.v (intV ((a0m p.low p.high:Nat):Int)))],[(5,⟨0,1,5,175,0,fun _=>ptF p⟩)],c⟩) (fun x=>True) (fun NhJ2 hJ2=>?_) (fun k c hx=>?_)
  ·refine ru 6 ?_
   refine wdc (fun hr3 hc3=>?_) (fun hr3 hc3=>?_)
   ·refine ru 4 ?_
    refine rvl (intV ((a0m p.low p.high:Nat):Int)) (by rw [←hmi,if_pos hc3]) ?_
    refine ru 2 ?_
    exact hJ2 (0) _ _ (by (try dsimp only);first | done | trivial) (a0b rfl lrf tsa hsa)
   refine ru 1 ?_
   exact hJ2 (0) _ _ (by (try dsimp only);first | done | trivial) (a0b rfl lrf (tsr rfl (tsr rfl (a0u.cons rfl (by rw [←hmi,if_neg hc3];exact .refl _) a0u.nil))) hsa)
  ·skip
   (try dsimp only at hx ⊢)
   refine ru 5 ?_
   refine rvl (intV (a4i t.w)) (by rw [hct.1,←hmm.1]) ?_
   refine ru 10 ?_
   refine rt1 ?_
   exact .imm _
 have hwm:=b1q (by rw [←hpk];exact hc0) (by rw [←hpk];exact hc2);rw [←hwm]
 refine ru 9 ?_
 refine rt1 ?_
 exact .imm _
theorem b3M:∀ ts:List T,ts.length≤T.sizeL ts
 | []=>Nat.zero_le _
 | t::ts=>by have:=b3M ts;have:=t.size_pos;simp only [List.length_cons,T.sizeL];omega
theorem a7b {t:T}:t.kidsT.length≤t.size:=by
 cases t with
 | name s=>exact Nat.zero_le _
 | times lo hi t=>simp [T.kidsT,T.size]
 | many k ts=>have:=b3M ts;simp only [T.kidsT,T.size];omega
mutual
theorem b2R (e:List Pt) (he:e.length≤100000):∀ (t:T) (b:Nat),t.ok=true→AtP e b (T.flat b t)→PlC e b t
  | .name s,b,hok,hat=>a8z e he b (.name s) hok hat (Nat.zero_le _) (fun i hi=>absurd hi (Nat.not_lt_zero _))
  | .times lo hi t, b, hok, hat => by
    have hok':t.ok=true:=by simp only [T.ok,Bool.and_eq_true] at hok;exact hok.2
    refine a8z e he b (.times lo hi t) hok hat (by simp [T.kidsT]) (fun i hi=>?_)
    obtain rfl:i=0:=by simpa [T.kidsT] using hi
    have:=b2R e he t b hok' (by simp only [T.flat] at hat;exact a5e hat)
    simpa [T.kidsT,T.sizeL] using this
  | .many k ts, b, hok, hat => by
    have hok':T.okL ts=true:=by simp only [T.ok,Bool.and_eq_true] at hok;exact hok.2
    have hkl:(T.many k ts).kidsT.length≤100000:=by
      have:=a7b (t:=.many k ts);have:=(a4b hat).2;omega
    exact a8z e he b (.many k ts) hok hat hkl (fun i hi=>b3U e he ts hok' i hi _ (a2E hat hi))
theorem b3U (e:List Pt) (he:e.length≤100000):∀ ts:List T,T.okL ts=true→∀ i,i < ts.length→∀ b,AtP e b (T.flat b (ts.getD i default))→PlC e b (ts.getD i default)
  | [],_,i,hi=>absurd hi (Nat.not_lt_zero _)
  | t :: ts, hok, i, hi => fun b hat => by
    simp only [T.okL,Bool.and_eq_true] at hok
    cases i with
    | zero=>exact b2R e he t b hok.1 hat
    | succ i=>exact b3U e he ts hok.2 i (by simpa using hi) b (by simpa using hat)
end
@[reducible] def d2x (l:List Pc):Nat→Nat→HV:=fun i=>pcF (l.getD i default)
@[reducible] def c3s (l:List Pc):HV:=.sl 9 l.length (d2x l)
@[reducible] def d3C (g:Nat) (l:List Pc):HObj:=⟨g,l.length,9,128,0,d2x l⟩
instance (l:List Pc):Frz (c3s l):=⟨.sl _ _ _ _ fun i j _ _=>b4E _ j⟩
theorem d3h {sh:List (Nat×HObj)} {f:Nat→HV} {p:Pc} (h:∀ j,j < 9→f j=pcF p j):Fz sh (.agg 9 f) (pcH p):=.agg _ _ _ fun j hj=>by rw [h j hj];exact b4E p j
theorem d0k (l:List Pc):HPure Tryz.prog 115 [c3s l] (.fn (.func 127) 1 (fun i=>[HV.fp 1 (fun _=>c3s l)].getD i default)):=by
 refine a0k Tryz.func115 rfl kr _ _ _ rfl 4 rfl rfl (fun w F=>?_)
 refine ru 13 ?_
 refine a5q rfl (a0f rfl) [(1,_)] rfl (a0h rfl pre0) ?_
 exact .fn _ _ _ _ (fun i hi=>by obtain rfl:i=0:=(by simpa using hi);exact .pt 1 0 0 0 1 _ (fun _=>c3s l) (List.mem_cons_self ..) rfl (Nat.lt_succ_self 0) (Nat.le_refl 1) (fun j hj=>show Fz _ (c3s l) (c3s l) from Frz.fz))
theorem c7M (l:List Pc) (hl:l.length≤100000):c1t Tryz.prog 127 [.fp 1 (fun _=>c3s l)] l.length (fun i=>[intV ((l.length - 1 - i:Nat):Int),pcH (l.getD (l.length - 1 - i) default)]):=by
 refine b7J Tryz.func127 rfl kr _ _ _ _ rfl 19 rfl rfl (fun X hXN hXy O W F hg=>?_)
 refine ru 9 ?_
 refine b2Q (α:=Nat) (fun x=>[(0,.v (.fn (.yield X.l) 0 fun _=>default)),(1,.v (.fp 1 (fun _=>c3s l))),(3,.v (intV ((x:Int) - 1)))]) (fun x=>x≤l.length) (fun x=>l.length - x) (fun x=>x) (l.length) (by exact Nat.le_refl _) (by first | exact hg | simpa using hg) (a0b rfl lrf tsa a0g.nil) (fun r O W F c hx hg NhL1 hL1=>?_)
 (try dsimp only at hx hg hL1 ⊢)
 refine ru 7 ?_
 refine wdc (fun hr0 hc0=>?_) (fun hr0 hc0=>?_)
 ·skip
  have hr0:0 < r:=om;have hrr:l.length - 1 - (l.length - r)=r - 1:=om;have hrn:((r:Int) - 1).toNat=r - 1:=om
  refine ru 12 ?_
  refine b7f hg (by rw [hXN];omega) (xs:=[_,_]) [(0,.v (.fn (.yield X.l) 0 fun _=>default)),(1,.v (.fp 1 (fun _=>c3s l))),(3,.v (intV ((r:Int) - 1)))] rfl ⟨rfl,⟨rfl,trivial⟩⟩ (by rw [hXy];exact ⟨b5v (by rw [hrr];omega),d3h (fun j hj=>by rw [hrr];show pcF _ j=_;rw [hrn]),trivial⟩) (b4c.cons rfl (Fz.eq rfl) (b4c.cons rfl (Fz.eq rfl) (b4c.cons rfl (Fz.eq rfl) b4c.nil))) rfl (fun O W F hg=>?_) (fun W F hfr hjx=>?_)
  ·refine ru 1 ?_
   refine a2H ?_
   refine ru 1 ?_
   refine wdc (fun hr1 hc1=>?_) (fun hr1 hc1=>?_)
   ·skip
    exfalso;simp at hr1
   refine ru 6 ?_
   refine rvl (intV (((r - 1:Nat):Int) - 1)) (congrArg intV om) ?_
   refine ru 2 ?_
   exact hL1 (r - 1) O W F _ _ omd omd (by (try dsimp only);rw [show l.length - (r - 1)=l.length - r+1 by omega];exact hg) (a0b rfl lrf tsa a0g.nil)
  ·refine ru 1 ?_
   refine a2H ?_
   refine ru 1 ?_
   refine wdc (fun hr1 hc1=>?_) (fun hr1 hc1=>?_)
   ·refine ru 3 ?_
    refine a0q ?_
    refine ru 1 ?_
    refine b1w rfl ?_
    exact .inr ⟨_,by rw [hXN];omega,hjx⟩
   exfalso;simp at hr1
 refine ru 2 ?_
 refine a0c ?_
 refine ru 1 ?_
 refine a1t ?_
 refine b1w rfl ?_
 obtain rfl:r=0:=om;exact .inl ⟨O,by have hj:=hg.j;rw [hXN];simpa using hj⟩
@[reducible] def nbO (g g1:Nat):HObj:=⟨g,1,1,51,0,fun _ _=>.pt 9001 g1 0 0⟩
@[reducible] def pcO (g:Nat) (x:Pc):HObj:=⟨g,1,9,128,0,fun _=>pcF x⟩
@[reducible] def onF (l:List Bag):Nat→Bag:=fun p=>l.getD p Bag.zero
@[reducible] def c5t (g1 g2 g3 N:Nat) (on:List Bag) (β:Nat→Bag):List (Nat×HObj):=[(9001,b0P g1 (.os 9002 g2 0 N) (.os 9003 g3 0 N)),(9002,a4W g2 N (onF on)),(9003,a4W g3 N β)]
@[reducible] def b9q (g1 g2 g3 g4 N:Nat) (on:List Bag) (β:Nat→Bag):List (Nat×HObj):=[(9001,b0P g1 (.os 9002 g2 0 N) (.os 9003 g3 0 N)),(9002,a4W g2 N (onF on)),(9003,a4W g3 N β),(9011,nbO g4 g1)]
def lkA (lo hi:Int) (g:Nat→Ly) (many k:Nat):List Lk:=(a4n lo hi g many k).2.1++(g k).lk++(if hi < 0∧k+1=many then [((g k).pc.ends,(g k).pc.first)] else [])
theorem c3h {lo hi:Int} {g:Nat→Ly} {many k:Nat} (h:(k:Int) < lo):a4n lo hi g many (k+1)=((a4n lo hi g many k).1++(g k).on,lkA lo hi g many k++[((a4n lo hi g many k).2.2.1.ends,(g k).pc.first)],(a4n lo hi g many k).2.2.1.join (g k).pc,(a4n lo hi g many k).2.2.2):=by
 simp only [a4n];rw [if_pos h];rfl
theorem c1D {lo hi:Int} {g:Nat→Ly} {many k:Nat} (h:¬ (k:Int) < lo):a4n lo hi g many (k+1)=((a4n lo hi g many k).1++(g k).on,lkA lo hi g many k,(a4n lo hi g many k).2.2.1,(a4n lo hi g many k).2.2.2++[(g k).pc]):=by
 simp only [a4n];rw [if_neg h];rfl
theorem d1l {lo hi:Int} {g:Nat→Ly} {many N w k:Nat} (hg:∀ k,k < many→(g k).Ok (N+k * w) w) (hk:k < many):Lks (N+k * w+w) (lkA lo hi g many k):=by
 have hx:=hg k hk
 refine (((b1E hg k omo).2.2.1.mono omo).app hx.lk).app ?_
 split
 ·exact a5G hx.pc.2 hx.pc.1 hx.inB.2
 ·exact fun q hq=>by cases hq
theorem a6G {N M:Nat} {x:Bag} (h:InB N M x):∀ p,p < 256→x.has p=true→p < M:=fun p hp hx=>(h p hp hx).2
theorem b6Z {lo hi:Int} {g:Nat→Ly} {many:Nat}:∀ k,(a4n lo hi g many k).2.2.2.length≤k
  | 0=>Nat.le_refl _
  | k + 1 => by
    have:=b6Z (lo:=lo) (hi:=hi) (g:=g) (many:=many) k
    by_cases h:(k:Int) < lo
    · rw [c3h h];simp only;omega
    · rw [c1D h];simp only [List.length_append,List.length_singleton];omega
theorem b2c {l:List Pc} {j:Nat} (h:j < l.length):l.drop (l.length - (j+1))=l.getD (l.length - 1 - j) default::l.drop (l.length - j):=by
 have e:l.length - (j+1)=l.length - 1 - j:=by omega
 have hlt:l.length - 1 - j < l.length:=by omega
 rw [e,List.drop_eq_getElem_cons hlt,List.getD_eq_getElem?_getD,List.getElem?_eq_getElem hlt]
 simp only [Option.getD_some]
 congr 2
 omega
theorem b6A {l:List Pc} {j:Nat} (h:j < l.length):l.getD j default∈l:=by
 rw [List.getD_eq_getElem?_getD,List.getElem?_eq_getElem h];exact List.getElem_mem h
theorem c3C (c g1 g2 g3 g4 N0 w:Nat) (on:List Bag) (β:Nat→Bag) (hon:on.length=N0) (hβ:∀ p,(β p).ok) (hz:∀ p,N0≤p→p < 256→β p=Bag.zero) (p:Pt) (g:Nat→Ly) (x1 x2 x3:HV) (hlo:0≤p.low) (hlo2:p.low≤20) (hhi:p.high≤20) (hm20:a0m p.low p.high≤20)
  (hg:∀ k,k < a0m p.low p.high→(g k).Ok (N0+k * w) w) (hN:N0+a0m p.low p.high * w≤256)
  (hag:∀ k,k < a0m p.low p.high→∀ M c g2 g3 on β,M=N0+k * w→on.length=M→(∀ p,(β p).ok)→(∀ p,M≤p→p < 256→β p=Bag.zero) →
   a2y Tryz.prog 91 c ([]++[.pt 9011 g4 0 0,x1,x2,x3]) (b9q g1 g2 g3 g4 M on β) (a4Q (fun (y:Nat×Nat) _=>True) (fun _=>pcH (g k).pc) (fun y=>b9q g1 y.1 y.2 g4 (M+w) (on++(g k).on) (links β (g k).lk)))) :
  a2y Tryz.prog 90 c [.pt 9001 g1 0 0,ptH p,.fn (.func 91) 4 (fun i=>[HV.pt 9011 g4 0 0,x1,x2,x3].getD i default)] (b9q g1 g2 g3 g4 N0 on β)
   (a4Q (fun (y:Nat×Nat) _=>True) (fun _=>pcH (a7O p.low p.high g).pc) (fun y=>b9q g1 y.1 y.2 g4 (N0+a0m p.low p.high * w) (on++(a7O p.low p.high g).on) (links β (a7O p.low p.high g).lk))):=by
 have hmi:=a7B p.low p.high hlo
 obtain ⟨many,hmany⟩:∃ m,m=a0m p.low p.high:=⟨_,rfl⟩
 rw [←hmany] at hm20 hg hN hag hmi ⊢
 have hok:=b1E (lo:=p.low) (hi:=p.high) hg
 let k0:=c
 refine a9h Tryz.func90 rfl kr _ _ _ _ rfl 71 rfl rfl (fun X ok hX hM=>?_)
 refine ru 14 ?_
 refine a7K (α:=Nat) (fun x c=>⟨71,[(2,.v (.fn (.func 91) 4 (fun i=>[HV.pt 9011 g4 0 0,x1,x2,x3].getD i default))),(3,.v (.pt 3 k0 0 0)),(4,.v (.pt 4 (k0+1) 0 0)),(6,.v (.pt 6 (k0+2) 0 0)),(7,.v (intV (many:Int)))],[(9001,b0P g1 (.os 9002 g2 0 N0) (.os 9003 g3 0 N0)),(9002,a4W g2 N0 (onF on)),(9003,a4W g3 N0 β),(9011,nbO g4 g1),(3,nbO k0 g1),(4,⟨k0+1,1,5,175,0,fun _=>ptF p⟩),(6,pcO (k0+2) default)],c⟩) (fun x=>x≤0) (fun NhJ1 hJ1=>?_) (fun q c hx=>?_)
 ·refine ru 6 ?_
  refine wdc (fun hr0 hc0=>?_) (fun hr0 hc0=>?_)
  ·refine ru 4 ?_
   refine rvl (intV (many:Int)) (by rw [←hmi,if_pos hc0]) ?_
   refine ru 2 ?_
   exact hJ1 (0) _ _ (by (try dsimp only);first | done | exact Nat.le_refl _) (a0b rfl lrf tsa (hsr rfl (hsr rfl (hsr rfl (hsr rfl (hsr rfl (hsr rfl (a0g.cons rfl (a3x (by exact j9 rfl rfl rfl rfl rfl rfl rfl rfl rfl)) a0g.nil))))))))
  refine ru 1 ?_
  exact hJ1 (0) _ _ (by (try dsimp only);first | done | exact Nat.le_refl _) (a0b rfl lrf (tsr rfl (tsr rfl (tsr rfl (tsr rfl (a0u.cons rfl (by rw [←hmi,if_neg hc0];exact .refl _) a0u.nil))))) (hsr rfl (hsr rfl (hsr rfl (hsr rfl (hsr rfl (hsr rfl (a0g.cons rfl (a3x (by exact j9 rfl rfl rfl rfl rfl rfl rfl rfl rfl)) a0g.nil))))))))
 ·skip
  (try dsimp only at hx ⊢)
  let k1:=c
  refine ru 20 ?_
  refine a9J 9 8009 9 128 ((d2x [])) rfl dcd rfl (c':=c+3) rfl ?_
  refine a0l (α:=Nat×Nat×List Bag×(Nat→Bag)×Pc×List Pc×Nat×Nat×Nat) (fun x c=>⟨71,[(2,.v (.fn (.func 91) 4 (fun i=>[HV.pt 9011 g4 0 0,x1,x2,x3].getD i default))),(3,.v (.pt 3 k0 0 0)),(4,.v (.pt 4 (k0+1) 0 0)),(6,.v (.pt 6 (k0+2) 0 0)),(7,.v (intV (many:Int))),(8,.v (.pt 8 k1 0 0)),(9,.v (.os 8009 x.2.2.2.2.2.2.2.2 0 x.2.2.2.2.2.1.length)),(23,.v (intV (many:Int))),(24,.v (intV (x.1:Int)))],[(9001,b0P g1 (.os 9002 x.2.2.2.2.2.2.1 0 x.2.1) (.os 9003 x.2.2.2.2.2.2.2.1 0 x.2.1)),(9002,a4W x.2.2.2.2.2.2.1 x.2.1 (onF x.2.2.1)),(9003,a4W x.2.2.2.2.2.2.2.1 x.2.1 x.2.2.2.1),(9011,nbO g4 g1),(3,nbO k0 g1),(4,⟨k0+1,1,5,175,0,fun _=>ptF p⟩),(6,pcO (k0+2) default),(8,pcO k1 x.2.2.2.2.1),(8009,d3C x.2.2.2.2.2.2.2.2 x.2.2.2.2.2.1)],c⟩) (fun x=>x.1≤many∧x.2.1=N0+x.1 * w∧x.2.2.1=on++(a4n p.low p.high g many x.1).1∧x.2.2.2.1=links β (a4n p.low p.high g many x.1).2.1∧x.2.2.2.2.1=(a4n p.low p.high g many x.1).2.2.1∧x.2.2.2.2.2.1=(a4n p.low p.high g many x.1).2.2.2) (fun x=>many - x.1) ((0,N0,on,β,Pc.nil,[],g2,g3,c+2)) (by exact ⟨Nat.zero_le _,by simp,by simp [a4n],rfl,rfl,rfl⟩) (a0b rfl lrf tsa (hsr rfl (hsr rfl (hsr rfl (hsr rfl (hsr rfl (hsr rfl (hsr rfl (a0g.cons rfl (a3x (by exact j9 rfl rfl rfl rfl rfl rfl rfl rfl rfl)) hsa))))))))) (fun x c hx NhL2 hL2=>?_)
  revert hx hL2;obtain ⟨kk,MM,on1,be1,ou1,rs1,y2,y3,gr⟩:=x;intro hx hL2;dsimp only at hx hL2 ⊢
  obtain ⟨hk,hMM,hon1,hbe1,hou1,hrs1⟩:=hx
  have hrl:=(show rs1.length≤kk by rw [hrs1];exact b6Z kk)
  refine ru 6 ?_
  refine wdc (fun hr1 hc1=>?_) (fun hr1 hc1=>?_)
  ·skip
   have hkm:kk < many:=om;have hgk:=hg kk hkm;obtain ⟨a1,a2,a3,a4,a5,a6⟩:=hok kk hk;have hkw:kk * w+w≤many * w:=(by rw [←Nat.succ_mul];exact Nat.mul_le_mul_right w hkm);have hMw:MM+w≤256:=om;have hine:InB (N0+kk * w) (MM+w) (g kk).pc.ends:=(by rw [hMM];exact hgk.inB.2);have hbe2:∀ q,(links be1 (g kk).lk q).ok:=a1i hgk.lk (by rw [hbe1];exact a1i a3 hβ);have hou2:ou1.ok:=(by rw [hou1];exact a4);have hino:InB N0 (MM+w) ou1.ends:=(by rw [hou1,hMM];exact a5.2.mono lrf om)
   refine ru 13 ?_
   refine b4b 28 (xs:=[]) (cs:=[_,_,_,_]) (pre:=[(9001,_),(9002,_),(9003,_),(9011,_)]) (hag kk hkm MM _ y2 y3 on1 be1 hMM (by rw [hon1,List.length_append,a1,hon,hMM]) (by rw [hbe1];exact a1i a3 hβ) (by rw [hbe1,hMM];exact a2S a3 (fun q hq hq2=>hz q om hq2))) rfl rfl (fun i hi=>by first | rfl | (rcases i with _ | _ | _ | _ | i <;> first | rfl | (exact absurd hi om) | (simp at hi))) trivial (a0h rfl (a0h rfl (a0h rfl (a0h rfl pre0)))) rfl rfl (fun x1 c1 hzz=>?_)
   obtain ⟨z2,z3⟩:=x1
   (try dsimp only)
   refine ru 4 ?_
   refine a7K (α:=Nat→Bag) (fun x c=>⟨71,[(2,.v (.fn (.func 91) 4 (fun i=>[HV.pt 9011 g4 0 0,x1,x2,x3].getD i default))),(3,.v (.pt 3 k0 0 0)),(4,.v (.pt 4 (k0+1) 0 0)),(6,.v (.pt 6 (k0+2) 0 0)),(7,.v (intV (many:Int))),(8,.v (.pt 8 k1 0 0)),(9,.v (.os 8009 gr 0 rs1.length)),(10,.v (intV (kk:Int))),(11,.v (.pt 11 c1 0 0)),(23,.v (intV (many:Int))),(24,.v (intV (kk:Int)))],[(9001,b0P g1 (.os 9002 z2 0 (MM+w)) (.os 9003 z3 0 (MM+w))),(9002,a4W z2 (MM+w) (onF (on1++(g kk).on))),(9003,a4W z3 (MM+w) x),(9011,nbO g4 g1),(3,nbO k0 g1),(4,⟨k0+1,1,5,175,0,fun _=>ptF p⟩),(6,pcO (k0+2) default),(8,pcO k1 ou1),(8009,d3C gr rs1),(11,pcO c1 (g kk).pc)],c⟩) (fun x=>x=links β (lkA p.low p.high g many kk)) (fun NhJ3 hJ3=>?_) (fun be2 c hx=>?_)
   ·refine ru 13 ?_
    refine wdc (fun hr2 hc2=>?_) (fun hr2 hc2=>?_)
    ·refine ru 6 ?_
     refine (a1b 40 [] rfl pre0 rfl ((show Fz [] _ (bagH (g kk).pc.ends) from a2o (by exact j4 rfl rfl rfl rfl)))).seq ?_
     refine (a1b 42 [] rfl pre0 rfl ((show Fz [] _ (bagH (g kk).pc.first) from a2o (by exact j4 rfl rfl rfl rfl)))).seq ?_
     refine hm_ 43 (a1Z (xs:=[_,_,_]) (pre:=[(9001,_),(9002,_),(9003,_)]) (c6w (g kk).pc.ends (g kk).pc.first hgk.pc.2 hgk.pc.1 (MM+w) g1 z2 z3 _ _ hbe2 hMw (a6G hine)) ((c9M rfl)) ⟨rfl,⟨rfl,⟨rfl,trivial⟩⟩⟩) rfl rfl (a0h rfl (a0h rfl (a0h rfl pre0))) rfl rfl (c':=c1+3) rfl ?_
     refine ru 1 ?_
     exact hJ3 (a2i (links be1 (g kk).lk) ((g kk).pc.ends,(g kk).pc.first)) _ _ (by (try dsimp only);rw [hbe1];unfold lkA;rw [if_pos om,a0P,a0P];rfl) (a0b rfl lrf tsa hsa)
    refine ru 1 ?_
    exact hJ3 (links be1 (g kk).lk) _ _ (by (try dsimp only);rw [hbe1];unfold lkA;rw [if_neg (fun h=>by simp [h.1] at hc2;omega),List.append_nil,a0P]) (a0b rfl lrf tsa hsa)
   ·skip
    (try dsimp only at hx ⊢)
    have hbe3:∀ q,(be2 q).ok:=(by rw [hx];exact a1i (d1l hg hkm) hβ)
    refine ru 8 ?_
    refine wdc (fun hr3 hc3=>?_) (fun hr3 hc3=>?_)
    ·refine ru 4 ?_
     refine hm_ 51 (a1Z (xs:=[_,_,_]) (pre:=[(9001,_),(9002,_),(9003,_)]) (b7z ou1 (g kk).pc hou2 hgk.pc (MM+w) g1 z2 z3 _ _ hbe3 hMw (a6G hino)) ((c9M rfl)) ⟨rfl,⟨rfl,⟨rfl,trivial⟩⟩⟩) rfl rfl (a0h rfl (a0h rfl (a0h rfl pre0))) rfl rfl (c':=c+1) rfl ?_
     refine ru 8 ?_
     exact hL2 ((kk+1,MM+w,on1++(g kk).on,a2i be2 (ou1.ends,(g kk).pc.first),ou1.join (g kk).pc,rs1,z2,z3,gr)) _ _ (by (try dsimp only);have hA:=c3h (hi:=p.high) (g:=g) (many:=many) (show (kk:Int) < p.low by omega);exact ⟨by omega,by rw [hMM,Nat.succ_mul,Nat.add_assoc],by rw [hA,hon1,List.append_assoc],by rw [hA,hx,hou1];simp only;rw [a0P];rfl,by rw [hA,hou1],by rw [hA,hrs1]⟩) omd (a0b rfl lrf tsa (hsr rfl (hsr rfl (hsr rfl (hsr rfl (hsr rfl (hsr rfl (hsr rfl (a0g.cons rfl (a3x (by exact j9 rfl rfl rfl rfl rfl rfl rfl rfl rfl)) hsa)))))))))
    refine ru 3 ?_
    refine a0y 54 (a0d (id:=54) (hs:=[_]) ei_201.h omx rfl omx ⟨rfl,rfl,rfl,rfl,trivial⟩) rfl rfl pre0 rfl rfl (c':=c+1) rfl ?_
    first
    | refine a0y 55 (a0a ei_201.h omy rfl omy omy (a0D rfl omy) omy rfl) rfl rfl (a0h rfl (a0L rfl)) rfl rfl (c':=c+2) rfl ?_
    | refine a0y 55 (a0a ei_201.h omy rfl omy omy (a1a rfl omy) omy rfl) rfl rfl (a0h rfl (a0L rfl)) rfl rfl (c':=c+2) rfl ?_
    | refine a0y 55 (a0a ei_201.h omy rfl omy omy (a0Y rfl) omy rfl) rfl rfl (a0h rfl pre0) rfl rfl (c':=c+2) rfl ?_
    | refine a0y 55 (a0a ei_201.h omy rfl omy omy (a0G 9 (fun _ _=>default) rfl) omy rfl) rfl rfl (a0h rfl pre0) rfl rfl (c':=c+2) rfl ?_
    refine ru 8 ?_
    exact hL2 ((kk+1,MM+w,on1++(g kk).on,be2,ou1,rs1++[(g kk).pc],z2,z3,c+1)) _ _ (by (try dsimp only);have hA:=c1D (hi:=p.high) (g:=g) (many:=many) (show ¬ (kk:Int) < p.low by omega);exact ⟨by omega,by rw [hMM,Nat.succ_mul,Nat.add_assoc],by rw [hA,hon1,List.append_assoc],by rw [hA,hx],by rw [hA,hou1],by rw [hA,hrs1]⟩) omd (a0b rfl lrf (tsr rfl (tsr rfl (tsr rfl (tsr rfl (tsr rfl (tsr rfl (a0u.cons rfl (a3A sml) tsa))))))) (hsr rfl (hsr rfl (hsr rfl (hsr rfl (hsr rfl (hsr rfl (hsr rfl (hsr rfl (a0g.cons rfl (by exact a0N (enc:=pcF) (d:=default) rfl (fun i j _ _=>.refl _) (fun j hj=>.refl _)) a0g.nil))))))))))
  have hkm:kk=many:=om;obtain ⟨a1,a2,a3,a4,a5,a6⟩:=hok kk hk;have hMm:MM=N0+many * w:=(by rw [hMM,hkm]);have hM256:MM≤256:=(by rw [hMm];exact hN);have hrs:∀ x∈rs1,x.ok∧x.inB N0 MM:=(by rw [hrs1,hMM];exact a6);have hou2:ou1.ok:=(by rw [hou1];exact a4);have hino:InB N0 MM ou1.ends:=(by rw [hou1,hMM];exact a5.2);have hbe7:∀ q,(be1 q).ok:=(by rw [hbe1];exact a1i a3 hβ)
  refine ru 2 ?_
  refine a0c ?_
  refine ru 13 ?_
  refine (a1b 58 [(8009,_)] rfl (a0h rfl pre0) rfl ((show Fz _ _ (c3s rs1) from a2v (l:=rs1) (enc:=pcF) (d:=default) (List.mem_cons_self ..) rfl rfl lrf (fun i j hi hj=>b4E _ j)))).seq ?_
  refine cll (d0k rs1) ?_
  refine ru 3 ?_
  refine a7M (α:=Nat×(Nat→Bag)×Pc) ⟨rfl,rfl,rfl⟩ (c7M rs1 om) rfl (cs:=[_]) rfl (fun i hi=>by first | rfl | (cases i <;> first | rfl | (simp at hi))) ⟨(Fz.eq rfl),trivial⟩ rfl (fun _=>rfl) rfl (fun x=>[(9001,b0P g1 (.os 9002 y2 0 MM) (.os 9003 y3 0 MM)),(9002,a4W y2 MM (onF on1)),(9003,a4W y3 MM x.2.1),(9011,nbO g4 g1),(3,nbO k0 g1),(6,pcO (k0+2) default),(8,pcO k1 ou1),(12,pcO c x.2.2)]) (fun x=>x.1) (fun x=>x.1≤rs1.length∧x.2.1=links be1 (a2h (rs1.drop (rs1.length - x.1))).1∧x.2.2=(a2h (rs1.drop (rs1.length - x.1))).2) ((0,be1,Pc.nil)) (by exact ⟨Nat.zero_le _,by simp [a2h,links],by simp [a2h]⟩) (by first | rfl | omega) (hsr rfl (hsr rfl (hsr rfl (hsr rfl (hsr rfl (hsr rfl (hsr rfl (a0g.cons rfl (a3x (by exact j9 rfl rfl rfl rfl rfl rfl rfl rfl rfl)) a0g.nil)))))))) rfl (fun x c hx hi C1 lr hC1 NhR4 hR4=>?_) (fun x c hx hi=>?_)
  ·skip
   revert hx hi hR4;obtain ⟨jj,be4,ta4⟩:=x;intro hx hi hR4;dsimp only at hx hi hR4 ⊢
   obtain ⟨hj,hbe4,hta4⟩:=hx
   have htt:=a7c (N:=N0) (M:=MM) (l:=rs1.drop (rs1.length - jj)) (fun x hx=>hrs x (List.mem_of_mem_drop hx));have hto:ta4.ok:=(by rw [hta4];exact htt.2.1);have hbe5:∀ q,(be4 q).ok:=(by rw [hbe4];exact a1i htt.1 hbe7);have hxm:=hrs _ (b6A (l:=rs1) (j:=rs1.length - 1 - jj) om);have hxo:=hxm.1;have hxin:=hxm.2.2
   refine ru 4 ?_
   refine hR4 _ (fun C2 hC5=>?_)
   refine ru 6 ?_
   refine hm_ 65 (a1Z (xs:=[_,_,_]) (pre:=[(9001,_),(9002,_),(9003,_)]) (b7z (rs1.getD (rs1.length - 1 - jj) default) ta4 hxo hto MM g1 y2 y3 _ _ hbe5 hM256 (a6G hxin)) ((c9M rfl)) ⟨rfl,⟨rfl,⟨rfl,trivial⟩⟩⟩) rfl rfl (a0h rfl (a0h rfl (a0h rfl pre0))) rfl rfl (c':=c+3) rfl ?_
   refine ru 8 ?_
   exact a2C ⟨(jj+1,a2i be4 ((rs1.getD (rs1.length - 1 - jj) default).ends,ta4.first),{ (rs1.getD (rs1.length - 1 - jj) default).join ta4 with empty:=true }),by (try dsimp only);exact ⟨by omega,by rw [b2c hi,hbe4,hta4];simp only [a2h];rw [a0P];rfl,by rw [b2c hi,hta4];rfl⟩,by first | rfl | omega,(hsr rfl (hsr rfl (hsr rfl (hsr rfl (hsr rfl (hsr rfl (hsr rfl (a0g.cons rfl (a3x (by exact j9 rfl rfl rfl rfl rfl rfl rfl rfl rfl)) a0g.nil))))))))⟩
  ·skip
   revert hx hi;obtain ⟨jj,be4,ta4⟩:=x;intro hx hi;dsimp only at hx hi ⊢
   obtain ⟨hj,hbe4,hta4⟩:=hx
   have htt:=a7c (N:=N0) (M:=MM) (l:=rs1.drop (rs1.length - jj)) (fun x hx=>hrs x (List.mem_of_mem_drop hx));have hto:ta4.ok:=(by rw [hta4];exact htt.2.1);have hbe5:∀ q,(be4 q).ok:=(by rw [hbe4];exact a1i htt.1 hbe7);have hta5:ta4=(a2h rs1).2:=(by rw [hta4,hi,Nat.sub_self,List.drop_zero]);have hbe6:be4=links be1 (a2h rs1).1:=(by rw [hbe4,hi,Nat.sub_self,List.drop_zero]);have hT:a7O p.low p.high g=⟨(a4n p.low p.high g many kk).1,(a4n p.low p.high g many kk).2.1++(a2h rs1).1++[(ou1.ends,ta4.first)],ou1.join ta4⟩:=(by rw [hta5,hou1,hrs1,hkm];unfold a7O;rw [←hmany])
   refine ru 7 ?_
   refine hm_ 70 (a1Z (xs:=[_,_,_]) (pre:=[(9001,_),(9002,_),(9003,_)]) (b7z ou1 ta4 hou2 hto MM g1 y2 y3 _ _ hbe5 hM256 (a6G hino)) ((c9M rfl)) ⟨rfl,⟨rfl,⟨rfl,trivial⟩⟩⟩) rfl rfl (a0h rfl (a0h rfl (a0h rfl pre0))) rfl rfl (c':=c+1) rfl ?_
   refine ru 4 ?_
   refine b2i hM ?_
   refine fr1 ok hX rw1 ((y2,y3)) (trivial) ((by rw [hT];exact b0R (by exact j9 rfl rfl rfl rfl rfl rfl rfl rfl rfl))) ?_
   exact ⟨⟨_,rfl,(by rw [←hMm];exact a3Z rfl rfl rfl rfl)⟩,⟨⟨_,rfl,(by rw [←hMm];exact a1s (fun q _=>by rw [hT,hon1]))⟩,⟨⟨_,rfl,(by rw [←hMm];exact a1s (fun q _=>by rw [hT];simp only;rw [a0P,a0P,←hbe1,←hbe6];rfl))⟩,⟨⟨_,rfl,c9Q kza⟩,trivial⟩⟩⟩⟩
theorem c0V {C:Ctx} {n clk:Nat} {tm:List (Nat×TV)} {hp:List (Nat×HObj)} (t:Nat) (sh kp:List (Nat×HObj)) (hd:a1u (sh.map (·.1))=true) (hsh:∀ p∈sh,hget hp p.1=some p.2) (hkp:∀ p∈kp,hget hp p.1=some p.2) {x y:HV} (ht:tget tm t=some (.v x)) (hz:Kz kp sh x y) :
  a4D C ⟨n,tm,hp,clk⟩ ⟨n,(t,.v y)::tm,sh.map (fun p=>(p.1,p.2.full))++hp,clk⟩:=by
 intro a w ⟨E,e0,r,hG,hsz,hdf,htm⟩
 obtain ⟨E1,e1,hL,hG1,hs1,r1⟩:=r.shareAll sh hd hsh
 refine ⟨E1,e0.trans e1,by simp only [a0I];exact r1,fun g hg=>hG g (by rw [←hG1];exact hg),hsz,hdf.ext e1,fun t' z hz'=>?_⟩
 simp only [a0x] at hz'
 split at hz'
 ·rename_i e;subst e;injection hz' with hz';subst hz'
  exact hz.sound (E:=E1) (E':=E1) (fun _ h=>h) (fun _ _ _=>rfl) (fun id o ho=>by
   obtain ⟨l,hl,b⟩:=r.obj id o (hkp (id,o) (a1z ho))
   rw [hG1];exact b.G) hs1 ((htm t' _ ht).ext e1)
 ·exact (htm t' z hz').ext e1
@[reducible] def c9S (mv:HV) (m:List UInt8→Bag) (e:List Pt) (b:Nat) (t:T):Prop:=∀ c g1 g2 g3 N on β,on.length=N→N+t.w≤256→(∀ p,(β p).ok)→(∀ p,N≤p→p < 256→β p=Bag.zero) →
 a2y Tryz.prog 52 c [.pt 9001 g1 0 0,ptsV e,intV ((b+t.size - 1:Nat):Int),mv] (c5t g1 g2 g3 N on β) (a4Q (fun (y:Nat×Nat) _=>True) (fun _=>pcH (lay m t N).pc) (fun y=>c5t g1 y.1 y.2 (N+t.w) (on++(lay m t N).on) (links β (lay m t N).lk)))
theorem d1Z (mv:HV) (m:List UInt8→Bag) (e:List Pt) (he:e.length≤100000) (b:Nat) (t:T) (hmv:∀ sh,Fz sh mv mv) (hl:c9S mv m e b t) (p:Pt) (hp:p.kids=[((b+t.size - 1:Nat):Int)]) (c g1 g2 g3 g4 M:Nat) (on:List Bag) (β:Nat→Bag) (hon:on.length=M) (hM2:M+t.w≤256) (hβ:∀ p,(β p).ok) (hz:∀ p,M≤p→p < 256→β p=Bag.zero) :
  a2y Tryz.prog 91 c ([]++[.pt 9011 g4 0 0,.fp 1 (fun _=>ptsV e),.fp 5 (ptF p),.fp 1 (fun _=>mv)]) (b9q g1 g2 g3 g4 M on β) (a4Q (fun (y:Nat×Nat) _=>True) (fun _=>pcH (lay m t M).pc) (fun y=>b9q g1 y.1 y.2 g4 (M+t.w) (on++(lay m t M).on) (links β (lay m t M).lk))):=by
 have hkl:p.kids.length=1:=by rw [hp];rfl
 refine a0p Tryz.func91 rfl kr _ _ _ _ rfl 13 rfl rfl (fun X ok hX=>?_)
 refine ru 12 ?_
 first
 | refine a3d 10 (HOp.val (v':=intV ((b+t.size - 1:Nat):Int)) (a0r ty_3.h rfl omy omy (fun h=>(by first | rfl | cases h))) ((by show intV (p.kids.getD 0 0)=_;rw [hp];rfl))) rfl rfl (a0L rfl) rfl rfl (k':=6) rfl ?_
 | refine a3d 10 (HOp.val (v':=intV ((b+t.size - 1:Nat):Int)) (a0j ty_3.h rfl omy (fun h=>(by first | rfl | cases h))) ((by show intV (p.kids.getD 0 0)=_;rw [hp];rfl))) rfl rfl pre0 rfl rfl (k':=6) rfl ?_
 refine ru 1 ?_
 refine b4H kr kr kr kr (c':=c+8) rfl ?_ sml
 refine a0n 12 (xs:=[_,_,_,_]) (pre:=[(9001,_),(9002,_),(9003,_)]) (hl _ g1 g2 g3 M on β hon hM2 hβ hz) ⟨rfl,⟨rfl,⟨rfl,⟨rfl,trivial⟩⟩⟩⟩ (a0h rfl (a0h rfl (a0h rfl pre0))) rfl rfl (fun x1 c1 hyy=>?_)
 obtain ⟨y2,y3⟩:=x1
 (try dsimp only)
 refine ru 1 ?_
 refine a2H ?_
 refine ru 2 ?_
 refine fr1 ok hX rw1 ((y2,y3)) (trivial) (b0R (by exact j9 rfl rfl rfl rfl rfl rfl rfl rfl rfl)) ?_
 exact ⟨⟨_,rfl,a3Z rfl rfl rfl rfl⟩,⟨⟨_,rfl,a1s (fun _ _=>rfl)⟩,⟨⟨_,rfl,a1s (fun _ _=>rfl)⟩,⟨⟨_,rfl,c9Q kza⟩,trivial⟩⟩⟩⟩
theorem Rep.ren {w w':World} {E E' E'':Env} (hF:∀ a,E'.F a→E''.F a) (hL:∀ k l,E''.L k=some l→E.G l.g→E'.L k=some l) (hG:∀ g,E.G g→E''.G g) {v:Value} {x:HV} (h:Rep w' E' v x):∀ {v0:Value},Rep w E v0 x→Rep w' E'' v x:=by
  induction h with
  | imm v=>intro v0 _;exact .imm v
  | agg cs n f vs hn hv _ ih=>intro v0 h0;cases h0 with | agg _ _ _ vs0 _ _ h0=>exact .agg cs n f vs hn hv (fun i hi=>ih i hi (h0 i hi))
  | tup cs n f vs hn hv _ ih=>intro v0 h0;cases h0 with | tup _ _ _ vs0 _ _ h0=>exact .tup cs n f vs hn hv (fun i hi=>ih i hi (h0 i hi))
  | sl A n c sz f vs hc hm hA _ ih =>
    intro v0 h0
    cases h0 with
    | sl _ _ _ _ _ vs0 _ _ _ h0 =>
      exact .sl A n c sz f vs hc hm (fun hn=>by
        obtain ⟨b,o,h1,h2,h3⟩:=hA hn
        exact ⟨b,o,h1,h2,fun i j hi hj=>⟨hF _ (h3 i j hi hj).1,(h3 i j hi hj).2⟩⟩) (fun i j hi hj=>ih i j hi hj (h0 i j hi hj))
  | fp b o n f vs hA _ ih=>intro v0 h0;cases h0 with | fp _ _ _ _ vs0 _ h0=>exact .fp b o n f vs (fun j hj=>⟨hF _ (hA j hj).1,(hA j hj).2⟩) (fun j hj=>ih j hj (h0 j hj))
  | pt b k id g i off hg h=>intro v0 h0;cases h0 with | pt _ _ _ _ _ _ hg0 _=>exact .pt b k id g i off (hG _ hg0) (fun l hl hlg=>h l (hL id l hl (hlg▸hg0)) hlg)
  | os A n c id g lo hg hc hm hA h0 =>
    intro v0 hh
    cases hh with
    | os _ _ _ _ _ _ hg0 _ _ _ _ =>
      exact .os A n c id g lo (hG _ hg0) hc hm (fun hn=>by
        obtain ⟨b,k,h1,h2⟩:=hA hn
        exact ⟨b,k,h1,fun l hl hlg=>h2 l (hL id l hl (hlg▸hg0)) hlg⟩) (fun l hl hlg=>h0 l (hL id l hl (hlg▸hg0)) hlg)
  | ifc t v x _ ih=>intro v0 h0;cases h0 with | ifc _ _ _ h0=>exact .ifc t v x (ih h0)
  | fn f cs n x vs hn hv _ ih=>intro v0 h0;cases h0 with | fn _ _ _ _ vs0 _ _ h0=>exact .fn f cs n x vs hn hv (fun i hi=>ih i hi (h0 i hi))
  | bnd f v x _ ih=>intro v0 h0;cases h0 with | bnd _ _ _ h0=>exact .bnd f v x (ih h0)
  | npn id g hg h =>
    intro v0 h0
    cases h0 with
    | npn _ _ hg0 _=>exact .npn id g (hG _ hg0) (fun l hl hlg=>h l (hL id l hl (hlg▸hg0)) hlg)
    | npp _ _ _ hg0 _ _=>exact .npn id g (hG _ hg0) (fun l hl hlg=>h l (hL id l hl (hlg▸hg0)) hlg)
  | npp v id g hg hc h ih =>
    intro v0 h0
    have hg0:E.G g:=by cases h0 with | npn _ _ hg0 _=>exact hg0 | npp _ _ _ hg0 _ _=>exact hg0
    refine .npp v id g (hG _ hg0) (fun l hl hlg=>hc l (hL id l hl (hlg▸hg0)) hlg) ?_
    cases h with
    | pt b k _ _ _ _ _ hh=>exact .pt b k id g 0 0 (hG _ hg0) (fun l hl hlg=>hh l (hL id l hl (hlg▸hg0)) hlg)
  | mp b id g hg h=>intro v0 h0;cases h0 with | mp _ _ _ hg0 _=>exact .mp b id g (hG _ hg0) (fun l hl hlg=>h l (hL id l hl (hlg▸hg0)) hlg)
def c1R (r:HV):Prop:=∀ {w:World} {E E':Env} {v:Value},Rep w E v r→Rep w E' v r
theorem a0U (u:Value):c1R (.imm u):=fun h=>by have:=h.imm_inv;subst this;exact .imm _
theorem c1V {n:Nat} {f:Nat→HV} (hf:∀ i,i < n→c1R (f i)):c1R (.agg n f):=fun h=>by
 cases h with | agg cs _ _ vs hn hv h=>exact .agg cs n f vs hn hv (fun i hi=>hf i hi (h i hi))
theorem c5g (p:Pc):c1R (pcH p):=c1V (by exact j9 (a0U _) (a0U _) (a0U _) (a0U _) (a0U _) (a0U _) (a0U _) (a0U _) (a0U _))
section
variable {P:Program} {ov:Nat→Option HV} {g:Nat} {d:Option Tmp} {ty:TypeId} {pos:String} {af:Array Edge} {gd:Option (Nat×Bool)}
def b4Q (E E':Env) (g:Nat) (l2 l3:Loc):Env:=⟨E'.F,fun k=>if k=9002 then some ⟨g,l2.A,l2.cap,l2.sz⟩ else if k=9003 then some ⟨g,l3.A,l3.cap,l3.sz⟩ else E'.L k,fun k=>E.G k∨k=g,E'.M⟩
theorem c1g {w':World} {E E':Env} {K:Nat→Prop} {B g y n:Nat} {γ:Nat→Bag} {l2 l3 l:Loc} {l':Loc} (hl:l'=⟨g,l.A,l.cap,l.sz⟩) (o:ObjAt w' E' K B (a4W y n γ) l):ObjAt w' (b4Q E E' g l2 l3) K B (a4W g n γ) l':=by
 subst hl
 refine ⟨rfl,.inr rfl,o.sz,o.pos,?_⟩
 rcases o.at_ with h | ⟨b,cs,h1,h2,h3,h4,h5,h6,⟨vs,hvs⟩,h8,h9⟩ | ⟨b,ob,h1,h2,h3,h4⟩
 ·exact .inl h
 ·exact .inr (.inl ⟨b,cs,h1,h2,h3,h4,h5,h6,⟨vs,fun i j hi hj=>⟨(hvs i j hi hj).1,(hvs i j hi hj).2.1,a0U _ (hvs i j hi hj).2.2⟩⟩,h8,h9⟩)
 ·exact absurd h3.fl sml
theorem c9q {w':World} {E E':Env} {K:Nat→Prop} {B g g1 y2 y3 n:Nat} {l2 l3 l:Loc} (hg1:E.G g1) (hl2:E'.L 9002=some l2) (e2:l2.g=y2) (hl3:E'.L 9003=some l3) (e3:l3.g=y3) (o:ObjAt w' E' K B (b0P g1 (.os 9002 y2 0 n) (.os 9003 y3 0 n)) l):ObjAt w' (b4Q E E' g l2 l3) K B (b0P g1 (.os 9002 g 0 n) (.os 9003 g 0 n)) l:=by
  have h9002:(b4Q E E' g l2 l3).L 9002=some ⟨g,l2.A,l2.cap,l2.sz⟩:=rfl
  have h9003:(b4Q E E' g l2 l3).L 9003=some ⟨g,l3.A,l3.cap,l3.sz⟩:=rfl
  refine ⟨o.g,.inl hg1,o.sz,o.pos,?_⟩
  rcases o.at_ with h | ⟨b,cs,h1,h2,h3,h4,h5,h6,⟨vs,hvs⟩,h8,h9⟩ | ⟨b,ob,h1,h2,h3,h4⟩
  · exact .inl h
  · refine .inr (.inl ⟨b,cs,h1,h2,h3,h4,h5,h6,⟨vs,fun i j hi hj=>⟨(hvs i j hi hj).1,(hvs i j hi hj).2.1,?_⟩⟩,h8,h9⟩)
    have hv:=(hvs i j hi hj).2.2
    match j,hj with
    | 0, _ =>
      have hv:Rep w' E' (vs i 0) (.os 9002 y2 0 n):=hv
      show Rep w' _ (vs i 0) (.os 9002 g 0 n)
      generalize vs i 0=u at hv
      cases hv with
      | os A n c _ _ _ _ hc hm hA h0 =>
        refine .os A n c 9002 g 0 (.inr rfl) hc hm (fun hn=>?_) (fun l hl _=>?_)
        · obtain ⟨b,k,q1,q2⟩:=hA hn
          refine ⟨b,k,q1,fun l hl _=>?_⟩
          rw [h9002] at hl;injection hl with hl;subst hl;exact q2 l2 hl2 e2
        · rw [h9002] at hl;injection hl with hl;subst hl;exact h0 l2 hl2 e2
    | 1, _ =>
      have hv:Rep w' E' (vs i 1) (.os 9003 y3 0 n):=hv
      show Rep w' _ (vs i 1) (.os 9003 g 0 n)
      generalize vs i 1=u at hv
      cases hv with
      | os A n c _ _ _ _ hc hm hA h0 =>
        refine .os A n c 9003 g 0 (.inr rfl) hc hm (fun hn=>?_) (fun l hl _=>?_)
        · obtain ⟨b,k,q1,q2⟩:=hA hn
          refine ⟨b,k,q1,fun l hl _=>?_⟩
          rw [h9003] at hl;injection hl with hl;subst hl;exact q2 l3 hl3 e3
        · rw [h9003] at hl;injection hl with hl;subst hl;exact h0 l3 hl3 e3
    | 2,_=>exact a0U _ hv
    | 3,_=>exact a0U _ hv
    | 4,_=>exact a0U _ hv
    | 5,_=>exact a0U _ hv
    | 6,_=>exact a0U _ hv
    | 7,_=>exact a0U _ hv
    | 8,_=>exact a0U _ hv
    | 9,_=>exact a0U _ hv
    | 10,_=>exact a0U _ hv
  · exact absurd h3.fl sml
theorem c9B {w w':World} {E E':Env} {K:Nat→Prop} {B B0 g:Nat} {o:HObj} {l2 l3 l l0:Loc} (hL:∀ k l,(b4Q E E' g l2 l3).L k=some l→E.G l.g→E'.L k=some l) (o0:ObjAt w E K B0 o l0) (oo:ObjAt w' E' K B o l):ObjAt w' (b4Q E E' g l2 l3) K B o l:=by
 refine ⟨oo.g,.inl o0.G,oo.sz,oo.pos,?_⟩
 rcases oo.at_ with h | ⟨b,cs,h1,h2,h3,h4,h5,h6,⟨vs,hvs⟩,h8,h9⟩ | h
 ·exact .inl h
 ·refine .inr (.inl ⟨b,cs,h1,h2,h3,h4,h5,h6,⟨vs,fun i j hi hj=>⟨(hvs i j hi hj).1,(hvs i j hi hj).2.1,?_⟩⟩,h8,h9⟩)
  rcases o0.at_ with q | ⟨_,_,_,_,_,_,_,_,⟨vs0,hvs0⟩,_,_⟩ | ⟨_,_,_,_,q,_⟩
  ·exact absurd hi omo
  ·exact Rep.ren (E:=E) (E':=E') (E'':=b4Q E E' g l2 l3) (fun _ h=>h) hL (fun _ h=>Or.inl h) (hvs i j hi hj).2.2 (hvs0 i j hi hj).2.2
  ·exact absurd hi (by rw [q.n];omega)
 ·exact .inr (.inr h)
theorem c9r {f:FuncId} {args:List Operand} {at_:Array TypeId} {xs:List HV} {r:HV} {g1 g2 g3 n n':Nat} {on on':List Bag} {β β':Nat→Bag}
    (hc:∀ c,a2y P f c xs (c5t g1 g2 g3 n on β) (a4Q (fun (y:Nat×Nat) _=>True) (fun _=>r) (fun y=>c5t g1 y.1 y.2 n' on' β'))) (hr:c1R r) (hx:a1L ov args xs) :
    HOp P ⟨d,.call ⟨.value (.func f),args.toArray,at_⟩,ty,pos,af,gd⟩ ov g (c5t g1 g2 g3 n on β) r (c5t g1 g g n' on' β'):=by
  refine ⟨?_⟩;intro K w0 F0 E hh a w Q N rr ht hG hBd hpre hN
  obtain ⟨B,hB⟩:=hBd
  have hrep:=hx.rep (w:=w) (E:=E) (ρ:=a.eval) (fun x hv hx h=>ht x hv (by simp [Op.operands,Call.operands];exact .inr hx) h)
  unfold Oper.wp execOp
  have hargs:args.toArray.map a.eval=(args.map a.eval).toArray:=by simp
  simp only [resolve,Act.eval,Deferred.ofValue,invoke,Sem.run_bind,Sem.run_pure,Result.andThen_ok,Array.empty_append,Array.append_empty]
  rw [a0C (hc 0).1]
  simp only [Oper.upon]
  have h:=(hc B).2 ⟨K,w0,F0,E,hh,w,c5t g1 g2 g3 n on β⟩ (args.map a.eval) ⟨rr,fun id o ho=>hpre (id,o) (a1z ho)⟩ rfl hrep hB
  rw [←hargs] at h
  refine Calls.mono h ?_
  rintro e w' ⟨x,kp,c',E',⟨⟨y2,y3⟩,-,rfl,rfl⟩,e',r',hG',hGk,hv⟩
  cases e with
  | returned v =>
    obtain ⟨l1,hl1,o1⟩:=r'.obj 9001 _ rfl
    obtain ⟨l2,hl2,o2⟩:=r'.obj 9002 _ rfl
    obtain ⟨l3,hl3,o3⟩:=r'.obj 9003 _ rfl
    obtain ⟨l0,hl0,o0⟩:=rr.obj 9001 _ (hpre (9001,_) (List.mem_cons_self ..))
    have hL:∀ k l,(b4Q E E' g l2 l3).L k=some l→E.G l.g→E'.L k=some l:=by
      intro k l hl hg
      unfold b4Q at hl
      simp only at hl
      split at hl
      · injection hl with hl;subst hl;exact absurd hg hG
      · split at hl
        · injection hl with hl;subst hl;exact absurd hg hG
        · exact hl
    have hRL:∀ k,k≠9002→k≠9003→(b4Q E E' g l2 l3).L k=E'.L k:=fun k h2 h3=>by
      unfold b4Q;simp only;rw [if_neg h2,if_neg h3]
    have hext:Ext w E w' (b4Q E E' g l2 l3):=⟨e'.sz,e'.F,fun k hk=>.inl hk,fun k l hl hg=>e'.L k l (hL k l hl hg) hg,e'.M⟩
    have hA:∀ k o l,hupd hh (c5t g1 g g n' on' β') k=some o→(b4Q E E' g l2 l3).L k=some l→∃ o' l',hupd hh (c5t g1 y2 y3 n' on' β') k=some o'∧E'.L k=some l'∧l'.A=l.A:=by
      intro k o l ho hl
      by_cases h2:k=9002
      · subst h2;refine ⟨_,_,rfl,hl2,?_⟩
        unfold b4Q at hl;simp only [if_pos] at hl;injection hl with hl;subst hl;rfl
      · by_cases h3:k=9003
        · subst h3;refine ⟨_,_,rfl,hl3,?_⟩
          unfold b4Q at hl;simp at hl;subst hl;rfl
        · rw [hRL k h2 h3] at hl
          by_cases h1:k=9001
          · subst h1;exact ⟨_,_,rfl,hl,rfl⟩
          · refine ⟨o,l,?_,hl,rfl⟩
            rw [←ho]
            simp [hupd,a2I,h1,h2,h3]
    refine hN v w' (b4Q E E' g l2 l3) hext ⟨r'.os,r'.tape,r'.output,r'.size,r'.keep,r'.frz,r'.fnew,r'.klib,r'.lib,r'.bks,?_,?_⟩ (fun g' hg'=>hg'.imp id fun e=>⟨by simp,e⟩) (hr hv)
    · intro k o ho
      by_cases h2:k=9002
      · subst h2
        have ho:a4W g n' (onF on')=o:=Option.some.inj ho
        subst ho
        exact ⟨_,rfl,c1g rfl o2⟩
      · by_cases h3:k=9003
        · subst h3
          have ho:a4W g n' β'=o:=Option.some.inj ho
          subst ho
          exact ⟨_,rfl,c1g rfl o3⟩
        · by_cases h1:k=9001
          · subst h1
            have ho:b0P g1 (.os 9002 g 0 n') (.os 9003 g 0 n')=o:=Option.some.inj ho
            subst ho
            exact ⟨l1,hl1,c9q o0.G hl2 o2.g hl3 o3.g o1⟩
          · have ho:hh k=some o:=by rw [←ho];simp [hupd,a2I,h1,h2,h3]
            obtain ⟨l,hl,oo⟩:=r'.obj k o (by rw [←ho];simp [hupd,a2I,h1,h2,h3])
            obtain ⟨l00,_,ob⟩:=rr.obj k o ho
            exact ⟨l,by rw [hRL k h2 h3];exact hl,c9B hL ob oo⟩
    · intro k k' o o' l l' b ho ho' hl hl' hb hb'
      obtain ⟨p,q,h1,h2,h3⟩:=hA k o l ho hl
      obtain ⟨p',q',h1',h2',h3'⟩:=hA k' o' l' ho' hl'
      exact r'.inj k k' p p' q q' b h1 h1' h2 h2' (h3.trans hb) (h3'.trans hb')
  | _=>exact hv.elim
end
def stC (m:List UInt8→Bag) (N:Nat) (a:Ly) (t:T):Ly:=⟨a.on++(lay m t N).on,a.lk++(lay m t N).lk,⟨bun a.pc.first (lay m t N).pc.first,bun a.pc.ends (lay m t N).pc.ends,a.pc.empty||(lay m t N).pc.empty⟩⟩
def stR (m:List UInt8→Bag) (N:Nat) (a:Ly) (t:T):Ly:=⟨a.on++(lay m t N).on,a.lk++(lay m t N).lk++[(a.pc.ends,(lay m t N).pc.first)],a.pc.join (lay m t N).pc⟩
theorem b0s (m:List UInt8→Bag):∀ (ts:List T) (N:Nat) (a:Ly) (t:T),a6t m (ts++[t]) N a=stC m (N+T.wL ts) (a6t m ts N a) t
 | [],N,a,t=>by simp [a6t,T.wL,stC]
 | x::ts,N,a,t=>by simp only [List.cons_append,a6t];rw [b0s m ts];simp only [T.wL,Nat.add_assoc]
theorem a9R (m:List UInt8→Bag):∀ (ts:List T) (N:Nat) (a:Ly) (t:T),a6u m (ts++[t]) N a=stR m (N+T.wL ts) (a6u m ts N a) t
 | [],N,a,t=>by simp [a6u,T.wL,stR]
 | x::ts,N,a,t=>by simp only [List.cons_append,a6u];rw [a9R m ts];simp only [T.wL,Nat.add_assoc]
theorem b4X:∀ (ts:List T) (i:Nat),T.wL (ts.take i)≤T.wL ts
 | [],i=>by simp [T.wL]
 | t::ts,0=>by simp [T.wL]
 | t::ts,i+1=>by have:=b4X ts i;simp only [List.take_succ_cons,T.wL];omega
theorem b6E {m:List UInt8→Bag} (hm:∀ s,(m s).ok) (ts:List T) (i N:Nat) (h:N+T.wL ts≤256):(a6t m (ts.take i) N ⟨[],[],default⟩).Ok N (T.wL (ts.take i)):=by
 have hle:=b4X ts i
 have:=b5M hm (ts.take i) N N ⟨[],[],default⟩ omo lrf (by rw [Nat.sub_self];exact ⟨rfl,(fun b hb=>by simp at hb),(fun q hq=>by simp at hq),b0W,⟨a3G _ _,a3G _ _⟩⟩)
 rwa [show N+T.wL (ts.take i) - N=T.wL (ts.take i) by omega] at this
theorem b6D {m:List UInt8→Bag} (hm:∀ s,(m s).ok) (ts:List T) (i N:Nat) (h:N+T.wL ts≤256):(a6u m (ts.take i) N ⟨[],[],Pc.nil⟩).Ok N (T.wL (ts.take i)):=by
 have hle:=b4X ts i
 have:=b5N hm (ts.take i) N N ⟨[],[],Pc.nil⟩ omo lrf (by rw [Nat.sub_self];exact ⟨rfl,(fun b hb=>by simp at hb),(fun q hq=>by simp at hq),Pc.nil_ok,Pc.inB_nil _ _⟩)
 rwa [show N+T.wL (ts.take i) - N=T.wL (ts.take i) by omega] at this
theorem b7c {t:T} (h:t.kind=3) (hok:t.ok=true):∃ ts,t=.many 3 ts:=by
 cases t with
 | name s=>simp [T.kind] at h
 | times lo hi t=>simp [T.kind] at h
 | many k ts=>simp [T.kind] at h;subst h;exact ⟨ts,rfl⟩
theorem d0U {t:T} (h1:t.kind≠1) (h4:t.kind≠4) (h3:t.kind≠3) (hok:t.ok=true):∃ k ts,t=.many k ts∧k≠3:=by
 cases t with
 | name s=>simp [T.kind] at h1
 | times lo hi t=>simp [T.kind] at h4
 | many k ts=>exact ⟨k,ts,rfl,h3⟩
theorem d3F {t:T} (h:t.kind=1) (hok:t.ok=true):∃ s,t=.name s:=by
 cases t with
 | name s=>exact ⟨s,rfl⟩
 | times lo hi t=>simp [T.kind] at h
 | many k ts=>simp [T.kind] at h;subst h;simp [T.ok] at hok
theorem c4r {g1:Nat} {f:Nat→Nat→HV} {a b:HV} (h:∀ j,j < 11→f 0 j=d1W a b Bag.zero Bag.zero false 0 j):a2m ⟨g1,1,11,125,0,f⟩ (b0P g1 a b):=a2m.of fun i j hi hj=>by
 obtain rfl:i=0:=by omega
 rw [h j hj];exact .refl _
theorem c3d {n:Nat} {γ γ':Nat→Bag} {L:List HV} (h1:∀ i,i < n→γ i=γ' i) (h2:∀ j,j < 4→bsf L 0 j=a3s (γ' n) j):∀ i j,i < n+1→j < 4→cat n (c1h γ) (bsf L) i j=a3s (γ' i) j:=fun i j hi hj=>by
 unfold cat
 by_cases h:i < n
 ·have e:Nat.blt i n=true:=by simpa [Nat.blt_eq] using h
  rw [e];show a3s (γ i) j=_;rw [h1 i h]
 ·obtain rfl:i=n:=by omega
  have e:Nat.blt i i=false:=by rw [Bool.eq_false_iff];intro h';simp [Nat.blt_eq] at h'
  rw [e];show bsf L (i - i) j=_;rw [Nat.sub_self];exact h2 j hj
theorem b7q {on:List Bag} {n:Nat} (hn:on.length=n) (x:Bag):(∀ i,i < n→onF on i=onF (on++[x]) i)∧onF (on++[x]) n=x:=by
 subst hn
 exact ⟨fun i hi=>(a5a (d:=Bag.zero) (k:=[x]) hi).symm,a2z _ _ _⟩
theorem b5Y (mf:FuncId) (mk:Nat) (mcaps:Nat→HV) (mcs:List HV) (hmk:mcs.length=mk) (hmi:∀ i,i < mk→mcs[i]?=some (mcaps i)) (hmz:FzAll [] mcs mcs) (hmf:∀ sh,Fz sh (.fn (.func mf) mk mcaps) (.fn (.func mf) mk mcaps)) (m:List UInt8→Bag) (hm:∀ s,nameV s=true→HPure Tryz.prog mf ([strV s]++mcs) (bagH (m s))) (hmo:∀ s,(m s).ok)
  (e:List Pt) (he:e.length≤100000) (b:Nat) (t:T) (hok:t.ok=true) (hat:AtP e b (T.flat b t)) (hkl:t.kidsT.length≤100000)
  (ih:∀ i,i < t.kidsT.length→c9S (.fn (.func mf) mk mcaps) m e (b+T.sizeL (t.kidsT.take i)) (t.kidsT.getD i default)):c9S (.fn (.func mf) mk mcaps) m e b t:=by
 intro c g1 g2 g3 N0 on β hon hw hβ hz
 have htop:=a4b hat
 have hps:=t.size_pos
 have hkid:=a6W b t
 have hrl:=a0M t.kidsT b
 generalize htp:t.top b=p at htop hkid
 have hpk:p.kind=t.kind:=by rw [←htp];exact a7i b t
 let k0:=c
 refine a0p Tryz.func52 rfl kr _ _ _ _ rfl 116 rfl rfl (fun X ok hX=>?_)
 refine ru 2 ?_
 refine a0y 4 (a6O (id:=9011) (sz:=1) rfl rfl rfl dcd dcd) rfl rfl pre0 rfl rfl (c':=c+1) rfl ?_
 refine ru 11 ?_
 refine rvl (ptH p) (c0S om htop.1) ?_
 refine ru 18 ?_
 refine wdc (fun hr0 hc0=>?_) (fun hr0 hc0=>?_)
 ·skip
  obtain ⟨s,hts⟩:=d3F (by rw [←hpk];exact hc0) hok;have hpn:p.name=s:=(by rw [←htp,hts];rfl);have hnv:nameV p.name=true:=(by rw [hpn];rw [hts] at hok;simpa [T.ok] using hok);have hl1:lay m t N0=⟨[m s],[],⟨a3B N0,a3B N0,false⟩⟩:=(by rw [hts];simp [lay]);have hw1:t.w=1:=(by rw [hts];rfl)
  refine ru 7 ?_
  refine a0y 31 (a0d (id:=31) (hs:=[_]) ei_23.h omx rfl omx ⟨rfl,rfl,rfl,rfl,trivial⟩) rfl rfl pre0 rfl rfl (c':=c+7) rfl ?_
  refine hm_ 32 (a7e (xs:=[_]) [(31,_)] (d3t [(N0:Int)] sml) ⟨rfl,trivial⟩ ⟨(show Fz _ _ (a0i [(N0:Int)]) from a2v (l:=[(N0:Int)]) (enc:=fun x _=>intV x) (d:=0) (List.mem_cons_self ..) rfl rfl lrf (fun i j hi hj=>by obtain rfl:i=0:=(by simpa using hi);exact .imm _)),trivial⟩ rfl) rfl rfl (a0h rfl pre0) rfl rfl (c':=c+8) rfl ?_
  refine ru 14 ?_
  refine d0 9 (a6m (xs:=[_]) (cs:=mcs) (hm p.name hnv) rfl hmk hmi ⟨rfl,trivial⟩ ⟨(show Fz [] (strV p.name) (strV p.name) from Frz.fz),hmz⟩) ?_
  refine a2x 42 (a0d (id:=42) (hs:=[_]) ei_93.h omx rfl omx ⟨rfl,rfl,rfl,rfl,trivial⟩) rfl rfl pre0 rfl rfl (k':=10) rfl ?_
  first
  | refine a2x 43 (a0a ei_93.h omy rfl omy omy (a0D rfl omy) omy rfl) rfl rfl (a0h rfl (a0L rfl)) rfl rfl (k':=11) rfl ?_
  | refine a2x 43 (a0a ei_93.h omy rfl omy omy (a1a rfl omy) omy rfl) rfl rfl (a0h rfl (a0L rfl)) rfl rfl (k':=11) rfl ?_
  | refine a2x 43 (a0a ei_93.h omy rfl omy omy (a0Y rfl) omy rfl) rfl rfl (a0h rfl pre0) rfl rfl (k':=11) rfl ?_
  | refine a2x 43 (a0a ei_93.h omy rfl omy omy (a0G 4 (fun _ _=>default) rfl) omy rfl) rfl rfl (a0h rfl pre0) rfl rfl (k':=11) rfl ?_
  refine ru 13 ?_
  refine a2x 52 (a0d (id:=52) (hs:=[_]) ei_93.h omx rfl omx ⟨rfl,rfl,rfl,rfl,trivial⟩) rfl rfl pre0 rfl rfl (k':=7) rfl ?_
  first
  | refine a2x 53 (a0a ei_93.h omy rfl omy omy (a0D rfl omy) omy rfl) rfl rfl (a0h rfl (a0L rfl)) rfl rfl (k':=8) rfl ?_
  | refine a2x 53 (a0a ei_93.h omy rfl omy omy (a1a rfl omy) omy rfl) rfl rfl (a0h rfl (a0L rfl)) rfl rfl (k':=8) rfl ?_
  | refine a2x 53 (a0a ei_93.h omy rfl omy omy (a0Y rfl) omy rfl) rfl rfl (a0h rfl pre0) rfl rfl (k':=8) rfl ?_
  | refine a2x 53 (a0a ei_93.h omy rfl omy omy (a0G 4 (fun _ _=>default) rfl) omy rfl) rfl rfl (a0h rfl pre0) rfl rfl (k':=8) rfl ?_
  refine ru 6 ?_
  have hsn:=b7q hon (m p.name);refine (a0W 9001 (b0P g1 (.os 9002 (c+10+10) 0 (N0+1)) (.os 9003 (c+24+7) 0 (N0+1))) rfl (by exact c4r (fun j hj=>by match j,hj with | 0,_=>rfl | 1,_=>rfl | 2,_=>rfl | 3,_=>rfl | 4,_=>rfl | 5,_=>rfl | 6,_=>rfl | 7,_=>rfl | 8,_=>rfl | 9,_=>rfl | 10,_=>rfl))).wp ?_;refine (a0W 9002 (a4W (c+10+10) (N0+1) (onF (on++[m p.name]))) rfl (by exact b2y (c3d hsn.1 (fun j hj=>by rw [hsn.2];rfl)))).wp ?_;refine (a0W 9003 (a4W (c+24+7) (N0+1) β) rfl (by exact b2y (c3d (fun _ _=>rfl) (fun j hj=>by rw [hz N0 lrf om];exact j4 (f:=bsf _ 0) (g:=a3s Bag.zero) rfl rfl rfl rfl j hj)))).wp ?_
  refine ru 10 ?_
  refine fr1 ok hX rw1 ((c+10+10,c+24+7)) (trivial) ((by rw [hl1];exact b0R (by exact j9 rfl rfl rfl rfl rfl rfl rfl rfl rfl))) ?_
  exact ⟨⟨_,rfl,(by rw [hw1];exact a3Z rfl rfl rfl rfl)⟩,⟨⟨_,rfl,(by rw [hw1,hl1,←hpn];exact a1s (fun _ _=>rfl))⟩,⟨⟨_,rfl,(by rw [hw1,hl1];exact a1s (fun _ _=>rfl))⟩,trivial⟩⟩⟩
 refine ru 6 ?_
 refine wdc (fun hr1 hc1=>?_) (fun hr1 hc1=>?_)
 ·skip
  have hkd4:t.kind=4:=(by rw [←hpk];exact hc1);obtain ⟨lo,hi,u,htu⟩:=b6t hkd4 hok;have hct:=a9z b hkd4 hok;rw [htp] at hct;have hpl:p.low=lo∧p.high=hi∧p.kids=[((b+u.size - 1:Nat):Int)]:=(by have:=u.size_pos;rw [←htp,htu];refine ⟨rfl,rfl,?_⟩;show [((b+u.size:Nat):Int) - 1]=_;congr 1;omega);have hiu:c9S (.fn (.func mf) mk mcaps) m e b u:=(by have h:=ih 0 (by rw [htu];exact Nat.zero_lt_one);rw [htu] at h;simpa [T.kidsT,T.sizeL] using h);have htw:t.w=a0m p.low p.high * u.w:=(by rw [hct.1,htu,Nat.mul_comm];simp [T.kidsT,T.wL]);have hll:lay m t N0=a7O p.low p.high (fun k=>lay m u (N0+k * u.w)):=(by rw [htu,hpl.1,hpl.2.1];simp [lay]);have hkb:∀ k,k < a0m p.low p.high→N0+k * u.w+u.w≤256:=(fun k hk=>by have h:=Nat.mul_le_mul_right u.w hk;rw [Nat.succ_mul] at h;omega)
  refine ru 5 ?_
  refine (c0V 63 [(5,_),(9,_),(7,_)] [(9011,_)] rfl (a0h rfl (a0h rfl (a0h rfl pre0))) (a0h rfl pre0) rfl ((.fn _ _ _ (fun i=>[HV.pt 9011 k0 0 0,.fp 1 (fun _=>ptsV e),.fp 5 (ptF p),.fp 1 (fun _=>(.fn (.func mf) mk mcaps))].getD i default) (fun i hi=>by match i,hi with | 0,_=>exact .pt _ _ _ _ _ rfl rfl | 1,_=>exact .fz _ _ (.pt 5 _ 0 0 1 _ _ (.head _) rfl (Nat.lt_succ_self 0) lrf (fun j hj=>show Fz _ (ptsV e) (ptsV e) from Frz.fz)) | 2,_=>exact .fz _ _ (.pt 9 _ 0 0 5 _ _ (.tail _ (.head _)) rfl (Nat.lt_succ_self 0) lrf (fun j hj=>by show Fz _ (ptF p (0+j)) (ptF p j);rw [Nat.zero_add];exact b3c _ _)) | 3,_=>exact .fz _ _ (.pt 7 _ 0 0 1 _ _ (.tail _ (.tail _ (.head _))) rfl (Nat.lt_succ_self 0) lrf (fun j hj=>hmf _)))))).seq ?_
  refine a0n 64 (xs:=[_,_,_]) (pre:=[(9001,_),(9002,_),(9003,_),(9011,_)]) (c3C _ g1 g2 g3 k0 N0 u.w on β hon hβ hz p (fun k=>lay m u (N0+k * u.w)) (.fp 1 (fun _=>ptsV e)) (.fp 5 (ptF p)) (.fp 1 (fun _=>(.fn (.func mf) mk mcaps))) hct.2.1 hct.2.2.1 hct.2.2.2.1 hct.2.2.2.2 (fun k hk=>a4l hmo u _ (hkb k hk)) (by rw [←htw];exact hw) (fun k hk M c g2 g3 on β hM hon hβ hz=>by subst hM;exact d1Z (.fn (.func mf) mk mcaps) m e he b u hmf hiu p hpl.2.2 c g1 g2 g3 k0 _ on β hon (hkb k hk) hβ hz)) ⟨rfl,⟨rfl,⟨rfl,trivial⟩⟩⟩ (a0h rfl (a0h rfl (a0h rfl (a0h rfl pre0)))) rfl rfl (fun x1 c1 hyy=>?_)
  obtain ⟨y2,y3⟩:=x1
  (try dsimp only)
  refine ru 6 ?_
  refine fr1 ok hX rw1 ((y2,y3)) (trivial) ((by rw [hll];exact b0R (by exact j9 rfl rfl rfl rfl rfl rfl rfl rfl rfl))) ?_
  exact ⟨⟨_,rfl,(by rw [htw];exact a3Z rfl rfl rfl rfl)⟩,⟨⟨_,rfl,(by rw [htw,hll];exact a1s (fun _ _=>rfl))⟩,⟨⟨_,rfl,(by rw [htw,hll];exact a1s (fun _ _=>rfl))⟩,trivial⟩⟩⟩
 refine ru 6 ?_
 refine wdc (fun hr2 hc2=>?_) (fun hr2 hc2=>?_)
 ·skip
  let k1:=c+6;have hkd3:t.kind=3:=(by rw [←hpk];exact hc2);have hwm:=b1q (t:=t) (by rw [hkd3];decide) (by rw [hkd3];decide);have hll:lay m t N0=a6t m t.kidsT N0 ⟨[],[],default⟩:=(by obtain ⟨ts,hts⟩:=b7c hkd3 hok;rw [hts];simp [lay,T.kidsT])
  refine ru 15 ?_
  refine a0l (α:=Nat×Nat×List Bag×(Nat→Bag)×Pc×Nat×Nat) (fun x c=>⟨116,[(4,.v (.pt 9011 k0 0 0)),(5,.v (.pt 5 (k0+1) 0 0)),(7,.v (.pt 7 (k0+2) 0 0)),(8,.v (.pt 8 (k0+3) 0 0)),(11,.v (.pt 11 k1 0 0)),(68,.v (a2k p.kids)),(69,.v (intV p.kids.length)),(70,.v (intV (x.1:Int)))],[(9001,b0P g1 (.os 9002 x.2.2.2.2.2.1 0 x.2.1) (.os 9003 x.2.2.2.2.2.2 0 x.2.1)),(9002,a4W x.2.2.2.2.2.1 x.2.1 (onF x.2.2.1)),(9003,a4W x.2.2.2.2.2.2 x.2.1 x.2.2.2.1),(9011,nbO k0 g1),(5,⟨k0+1,1,1,64,0,fun _ _=>ptsV e⟩),(7,⟨k0+2,1,1,74,0,fun _ _=>(.fn (.func mf) mk mcaps)⟩),(8,pcO (k0+3) default),(11,pcO k1 x.2.2.2.2.1)],c⟩) (fun x=>x.1≤t.kidsT.length∧x.2.1=N0+T.wL (t.kidsT.take x.1)∧x.2.2.1=on++(a6t m (t.kidsT.take x.1) N0 ⟨[],[],default⟩).on∧x.2.2.2.1=links β (a6t m (t.kidsT.take x.1) N0 ⟨[],[],default⟩).lk∧x.2.2.2.2.1=(a6t m (t.kidsT.take x.1) N0 ⟨[],[],default⟩).pc) (fun x=>t.kidsT.length - x.1) ((0,N0,on,β,default,g2,g3)) (by exact ⟨Nat.zero_le _,by simp [T.wL],by simp [a6t],by simp [a6t,links],by simp [a6t]⟩) (a0b rfl lrf tsa (hsr rfl (hsr rfl (hsr rfl (hsr rfl (hsr rfl (hsr rfl (a0g.cons rfl (a3x (by exact j9 rfl rfl rfl rfl rfl rfl rfl rfl rfl)) (a0g.cons rfl (a3x (by exact j9 rfl rfl rfl rfl rfl rfl rfl rfl rfl)) a0g.nil))))))))) (fun x c hx NhL1 hL1=>?_)
  revert hx hL1;obtain ⟨ii,MM,on1,be1,ou1,y2,y3⟩:=x;intro hx hL1;dsimp only at hx hL1 ⊢
  obtain ⟨hi,hMM,hon1,hbe1,hou1⟩:=hx
  have hA:=b6E hmo t.kidsT ii N0 om
  refine ru 6 ?_
  refine wdc (fun hr3 hc3=>?_) (fun hr3 hc3=>?_)
  ·skip
   have him:ii < t.kidsT.length:=(by have h:=hr3;simp [hkid,hrl] at h;omega);have hka:=a2E hat him;have hkt:=a4b hka;have hks:=(t.kidsT.getD ii default).size_pos;have hroot:=a3r t.kidsT b ii him;have hwt:=a6U t.kidsT ii him;have hwl:=b4X t.kidsT (ii+1);have hxw:MM+(t.kidsT.getD ii default).w≤256:=om;have hly:=a4l hmo (t.kidsT.getD ii default) MM hxw;have hlen1:on1.length=MM:=(by rw [hon1,List.length_append,hA.len,hon,hMM]);have hbok:∀ q,(be1 q).ok:=(by rw [hbe1];exact a1i hA.lk hβ);have hbz:∀ q,MM≤q→q < 256→be1 q=Bag.zero:=(by rw [hbe1,hMM];exact a2S hA.lk (fun q hq hq2=>hz q om hq2));have hou2:ou1.ok:=(by rw [hou1];exact hA.pc);have hino:InB N0 (MM+(t.kidsT.getD ii default).w) ou1.ends:=(by rw [hou1,hMM];exact hA.inB.2.mono lrf om);have hsn:=b0s m (t.kidsT.take ii) N0 ⟨[],[],default⟩ (t.kidsT.getD ii default);rw [←a4H him] at hsn
   refine ru 8 ?_
   refine rvl (intV ((b+T.sizeL (t.kidsT.take ii)+(t.kidsT.getD ii default).size - 1:Nat):Int)) (by exact a3y (i:=ii) om (by rw [hkid,hroot];unfold T.root;omega)) ?_
   refine ru 9 ?_
   refine a0n 78 (xs:=[_,_,_,_]) (pre:=[(9001,_),(9002,_),(9003,_)]) (ih ii him _ g1 y2 y3 MM on1 be1 hlen1 hxw hbok hbz) ⟨rfl,⟨rfl,⟨rfl,⟨rfl,trivial⟩⟩⟩⟩ (a0h rfl (a0h rfl (a0h rfl pre0))) rfl rfl (fun x2 c2 hzz=>?_)
   obtain ⟨z2,z3⟩:=x2
   (try dsimp only)
   refine ru 9 ?_
   refine d0 5 (a0e (xs:=[_,_]) (c8r ou1.first (lay m (t.kidsT.getD ii default) MM).pc.first hou2.1 hly.pc.1) ⟨rfl,⟨rfl,trivial⟩⟩ ⟨(a2o (by exact j4 rfl rfl rfl rfl)),⟨(a2o (by exact j4 rfl rfl rfl rfl)),trivial⟩⟩) ?_
   refine ru 4 ?_
   refine d0 10 (a0e (xs:=[_,_]) (c8r ou1.ends (lay m (t.kidsT.getD ii default) MM).pc.ends hou2.2 hly.pc.2) ⟨rfl,⟨rfl,trivial⟩⟩ ⟨(a2o (by exact j4 rfl rfl rfl rfl)),⟨(a2o (by exact j4 rfl rfl rfl rfl)),trivial⟩⟩) ?_
   refine ru 4 ?_
   first
   | refine a3C 93 12 91 false _ (fun hb=>a0r ty_4.h rfl omb omb (fun h=>(by first | rfl | cases h))) rfl rfl rfl rfl (a0L rfl) rfl rfl rfl (k':=15) rfl ?_
   | refine a3C 93 12 91 false _ (fun hb=>a0j ty_4.h rfl omb (fun h=>(by first | rfl | cases h))) rfl rfl rfl rfl pre0 rfl rfl rfl (k':=15) rfl ?_
   refine ru 3 ?_
   refine b0U kr kr (c':=c2+20) rfl ?_
   refine ru 6 ?_
   exact hL1 ((ii+1,MM+(t.kidsT.getD ii default).w,on1++(lay m (t.kidsT.getD ii default) MM).on,links be1 (lay m (t.kidsT.getD ii default) MM).lk,⟨bun ou1.first (lay m (t.kidsT.getD ii default) MM).pc.first,bun ou1.ends (lay m (t.kidsT.getD ii default) MM).pc.ends,ou1.empty||(lay m (t.kidsT.getD ii default) MM).pc.empty⟩,z2,z3)) _ _ (by (try dsimp only);exact ⟨by omega,by rw [hMM,hwt,Nat.add_assoc],by rw [hsn,←hMM,hon1];simp only [stC,List.append_assoc],by rw [hsn,←hMM,hbe1];simp only [stC];rw [a0P],by rw [hsn,←hMM,hou1];rfl⟩) omd (a0b rfl lrf tsa (hsr rfl (hsr rfl (hsr rfl (hsr rfl (hsr rfl (hsr rfl (hsr rfl (a0g.cons rfl (a3x (by exact j9 rfl rfl rfl rfl rfl rfl rfl rfl rfl)) a0g.nil)))))))))
  have hit:ii=t.kidsT.length:=(by have h:=hr3;simp [hkid,hrl] at h;omega);rw [hit,List.take_length] at hA hMM hon1 hbe1 hou1
  refine ru 2 ?_
  refine a0c ?_
  refine ru 11 ?_
  refine fr1 ok hX rw1 ((y2,y3)) (trivial) ((by rw [hll,←hou1];exact b0R (by exact j9 rfl rfl rfl rfl rfl rfl rfl rfl rfl))) ?_
  exact ⟨⟨_,rfl,(by rw [hwm,←hMM];exact a3Z rfl rfl rfl rfl)⟩,⟨⟨_,rfl,(by rw [hwm,←hMM,hll,←hon1];exact a1s (fun _ _=>rfl))⟩,⟨⟨_,rfl,(by rw [hwm,←hMM,hll,←hbe1];exact a1s (fun _ _=>rfl))⟩,trivial⟩⟩⟩
 let k1:=c+6;have hwm:=b1q (t:=t) (by rw [←hpk];exact hc0) (by rw [←hpk];exact hc1);have hll:lay m t N0=a6u m t.kidsT N0 ⟨[],[],Pc.nil⟩:=(by obtain ⟨k,ts,hts,hk3⟩:=d0U (by rw [←hpk];exact hc0) (by rw [←hpk];exact hc1) (by rw [←hpk];exact hc2) hok;rw [hts];simp [lay,hk3,T.kidsT])
 refine ru 20 ?_
 refine a0l (α:=Nat×Nat×List Bag×(Nat→Bag)×Pc×Nat×Nat) (fun x c=>⟨116,[(4,.v (.pt 9011 k0 0 0)),(5,.v (.pt 5 (k0+1) 0 0)),(7,.v (.pt 7 (k0+2) 0 0)),(8,.v (.pt 8 (k0+3) 0 0)),(15,.v (.pt 15 k1 0 0)),(100,.v (a2k p.kids)),(101,.v (intV p.kids.length)),(102,.v (intV (x.1:Int)))],[(9001,b0P g1 (.os 9002 x.2.2.2.2.2.1 0 x.2.1) (.os 9003 x.2.2.2.2.2.2 0 x.2.1)),(9002,a4W x.2.2.2.2.2.1 x.2.1 (onF x.2.2.1)),(9003,a4W x.2.2.2.2.2.2 x.2.1 x.2.2.2.1),(9011,nbO k0 g1),(5,⟨k0+1,1,1,64,0,fun _ _=>ptsV e⟩),(7,⟨k0+2,1,1,74,0,fun _ _=>(.fn (.func mf) mk mcaps)⟩),(8,pcO (k0+3) default),(15,pcO k1 x.2.2.2.2.1)],c⟩) (fun x=>x.1≤t.kidsT.length∧x.2.1=N0+T.wL (t.kidsT.take x.1)∧x.2.2.1=on++(a6u m (t.kidsT.take x.1) N0 ⟨[],[],Pc.nil⟩).on∧x.2.2.2.1=links β (a6u m (t.kidsT.take x.1) N0 ⟨[],[],Pc.nil⟩).lk∧x.2.2.2.2.1=(a6u m (t.kidsT.take x.1) N0 ⟨[],[],Pc.nil⟩).pc) (fun x=>t.kidsT.length - x.1) ((0,N0,on,β,Pc.nil,g2,g3)) (by exact ⟨Nat.zero_le _,by simp [T.wL],by simp [a6u],by simp [a6u,links],by simp [a6u]⟩) (a0b rfl lrf tsa (hsr rfl (hsr rfl (hsr rfl (hsr rfl (hsr rfl (hsr rfl (a0g.cons rfl (a3x (by exact j9 rfl rfl rfl rfl rfl rfl rfl rfl rfl)) (a0g.cons rfl (a3x (by exact j9 rfl rfl rfl rfl rfl rfl rfl rfl rfl)) a0g.nil))))))))) (fun x c hx NhL2 hL2=>?_)
 revert hx hL2;obtain ⟨ii,MM,on1,be1,ou1,y2,y3⟩:=x;intro hx hL2;dsimp only at hx hL2 ⊢
 obtain ⟨hi,hMM,hon1,hbe1,hou1⟩:=hx
 have hA:=b6D hmo t.kidsT ii N0 om
 refine ru 6 ?_
 refine wdc (fun hr4 hc4=>?_) (fun hr4 hc4=>?_)
 ·skip
  have him:ii < t.kidsT.length:=(by have h:=hr4;simp [hkid,hrl] at h;omega);have hka:=a2E hat him;have hkt:=a4b hka;have hks:=(t.kidsT.getD ii default).size_pos;have hroot:=a3r t.kidsT b ii him;have hwt:=a6U t.kidsT ii him;have hwl:=b4X t.kidsT (ii+1);have hxw:MM+(t.kidsT.getD ii default).w≤256:=om;have hly:=a4l hmo (t.kidsT.getD ii default) MM hxw;have hlen1:on1.length=MM:=(by rw [hon1,List.length_append,hA.len,hon,hMM]);have hbok:∀ q,(be1 q).ok:=(by rw [hbe1];exact a1i hA.lk hβ);have hbz:∀ q,MM≤q→q < 256→be1 q=Bag.zero:=(by rw [hbe1,hMM];exact a2S hA.lk (fun q hq hq2=>hz q om hq2));have hou2:ou1.ok:=(by rw [hou1];exact hA.pc);have hino:InB N0 (MM+(t.kidsT.getD ii default).w) ou1.ends:=(by rw [hou1,hMM];exact hA.inB.2.mono lrf om);have hsn:=a9R m (t.kidsT.take ii) N0 ⟨[],[],Pc.nil⟩ (t.kidsT.getD ii default);rw [←a4H him] at hsn
  refine ru 8 ?_
  refine rvl (intV ((b+T.sizeL (t.kidsT.take ii)+(t.kidsT.getD ii default).size - 1:Nat):Int)) (by exact a3y (i:=ii) om (by rw [hkid,hroot];unfold T.root;omega)) ?_
  refine ru 10 ?_
  refine d2o 112 (c9r (xs:=[_,_,_,_]) (fun c=>ih ii him c g1 y2 y3 MM on1 be1 hlen1 hxw hbok hbz) (c5g _) ⟨rfl,⟨rfl,⟨rfl,⟨rfl,trivial⟩⟩⟩⟩) rfl rfl (a0h rfl (a0h rfl (a0h rfl pre0))) rfl rfl (k':=7) rfl ?_
  refine d2o 113 (a1Z (xs:=[_,_,_]) (pre:=[(9001,_),(9002,_),(9003,_)]) (b7z ou1 (lay m (t.kidsT.getD ii default) MM).pc hou2 hly.pc (MM+(t.kidsT.getD ii default).w) g1 _ _ _ _ (a1i hly.lk hbok) hxw (a6G hino)) ((c9M rfl)) ⟨rfl,⟨rfl,⟨rfl,trivial⟩⟩⟩) rfl rfl (a0h rfl (a0h rfl (a0h rfl pre0))) rfl rfl (k':=8) rfl ?_
  refine ru 8 ?_
  exact hL2 ((ii+1,MM+(t.kidsT.getD ii default).w,on1++(lay m (t.kidsT.getD ii default) MM).on,a2i (links be1 (lay m (t.kidsT.getD ii default) MM).lk) (ou1.ends,(lay m (t.kidsT.getD ii default) MM).pc.first),ou1.join (lay m (t.kidsT.getD ii default) MM).pc,c+6,c+6)) _ _ (by (try dsimp only);exact ⟨by omega,by rw [hMM,hwt,Nat.add_assoc],by rw [hsn,←hMM,hon1];simp only [stR,List.append_assoc],by rw [hsn,←hMM,hbe1,hou1];simp only [stR];rw [a0P,a0P];rfl,by rw [hsn,←hMM,hou1];rfl⟩) omd (a0b rfl lrf tsa (hsr rfl (hsr rfl (hsr rfl (hsr rfl (hsr rfl (hsr rfl (hsr rfl (a0g.cons rfl (a3x (by exact j9 rfl rfl rfl rfl rfl rfl rfl rfl rfl)) a0g.nil)))))))))
 have hit:ii=t.kidsT.length:=(by have h:=hr4;simp [hkid,hrl] at h;omega);rw [hit,List.take_length] at hA hMM hon1 hbe1 hou1
 refine ru 2 ?_
 refine a0c ?_
 refine ru 9 ?_
 refine fr1 ok hX rw1 ((y2,y3)) (trivial) ((by rw [hll,←hou1];exact b0R (by exact j9 rfl rfl rfl rfl rfl rfl rfl rfl rfl))) ?_
 exact ⟨⟨_,rfl,(by rw [hwm,←hMM];exact a3Z rfl rfl rfl rfl)⟩,⟨⟨_,rfl,(by rw [hwm,←hMM,hll,←hon1];exact a1s (fun _ _=>rfl))⟩,⟨⟨_,rfl,(by rw [hwm,←hMM,hll,←hbe1];exact a1s (fun _ _=>rfl))⟩,trivial⟩⟩⟩
theorem b8A {t:T} {l:List Sg} {r:List Pt×Int×Int} {s:List UInt8} (hl:lexV s=.ok l) (hs:Seg l 3 0 l.length t) (h:ParseIs s r):r=(T.flat 0 t,0,0):=by
 have hne:l≠[]:=fun h=>by subst h;have:=a1h hs;simp at this
 have hc:chk l 0 0 true true=(-1,false):=b2l hs
 cases h with
 | err e hv=>rw [hl] at hv;cases hv
 | none hv=>rw [hl] at hv;injection hv with hv;exact absurd hv hne
 | odd l' q hv _ _ hq=>rw [hl] at hv;injection hv with hv;subst hv;rw [hc] at hq;injection hq with hq _;exact absurd hq omo
 | end_ l' hv _ hq=>rw [hl] at hv;injection hv with hv;subst hv;rw [hc] at hq;injection hq with _ hq;cases hq
 | ok l' t' hv hs'=>rw [hl] at hv;injection hv with hv;subst hv;rw [c2G hs' hs]
instance frz_fn0 (f:Fn) (c:Nat→HV):Frz (.fn f 0 c):=⟨.fn _ 0 _ _ (fun i hi=>absurd hi (Nat.not_lt_zero _))⟩
@[reducible] def c9O (ls:List (List UInt8)):Nat→Nat→HV:=fun i _=>strV (ls.getD i [])
@[reducible] def c9V (ls:List (List UInt8)):HV:=.sl 1 ls.length (c9O ls)
@[reducible] def c3p (g:Nat) (ls:List (List UInt8)):HObj:=⟨g,ls.length,1,9,0,c9O ls⟩
@[reducible] def d2w (g g2 n:Nat):HObj:=⟨g,1,1,121,0,fun _ _=>.os 8001 g2 0 n⟩
instance frz_nmsV (l:List (List UInt8)):Frz (c9V l):=⟨.sl _ _ _ _ fun i j _ _=>.imm _⟩
theorem b1F {kp sh:List (Nat×HObj)} {g:Nat} {l:List (List UInt8)}:OKz kp sh (c3p g l) (c3p g l):=.of fun i j _ _=>.fz _ _ (.imm _)
def c7X (l:List (List UInt8)) (s:List UInt8):Int:=if s∈l then (l.idxOf s:Int) else -1
theorem d2f {l:List (List UInt8)} {s:List UInt8} {k:Nat} (hk:k < l.length) (h:l.getD k []=s) (hn:∀ i,i < k→l.getD i []≠s):c7X l s=(k:Int):=by
 have hk':l[k]=s:=by rwa [List.getD_eq_getElem?_getD,List.getElem?_eq_getElem hk] at h
 have hm:s∈l:=by rw [←hk'];exact List.getElem_mem hk
 unfold c7X
 rw [if_pos hm]
 congr 1
 have hi:=List.idxOf_lt_length_of_mem hm
 have hgi:l[l.idxOf s]=s:=List.getElem_idxOf hi
 rcases Nat.lt_trichotomy (l.idxOf s) k with h1 | h1 | h1
 ·exact absurd (by rw [List.getD_eq_getElem?_getD,List.getElem?_eq_getElem hi];exact hgi) (hn _ h1)
 ·exact h1
 ·have:=List.not_of_lt_findIdx (p:=(· == s)) (xs:=l) (i:=k) h1
  simp [hk'] at this
theorem d1R {l:List (List UInt8)} {s:List UInt8} (hn:∀ i,i < l.length→l.getD i []≠s):c7X l s=-1:=by
 unfold c7X
 rw [if_neg]
 intro hm
 obtain ⟨i,hi,h⟩:=List.mem_iff_getElem.1 hm
 exact hn i hi (by rw [List.getD_eq_getElem?_getD,List.getElem?_eq_getElem hi];exact h)
theorem c6T (l:List (List UInt8)) (s:List UInt8):decide (0≤c7X l s)=decide (s∈l):=by
 unfold c7X
 by_cases h:s∈l
 ·rw [if_pos h,decide_eq_true h,decide_eq_true omo]
 ·rw [if_neg h,decide_eq_false h];rfl
theorem c8B (g:Nat) (l:List (List UInt8)) (s:List UInt8) (hl:l.length≤1000000):a3K Tryz.prog 113 [.os 8001 g 0 l.length,strV s] [(8001,c3p g l)] (intV (c7X l s)) [(8001,c3p g l)]:=by
 intro c
 refine a0p Tryz.func113 rfl kr _ _ _ _ rfl 19 rfl rfl (fun X ok hX=>?_)
 refine ru 14 ?_
 refine a0l (α:=Nat) (fun x c=>⟨19,[(0,.v (.os 8001 g 0 l.length)),(1,.v (strV s)),(7,.v (intV l.length)),(8,.v (intV x))],[(8001,c3p g l)],c⟩) (fun x=>x≤l.length∧∀ i,i < x→l.getD i []≠s) (fun x=>l.length - x) (0) (by exact ⟨Nat.zero_le _,fun i h=>absurd h (Nat.not_lt_zero _)⟩) (a0b rfl lrf tsa hsa) (fun k c hx NhL1 hL1=>?_)
 (try dsimp only at hx hL1 ⊢)
 obtain ⟨hk,hE⟩:=hx
 refine ru 6 ?_
 refine wdc (fun hr0 hc0=>?_) (fun hr0 hc0=>?_)
 ·refine ru 17 ?_
  refine rvl (strV (l.getD k [])) (by simp only [Nat.zero_add];rfl) ?_
  refine ru 3 ?_
  refine wdc (fun hr1 hc1=>?_) (fun hr1 hc1=>?_)
  ·skip
   have hks:l.getD k []=s:=(by have h:=hr1;simpa [eq_comm] using h)
   refine ru 9 ?_
   refine a0q ?_
   refine ru 2 ?_
   refine fr1 ok hX rw1 (()) (trivial) (by rw [d2f om hks hE];exact kza) ?_
   exact ⟨⟨_,rfl,b1F⟩,trivial⟩
  refine ru 7 ?_
  exact hL1 (k+1) _ _ (by (try dsimp only);exact ⟨by omega,fun i hi=>by by_cases e:i=k;(· subst e;exact fun h=>by rw [h] at hr1;simp at hr1);exact hE i om⟩) omd (a0b rfl lrf tsa hsa)
 refine ru 2 ?_
 refine a0c ?_
 refine ru 8 ?_
 refine fr1 ok hX rw1 (()) (trivial) (by rw [d1R (fun i hi=>hE i om)];exact kza) ?_
 exact ⟨⟨_,rfl,b1F⟩,trivial⟩
theorem b8E (g:Nat) (l:List (List UInt8)) (s:List UInt8) (hl:l.length≤1000000):a3K Tryz.prog 89 [.os 8001 g 0 l.length,strV s] [(8001,c3p g l)] (boolV (decide (s∈l))) [(8001,c3p g l)]:=by
 intro c
 refine a0p Tryz.func89 rfl kr _ _ _ _ rfl 9 rfl rfl (fun X ok hX=>?_)
 refine ru 9 ?_
 refine a0n 7 (xs:=[_,_]) (pre:=[(8001,_)]) (c8B g l s hl _) ⟨rfl,⟨rfl,trivial⟩⟩ (a0h rfl pre0) rfl rfl (fun u c1 hx1=>?_)
 (try dsimp only)
 refine ru 5 ?_
 refine fr1 ok hX rw1 (()) (trivial) (by rw [←c6T];exact kza) ?_
 exact ⟨⟨_,rfl,b1F⟩,trivial⟩
theorem c5d {kp sh:List (Nat×HObj)} {l o':List (List UInt8)} {x:List UInt8} {g n ty:Nat} {f:Nat→Nat→HV} (ho:l++[x]=o') (hn:n=l.length:=by rfl) (h0:f 0 0=strV x:=by rfl):OKz kp sh ⟨g,n+1,1,ty,0,cat n (c9O l) f⟩ ⟨g,o'.length,1,ty,0,c9O o'⟩:=by
 subst hn;subst ho
 refine ⟨rfl,by simp,rfl,rfl,Nat.le_refl _,fun i j hi hj=>.fz _ _ ?_,fun h=>absurd h (Nat.not_lt_zero _)⟩
 show Fz sh (cat l.length (c9O l) f i j) (strV ((l++[x]).getD i []))
 by_cases h':i < l.length
 ·rw [a6B h',a5a h'];exact .imm _
 ·have hi':i=l.length:=by simp only at hi;omega
  subst hi'
  obtain rfl:j=0:=by simp only at hj;omega
  rw [a5O lrf,Nat.sub_self,a2z,h0];exact .imm _
theorem d2u (c g g2:Nat) (l:List (List UInt8)) (s:List UInt8) (hl:l.length≤100000):a2y Tryz.prog 88 c [strV s,.pt 8002 g 0 0] [(8002,d2w g g2 l.length),(8001,c3p g2 l)]
  (a4Q (fun (_:Nat) _=>True) (fun _=>.tup 0 fun _=>default) (fun g'=>[(8002,d2w g g' (if s∈l then l else l++[s]).length),(8001,c3p g' (if s∈l then l else l++[s]))])):=by
 refine a0p Tryz.func88 rfl kr _ _ _ _ rfl 11 rfl rfl (fun X ok hX=>?_)
 refine ru 4 ?_
 refine hq_ 5 (a0B (xs:=[_,_]) (pre:=[(8001,_)]) (b8E g2 l s om) ⟨rfl,⟨rfl,trivial⟩⟩) rfl rfl (a0h rfl pre0) rfl rfl ?_
 refine ru 3 ?_
 refine wdc (fun hr0 hc0=>?_) (fun hr0 hc0=>?_)
 ·skip
  have hns:¬ s∈l:=(by have h:=hr0;simpa using h)
  refine ru 3 ?_
  refine a0y 9 (a0d (id:=9) (hs:=[_]) ei_121.h omx rfl omx ⟨rfl,rfl,rfl,rfl,trivial⟩) rfl rfl pre0 rfl rfl (c':=c+1) rfl ?_
  first
  | refine a0y 10 (a0a ei_121.h omy rfl omy omy (a0D rfl omy) omy rfl) rfl rfl (a0h rfl (a0L rfl)) rfl rfl (c':=c+2) rfl ?_
  | refine a0y 10 (a0a ei_121.h omy rfl omy omy (a1a rfl omy) omy rfl) rfl rfl (a0h rfl (a0L rfl)) rfl rfl (c':=c+2) rfl ?_
  | refine a0y 10 (a0a ei_121.h omy rfl omy omy (a0Y rfl) omy rfl) rfl rfl (a0h rfl pre0) rfl rfl (c':=c+2) rfl ?_
  | refine a0y 10 (a0a ei_121.h omy rfl omy omy (a0G 1 (fun _ _=>default) rfl) omy rfl) rfl rfl (a0h rfl pre0) rfl rfl (c':=c+2) rfl ?_
  refine ru 2 ?_
  refine a1t ?_
  refine a0X ok hX a2j.one rfl  [] rfl pre0 ((c+1)) (trivial) (by rfl) (by rfl) (kza) ?_
  exact ⟨⟨_,rfl,(by exact c9Q (b8K rfl rfl (by rw [if_neg hns];simp)))⟩,⟨⟨_,rfl,(by exact c5d (x:=s) (by rw [if_neg hns]))⟩,trivial⟩⟩
 have hns:s∈l:=(by have h:=hr0;simpa using h)
 refine ru 1 ?_
 refine a1t ?_
 refine a0X ok hX a2j.one rfl  [] rfl pre0 (g2) (trivial) (by rfl) (by rfl) (kza) ?_
 exact ⟨⟨_,rfl,(by exact c9Q (b8K rfl rfl (by rw [if_pos hns])))⟩,⟨⟨_,rfl,(by rw [if_pos hns];exact b1F)⟩,trivial⟩⟩
theorem a6I {e:List Pt} {i:Nat} (h:i < e.length) (hk:(e.getD i default).kind=1):a2r (e.take (i+1))=if (e.getD i default).name∈a2r (e.take i) then a2r (e.take i) else a2r (e.take i)++[(e.getD i default).name]:=by
 rw [a8v h]
 unfold b8y
 by_cases hm:(e.getD i default).name∈a2r (e.take i)
 ·rw [if_neg (fun h=>h.2 hm),if_pos hm]
 ·rw [if_pos ⟨hk,hm⟩,if_neg hm]
theorem a6D {e:List Pt} {i:Nat} (h:i < e.length) (hk:¬ (e.getD i default).kind=1):a2r (e.take (i+1))=a2r (e.take i):=by
 rw [a8v h]
 unfold b8y
 rw [if_neg (fun h=>hk h.1)]
theorem c7F (e:List Pt) (he:e.length≤100000):HPure Tryz.prog 49 [ptsV e] (c9V (a2r e)):=by
 have hnl:=fun i=>a9D (e:=e) i
 refine a0k Tryz.func49 rfl kr _ _ _ rfl 23 rfl rfl (fun w F=>?_)
 refine ru 7 ?_
 refine a0y 3 (a0V (id:=8002) (sz:=1) zc_121.h rfl rfl dcd dcd) rfl rfl pre0 rfl rfl (c':=1) rfl ?_
 refine ru 3 ?_
 refine (a1N 8002 0 8001 1 9 (c9O []) (fun _ _=>.os 8001 1 0 0) rfl rfl (fun j hj=>.inl ⟨by omega,rfl⟩) dcd dcd (c':=2) rfl).wp ?_
 refine ru 14 ?_
 refine a0l (α:=Nat×Nat) (fun x c=>⟨23,[(3,.v (.pt 8002 0 0 0)),(4,.v (.fn (.func 88) 1 (fun q=>[HV.pt 8002 0 0 0].getD q default))),(8,.v (ptsV e)),(9,.v (intV e.length)),(10,.v (intV x.1))],[(8002,d2w 0 x.2 (a2r (e.take x.1)).length),(8001,c3p x.2 (a2r (e.take x.1)))],c⟩) (fun x=>x.1≤e.length) (fun x=>e.length - x.1) ((0,1)) (by exact Nat.zero_le _) (a0b rfl lrf tsa hsa) (fun x c hx NhL1 hL1=>?_)
 revert hx hL1;obtain ⟨i,g⟩:=x;intro hx hL1;dsimp only at hx hL1 ⊢
 refine ru 6 ?_
 refine wdc (fun hr0 hc0=>?_) (fun hr0 hc0=>?_)
 ·skip
  have hil:i < e.length:=om;have hnli:=hnl i
  refine ru 16 ?_
  refine rvl (intV (e.getD i default).kind) (rfl) ?_
  refine ru 3 ?_
  refine wdc (fun hr1 hc1=>?_) (fun hr1 hc1=>?_)
  ·refine ru 4 ?_
   refine rvl (strV (e.getD i default).name) (rfl) ?_
   refine b4b 20 (xs:=[_]) (cs:=[_]) (pre:=[(8002,_),(8001,_)]) (d2u _ 0 g (a2r (e.take i)) (e.getD i default).name om) rfl rfl (fun i hi=>by first | rfl | (rcases i with _ | i <;> first | rfl | (exact absurd hi om) | (simp at hi))) ⟨rfl,trivial⟩ (a0h rfl (a0h rfl pre0)) rfl rfl (fun g3 c1 hx1=>?_)
   (try dsimp only)
   refine ru 7 ?_
   exact hL1 ((i+1,g3)) _ _ omd omd (a0b rfl lrf tsa (a0g.cons rfl (by dsimp only;rw [a6I hil hc1];exact .refl _) (a0g.cons rfl (by dsimp only;rw [a6I hil hc1];exact .refl _) a0g.nil)))
  refine ru 7 ?_
  exact hL1 ((i+1,g)) _ _ omd omd (a0b rfl lrf tsa (a0g.cons rfl (by dsimp only;rw [a6D hil hc1];exact .refl _) (a0g.cons rfl (by dsimp only;rw [a6D hil hc1];exact .refl _) a0g.nil)))
 refine ru 2 ?_
 refine a0c ?_
 refine ru 3 ?_
 obtain rfl:i=e.length:=om
 refine ru 6 ?_
 refine a5q rfl (a0f rfl) [(8001,_)] rfl (a0h rfl pre0) ?_
 rw [List.take_length];exact a2v (l:=a2r e) (enc:=fun x _=>strV x) (d:=[]) (List.mem_cons_self ..) rfl rfl lrf (fun i j _ _=>.imm _)
structure MeanOk (mf:FuncId) (mk:Nat) (mcaps:Nat→HV) (mcs:List HV) (m:List UInt8→Bag):Prop where
 len:mcs.length=mk
 cap:∀ i,i < mk→mcs[i]?=some (mcaps i)
 fz:FzAll [] mcs mcs
 ff:∀ sh,Fz sh (.fn (.func mf) mk mcaps) (.fn (.func mf) mk mcaps)
 h:∀ s,nameV s=true→HPure Tryz.prog mf ([strV s]++mcs) (bagH (m s))
 ok:∀ s,(m s).ok
section
variable {mf:FuncId} {mk:Nat} {mcaps:Nat→HV} {mcs:List HV} {m:List UInt8→Bag}
mutual
theorem c1F (M:MeanOk mf mk mcaps mcs m) (e:List Pt) (he:e.length≤100000):∀ (t:T) (b:Nat),t.ok=true→AtP e b (T.flat b t)→c9S (.fn (.func mf) mk mcaps) m e b t
  | .name s,b,hok,hat=>b5Y mf mk mcaps mcs M.len M.cap M.fz M.ff m M.h M.ok e he b (.name s) hok hat (Nat.zero_le _) (fun i hi=>absurd hi (Nat.not_lt_zero _))
  | .times lo hi t, b, hok, hat => by
    have hok':t.ok=true:=by simp only [T.ok,Bool.and_eq_true] at hok;exact hok.2
    refine b5Y mf mk mcaps mcs M.len M.cap M.fz M.ff m M.h M.ok e he b (.times lo hi t) hok hat (by simp [T.kidsT]) (fun i hi=>?_)
    obtain rfl:i=0:=by simpa [T.kidsT] using hi
    have:=c1F M e he t b hok' (by simp only [T.flat] at hat;exact a5e hat)
    simpa [T.kidsT,T.sizeL] using this
  | .many k ts, b, hok, hat => by
    have hok':T.okL ts=true:=by simp only [T.ok,Bool.and_eq_true] at hok;exact hok.2
    have hkl:(T.many k ts).kidsT.length≤100000:=by
      have:=a7b (t:=.many k ts);have:=(a4b hat).2;omega
    exact b5Y mf mk mcaps mcs M.len M.cap M.fz M.ff m M.h M.ok e he b (.many k ts) hok hat hkl (fun i hi=>c0P M e he ts hok' i hi _ (a2E hat hi))
theorem c0P (M:MeanOk mf mk mcaps mcs m) (e:List Pt) (he:e.length≤100000):∀ ts:List T,T.okL ts=true→∀ i,i < ts.length→∀ b,AtP e b (T.flat b (ts.getD i default))→c9S (.fn (.func mf) mk mcaps) m e b (ts.getD i default)
  | [],_,i,hi=>absurd hi (Nat.not_lt_zero _)
  | t :: ts, hok, i, hi => fun b hat => by
    simp only [T.okL,Bool.and_eq_true] at hok
    cases i with
    | zero=>exact c1F M e he t b hok.1 hat
    | succ i=>exact c0P M e he ts hok.2 i (by simpa using hi) b (by simpa using hat)
end
end
deriving instance DecidableEq for Bag
theorem c2i (w:World) (a0 a1 a2 a3 b0 b1 b2 b3:Nat) (d:Nat):(Op.equalIn (d+2) 70 (.agg #[.int .u64 a0,.int .u64 a1,.int .u64 a2,.int .u64 a3]) (.agg #[.int .u64 b0,.int .u64 b1,.int .u64 b2,.int .u64 b3])).run Tryz.prog w=.ok (decide (a0=b0∧a1=b1∧a2=b2∧a3=b3)) w:=by
 unfold Op.equalIn
 simp only [Sem.run_bind,run_underlying Tryz.underlying70,Result.andThen_ok]
 simp [List.range',part,go_sem]
 simp only [Int.natCast_inj]
 by_cases h0:a0=b0 <;> by_cases h1:a1=b1 <;> by_cases h2:a2=b2 <;> by_cases h3:a3=b3 <;> simp [h0,h1,h2,h3]
theorem b0o (w:World) (s t:Bag) (d:Nat):(Op.equalIn (d+3) 72 (.agg s.cells.toArray) (.agg t.cells.toArray)).run Tryz.prog w=.ok (decide (s=t)) w:=by
 simp [Bag.cells,go_sem]
 rw [c2i]
 simp only [Result.andThen_ok]
 cases s;cases t
 simp only [Bag.mk.injEq]
 split <;> simp_all
theorem a7j {w:World} {E:Env} {v:Value} {x:Bag} {f:Nat→HV} (hf:∀ j,j < 4→f j=a3s x j) (h:Rep w E v (.agg 4 f)):v=.agg x.cells.toArray:=by
 refine a7V (w:=w) (E:=E) ?_
 cases h with
 | agg cs _ _ vs hn hv h=>exact .agg cs 4 _ vs hn hv (fun i hi=>by rw [←hf i hi];exact h i hi)
section
variable {ov:Nat→Option HV} {g:Nat} {d:Option Tmp} {ty:TypeId} {pos:String} {af:Array Edge} {gd:Option (Nat×Bool)} {T yT:TypeId} {x y:Operand}
theorem b0u (s t:Bag) {f1 f2:Nat→HV} (hT:T=72) (h1:ovl ov x=some (.agg 4 f1)) (h2:ovl ov y=some (.agg 4 f2)) (hf1:∀ j,j < 4→f1 j=a3s s j) (hf2:∀ j,j < 4→f2 j=a3s t j) :
  HOp Tryz.prog ⟨d,.binOp .eql T x y yT,ty,pos,af,gd⟩ ov g [] (.imm (.bool (decide (s=t)))) [] :=
 a0t fun w E ρ hr=>by
  have hG:Tryz.prog.eqGuardType Tryz.prog.depth 72=false:=by kernel_rfl
  subst hT
  have e1:=a7j hf1 (hr x _ smo h1)
  have e2:=a7j hf2 (hr y _ smo h2)
  refine ⟨_,?_,.imm _⟩
  have hg:(eqGuard .eql 72 x y (.agg s.cells.toArray) (.agg t.cells.toArray)).run Tryz.prog w=.ok () w:=by
   simp [eqGuard,program,Sem.run,hG,Sem.run_bind]
  have hT:(binOp .eql 72 (.agg s.cells.toArray) (.agg t.cells.toArray)).run Tryz.prog w=.ok (.bool (decide (s=t))) w:=by
   simp only [run_eql_struct,b0o w s t 9997,Result.andThen_ok]
  simp only [execOp,e1,e2,Sem.run_bind,hg,Result.andThen_ok,hT,Sem.run_pure]
theorem b6a (s t:Bag) {f1 f2:Nat→HV} (hT:T=72) (h1:ovl ov x=some (.agg 4 f1)) (h2:ovl ov y=some (.agg 4 f2)) (hf1:∀ j,j < 4→f1 j=a3s s j) (hf2:∀ j,j < 4→f2 j=a3s t j) :
  HOp Tryz.prog ⟨d,.binOp .neq T x y yT,ty,pos,af,gd⟩ ov g [] (.imm (.bool (!decide (s=t)))) [] :=
 a0t fun w E ρ hr=>by
  have hG:Tryz.prog.eqGuardType Tryz.prog.depth 72=false:=by kernel_rfl
  subst hT
  have e1:=a7j hf1 (hr x _ smo h1)
  have e2:=a7j hf2 (hr y _ smo h2)
  refine ⟨_,?_,.imm _⟩
  have hg:(eqGuard .neq 72 x y (.agg s.cells.toArray) (.agg t.cells.toArray)).run Tryz.prog w=.ok () w:=by
   simp [eqGuard,program,Sem.run,hG,Sem.run_bind]
  have hT:(binOp .neq 72 (.agg s.cells.toArray) (.agg t.cells.toArray)).run Tryz.prog w=.ok (.bool (!decide (s=t))) w:=by
   simp only [run_neq_struct,b0o w s t 9997,Result.andThen_ok]
  simp only [execOp,e1,e2,Sem.run_bind,hg,Result.andThen_ok,hT,Sem.run_pure]
end
section
variable {mf:FuncId} {mk:Nat} {mcaps:Nat→HV} {mcs:List HV} {m:List UInt8→Bag}
theorem d0p (M:MeanOk mf mk mcaps mcs m) (s:List UInt8) (hs:nameV s=true):HPure Tryz.prog 50 ([strV s]++[.fp 1 (fun _=>.fn (.func mf) mk mcaps)]) (boolV (decide (m s=Bag.zero))):=by
 show HPure _ _ [strV s,.fp 1 (fun _=>.fn (.func mf) mk mcaps)] _
 refine a0k Tryz.func50 rfl kr _ _ _ rfl 9 rfl rfl (fun w F=>?_)
 refine ru 9 ?_
 refine s0 (a6m (xs:=[_]) (cs:=mcs) (M.h s hs) rfl M.len M.cap ⟨rfl,trivial⟩ ⟨(show Fz [] (strV s) (strV s) from Frz.fz),M.fz⟩) ?_
 refine ru 1 ?_
 refine s0 (b0u (m s) Bag.zero rfl rfl rfl (by exact j4 rfl rfl rfl rfl) (by exact j4 rfl rfl rfl rfl)) ?_
 refine ru 4 ?_
 refine rt1 ?_
 exact Frz.fz
theorem b7L {l:List (List UInt8)} {i:Nat} (h:i < l.length):l.getD i []=l[i]:=by rw [List.getD_eq_getElem?_getD,List.getElem?_eq_getElem h];rfl
theorem c3a {q:List UInt8→Bool} {l:List (List UInt8)} {i:Nat} (hi:i < l.length) (h:q (l.getD i [])=true) (hno:∀ j,j < i→q (l.getD j [])=false):l.findIdx? q=some i:=by
 rw [List.findIdx?_eq_some_iff_getElem]
 refine ⟨hi,by rw [←b7L hi];exact h,fun j hj=>?_⟩
 rw [←b7L (by omega:j < l.length),hno j hj];simp
theorem c1Z {q:List UInt8→Bool} {l:List (List UInt8)} (hno:∀ j,j < l.length→q (l.getD j [])=false):l.findIdx? q=none:=by
 rw [List.findIdx?_eq_none_iff]
 intro x hx
 obtain ⟨j,hj,rfl⟩:=List.mem_iff_getElem.1 hx
 rw [←b7L hj];exact hno j hj
theorem c3R (q:List UInt8→Bool) (l:List (List UInt8)):decide ((match l.findIdx? q with | some i=>(i:Int) | none=>-1)≥0)=l.any q:=by
  cases h:l.findIdx? q with
  | none =>
    rw [List.findIdx?_eq_none_iff] at h
    simp only
    have:l.any q=false:=by rw [List.any_eq_false];intro x hx;rw [h x hx];simp
    rw [this];rfl
  | some i =>
    rw [List.findIdx?_eq_some_iff_getElem] at h
    obtain ⟨hi,hq,_⟩:=h
    have:l.any q=true:=List.any_eq_true.2 ⟨l[i],List.getElem_mem hi,hq⟩
    rw [this]
    simp
theorem c4I (f:FuncId) (k:Nat) (caps:Nat→HV) (cs:List HV) (q:List UInt8→Bool) (hk:cs.length=k) (hi:∀ i,i < k→cs[i]?=some (caps i)) (hz:FzAll [] cs cs) (l:List (List UInt8)) (hl:l.length≤1000000) (hq:∀ s∈l,HPure Tryz.prog f ([strV s]++cs) (boolV (q s))) :
  HPure Tryz.prog 87 [c9V l,.fn (.func f) k caps] (intV (match l.findIdx? q with | some i=>(i:Int) | none=>-1)):=by
 refine a0k Tryz.func87 rfl kr _ _ _ rfl 19 rfl rfl (fun w F=>?_)
 refine ru 14 ?_
 refine a0l (α:=Nat) (fun x c=>⟨19,[(0,.v (c9V l)),(1,.v (.fn (.func f) k caps)),(7,.v (intV l.length)),(8,.v (intV (x:Int)))],[],c⟩) (fun x=>x≤l.length∧∀ j,j < x→q (l.getD j [])=false) (fun x=>l.length - x) (0) (by exact ⟨Nat.zero_le _,fun j hj=>absurd hj (Nat.not_lt_zero _)⟩) (a0b rfl lrf tsa a0g.nil) (fun i c hx NhL1 hL1=>?_)
 (try dsimp only at hx hL1 ⊢)
 obtain ⟨hil,hno⟩:=hx
 refine ru 6 ?_
 refine wdc (fun hr0 hc0=>?_) (fun hr0 hc0=>?_)
 ·refine ru 17 ?_
  refine s0 (a6m (xs:=[_]) (cs:=cs) (hq (l.getD i []) (by rw [b7L om];exact List.getElem_mem _)) rfl hk hi ⟨rfl,trivial⟩ ⟨(show Fz [] (strV (l.getD i [])) (strV (l.getD i [])) from Frz.fz),hz⟩) ?_
  refine ru 2 ?_
  refine wdc (fun hr1 hc1=>?_) (fun hr1 hc1=>?_)
  ·refine ru 9 ?_
   refine a0q ?_
   refine ru 2 ?_
   refine rt1 ?_
   rw [c3a om hc1 hno];exact .imm _
  refine ru 7 ?_
  exact hL1 (i+1) _ _ (by (try dsimp only);exact ⟨by omega,fun j hj=>by rcases Nat.lt_or_ge j i with h | h;exact hno j h;obtain rfl:j=i:=om;exact hc1⟩) omd (a0b rfl lrf tsa a0g.nil)
 refine ru 2 ?_
 refine a0c ?_
 refine ru 8 ?_
 refine rt1 ?_
 rw [c1Z (fun j hj=>hno j om)];exact .imm _
theorem b5a (f:FuncId) (k:Nat) (caps:Nat→HV) (cs:List HV) (q:List UInt8→Bool) (hk:cs.length=k) (hi:∀ i,i < k→cs[i]?=some (caps i)) (hz:FzAll [] cs cs) (hff:∀ sh,Fz sh (.fn (.func f) k caps) (.fn (.func f) k caps)) (l:List (List UInt8)) (hl:l.length≤1000000) (hq:∀ s∈l,HPure Tryz.prog f ([strV s]++cs) (boolV (q s))) :
  HPure Tryz.prog 48 [c9V l,.fn (.func f) k caps] (boolV (l.any q)):=by
 refine a0k Tryz.func48 rfl kr _ _ _ rfl 9 rfl rfl (fun w F=>?_)
 refine ru 9 ?_
 refine s0 (a0e (xs:=[_,_]) (c4I f k caps cs q hk hi hz l hl hq) ⟨rfl,⟨rfl,trivial⟩⟩ ⟨fe,⟨(hff _),trivial⟩⟩) ?_
 refine ru 5 ?_
 refine rt1 ?_
 rw [←c3R];exact .imm _
end
def d2A (w:Nat) (on:List Bag) (β:Nat→Bag) (p:Pc):Nat→HV:=fun j=>match j with
 | 0=>.sl 4 w (c1h (onF on)) | 1=>.sl 4 w (c1h β)
 | 2=>a3s p.first 0 | 3=>a3s p.first 1 | 4=>a3s p.first 2 | 5=>a3s p.first 3
 | 6=>a3s p.ends 0 | 7=>a3s p.ends 1 | 8=>a3s p.ends 2 | 9=>a3s p.ends 3
 | _=>boolV p.empty
@[reducible] def netP (w:Nat) (on:List Bag) (β:Nat→Bag) (p:Pc):HV:=.fp 11 (d2A w on β p)
@[reducible] def noNet (e:Int):HV:=t2 (.imm (.pointer none)) (intV e)
@[reducible] def treeNet (m:List UInt8→Bag) (t:T):HV:=netP (0+t.w) (lay m t 0).on (links (fun _=>Bag.zero) (lay m t 0).lk) (lay m t 0).pc
theorem j11 {P:Nat→Prop} (h0:P 0) (h1:P 1) (h2:P 2) (h3:P 3) (h4:P 4) (h5:P 5) (h6:P 6) (h7:P 7) (h8:P 8) (h9:P 9) (h10:P 10):∀ j,j < 11→P j:=fun j hj=>by
 match j,hj with | 0,_=>exact h0 | 1,_=>exact h1 | 2,_=>exact h2 | 3,_=>exact h3 | 4,_=>exact h4 | 5,_=>exact h5 | 6,_=>exact h6 | 7,_=>exact h7 | 8,_=>exact h8 | 9,_=>exact h9 | 10,_=>exact h10
def noneV (m:List UInt8→Bag) (e:List Pt):Bool:=(a2r e).any (fun s=>decide (m s=Bag.zero))
inductive NewIs (m:List UInt8→Bag) (e:List Pt):HV→Prop
 | bad (h:rightV e=false):NewIs m e (noNet 1)
 | none (h:rightV e=true) (h2:noneV m e=true):NewIs m e (noNet 6)
 | nil (h:e=[]):NewIs m e (t2 (netP 0 [] (fun _=>Bag.zero) ⟨Bag.zero,Bag.zero,true⟩) (intV 0))
 | full (t:T) (hok:t.ok=true) (h:e=T.flat 0 t) (h2:noneV m e=false) (hw:256 < t.w):NewIs m e (noNet 7)
 | fine (t:T) (hok:t.ok=true) (h:e=T.flat 0 t) (h2:noneV m e=false) (hw:t.w≤256):NewIs m e (t2 (treeNet m t) (intV 0))
theorem b4I:rightV []=true:=by decide +kernel
theorem b9P {m:List UInt8→Bag} {e:List Pt} {r:HV} (hr:NewIs m e r) (h:rightV e=false):r=noNet 1:=by
 cases hr with
 | bad=>rfl
 | none h' _=>rw [h] at h';cases h'
 | nil h'=>subst h';rw [b4I] at h;cases h
 | full t hok h'=>subst h';rw [a5b hok] at h;cases h
 | fine t hok h'=>subst h';rw [a5b hok] at h;cases h
theorem b8P {m:List UInt8→Bag} {e:List Pt} {r:HV} (hr:NewIs m e r) (h:rightV e=true) (h2:noneV m e=true):r=noNet 6:=by
 cases hr with
 | bad h'=>rw [h] at h';cases h'
 | none=>rfl
 | nil h'=>subst h';cases h2
 | full t _ _ h'=>rw [h2] at h';cases h'
 | fine t _ _ h'=>rw [h2] at h';cases h'
theorem c0N {m:List UInt8→Bag} {r:HV} (hr:NewIs m [] r):r=t2 (netP 0 [] (fun _=>Bag.zero) ⟨Bag.zero,Bag.zero,true⟩) (intV 0):=by
 generalize he:([]:List Pt)=e at hr
 cases hr with
 | bad h'=>subst he;rw [b4I] at h';cases h'
 | none _ h'=>subst he;cases h'
 | nil=>rfl
 | full t _ h'=>subst he;have:=congrArg List.length h';rw [T.flat_len] at this;have:=t.size_pos;simp at *;omega
 | fine t _ h'=>subst he;have:=congrArg List.length h';rw [T.flat_len] at this;have:=t.size_pos;simp at *;omega
theorem b8u {m:List UInt8→Bag} {e:List Pt} {r:HV} (hr:NewIs m e r) (h:rightV e=true) (h2:noneV m e=false) (h3:e.length≠0):∃ t:T,t.ok=true∧e=T.flat 0 t∧((256 < t.w∧r=noNet 7)∨(t.w≤256∧r=t2 (treeNet m t) (intV 0))):=by
 cases hr with
 | bad h'=>rw [h] at h';cases h'
 | none _ h'=>rw [h2] at h';cases h'
 | nil h'=>subst h';exact absurd rfl h3
 | full t hok h' _ hw=>exact ⟨t,hok,h',.inl ⟨hw,rfl⟩⟩
 | fine t hok h' _ hw=>exact ⟨t,hok,h',.inr ⟨hw,rfl⟩⟩
theorem c2a {sh:List (Nat×HObj)} {id g n n':Nat} {γ γ':Nat→Bag} (ho:(id,a4W g n γ)∈sh) (hn:n'=n) (h:∀ i,i < n→γ i=γ' i):Fz sh (.os id g 0 n') (.sl 4 n' (c1h γ')):=by
 subst hn
 refine Fz.os id g 0 n' _ _ ho rfl (by show 0+n'≤n';omega) (fun i j hi hj=>?_)
 show Fz sh (a3s (γ (0+i)) j) (a3s (γ' i) j)
 rw [Nat.zero_add,h i hi];exact .imm _
theorem a8p:∀ (l:List Pt) (o:List (List UInt8)) (s:List UInt8),s∈l.foldl b8y o→s∈o∨∃ x∈l,x.kind=1∧x.name=s
  | [],o,s,h=>.inl h
  | x :: l, o, s, h => by
    rcases a8p l (b8y o x) s h with h' | ⟨y,hy,h1,h2⟩
    · unfold b8y at h'
      split at h'
      · rename_i hk
        rcases List.mem_append.1 h' with h'' | h''
        · exact .inl h''
        · rw [List.mem_singleton] at h'';exact .inr ⟨x,List.mem_cons_self ..,hk.1,h''.symm⟩
      · exact .inl h'
    · exact .inr ⟨y,List.mem_cons_of_mem _ hy,h1,h2⟩
theorem c4p {e:List Pt} (hR:rightV e=true) (s:List UInt8) (hs:s∈a2r e):nameV s=true:=by
 rcases a8p e [] s hs with h | ⟨x,hx,hk,rfl⟩
 ·cases h
 ·rcases b5x hR with rfl | ⟨t,hok,rfl⟩
  ·cases hx
  ·have:=b0a t 0 hok x hx
   unfold a2g at this
   simp [hk] at this
   simp [this]
section
variable {ov:Nat→Option HV} {g:Nat} {d:Option Tmp} {ty:TypeId} {pos:String} {af:Array Edge} {gd:Option (Nat×Bool)} {T yT:TypeId} {x y:Operand}
theorem b3O {f:Fn} {n:Nat} {caps:Nat→HV} (hT:T=74) (h1:ovl ov x=some (.fn f n caps)) (h2:ovl ov y=some (.imm .nilFunc)) :
    HOp Tryz.prog ⟨d,.binOp .eql T x y yT,ty,pos,af,gd⟩ ov g [] (.imm (.bool false)) [] :=
  a0t fun w E ρ hr=>by
    subst hT
    have e1:=hr x _ smo h1
    have e2:=Rep.imm_inv (hr y _ smo h2)
    generalize hv:ρ x=v at e1
    cases e1 with
    | fn _ vcs _ _ vs hn hvv hrr =>
      refine ⟨_,?_,.imm _⟩
      have hg:(eqGuard .eql 74 x y (.func f #[] vcs) .nilFunc).run Tryz.prog w=.ok () w:=by kernel_rfl
      have hT:(binOp .eql 74 (.func f #[] vcs) .nilFunc).run Tryz.prog w=.ok (.bool false) w:=by kernel_rfl
      simp only [execOp,hv,e2,Sem.run_bind,hg,Result.andThen_ok,hT,Sem.run_pure]
end
section
variable {mf:FuncId} {mk:Nat} {mcaps:Nat→HV} {mcs:List HV} {m:List UInt8→Bag}
theorem c7p (M:MeanOk mf mk mcaps mcs m) (e:List Pt) (he:PtB e) (r:HV) (hr:NewIs m e r):HPure Tryz.prog 22 [ptsV e,.fn (.func mf) mk mcaps] r:=by
 have hel:=he.1
 refine a0k Tryz.func22 rfl kr _ _ _ rfl 55 rfl rfl (fun w F=>?_)
 refine ru 11 ?_
 refine cll (c9u e he) ?_
 refine ru 3 ?_
 refine stg 11 (fun hb=>b3O rfl rfl rfl) rfl rfl rfl rfl rfl ?_
 refine ru 3 ?_
 refine wdc (fun hr0 hc0=>?_) (fun hr0 hc0=>?_)
 ·skip
  have hR:rightV e=false:=(by simpa using hr0)
  refine ru 8 ?_
  refine rt2 ?_
  rw [b9P hr hR];exact .tup _ _ _ (fun i hi=>by match i,hi with | 0,_=>exact .imm _ | 1,_=>exact .imm _)
 have hR:rightV e=true:=(by simpa using hr0)
 refine ru 6 ?_
 refine cll (c7F e he.1) ?_
 refine ru 1 ?_
 refine (a1b 17 [(3,_)] rfl (a0h rfl pre0) rfl ((show Fz _ _ (.fn (.func 50) 1 (fun i=>[HV.fp 1 (fun _=>.fn (.func mf) mk mcaps)].getD i default)) from .fn _ _ _ _ (fun i hi=>by obtain rfl:i=0:=om;exact .pt 3 _ 0 0 1 _ _ (.head _) rfl (Nat.lt_succ_self 0) lrf (fun j hj=>M.ff _))))).seq ?_
 refine s0 (a0e (xs:=[_,_]) (b5a 50 1 (fun i=>[HV.fp 1 (fun _=>.fn (.func mf) mk mcaps)].getD i default) [.fp 1 (fun _=>.fn (.func mf) mk mcaps)] (fun s=>decide (m s=Bag.zero)) rfl (fun i hi=>by obtain rfl:i=0:=om;rfl) ⟨.fp _ _ lrf _ _ (fun j hj=>M.ff _),trivial⟩ (fun sh=>.fn _ _ _ _ (fun i hi=>by obtain rfl:i=0:=om;exact .fp _ _ lrf _ _ (fun j hj=>M.ff _))) (a2r e) (by have:=a9D (e:=e) e.length;rw [List.take_length] at this;omega) (fun s hs=>d0p M s (c4p hR s hs))) ⟨rfl,⟨rfl,trivial⟩⟩ ⟨(Fz.eq rfl),⟨(.fn _ _ _ _ (fun i hi=>by obtain rfl:i=0:=om;exact .fp _ _ lrf _ _ (fun j hj=>M.ff _))),trivial⟩⟩) ?_
 refine ru 2 ?_
 refine wdc (fun hr1 hc1=>?_) (fun hr1 hc1=>?_)
 ·refine ru 8 ?_
  refine rt2 ?_
  rw [b8P hr hR hr1];exact .tup _ _ _ (fun i hi=>by match i,hi with | 0,_=>exact .imm _ | 1,_=>exact .imm _)
 refine ru 10 ?_
 refine wdc (fun hr2 hc2=>?_) (fun hr2 hc2=>?_)
 ·skip
  obtain rfl:e=[]:=(by apply List.length_eq_zero_iff.1;omega)
  refine ru 10 ?_
  refine a9F rfl (a0f rfl) (a0f rfl) [(23,_)] rfl (a0h rfl pre0) ?_
  rw [c0N hr];exact .tup _ _ _ (fun i hi=>by match i,hi with | 0,_=>exact .pt 23 _ 0 0 11 _ _ (.head _) rfl (Nat.lt_succ_self 0) lrf (by exact j11 (.nil 0 4 _ dcd none) (.nil 0 4 _ dcd none) (.imm _) (.imm _) (.imm _) (.imm _) (.imm _) (.imm _) (.imm _) (.imm _) (.imm _)) | 1,_=>exact .imm _)
 obtain ⟨t,hok,het,hw⟩:=b8u hr hR hr1 om;have hat:AtP e 0 (T.flat 0 t):=⟨[],[],by simp [het],rfl⟩;have hsz:e.length=t.size:=(by rw [het];exact T.flat_len 0 t);have hps:=t.size_pos
 refine ru 9 ?_
 refine rvl (intV ((0+t.size - 1:Nat):Int)) (congrArg intV om) ?_
 refine cll (b2R e he.1 t 0 hok hat) ?_
 refine ru 3 ?_
 refine wdc (fun hr3 hc3=>?_) (fun hr3 hc3=>?_)
 ·refine ru 8 ?_
  refine rt2 ?_
  rcases hw with ⟨_,rfl⟩ | ⟨hw,_⟩;exact .tup _ _ _ (fun i hi=>by match i,hi with | 0,_=>exact .imm _ | 1,_=>exact .imm _);(exfalso;unfold a4i at hc3;rw [if_pos om] at hc3;omega)
 have hww:t.w≤256∧r=t2 (treeNet m t) (intV 0):=(by rcases hw with ⟨hw,_⟩ | hw;(exfalso;unfold a4i at hc3;split at hc3 <;> omega);exact hw);obtain ⟨hwl,rfl⟩:=hww
 refine ru 5 ?_
 refine a0y 31 (a6O (id:=9001) (sz:=11) rfl rfl rfl dcd dcd) rfl rfl pre0 rfl rfl (c':=2) rfl ?_
 refine ru 4 ?_
 refine (a1N 9001 0 9002 4 72 (c1h (onF [])) (d1W (.os 9002 2 0 0) (.imm (.slice none 0 0)) Bag.zero Bag.zero false) rfl rfl (by exact j11 (.inl ⟨rfl,rfl⟩) (.inr rfl) (.inr rfl) (.inr rfl) (.inr rfl) (.inr rfl) (.inr rfl) (.inr rfl) (.inr rfl) (.inr rfl) (.inr rfl)) dcd dcd (c':=3) rfl).wp ?_;refine (a1N 9001 1 9003 4 72 (c1h (fun _=>Bag.zero)) (d1W (.os 9002 2 0 0) (.os 9003 3 0 0) Bag.zero Bag.zero false) rfl rfl (by exact j11 (.inr rfl) (.inl ⟨rfl,rfl⟩) (.inr rfl) (.inr rfl) (.inr rfl) (.inr rfl) (.inr rfl) (.inr rfl) (.inr rfl) (.inr rfl) (.inr rfl)) dcd dcd (c':=4) rfl).wp ?_
 refine ru 6 ?_
 refine rvl (intV ((0+t.size - 1:Nat):Int)) (congrArg intV om) ?_
 refine ru 1 ?_
 refine a0n 38 (xs:=[_,_,_,_]) (pre:=[(9001,_),(9002,_),(9003,_)]) (c1F M e he.1 t 0 hok hat _ 1 2 3 0 [] (fun _=>Bag.zero) rfl om (fun _=>Bag.zero_ok) (fun _ _ _=>rfl)) ⟨rfl,⟨rfl,⟨rfl,⟨rfl,trivial⟩⟩⟩⟩ (a0h rfl (a0h rfl (a0h rfl pre0))) rfl rfl (fun x1 c1 hyy=>?_)
 obtain ⟨y2,y3⟩:=x1
 (try dsimp only)
 refine ru 27 ?_
 refine (a0W 9001 ⟨1,1,11,125,0,d1W (.os 9002 y2 0 (0+t.w)) (.os 9003 y3 0 (0+t.w)) (lay m t 0).pc.first (lay m t 0).pc.ends (lay m t 0).pc.empty⟩ rfl (by exact a2m.of (fun i j hi hj=>by obtain rfl:i=0:=om;match j,hj with | 0,_=>exact .refl _ | 1,_=>exact .refl _ | 2,_=>exact .refl _ | 3,_=>exact .refl _ | 4,_=>exact .refl _ | 5,_=>exact .refl _ | 6,_=>exact .refl _ | 7,_=>exact .refl _ | 8,_=>exact .refl _ | 9,_=>exact .refl _ | 10,_=>exact .refl _))).wp ?_
 refine ru 7 ?_
 refine a9F rfl (a0f rfl) (a0f rfl) [(9001,_),(9002,_),(9003,_)] rfl (a0h rfl (a0h rfl (a0h rfl pre0))) ?_
 exact .tup _ _ _ (fun i hi=>by match i,hi with | 0,_=>exact .pt 9001 _ 0 0 11 _ _ (.head _) rfl (Nat.lt_succ_self 0) lrf (by exact j11 (c2a (γ':=onF (lay m t 0).on) (.tail _ (.head _)) rfl (fun _ _=>rfl)) (c2a (γ':=links (fun _=>Bag.zero) (lay m t 0).lk) (.tail _ (.tail _ (.head _))) rfl (fun _ _=>rfl)) (.imm _) (.imm _) (.imm _) (.imm _) (.imm _) (.imm _) (.imm _) (.imm _) (.imm _)) | 1,_=>exact .imm _)
end
@[reducible] def MnC (e:List Pt) (b:Nat) (t:T):Prop:=HPure Tryz.prog 17 [ptsV e,intV ((b+t.size - 1:Nat):Int)] (intV (a4i t.w))
theorem c9a (n:Nat):(if 257 < a4i n then (257:Int) else a4i n)=a4i n:=by unfold a4i;split <;> split <;> omega
theorem b1D (e:List Pt) (he:e.length≤100000) (b:Nat) (t:T) (hok:t.ok=true) (hat:AtP e b (T.flat b t)) (hkl:t.kidsT.length≤100000)
  (ih:∀ i,i < t.kidsT.length→MnC e (b+T.sizeL (t.kidsT.take i)) (t.kidsT.getD i default)):MnC e b t:=by
 have htop:=a4b hat
 have hps:=t.size_pos
 have hkid:=a6W b t
 have hrl:=a0M t.kidsT b
 generalize htp:t.top b=p at htop hkid
 have hpk:p.kind=t.kind:=by rw [←htp];exact a7i b t
 refine a0k Tryz.func17 rfl kr _ _ _ rfl 54 rfl rfl (fun w F=>?_)
 refine ru 11 ?_
 refine rvl (ptH p) (c0S om htop.1) ?_
 refine ru 12 ?_
 refine wdc (fun hr0 hc0=>?_) (fun hr0 hc0=>?_)
 ·refine ru 7 ?_
  refine rt1 ?_
  rw [c5C (by rw [←hpk];exact hc0) hok];exact .imm _
 refine ru 14 ?_
 refine a0l (α:=Nat) (fun x c=>⟨54,[(0,.v (ptsV e)),(5,.v (.pt 5 0 0 0)),(6,.v (intV (a4i (T.wL (t.kidsT.take x))))),(7,.v (intV x))],[(5,⟨0,1,5,91,0,fun _=>ptF p⟩)],c⟩) (fun x=>x≤t.kidsT.length) (fun x=>t.kidsT.length - x) (0) om (a0b rfl lrf tsa hsa) (fun i c hx NhL1 hL1=>?_)
 (try dsimp only at hx hL1 ⊢)
 have hm1:=b1K (T.wL (t.kidsT.take i))
 refine ru 6 ?_
 refine rvl (a2k p.kids) (rfl) ?_
 refine ru 4 ?_
 refine wdc (fun hr1 hc1=>?_) (fun hr1 hc1=>?_)
 ·skip
  have him:i < t.kidsT.length:=(by have h:=hr1;simp [hkid,hrl] at h;omega);have hka:=a2E hat him;have hkt:=a4b hka;have hks:=(t.kidsT.getD i default).size_pos;have hroot:=a3r t.kidsT b i him;have hm2:=b1K (t.kidsT.getD i default).w;have hwt:=a6U t.kidsT i him;have hma:=b7W (T.wL (t.kidsT.take i)) (t.kidsT.getD i default).w
  refine ru 9 ?_
  refine rvl (a2k p.kids) (rfl) ?_
  refine ru 3 ?_
  refine rvl (intV ((b+T.sizeL (t.kidsT.take i)+(t.kidsT.getD i default).size - 1:Nat):Int)) (by exact a3y (i:=i) om (by rw [hkid,hroot];unfold T.root;omega)) ?_
  refine cll (ih i him) ?_
  refine ru 2 ?_
  refine rvl (intV (a4i (T.wL (t.kidsT.take (i+1))))) (by rw [hwt,←hma]) ?_
  refine ru 9 ?_
  exact hL1 (i+1) _ _ omd omd (a0b rfl lrf tsa hsa)
 have hit:i=t.kidsT.length:=(by have h:=hr1;simp [hkid,hrl] at h;omega);rw [hit,List.take_length] at hm1 ⊢
 refine ru 2 ?_
 refine a0c ?_
 refine ru 15 ?_
 refine wdc (fun hr2 hc2=>?_) (fun hr2 hc2=>?_)
 ·skip
  have hct:=a9z b (by rw [←hpk];exact hc2.1) hok;rw [htp] at hct;have hmi:=a7B p.low p.high hct.2.1;have hmm:=b1Y (T.wL t.kidsT) (a0m p.low p.high) om;have hmx:(if p.low < 1 then 1 else p.low)=((a0m p.low p.high:Nat):Int):=(by rw [←hmi,if_pos hc2.2])
  refine ru 5 ?_
  refine rvl (intV ((a0m p.low p.high:Nat):Int)) (by rw [←hmx]) ?_
  refine ru 12 ?_
  refine rt1 ?_
  rw [hct.1,←hmm.1];exact .imm _
 refine ru 7 ?_
 refine wdc (fun hr3 hc3=>?_) (fun hr3 hc3=>?_)
 ·skip
  have hct:=a9z b (by rw [←hpk];exact hc3) hok;rw [htp] at hct;have hmi:=a7B p.low p.high hct.2.1;have hmm:=b1Y (T.wL t.kidsT) (a0m p.low p.high) om;have hmx:p.high=((a0m p.low p.high:Nat):Int):=(by rw [←hmi,if_neg (fun h=>by have h2:=hr2;simp [hc3,h] at h2)])
  refine ru 4 ?_
  refine rvl (intV ((a0m p.low p.high:Nat):Int)) (by exact congrArg intV hmx) ?_
  refine ru 12 ?_
  refine rt1 ?_
  rw [hct.1,←hmm.1];exact .imm _
 have hwm:=b1q (by rw [←hpk];exact hc0) (by rw [←hpk];exact hc3);rw [←hwm] at hm1 ⊢
 refine ru 10 ?_
 refine rt1 ?_
 rw [c9a];exact .imm _
mutual
theorem a9L (e:List Pt) (he:e.length≤100000):∀ (t:T) (b:Nat),t.ok=true→AtP e b (T.flat b t)→MnC e b t
  | .name s,b,hok,hat=>b1D e he b (.name s) hok hat (Nat.zero_le _) (fun i hi=>absurd hi (Nat.not_lt_zero _))
  | .times lo hi t, b, hok, hat => by
    have hok':t.ok=true:=by simp only [T.ok,Bool.and_eq_true] at hok;exact hok.2
    refine b1D e he b (.times lo hi t) hok hat (by simp [T.kidsT]) (fun i hi=>?_)
    obtain rfl:i=0:=by simpa [T.kidsT] using hi
    have:=a9L e he t b hok' (by simp only [T.flat] at hat;exact a5e hat)
    simpa [T.kidsT,T.sizeL] using this
  | .many k ts, b, hok, hat => by
    have hok':T.okL ts=true:=by simp only [T.ok,Bool.and_eq_true] at hok;exact hok.2
    have hkl:(T.many k ts).kidsT.length≤100000:=by
      have:=a7b (t:=.many k ts);have:=(a4b hat).2;omega
    exact b1D e he b (.many k ts) hok hat hkl (fun i hi=>b9A e he ts hok' i hi _ (a2E hat hi))
theorem b9A (e:List Pt) (he:e.length≤100000):∀ ts:List T,T.okL ts=true→∀ i,i < ts.length→∀ b,AtP e b (T.flat b (ts.getD i default))→MnC e b (ts.getD i default)
  | [],_,i,hi=>absurd hi (Nat.not_lt_zero _)
  | t :: ts, hok, i, hi => fun b hat => by
    simp only [T.okL,Bool.and_eq_true] at hok
    cases i with
    | zero=>exact a9L e he t b hok.1 hat
    | succ i=>exact b9A e he ts hok.2 i (by simpa using hi) b (by simpa using hat)
end
section
variable {ov:Nat→Option HV} {g:Nat} {d:Option Tmp} {ty:TypeId} {pos:String} {af:Array Edge} {gd:Option (Nat×Bool)} {T yT:TypeId} {x y:Operand}
end
theorem c4b (wd:Nat) (on:List Bag) (β:Nat→Bag) (p:Pc):HPure Tryz.prog 37 [netP wd on β p] (bagH p.first):=by
 refine a0k Tryz.func37 rfl kr _ _ _ rfl 10 rfl rfl (fun w F=>?_)
 refine ru 12 ?_
 refine wdc (fun hr0 hc0=>?_) (fun hr0 hc0=>?_)
 ·skip
  exfalso;simp at hr0
 refine ru 12 ?_
 refine rt1 ?_
 exact a2o (by exact j4 rfl rfl rfl rfl)
theorem c8S (wd:Nat) (on:List Bag) (β:Nat→Bag) (p:Pc):HPure Tryz.prog 104 [netP wd on β p] (bagH p.ends):=by
 refine a0k Tryz.func104 rfl kr _ _ _ rfl 10 rfl rfl (fun w F=>?_)
 refine ru 12 ?_
 refine wdc (fun hr0 hc0=>?_) (fun hr0 hc0=>?_)
 ·skip
  exfalso;simp at hr0
 refine ru 12 ?_
 refine rt1 ?_
 exact a2o (by exact j4 rfl rfl rfl rfl)
theorem d2c (wd:Nat) (γ:Nat→Bag) (i:Int) (hw:wd≤1000):HPure Tryz.prog 71 [.sl 4 wd (c1h γ),intV i] (bagH (if 0≤i∧i < (wd:Int) then γ i.toNat else Bag.zero)):=by
 refine a0k Tryz.func71 rfl kr _ _ _ rfl 18 rfl rfl (fun w F=>?_)
 refine ru 18 ?_
 refine wdc (fun hr0 hc0=>?_) (fun hr0 hc0=>?_)
 ·refine ru 8 ?_
  refine rt1 ?_
  rw [if_neg om];exact a2o (by exact j4 rfl rfl rfl rfl)
 have hin:0≤i∧i < (wd:Int):=(by simp at hr0;omega)
 refine ru 12 ?_
 refine rt1 ?_
 rw [if_pos hin];exact a2o (by exact j4 rfl rfl rfl rfl)
theorem c1A (wd:Nat) (on:List Bag) (β:Nat→Bag) (p:Pc) (i:Int) (hw:wd≤1000):HPure Tryz.prog 40 [netP wd on β p,intV i] (bagH (if 0≤i∧i < (wd:Int) then β i.toNat else Bag.zero)):=by
 refine a0k Tryz.func40 rfl kr _ _ _ rfl 14 rfl rfl (fun w F=>?_)
 refine ru 12 ?_
 refine wdc (fun hr0 hc0=>?_) (fun hr0 hc0=>?_)
 ·skip
  exfalso;simp at hr0
 refine ru 8 ?_
 refine rvl ((HV.sl 4 wd (c1h β))) (rfl) ?_
 refine ru 1 ?_
 refine s0 (a0e (xs:=[_,_]) (d2c wd β i hw) ⟨rfl,⟨rfl,trivial⟩⟩ ⟨(.sl _ _ _ _ fun _ _ _ _=>.imm _),⟨fe,trivial⟩⟩) ?_
 refine ru 4 ?_
 refine rt1 ?_
 exact a2o (by exact j4 rfl rfl rfl rfl)
theorem d2U (wd:Nat) (on:List Bag) (β:Nat→Bag) (p:Pc) (i:Int) (hw:wd≤1000):HPure Tryz.prog 65 [netP wd on β p,intV i] (bagH (if 0≤i∧i < (wd:Int) then onF on i.toNat else Bag.zero)):=by
 refine a0k Tryz.func65 rfl kr _ _ _ rfl 14 rfl rfl (fun w F=>?_)
 refine ru 12 ?_
 refine wdc (fun hr0 hc0=>?_) (fun hr0 hc0=>?_)
 ·skip
  exfalso;simp at hr0
 refine ru 8 ?_
 refine rvl ((HV.sl 4 wd (c1h (onF on)))) (rfl) ?_
 refine ru 1 ?_
 refine s0 (a0e (xs:=[_,_]) (d2c wd (onF on) i hw) ⟨rfl,⟨rfl,trivial⟩⟩ ⟨(.sl _ _ _ _ fun _ _ _ _=>.imm _),⟨fe,trivial⟩⟩) ?_
 refine ru 4 ?_
 refine rt1 ?_
 exact a2o (by exact j4 rfl rfl rfl rfl)
theorem c5p {s:List UInt8} (h:nameV s=true):s≠[]:=by rintro rfl;revert h;decide +kernel
instance (w:Nat) (on:List Bag) (β:Nat→Bag) (p:Pc) (j:Nat):Frz (d2A w on β p j):=⟨by unfold d2A;split <;> first | exact .imm _ | exact .sl _ _ _ _ fun _ _ _ _=>.imm _⟩
end
section
set_option maxRecDepth 10000
def mrg:List Int→List Int→List Int
 | [],b=>b
 | x::a,[]=>x::a
 | x::a,y::b=>if x < y then x::mrg a (y::b) else if x=y then y::mrg a b else y::mrg (x::a) b
termination_by a b=>a.length+b.length
theorem b1B (a:List Int):mrg a []=a:=by cases a <;> simp [mrg]
theorem b1y (b:List Int):mrg [] b=b:=by simp [mrg]
theorem d1y {x:Int} {a g:List Int} (h:∀ y∈g,x < y):mrg (x::a) g=x::mrg a g:=by
 cases g with
 | nil=>rw [b1B,b1B]
 | cons y b=>rw [mrg,if_pos (h y (List.mem_cons_self ..))]
theorem d0L {y:Int} {f b:List Int} (h:∀ x∈f,y < x):mrg f (y::b)=y::mrg f b:=by
 cases f with
 | nil=>rw [b1y,b1y]
 | cons x a=>have:=h x (List.mem_cons_self ..);rw [mrg,if_neg omo,if_neg omo]
theorem c6k {y:Int} {a b:List Int}:mrg (y::a) (y::b)=y::mrg a b:=by
 rw [mrg,if_neg omo,if_pos rfl]
theorem b1j (p q:Nat→Bool):∀ l:List Nat,l.Pairwise (· < ·) →
    mrg ((l.filter p).map fun j:Nat=>(j:Int)) ((l.filter q).map fun j:Nat=>(j:Int))=(l.filter fun j=>p j||q j).map fun j:Nat=>(j:Int)
  | [],_=>by simp [mrg]
  | a :: l, h => by
    have hl:=List.pairwise_cons.1 h
    have ih:=b1j p q l hl.2
    have hgt:∀ r:Nat→Bool,∀ y∈(l.filter r).map (fun j:Nat=>(j:Int)),(a:Int) < y:=fun r y hy=>by
      obtain ⟨j,hj,rfl⟩:=List.mem_map.1 hy
      have:=hl.1 j (List.mem_filter.1 hj).1
      omega
    by_cases hp:p a=true <;> by_cases hq:q a=true
    · rw [List.filter_cons_of_pos hp,List.filter_cons_of_pos hq,List.filter_cons_of_pos (by simp [hp])]
      simp only [List.map_cons];rw [c6k,ih]
    · rw [List.filter_cons_of_pos hp,List.filter_cons_of_neg hq,List.filter_cons_of_pos (by simp [hp])]
      simp only [List.map_cons];rw [d1y (hgt q),ih]
    · rw [List.filter_cons_of_neg hp,List.filter_cons_of_pos hq,List.filter_cons_of_pos (by simp [hq])]
      simp only [List.map_cons];rw [d0L (hgt p),ih]
    · rw [List.filter_cons_of_neg hp,List.filter_cons_of_neg hq,List.filter_cons_of_neg (by simp [hp,hq]),ih]
theorem c8b (x y:Bag):mrg x.list y.list=(bun x y).list:=by
 rw [x.list_eq,y.list_eq,(bun x y).list_eq]
 have:=b1j x.has y.has (List.range 256) List.pairwise_lt_range
 rw [this]
 congr 1
 apply List.filter_congr
 intro j _
 rw [b2L]
def lkP (hi:Int) (g:Nat→Ly) (many:Nat):Nat→List Lk
 | 0=>[]
 | k+1=>lkP hi g many k++(g k).lk++(if hi < 0∧k+1=many then [((g k).pc.ends,(g k).pc.first)] else [])
def b3g (g:Nat→Ly):Nat→Pc
 | 0=>Pc.nil
 | k+1=>(b3g g k).join (g k).pc
def lkJ (g:Nat→Ly):Nat→List Lk
 | 0=>[]
 | k+1=>lkJ g k++[((b3g g k).ends,(g k).pc.first)]
def onP (g:Nat→Ly):Nat→List Bag
 | 0=>[]
 | k+1=>onP g k++(g k).on
def a4v (lo:Nat) (g:Nat→Ly):Nat→List Pc
 | 0=>[]
 | k+1=>if k < lo then a4v lo g k else a4v lo g k++[(g k).pc]
theorem b1z {lo hi:Int} (hlo:0≤lo) (g:Nat→Ly) (many:Nat):∀ k,(a4n lo hi g many k).1=onP g k∧(a4n lo hi g many k).2.1.Perm (lkP hi g many k++lkJ g (min k lo.toNat))∧(a4n lo hi g many k).2.2.1=b3g g (min k lo.toNat)∧(a4n lo hi g many k).2.2.2=a4v lo.toNat g k
  | 0=>by simp [a4n,onP,lkP,lkJ,b3g,a4v]
  | k + 1 => by
    obtain ⟨h1,h2,h3,h4⟩:=b1z hlo g many k
    have hperm:((a4n lo hi g many k).2.1++(g k).lk++(if hi < 0∧k+1=many then [((g k).pc.ends,(g k).pc.first)] else [])).Perm (lkP hi g many (k+1)++lkJ g (min k lo.toNat)):=by
      show List.Perm _ (lkP hi g many k++(g k).lk++_++lkJ g (min k lo.toNat))
      rw [List.append_assoc,List.append_assoc (lkP hi g many k),List.append_assoc (lkP hi g many k)]
      refine (List.Perm.append_right _ h2).trans ?_
      rw [List.append_assoc]
      exact List.Perm.append_left _ List.perm_append_comm
    by_cases hk:(k:Int) < lo
    · have e1:min k lo.toNat=k:=by omega
      have e2:min (k+1) lo.toNat=k+1:=by omega
      rw [e1] at hperm h3
      simp only [a4n]
      rw [if_pos hk,e2,h1,h4]
      refine ⟨rfl,?_,?_,?_⟩
      · simp only [lkJ,h3]
        rw [←List.append_assoc]
        exact List.Perm.append_right _ hperm
      · simp only [h3];rfl
      · simp only [a4v];rw [if_pos omo]
    · have e:min k lo.toNat=min (k+1) lo.toNat:=by omega
      rw [e] at hperm h3
      simp only [a4n]
      rw [if_neg hk]
      refine ⟨by simp only [h1];rfl,hperm,h3,?_⟩
      simp only [h4,a4v];rw [if_neg omo]
theorem a5F (lo:Nat) (g:Nat→Ly):∀ k,(a4v lo g k).length=k - lo
  | 0=>by simp [a4v]
  | k + 1 => by
    have:=a5F lo g k
    simp only [a4v]
    split
    · omega
    · rw [List.length_append,List.length_singleton];omega
theorem b0m (lo:Nat) (g:Nat→Ly):∀ k j,j < k - lo→(a4v lo g k).getD j default=(g (lo+j)).pc
  | 0,j,h=>by omega
  | k + 1, j, h => by
    have hl:=a5F lo g k
    simp only [a4v]
    split
    · exact b0m lo g k j omo
    · by_cases hj:j < k - lo
      · rw [List.getD_eq_getElem?_getD,List.getElem?_append_left omo,←List.getD_eq_getElem?_getD]
        exact b0m lo g k j hj
      · rw [List.getD_eq_getElem?_getD,List.getElem?_append_right omo]
        have e:j - (a4v lo g k).length=0:=by omega
        rw [e]
        simp only [List.getElem?_cons_zero,Option.getD_some]
        congr 2;omega
theorem b6Y {lo hi:Int} (hlo:0≤lo) (g:Nat→Ly) (β:Nat→Bag) :
  (a7O lo hi g).on=onP g (a0m lo hi) ∧
  links (links (links (links β (lkP hi g (a0m lo hi) (a0m lo hi))) (lkJ g (min (a0m lo hi) lo.toNat))) (a2h (a4v lo.toNat g (a0m lo hi))).1) [((b3g g (min (a0m lo hi) lo.toNat)).ends,(a2h (a4v lo.toNat g (a0m lo hi))).2.first)]=links β (a7O lo hi g).lk ∧
  (a7O lo hi g).pc=(b3g g (min (a0m lo hi) lo.toNat)).join (a2h (a4v lo.toNat g (a0m lo hi))).2:=by
 obtain ⟨h1,h2,h3,h4⟩:=b1z (hi:=hi) hlo g (a0m lo hi) (a0m lo hi)
 refine ⟨h1,?_,?_⟩
 ·rw [←a0P,←a0P,←a0P,←List.append_assoc,←List.append_assoc]
  refine b8L ?_ β
  simp only [a7O,h4,h3]
  exact List.Perm.append_right _ (List.Perm.append_right _ h2.symm)
 ·simp only [a7O,h3,h4]
theorem d1N {k many w:Nat} (h:k < many):k * w+w≤many * w:=by rw [←Nat.succ_mul];exact Nat.mul_le_mul_right w h
theorem b5q {g:Nat→Ly} {many N w:Nat} (hg:∀ k,k < many→(g k).Ok (N+k * w) w):∀ k,k≤many→(onP g k).length=k * w
  | 0,_=>by simp [onP]
  | k + 1, h => by
    simp only [onP]
    rw [List.length_append,b5q hg k omo,(hg k omo).len,Nat.succ_mul]
theorem c2F {hi:Int} {g:Nat→Ly} {many N w:Nat} (hg:∀ k,k < many→(g k).Ok (N+k * w) w):∀ k,k≤many→Lks (N+k * w) (lkP hi g many k)
  | 0,_=>fun q hq=>by simp [lkP] at hq
  | k + 1, h => by
    have ih:=c2F (hi:=hi) hg k omo
    have hx:=hg k omo
    have e:N+k * w+w=N+(k+1) * w:=by rw [Nat.succ_mul];omega
    simp only [lkP]
    refine ((ih.mono omo).app (by rw [←e];exact hx.lk)).app ?_
    split
    · rw [←e];exact a5G hx.pc.2 hx.pc.1 hx.inB.2
    · exact fun q hq=>by cases hq
theorem b6s {g:Nat→Ly} {many N w:Nat} (hg:∀ k,k < many→(g k).Ok (N+k * w) w):∀ k,k≤many→(b3g g k).ok∧(b3g g k).inB N (N+k * w)
  | 0,_=>⟨Pc.nil_ok,Pc.inB_nil _ _⟩
  | k + 1, h => by
    obtain ⟨h1,h2⟩:=b6s hg k omo
    have hx:=hg k omo
    have e:N+k * w+w=N+(k+1) * w:=by rw [Nat.succ_mul];omega
    exact ⟨Pc.join_ok h1 hx.pc,Pc.inB_join (h2.mono lrf omo) (hx.inB.mono omo omo)⟩
theorem c6P {g:Nat→Ly} {many N w:Nat} (hg:∀ k,k < many→(g k).Ok (N+k * w) w):∀ k,k≤many→Lks (N+k * w) (lkJ g k)
  | 0,_=>fun q hq=>by simp [lkJ] at hq
  | k + 1, h => by
    have ih:=c6P hg k omo
    obtain ⟨h1,h2⟩:=b6s hg k omo
    have hx:=hg k omo
    have e:N+k * w+w=N+(k+1) * w:=by rw [Nat.succ_mul];omega
    simp only [lkJ]
    exact (ih.mono omo).app (a5G h1.2 hx.pc.1 (h2.2.mono lrf omo))
theorem b7P {lo:Nat} {g:Nat→Ly} {many N w:Nat} (hg:∀ k,k < many→(g k).Ok (N+k * w) w):∀ k,k≤many→∀ p∈a4v lo g k,p.ok∧p.inB N (N+k * w)
  | 0,_=>fun p hp=>by simp [a4v] at hp
  | k + 1, h => fun p hp => by
    have ih:=b7P (lo:=lo) hg k omo
    have hx:=hg k omo
    have e:N+k * w+w=N+(k+1) * w:=by rw [Nat.succ_mul];omega
    simp only [a4v] at hp
    split at hp
    · exact ⟨(ih p hp).1,(ih p hp).2.mono lrf omo⟩
    · rcases List.mem_append.1 hp with hp | hp
      · exact ⟨(ih p hp).1,(ih p hp).2.mono lrf omo⟩
      · rw [List.mem_singleton] at hp;subst hp;exact ⟨hx.pc,hx.inB.mono omo omo⟩
def a9N (g:Nat→Ly):Nat→List Pc
 | 0=>[]
 | k+1=>a9N g k++[(g k).pc]
theorem b2r (g:Nat→Ly):∀ k,(a9N g k).length=k
 | 0=>rfl
 | k+1=>by simp [a9N,b2r g k]
theorem b1N (g:Nat→Ly):∀ k j,j < k→(a9N g k).getD j default=(g j).pc
  | 0,j,h=>by omega
  | k + 1, j, h => by
    have hl:=b2r g k
    simp only [a9N]
    by_cases hj:j < k
    · rw [List.getD_eq_getElem?_getD,List.getElem?_append_left omo,←List.getD_eq_getElem?_getD]
      exact b1N g k j hj
    · obtain rfl:j=k:=by omega
      rw [List.getD_eq_getElem?_getD,List.getElem?_append_right omo,hl,Nat.sub_self]
      rfl
theorem c4J (a b:Pc):a.join b=⟨if a.empty then bun a.first b.first else a.first,if b.empty then bun a.ends b.ends else b.ends,a.empty&&b.empty⟩:=by
 unfold Pc.join;rw [b6O b.ends a.ends]
end
section
open Go.RowKit
set_option maxHeartbeats 400000 in
theorem b9b (A1 A2:Option Addr) (n1 n2 c1 c2 B1 B2:Nat) (l1 l2:List Int) (w:World) (hn1:l1.length=n1) (hn2:l2.length=n2) (h1:Sl w B1 1 a4U A1 l1) (h2:Sl w B2 1 a4U A2 l2) (hb1:n1≤1000000000) (hb2:n2≤1000000000) :
  Calls Tryz.prog 14 #[.slice A1 n1 c1,.slice A2 n2 c2] w fun e w'=>e=.returned (.bool (decide (l1=l2)))∧∃ n,w'=w.drewN n:=by
 subst hn1;subst hn2
 by_cases hl:l1.length=l2.length
 ·have hne:((l1.length:Int) != (l2.length:Int))=false:=by simp [hl]
  have HL:=Lib.hid hl;clear hl
  go_enter Tryz.func14,Tryz.ntmps14
  go_wp2
  go_loopw [5] (fun i wr=>∃ k n:Nat,k≤l1.length∧i=.int .i64 k∧wr=w.drewN n∧Hid (∀ j (a:j < l1.length) (b:j < l2.length),j < k→l1[j]=l2[j])) (fun i _=>l1.length - (intOf i).toNat)
  case atStart=>exact ⟨0,0,Nat.zero_le _,rfl,rfl,fun j a b h=>absurd h (by omega)⟩
  case round =>
   obtain ⟨k,n,hk,rfl,rfl,HE⟩:=hrel
   by_cases hlt:k < l1.length
   ·have hlt2:k < l2.length:=by have:=HL.out;omega
    obtain ⟨b1,o1,rfl,_⟩:=h1.addr (by omega) (by omega)
    obtain ⟨b2,o2,rfl,_⟩:=h2.addr (by omega) (by omega)
    have r1:w.cell? ⟨b1,o1+k,none⟩=some (.int .i64 l1[k]):=h1.cell1 hlt
    have r2:w.cell? ⟨b2,o2+k,none⟩=some (.int .i64 l2[k]):=h2.cell1 hlt2
    by_cases he:l1[k]=l2[k]
    ·have hd:(l1[k] != l2[k])=false:=by simp [he]
     have HE':=Lib.hid he;clear he
     go_wp2
     go_quiet (fail)
     go_wp2
     go_roundw
     case rel =>
      refine ⟨k+1,_,by omega,by go_num,rfl,fun j a b hj=>?_⟩
      rcases Nat.lt_or_ge j k with h | h
      ·exact HE.out j a b h
      ·obtain rfl:j=k:=by omega
       exact HE'.out
     case measure=>simp [intOf];omega
    ·have hd:(l1[k] != l2[k])=true:=by simp [he]
     have hne2:decide (l1=l2)=false:=by
      simp only [decide_eq_false_iff_not]
      intro e;subst e;exact he rfl
     clear he
     go_wp2
     go_quiet (fail)
     go_wp2
     go_ret
     exact ⟨a6e hne2.symm,n+nq,by rw [World.drewN_drewN]⟩
   ·have he2:decide (l1=l2)=true:=by
     simp only [decide_eq_true_eq]
     exact List.ext_getElem HL.out fun j a b=>HE.out j a b (by omega)
    go_wp2
    go_ret
    exact ⟨a6e he2.symm,_,rfl⟩
 ·have hne:((l1.length:Int) != (l2.length:Int))=true:=by simp;omega
  have he2:decide (l1=l2)=false:=by
   simp only [decide_eq_false_iff_not]
   intro e;exact hl (by rw [e])
  clear hl
  go_enter Tryz.func14,Tryz.ntmps14
  go_wp2
  go_ret
  exact ⟨a6e he2.symm,0,rfl⟩
set_option maxRecDepth 100000
set_option maxHeartbeats 1000000
theorem b0k (x:Int) (j:Nat) (hj:j < 1):intV x=.imm ((a4U x).getD j undef):=by obtain rfl:j=0:=omo;rfl
theorem c3P (l:List Int) (hl:l.length≤1000000):HPure Tryz.prog 64 [a0i l] (a0i (a3h l).list):=by
 refine ⟨⟨_,_,Tryz.func64,rfl,by kernel_rfl⟩,fun w F vs hF hr hw=>?_⟩
 obtain ⟨v,rfl,hv⟩:=d0G hr
 obtain ⟨A,c,rfl,hc,hm,hs⟩:=b8C 1 a4U (fun _=>rfl) (fun x _=>intV x) (fun x j hj=>b0k x j hj) 0 l hv
 refine (b9c A l.length c w.heap.size l w rfl hs lrf hl).mono ?_
 intro e w' hg
 rw [←b6w]
 exact b8r hF (fun x _=>intV x) b0k c2Z 0 hg
theorem c2O (l:List Int) (hl:l.length≤1000000) (x:Int):HPure Tryz.prog 72 [a0i l,intV x] (boolV (decide (x∈l))):=by
 refine ⟨⟨_,_,Tryz.func72,rfl,by kernel_rfl⟩,fun w F vs hF hr hw=>?_⟩
 obtain ⟨u,v,rfl,hu,hv⟩:=c9f hr
 obtain ⟨A,c,rfl,hc,hm,hs⟩:=b8C 1 a4U (fun _=>rfl) (fun x _=>intV x) (fun x j hj=>b0k x j hj) 0 l hu
 rw [hv.imm_inv]
 refine (b4i A l.length c w.heap.size l x w rfl hs hl).mono ?_
 rintro e w' ⟨rfl,rfl⟩
 exact a7d hF (Below.refl _ _)
theorem a4Y (a b:List Int) (ha:a.length≤1000000) (hb:b.length≤1000000):HPure Tryz.prog 14 [a0i a,a0i b] (boolV (decide (a=b))):=by
 refine ⟨⟨_,_,Tryz.func14,rfl,by kernel_rfl⟩,fun w F vs hF hr hw=>?_⟩
 obtain ⟨u,v,rfl,hu,hv⟩:=c9f hr
 obtain ⟨A,c,rfl,hc,hm,hs⟩:=b8C 1 a4U (fun _=>rfl) (fun x _=>intV x) (fun x j hj=>b0k x j hj) 0 a hu
 obtain ⟨A',c',rfl,hc',hm',hs'⟩:=b8C 1 a4U (fun _=>rfl) (fun x _=>intV x) (fun x j hj=>b0k x j hj) 0 b hv
 refine (b9b A A' a.length b.length c c' w.heap.size w.heap.size a b w rfl rfl hs hs' omo omo).mono ?_
 rintro e w' ⟨rfl,n,rfl⟩
 exact a7d hF b5Z
theorem b1c {l:List Int} {i:Nat} (h:i < l.length):l.drop i=l.getD i 0::l.drop (i+1):=by
 rw [List.drop_eq_getElem_cons h,List.getD_eq_getElem?_getD,List.getElem?_eq_getElem h];rfl
theorem b2z:∀ a b:List Int,(mrg a b).length≤a.length+b.length
  | [],b=>by simp [mrg]
  | x::a,[]=>by simp [mrg]
  | x :: a, y :: b => by
    rw [mrg]
    have h1:=b2z a (y::b)
    have h2:=b2z a b
    have h3:=b2z (x::a) b
    simp only [List.length_cons] at h1 h2 h3 ⊢
    split
    · simp only [List.length_cons];omega
    · split <;> simp only [List.length_cons] <;> omega
termination_by a b=>a.length+b.length
theorem d3m {A B:List Int} {i k:Nat} (hi:i < A.length) (h:k=B.length∨(k < B.length∧A.getD i 0 < B.getD k 0)):mrg (A.drop i) (B.drop k)=A.getD i 0::mrg (A.drop (i+1)) (B.drop k):=by
 rw [b1c hi]
 rcases h with h | ⟨h,h2⟩
 ·rw [List.drop_eq_nil_of_le (by omega:B.length≤k),b1B,b1B]
 ·rw [b1c h,mrg,if_pos h2]
theorem d3b {A B:List Int} {i k:Nat} (hi:i < A.length) (hk:k < B.length) (h:A.getD i 0=B.getD k 0):mrg (A.drop i) (B.drop k)=B.getD k 0::mrg (A.drop (i+1)) (B.drop (k+1)):=by
 rw [b1c hi,b1c hk,h,c6k]
theorem d3p {A B:List Int} {i k:Nat} (hk:k < B.length) (h:i=A.length∨(i < A.length∧B.getD k 0 < A.getD i 0)):mrg (A.drop i) (B.drop k)=B.getD k 0::mrg (A.drop i) (B.drop (k+1)):=by
 rw [b1c hk]
 rcases h with h | ⟨h,h2⟩
 ·rw [List.drop_eq_nil_of_le (by omega:A.length≤i),b1y,b1y]
 ·rw [b1c h,mrg,if_neg omo,if_neg omo]
@[reducible] def iO (g:Nat) (l:List Int):HObj:=⟨g,l.length,1,3,0,a4C l⟩
theorem c4W (A B:List Int) (hA:A.length≤1000000) (hB:B.length≤1000000):HPure Tryz.prog 73 [a0i A,a0i B] (a0i (mrg A B)):=by
 have hml:=b2z A B
 refine a0k Tryz.func73 rfl kr _ _ _ rfl 75 rfl rfl (fun w F=>?_)
 refine ru 22 ?_
 refine a9J 5 9005 1 3 ((a4C [])) rfl dcd rfl (c':=1) rfl ?_
 refine a0l (α:=Nat×Nat×List Int×Nat) (fun x c=>⟨75,[(0,.v (a0i A)),(1,.v (a0i B)),(5,.v (.os 9005 x.2.2.2 0 x.2.2.1.length)),(6,.v (intV x.1)),(7,.v (intV x.2.1))],[(9005,iO x.2.2.2 x.2.2.1)],c⟩) (fun x=>x.1≤A.length∧x.2.1≤B.length∧x.2.2.1++mrg (A.drop x.1) (B.drop x.2.1)=mrg A B) (fun x=>A.length+B.length - x.1 - x.2.1) ((0,0,[],0)) (by exact ⟨Nat.zero_le _,Nat.zero_le _,rfl⟩) (a0b rfl lrf tsa hsa) (fun x c hx NhL1 hL1=>?_)
 revert hx hL1;obtain ⟨i,k,out,gr⟩:=x;intro hx hL1;dsimp only at hx hL1 ⊢
 obtain ⟨hi,hk,hm⟩:=hx
 have hol:out.length≤2000000:=(by have:=congrArg List.length hm;rw [List.length_append] at this;omega)
 refine ru 15 ?_
 refine wdc (fun hr0 hc0=>?_) (fun hr0 hc0=>?_)
 ·refine ru 16 ?_
  refine a8A 28 9 27 22 false true _ _ (fun hb hb2=>a1p rfl) rfl rfl rfl rfl rfl pre0 rfl (k':=11) rfl ?_
  refine a8A 29 9 27 22 false true _ _ (fun hb hb2=>a1p rfl) rfl rfl rfl rfl rfl pre0 rfl (k':=12) rfl ?_
  first
  | refine a8A 30 9 27 22 false true _ _ (fun hb hb2=>a5T el_23.h rfl rfl (by first | exact Nat.le_of_ble_eq_true rfl | (simp at hb;omega) | (simp at hb2;omega) | (simp at hb hb2;first | omega | (dsimp only;omega) | (simp <;> omega)) | omega | (dsimp only;omega)) (by first | exact Nat.le_of_ble_eq_true rfl | (simp at hb;omega) | (simp at hb2;omega) | (simp at hb hb2;first | omega | (dsimp only;omega) | (simp <;> omega)) | omega | (dsimp only;omega)) (by first | exact Nat.le_of_ble_eq_true rfl | (simp at hb;omega) | (simp at hb2;omega) | (simp at hb hb2;first | omega | (dsimp only;omega) | (simp <;> omega)) | omega | (dsimp only;omega))) rfl rfl rfl rfl rfl pre0 rfl (k':=13) rfl ?_
  | refine a8A 30 9 27 22 false true _ _ (fun hb hb2=>a4J el_23.h rfl rfl (by first | exact Nat.le_of_ble_eq_true rfl | (simp at hb;omega) | (simp at hb2;omega) | (simp at hb hb2;first | omega | (dsimp only;omega) | (simp <;> omega)) | omega | (dsimp only;omega)) (by first | exact Nat.le_of_ble_eq_true rfl | (simp at hb;omega) | (simp at hb2;omega) | (simp at hb hb2;first | omega | (dsimp only;omega) | (simp <;> omega)) | omega | (dsimp only;omega))) rfl rfl rfl rfl rfl (a0L rfl) rfl (k':=13) rfl ?_
  first
  | refine a8A 31 9 27 22 false true _ _ (fun hb hb2=>a0r ty_3.h rfl (by first | exact Nat.le_of_ble_eq_true rfl | (simp at hb;omega) | (simp at hb2;omega) | (simp at hb hb2;first | omega | (dsimp only;omega) | (simp <;> omega)) | omega | (dsimp only;omega)) (by first | exact Nat.le_of_ble_eq_true rfl | (simp at hb;omega) | (simp at hb2;omega) | (simp at hb hb2;first | omega | (dsimp only;omega) | (simp <;> omega)) | omega | (dsimp only;omega)) (fun h=>(by first | rfl | cases h))) rfl rfl rfl rfl rfl (a0L rfl) rfl (k':=14) rfl ?_
  | refine a8A 31 9 27 22 false true _ _ (fun hb hb2=>a0j ty_3.h rfl (by first | exact Nat.le_of_ble_eq_true rfl | (simp at hb;omega) | (simp at hb2;omega) | (simp at hb hb2;first | omega | (dsimp only;omega) | (simp <;> omega)) | omega | (dsimp only;omega)) (fun h=>(by first | rfl | cases h))) rfl rfl rfl rfl rfl pre0 rfl (k':=14) rfl ?_
  refine a8A 32 9 27 22 false true _ _ (fun hb hb2=>a1p rfl) rfl rfl rfl rfl rfl pre0 rfl (k':=15) rfl ?_
  refine a8A 33 9 27 22 false true _ _ (fun hb hb2=>a1p rfl) rfl rfl rfl rfl rfl pre0 rfl (k':=16) rfl ?_
  first
  | refine a8A 34 9 27 22 false true _ _ (fun hb hb2=>a5T el_23.h rfl rfl (by first | exact Nat.le_of_ble_eq_true rfl | (simp at hb;omega) | (simp at hb2;omega) | (simp at hb hb2;first | omega | (dsimp only;omega) | (simp <;> omega)) | omega | (dsimp only;omega)) (by first | exact Nat.le_of_ble_eq_true rfl | (simp at hb;omega) | (simp at hb2;omega) | (simp at hb hb2;first | omega | (dsimp only;omega) | (simp <;> omega)) | omega | (dsimp only;omega)) (by first | exact Nat.le_of_ble_eq_true rfl | (simp at hb;omega) | (simp at hb2;omega) | (simp at hb hb2;first | omega | (dsimp only;omega) | (simp <;> omega)) | omega | (dsimp only;omega))) rfl rfl rfl rfl rfl pre0 rfl (k':=17) rfl ?_
  | refine a8A 34 9 27 22 false true _ _ (fun hb hb2=>a4J el_23.h rfl rfl (by first | exact Nat.le_of_ble_eq_true rfl | (simp at hb;omega) | (simp at hb2;omega) | (simp at hb hb2;first | omega | (dsimp only;omega) | (simp <;> omega)) | omega | (dsimp only;omega)) (by first | exact Nat.le_of_ble_eq_true rfl | (simp at hb;omega) | (simp at hb2;omega) | (simp at hb hb2;first | omega | (dsimp only;omega) | (simp <;> omega)) | omega | (dsimp only;omega))) rfl rfl rfl rfl rfl (a0L rfl) rfl (k':=17) rfl ?_
  first
  | refine a8A 35 9 27 22 false true _ _ (fun hb hb2=>a0r ty_3.h rfl (by first | exact Nat.le_of_ble_eq_true rfl | (simp at hb;omega) | (simp at hb2;omega) | (simp at hb hb2;first | omega | (dsimp only;omega) | (simp <;> omega)) | omega | (dsimp only;omega)) (by first | exact Nat.le_of_ble_eq_true rfl | (simp at hb;omega) | (simp at hb2;omega) | (simp at hb hb2;first | omega | (dsimp only;omega) | (simp <;> omega)) | omega | (dsimp only;omega)) (fun h=>(by first | rfl | cases h))) rfl rfl rfl rfl rfl (a0L rfl) rfl (k':=18) rfl ?_
  | refine a8A 35 9 27 22 false true _ _ (fun hb hb2=>a0j ty_3.h rfl (by first | exact Nat.le_of_ble_eq_true rfl | (simp at hb;omega) | (simp at hb2;omega) | (simp at hb hb2;first | omega | (dsimp only;omega) | (simp <;> omega)) | omega | (dsimp only;omega)) (fun h=>(by first | rfl | cases h))) rfl rfl rfl rfl rfl pre0 rfl (k':=18) rfl ?_
  refine a8A 36 9 27 22 false true _ _ (fun hb hb2=>b6x rfl rfl) rfl rfl rfl rfl rfl pre0 rfl (k':=19) rfl ?_
  first
  | refine c9g 37 (b1k (gi:=4) (j:=22) _ _ rfl rfl rfl rfl) rfl rfl (k':=20) rfl ?_
  | refine c9g 37 (b4p (gi:=4) (j:=22) _ _ rfl rfl rfl rfl) rfl rfl (k':=20) rfl ?_
  | refine c9g 37 (a5o (gi:=4) (j:=22) _ _ _ _ rfl rfl rfl rfl (fun _=>.refl _) (fun _=>.refl _)) rfl rfl (k':=20) rfl ?_
  refine ru 1 ?_
  refine c1m kr kr (by rfl) (by simp only [a5H,a8o];exact rfl) (c':=c+21) rfl ?_
  refine ru 1 ?_
  refine wdc (fun hr1 hc1=>?_) (fun hr1 hc1=>?_)
  ·skip
   have hia:i < A.length:=om;have hab:k=B.length∨(k < B.length∧A.getD i 0 < B.getD k 0):=(by rcases hc1 with h | h;exact .inl om;rcases Nat.lt_or_ge k B.length with h' | h';exact .inr ⟨h',h.2⟩;exact .inl om)
   refine ru 7 ?_
   refine a0y 44 (a0d (id:=44) (hs:=[_]) ei_23.h omx rfl omx ⟨rfl,rfl,rfl,rfl,trivial⟩) rfl rfl pre0 rfl rfl (c':=c+22) rfl ?_
   first
   | refine a0y 45 (a0a ei_23.h omy rfl omy omy (a0D rfl omy) omy rfl) rfl rfl (a0h rfl (a0L rfl)) rfl rfl (c':=c+23) rfl ?_
   | refine a0y 45 (a0a ei_23.h omy rfl omy omy (a1a rfl omy) omy rfl) rfl rfl (a0h rfl (a0L rfl)) rfl rfl (c':=c+23) rfl ?_
   | refine a0y 45 (a0a ei_23.h omy rfl omy omy (a0Y rfl) omy rfl) rfl rfl (a0h rfl pre0) rfl rfl (c':=c+23) rfl ?_
   | refine a0y 45 (a0a ei_23.h omy rfl omy omy (a0G 1 (fun _ _=>default) rfl) omy rfl) rfl rfl (a0h rfl pre0) rfl rfl (c':=c+23) rfl ?_
   refine ru 13 ?_
   exact hL1 ((i+1,k,out++[A.getD i 0],c+22)) _ _ (by (try dsimp only);exact ⟨by omega,hk,by rw [List.append_assoc,List.singleton_append,←d3m hia hab];exact hm⟩) omd (a0b rfl lrf (tsr rfl (tsr rfl (a0u.cons rfl (a3A sml) tsa))) (a0g.cons rfl (a0N (enc:=fun x _=>intV x) (d:=0) rfl (fun i j _ _=>.refl _) (fun j hj=>.refl _)) a0g.nil))
  have hkb:k < B.length:=om
  refine ru 20 ?_
  refine c1m kr kr (by rfl) (by simp only [a5H,a8o];exact rfl) (c':=c+36) rfl ?_
  refine ru 1 ?_
  refine wdc (fun hr2 hc2=>?_) (fun hr2 hc2=>?_)
  ·skip
   have hib:i < A.length∧A.getD i 0=B.getD k 0:=⟨by omega,hc2.2⟩
   refine ru 13 ?_
   refine a0y 70 (a0d (id:=70) (hs:=[_]) ei_23.h omx rfl omx ⟨rfl,rfl,rfl,rfl,trivial⟩) rfl rfl pre0 rfl rfl (c':=c+37) rfl ?_
   first
   | refine a0y 71 (a0a ei_23.h omy rfl omy omy (a0D rfl omy) omy rfl) rfl rfl (a0h rfl (a0L rfl)) rfl rfl (c':=c+38) rfl ?_
   | refine a0y 71 (a0a ei_23.h omy rfl omy omy (a1a rfl omy) omy rfl) rfl rfl (a0h rfl (a0L rfl)) rfl rfl (c':=c+38) rfl ?_
   | refine a0y 71 (a0a ei_23.h omy rfl omy omy (a0Y rfl) omy rfl) rfl rfl (a0h rfl pre0) rfl rfl (c':=c+38) rfl ?_
   | refine a0y 71 (a0a ei_23.h omy rfl omy omy (a0G 1 (fun _ _=>default) rfl) omy rfl) rfl rfl (a0h rfl pre0) rfl rfl (c':=c+38) rfl ?_
   refine ru 9 ?_
   exact hL1 ((i+1,k+1,out++[B.getD k 0],c+37)) _ _ (by (try dsimp only);exact ⟨by omega,by omega,by rw [List.append_assoc,List.singleton_append,←d3b hib.1 hkb hib.2];exact hm⟩) omd (a0b rfl lrf (tsr rfl (tsr rfl (a0u.cons rfl (a3A sml) tsa))) (a0g.cons rfl (a0N (enc:=fun x _=>intV x) (d:=0) rfl (fun i j _ _=>.refl _) (fun j hj=>.refl _)) a0g.nil))
  have hib:i=A.length∨(i < A.length∧B.getD k 0 < A.getD i 0):=(by rcases Nat.lt_or_ge i A.length with h | h;(have hd:decide ((i:Int) < (A.length:Int))=true:=decide_eq_true om;have h1:=hc1.2;rw [hd,Bool.true_and,decide_eq_false_iff_not] at h1;have h2:=hr2;rw [hd,Bool.true_and,beq_eq_false_iff_ne,Int.toNat_natCast,Int.toNat_natCast] at h2;exact .inr ⟨h,by omega⟩);exact .inl om)
  refine ru 9 ?_
  refine a0y 70 (a0d (id:=70) (hs:=[_]) ei_23.h omx rfl omx ⟨rfl,rfl,rfl,rfl,trivial⟩) rfl rfl pre0 rfl rfl (c':=c+37) rfl ?_
  first
  | refine a0y 71 (a0a ei_23.h omy rfl omy omy (a0D rfl omy) omy rfl) rfl rfl (a0h rfl (a0L rfl)) rfl rfl (c':=c+38) rfl ?_
  | refine a0y 71 (a0a ei_23.h omy rfl omy omy (a1a rfl omy) omy rfl) rfl rfl (a0h rfl (a0L rfl)) rfl rfl (c':=c+38) rfl ?_
  | refine a0y 71 (a0a ei_23.h omy rfl omy omy (a0Y rfl) omy rfl) rfl rfl (a0h rfl pre0) rfl rfl (c':=c+38) rfl ?_
  | refine a0y 71 (a0a ei_23.h omy rfl omy omy (a0G 1 (fun _ _=>default) rfl) omy rfl) rfl rfl (a0h rfl pre0) rfl rfl (c':=c+38) rfl ?_
  refine ru 9 ?_
  exact hL1 ((i,k+1,out++[B.getD k 0],c+37)) _ _ (by (try dsimp only);exact ⟨hi,by omega,by rw [List.append_assoc,List.singleton_append,←d3p hkb hib];exact hm⟩) omd (a0b rfl lrf (tsr rfl (tsr rfl (a0u.cons rfl (a3A sml) tsa))) (a0g.cons rfl (a0N (enc:=fun x _=>intV x) (d:=0) rfl (fun i j _ _=>.refl _) (fun j hj=>.refl _)) a0g.nil))
 refine ru 2 ?_
 refine a0c ?_
 refine ru 9 ?_
 refine a5q rfl (a0f rfl) [(9005,_)] rfl (a0h rfl pre0) ?_
 have ho:out=mrg A B:=(by rw [List.drop_eq_nil_of_le om,List.drop_eq_nil_of_le om] at hm;simpa [mrg] using hm);rw [←ho];exact a2v (l:=out) (enc:=fun x _=>intV x) (d:=0) (List.mem_cons_self ..) rfl rfl lrf (fun i j hi hj=>.imm _)
theorem a3Q (x y:Bag):HPure Tryz.prog 73 [a0i x.list,a0i y.list] (a0i (bun x y).list):=by
 rw [←c8b]
 exact c4W _ _ (by have:=a3a x;omega) (by have:=a3a y;omega)
structure Mn where
 name:List UInt8
 on:List Int
instance:Inhabited Mn:=⟨⟨[],[]⟩⟩
@[reducible] def mnF (x:Mn):Nat→HV:=fun j=>match j with | 0=>strV x.name | _=>a0i x.on
@[reducible] def mnsV (l:List Mn):HV:=.sl 2 l.length (fun i=>mnF (l.getD i default))
theorem d1v {sh:List (Nat×HObj)} (x:Mn) (j:Nat):Fz sh (mnF x j) (mnF x j):=by unfold mnF;split <;> exact Frz.fz
instance frz_mns (l:List Mn):Frz (mnsV l):=⟨.sl _ _ _ _ fun _ _ _ _=>d1v _ _⟩
def meansV:List Mn→List UInt8→Bag
 | [],_=>Bag.zero
 | x::l,s=>if x.name=s then a3h x.on else meansV l s
theorem a4r:∀ (l:List Mn) (s:List UInt8),(meansV l s).ok
 | [],_=>Bag.zero_ok
 | x::l,s=>by unfold meansV;split;exact (a1X _).1;exact a4r l s
theorem a7S:∀ (l:List Mn) (s:List UInt8) (i:Nat),i≤l.length→(∀ j,j < i→(l.getD j default).name≠s)→meansV l s=meansV (l.drop i) s
  | l,s,0,_,_=>rfl
  | [],s,i+1,h,_=>absurd h sml
  | x :: l, s, i + 1, h, hn => by
    have h0:x.name≠s:=hn 0 omo
    show (if x.name=s then _ else _)=_
    rw [if_neg h0]
    exact a7S l s i (by simpa using h) (fun j hj=>hn (j+1) omo)
theorem c4x {l:List Mn} {s:List UInt8} {i:Nat} (hi:i < l.length) (hn:∀ j,j < i→(l.getD j default).name≠s) (h:(l.getD i default).name=s):meansV l s=a3h (l.getD i default).on:=by
 rw [a7S l s i omo hn,List.drop_eq_getElem_cons hi]
 have e:l[i]=l.getD i default:=by rw [List.getD_eq_getElem?_getD,List.getElem?_eq_getElem hi];rfl
 rw [e]
 unfold meansV
 rw [if_pos h]
theorem b9p {l:List Mn} {s:List UInt8} (hn:∀ j,j < l.length→(l.getD j default).name≠s):meansV l s=Bag.zero:=by
 rw [a7S l s l.length lrf hn,List.drop_length];rfl
theorem b0r:Bag.zero.list=[]:=by decide +kernel
def MnB (l:List Mn):Prop:=l.length≤1000000∧∀ i,i < l.length→(l.getD i default).on.length≤1000000
theorem c3f (l:List Mn) (hB:MnB l) (s:List UInt8):HPure Tryz.prog 34 [mnsV l,strV s] (a0i (meansV l s).list):=by
 have hl:=hB.1
 refine a0k Tryz.func34 rfl kr _ _ _ rfl 25 rfl rfl (fun w F=>?_)
 refine ru 12 ?_
 refine a0l (α:=Nat) (fun x c=>⟨25,[(0,.v (mnsV l)),(1,.v (strV s)),(5,.v (intV x))],[],c⟩) (fun x=>x≤l.length∧∀ j,j < x→(l.getD j default).name≠s) (fun x=>l.length - x) (0) (by exact ⟨Nat.zero_le _,fun j hj=>absurd hj (Nat.not_lt_zero _)⟩) (a0b rfl lrf tsa a0g.nil) (fun i c hx NhL1 hL1=>?_)
 (try dsimp only at hx hL1 ⊢)
 obtain ⟨hi,hn⟩:=hx
 refine ru 9 ?_
 refine wdc (fun hr0 hc0=>?_) (fun hr0 hc0=>?_)
 ·skip
  have hil:i < l.length:=om;have hio:=hB.2 i hil
  refine ru 15 ?_
  refine wdc (fun hr1 hc1=>?_) (fun hr1 hc1=>?_)
  ·refine ru 7 ?_
   refine cll (c3P (l.getD i default).on hio) ?_
   refine ru 6 ?_
   refine a0q ?_
   refine ru 2 ?_
   refine rt1 ?_
   rw [c4x hil hn hc1];exact Frz.fz
  refine ru 8 ?_
  exact hL1 (i+1) _ _ (by (try dsimp only);exact ⟨by omega,fun j hj=>by rcases Nat.lt_or_ge j i with h | h;exact hn j h;obtain rfl:j=i:=om;exact hc1⟩) omd (a0b rfl lrf tsa a0g.nil)
 refine ru 2 ?_
 refine a0c ?_
 refine ru 8 ?_
 refine rt1 ?_
 rw [b9p (fun j hj=>hn j om),b0r];exact .nil 0 1 _ dcd none
def b8v (l:List Mn):Bool:=decide (l.length≤20)&&l.all (fun x=>decide (x.on.length≤50)&&decide (x.name.length≤50))
theorem c8g {l:List Mn} {i:Nat} (hi:i < l.length) (h:50 < (l.getD i default).on.length∨50 < (l.getD i default).name.length):b8v l=false:=by
 unfold b8v
 rw [Bool.and_eq_false_iff];right
 rw [List.all_eq_false]
 have e:l.getD i default=l[i]:=by rw [List.getD_eq_getElem?_getD,List.getElem?_eq_getElem hi];rfl
 refine ⟨l[i],List.getElem_mem hi,?_⟩
 rw [←e]
 rw [Bool.and_eq_true,decide_eq_true_eq,decide_eq_true_eq];omega
theorem c3y {l:List Mn} {i:Nat} (hil:l.length≤i∨21≤i) (hi:i≤l.length) (h:∀ j,j < i→(l.getD j default).on.length≤50∧(l.getD j default).name.length≤50):b8v l=decide (l.length≤20):=by
 unfold b8v
 by_cases h20:l.length≤20
 ·have:l.all (fun x=>decide (x.on.length≤50)&&decide (x.name.length≤50))=true:=by
   rw [List.all_eq_true]
   intro x hx
   obtain ⟨j,hj,rfl⟩:=List.mem_iff_getElem.1 hx
   have:=h j omo
   rw [List.getD_eq_getElem?_getD,List.getElem?_eq_getElem hj] at this
   simpa using this
  rw [this,Bool.and_true]
 ·rw [decide_eq_false h20];rfl
theorem b7g {l:List Mn} (h:b8v l=true):MnB l∧l.length≤20:=by
 unfold b8v at h
 rw [Bool.and_eq_true,decide_eq_true_eq,List.all_eq_true] at h
 refine ⟨⟨by omega,fun i hi=>?_⟩,h.1⟩
 have:=h.2 _ (List.getElem_mem hi)
 rw [List.getD_eq_getElem?_getD,List.getElem?_eq_getElem hi]
 simp at this
 show (l[i]).on.length≤_
 omega
theorem a6H (l:List Mn):HPure Tryz.prog 32 [mnsV l] (boolV (b8v l)):=by
 refine a0k Tryz.func32 rfl kr _ _ _ rfl 33 rfl rfl (fun w F=>?_)
 refine ru 12 ?_
 refine a0l (α:=Nat) (fun x c=>⟨33,[(0,.v (mnsV l)),(3,.v (intV x))],[],c⟩) (fun x=>x≤l.length∧x≤21∧∀ j,j < x→(l.getD j default).on.length≤50∧(l.getD j default).name.length≤50) (fun x=>21 - x) (0) (by exact ⟨Nat.zero_le _,Nat.zero_le _,fun j hj=>absurd hj (Nat.not_lt_zero _)⟩) (a0b rfl lrf tsa a0g.nil) (fun i c hx NhL1 hL1=>?_)
 (try dsimp only at hx hL1 ⊢)
 obtain ⟨hi,hi21,hn⟩:=hx
 refine ru 13 ?_
 refine wdc (fun hr0 hc0=>?_) (fun hr0 hc0=>?_)
 ·skip
  have hil:i < l.length∧i < 21:=om;have hil1:=hil.1
  refine ru 24 ?_
  refine wdc (fun hr1 hc1=>?_) (fun hr1 hc1=>?_)
  ·refine ru 8 ?_
   refine a0q ?_
   refine ru 2 ?_
   refine rt1 ?_
   rw [c8g hil1 om];exact .imm _
  refine ru 8 ?_
  exact hL1 (i+1) _ _ (by (try dsimp only);exact ⟨by omega,by omega,fun j hj=>by rcases Nat.lt_or_ge j i with h | h;exact hn j h;obtain rfl:j=i:=om;omega⟩) omd (a0b rfl lrf tsa a0g.nil)
 have hie:l.length≤i∨21≤i:=(by have h:=hr0;simp at h;omega)
 refine ru 2 ?_
 refine a0c ?_
 refine ru 11 ?_
 refine rt1 ?_
 rw [c3y hie hi hn];exact a1H (decide_eq_decide.2 om)
theorem d1J (l:List Mn) (hB:MnB l) (s:List UInt8):HPure Tryz.prog 33 [strV s,.fp 1 (fun _=>mnsV l)] (bagH (meansV l s)):=by
 have hml:=a3a (meansV l s)
 refine a0k Tryz.func33 rfl kr _ _ _ rfl 8 rfl rfl (fun w F=>?_)
 refine ru 9 ?_
 refine cll (c3f l hB s) ?_
 refine cll (d3t (meansV l s).list om) ?_
 refine ru 4 ?_
 refine rt1 ?_
 rw [Bag.of_list _ (a4r l s)];exact a2o (by exact j4 rfl rfl rfl rfl)
theorem c3l (l:List Mn) (hB:MnB l):MeanOk 33 1 (fun i=>[HV.fp 1 (fun _=>mnsV l)].getD i default) [.fp 1 (fun _=>mnsV l)] (meansV l) :=
 ⟨rfl,fun i hi=>by obtain rfl:i=0:=omo;rfl,⟨.fp _ _ lrf _ _ (fun j hj=>Frz.fz),trivial⟩,fun sh=>.fn _ _ _ _ (fun i hi=>by obtain rfl:i=0:=omo;exact .fp _ _ lrf _ _ (fun j hj=>Frz.fz)),fun s _=>d1J l hB s,a4r l⟩
def noneE (l:List Mn) (e:List Pt):Bool:=e.any (fun p=>decide (p.kind=1)&&decide (meansV l p.name=Bag.zero))
@[reducible] def a1g:HV:=.imm (.slice none 0 0)
def ndF (on be:HV) (p:Pc):Nat→Nat→HV:=fun _ j=>match j with
 | 0=>on | 1=>be | 2=>a0i p.first.list | 3=>a0i p.ends.list | _=>boolV p.empty
@[reducible] def ndO (g:Nat) (on be:HV) (p:Pc):HObj:=⟨g,1,5,61,0,ndF on be p⟩
@[reducible] def ndV (p:Pc):HV:=.agg 5 (ndF a1g a1g p 0)
@[reducible] def lrF (β:Nat→Bag):Nat→Nat→HV:=fun i _=>a0i (β i).list
@[reducible] def lrO (g M:Nat) (β:Nat→Bag):HObj:=⟨g,M,1,23,0,lrF β⟩
theorem c5E {sh:List (Nat×HObj)} (p:Pc) (j:Nat):Fz sh (ndF a1g a1g p 0 j) (ndF a1g a1g p 0 j):=by unfold ndF;split <;> exact Frz.fz
instance frz_nd (p:Pc):Frz (ndV p):=⟨.agg _ _ _ fun j _=>c5E p j⟩
theorem jn5 {P:Nat→Prop} (h0:P 0) (h1:P 1) (h2:P 2) (h3:P 3) (h4:P 4):∀ j,j < 5→P j:=fun j hj=>by
 match j,hj with | 0,_=>exact h0 | 1,_=>exact h1 | 2,_=>exact h2 | 3,_=>exact h3 | 4,_=>exact h4
theorem a1e {kp sh:List (Nat×HObj)} {g M:Nat} {β β':Nat→Bag} (h:∀ p,p < M→β p=β' p):OKz kp sh (lrO g M β) (lrO g M β'):=.of fun i j hi hj=>by
 show Kz kp sh (a0i (β i).list) (a0i (β' i).list)
 rw [h i hi];exact .fz _ _ Frz.fz
theorem a6a {g M:Nat} {f:Nat→Nat→HV} {β:Nat→Bag} (h:∀ i,i < M→f i 0=a0i (β i).list):a2m ⟨g,M,1,23,0,f⟩ (lrO g M β):=a2m.of fun i j hi hj=>by
 obtain rfl:j=0:=by omega
 rw [h i hi];exact .refl _
theorem b1G {γ:Nat→Bag} {x:Bag} {q i:Nat}:upd (lrF γ) q 0 1 (a0i x.list).cell i 0=a0i (if i=q then x else γ i).list:=by
 unfold upd inb
 have h0:(Nat.ble 0 0&&Nat.blt 0 (0+1))=true:=by simp
 by_cases e:i=q
 ·subst e
  have:Nat.beq i i=true:=by simp
  rw [h0,this,if_pos rfl];rfl
 ·have:Nat.beq i q=false:=(by rw [Bool.eq_false_iff];intro h;exact e (Nat.eq_of_beq_eq_true h))
  rw [this,if_neg e];rfl
theorem a4F {kp sh:List (Nat×HObj)} {g:Nat} {f f':Nat→Nat→HV} (h:∀ j,j < 5→Kz kp sh (f 0 j) (f' 0 j)):OKz kp sh ⟨g,1,5,61,0,f⟩ ⟨g,1,5,61,0,f'⟩:=.of fun i j hi hj=>by
 obtain rfl:i=0:=by omega
 exact h j hj
theorem a3n {kp sh:List (Nat×HObj)} {f:HV} {y:Bag} (x:Bag) (hf:f=a0i x.list) (h:x=y):Kz kp sh f (a0i y.list):=by subst hf;subst h;exact .fz _ _ Frz.fz
theorem a8h {kp sh:List (Nat×HObj)} {f:HV} {y:Bool} (x:Bool) (hf:f=boolV x) (h:x=y):Kz kp sh f (boolV y):=by subst hf;subst h;exact .fz _ _ (.imm _)
theorem a2t (a b:Pc):(a.join b).first=if a.empty then bun a.first b.first else a.first:=rfl
theorem a3e (a b:Pc):(a.join b).ends=if b.empty then bun a.ends b.ends else b.ends:=by rw [c4J]
theorem a2s (a b:Pc):(a.join b).empty=(a.empty&&b.empty):=rfl
theorem a9q {g:Nat} {f f':Nat→Nat→HV} (h0:Sb (f 0 0) (f' 0 0)) (h1:Sb (f 0 1) (f' 0 1)) (h2:Sb (f 0 2) (f' 0 2)) (h3:Sb (f 0 3) (f' 0 3)) (h4:Sb (f 0 4) (f' 0 4)):a2m ⟨g,1,5,61,0,f⟩ ⟨g,1,5,61,0,f'⟩:=a2m.of fun i j hi hj=>by
 obtain rfl:i=0:=by omega
 exact jn5 (P:=fun j=>Sb (f 0 j) (f' 0 j)) h0 h1 h2 h3 h4 j hj
theorem b8j (a b:Pc) (ha:a.ok) (hb:b.ok) (M g3 g4:Nat) (β:Nat→Bag) (hin:∀ p,p < 256→a.ends.has p=true→p < M) (hN:M≤256) :
  a3K Tryz.prog 105 [.pt 9210 g4 0 0,ndV b] [(9210,ndO g4 a1g (.os 9103 g3 0 M) a),(9103,lrO g3 M β)] (.tup 0 fun _=>default) [(9210,ndO g4 a1g (.os 9103 g3 0 M) (a.join b)),(9103,lrO g3 M (a2i β (a.ends,b.first)))]:=by
 intro c
 let k0:=c
 have hle:=a3a a.ends
 refine a0p Tryz.func105 rfl kr _ _ _ _ rfl 84 rfl rfl (fun X ok hX=>?_)
 refine ru 12 ?_
 refine a0l (α:=Nat) (fun x c=>⟨84,[(0,.v (.pt 9210 g4 0 0)),(3,.v (.pt 3 k0 0 0)),(4,.v (intV x))],[(9210,ndO g4 a1g (.os 9103 g3 0 M) a),(9103,lrO g3 M (a4z a.ends b.first β x)),(3,⟨k0,1,5,61,0,ndF a1g a1g b⟩)],c⟩) (fun x=>x≤a.ends.list.length) (fun x=>a.ends.list.length - x) (0) om (a0b rfl lrf tsa (hsr rfl (a0g.cons rfl (a2m.of fun i j hi hj=>by show Sb (a0i (β i).list) (a0i (a4z a.ends b.first β 0 i).list);rw [a8f];exact .refl _) (a0g.cons rfl (a2m.of fun i j hi hj=>by obtain rfl:i=0:=om;exact jn5 (P:=fun j=>Sb (ndF a1g a1g b 0 j) (ndF a1g a1g b 0 j)) (.refl _) (.refl _) (.refl _) (.refl _) (.refl _) j hj) a0g.nil)))) (fun i c hx NhL1 hL1=>?_)
 (try dsimp only at hx hL1 ⊢)
 refine ru 12 ?_
 refine wdc (fun hr0 hc0=>?_) (fun hr0 hc0=>?_)
 ·skip
  have hi':i < a.ends.list.length:=om;obtain ⟨q,hq256,hqA,hq⟩:=a5c a.ends hi';have hqN:=hin q hq256 hqA
  refine ru 7 ?_
  first
  | refine a3d 16 (HOp.val (v':=HV.pt 9210 g4 0 1) (b7N fd_61_1.h rfl) (rfl)) rfl rfl pre0 rfl rfl (k':=3) rfl ?_
  | refine a3d 16 (HOp.val (v':=HV.pt 9210 g4 0 1) (b0E fd_61_1.h rfl omy) (rfl)) rfl rfl pre0 rfl rfl (k':=3) rfl ?_
  refine ru 7 ?_
  first
  | refine a3d 24 (HOp.val (v':=intV (q:Int)) (a0r ty_3.h rfl omy omy (fun h=>(by first | rfl | cases h))) (congrArg intV hq)) rfl rfl (a0L rfl) rfl rfl (k':=11) rfl ?_
  | refine a3d 24 (HOp.val (v':=intV (q:Int)) (a0j ty_3.h rfl omy (fun h=>(by first | rfl | cases h))) (congrArg intV hq)) rfl rfl pre0 rfl rfl (k':=11) rfl ?_
  refine ru 10 ?_
  first
  | refine a3d 35 (HOp.val (v':=intV (q:Int)) (a0r ty_3.h rfl omy omy (fun h=>(by first | rfl | cases h))) (congrArg intV hq)) rfl rfl (a0L rfl) rfl rfl (k':=22) rfl ?_
  | refine a3d 35 (HOp.val (v':=intV (q:Int)) (a0j ty_3.h rfl omy (fun h=>(by first | rfl | cases h))) (congrArg intV hq)) rfl rfl pre0 rfl rfl (k':=22) rfl ?_
  refine ru 4 ?_
  refine d0 27 (a0e (xs:=[_,_]) (a3Q (a4z a.ends b.first β i q) b.first) ⟨rfl,⟨rfl,trivial⟩⟩ ⟨(Fz.eq (by rw [Nat.zero_add];rfl)),⟨(Fz.eq rfl),trivial⟩⟩) ?_
  refine ru 10 ?_
  exact hL1 (i+1) _ _ omd omd (a0b rfl lrf tsa (hsr rfl (a0g.cons rfl (a6a fun p hp=>b1G.trans (by rw [a6i a.ends b.first β hi' hq,Nat.zero_add];rfl)) hsa)))
 have hie:i=a.ends.list.length:=om
 refine ru 2 ?_
 refine a0c ?_
 refine ru 11 ?_
 refine wdc (fun hr1 hc1=>?_) (fun hr1 hc1=>?_)
 ·refine ru 8 ?_
  refine clx (a3Q a.first b.first) ?_
  refine ru 12 ?_
  refine wdc (fun hr2 hc2=>?_) (fun hr2 hc2=>?_)
  ·refine ru 8 ?_
   refine clx (a3Q a.ends b.ends) ?_
   refine ru 19 ?_
   refine a1t ?_
   refine a0X ok hX a2j.one rfl  [] rfl pre0 (()) (trivial) (by rfl) (by rfl) (kza) ?_
   exact ⟨⟨_,rfl,(a4F (by exact jn5 (.fz _ _ (.imm _)) (.os _ _ _ _ _ rfl rfl) (a3n (bun a.first b.first) rfl (by rw [a2t];simp [hc1])) (a3n (bun a.ends b.ends) rfl (by rw [a3e];simp [hc2])) (a8h (a.empty&&b.empty) rfl (a2s a b).symm)))⟩,⟨⟨_,rfl,(a1e (fun p hp=>by rw [hie];exact a1U _ _ _ om))⟩,trivial⟩⟩
  refine ru 23 ?_
  refine a1t ?_
  refine a0X ok hX a2j.one rfl  [] rfl pre0 (()) (trivial) (by rfl) (by rfl) (kza) ?_
  exact ⟨⟨_,rfl,(a4F (by exact jn5 (.fz _ _ (.imm _)) (.os _ _ _ _ _ rfl rfl) (a3n (bun a.first b.first) rfl (by rw [a2t];simp [hc1])) (a3n (b.ends) rfl (by rw [a3e];simp [hc2])) (a8h (a.empty&&b.empty) rfl (a2s a b).symm)))⟩,⟨⟨_,rfl,(a1e (fun p hp=>by rw [hie];exact a1U _ _ _ om))⟩,trivial⟩⟩
 refine ru 9 ?_
 refine wdc (fun hr2 hc2=>?_) (fun hr2 hc2=>?_)
 ·refine ru 8 ?_
  refine clx (a3Q a.ends b.ends) ?_
  refine ru 19 ?_
  refine a1t ?_
  refine a0X ok hX a2j.one rfl  [] rfl pre0 (()) (trivial) (by rfl) (by rfl) (kza) ?_
  exact ⟨⟨_,rfl,(a4F (by exact jn5 (.fz _ _ (.imm _)) (.os _ _ _ _ _ rfl rfl) (a3n (a.first) rfl (by rw [a2t];simp [hc1])) (a3n (bun a.ends b.ends) rfl (by rw [a3e];simp [hc2])) (a8h (a.empty&&b.empty) rfl (a2s a b).symm)))⟩,⟨⟨_,rfl,(a1e (fun p hp=>by rw [hie];exact a1U _ _ _ om))⟩,trivial⟩⟩
 refine ru 23 ?_
 refine a1t ?_
 refine a0X ok hX a2j.one rfl  [] rfl pre0 (()) (trivial) (by rfl) (by rfl) (kza) ?_
 exact ⟨⟨_,rfl,(a4F (by exact jn5 (.fz _ _ (.imm _)) (.os _ _ _ _ _ rfl rfl) (a3n (a.first) rfl (by rw [a2t];simp [hc1])) (a3n (b.ends) rfl (by rw [a3e];simp [hc2])) (a8h (a.empty&&b.empty) rfl (a2s a b).symm)))⟩,⟨⟨_,rfl,(a1e (fun p hp=>by rw [hie];exact a1U _ _ _ om))⟩,trivial⟩⟩
theorem a9A (a b:Pc) (ha:a.ok) (hb:b.ok) (M g1 g2 g3 g4:Nat) (ρ β:Nat→Bag) (p0:Pc) (hin:∀ p,p < 256→a.ends.has p=true→p < M) (hN:M≤256) :
  a3K Tryz.prog 74 [.pt 9101 g1 0 0,.pt 9210 g4 0 0,ndV b] [(9101,ndO g1 (.os 9102 g2 0 M) (.os 9103 g3 0 M) p0),(9102,lrO g2 M ρ),(9103,lrO g3 M β),(9210,ndO g4 a1g a1g a)] (.tup 0 fun _=>default) [(9101,ndO g1 (.os 9102 g2 0 M) (.os 9103 g3 0 M) p0),(9102,lrO g2 M ρ),(9103,lrO g3 M (a2i β (a.ends,b.first))),(9210,ndO g4 a1g a1g (a.join b))]:=by
 intro c
 let k0:=c
 refine a0p Tryz.func74 rfl kr _ _ _ _ rfl 19 rfl rfl (fun X ok hX=>?_)
 refine ru 18 ?_
 refine (a0W 9210 (ndO g4 a1g (.os 9103 g3 0 M) a) rfl (by exact a9q (.refl _) (.refl _) (.refl _) (.refl _) (.refl _))).wp ?_
 refine ru 3 ?_
 refine rvl (ndV b) (rfl) ?_
 refine hm_ 15 (a1Z (xs:=[_,_]) (pre:=[(9210,_),(9103,_)]) (b8j a b ha hb M g3 g4 β hin hN) ((a0J (.head _) rfl (a0J (.tail _ (.head _)) rfl a2f))) ⟨rfl,⟨rfl,trivial⟩⟩) rfl rfl (a0h rfl (a0h rfl pre0)) rfl rfl (c':=c+3) rfl ?_
 refine ru 8 ?_
 refine a1t ?_
 refine a0X ok hX a2j.one rfl  [] rfl pre0 (()) (trivial) (by rfl) (by rfl) (kza) ?_
 exact ⟨⟨_,rfl,(a4F (by exact jn5 (.os _ _ _ _ _ rfl rfl) (.os _ _ _ _ _ rfl rfl) (a3n p0.first rfl rfl) (a3n p0.ends rfl rfl) (a8h p0.empty rfl rfl)))⟩,⟨⟨_,rfl,(a1e (fun _ _=>rfl))⟩,⟨⟨_,rfl,(a1e (fun _ _=>rfl))⟩,⟨⟨_,rfl,(a4F (by exact jn5 (.fz _ _ (.imm _)) (.fz _ _ (.imm _)) (a3n (a.join b).first rfl rfl) (a3n (a.join b).ends rfl rfl) (a8h (a.join b).empty rfl rfl)))⟩,trivial⟩⟩⟩⟩
theorem b8G (a b:Pc) (ha:a.ok) (hb:b.ok) (M g3 g4:Nat) (β:Nat→Bag) (hin:∀ p,p < 256→a.ends.has p=true→p < M) (hN:M≤256) :
  a3K Tryz.prog 105 [.pt 9224 g4 0 0,ndV b] [(9224,ndO g4 a1g (.os 9103 g3 0 M) a),(9103,lrO g3 M β)] (.tup 0 fun _=>default) [(9224,ndO g4 a1g (.os 9103 g3 0 M) (a.join b)),(9103,lrO g3 M (a2i β (a.ends,b.first)))]:=by
 intro c
 let k0:=c
 have hle:=a3a a.ends
 refine a0p Tryz.func105 rfl kr _ _ _ _ rfl 84 rfl rfl (fun X ok hX=>?_)
 refine ru 12 ?_
 refine a0l (α:=Nat) (fun x c=>⟨84,[(0,.v (.pt 9224 g4 0 0)),(3,.v (.pt 3 k0 0 0)),(4,.v (intV x))],[(9224,ndO g4 a1g (.os 9103 g3 0 M) a),(9103,lrO g3 M (a4z a.ends b.first β x)),(3,⟨k0,1,5,61,0,ndF a1g a1g b⟩)],c⟩) (fun x=>x≤a.ends.list.length) (fun x=>a.ends.list.length - x) (0) om (a0b rfl lrf tsa (hsr rfl (a0g.cons rfl (a2m.of fun i j hi hj=>by show Sb (a0i (β i).list) (a0i (a4z a.ends b.first β 0 i).list);rw [a8f];exact .refl _) (a0g.cons rfl (a2m.of fun i j hi hj=>by obtain rfl:i=0:=om;exact jn5 (P:=fun j=>Sb (ndF a1g a1g b 0 j) (ndF a1g a1g b 0 j)) (.refl _) (.refl _) (.refl _) (.refl _) (.refl _) j hj) a0g.nil)))) (fun i c hx NhL1 hL1=>?_)
 (try dsimp only at hx hL1 ⊢)
 refine ru 12 ?_
 refine wdc (fun hr0 hc0=>?_) (fun hr0 hc0=>?_)
 ·skip
  have hi':i < a.ends.list.length:=om;obtain ⟨q,hq256,hqA,hq⟩:=a5c a.ends hi';have hqN:=hin q hq256 hqA
  refine ru 7 ?_
  first
  | refine a3d 16 (HOp.val (v':=HV.pt 9224 g4 0 1) (b7N fd_61_1.h rfl) (rfl)) rfl rfl pre0 rfl rfl (k':=3) rfl ?_
  | refine a3d 16 (HOp.val (v':=HV.pt 9224 g4 0 1) (b0E fd_61_1.h rfl omy) (rfl)) rfl rfl pre0 rfl rfl (k':=3) rfl ?_
  refine ru 7 ?_
  first
  | refine a3d 24 (HOp.val (v':=intV (q:Int)) (a0r ty_3.h rfl omy omy (fun h=>(by first | rfl | cases h))) (congrArg intV hq)) rfl rfl (a0L rfl) rfl rfl (k':=11) rfl ?_
  | refine a3d 24 (HOp.val (v':=intV (q:Int)) (a0j ty_3.h rfl omy (fun h=>(by first | rfl | cases h))) (congrArg intV hq)) rfl rfl pre0 rfl rfl (k':=11) rfl ?_
  refine ru 10 ?_
  first
  | refine a3d 35 (HOp.val (v':=intV (q:Int)) (a0r ty_3.h rfl omy omy (fun h=>(by first | rfl | cases h))) (congrArg intV hq)) rfl rfl (a0L rfl) rfl rfl (k':=22) rfl ?_
  | refine a3d 35 (HOp.val (v':=intV (q:Int)) (a0j ty_3.h rfl omy (fun h=>(by first | rfl | cases h))) (congrArg intV hq)) rfl rfl pre0 rfl rfl (k':=22) rfl ?_
  refine ru 4 ?_
  refine d0 27 (a0e (xs:=[_,_]) (a3Q (a4z a.ends b.first β i q) b.first) ⟨rfl,⟨rfl,trivial⟩⟩ ⟨(Fz.eq (by rw [Nat.zero_add];rfl)),⟨(Fz.eq rfl),trivial⟩⟩) ?_
  refine ru 10 ?_
  exact hL1 (i+1) _ _ omd omd (a0b rfl lrf tsa (hsr rfl (a0g.cons rfl (a6a fun p hp=>b1G.trans (by rw [a6i a.ends b.first β hi' hq,Nat.zero_add];rfl)) hsa)))
 have hie:i=a.ends.list.length:=om
 refine ru 2 ?_
 refine a0c ?_
 refine ru 11 ?_
 refine wdc (fun hr1 hc1=>?_) (fun hr1 hc1=>?_)
 ·refine ru 8 ?_
  refine clx (a3Q a.first b.first) ?_
  refine ru 12 ?_
  refine wdc (fun hr2 hc2=>?_) (fun hr2 hc2=>?_)
  ·refine ru 8 ?_
   refine clx (a3Q a.ends b.ends) ?_
   refine ru 19 ?_
   refine a1t ?_
   refine a0X ok hX a2j.one rfl  [] rfl pre0 (()) (trivial) (by rfl) (by rfl) (kza) ?_
   exact ⟨⟨_,rfl,(a4F (by exact jn5 (.fz _ _ (.imm _)) (.os _ _ _ _ _ rfl rfl) (a3n (bun a.first b.first) rfl (by rw [a2t];simp [hc1])) (a3n (bun a.ends b.ends) rfl (by rw [a3e];simp [hc2])) (a8h (a.empty&&b.empty) rfl (a2s a b).symm)))⟩,⟨⟨_,rfl,(a1e (fun p hp=>by rw [hie];exact a1U _ _ _ om))⟩,trivial⟩⟩
  refine ru 23 ?_
  refine a1t ?_
  refine a0X ok hX a2j.one rfl  [] rfl pre0 (()) (trivial) (by rfl) (by rfl) (kza) ?_
  exact ⟨⟨_,rfl,(a4F (by exact jn5 (.fz _ _ (.imm _)) (.os _ _ _ _ _ rfl rfl) (a3n (bun a.first b.first) rfl (by rw [a2t];simp [hc1])) (a3n (b.ends) rfl (by rw [a3e];simp [hc2])) (a8h (a.empty&&b.empty) rfl (a2s a b).symm)))⟩,⟨⟨_,rfl,(a1e (fun p hp=>by rw [hie];exact a1U _ _ _ om))⟩,trivial⟩⟩
 refine ru 9 ?_
 refine wdc (fun hr2 hc2=>?_) (fun hr2 hc2=>?_)
 ·refine ru 8 ?_
  refine clx (a3Q a.ends b.ends) ?_
  refine ru 19 ?_
  refine a1t ?_
  refine a0X ok hX a2j.one rfl  [] rfl pre0 (()) (trivial) (by rfl) (by rfl) (kza) ?_
  exact ⟨⟨_,rfl,(a4F (by exact jn5 (.fz _ _ (.imm _)) (.os _ _ _ _ _ rfl rfl) (a3n (a.first) rfl (by rw [a2t];simp [hc1])) (a3n (bun a.ends b.ends) rfl (by rw [a3e];simp [hc2])) (a8h (a.empty&&b.empty) rfl (a2s a b).symm)))⟩,⟨⟨_,rfl,(a1e (fun p hp=>by rw [hie];exact a1U _ _ _ om))⟩,trivial⟩⟩
 refine ru 23 ?_
 refine a1t ?_
 refine a0X ok hX a2j.one rfl  [] rfl pre0 (()) (trivial) (by rfl) (by rfl) (kza) ?_
 exact ⟨⟨_,rfl,(a4F (by exact jn5 (.fz _ _ (.imm _)) (.os _ _ _ _ _ rfl rfl) (a3n (a.first) rfl (by rw [a2t];simp [hc1])) (a3n (b.ends) rfl (by rw [a3e];simp [hc2])) (a8h (a.empty&&b.empty) rfl (a2s a b).symm)))⟩,⟨⟨_,rfl,(a1e (fun p hp=>by rw [hie];exact a1U _ _ _ om))⟩,trivial⟩⟩
theorem c1O (a b:Pc) (ha:a.ok) (hb:b.ok) (M g1 g2 g3 g4:Nat) (ρ β:Nat→Bag) (p0:Pc) (hin:∀ p,p < 256→a.ends.has p=true→p < M) (hN:M≤256) :
  a3K Tryz.prog 74 [.pt 9101 g1 0 0,.pt 9224 g4 0 0,ndV b] [(9101,ndO g1 (.os 9102 g2 0 M) (.os 9103 g3 0 M) p0),(9102,lrO g2 M ρ),(9103,lrO g3 M β),(9224,ndO g4 a1g a1g a)] (.tup 0 fun _=>default) [(9101,ndO g1 (.os 9102 g2 0 M) (.os 9103 g3 0 M) p0),(9102,lrO g2 M ρ),(9103,lrO g3 M (a2i β (a.ends,b.first))),(9224,ndO g4 a1g a1g (a.join b))]:=by
 intro c
 let k0:=c
 refine a0p Tryz.func74 rfl kr _ _ _ _ rfl 19 rfl rfl (fun X ok hX=>?_)
 refine ru 18 ?_
 refine (a0W 9224 (ndO g4 a1g (.os 9103 g3 0 M) a) rfl (by exact a9q (.refl _) (.refl _) (.refl _) (.refl _) (.refl _))).wp ?_
 refine ru 3 ?_
 refine rvl (ndV b) (rfl) ?_
 refine hm_ 15 (a1Z (xs:=[_,_]) (pre:=[(9224,_),(9103,_)]) (b8G a b ha hb M g3 g4 β hin hN) ((a0J (.head _) rfl (a0J (.tail _ (.head _)) rfl a2f))) ⟨rfl,⟨rfl,trivial⟩⟩) rfl rfl (a0h rfl (a0h rfl pre0)) rfl rfl (c':=c+3) rfl ?_
 refine ru 8 ?_
 refine a1t ?_
 refine a0X ok hX a2j.one rfl  [] rfl pre0 (()) (trivial) (by rfl) (by rfl) (kza) ?_
 exact ⟨⟨_,rfl,(a4F (by exact jn5 (.os _ _ _ _ _ rfl rfl) (.os _ _ _ _ _ rfl rfl) (a3n p0.first rfl rfl) (a3n p0.ends rfl rfl) (a8h p0.empty rfl rfl)))⟩,⟨⟨_,rfl,(a1e (fun _ _=>rfl))⟩,⟨⟨_,rfl,(a1e (fun _ _=>rfl))⟩,⟨⟨_,rfl,(a4F (by exact jn5 (.fz _ _ (.imm _)) (.fz _ _ (.imm _)) (a3n (a.join b).first rfl rfl) (a3n (a.join b).ends rfl rfl) (a8h (a.join b).empty rfl rfl)))⟩,trivial⟩⟩⟩⟩
end
end Go.Proofs.YtkeakpcieokhhaaGreatDoor
