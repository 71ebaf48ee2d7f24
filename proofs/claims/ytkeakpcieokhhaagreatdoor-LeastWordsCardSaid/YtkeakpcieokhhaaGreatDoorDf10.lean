/-
  The places of a part, by the document.
-/
import Derived.Test.YtkeakpcieokhhaaGreatDoorNc3
import Derived.Test.YtkeakpcieokhhaaGreatDoorExprV
import Derived.Test.YtkeakpcieokhhaaGreatDoorHq
import Derived.Test.YtkeakpcieokhhaaGreatDoorEx4
set_option linter.unusedSectionVars false
set_option linter.unusedSimpArgs false
set_option linter.unusedVariables false
namespace Go.Proofs.YtkeakpcieokhhaaGreatDoor
section
open Go.RowKit
set_option maxRecDepth 100000
set_option maxHeartbeats 1000000
@[reducible] def d3v (g1 g2 g3 M:Nat) (on:List Bag) (β:Nat→Bag) (p0:Pc):List (Nat×HObj):=[(9101,ndO g1 (.os 9102 g2 0 M) (.os 9103 g3 0 M) p0),(9102,lrO g2 M (onF on)),(9103,lrO g3 M β)]
def b9s (l:List Mn) (e:List Pt) (b:Nat) (t:T):Prop:=∀ (c g1 g2 g3 M:Nat) (on:List Bag) (β:Nat→Bag) (p0:Pc),on.length=M→M+t.w≤256→(∀ p,(β p).ok)→(∀ p,M≤p→p < 256→β p=Bag.zero) →
 a2y Tryz.prog 44 c [.pt 9101 g1 0 0,ptsV e,intV ((b+t.size - 1:Nat):Int),mnsV l] (d3v g1 g2 g3 M on β p0) (a4Q (fun (y:Nat×Nat) _=>True) (fun _=>ndV (lay (meansV l) t M).pc) (fun y=>d3v g1 y.1 y.2 (M+t.w) (on++(lay (meansV l) t M).on) (links β (lay (meansV l) t M).lk) p0))
theorem b5T (n:Nat) (hn:n < 256):(a3B n).list=[(n:Int)]:=by
 rw [Bag.list_eq]
 have:(List.range 256).filter (a3B n).has=[n]:=by
  have h:(List.range 256).filter (a3B n).has=(List.range 256).filter (fun k=>k == n):=by
   apply List.filter_congr
   intro k hk
   rw [a6q n k (List.mem_range.1 hk)]
   by_cases e:k=n <;> simp [e]
  rw [h,List.filter_beq,List.count_range]
  simp [hn]
 rw [this];rfl
theorem b9W:Sb a1g (a0i Bag.zero.list):=by rw [b0r];exact .nil 0 1 _ dcd none
theorem a3D {g:Nat} {f:Nat→Nat→HV} {p:Pc} (h0:f 0 0=a1g) (h1:f 0 1=a1g) (h2:f 0 2=a1g) (h3:f 0 3=a1g) (h4:f 0 4=boolV p.empty) (h5:p.first=Bag.zero) (h6:p.ends=Bag.zero):a2m ⟨g,1,5,61,0,f⟩ (ndO g a1g a1g p):=by
 refine a9q ?_ ?_ ?_ ?_ ?_
 ·rw [h0];exact .refl _
 ·rw [h1];exact .refl _
 ·rw [h2];show Sb a1g (a0i p.first.list);rw [h5];exact b9W
 ·rw [h3];show Sb a1g (a0i p.ends.list);rw [h6];exact b9W
 ·rw [h4];exact .refl _
theorem a9f {g:Nat} {f:Nat→Nat→HV} {p:Pc} (h:∀ j,j < 5→f 0 j=ndF a1g a1g p 0 j):a2m ⟨g,1,5,61,0,f⟩ (ndO g a1g a1g p):=a2m.of fun i j hi hj=>by
 obtain rfl:i=0:=by omega
 rw [h j hj];exact .refl _
theorem c6W {kp sh:List (Nat×HObj)} {f:Nat→HV} {p:Pc} (h:∀ j,j < 5→f j=ndF a1g a1g p 0 j):Kz kp sh (.agg 5 f) (ndV p):=.fz _ _ (.agg _ _ _ fun j hj=>by rw [h j hj];exact c5E p j)
theorem a9j {kp sh:List (Nat×HObj)} {g1 g2 g3 M:Nat} {o2 o3:HObj} {p0:Pc} (h2:hget kp 9102=some o2) (e2:o2.g=g2) (h3:hget kp 9103=some o3) (e3:o3.g=g3):OKz kp sh (ndO g1 (.os 9102 g2 0 M) (.os 9103 g3 0 M) p0) (ndO g1 (.os 9102 g2 0 M) (.os 9103 g3 0 M) p0) :=
 a4F (by exact jn5 (.os _ _ _ _ _ h2 e2) (.os _ _ _ _ _ h3 e3) (a3n p0.first rfl rfl) (a3n p0.ends rfl rfl) (a8h p0.empty rfl rfl))
@[reducible] def c9I (l:List Pc):Nat→Nat→HV:=fun i=>ndF a1g a1g (l.getD i default) 0
theorem d2l {i:Nat} {o1 o2 o3 o4 p1 p2 p3 p4:HObj} (h1:p1.g=o1.g) (h2:p2.g=o2.g) (h3:p3.g=o3.g) (h4:p4.g=o4.g):a7x [(9101,o1),(9102,o2),(9103,o3),(i,o4)] [(9101,p1),(9102,p2),(9103,p3),(i,p4)] :=
 a0J (.head _) h1.symm (a0J (.tail _ (.head _)) h2.symm (a0J (.tail _ (.tail _ (.head _))) h3.symm (a0J (.tail _ (.tail _ (.tail _ (.head _)))) h4.symm a2f)))
theorem b4J {g M:Nat} {γ γ':Nat→Bag} {L:List HV} (h1:∀ i,i < M→γ i=γ' i) (h2:Sb (bsf L 0 0) (a0i (γ' M).list)):a2m ⟨g,M+1,1,23,0,cat M (lrF γ) (bsf L)⟩ (lrO g (M+1) γ'):=a2m.of fun i j hi hj=>by
 obtain rfl:j=0:=by omega
 unfold cat
 by_cases h:i < M
 ·have e:Nat.blt i M=true:=by simpa [Nat.blt_eq] using h
  rw [e];show Sb (a0i (γ i).list) (a0i (γ' i).list);rw [h1 i h];exact .refl _
 ·obtain rfl:i=M:=by omega
  have e:Nat.blt i i=false:=by rw [Bool.eq_false_iff];intro h';simp [Nat.blt_eq] at h'
  rw [e];show Sb (bsf L (i - i) 0) _;rw [Nat.sub_self];exact h2
theorem d1S {kp sh:List (Nat×HObj)} {id g fl M:Nat} {ty:TypeId} {f:Nat→Nat→HV} (ho:(id,(⟨g,1,1,ty,fl,f⟩:HObj))∈sh) (hf:f 0 0=intV (M:Int)) (h:M < 256):Kz kp sh (.os id g 0 1) (a0i (a3B M).list):=by
 rw [b5T M h]
 exact .fz _ _ (a2v (l:=[(M:Int)]) (enc:=fun x _=>intV x) (d:=0) ho rfl rfl lrf (fun i j hi hj=>by
  obtain rfl:i=0:=by simpa using hi
  obtain rfl:j=0:=by have:j < 1:=hj;omega
  show Fz sh (f 0 0) (intV (M:Int));rw [hf];exact .imm _))
theorem d2Q {t:T} (hok:t.ok=true) (h1:t.kind≠1) (h3:t.kind≠3) (h2:t.kind≠2):t.kind=4:=by
 rcases c7y hok with h | h | h | h
 ·exact absurd h h1
 ·exact absurd h h2
 ·exact absurd h h3
 ·exact h
theorem c3F (l:List Mn) (hB:MnB l) (e:List Pt) (he:e.length≤100000) (b:Nat) (t:T) (hk4:t.kind≠4) (hok:t.ok=true) (hat:AtP e b (T.flat b t)) (hkl:t.kidsT.length≤100000)
  (ih:∀ i,i < t.kidsT.length→b9s l e (b+T.sizeL (t.kidsT.take i)) (t.kidsT.getD i default)):b9s l e b t:=by
 intro c g1 g2 g3 M0 on β p0 hon hw hβ hz
 have htop:=a4b hat
 have hps:=t.size_pos
 have hkid:=a6W b t
 have hrl:=a0M t.kidsT b
 generalize htp:t.top b=p at htop hkid
 have hpk:p.kind=t.kind:=by rw [←htp];exact a7i b t
 obtain ⟨m,hm⟩:∃ m,m=meansV l:=⟨_,rfl⟩
 have hmo:∀ s,(m s).ok:=by rw [hm];exact a4r l
 rw [←hm]
 let k0:=c
 refine a0p Tryz.func44 rfl kr _ _ _ _ rfl 233 rfl rfl (fun X ok hX=>?_)
 refine ru 2 ?_
 refine a0y 8 (a0V (id:=9208) (sz:=5) zc_61.h rfl rfl omx omx) rfl rfl pre0 rfl rfl (c':=c+1) rfl ?_
 refine ru 8 ?_
 refine rvl (ptH p) (c0S om htop.1) ?_
 refine a0y 9 (a0V (id:=9209) (sz:=5) zc_91.h rfl rfl omx omx) rfl rfl pre0 rfl rfl (c':=c+2) rfl ?_
 refine ru 6 ?_
 refine a0y 10 (a0V (id:=9210) (sz:=5) zc_61.h rfl rfl omx omx) rfl rfl pre0 rfl rfl (c':=c+4) rfl ?_
 refine ru 11 ?_
 refine wdc (fun hr0 hc0=>?_) (fun hr0 hc0=>?_)
 ·skip
  obtain ⟨s,hts⟩:=d3F (by rw [←hpk];exact hc0) hok;have hpn:p.name=s:=(by rw [←htp,hts];rfl);have hl1:lay m t M0=⟨[m s],[],⟨a3B M0,a3B M0,false⟩⟩:=(by rw [hts];simp [lay]);have hw1:t.w=1:=(by rw [hts];rfl)
  refine ru 20 ?_
  refine clx (c3f l hB p.name) ?_
  refine a2x 47 (a0d (id:=9247) (hs:=[_]) ei_25.h omx rfl omx ⟨rfl,rfl,rfl,rfl,trivial⟩) rfl rfl pre0 rfl rfl (k':=10) rfl ?_
  first
  | refine a2x 48 (a0a ei_25.h omy rfl omy omy (a0D rfl omy) omy rfl) rfl rfl (a0h rfl (a0L rfl)) rfl rfl (k':=11) rfl ?_
  | refine a2x 48 (a0a ei_25.h omy rfl omy omy (a1a rfl omy) omy rfl) rfl rfl (a0h rfl (a0L rfl)) rfl rfl (k':=11) rfl ?_
  | refine a2x 48 (a0a ei_25.h omy rfl omy omy (a0Y rfl) omy rfl) rfl rfl (a0h rfl pre0) rfl rfl (k':=11) rfl ?_
  | refine a2x 48 (a0a ei_25.h omy rfl omy omy (a0G 1 (fun _ _=>default) rfl) omy rfl) rfl rfl (a0h rfl pre0) rfl rfl (k':=11) rfl ?_
  refine ru 12 ?_
  refine a0y 56 (a0d (id:=9256) (hs:=[_]) ei_25.h omx rfl omx ⟨rfl,rfl,rfl,rfl,trivial⟩) rfl rfl pre0 rfl rfl (c':=c+20) rfl ?_
  first
  | refine a0y 57 (a0a ei_25.h omy rfl omy omy (a0D rfl omy) omy rfl) rfl rfl (a0h rfl (a0L rfl)) rfl rfl (c':=c+21) rfl ?_
  | refine a0y 57 (a0a ei_25.h omy rfl omy omy (a1a rfl omy) omy rfl) rfl rfl (a0h rfl (a0L rfl)) rfl rfl (c':=c+21) rfl ?_
  | refine a0y 57 (a0a ei_25.h omy rfl omy omy (a0Y rfl) omy rfl) rfl rfl (a0h rfl pre0) rfl rfl (c':=c+21) rfl ?_
  | refine a0y 57 (a0a ei_25.h omy rfl omy omy (a0G 1 (fun _ _=>default) rfl) omy rfl) rfl rfl (a0h rfl pre0) rfl rfl (c':=c+21) rfl ?_
  refine ru 6 ?_
  have hsn:=b7q hon (m p.name);refine (a0W 9101 (ndO g1 (.os 9102 (c+5+10) 0 (M0+1)) (.os 9103 (c+20) 0 (M0+1)) p0) rfl (by exact a9q (.refl _) (.refl _) (.refl _) (.refl _) (.refl _))).wp ?_;refine (a0W 9102 (lrO (c+5+10) (M0+1) (onF (on++[m p.name]))) rfl (by exact b4J hsn.1 (by rw [hsn.2,hm];exact .refl _))).wp ?_;refine (a0W 9103 (lrO (c+20) (M0+1) β) rfl (by exact b4J (fun _ _=>rfl) (by rw [hz M0 lrf om];exact b9W))).wp ?_
  refine ru 2 ?_
  refine a0y 61 (a0d (id:=9261) (hs:=[_]) ei_23.h omx rfl omx ⟨rfl,rfl,rfl,rfl,trivial⟩) rfl rfl pre0 rfl rfl (c':=c+23) rfl ?_
  refine ru 7 ?_
  refine a0y 64 (a0d (id:=9264) (hs:=[_]) ei_23.h omx rfl omx ⟨rfl,rfl,rfl,rfl,trivial⟩) rfl rfl pre0 rfl rfl (c':=c+25) rfl ?_
  refine ru 12 ?_
  refine a1j ok hX a2j.one rfl (a0H rfl rfl ty_61.h rqc rfl rfl) [(9261,_),(9264,_)] rfl (a0h rfl (a0h rfl pre0)) ((c+5+10,c+20)) (trivial) (by rfl) (by rfl) ((by rw [hl1];exact .agg 5 _ _ (by exact jn5 (.fz _ _ (.imm _)) (.fz _ _ (.imm _)) (d1S (.head _) rfl om) (d1S (.tail _ (.head _)) rfl om) (.fz _ _ (.imm _))))) ?_
  exact ⟨⟨_,rfl,(by rw [hw1];exact a9j rfl rfl rfl rfl)⟩,⟨⟨_,rfl,(by rw [hw1,hl1,←hpn];exact a1e (fun _ _=>rfl))⟩,⟨⟨_,rfl,(by rw [hw1,hl1];exact a1e (fun _ _=>rfl))⟩,trivial⟩⟩⟩
 refine ru 10 ?_
 refine wdc (fun hr1 hc1=>?_) (fun hr1 hc1=>?_)
 ·skip
  have hkd3:t.kind=3:=(by rw [←hpk];exact hc1);have hwm:=b1q (t:=t) (by rw [hkd3];decide) (by rw [hkd3];decide);have hll:lay m t M0=a6t m t.kidsT M0 ⟨[],[],default⟩:=(by obtain ⟨ts,hts⟩:=b7c hkd3 hok;rw [hts];simp [lay,T.kidsT])
  refine ru 7 ?_
  refine a0l (α:=Nat×Nat×List Bag×(Nat→Bag)×Pc×Nat×Nat) (fun x c=>⟨233,[(0,.v (.pt 9101 g1 0 0)),(1,.v (ptsV e)),(3,.v (mnsV l)),(8,.v (.pt 9208 k0 0 0)),(9,.v (.pt 9209 (k0+1) 0 0)),(10,.v (.pt 9210 (k0+3) 0 0)),(12,.v (intV (x.1:Int)))],[(9101,ndO g1 (.os 9102 x.2.2.2.2.2.1 0 x.2.1) (.os 9103 x.2.2.2.2.2.2 0 x.2.1) p0),(9102,lrO x.2.2.2.2.2.1 x.2.1 (onF x.2.2.1)),(9103,lrO x.2.2.2.2.2.2 x.2.1 x.2.2.2.1),(9208,ndO k0 a1g a1g default),(9209,⟨k0+1,1,5,91,0,fun _=>ptF p⟩),(9210,ndO (k0+3) a1g a1g x.2.2.2.2.1)],c⟩) (fun x=>x.1≤t.kidsT.length∧x.2.1=M0+T.wL (t.kidsT.take x.1)∧x.2.2.1=on++(a6t m (t.kidsT.take x.1) M0 ⟨[],[],default⟩).on∧x.2.2.2.1=links β (a6t m (t.kidsT.take x.1) M0 ⟨[],[],default⟩).lk∧x.2.2.2.2.1=(a6t m (t.kidsT.take x.1) M0 ⟨[],[],default⟩).pc) (fun x=>t.kidsT.length - x.1) ((0,M0,on,β,default,g2,g3)) (by exact ⟨Nat.zero_le _,by simp [T.wL],by simp [a6t],by simp [a6t,links],by simp [a6t]⟩) (a0b rfl lrf tsa (hsr rfl (hsr rfl (hsr rfl (a0g.cons rfl (a3D rfl rfl rfl rfl rfl rfl rfl) (hsr rfl (a0g.cons rfl (a3D rfl rfl rfl rfl rfl rfl rfl) a0g.nil))))))) (fun x c hx NhL1 hL1=>?_)
  revert hx hL1;obtain ⟨ii,MM,on1,be1,ou1,y2,y3⟩:=x;intro hx hL1;dsimp only at hx hL1 ⊢
  obtain ⟨hi,hMM,hon1,hbe1,hou1⟩:=hx
  have hA:=b6E hmo t.kidsT ii M0 om
  refine ru 10 ?_
  refine wdc (fun hr2 hc2=>?_) (fun hr2 hc2=>?_)
  ·skip
   have him:ii < t.kidsT.length:=(by have h:=hr2;simp [hkid,hrl] at h;omega);have hka:=a2E hat him;have hkt:=a4b hka;have hks:=(t.kidsT.getD ii default).size_pos;have hroot:=a3r t.kidsT b ii him;have hwt:=a6U t.kidsT ii him;have hwl:=b4X t.kidsT (ii+1);have hxw:MM+(t.kidsT.getD ii default).w≤256:=om;have hlen1:on1.length=MM:=(by rw [hon1,List.length_append,hA.len,hon,hMM]);have hbok:∀ q,(be1 q).ok:=(by rw [hbe1];exact a1i hA.lk hβ);have hbz:∀ q,MM≤q→q < 256→be1 q=Bag.zero:=(by rw [hbe1,hMM];exact a2S hA.lk (fun q hq hq2=>hz q om hq2));have hsn:=b0s m (t.kidsT.take ii) M0 ⟨[],[],default⟩ (t.kidsT.getD ii default);rw [←a4H him] at hsn;have hih:=ih ii him;unfold b9s at hih;rw [←hm] at hih
   refine ru 13 ?_
   refine rvl (intV ((b+T.sizeL (t.kidsT.take ii)+(t.kidsT.getD ii default).size - 1:Nat):Int)) (by exact a3y (i:=ii) om (by rw [hkid,hroot];unfold T.root;omega)) ?_
   refine ru 1 ?_
   refine a0n 85 (xs:=[_,_,_,_]) (pre:=[(9101,_),(9102,_),(9103,_)]) (hih _ g1 y2 y3 MM on1 be1 p0 hlen1 hxw hbok hbz) ⟨rfl,⟨rfl,⟨rfl,⟨rfl,trivial⟩⟩⟩⟩ (a0h rfl (a0h rfl (a0h rfl pre0))) rfl rfl (fun x1 c1 hzz=>?_)
   obtain ⟨z2,z3⟩:=x1
   (try dsimp only)
   refine a0y 13 (a0V (id:=9213) (sz:=5) zc_61.h rfl rfl omx omx) rfl rfl pre0 rfl rfl (c':=c1+1) rfl ?_
   refine ru 9 ?_
   refine cll (a3Q ou1.first (lay m (t.kidsT.getD ii default) MM).pc.first) ?_
   refine ru 10 ?_
   refine cll (a3Q ou1.ends (lay m (t.kidsT.getD ii default) MM).pc.ends) ?_
   refine ru 21 ?_
   exact hL1 ((ii+1,MM+(t.kidsT.getD ii default).w,on1++(lay m (t.kidsT.getD ii default) MM).on,links be1 (lay m (t.kidsT.getD ii default) MM).lk,⟨bun ou1.first (lay m (t.kidsT.getD ii default) MM).pc.first,bun ou1.ends (lay m (t.kidsT.getD ii default) MM).pc.ends,ou1.empty||(lay m (t.kidsT.getD ii default) MM).pc.empty⟩,z2,z3)) _ _ (by (try dsimp only);exact ⟨by omega,by rw [hMM,hwt,Nat.add_assoc],by rw [hsn,←hMM,hon1];simp only [stC,List.append_assoc],by rw [hsn,←hMM,hbe1];simp only [stC];rw [a0P],by rw [hsn,←hMM,hou1];rfl⟩) omd (a0b rfl lrf tsa (hsr rfl (hsr rfl (hsr rfl (hsr rfl (hsr rfl (a0g.cons rfl (a9f (by exact jn5 rfl rfl rfl rfl rfl)) a0g.nil)))))))
  have hit:ii=t.kidsT.length:=(by have h:=hr2;simp [hkid,hrl] at h;omega);rw [hit,List.take_length] at hA hMM hon1 hbe1 hou1
  refine ru 2 ?_
  refine a0c ?_
  refine ru 10 ?_
  refine fr1 ok hX rw1 ((y2,y3)) (trivial) ((by rw [hll,←hou1];exact c6W (by exact jn5 rfl rfl rfl rfl rfl))) ?_
  exact ⟨⟨_,rfl,(by rw [hwm,←hMM];exact a9j rfl rfl rfl rfl)⟩,⟨⟨_,rfl,(by rw [hwm,←hMM,hll,←hon1];exact a1e (fun _ _=>rfl))⟩,⟨⟨_,rfl,(by rw [hwm,←hMM,hll,←hbe1];exact a1e (fun _ _=>rfl))⟩,trivial⟩⟩⟩
 refine ru 16 ?_
 refine wdc (fun hr3 hc3=>?_) (fun hr3 hc3=>?_)
 ·skip
  have hkd2:t.kind=2:=(by rw [←hpk];exact hc3);have hwm:=b1q (t:=t) (by rw [←hpk];exact hc0) (by rw [hkd2];decide);have hll:lay m t M0=a6u m t.kidsT M0 ⟨[],[],Pc.nil⟩:=(by obtain ⟨k,ts,hts,hk3⟩:=d0U (by rw [←hpk];exact hc0) (by rw [hkd2];decide) (by rw [←hpk];exact hc1) hok;rw [hts];simp [lay,hk3,T.kidsT])
  refine ru 7 ?_
  refine a0l (α:=Nat×Nat×List Bag×(Nat→Bag)×Pc×Nat×Nat) (fun x c=>⟨233,[(0,.v (.pt 9101 g1 0 0)),(1,.v (ptsV e)),(3,.v (mnsV l)),(8,.v (.pt 9208 k0 0 0)),(9,.v (.pt 9209 (k0+1) 0 0)),(10,.v (.pt 9210 (k0+3) 0 0)),(14,.v (intV (x.1:Int)))],[(9101,ndO g1 (.os 9102 x.2.2.2.2.2.1 0 x.2.1) (.os 9103 x.2.2.2.2.2.2 0 x.2.1) p0),(9102,lrO x.2.2.2.2.2.1 x.2.1 (onF x.2.2.1)),(9103,lrO x.2.2.2.2.2.2 x.2.1 x.2.2.2.1),(9208,ndO k0 a1g a1g default),(9209,⟨k0+1,1,5,91,0,fun _=>ptF p⟩),(9210,ndO (k0+3) a1g a1g x.2.2.2.2.1)],c⟩) (fun x=>x.1≤t.kidsT.length∧x.2.1=M0+T.wL (t.kidsT.take x.1)∧x.2.2.1=on++(a6u m (t.kidsT.take x.1) M0 ⟨[],[],Pc.nil⟩).on∧x.2.2.2.1=links β (a6u m (t.kidsT.take x.1) M0 ⟨[],[],Pc.nil⟩).lk∧x.2.2.2.2.1=(a6u m (t.kidsT.take x.1) M0 ⟨[],[],Pc.nil⟩).pc) (fun x=>t.kidsT.length - x.1) ((0,M0,on,β,Pc.nil,g2,g3)) (by exact ⟨Nat.zero_le _,by simp [T.wL],by simp [a6u],by simp [a6u,links],by simp [a6u]⟩) (a0b rfl lrf tsa (hsr rfl (hsr rfl (hsr rfl (a0g.cons rfl (a3D rfl rfl rfl rfl rfl rfl rfl) (hsr rfl (a0g.cons rfl (a3D rfl rfl rfl rfl rfl rfl rfl) a0g.nil))))))) (fun x c hx NhL2 hL2=>?_)
  revert hx hL2;obtain ⟨ii,MM,on1,be1,ou1,y2,y3⟩:=x;intro hx hL2;dsimp only at hx hL2 ⊢
  obtain ⟨hi,hMM,hon1,hbe1,hou1⟩:=hx
  have hA:=b6D hmo t.kidsT ii M0 om
  refine ru 10 ?_
  refine wdc (fun hr4 hc4=>?_) (fun hr4 hc4=>?_)
  ·skip
   have him:ii < t.kidsT.length:=(by have h:=hr4;simp [hkid,hrl] at h;omega);have hka:=a2E hat him;have hkt:=a4b hka;have hks:=(t.kidsT.getD ii default).size_pos;have hroot:=a3r t.kidsT b ii him;have hwt:=a6U t.kidsT ii him;have hwl:=b4X t.kidsT (ii+1);have hxw:MM+(t.kidsT.getD ii default).w≤256:=om;have hly:=a4l hmo (t.kidsT.getD ii default) MM hxw;have hlen1:on1.length=MM:=(by rw [hon1,List.length_append,hA.len,hon,hMM]);have hbok:∀ q,(be1 q).ok:=(by rw [hbe1];exact a1i hA.lk hβ);have hbz:∀ q,MM≤q→q < 256→be1 q=Bag.zero:=(by rw [hbe1,hMM];exact a2S hA.lk (fun q hq hq2=>hz q om hq2));have hou2:ou1.ok:=(by rw [hou1];exact hA.pc);have hino:InB M0 (MM+(t.kidsT.getD ii default).w) ou1.ends:=(by rw [hou1,hMM];exact hA.inB.2.mono lrf om);have hsn:=a9R m (t.kidsT.take ii) M0 ⟨[],[],Pc.nil⟩ (t.kidsT.getD ii default);rw [←a4H him] at hsn;have hih:=ih ii him;unfold b9s at hih;rw [←hm] at hih
   refine ru 13 ?_
   refine rvl (intV ((b+T.sizeL (t.kidsT.take ii)+(t.kidsT.getD ii default).size - 1:Nat):Int)) (by exact a3y (i:=ii) om (by rw [hkid,hroot];unfold T.root;omega)) ?_
   refine ru 1 ?_
   refine a0n 125 (xs:=[_,_,_,_]) (pre:=[(9101,_),(9102,_),(9103,_)]) (hih _ g1 y2 y3 MM on1 be1 p0 hlen1 hxw hbok hbz) ⟨rfl,⟨rfl,⟨rfl,⟨rfl,trivial⟩⟩⟩⟩ (a0h rfl (a0h rfl (a0h rfl pre0))) rfl rfl (fun x2 c2 hzz=>?_)
   obtain ⟨z2,z3⟩:=x2
   (try dsimp only)
   refine a0y 15 (a0V (id:=9215) (sz:=5) zc_61.h rfl rfl omx omx) rfl rfl pre0 rfl rfl (c':=c2+1) rfl ?_
   refine ru 6 ?_
   refine rvl (ndV (lay m (t.kidsT.getD ii default) MM).pc) (rfl) ?_
   refine hm_ 128 (a1Z (xs:=[_,_,_]) (pre:=[(9101,_),(9102,_),(9103,_),(9210,_)]) (a9A ou1 (lay m (t.kidsT.getD ii default) MM).pc hou2 hly.pc (MM+(t.kidsT.getD ii default).w) g1 z2 z3 (k0+3) (onF (on1++(lay m (t.kidsT.getD ii default) MM).on)) _ p0 (a6G hino) hxw) ((d2l rfl rfl rfl rfl)) ⟨rfl,⟨rfl,⟨rfl,trivial⟩⟩⟩) rfl rfl (a0h rfl (a0h rfl (a0h rfl (a0h rfl pre0)))) rfl rfl (c':=c2+3) rfl ?_
   refine ru 8 ?_
   exact hL2 ((ii+1,MM+(t.kidsT.getD ii default).w,on1++(lay m (t.kidsT.getD ii default) MM).on,a2i (links be1 (lay m (t.kidsT.getD ii default) MM).lk) (ou1.ends,(lay m (t.kidsT.getD ii default) MM).pc.first),ou1.join (lay m (t.kidsT.getD ii default) MM).pc,z2,z3)) _ _ (by (try dsimp only);exact ⟨by omega,by rw [hMM,hwt,Nat.add_assoc],by rw [hsn,←hMM,hon1];simp only [stR,List.append_assoc],by rw [hsn,←hMM,hbe1,hou1];simp only [stR];rw [a0P,a0P];rfl,by rw [hsn,←hMM,hou1];rfl⟩) omd (a0b rfl lrf tsa hsa)
  have hit:ii=t.kidsT.length:=(by have h:=hr4;simp [hkid,hrl] at h;omega);rw [hit,List.take_length] at hA hMM hon1 hbe1 hou1
  refine ru 2 ?_
  refine a0c ?_
  refine ru 10 ?_
  refine fr1 ok hX rw1 ((y2,y3)) (trivial) ((by rw [hll,←hou1];exact c6W (by exact jn5 rfl rfl rfl rfl rfl))) ?_
  exact ⟨⟨_,rfl,(by rw [hwm,←hMM];exact a9j rfl rfl rfl rfl)⟩,⟨⟨_,rfl,(by rw [hwm,←hMM,hll,←hon1];exact a1e (fun _ _=>rfl))⟩,⟨⟨_,rfl,(by rw [hwm,←hMM,hll,←hbe1];exact a1e (fun _ _=>rfl))⟩,trivial⟩⟩⟩
 exfalso;exact hk4 (d2Q hok (by rw [←hpk];exact hc0) (by rw [←hpk];exact hc1) (by rw [←hpk];exact hc3))
theorem c6p {l:List Pc} {i:Nat} {x:Pc} {f:Nat→HV} (h:l.getD i default=x) (hf:∀ j,f j=c9I l i j):HV.agg 5 f=ndV x:=by
 subst h
 show HV.agg 5 f=HV.agg 5 _
 congr 1;funext j;exact hf j
theorem b8s (l:List Mn) (hB:MnB l) (e:List Pt) (he:e.length≤100000) (b:Nat) (t:T) (hk4:t.kind=4) (hok:t.ok=true) (hat:AtP e b (T.flat b t)) (hkl:t.kidsT.length≤100000)
  (ih:∀ i,i < t.kidsT.length→b9s l e (b+T.sizeL (t.kidsT.take i)) (t.kidsT.getD i default)):b9s l e b t:=by
 intro c g1 g2 g3 M0 on β p0 hon hw hβ hz
 have htop:=a4b hat
 have hps:=t.size_pos
 have hkid:=a6W b t
 have hrl:=a0M t.kidsT b
 generalize htp:t.top b=p at htop hkid
 have hpk:p.kind=4:=by rw [←htp,a7i b t];exact hk4
 obtain ⟨m,hm⟩:∃ m,m=meansV l:=⟨_,rfl⟩
 have hmo:∀ s,(m s).ok:=by rw [hm];exact a4r l
 rw [←hm]
 obtain ⟨lo,hi,u,htu⟩:=b6t hk4 hok
 have hct:=a9z b hk4 hok
 rw [htp] at hct
 have hmi:=a7B p.low p.high hct.2.1
 have hpl:p.low=lo∧p.high=hi:=by rw [←htp,htu];exact ⟨rfl,rfl⟩
 have hk1:t.kidsT=[u]:=by rw [htu];rfl
 have hkl0:p.kids.length=1:=by rw [hkid,hrl,hk1];rfl
 have h0k:0 < t.kidsT.length:=by rw [hk1];exact Nat.zero_lt_one
 have hiu:b9s l e b u:=by have h:=ih 0 h0k;rw [hk1] at h;simpa [T.sizeL] using h
 have hka:=a2E hat h0k
 have hroot:=a3r t.kidsT b 0 h0k
 have hu0:t.kidsT.getD 0 default=u:=by rw [hk1];rfl
 have hs0:T.sizeL (t.kidsT.take 0)=0:=by simp [T.sizeL]
 rw [hu0,hs0,Nat.add_zero] at hroot
 have hus:=u.size_pos
 unfold b9s at hiu
 rw [←hm] at hiu
 have hll:lay m t M0=a7O p.low p.high (fun k=>lay m u (M0+k * u.w)):=by rw [htu,hpl.1,hpl.2];simp [lay]
 have htw:t.w=a0m p.low p.high * u.w:=by rw [hct.1,hk1,Nat.mul_comm];simp [T.wL]
 have hdoc:=b6Y hct.2.1 (hi:=p.high) (fun k=>lay m u (M0+k * u.w)) β
 obtain ⟨many,hmany⟩:∃ k,k=a0m p.low p.high:=⟨_,rfl⟩
 obtain ⟨g,hg'⟩:∃ g,g=fun k=>lay m u (M0+k * u.w):=⟨_,rfl⟩
 have hgk:∀ k,lay m u (M0+k * u.w)=g k:=fun k=>by rw [hg']
 rw [←hmany] at hmi htw hdoc
 rw [←hg'] at hll hdoc
 have hm20:many≤20:=by rw [hmany];exact hct.2.2.2.2
 have hg:∀ k,k < many→(g k).Ok (M0+k * u.w) u.w:=fun k hk=>by rw [←hgk];exact a4l hmo u _ (by have:=d1N (w:=u.w) hk;omega)
 rw [htw] at hw ⊢
 rw [hll]
 obtain ⟨R,hR⟩:∃ R,R=a4v p.low.toNat g many:=⟨_,rfl⟩
 rw [←hR] at hdoc
 have hRl:R.length=many - p.low.toNat:=by rw [hR];exact a5F _ _ _
 have hRo:∀ x∈R,x.ok∧x.inB M0 (M0+many * u.w):=by rw [hR];exact b7P hg many lrf
 let k0:=c
 refine a0p Tryz.func44 rfl kr _ _ _ _ rfl 233 rfl rfl (fun X ok hX=>?_)
 refine ru 2 ?_
 refine a0y 8 (a0V (id:=9208) (sz:=5) zc_61.h rfl rfl omx omx) rfl rfl pre0 rfl rfl (c':=c+1) rfl ?_
 refine ru 8 ?_
 refine rvl (ptH p) (c0S om htop.1) ?_
 refine a0y 9 (a0V (id:=9209) (sz:=5) zc_91.h rfl rfl omx omx) rfl rfl pre0 rfl rfl (c':=c+2) rfl ?_
 refine ru 6 ?_
 refine a0y 10 (a0V (id:=9210) (sz:=5) zc_61.h rfl rfl omx omx) rfl rfl pre0 rfl rfl (c':=c+4) rfl ?_
 refine ru 11 ?_
 refine wdc (fun hr0 hc0=>?_) (fun hr0 hc0=>?_)
 ·skip
  exfalso;omega
 refine ru 10 ?_
 refine wdc (fun hr1 hc1=>?_) (fun hr1 hc1=>?_)
 ·skip
  exfalso;omega
 refine ru 16 ?_
 refine wdc (fun hr3 hc3=>?_) (fun hr3 hc3=>?_)
 ·skip
  exfalso;omega
 refine ru 9 ?_
 refine a7K (α:=Nat) (fun x c=>⟨233,[(0,.v (.pt 9101 g1 0 0)),(1,.v (ptsV e)),(3,.v (mnsV l)),(8,.v (.pt 9208 k0 0 0)),(9,.v (.pt 9209 (k0+1) 0 0)),(10,.v (.pt 9210 (k0+3) 0 0)),(16,.v (intV (many:Int)))],[(9101,ndO g1 (.os 9102 g2 0 M0) (.os 9103 g3 0 M0) p0),(9102,lrO g2 M0 (onF on)),(9103,lrO g3 M0 β),(9208,ndO k0 a1g a1g default),(9209,⟨k0+1,1,5,91,0,fun _=>ptF p⟩),(9210,ndO (k0+3) a1g a1g Pc.nil)],c⟩) (fun x=>x≤0) (fun NhJ1 hJ1=>?_) (fun q c hx=>?_)
 ·refine ru 6 ?_
  refine wdc (fun hr5 hc5=>?_) (fun hr5 hc5=>?_)
  ·refine ru 4 ?_
   refine rvl (intV (many:Int)) (by rw [←hmi,if_pos hc5]) ?_
   refine ru 2 ?_
   exact hJ1 (0) _ _ (by (try dsimp only);first | done | exact Nat.le_refl _) (a0b rfl lrf tsa (hsr rfl (hsr rfl (hsr rfl (a0g.cons rfl (a3D rfl rfl rfl rfl rfl rfl rfl) (hsr rfl (a0g.cons rfl (a3D rfl rfl rfl rfl rfl rfl rfl) a0g.nil)))))))
  refine ru 1 ?_
  exact hJ1 (0) _ _ (by (try dsimp only);first | done | exact Nat.le_refl _) (a0b rfl lrf (tsr rfl (tsr rfl (tsr rfl (tsr rfl (tsr rfl (tsr rfl (a0u.cons rfl (by rw [←hmi,if_neg hc5];exact .refl _) a0u.nil))))))) (hsr rfl (hsr rfl (hsr rfl (a0g.cons rfl (a3D rfl rfl rfl rfl rfl rfl rfl) (hsr rfl (a0g.cons rfl (a3D rfl rfl rfl rfl rfl rfl rfl) a0g.nil)))))))
 ·skip
  (try dsimp only at hx ⊢)
  refine ru 12 ?_
  refine a9J 17 9117 5 61 ((c9I [])) rfl dcd rfl (c':=c+1) rfl ?_
  refine a0l (α:=Nat×Nat×List Bag×(Nat→Bag)×Nat×Nat×Nat) (fun x c=>⟨233,[(0,.v (.pt 9101 g1 0 0)),(1,.v (ptsV e)),(3,.v (mnsV l)),(8,.v (.pt 9208 k0 0 0)),(9,.v (.pt 9209 (k0+1) 0 0)),(10,.v (.pt 9210 (k0+3) 0 0)),(16,.v (intV (many:Int))),(17,.v (.os 9117 x.2.2.2.2.2.2 0 (a9N g x.1).length)),(18,.v (intV (x.1:Int)))],[(9101,ndO g1 (.os 9102 x.2.2.2.2.1 0 x.2.1) (.os 9103 x.2.2.2.2.2.1 0 x.2.1) p0),(9102,lrO x.2.2.2.2.1 x.2.1 (onF x.2.2.1)),(9103,lrO x.2.2.2.2.2.1 x.2.1 x.2.2.2.1),(9208,ndO k0 a1g a1g default),(9209,⟨k0+1,1,5,91,0,fun _=>ptF p⟩),(9210,ndO (k0+3) a1g a1g Pc.nil),(9117,⟨x.2.2.2.2.2.2,(a9N g x.1).length,5,61,0,c9I (a9N g x.1)⟩)],c⟩) (fun x=>x.1≤many∧x.2.1=M0+x.1 * u.w∧x.2.2.1=on++onP g x.1∧x.2.2.2.1=links β (lkP p.high g many x.1)) (fun x=>many - x.1) ((0,M0,on,β,g2,g3,c)) (by exact ⟨Nat.zero_le _,by simp,by simp [onP],by simp [lkP,links]⟩) (a0b rfl lrf tsa hsa) (fun x c hx NhL2 hL2=>?_)
  revert hx hL2;obtain ⟨kk,MM,on1,be1,y2,y3,gr⟩:=x;intro hx hL2;dsimp only at hx hL2 ⊢
  obtain ⟨hk,hMM,hon1,hbe1⟩:=hx
  have hpl2:=b2r g kk
  refine ru 8 ?_
  refine wdc (fun hr6 hc6=>?_) (fun hr6 hc6=>?_)
  ·skip
   have hkm:kk < many:=om;have hgo:=hg kk hkm;have hkw:=d1N (w:=u.w) hkm;have hMw:MM+u.w≤256:=om;have hL:=c2F (hi:=p.high) hg kk hk;have hlen1:on1.length=MM:=(by rw [hon1,List.length_append,hon,b5q hg kk hk,hMM]);have hbok:∀ q,(be1 q).ok:=(by rw [hbe1];exact a1i hL hβ);have hbz:∀ q,MM≤q→q < 256→be1 q=Bag.zero:=(by rw [hbe1,hMM];exact a2S hL (fun q hq hq2=>hz q om hq2));have hMg:lay m u MM=g kk:=(by rw [hMM];exact hgk kk);have hih:=fun c=>hiu c g1 y2 y3 MM on1 be1 p0 hlen1 hMw hbok hbz;simp only [hMg] at hih;have hine:InB (M0+kk * u.w) (MM+u.w) (g kk).pc.ends:=(by rw [hMM];exact hgo.inB.2);have hle:=a3a (g kk).pc.ends
   refine ru 12 ?_
   refine rvl (intV ((b+u.size - 1:Nat):Int)) (by exact a3y (i:=0) om (by rw [hkid,hroot];unfold T.root;omega)) ?_
   refine ru 1 ?_
   refine a0n 149 (xs:=[_,_,_,_]) (pre:=[(9101,_),(9102,_),(9103,_)]) (hih _) ⟨rfl,⟨rfl,⟨rfl,⟨rfl,trivial⟩⟩⟩⟩ (a0h rfl (a0h rfl (a0h rfl pre0))) rfl rfl (fun x1 c1 hzz=>?_)
   obtain ⟨z2,z3⟩:=x1
   (try dsimp only)
   refine a0y 19 (a0V (id:=9219) (sz:=5) zc_61.h rfl rfl omx omx) rfl rfl pre0 rfl rfl (c':=c1+1) rfl ?_
   refine ru 3 ?_
   refine a7K (α:=Nat→Bag) (fun x c=>⟨233,[(0,.v (.pt 9101 g1 0 0)),(1,.v (ptsV e)),(3,.v (mnsV l)),(8,.v (.pt 9208 k0 0 0)),(9,.v (.pt 9209 (k0+1) 0 0)),(10,.v (.pt 9210 (k0+3) 0 0)),(16,.v (intV (many:Int))),(17,.v (.os 9117 gr 0 (a9N g kk).length)),(18,.v (intV (kk:Int))),(19,.v (.pt 9219 c1 0 0))],[(9101,ndO g1 (.os 9102 z2 0 (MM+u.w)) (.os 9103 z3 0 (MM+u.w)) p0),(9102,lrO z2 (MM+u.w) (onF (on1++(g kk).on))),(9103,lrO z3 (MM+u.w) x),(9208,ndO k0 a1g a1g default),(9209,⟨k0+1,1,5,91,0,fun _=>ptF p⟩),(9210,ndO (k0+3) a1g a1g Pc.nil),(9117,⟨gr,(a9N g kk).length,5,61,0,c9I (a9N g kk)⟩),(9219,ndO c1 a1g a1g (g kk).pc)],c⟩) (fun x=>x=links β (lkP p.high g many (kk+1))) (fun NhJ3 hJ3=>?_) (fun be2 c hx=>?_)
   ·refine ru 13 ?_
    refine wdc (fun hr7 hc7=>?_) (fun hr7 hc7=>?_)
    ·refine ru 6 ?_
     refine a0l (α:=Nat) (fun x c=>⟨233,[(0,.v (.pt 9101 g1 0 0)),(1,.v (ptsV e)),(3,.v (mnsV l)),(8,.v (.pt 9208 k0 0 0)),(9,.v (.pt 9209 (k0+1) 0 0)),(10,.v (.pt 9210 (k0+3) 0 0)),(16,.v (intV (many:Int))),(17,.v (.os 9117 gr 0 (a9N g kk).length)),(18,.v (intV (kk:Int))),(19,.v (.pt 9219 c1 0 0)),(20,.v (intV (x:Int)))],[(9101,ndO g1 (.os 9102 z2 0 (MM+u.w)) (.os 9103 z3 0 (MM+u.w)) p0),(9102,lrO z2 (MM+u.w) (onF (on1++(g kk).on))),(9103,lrO z3 (MM+u.w) (a4z (g kk).pc.ends (g kk).pc.first (links be1 (g kk).lk) x)),(9208,ndO k0 a1g a1g default),(9209,⟨k0+1,1,5,91,0,fun _=>ptF p⟩),(9210,ndO (k0+3) a1g a1g Pc.nil),(9117,⟨gr,(a9N g kk).length,5,61,0,c9I (a9N g kk)⟩),(9219,ndO c1 a1g a1g (g kk).pc)],c⟩) (fun x=>x≤(g kk).pc.ends.list.length) (fun x=>(g kk).pc.ends.list.length - x) (0) om (a0b rfl lrf tsa (hsr rfl (hsr rfl (a0g.cons rfl (a6a fun p hp=>by show a0i _=_;rw [a8f]) (hsr rfl (hsr rfl (hsr rfl (hsr rfl (a0g.cons rfl (a9f (by exact jn5 rfl rfl rfl rfl rfl)) a0g.nil))))))))) (fun j c hx NhL4 hL4=>?_)
     (try dsimp only at hx hL4 ⊢)
     obtain hj:=hx
     refine ru 10 ?_
     refine wdc (fun hr8 hc8=>?_) (fun hr8 hc8=>?_)
     ·skip
      have hj':j < (g kk).pc.ends.list.length:=om;obtain ⟨q,hq256,hqA,hq⟩:=a5c (g kk).pc.ends hj';have hqM:=a6G hine q hq256 hqA
      refine ru 13 ?_
      first
      | refine a3d 174 (HOp.val (v':=intV (q:Int)) (a0r ty_3.h rfl omy omy (fun h=>(by first | rfl | cases h))) (congrArg intV hq)) rfl rfl (a0L rfl) rfl rfl (k':=9) rfl ?_
      | refine a3d 174 (HOp.val (v':=intV (q:Int)) (a0j ty_3.h rfl omy (fun h=>(by first | rfl | cases h))) (congrArg intV hq)) rfl rfl pre0 rfl rfl (k':=9) rfl ?_
      refine ru 8 ?_
      first
      | refine a3d 183 (HOp.val (v':=intV (q:Int)) (a0r ty_3.h rfl omy omy (fun h=>(by first | rfl | cases h))) (congrArg intV hq)) rfl rfl (a0L rfl) rfl rfl (k':=18) rfl ?_
      | refine a3d 183 (HOp.val (v':=intV (q:Int)) (a0j ty_3.h rfl omy (fun h=>(by first | rfl | cases h))) (congrArg intV hq)) rfl rfl pre0 rfl rfl (k':=18) rfl ?_
      refine ru 4 ?_
      refine d0 23 (a0e (xs:=[_,_]) (a3Q (a4z (g kk).pc.ends (g kk).pc.first (links be1 (g kk).lk) j q) (g kk).pc.first) ⟨rfl,⟨rfl,trivial⟩⟩ ⟨(Fz.eq (by rw [Nat.zero_add];rfl)),⟨(Fz.eq rfl),trivial⟩⟩) ?_
      refine ru 10 ?_
      exact hL4 (j+1) _ _ omd omd (a0b rfl lrf tsa (hsr rfl (hsr rfl (a0g.cons rfl (a6a fun p hp=>b1G.trans (by rw [a6i _ _ _ hj' hq,Nat.zero_add];rfl)) hsa))))
     have hje:j=(g kk).pc.ends.list.length:=om
     refine ru 2 ?_
     refine a0c ?_
     refine ru 1 ?_
     exact hJ3 (a2i (links be1 (g kk).lk) ((g kk).pc.ends,(g kk).pc.first)) _ _ (by (try dsimp only);rw [hbe1];simp only [lkP];rw [if_pos om,a0P,a0P];rfl) (a0b rfl lrf tsa (hsr rfl (hsr rfl (a0g.cons rfl (a6a fun p hp=>by show a0i _=_;rw [hje,a1U _ _ _ om]) hsa))))
    refine ru 1 ?_
    exact hJ3 (links be1 (g kk).lk) _ _ (by (try dsimp only);rw [hbe1];simp only [lkP];rw [if_neg (fun h=>by simp [h.1] at hc7;omega),List.append_nil,a0P]) (a0b rfl lrf tsa (hsr rfl (hsr rfl (hsr rfl (hsr rfl (hsr rfl (hsr rfl (hsr rfl (a0g.cons rfl (a9f (by exact jn5 rfl rfl rfl rfl rfl)) a0g.nil)))))))))
   ·skip
    (try dsimp only at hx ⊢)
    refine ru 3 ?_
    refine rvl (ndV (g kk).pc) (rfl) ?_
    refine a0y 192 (a0d (id:=9392) (hs:=[_]) ei_162.h omx rfl omx ⟨rfl,rfl,rfl,rfl,trivial⟩) rfl rfl pre0 rfl rfl (c':=c+1) rfl ?_
    first
    | refine a0y 193 (a0a ei_162.h omy rfl omy omy (a0D rfl omy) omy rfl) rfl rfl (a0h rfl (a0L rfl)) rfl rfl (c':=c+2) rfl ?_
    | refine a0y 193 (a0a ei_162.h omy rfl omy omy (a1a rfl omy) omy rfl) rfl rfl (a0h rfl (a0L rfl)) rfl rfl (c':=c+2) rfl ?_
    | refine a0y 193 (a0a ei_162.h omy rfl omy omy (a0Y rfl) omy rfl) rfl rfl (a0h rfl pre0) rfl rfl (c':=c+2) rfl ?_
    | refine a0y 193 (a0a ei_162.h omy rfl omy omy (a0G 5 (fun _ _=>default) rfl) omy rfl) rfl rfl (a0h rfl pre0) rfl rfl (c':=c+2) rfl ?_
    refine ru 9 ?_
    exact hL2 ((kk+1,MM+u.w,on1++(g kk).on,be2,z2,z3,c+1)) _ _ (by (try dsimp only);exact ⟨by omega,by rw [hMM,Nat.succ_mul,Nat.add_assoc],by rw [hon1,List.append_assoc];rfl,hx⟩) omd (a0b rfl lrf (tsr rfl (tsr rfl (tsr rfl (tsr rfl (tsr rfl (tsr rfl (tsr rfl (a0u.cons rfl (a3A (by simp [a9N])) tsa)))))))) (hsr rfl (hsr rfl (hsr rfl (hsr rfl (hsr rfl (hsr rfl (a0g.cons rfl (by exact a0N (enc:=fun x=>ndF a1g a1g x 0) (d:=default) rfl (fun i j _ _=>.refl _) (fun j hj=>.refl _)) a0g.nil))))))))
  have hkm:kk=many:=om;have hMm:MM=M0+many * u.w:=(by rw [hMM,hkm]);have hM256:MM≤256:=om;have hL:=c2F (hi:=p.high) hg kk hk;have hbok:∀ q,(be1 q).ok:=(by rw [hbe1];exact a1i hL hβ)
  refine ru 2 ?_
  refine a0c ?_
  refine ru 9 ?_
  refine a0l (α:=Nat×(Nat→Bag)) (fun x c=>⟨233,[(0,.v (.pt 9101 g1 0 0)),(8,.v (.pt 9208 k0 0 0)),(9,.v (.pt 9209 (k0+1) 0 0)),(10,.v (.pt 9210 (k0+3) 0 0)),(16,.v (intV (many:Int))),(17,.v (.os 9117 gr 0 (a9N g kk).length)),(21,.v (intV (x.1:Int)))],[(9101,ndO g1 (.os 9102 y2 0 MM) (.os 9103 y3 0 MM) p0),(9102,lrO y2 MM (onF on1)),(9103,lrO y3 MM x.2),(9208,ndO k0 a1g a1g default),(9209,⟨k0+1,1,5,91,0,fun _=>ptF p⟩),(9210,ndO (k0+3) a1g a1g (b3g g x.1)),(9117,⟨gr,(a9N g kk).length,5,61,0,c9I (a9N g kk)⟩)],c⟩) (fun x=>x.1≤many∧x.1≤p.low.toNat∧x.2=links be1 (lkJ g x.1)) (fun x=>many - x.1) ((0,be1)) (by exact ⟨Nat.zero_le _,Nat.zero_le _,by simp [lkJ,links]⟩) (a0b rfl lrf tsa hsa) (fun x c hx NhL5 hL5=>?_)
  revert hx hL5;obtain ⟨k2,be3⟩:=x;intro hx hL5;dsimp only at hx hL5 ⊢
  obtain ⟨hk2,hk2l,hbe3⟩:=hx
  have hJ:=c6P hg k2 hk2;have hO:=b6s hg k2 hk2;have hkk2:M0+k2 * u.w≤MM:=(by have:=Nat.mul_le_mul_right u.w hk2;omega);have hb3:∀ q,(be3 q).ok:=(by rw [hbe3];exact a1i hJ hbok);have hino:InB M0 MM (b3g g k2).ends:=hO.2.2.mono lrf hkk2
  refine ru 14 ?_
  refine wdc (fun hr9 hc9=>?_) (fun hr9 hc9=>?_)
  ·skip
   have hk2m:k2 < many:=om;have hk2p:k2 < p.low.toNat:=om;have hgo:=hg k2 hk2m
   refine ru 10 ?_
   refine rvl (ndV (g k2).pc) (c6p (l:=a9N g kk) (i:=k2) (by rw [hkm];exact b1N g many k2 hk2m) (fun j=>by simp only [Nat.zero_add];rfl)) ?_
   refine hm_ 210 (a1Z (xs:=[_,_,_]) (pre:=[(9101,_),(9102,_),(9103,_),(9210,_)]) (a9A (b3g g k2) (g k2).pc hO.1 hgo.pc MM g1 y2 y3 (k0+3) (onF on1) be3 p0 (a6G hino) hM256) ((d2l rfl rfl rfl rfl)) ⟨rfl,⟨rfl,⟨rfl,trivial⟩⟩⟩) rfl rfl (a0h rfl (a0h rfl (a0h rfl (a0h rfl pre0)))) rfl rfl (c':=c+1) rfl ?_
   refine ru 8 ?_
   exact hL5 ((k2+1,a2i be3 ((b3g g k2).ends,(g k2).pc.first))) _ _ (by (try dsimp only);exact ⟨by omega,by omega,by rw [hbe3];simp only [lkJ];rw [a0P];rfl⟩) omd (a0b rfl lrf tsa hsa)
  have hke:k2=min many p.low.toNat:=(by have h:=hr9;simp at h;omega);let kt:=c
  refine ru 2 ?_
  refine a0c ?_
  refine ru 5 ?_
  refine a0y 22 (a0V (id:=9222) (sz:=5) zc_61.h rfl rfl omx omx) rfl rfl pre0 rfl rfl (c':=c+1) rfl ?_
  refine ru 12 ?_
  refine a0l (α:=Nat×(Nat→Bag)×Pc) (fun x c=>⟨233,[(0,.v (.pt 9101 g1 0 0)),(8,.v (.pt 9208 k0 0 0)),(9,.v (.pt 9209 (k0+1) 0 0)),(10,.v (.pt 9210 (k0+3) 0 0)),(17,.v (.os 9117 gr 0 (a9N g kk).length)),(22,.v (.pt 9222 kt 0 0)),(23,.v (intV ((many:Int) - 1 - (x.1:Int))))],[(9101,ndO g1 (.os 9102 y2 0 MM) (.os 9103 y3 0 MM) p0),(9102,lrO y2 MM (onF on1)),(9103,lrO y3 MM x.2.1),(9208,ndO k0 a1g a1g default),(9209,⟨k0+1,1,5,91,0,fun _=>ptF p⟩),(9210,ndO (k0+3) a1g a1g (b3g g k2)),(9117,⟨gr,(a9N g kk).length,5,61,0,c9I (a9N g kk)⟩),(9222,ndO kt a1g a1g x.2.2)],c⟩) (fun x=>x.1≤R.length∧x.2.1=links be3 (a2h (R.drop (R.length - x.1))).1∧x.2.2=(a2h (R.drop (R.length - x.1))).2) (fun x=>R.length - x.1) ((0,be3,Pc.nil)) (by exact ⟨Nat.zero_le _,by simp [a2h,links],by simp [a2h]⟩) (a0b rfl lrf (tsr rfl (tsr rfl (tsr rfl (tsr rfl (tsr rfl (tsr rfl (a0u.cons rfl (a0K om) a0u.nil))))))) (hsr rfl (hsr rfl (hsr rfl (hsr rfl (hsr rfl (hsr rfl (hsr rfl (a0g.cons rfl (a3D rfl rfl rfl rfl rfl rfl rfl) a0g.nil))))))))) (fun x c hx NhL6 hL6=>?_)
  revert hx hL6;obtain ⟨j4,be4,ta4⟩:=x;intro hx hL6;dsimp only at hx hL6 ⊢
  obtain ⟨hj4,hbe4,hta4⟩:=hx
  have htt:=a7c (N:=M0) (M:=M0+many * u.w) (l:=R.drop (R.length - j4)) (fun x hx=>hRo x (List.mem_of_mem_drop hx));have hto:ta4.ok:=(by rw [hta4];exact htt.2.1);have hb4:∀ q,(be4 q).ok:=(by rw [hbe4];exact a1i htt.1 hb3)
  refine ru 9 ?_
  refine wdc (fun hr10 hc10=>?_) (fun hr10 hc10=>?_)
  ·skip
   have hjl:j4 < R.length:=om;have hxm:=hRo _ (b6A (l:=R) (j:=R.length - 1 - j4) om);have hxin:InB M0 MM (R.getD (R.length - 1 - j4) default).ends:=(by rw [hMm];exact hxm.2.2);have hidx:many - 1 - j4 < many:=om;have hRg:(g (many - 1 - j4)).pc=R.getD (R.length - 1 - j4) default:=(by rw [hR,b0m _ _ _ _ (by rw [a5F] ; omega),a5F];congr 2;omega)
   refine ru 8 ?_
   refine rvl (intV ((many - 1 - j4:Nat):Int)) (congrArg intV om) ?_
   refine ru 2 ?_
   refine rvl (ndV (R.getD (R.length - 1 - j4) default)) (c6p (l:=a9N g kk) (i:=many - 1 - j4) (by rw [hkm,b1N g many _ hidx];exact hRg) (fun j=>by simp only [Nat.zero_add];rfl)) ?_
   refine a0y 24 (a0V (id:=9224) (sz:=5) zc_61.h rfl rfl omx omx) rfl rfl pre0 rfl rfl (c':=c+1) rfl ?_
   refine ru 7 ?_
   refine rvl (ndV ta4) (rfl) ?_
   refine hm_ 226 (a1Z (xs:=[_,_,_]) (pre:=[(9101,_),(9102,_),(9103,_),(9224,_)]) (c1O (R.getD (R.length - 1 - j4) default) ta4 hxm.1 hto MM g1 y2 y3 _ (onF on1) be4 p0 (a6G hxin) hM256) ((d2l rfl rfl rfl rfl)) ⟨rfl,⟨rfl,⟨rfl,trivial⟩⟩⟩) rfl rfl (a0h rfl (a0h rfl (a0h rfl (a0h rfl pre0)))) rfl rfl (c':=c+3) rfl ?_
   refine ru 19 ?_
   exact hL6 ((j4+1,a2i be4 ((R.getD (R.length - 1 - j4) default).ends,ta4.first),{ (R.getD (R.length - 1 - j4) default).join ta4 with empty:=true })) _ _ (by (try dsimp only);exact ⟨by omega,by rw [b2c hjl,hbe4,hta4];simp only [a2h];rw [a0P];rfl,by rw [b2c hjl,hta4];rfl⟩) omd (a0b rfl lrf (tsr rfl (tsr rfl (tsr rfl (tsr rfl (tsr rfl (tsr rfl (a0u.cons rfl (a0K om) a0u.nil))))))) (hsr rfl (hsr rfl (hsr rfl (hsr rfl (hsr rfl (hsr rfl (hsr rfl (a0g.cons rfl (a9f (by exact jn5 rfl rfl rfl rfl rfl)) a0g.nil)))))))))
  have hje:j4=R.length:=om;have hta:ta4=(a2h R).2:=(by rw [hta4,hje,Nat.sub_self,List.drop_zero]);have hbe:be4=links be3 (a2h R).1:=(by rw [hbe4,hje,Nat.sub_self,List.drop_zero])
  refine ru 2 ?_
  refine a0c ?_
  refine ru 6 ?_
  refine rvl (ndV ta4) (rfl) ?_
  refine hm_ 231 (a1Z (xs:=[_,_,_]) (pre:=[(9101,_),(9102,_),(9103,_),(9210,_)]) (a9A (b3g g k2) ta4 hO.1 hto MM g1 y2 y3 (k0+3) (onF on1) be4 p0 (a6G hino) hM256) ((d2l rfl rfl rfl rfl)) ⟨rfl,⟨rfl,⟨rfl,trivial⟩⟩⟩) rfl rfl (a0h rfl (a0h rfl (a0h rfl (a0h rfl pre0)))) rfl rfl (c':=c+1) rfl ?_
  refine ru 9 ?_
  refine fr1 ok hX rw1 ((y2,y3)) (trivial) ((by rw [hdoc.2.2,←hke,←hta];exact c6W (by exact jn5 rfl rfl rfl rfl rfl))) ?_
  exact ⟨⟨_,rfl,(by rw [←hMm];exact a9j rfl rfl rfl rfl)⟩,⟨⟨_,rfl,(by rw [←hMm,hdoc.1,hon1,hkm];exact a1e (fun _ _=>rfl))⟩,⟨⟨_,rfl,(by rw [←hMm,←hdoc.2.1,←hke,←hta];exact a1e (fun q _=>by rw [hbe,hbe3,hbe1,hkm];rfl))⟩,trivial⟩⟩⟩
theorem b7t (k:Int) (out:List Pt) (ks:List Int):∃ y,b0O k out ks y:=by
 unfold b0O
 split
 ·exact ⟨(0,out,ks.getD 0 0),rfl⟩
 ·exact ⟨(0,out++[⟨k,0,0,[],ks⟩],(out.length:Int)),rfl⟩
theorem c7K {l:List Sg} (hk:b9x l) (hne:l≠[]) {p:Nat} (hp:p≤l.length) (out:List Pt) (hc:∀ p',p < p'→p'≤l.length→∀ out,∃ x,a6C l 3 p' out x):∃ x,a6C l 1 p out x:=by
  by_cases h1:kd l p=1
  · by_cases h5:kd l (p+1)=5
    · exact ⟨_,b7k (g:=0) h1 h5⟩
    · exact ⟨_,c3g (g:=0) h1 h5⟩
  · by_cases h2:kd l p=2
    · have hlt:=a2Z (l:=l) (i:=p) (by rw [h2];decide)
      obtain ⟨⟨t,q,g,o,r⟩,hx⟩:=hc (p+1) omo omo out
      cases t with
      | none=>exact ⟨_,c1M hk hx h2 (.inl rfl)⟩
      | some t =>
        by_cases h3:kd l q=3
        · by_cases h5:kd l (q+1)=5
          · exact ⟨_,b4n (g':=0) hx h2 h3 h5⟩
          · exact ⟨_,b7R hx h2 h3 h5⟩
        · exact ⟨_,c1M hk hx h2 (.inr h3)⟩
    · exact ⟨⟨none,p,0,out,-1⟩,b4v hne hp h1 h2,by simp⟩
theorem c1n {l:List Sg} {p:Nat} {out:List Pt} (hi:∀ p',p≤p'→p'≤l.length→∀ out,∃ x,a6C l 1 p' out x):∀ (n:Nat) (bad:Bool) (q:Nat) (o:List Pt) (ks:List Int),2 * (l.length - q)+(if bad then 0 else 1) < n→c5M l p out bad q o ks→∃ x,a6C l 2 p out x
  | 0,_,_,_,_,h,_=>absurd h (Nat.not_lt_zero _)
  | n + 1, bad, q, o, ks, h, hI => by
    by_cases hk:bad=true∨(kd l q≠1∧kd l q≠2)
    · obtain ⟨tt,_,hd⟩:=b7S hI hk
      obtain ⟨y,hy⟩:=b7t 2 o ks
      exact ⟨_,hd y hy⟩
    · have hb:bad=false:=by cases bad with | true=>exact absurd (.inl rfl) hk | false=>rfl
      subst hb
      have hkq:kd l q=1∨kd l q=2:=by
        by_cases h1:kd l q=1
        · exact .inl h1
        · by_cases h2:kd l q=2
          · exact .inr h2
          · exact absurd (.inr ⟨h1,h2⟩) hk
      obtain ⟨⟨t,q',g,o',r⟩,hx⟩:=hi q hI.2.1 hI.2.2.1 o
      have:=b9z hx
      exact c1n hi n t.isNone q' o' (ks++[r]) omo (b7T hI hkq hx)
theorem d2i {l:List Sg} {p:Nat} (hp:p≤l.length) (out:List Pt) (hi:∀ p',p≤p'→p'≤l.length→∀ out,∃ x,a6C l 1 p' out x):∃ x,a6C l 2 p out x:=by
 obtain ⟨⟨t,q,g,o,r⟩,hx⟩:=hi p lrf hp out
 exact c1n hi _ _ _ _ _ (Nat.lt_succ_self _) (b3W hx)
theorem c6j {l:List Sg} {p:Nat} {out:List Pt} (hi:∀ p',p≤p'→p'≤l.length→∀ out,∃ x,a6C l 2 p' out x):∀ (n:Nat) (bad:Bool) (q:Nat) (o:List Pt) (ks:List Int),2 * (l.length - q)+(if bad then 0 else 1) < n→ChI l p out bad q o ks→∃ x,a6C l 3 p out x
  | 0,_,_,_,_,h,_=>absurd h (Nat.not_lt_zero _)
  | n + 1, bad, q, o, ks, h, hI => by
    by_cases hk:bad=true∨kd l q≠4
    · obtain ⟨tt,_,hd⟩:=c0W hI hk
      obtain ⟨y,hy⟩:=b7t 3 o ks
      exact ⟨_,hd y hy⟩
    · have hb:bad=false:=by cases bad with | true=>exact absurd (.inl rfl) hk | false=>rfl
      subst hb
      have hkq:kd l q=4:=Classical.byContradiction fun h'=>hk (.inr h')
      have hlt:=a2Z (l:=l) (i:=q) (by rw [hkq];decide)
      have hpq:=hI.2.1
      obtain ⟨⟨t,q',g,o',r⟩,hx⟩:=hi (q+1) omo omo o
      have:=c0D hlt hx
      exact c6j hi n t.isNone q' o' (ks++[r]) omo (c2Q hI hkq hx)
theorem c1r {l:List Sg} {p:Nat} (hp:p≤l.length) (out:List Pt) (hi:∀ p',p≤p'→p'≤l.length→∀ out,∃ x,a6C l 2 p' out x):∃ x,a6C l 3 p out x:=by
 obtain ⟨⟨t,q,g,o,r⟩,hx⟩:=hi p lrf hp out
 exact c6j hi _ _ _ _ _ (Nat.lt_succ_self _) (b7B hx)
theorem c0I {l:List Sg} (hk:b9x l) (hne:l≠[]):∀ n p,l.length - p < n→p≤l.length→∀ out,∃ x,a6C l 3 p out x
 | 0,p,h,_,_=>absurd h (Nat.not_lt_zero _)
 | n+1,p,h,hp,out=>c1r hp out fun p1 h1 hp1 out1=>d2i hp1 out1 fun p2 h2 hp2 out2=>c7K hk hne hp2 out2 fun p3 h3 hp3 out3=>c0I hk hne n p3 omo hp3 out3
theorem b8c (s:List UInt8):∃ r,ParseIs s r:=by
  cases hv:lexV s with
  | error e=>exact ⟨_,.err e hv⟩
  | ok l =>
    by_cases hne:l=[]
    · subst hne;exact ⟨_,.none hv⟩
    · have hk:=c5W (b3B hv)
      obtain ⟨x,hx⟩:=c0I hk hne _ 0 (Nat.lt_succ_self _) (Nat.zero_le _) []
      by_cases hq:x.q < l.length
      · exact ⟨_,b3j hv hk hne hx hq⟩
      · cases hb : x.t.isNone with
        | true=>exact ⟨_,b3x hv hne hx omo hb⟩
        | false=>exact ⟨_,b7Y hv hx omo hb⟩
noncomputable def d3U (s:List UInt8):List Pt×Int×Int:=Classical.choose (b8c s)
theorem b2v (l:List Mn) (hB:MnB l) (e:List Pt) (he:e.length≤100000) (b:Nat) (t:T) (hok:t.ok=true) (hat:AtP e b (T.flat b t)) (hkl:t.kidsT.length≤100000)
  (ih:∀ i,i < t.kidsT.length→b9s l e (b+T.sizeL (t.kidsT.take i)) (t.kidsT.getD i default)):b9s l e b t:=by
 by_cases h:t.kind=4
 ·exact b8s l hB e he b t h hok hat hkl ih
 ·exact c3F l hB e he b t h hok hat hkl ih
mutual
theorem b4Y (l:List Mn) (hB:MnB l) (e:List Pt) (he:e.length≤100000):∀ (t:T) (b:Nat),t.ok=true→AtP e b (T.flat b t)→b9s l e b t
  | .name s,b,hok,hat=>b2v l hB e he b (.name s) hok hat (Nat.zero_le _) (fun i hi=>absurd hi (Nat.not_lt_zero _))
  | .times lo hi t, b, hok, hat => by
    have hok':t.ok=true:=by simp only [T.ok,Bool.and_eq_true] at hok;exact hok.2
    refine b2v l hB e he b (.times lo hi t) hok hat (by simp [T.kidsT]) (fun i hi=>?_)
    obtain rfl:i=0:=by simpa [T.kidsT] using hi
    have:=b4Y l hB e he t b hok' (by simp only [T.flat] at hat;exact a5e hat)
    simpa [T.kidsT,T.sizeL] using this
  | .many k ts, b, hok, hat => by
    have hok':T.okL ts=true:=by simp only [T.ok,Bool.and_eq_true] at hok;exact hok.2
    have hkl:(T.many k ts).kidsT.length≤100000:=by
      have:=a7b (t:=.many k ts);have:=(a4b hat).2;omega
    exact b2v l hB e he b (.many k ts) hok hat hkl (fun i hi=>c1e l hB e he ts hok' i hi _ (a2E hat hi))
theorem c1e (l:List Mn) (hB:MnB l) (e:List Pt) (he:e.length≤100000):∀ ts:List T,T.okL ts=true→∀ i,i < ts.length→∀ b,AtP e b (T.flat b (ts.getD i default))→b9s l e b (ts.getD i default)
  | [],_,i,hi=>absurd hi (Nat.not_lt_zero _)
  | t :: ts, hok, i, hi => fun b hat => by
    simp only [T.okL,Bool.and_eq_true] at hok
    cases i with
    | zero=>exact b4Y l hB e he t b hok.1 hat
    | succ i=>exact c1e l hB e he ts hok.2 i (by simpa using hi) b (by simpa using hat)
end
@[reducible] def ndR (M:Nat) (on:List Bag) (β:Nat→Bag) (p:Pc):HV:=.agg 5 (ndF (.sl 1 M (lrF (onF on))) (.sl 1 M (lrF β)) p 0)
instance frz_ndR (M:Nat) (on:List Bag) (β:Nat→Bag) (p:Pc):Frz (ndR M on β p):=⟨.agg _ _ _ (by exact jn5 (.sl _ _ _ _ fun _ _ _ _=>Frz.fz) (.sl _ _ _ _ fun _ _ _ _=>Frz.fz) (show Fz _ (a0i p.first.list) (a0i p.first.list) from Frz.fz) (show Fz _ (a0i p.ends.list) (a0i p.ends.list) from Frz.fz) (.imm _))⟩
theorem c6i {sh:List (Nat×HObj)} {M:Nat} {on:List Bag} {β:Nat→Bag} {p:Pc} {f:Nat→HV} (h0:Fz sh (f 0) (.sl 1 M (lrF (onF on)))) (h1:Fz sh (f 1) (.sl 1 M (lrF β))) (h2:Fz sh (f 2) (a0i p.first.list)) (h3:Fz sh (f 3) (a0i p.ends.list)) (h4:f 4=boolV p.empty):Fz sh (.agg 5 f) (ndR M on β p) :=
 .agg _ _ _ (by exact jn5 h0 h1 h2 h3 (by rw [h4];exact .imm _))
theorem d2b {sh:List (Nat×HObj)}:Fz sh a1g (a0i Bag.zero.list):=by rw [b0r];exact .nil 0 1 _ dcd none
theorem c3m {sh:List (Nat×HObj)} {id g n n':Nat} {γ γ':Nat→Bag} (ho:(id,lrO g n γ)∈sh) (hn:n'=n) (h:∀ i,i < n→γ i=γ' i):Fz sh (.os id g 0 n') (.sl 1 n' (lrF γ')):=by
 subst hn
 refine Fz.os id g 0 n' (lrO g n' γ) _ ho rfl (by show 0+n'≤n';omega) (fun i j hi hj=>?_)
 show Fz sh (a0i (γ (0+i)).list) (a0i (γ' i).list)
 rw [Nat.zero_add,h i hi];exact Frz.fz
def nd2 (a b:HV):Nat→Nat→HV:=fun _ j=>match j with | 0=>a | 1=>b | 2=>a1g | 3=>a1g | _=>boolV true
theorem c5k (l:List Mn):HPure Tryz.prog 20 [ptsV [],mnsV l] (ndR 0 [] (fun _=>Bag.zero) Pc.nil):=by
 refine a0k Tryz.func20 rfl kr _ _ _ rfl 28 rfl rfl (fun w F=>?_)
 refine ru 20 ?_
 refine wdc (fun hr0 hc0=>?_) (fun hr0 hc0=>?_)
 ·refine ru 8 ?_
  refine rt1 ?_
  exact c6i (.nil 0 1 _ dcd none) (.nil 0 1 _ dcd none) d2b d2b rfl
 exfalso;exact absurd hc0 sml
theorem c4F (l:List Mn) (hB:MnB l) (t:T) (hok:t.ok=true) (he:(T.flat 0 t).length≤100000) (hw:t.w≤256):HPure Tryz.prog 20 [ptsV (T.flat 0 t),mnsV l] (ndR (0+t.w) (lay (meansV l) t 0).on (links (fun _=>Bag.zero) (lay (meansV l) t 0).lk) (lay (meansV l) t 0).pc):=by
 have hat:AtP (T.flat 0 t) 0 (T.flat 0 t):=⟨[],[],by simp,rfl⟩
 have hsz:(T.flat 0 t).length=t.size:=T.flat_len 0 t
 have hps:=t.size_pos
 obtain ⟨e,hee⟩:∃ e,e=T.flat 0 t:=⟨_,rfl⟩
 have hP:=b4Y l hB e (by rw [hee];exact he) t 0 hok (by rw [hee];exact hat)
 rw [←hee] at he hsz ⊢
 refine a0k Tryz.func20 rfl kr _ _ _ rfl 28 rfl rfl (fun w F=>?_)
 refine ru 8 ?_
 refine a0y 5 (a0V (id:=9101) (sz:=5) zc_61.h rfl rfl dcd dcd) rfl rfl pre0 rfl rfl (c':=2) rfl ?_
 refine ru 11 ?_
 refine wdc (fun hr0 hc0=>?_) (fun hr0 hc0=>?_)
 ·skip
  exfalso;omega
 refine ru 3 ?_
 refine (a1N 9101 0 9102 1 23 (lrF (onF [])) (nd2 (.os 9102 3 0 0) a1g) rfl rfl (by exact jn5 (.inl ⟨rfl,rfl⟩) (.inr rfl) (.inr rfl) (.inr rfl) (.inr rfl)) dcd dcd (c':=4) rfl).wp ?_;refine (a1N 9101 1 9103 1 23 (lrF (fun _=>Bag.zero)) (nd2 (.os 9102 3 0 0) (.os 9103 4 0 0)) rfl rfl (by exact jn5 (.inr rfl) (.inl ⟨rfl,rfl⟩) (.inr rfl) (.inr rfl) (.inr rfl)) dcd dcd (c':=5) rfl).wp ?_;refine (a0W 9101 (ndO 1 (.os 9102 3 0 0) (.os 9103 4 0 0) Pc.nil) rfl (by exact a9q (.refl _) (.refl _) b9W b9W (.refl _))).wp ?_
 refine ru 5 ?_
 refine rvl (intV ((0+t.size - 1:Nat):Int)) (congrArg intV om) ?_
 refine ru 1 ?_
 refine a0n 17 (xs:=[_,_,_,_]) (pre:=[(9101,_),(9102,_),(9103,_)]) (hP _ 1 3 4 0 [] (fun _=>Bag.zero) Pc.nil rfl om (fun _=>Bag.zero_ok) (fun _ _ _=>rfl)) ⟨rfl,⟨rfl,⟨rfl,⟨rfl,trivial⟩⟩⟩⟩ (a0h rfl (a0h rfl (a0h rfl pre0))) rfl rfl (fun x1 c1 hyy=>?_)
 obtain ⟨y2,y3⟩:=x1
 (try dsimp only)
 refine ru 35 ?_
 refine a5q rfl (a0H rfl rfl ty_61.h rqc rfl rfl) [(9102,_),(9103,_)] rfl (a0h rfl (a0h rfl pre0)) ?_
 exact c6i (c3m (.head _) rfl (fun _ _=>rfl)) (c3m (.tail _ (.head _)) rfl (fun _ _=>rfl)) (show Fz _ (a0i (lay (meansV l) t 0).pc.first.list) (a0i (lay (meansV l) t 0).pc.first.list) from Frz.fz) (show Fz _ (a0i (lay (meansV l) t 0).pc.ends.list) (a0i (lay (meansV l) t 0).pc.ends.list) from Frz.fz) rfl
@[reducible] def t4 (a b c d:HV):HV:=.tup 4 (fun i=>match i with | 0=>a | 1=>b | 2=>c | _=>d)
theorem a4y {P:Program} {w:World} {F:Addr→Prop} {fn:Func} {rv1 rv2 rv3 rv4:ResultVar} {s:HSt} {x1 x2 x3 x4 y:HV} (hres:fn.results=#[rv1,rv2,rv3,rv4]) (hrv1:a6M P s rv1 x1) (hrv2:a6M P s rv2 x2) (hrv3:a6M P s rv3 x3) (hrv4:a6M P s rv4 x4) (sh:List (Nat×HObj)) (hd:a1u (sh.map (·.1))=true) (hsh:∀ p∈sh,hget s.hp p.1=some p.2)
  (hz:Fz sh (t4 x1 x2 x3 x4) y):HQ (Ctx.top w F) (bodyPost P fn (a1c w F y)) .ret s:=by
 intro a w' ⟨E,e0,r,hG,hsz,hdf,ht⟩
 obtain ⟨v1,h1,g1⟩:=hrv1 (Ctx.top w F) a w' E r ht
 obtain ⟨v2,h2,g2⟩:=hrv2 (Ctx.top w F) a w' E r ht
 obtain ⟨v3,h3,g3⟩:=hrv3 (Ctx.top w F) a w' E r ht
 obtain ⟨v4,h4,g4⟩:=hrv4 (Ctx.top w F) a w' E r ht
 have hrep:Rep w' E (.tuple #[v1,v2,v3,v4]) (.tup 4 (fun i=>match i with | 0=>x1 | 1=>x2 | 2=>x3 | _=>x4)) :=
  .tup _ 4 _ (fun i=>match i with | 0=>v1 | 1=>v2 | 2=>v3 | _=>v4) rfl (fun i hi=>by match i,hi with | 0,_=>rfl | 1,_=>rfl | 2,_=>rfl | 3,_=>rfl) (fun i hi=>by match i,hi with | 0,_=>exact g1 | 1,_=>exact g2 | 2,_=>exact g3 | 3,_=>exact g4)
 refine ⟨hdf,_,?_,a1c.of e0 r sh hd hsh hz hrep⟩
 have:(results fn a.tmps).run P w'=.ok (.tuple #[v1,v2,v3,v4]) w':=by
  unfold results
  rw [hres]
  cases rv1 <;> cases rv2 <;> cases rv3 <;> cases rv4 <;> (simp [Sem.run_bind] at h1 h2 h3 h4 ⊢)
  all_goals first | done | (try (first | rw [a0S h1] | skip);try (first | rw [a0S h2] | skip);try (first | rw [a0S h3] | skip);try (first | rw [a0S h4] | skip);try simp [h1,h2,h3,h4])
 exact this
theorem b0H {sh:List (Nat×HObj)} {x1 x2 x3 x4 y1 y2 y3 y4:HV} (h1:Fz sh x1 y1) (h2:Fz sh x2 y2) (h3:Fz sh x3 y3) (h4:Fz sh x4 y4):Fz sh (t4 x1 x2 x3 x4) (t4 y1 y2 y3 y4):=.tup _ _ _ fun i hi=>by
 match i,hi with
 | 0,_=>exact h1 | 1,_=>exact h2 | 2,_=>exact h3 | 3,_=>exact h4
@[reducible] def b4P:HV:=.imm (.pointer none)
theorem c5s (wd:Nat) (on:List Bag) (β:Nat→Bag) (p:Pc):HPure Tryz.prog 35 [netP wd on β p] (boolV p.empty):=by
 refine a0k Tryz.func35 rfl kr _ _ _ rfl 11 rfl rfl (fun w F=>?_)
 refine ru 19 ?_
 refine rt1 ?_
 exact Frz.fz
theorem b3R:∀ (l:List Pt) (o:List (List UInt8)) (s:List UInt8),(s∈o∨∃ x∈l,x.kind=1∧x.name=s)→s∈l.foldl b8y o
  | [],o,s,h=>by rcases h with h | ⟨x,hx,_⟩;exact h;cases hx
  | y :: l, o, s, h => by
    refine b3R l (b8y o y) s ?_
    have hsub:s∈o→s∈b8y o y:=fun h=>by unfold b8y;split;exact List.mem_append_left _ h;exact h
    rcases h with h | ⟨x,hx,hk,hn⟩
    · exact .inl (hsub h)
    · rcases List.mem_cons.1 hx with rfl | hx
      · left
        by_cases hm:x.name∈o
        · exact hsub (hn▸hm)
        · unfold b8y;rw [if_pos ⟨hk,hm⟩,←hn];exact List.mem_append_right _ (List.mem_singleton_self _)
      · exact .inr ⟨x,hx,hk,hn⟩
theorem c0p (l:List Mn) (e:List Pt):noneV (meansV l) e=noneE l e:=by
 rw [Bool.eq_iff_iff]
 unfold noneV noneE
 rw [List.any_eq_true,List.any_eq_true]
 constructor
 ·rintro ⟨s,hs,h⟩
  rcases a8p e [] s hs with h' | ⟨x,hx,hk,hn⟩
  ·cases h'
  ·exact ⟨x,hx,by rw [hn,decide_eq_true hk];simpa using h⟩
 ·rintro ⟨x,hx,h⟩
  rw [Bool.and_eq_true,decide_eq_true_eq,decide_eq_true_eq] at h
  exact ⟨x.name,b3R e [] _ (.inr ⟨x,hx,h.1,rfl⟩),by simpa using h.2⟩
theorem b8o {s:List UInt8} (hv:lexV s=.ok []) {r:List Pt×Int×Int} (h:ParseIs s r):r=([],0,0):=by
 have hC:chk ([]:List Sg) 0 0 true true=(-1,false):=by rw [a8u (l:=[]) (i:=0) lrf];rfl
 cases h with
 | err e hv'=>rw [hv] at hv';cases hv'
 | none=>rfl
 | odd l q hv' hne=>rw [hv] at hv';injection hv' with hv';exact absurd hv'.symm hne
 | end_ l hv' hne=>rw [hv] at hv';injection hv' with hv';exact absurd hv'.symm hne
 | ok l t hv' hs=>rw [hv] at hv';injection hv' with hv';subst hv';have:=a1h hs;simp at this
@[reducible] def NetP (s:List UInt8) (l:List Mn) (y:HV):Prop:=HPure Tryz.prog 16 [strV s,mnsV l] y
structure NetOk (s:List UInt8) (l:List Mn) (w:Nat) (on:List Bag) (β:Nat→Bag) (p:Pc) (e:List Pt):Prop where
 net:NetP s l (t4 (netP w on β p) (ptsV e) (intV 0) (boolV true))
 doc:HPure Tryz.prog 20 [ptsV e,mnsV l] (ndR w on β p)
 none:noneE l e=false
 w60:w≤60
 len:on.length=w
 onk:∀ i,(onF on i).ok
 bek:∀ i,(β i).ok
 pck:p.ok
 eln:e.length≤100000
 mnb:MnB l
 ptb:PtB e
 is:(e=[]∧w=0∧on=[]∧(∀ i,β i=Bag.zero)∧p=Pc.nil)∨∃ t:T,t.ok=true∧e=T.flat 0 t∧w=0+t.w∧on=(lay (meansV l) t 0).on∧β=links (fun _=>Bag.zero) (lay (meansV l) t 0).lk∧p=(lay (meansV l) t 0).pc
theorem b6i (s:List UInt8) (l:List Mn) (hs:s.length≤9223372036854775807) (a b:Int) (hp:ParseIs s ([],a,b)) (hb:b≠0):NetP s l (t4 b4P a1g (intV b) (boolV false)):=by
 refine a0k Tryz.func16 rfl kr _ _ _ rfl 63 rfl rfl (fun w F=>?_)
 refine ru 12 ?_
 refine a0n 18 (xs:=[_]) (pre:=[]) (a4A s ([],a,b) hs hp _) ⟨rfl,trivial⟩ pre0 rfl rfl (fun u c1 hu=>?_)
 (try dsimp only)
 refine ru 21 ?_
 first
 | refine stg 29 (fun hb=>a0e (xs:=[_]) (a6H l) ⟨rfl,trivial⟩ ⟨(Fz.eq rfl),trivial⟩) rfl rfl rfl rfl rfl ?_
 | refine sth 29 (fun hb=>a0e (xs:=[_]) (a6H l) ⟨rfl,trivial⟩ ⟨(Fz.eq rfl),trivial⟩) rfl rfl rfl rfl rfl ?_
 refine ru 11 ?_
 refine sth (v:=intV 0) 38 (fun hb=>by simp at hb) rfl rfl rfl rfl rfl ?_
 refine ru 5 ?_
 refine wdc (fun hr0 hc0=>?_) (fun hr0 hc0=>?_)
 ·refine ru 11 ?_
  refine a4y rfl (a0f rfl) (a0f rfl) (a0f rfl) (a0f rfl) [] rfl pre0 ?_
  exact b0H (.imm _) (.imm _) (.imm _) (.imm _)
 exfalso;simp [hb] at hr0
theorem c4y (s:List UInt8) (l:List Mn) (hs:s.length≤9223372036854775807) (hp:ParseIs s ([],0,0)) (hf:¬ (s.length≤500∧b8v l=true)):NetP s l (t4 b4P a1g (intV 0) (boolV false)):=by
 refine a0k Tryz.func16 rfl kr _ _ _ rfl 63 rfl rfl (fun w F=>?_)
 refine ru 12 ?_
 refine a0n 18 (xs:=[_]) (pre:=[]) (a4A s ([],0,0) hs hp _) ⟨rfl,trivial⟩ pre0 rfl rfl (fun u c1 hu=>?_)
 (try dsimp only)
 refine ru 21 ?_
 first
 | refine stg 29 (fun hb=>a0e (xs:=[_]) (a6H l) ⟨rfl,trivial⟩ ⟨(Fz.eq rfl),trivial⟩) rfl rfl rfl rfl rfl ?_
 | refine sth 29 (fun hb=>a0e (xs:=[_]) (a6H l) ⟨rfl,trivial⟩ ⟨(Fz.eq rfl),trivial⟩) rfl rfl rfl rfl rfl ?_
 refine ru 11 ?_
 refine sth (v:=intV 0) 38 (fun hb=>by simp at hb) rfl rfl rfl rfl rfl ?_
 refine ru 5 ?_
 refine wdc (fun hr0 hc0=>?_) (fun hr0 hc0=>?_)
 ·refine ru 11 ?_
  refine a4y rfl (a0f rfl) (a0f rfl) (a0f rfl) (a0f rfl) [] rfl pre0 ?_
  exact b0H (.imm _) (.imm _) (.imm _) (.imm _)
 exfalso;have h:=hr0;simp at h;exact hf ⟨by omega,by simpa using h.2⟩
theorem c7a (s:List UInt8) (l:List Mn) (hs:s.length≤9223372036854775807) (t:T) (hok:t.ok=true) (hB:PtB (T.flat 0 t)) (hp:ParseIs s (T.flat 0 t,0,0)) (hf:¬ (s.length≤500∧b8v l=true∧t.w≤60)):NetP s l (t4 b4P a1g (intV 0) (boolV false)):=by
 have hel:=hB.1
 have hat:AtP (T.flat 0 t) 0 (T.flat 0 t):=⟨[],[],by simp,rfl⟩
 have hsz:(T.flat 0 t).length=t.size:=T.flat_len 0 t
 have hps:=t.size_pos
 have hwm:a4i t.w≤60↔t.w≤60:=by unfold a4i;split <;> omega
 have hmn:=a9L (T.flat 0 t) hel t 0 hok hat
 generalize T.flat 0 t=e at hel hat hsz hmn hp hB
 have hel0:0 < e.length:=by omega
 refine a0k Tryz.func16 rfl kr _ _ _ rfl 63 rfl rfl (fun w F=>?_)
 refine ru 12 ?_
 refine a0n 18 (xs:=[_]) (pre:=[]) (a4A s (e,0,0) hs hp _) ⟨rfl,trivial⟩ pre0 rfl rfl (fun u c1 hu=>?_)
 (try dsimp only)
 refine ru 21 ?_
 first
 | refine stg 29 (fun hb=>a0e (xs:=[_]) (a6H l) ⟨rfl,trivial⟩ ⟨(Fz.eq rfl),trivial⟩) rfl rfl rfl rfl rfl ?_
 | refine sth 29 (fun hb=>a0e (xs:=[_]) (a6H l) ⟨rfl,trivial⟩ ⟨(Fz.eq rfl),trivial⟩) rfl rfl rfl rfl rfl ?_
 refine ru 11 ?_
 refine ry3 (intV ((0+t.size - 1:Nat):Int)) rfl rfl (fun hb hb2=>congrArg intV (by dsimp only;omega)) ?_
 first
 | refine stg 38 (fun hb=>a0e (xs:=[_,_]) (hmn) ⟨rfl,⟨rfl,trivial⟩⟩ ⟨(Fz.eq rfl),⟨(Fz.eq rfl),trivial⟩⟩) rfl rfl rfl rfl rfl ?_
 | refine a5y 43 16 38 34 false true _ _ (fun hb hb2=>a0e (xs:=[_,_]) (hmn) ⟨rfl,⟨rfl,trivial⟩⟩ ⟨(Fz.eq rfl),⟨(Fz.eq rfl),trivial⟩⟩) rfl rfl rfl rfl rfl pre0 rfl rfl rfl ?_
 | refine sth 38 (fun hb=>a0e (xs:=[_,_]) (hmn) ⟨rfl,⟨rfl,trivial⟩⟩ ⟨(Fz.eq rfl),⟨(Fz.eq rfl),trivial⟩⟩) rfl rfl rfl rfl rfl ?_
 refine ru 5 ?_
 refine wdc (fun hr0 hc0=>?_) (fun hr0 hc0=>?_)
 ·refine ru 11 ?_
  refine a4y rfl (a0f rfl) (a0f rfl) (a0f rfl) (a0f rfl) [] rfl pre0 ?_
  exact b0H (.imm _) (.imm _) (.imm _) (.imm _)
 exfalso;have h:=hc0;have h60:=h.2;rw [decide_eq_true (by omega:(0:Int) < (e.length:Int)),Bool.true_and,decide_eq_false_iff_not] at h60;exact hf ⟨by omega,h.1.2,hwm.1 om⟩
theorem c6q {sh:List (Nat×HObj)} {g ty fl:Nat} {l:List Mn} {f:Nat→Nat→HV} (ho:(3,(⟨g,1,1,ty,fl,f⟩:HObj))∈sh) (hf:f 0 0=mnsV l):Fz sh (.fn (.func 33) 1 (fun i=>[HV.pt 3 g 0 0].getD i default)) (.fn (.func 33) 1 (fun i=>[HV.fp 1 (fun _=>mnsV l)].getD i default)) :=
 .fn _ _ _ _ (fun i hi=>by
  obtain rfl:i=0:=by omega
  exact .pt 3 _ 0 0 1 _ _ ho rfl (Nat.lt_succ_self 0) lrf (fun j hj=>by
   obtain rfl:j=0:=by omega
   show Fz sh (f 0 0) (mnsV l);rw [hf];exact Frz.fz))
theorem c0X (s:List UInt8) (l:List Mn) (hs5:s.length≤500) (hF:b8v l=true) (hv:lexV s=.ok []):NetP s l (t4 (netP 0 [] (fun _=>Bag.zero) ⟨Bag.zero,Bag.zero,true⟩) (ptsV []) (intV 0) (boolV true)):=by
 have hB:=(b7g hF).1
 refine a0k Tryz.func16 rfl kr _ _ _ rfl 63 rfl rfl (fun w F=>?_)
 refine ru 12 ?_
 refine a0n 18 (xs:=[_]) (pre:=[]) (a4A s ([],0,0) om (.none hv) _) ⟨rfl,trivial⟩ pre0 rfl rfl (fun u c1 hu=>?_)
 (try dsimp only)
 refine ru 21 ?_
 first
 | refine stg 29 (fun hb=>a0e (xs:=[_]) (a6H l) ⟨rfl,trivial⟩ ⟨(Fz.eq rfl),trivial⟩) rfl rfl rfl rfl rfl ?_
 | refine sth 29 (fun hb=>a0e (xs:=[_]) (a6H l) ⟨rfl,trivial⟩ ⟨(Fz.eq rfl),trivial⟩) rfl rfl rfl rfl rfl ?_
 refine ru 11 ?_
 refine sth (v:=intV 0) 38 (fun hb=>by simp at hb) rfl rfl rfl rfl rfl ?_
 refine ru 5 ?_
 refine wdc (fun hr0 hc0=>?_) (fun hr0 hc0=>?_)
 ·skip
  exfalso;have h:=hr0;simp [hF] at h;omega
 refine ru 5 ?_
 refine a0n 50 (xs:=[_]) (pre:=[]) (b5H _ s om) ⟨rfl,trivial⟩ pre0 rfl rfl (fun r c2 hr=>?_)
 (try dsimp only)
 refine ru 10 ?_
 obtain rfl:=b8o hv hr
 refine ru 3 ?_
 refine (a1b 56 [(3,_)] rfl (a0h rfl pre0) rfl (c6q (.head _) rfl)).seq ?_
 refine s0 (a0e (xs:=[_,_]) (c7p (c3l l hB) [] ⟨Nat.zero_le _,fun i hi=>absurd hi (Nat.not_lt_zero _)⟩ _ (.nil rfl)) ⟨rfl,⟨rfl,trivial⟩⟩ ⟨(Fz.eq rfl),⟨(.fn _ _ _ _ (fun i hi=>by obtain rfl:i=0:=om;exact .fp _ _ lrf _ _ (fun j hj=>show Fz _ (mnsV l) (mnsV l) from Frz.fz))),trivial⟩⟩) ?_
 refine ru 19 ?_
 refine a4y rfl (a0f rfl) (a0f rfl) (a0f rfl) (a0f rfl) [] rfl pre0 ?_
 exact b0H (.fp _ _ lrf _ _ (fun j hj=>Frz.fz)) (show Fz _ (ptsV []) (ptsV []) from Frz.fz) (.imm _) (.imm _)
theorem b6C (s:List UInt8) (l:List Mn) (hs5:s.length≤500) (hF:b8v l=true) (lx:List Sg) (t:T) (hok:t.ok=true) (hv:lexV s=.ok lx) (hsg:Seg lx 3 0 lx.length t) (hPB:PtB (T.flat 0 t)) (hw:t.w≤60) (y:HV) (z:Int)
  (hn:NewIs (meansV l) (T.flat 0 t) (t2 y (intV z))) (hy:∀ sh,Fz sh y y):NetP s l (t4 y (ptsV (T.flat 0 t)) (intV z) (boolV true)):=by
 have hB:=(b7g hF).1
 have hel:=hPB.1
 have hat:AtP (T.flat 0 t) 0 (T.flat 0 t):=⟨[],[],by simp,rfl⟩
 have hsz:(T.flat 0 t).length=t.size:=T.flat_len 0 t
 have hps:=t.size_pos
 have hwm:a4i t.w≤60:=by unfold a4i;split <;> omega
 have hmn:=a9L (T.flat 0 t) hel t 0 hok hat
 have hpt:=fun r (h:ParseIs s r)=>b8A hv hsg h
 have hp:ParseIs s (T.flat 0 t,0,0):=.ok lx t hv hsg
 generalize T.flat 0 t=e at hel hat hsz hmn hp hpt hPB hn ⊢
 have hel0:0 < e.length:=by omega
 refine a0k Tryz.func16 rfl kr _ _ _ rfl 63 rfl rfl (fun w F=>?_)
 refine ru 12 ?_
 refine a0n 18 (xs:=[_]) (pre:=[]) (a4A s (e,0,0) om hp _) ⟨rfl,trivial⟩ pre0 rfl rfl (fun u c1 hu=>?_)
 (try dsimp only)
 refine ru 21 ?_
 first
 | refine stg 29 (fun hb=>a0e (xs:=[_]) (a6H l) ⟨rfl,trivial⟩ ⟨(Fz.eq rfl),trivial⟩) rfl rfl rfl rfl rfl ?_
 | refine sth 29 (fun hb=>a0e (xs:=[_]) (a6H l) ⟨rfl,trivial⟩ ⟨(Fz.eq rfl),trivial⟩) rfl rfl rfl rfl rfl ?_
 refine ru 11 ?_
 refine ry3 (intV ((0+t.size - 1:Nat):Int)) rfl rfl (fun hb hb2=>congrArg intV (by dsimp only;omega)) ?_
 first
 | refine stg 38 (fun hb=>a0e (xs:=[_,_]) (hmn) ⟨rfl,⟨rfl,trivial⟩⟩ ⟨(Fz.eq rfl),⟨(Fz.eq rfl),trivial⟩⟩) rfl rfl rfl rfl rfl ?_
 | refine a5y 43 16 38 34 false true _ _ (fun hb hb2=>a0e (xs:=[_,_]) (hmn) ⟨rfl,⟨rfl,trivial⟩⟩ ⟨(Fz.eq rfl),⟨(Fz.eq rfl),trivial⟩⟩) rfl rfl rfl rfl rfl pre0 rfl rfl rfl ?_
 | refine sth 38 (fun hb=>a0e (xs:=[_,_]) (hmn) ⟨rfl,⟨rfl,trivial⟩⟩ ⟨(Fz.eq rfl),⟨(Fz.eq rfl),trivial⟩⟩) rfl rfl rfl rfl rfl ?_
 refine ru 5 ?_
 refine wdc (fun hr0 hc0=>?_) (fun hr0 hc0=>?_)
 ·skip
  exfalso;have h:=hr0;simp [hF] at h;omega
 refine ru 5 ?_
 refine a0n 50 (xs:=[_]) (pre:=[]) (b5H _ s om) ⟨rfl,trivial⟩ pre0 rfl rfl (fun r c2 hr=>?_)
 (try dsimp only)
 refine ru 10 ?_
 obtain rfl:=hpt _ hr
 refine ru 3 ?_
 refine (a1b 56 [(3,_)] rfl (a0h rfl pre0) rfl (c6q (.head _) rfl)).seq ?_
 refine s0 (a0e (xs:=[_,_]) (c7p (c3l l hB) e hPB _ hn) ⟨rfl,⟨rfl,trivial⟩⟩ ⟨(Fz.eq rfl),⟨(.fn _ _ _ _ (fun i hi=>by obtain rfl:i=0:=om;exact .fp _ _ lrf _ _ (fun j hj=>show Fz _ (mnsV l) (mnsV l) from Frz.fz))),trivial⟩⟩) ?_
 refine ru 19 ?_
 refine a4y rfl (a0f rfl) (a0f rfl) (a0f rfl) (a0f rfl) [] rfl pre0 ?_
 exact b0H (hy _) (show Fz _ (ptsV e) (ptsV e) from Frz.fz) (.imm _) (.imm _)
theorem c3c (s:List UInt8) (l:List Mn) (hs:s.length≤9223372036854775807):(∃ x:Int,NetP s l (t4 b4P a1g (intV x) (boolV false)))∨(∃ e,NetP s l (t4 b4P (ptsV e) (intV 6) (boolV true))∧noneE l e=true∧e.length≤100000∧MnB l)∨∃ w on β p e,NetOk s l w on β p e:=by
  obtain ⟨r,hp⟩:=b8c s
  have hpr:=b5c hp
  cases hp with
  | err e hv=>exact .inl ⟨_,b6i s l hs _ _ (.err e hv) (a6Z hv)⟩
  | odd lx q hv hne hq hC=>exact .inl ⟨_,b6i s l hs _ _ (.odd lx q hv hne hq hC) dcd⟩
  | end_ lx hv hne hC=>exact .inl ⟨_,b6i s l hs _ _ (.end_ lx hv hne hC) dcd⟩
  | none hv =>
    by_cases h:s.length≤500∧b8v l=true
    · have hB:=(b7g h.2).1
      exact .inr (.inr ⟨0,[],fun _=>Bag.zero,Pc.nil,[],⟨c0X s l h.1 h.2 hv,c5k l,rfl,Nat.zero_le _,rfl,fun i=>Bag.zero_ok,fun i=>Bag.zero_ok,Pc.nil_ok,Nat.zero_le _,hB,⟨Nat.zero_le _,fun i hi=>absurd hi (Nat.not_lt_zero _)⟩,.inl ⟨rfl,rfl,rfl,fun _=>rfl,rfl⟩⟩⟩)
    · exact .inl ⟨_,c4y s l hs (.none hv) h⟩
  | ok lx t hv hsg =>
    have hok:=c5y (b3B hv) hsg
    have hPB:=hpr.1
    by_cases h:s.length≤500∧b8v l=true∧t.w≤60
    · have hB:=(b7g h.2.1).1
      have hR:rightV (T.flat 0 t)=true:=a5b hok
      have hmo:=a4r l
      cases hn:noneE l (T.flat 0 t) with
      | true=>exact .inr (.inl ⟨_,b6C s l h.1 h.2.1 lx t hok hv hsg hPB h.2.2 _ _ (.none hR (by rw [c0p];exact hn)) (fun sh=>.imm _),hn,hPB.1,hB⟩)
      | false =>
        have hly:=a4l hmo t 0 omo
        refine .inr (.inr ⟨0+t.w,_,_,_,_,⟨b6C s l h.1 h.2.1 lx t hok hv hsg hPB h.2.2 (treeNet (meansV l) t) 0 (.fine t hok rfl (by rw [c0p];exact hn) omo) (fun sh=>.fp _ _ lrf _ _ (fun j hj=>Frz.fz)),c4F l hB t hok hPB.1 omo,hn,by omega,?_,?_,?_,hly.pc,hPB.1,hB,hPB,.inr ⟨t,hok,rfl,rfl,rfl,rfl,rfl⟩⟩⟩)
        · rw [Nat.zero_add];exact hly.len
        · intro i
          show ((lay (meansV l) t 0).on.getD i Bag.zero).ok
          by_cases hi:i < (lay (meansV l) t 0).on.length
          · rw [List.getD_eq_getElem?_getD,List.getElem?_eq_getElem hi];exact hly.on _ (List.getElem_mem hi)
          · rw [List.getD_eq_getElem?_getD,List.getElem?_eq_none omo];exact Bag.zero_ok
        · exact a1i hly.lk (fun _=>Bag.zero_ok)
    · exact .inl ⟨_,c7a s l hs t hok hPB (.ok lx t hv hsg) h⟩
@[reducible] def d3j (b:Bag):Value:=.agg b.cells.toArray
theorem c5A:KeyOk Tryz.prog 94 Bag d3j (.int .i64 0) :=
 b3e (et:=3) krf Tryz.underlying72 (fun w=>by kernel_rfl) (fun b a w=>by obtain ⟨x,y,z,u⟩:=a;kernel_rfl) (fun p q w=>b0o w p q (Op.maxDepth - 3)) (fun a=>by simp [Instr.sameBits,Bag.cells])
theorem b4k {b:Bag} {f:Nat→HV} (hf:∀ j,j < 4→f j=a3s b j):c3k (.agg 4 f) (d3j b):=fun w E u h=>a7j hf h
def kn:List Bag→Nat→List (Bag×Value)
 | [],_=>[]
 | b::r,i=>(b,.int .i64 (i:Int))::kn r (i+1)
@[reducible] def knS (S:List Bag):List (Bag×Value):=kn (S.drop 1) 1
theorem b5m (b:Bag):∀ (l:List Bag) (i k:Nat),(mfind b (kn l i) k).map (·.2)=(ixA b l i).map (fun n=>Value.int .i64 (n:Int))
  | [],i,k=>rfl
  | x :: r, i, k => by
    show (if b=x then some (k,Value.int .i64 (i:Int)) else mfind b (kn r (i+1)) (k+1)).map (·.2)=(if x=b then some i else ixA b r (i+1)).map (fun n=>Value.int .i64 (n:Int))
    by_cases e:x=b
    · rw [if_pos e,if_pos e.symm];rfl
    · rw [if_neg e,if_neg (fun h=>e h.symm)];exact b5m b r (i+1) (k+1)
theorem c3i (b:Bag):∀ (l:List Bag) (i:Nat),kn (l++[b]) i=kn l i++[(b,.int .i64 ((i+l.length:Nat):Int))]
  | [],i=>rfl
  | x :: r, i => by
    show (x,_)::kn (r++[b]) (i+1)=(x,_)::(kn r (i+1)++_)
    rw [c3i b r (i+1),show i+1+r.length=i+(x::r).length by simp;omega]
theorem c6R (S:List Bag) (b:Bag):c9N (knS S) b=(idA S b).map (fun n=>Value.int .i64 (n:Int)):=b5m b _ _ _
theorem c7i {S:List Bag} {b:Bag} (hS:0 < S.length) (h:idA S b=none):d0h (knS S) b (.int .i64 (S.length:Int))=knS (S++[b]):=by
 have h1:=b5m b (S.drop 1) 1 0
 rw [show ixA b (S.drop 1) 1=none from h] at h1
 have h2:mfind b (knS S) 0=none:=by
  cases hm:mfind b (knS S) 0 with
  | none=>rfl
  | some p=>rw [show mfind b (kn (S.drop 1) 1) 0=some p from hm] at h1;cases h1
 unfold d0h;rw [h2]
 show knS S++_=kn ((S++[b]).drop 1) 1
 rw [List.drop_append_of_le_length omo,c3i,List.length_drop,show 1+(S.length - 1)=S.length by omega]
theorem d2j {S:List Bag} {s:Bag} (h:s=Bag.zero):a4B Bag.zero S s=(S,-1):=by unfold a4B;rw [if_pos h]
theorem c4k {S:List Bag} {s:Bag} {n:Nat} (h:s≠Bag.zero) (hn:idA S s=some n):a4B Bag.zero S s=(S,(n:Int)):=by unfold a4B;rw [if_neg h,hn]
theorem c4t {S:List Bag} {s:Bag} (h:s≠Bag.zero) (hn:idA S s=none):a4B Bag.zero S s=(S++[s],(S.length:Int)):=by unfold a4B;rw [if_neg h,hn]
def b9a (E:Bag) (S:List Bag) (A:List Bool) (s:Bag):List Bool:=if s=Bag.zero then A else match idA S s with
 | some _=>A
 | none=>A++[decide (s.mix a7P E 4≠Bag.zero)]
theorem c3D {E:Bag} {S:List Bag} {A:List Bool} {s:Bag} (h:A.length=S.length):(b9a E S A s).length=(a4B Bag.zero S s).1.length:=by
  unfold b9a a4B
  split
  · exact h
  · cases idA S s with
    | some n=>exact h
    | none=>simp [h]
@[reducible] def mkF (N:HV) (g2 g3 n g5:Nat):Nat→HV:=fun j=>match j with
 | 0=>N
 | 1=>.pt 9002 g2 0 0
 | 2=>.os 9003 g3 0 n
 | _=>.mp 9005 g5
@[reducible] def mkO (g:Nat) (N:HV) (g2 g3 n g5:Nat):HObj:=⟨g,1,4,96,0,fun _=>mkF N g2 g3 n g5⟩
@[reducible] def tbO (g g4 n:Nat):HObj:=⟨g,1,1,85,0,fun _ _=>.os 9004 g4 0 n⟩
@[reducible] def seO (g:Nat) (S:List Bag):HObj:=⟨g,S.length,4,72,0,fun i j=>a7L ((S.getD i Bag.zero).word j)⟩
@[reducible] def stO (g n:Nat) (R:List (List Int)) (A:List Bool):HObj:=⟨g,n,33,82,0,tbF R A⟩
@[reducible] def knO (g:Nat) (S:List Bag):HObj:=b5z g (encL d3j (knS S))
section
variable {kp sh:List (Nat×HObj)}
theorem b2J {g:Nat} {l l':List (Value×Value)} (h:l=l':=by rfl):OKz kp sh (b5z g l) (b5z g l'):=by subst h;exact ⟨rfl,rfl,rfl,rfl,Nat.le_refl _,fun i j hi=>absurd hi (Nat.not_lt_zero _),fun _=>rfl⟩
theorem b8d {g g2 g3 n n' g5:Nat} {N:HV} {F:Nat→Nat→HV} {o2 o3 o5:HObj} (h0:F 0 0=N) (h1:F 0 1=.pt 9002 g2 0 0) (h2:F 0 2=.os 9003 g3 0 n) (h3:F 0 3=.mp 9005 g5) (hN:∀ sh,Fz sh N N) (hn:n=n') (k2:hget kp 9002=some o2) (e2:o2.g=g2) (k3:hget kp 9003=some o3) (e3:o3.g=g3) (k5:hget kp 9005=some o5) (e5:o5.g=g5):OKz kp sh ⟨g,1,4,96,0,F⟩ (mkO g N g2 g3 n' g5):=by
 subst hn
 exact d2n (by rw [h0];exact .fz _ _ (hN _)) (by rw [h1];exact .pt _ _ _ _ _ k2 e2) (by rw [h2];exact .os _ _ _ _ _ k3 e3) (by rw [h3];exact .mp _ _ _ k5 e5)
theorem b6T {g g4 n n':Nat} {F:Nat→Nat→HV} {o4:HObj} (h0:F 0 0=.os 9004 g4 0 n) (hn:n=n') (k4:hget kp 9004=some o4) (e4:o4.g=g4):OKz kp sh ⟨g,1,1,85,0,F⟩ (tbO g g4 n'):=by
 subst hn
 exact c9Q (by rw [h0];exact .os _ _ _ _ _ k4 e4)
theorem a2K {g n n' sz ty:Nat} {f f':Nat→Nat→HV} (hn:n=n') (h:∀ i j,i < n→j < sz→Fz sh (f i j) (f' i j)):OKz kp sh ⟨g,n,sz,ty,0,f⟩ ⟨g,n',sz,ty,0,f'⟩:=by
 subst hn;exact .of fun i j hi hj=>.fz _ _ (h i j hi hj)
end
theorem c6A {sh:List (Nat×HObj)} {a b:Nat} (h:a=b):Fz sh (a7L a) (a7L b):=by subst h;exact .imm _
theorem d0Z {zs:List Value} {x:HV} {w:Nat} (hw:w=1) (hz:zs=List.replicate 32 (Value.int .i64 0)++[Value.bool false]):(∀ j,j < 32→bld [(32,w,x)] (fun j=>.imm (zs.getD j undef)) j=intV 0):=fun j hj=>by
 subst hz;subst hw
 show (match inr 32 1 j with | true=>x.cell (j - 32) | false=>HV.imm ((List.replicate 32 (Value.int .i64 0)++[Value.bool false]).getD j undef))=_
 rw [show inr 32 1 j=false from by rw [←Bool.not_eq_true,b6u];omega]
 rw [List.getD_eq_getElem?_getD,List.getElem?_append_left (by simpa using hj),List.getElem?_replicate,if_pos hj];rfl
theorem c8J {sh:List (Nat×HObj)} {S:List Bag} {s:Bag} {f:Nat→HV} (hf:∀ j,j < 4→f j=a3s s j):∀ i j,i < S.length+1→j < 4→Fz sh (cat S.length (fun i j=>a7L ((S.getD i Bag.zero).word j)) (bsf [.agg 4 f]) i j) (a7L (((S++[s]).getD i Bag.zero).word j)):=fun i j hi hj=>by
 by_cases h:i < S.length
 ·rw [a6B h];exact c6A (by rw [List.getD_eq_getElem?_getD,List.getD_eq_getElem?_getD,List.getElem?_append_left h])
 ·obtain rfl:i=S.length:=by omega
  rw [a5O omo,Nat.sub_self]
  show Fz sh (f j) _
  rw [hf j hj];exact c6A (by rw [List.getD_eq_getElem?_getD,List.getElem?_append_right omo,Nat.sub_self];rfl)
theorem c9d {sh:List (Nat×HObj)} {R:List (List Int)} {A:List Bool} {n:Nat} {b:Bool} {f:Nat→HV} (hA:A.length=n) (hR:R.length≤n) (h0:∀ j,j < 32→f j=intV 0) (h1:f 32=boolV b):∀ i j,i < n+1→j < 33→Fz sh (cat n (tbF R A) (bsf [.agg 33 f]) i j) (tbF R (A++[b]) i j):=fun i j hi hj=>by
 by_cases h:i < n
 ·rw [a6B h]
  by_cases hj2:j < 32
  ·rw [a2D hj2,a2D hj2];exact .imm _
  ·obtain rfl:j=32:=by omega
   rw [b5S,b5S]
   rw [show (A++[b]).getD i false=A.getD i false by rw [List.getD_eq_getElem?_getD,List.getD_eq_getElem?_getD,List.getElem?_append_left omo]];exact .imm _
 ·obtain rfl:i=n:=by omega
  rw [a5O omo,Nat.sub_self]
  show Fz sh (f j) _
  by_cases hj2:j < 32
  ·rw [h0 j hj2,a2D hj2,show R.getD i []=[] by rw [List.getD_eq_getElem?_getD,List.getElem?_eq_none omo];rfl];exact .imm _
  ·obtain rfl:j=32:=by omega
   rw [h1,b5S,show (A++[b]).getD i false=b by rw [List.getD_eq_getElem?_getD,List.getElem?_append_right omo,hA,Nat.sub_self];rfl];exact .imm _
theorem d0d (S:List Bag) (s:Bag):lkV true (c9N (knS S) s) (.int .i64 0)=t2 (intV ((idA S s).getD 0:Nat)) (boolV (idA S s).isSome):=by
 rw [c6R];cases idA S s <;> rfl
theorem d0f (c g1 g2 g3 g4 g5:Nat) (wd:Nat) (on:List Bag) (β:Nat→Bag) (p:Pc) (hpk:p.ok) (S:List Bag) (A:List Bool) (R:List (List Int)) (s:Bag) (hs:s.ok) (hS:0 < S.length∧S.length≤1000) (hA:A.length=S.length) (hR:R.length≤S.length):a2y Tryz.prog 66 c [.pt 9001 g1 0 0,bagH s] [(9001,mkO g1 (netP wd on β p) g2 g3 S.length g5),(9002,tbO g2 g4 S.length),(9003,seO g3 S),(9004,stO g4 S.length R A),(9005,knO g5 S)] (a4Q (fun (_:Nat×Nat) _=>True) (fun _=>intV (a4B Bag.zero S s).2) (fun q=>[(9001,mkO g1 (netP wd on β p) g2 q.1 (a4B Bag.zero S s).1.length g5),(9002,tbO g2 q.2 (a4B Bag.zero S s).1.length),(9003,seO q.1 (a4B Bag.zero S s).1),(9004,stO q.2 (a4B Bag.zero S s).1.length R (b9a p.ends S A s)),(9005,knO g5 (a4B Bag.zero S s).1)])):=by
 have hN:∀ sh,Fz sh (netP wd on β p) (netP wd on β p):=fun sh=>Frz.fz
 refine a0p Tryz.func66 rfl kr _ _ _ _ rfl 72 rfl rfl (fun X ok hX=>?_)
 refine ru 11 ?_
 refine s0 (b0u s Bag.zero rfl rfl rfl (by exact j4 rfl rfl rfl rfl) (by exact j4 rfl rfl rfl rfl)) ?_
 refine ru 2 ?_
 refine wdc (fun hr0 hc0=>?_) (fun hr0 hc0=>?_)
 ·skip
  have hP:=d2j (S:=S) (show s=Bag.zero by simpa using hr0);have hB:b9a p.ends S A s=A:=(by unfold b9a;rw [if_pos (by simpa using hr0)])
  refine ru 7 ?_
  refine fr1 ok hX rw1 ((g3,g4)) (trivial) ((by rw [hP];exact kza)) ?_
  exact ⟨⟨_,rfl,(by rw [hP];exact b8d rfl rfl rfl rfl hN rfl rfl rfl rfl rfl rfl rfl)⟩,⟨⟨_,rfl,(by rw [hP];exact b6T rfl rfl rfl rfl)⟩,⟨⟨_,rfl,(by rw [hP];exact a2K rfl fun _ _ _ _=>.imm _)⟩,⟨⟨_,rfl,(by rw [hP,hB];exact a2K rfl fun _ _ _ _=>b4o _ _ _ _)⟩,⟨⟨_,rfl,(by rw [hP];exact b2J)⟩,trivial⟩⟩⟩⟩⟩
 have hz:s≠Bag.zero:=(by simpa using hr0)
 refine ru 10 ?_
 refine a3d 16 (HOp.val (v':=t2 (intV ((idA S s).getD 0:Nat)) (boolV (idA S s).isSome)) (b8M c5A (l:=knS S) (a:=s) rfl rfl (b4k (by exact j4 rfl rfl rfl rfl))) (d0d S s)) rfl rfl (a0L rfl) rfl rfl (k':=6) rfl ?_
 refine ru 12 ?_
 refine wdc (fun hr1 hc1=>?_) (fun hr1 hc1=>?_)
 ·skip
  obtain ⟨m,hm⟩:=Option.isSome_iff_exists.1 (show (idA S s).isSome=true from hr1);have hP:=c4k hz hm;have hB:b9a p.ends S A s=A:=(by unfold b9a;rw [if_neg hz,hm])
  refine ru 8 ?_
  refine fr1 ok hX rw1 ((g3,g4)) (trivial) ((by rw [hP,hm];exact kza)) ?_
  exact ⟨⟨_,rfl,(by rw [hP];exact b8d rfl rfl rfl rfl hN rfl rfl rfl rfl rfl rfl rfl)⟩,⟨⟨_,rfl,(by rw [hP];exact b6T rfl rfl rfl rfl)⟩,⟨⟨_,rfl,(by rw [hP];exact a2K rfl fun _ _ _ _=>.imm _)⟩,⟨⟨_,rfl,(by rw [hP,hB];exact a2K rfl fun _ _ _ _=>b4o _ _ _ _)⟩,⟨⟨_,rfl,(by rw [hP];exact b2J)⟩,trivial⟩⟩⟩⟩⟩
 have hm:idA S s=none:=(by have h9:(idA S s).isSome=false:=hr1;cases h8:idA S s with | none=>rfl | some q=>rw [h8] at h9;cases h9);have hP:=c4t hz hm;have hB:b9a p.ends S A s=A++[decide (s.mix a7P p.ends 4≠Bag.zero)]:=(by unfold b9a;rw [if_neg hz,hm])
 refine ru 14 ?_
 refine c8h (b1U c5A (l:=knS S) (a:=s) (v:=.int .i64 (S.length:Int)) rfl rfl (b4k (by exact j4 rfl rfl rfl rfl)) rfl) rfl rfl (a0L rfl) (k':=11) rfl ?_
 refine ru 10 ?_
 refine a2x 37 (a0d (id:=37) (hs:=[_]) ei_93.h omx rfl omx ⟨rfl,rfl,rfl,rfl,trivial⟩) rfl rfl pre0 rfl rfl (k':=7) rfl ?_
 first
 | refine a2x 38 (a0a ei_93.h omy rfl omy omy (a0D rfl omy) omy rfl) rfl rfl (a0h rfl (a0L rfl)) rfl rfl (k':=8) rfl ?_
 | refine a2x 38 (a0a ei_93.h omy rfl omy omy (a1a rfl omy) omy rfl) rfl rfl (a0h rfl (a0L rfl)) rfl rfl (k':=8) rfl ?_
 | refine a2x 38 (a0a ei_93.h omy rfl omy omy (a0Y rfl) omy rfl) rfl rfl (a0h rfl pre0) rfl rfl (k':=8) rfl ?_
 | refine a2x 38 (a0a ei_93.h omy rfl omy omy (a0G 4 (fun _ _=>default) rfl) omy rfl) rfl rfl (a0h rfl pre0) rfl rfl (k':=8) rfl ?_
 refine ru 23 ?_
 refine clx (c8S wd on β p) ?_
 refine d0 18 (a0e (xs:=[_,_]) (d3i s p.ends hs hpk.2) ⟨rfl,⟨rfl,trivial⟩⟩ ⟨(a2o (by exact j4 rfl rfl rfl rfl)),⟨(a2o (by exact j4 rfl rfl rfl rfl)),trivial⟩⟩) ?_
 refine ru 1 ?_
 refine d0 20 (b6a (s.mix a7P p.ends 4) Bag.zero rfl rfl rfl (by exact j4 rfl rfl rfl rfl) (by exact j4 rfl rfl rfl rfl)) ?_
 refine ru 1 ?_
 refine a2x 62 (a0d (id:=62) (hs:=[_]) ei_83.h omx rfl omx ⟨rfl,rfl,rfl,rfl,trivial⟩) rfl rfl pre0 rfl rfl (k':=22) rfl ?_
 first
 | refine a2x 63 (a0a ei_83.h omy rfl omy omy (a0D rfl omy) omy rfl) rfl rfl (a0h rfl (a0L rfl)) rfl rfl (k':=23) rfl ?_
 | refine a2x 63 (a0a ei_83.h omy rfl omy omy (a1a rfl omy) omy rfl) rfl rfl (a0h rfl (a0L rfl)) rfl rfl (k':=23) rfl ?_
 | refine a2x 63 (a0a ei_83.h omy rfl omy omy (a0Y rfl) omy rfl) rfl rfl (a0h rfl pre0) rfl rfl (k':=23) rfl ?_
 | refine a2x 63 (a0a ei_83.h omy rfl omy omy (a0G 33 (fun _ _=>default) rfl) omy rfl) rfl rfl (a0h rfl pre0) rfl rfl (k':=23) rfl ?_
 refine ru 17 ?_
 refine fr1 ok hX rw1 ((c+23+7,c+34+22)) (trivial) ((by rw [hP];exact a7F sml)) ?_
 exact ⟨⟨_,rfl,(by rw [hP];exact b8d rfl rfl rfl rfl hN sml rfl rfl rfl rfl rfl rfl)⟩,⟨⟨_,rfl,(by rw [hP];exact b6T rfl sml rfl rfl)⟩,⟨⟨_,rfl,(by rw [hP];exact a2K sml (c8J (by exact j4 rfl rfl rfl rfl)))⟩,⟨⟨_,rfl,(by rw [hP,hB];exact a2K sml (c9d hA hR (d0Z rfl rfl) (show boolV (!decide (s.mix a7P p.ends 4=Bag.zero))=_ from congrArg boolV sml)))⟩,⟨⟨_,rfl,(by rw [hP];exact b2J (by rw [c7i hS.1 hm]))⟩,trivial⟩⟩⟩⟩⟩
def d3G (P:Program) (T:TypeId):Option (Nat×Nat):=match P.underlying T with
  | some (.array len e) => match tyOf P e with
    | some (true,s)=>some (len,s)
    | _=>none
  | _=>none
section
variable {P:Program} {ov:Nat→Option HV} {g:Nat} {d:Option Tmp} {ty T:TypeId} {pos:String} {af:Array Edge} {x y:Operand} {gd:Option (Nat×Bool)}
theorem b5y {n s len:Nat} {f:Nat→HV} {k:IntKind} {i:Int} (hT:d3G P T=some (len,s)) (h1:ovl ov x=some (.agg n f)) (h2:ovl ov y=some (.imm (.int k i))) (hi0:0≤i) (hi:i < (len:Int)) (hn:len * s≤n) :
    HOp P ⟨d,.index T x y,ty,pos,af,gd⟩ ov g [] (.agg s (fun j=>f (i.toNat * s+j))) [] :=
  a0t fun w E ρ hr=>by
    have e1:=hr x _ smo h1
    have e2:=Rep.imm_inv (hr y _ smo h2)
    unfold d3G at hT
    split at hT
    · rename_i len' e hu
      split at hT
      · rename_i s' ht
        injection hT with hT
        injection hT with hT1 hT2
        subst hT1;subst hT2
        generalize hv:ρ x=v at e1
        cases e1 with
        | agg cs _ _ vs hn' hc hrep =>
          have hb:i.toNat * s'+s'≤cs.size:=by
            have:(i.toNat+1) * s'≤len' * s':=Nat.mul_le_mul_right _ omo
            rw [Nat.add_mul] at this;omega
          refine ⟨.agg (cs.extract (i.toNat * s') (i.toNat * s'+s')),?_,?_⟩
          · simp [execOp,hv,e2,Instr.index,asIntOf,run_underlying hu,hi0,hi,part,(a3f ht).1,(a3f ht).2.1]
          · refine .agg _ s' _ (fun j=>vs (i.toNat * s'+j)) (by simp;omega) (fun j hj=>?_) (fun j hj=>hrep _ omo)
            have:=hc (i.toNat * s'+j) omo
            refine ⟨?_,this.2⟩
            rw [Array.getElem?_extract,if_pos omo]
            exact this.1
      · cases hT
    · cases hT
end
def b2P (l:List Int) (B:Nat→Bag) (p:Int):Nat→Nat→Bag
 | 0=>B
 | k+1=>fun s=>if l.getD k 0=(s:Int)∧s < 32 then (b2P l B p k s).with_ p else b2P l B p k s
def b9r (L:List Int) (O:Int→Bag):Nat→Nat→Bag
 | 0=>fun _=>Bag.zero
 | k+1=>b2P (O (L.getD k 0)).list (b9r L O k) (L.getD k 0) (O (L.getD k 0)).list.length
theorem b2U {l:List Int} {B:Nat→Bag} {p:Int} (h:∀ s,(B s).ok):∀ k s,(b2P l B p k s).ok
  | 0,s=>h s
  | k + 1, s => by
    unfold b2P
    split
    · exact Bag.with_ok _ (b2U h k s) _
    · exact b2U h k s
theorem a5E (L:List Int) (O:Int→Bag):∀ k s,(b9r L O k s).ok
 | 0,s=>Bag.zero_ok
 | k+1,s=>b2U (a5E L O k) _ s
theorem c5O (n:Nat) (f:Nat→HV) (off:Nat):ldv true n f off=.agg n (fun j=>f (off+j)):=by
 cases off with
 | zero=>show HV.agg n f=_;congr 1;funext j;rw [Nat.zero_add]
 | succ k=>rfl
@[reducible] def byF (B:Nat→Bag):Nat→Nat→HV:=fun _ j=>a7L ((B (j / 4)).word (j % 4))
@[reducible] def byO (g:Nat) (B:Nat→Bag):HObj:=⟨g,1,128,151,0,byF B⟩
theorem c6c {B:Nat→Bag} {s:Nat}:∀ j,j < 4→byF B 0 (s * 4+j)=a3s (B s) j:=fun j hj=>by
 show a7L _=a7L _
 rw [show (s * 4+j) / 4=s by omega,show (s * 4+j) % 4=j by omega]
theorem c8j {B B':Nat→Bag} {s:Nat} {x:Bag} (hs:s < 32) (h1:B' s=x) (h2:∀ t,t≠s→t < 32→B' t=B t):∀ i j,i < 1→j < 128→upd (byF B) 0 (0+s * 4) 4 (bagH x).cell i j=byF B' i j:=fun i j hi hj=>by
 obtain rfl:i=0:=by omega
 by_cases h:s * 4≤j∧j < s * 4+4
 ·rw [a4t ⟨rfl,by omega,by omega⟩]
  show a7L (x.word (j - (0+s * 4)))=a7L _
  rw [show j / 4=s by omega,h1,show j - (0+s * 4)=j % 4 by omega]
 ·rw [a1G omo]
  show a7L _=a7L _
  rw [h2 (j / 4) omo omo]
theorem c7E (g:Nat) (cs:List Value) (hcs:cs=List.replicate 128 (.int .u64 0)):a2m ⟨g,1,128,151,0,fun _ j=>.imm (cs.getD j undef)⟩ (byO g (fun _=>Bag.zero)):=.of fun i j hi hj=>by
 subst hcs
 have e:(List.replicate 128 (Value.int .u64 0)).getD j undef=.int .u64 0:=by rw [List.getD_eq_getElem?_getD,List.getElem?_replicate,if_pos hj];rfl
 show Sb (.imm ((List.replicate 128 (Value.int .u64 0)).getD j undef)) (a7L (Bag.zero.word (j % 4)))
 rw [e]
 have:Bag.zero.word (j % 4)=0:=by
  have:=Nat.mod_lt j (show 0 < 4 by decide)
  generalize j % 4=m at this
  match m,this with | 0,_=>rfl | 1,_=>rfl | 2,_=>rfl | 3,_=>rfl
 rw [this];exact .refl _
def c5F (E:Bag) (g:Nat→Bag) (S:List Bag) (A:List Bool):Nat→List Bool
 | 0=>A
 | k+1=>b9a E (a1B Bag.zero g S k).1 (c5F E g S A k) (g k)
theorem b6R {E:Bag} {g:Nat→Bag} {S:List Bag} {A:List Bool} (h:A.length=S.length):∀ k,(c5F E g S A k).length=(a1B Bag.zero g S k).1.length
 | 0=>h
 | k+1=>c3D (b6R h k)
theorem b8Y {α:Type} {l k:List α} {i:Nat} {d:α} (h:i < l.length):(l++k).getD i d=l.getD i d:=by rw [List.getD_eq_getElem?_getD,List.getD_eq_getElem?_getD,List.getElem?_append_left h]
theorem b8J {α:Type} {l:List α} {x d:α} {i:Nat} (h:i=l.length):(l++[x]).getD i d=x:=by subst h;rw [List.getD_eq_getElem?_getD,List.getElem?_append_right lrf,Nat.sub_self];rfl
theorem b1V {α:Type} {l:List α} {i:Nat} {d:α} (h:l.length≤i):l.getD i d=d:=by rw [List.getD_eq_getElem?_getD,List.getElem?_eq_none h];rfl
theorem c9U {R:List (List Int)} {A:List Bool} {r:List Int} {at_ off n:Nat} {x:Int} (hR:R.length=at_) (ho:r.length=off) (hr:r.length < 32):∀ i j,i < n→j < 33→upd (tbF (R++[r]) A) at_ off 1 (fun j=>(intV x).cell j) i j=tbF (R++[r++[x]]) A i j:=fun i j hi hj=>by
 subst ho
 by_cases h:i=at_∧j=r.length
 ·obtain ⟨rfl,rfl⟩:=h
  rw [a4t ⟨rfl,by omega,by omega⟩,a2D hr,b8J hR.symm,b8J rfl]
  rfl
 ·rw [a1G omo]
  by_cases hj2:j < 32
  ·rw [a2D hj2,a2D hj2]
   congr 1
   by_cases hi2:i < R.length
   ·rw [b8Y hi2,b8Y hi2]
   ·by_cases hi3:i=R.length
    ·rw [b8J hi3,b8J hi3]
     by_cases hj3:j < r.length
     ·rw [b8Y hj3]
     ·rw [b1V (l:=r) omo,b1V (l:=r++[x]) (by simp;omega)]
    ·rw [b1V (l:=R++[r]) (by simp;omega),b1V (l:=R++[r++[x]]) (by simp;omega)]
  ·obtain rfl:j=32:=by omega
   rfl
theorem d0c {R:List (List Int)} {A:List Bool} (i j:Nat):tbF R A i j=tbF (R++[[]]) A i j:=by
 by_cases hj:j < 32
 ·rw [a2D hj,a2D hj]
  congr 1
  by_cases hi2:i < R.length
  ·rw [b8Y hi2]
  ·by_cases hi3:i=R.length
   ·rw [b8J hi3,b1V (l:=R) omo]
   ·rw [b1V (l:=R) omo,b1V (l:=R++[[]]) (by simp;omega)]
 ·unfold tbF;rw [show Nat.blt j 32=false from by rw [←Bool.not_eq_true,Nat.blt_eq];omega]
theorem b9H {g n n':Nat} {F:Nat→Nat→HV} {R:List (List Int)} {A:List Bool} (hn:n=n') (h:∀ i j,i < n→j < 33→F i j=tbF R A i j):a2m ⟨g,n,33,82,0,F⟩ (stO g n' R A):=by
 subst hn;exact .of fun i j hi hj=>by rw [h i j hi hj];exact .refl _
@[reducible] def onI (wd:Nat) (on:List Bag) (i:Int):Bag:=if 0≤i∧i < (wd:Int) then onF on i.toNat else Bag.zero
theorem d0b {wd:Nat} {on:List Bag} (h:∀ i,(onF on i).ok) (i:Int):(onI wd on i).ok:=by unfold onI;split;exact h _;exact Bag.zero_ok
theorem c9F {l:List Int} {B:Nat→Bag} {p:Int} {k s:Nat} (h:l.getD k 0=(s:Int)) (hs:s < 32):b2P l B p (k+1) s=(b2P l B p k s).with_ p∧∀ t,t≠s→t < 32→b2P l B p (k+1) t=b2P l B p k t :=
 ⟨by show (if _ then _ else _)=_;rw [if_pos ⟨h,hs⟩],fun t ht _=>by show (if _ then _ else _)=_;rw [if_neg (fun e=>ht (by have:=e.1;rw [h] at this;omega))]⟩
theorem c6Q {l:List Int} {B:Nat→Bag} {p:Int} {k:Nat} (h:¬ (l.getD k 0 < 32)):b2P l B p (k+1)=b2P l B p k:=by
 funext t;show (if _ then _ else _)=_;rw [if_neg (fun e=>h (by rw [e.1];omega))]
@[reducible] def a1I (wd:Nat) (on:List Bag) (may:Bag):Nat→Bag:=b9r may.list (onI wd on) may.list.length
theorem c6I (c0 g1 g2 g3 g4 g5:Nat) (wd:Nat) (hw:wd≤1000) (on:List Bag) (hon:∀ i,(onF on i).ok) (β:Nat→Bag) (p:Pc) (hpk:p.ok) (S:List Bag) (A:List Bool) (R:List (List Int)) (may:Bag) (hm:may.ok) (hS:R.length < S.length∧S.length≤300) (hA:A.length=S.length) :
  a2y Tryz.prog 36 c0 [.pt 9001 g1 0 0,intV (R.length:Int),bagH may] [(9001,mkO g1 (netP wd on β p) g2 g3 S.length g5),(9002,tbO g2 g4 S.length),(9003,seO g3 S),(9004,stO g4 S.length R A),(9005,knO g5 S)] (a4Q (fun (_:Nat×Nat) _=>True) (fun _=>.tup 0 fun _=>default) (fun q=>[(9001,mkO g1 (netP wd on β p) g2 q.1 (a1B Bag.zero (a1I wd on may) S 32).1.length g5),(9002,tbO g2 q.2 (a1B Bag.zero (a1I wd on may) S 32).1.length),(9003,seO q.1 (a1B Bag.zero (a1I wd on may) S 32).1),(9004,stO q.2 (a1B Bag.zero (a1I wd on may) S 32).1.length (R++[(a1B Bag.zero (a1I wd on may) S 32).2]) (c5F p.ends (a1I wd on may) S A 32)),(9005,knO g5 (a1B Bag.zero (a1I wd on may) S 32).1)])):=by
 have hN:∀ sh,Fz sh (netP wd on β p) (netP wd on β p):=fun sh=>Frz.fz
 have hS0:0 < S.length:=by omega
 refine a9h Tryz.func36 rfl kr _ _ _ _ rfl 54 rfl rfl (fun X ok hX hM=>?_)
 refine ru 15 ?_
 refine cll (c2H may) ?_
 refine ru 3 ?_
 refine a7M (α:=Nat) ⟨rfl,rfl,rfl⟩ (b4l may hm) rfl (cs:=[_]) rfl (fun i hi=>by first | rfl | (cases i <;> first | rfl | (simp at hi))) ⟨(Fz.eq rfl),trivial⟩ rfl (fun _=>rfl) rfl (fun x=>[(9001,mkO g1 (netP wd on β p) g2 g3 S.length g5),(9002,tbO g2 g4 S.length),(9003,seO g3 S),(9004,stO g4 S.length R A),(9005,knO g5 S),(3,⟨c0,1,1,92,0,fun _ _=>.pt 9001 g1 0 0⟩),(6,byO (c0+2) (b9r may.list (onI wd on) x))]) (fun x=>x) (fun x=>x≤may.list.length) (0) om (by first | rfl | omega) (hsr rfl (hsr rfl (hsr rfl (hsr rfl (hsr rfl (hsr rfl (a0g.cons rfl (c7E _ _ rfl) a0g.nil))))))) rfl (fun i c hx hi C1 lr hC1 NhR1 hR1=>?_) (fun i c hx hi=>?_)
 ·skip
  (try dsimp only at hx hi hR1 ⊢)
  have hpo:=a5E may.list (onI wd on)
  refine ru 4 ?_
  refine hR1 _ (fun C2 hC2=>?_)
  refine ru 8 ?_
  refine clx (d2U wd on β p _ hw) ?_
  refine clx (c2H (onI wd on (may.list.getD i 0))) ?_
  refine ru 3 ?_
  refine c1s (α:=Nat) hC2 (b4l (onI wd on (may.list.getD i 0)) (d0b hon _)) rfl (cs:=[_]) rfl (fun i hi=>by first | rfl | (cases i <;> first | rfl | (simp at hi))) ⟨(Fz.eq rfl),trivial⟩ rfl (fun _=>rfl) rfl (fun x=>[(9001,mkO g1 (netP wd on β p) g2 g3 S.length g5),(9002,tbO g2 g4 S.length),(9003,seO g3 S),(9004,stO g4 S.length R A),(9005,knO g5 S),(3,⟨c0,1,1,92,0,fun _ _=>.pt 9001 g1 0 0⟩),(6,byO (c0+2) (b2P (onI wd on (may.list.getD i 0)).list (b9r may.list (onI wd on) i) (may.list.getD i 0) x)),(7,⟨c,1,1,3,0,fun _ _=>intV (may.list.getD i 0)⟩)]) (fun x=>x) (fun x=>x≤(onI wd on (may.list.getD i 0)).list.length) (0) om (by first | rfl | omega) hsa rfl (fun k c hx hi C1 lr hC1 NhR3 hR3=>?_) (fun k c hx hi=>?_)
  ·skip
   (try dsimp only at hx hi hR3 ⊢)
   obtain ⟨s,hs256,hsA,hs⟩:=a5c (onI wd on (may.list.getD i 0)) hi;rw [hs]
   refine ru 3 ?_
   refine hR3 _ (fun C2 hC4=>?_)
   refine ru 7 ?_
   refine wdc (fun hr0 hc0=>?_) (fun hr0 hc0=>?_)
   ·skip
    have hs32:s < 32:=om;have hin:=c9F (B:=b9r may.list (onI wd on) i) (p:=may.list.getD i 0) hs hs32
    refine ru 4 ?_
    first
    | refine a3d 28 (HOp.val (v':=HV.agg 4 (fun j=>byF (b2P (onI wd on (may.list.getD i 0)).list (b9r may.list (onI wd on) i) (may.list.getD i 0) k) 0 (s * 4+j))) (a0r ty_72.h rfl omy omy (fun h=>(by first | rfl | cases h))) ((by show ldv true 4 _ (0+s * 4)=_;rw [c5O,Nat.zero_add]))) rfl rfl (a0L rfl) rfl rfl (k':=4) rfl ?_
    | refine a3d 28 (HOp.val (v':=HV.agg 4 (fun j=>byF (b2P (onI wd on (may.list.getD i 0)).list (b9r may.list (onI wd on) i) (may.list.getD i 0) k) 0 (s * 4+j))) (a0j ty_72.h rfl omy (fun h=>(by first | rfl | cases h))) ((by show ldv true 4 _ (0+s * 4)=_;rw [c5O,Nat.zero_add]))) rfl rfl pre0 rfl rfl (k':=4) rfl ?_
    refine ru 1 ?_
    refine d0 6 (a0e (xs:=[_,_]) (c6z (b2P (onI wd on (may.list.getD i 0)).list (b9r may.list (onI wd on) i) (may.list.getD i 0) k s) (b2U (a5E _ _ _) _ _) (may.list.getD i 0)) ⟨rfl,⟨rfl,trivial⟩⟩ ⟨(a2o c6c),⟨fe,trivial⟩⟩) ?_
    refine ru 4 ?_
    exact a2C ⟨k+1,by (try dsimp only);omega,by first | rfl | omega,(hsr rfl (hsr rfl (hsr rfl (hsr rfl (hsr rfl (hsr rfl (a0g.cons rfl (a2m.of fun i' j hi' hj=>by have h9:=c8j hs32 hin.1 hin.2 i' j hi' hj;exact h9▸.refl _) hsa)))))))⟩
   refine ru 2 ?_
   exact a2C ⟨k+1,by (try dsimp only);omega,by first | rfl | omega,(hsr rfl (hsr rfl (hsr rfl (hsr rfl (hsr rfl (hsr rfl (a0g.cons rfl (by rw [c6Q (show ¬ _ < (32:Int) by rw [hs];omega)];exact .refl _) hsa)))))))⟩
  ·skip
   (try dsimp only at hx hi ⊢)
   subst hi
   refine ru 2 ?_
   exact a2C ⟨i+1,by (try dsimp only);omega,by first | rfl | omega,hsa⟩
 ·skip
  (try dsimp only at hx hi ⊢)
  subst hi
  refine ru 9 ?_
  refine a0l (α:=Nat×Nat×Nat) (fun x c=>⟨54,[(1,.v (intV (R.length:Int))),(3,.v (.pt 3 c0 0 0)),(32,.v (.agg 128 (byF (a1I wd on may) 0))),(33,.v (intV x.1))],[(9001,mkO g1 (netP wd on β p) g2 x.2.1 (a1B Bag.zero (a1I wd on may) S x.1).1.length g5),(9002,tbO g2 x.2.2 (a1B Bag.zero (a1I wd on may) S x.1).1.length),(9003,seO x.2.1 (a1B Bag.zero (a1I wd on may) S x.1).1),(9004,stO x.2.2 (a1B Bag.zero (a1I wd on may) S x.1).1.length (R++[(a1B Bag.zero (a1I wd on may) S x.1).2]) (c5F p.ends (a1I wd on may) S A x.1)),(9005,knO g5 (a1B Bag.zero (a1I wd on may) S x.1).1),(3,⟨c0,1,1,92,0,fun _ _=>.pt 9001 g1 0 0⟩)],c⟩) (fun x=>x.1≤32) (fun x=>32 - x.1) ((0,g3,g4)) om (a0b rfl lrf tsa (hsr rfl (hsr rfl (hsr rfl (a0g.cons rfl (b9H rfl fun i j _ _=>d0c i j) hsa))))) (fun x c hx NhL5 hL5=>?_)
  revert hx hL5;obtain ⟨k,q1,q2⟩:=x;intro hx hL5;dsimp only at hx hL5 ⊢
  have hl:=a4m Bag.zero (a1I wd on may) S k;have hbl:=b6R (E:=p.ends) (g:=a1I wd on may) hA k
  refine ru 6 ?_
  refine wdc (fun hr1 hc1=>?_) (fun hr1 hc1=>?_)
  ·refine ru 7 ?_
   refine s0 (b5y (len:=32) (s:=4) kr rfl rfl om om omx) ?_
   refine ru 9 ?_
   refine (a1b 38 [] rfl pre0 rfl ((a2o (c6c (B:=a1I wd on may) (s:=k))))).seq ?_
   refine a0n 39 (xs:=[_,_]) (pre:=[(9001,_),(9002,_),(9003,_),(9004,_),(9005,_)]) (d0f _ g1 g2 q1 q2 g5 wd on β p hpk (a1B Bag.zero (a1I wd on may) S k).1 (c5F p.ends (a1I wd on may) S A k) (R++[(a1B Bag.zero (a1I wd on may) S k).2]) (a1I wd on may k) (a5E _ _ _ _) om hbl (by simp;omega)) ⟨rfl,⟨rfl,trivial⟩⟩ (a0h rfl (a0h rfl (a0h rfl (a0h rfl (a0h rfl pre0))))) rfl rfl (fun x1 c1 hx1=>?_)
   obtain ⟨r1,r2⟩:=x1
   (try dsimp only)
   refine ru 3 ?_
   have hpl:=b2A Bag.zero (a1B Bag.zero (a1I wd on may) S k).1 (a1I wd on may k)
   refine ru 22 ?_
   exact hL5 ((k+1,r1,r2)) _ _ omd omd (a0b rfl lrf (tsr rfl (tsr rfl (tsr rfl (a0u.cons rfl (a0K om) a0u.nil)))) (hsr rfl (hsr rfl (hsr rfl (a0g.cons rfl (b9H rfl (c9U om om om)) hsa)))))
  obtain rfl:k=32:=om
  refine ru 2 ?_
  refine a0c ?_
  refine ru 1 ?_
  refine b6X ?_
  refine b2i hM ?_
  refine a0X ok hX a2j.one rfl  [] rfl pre0 ((q1,q2)) (trivial) (by rfl) (by rfl) (kza) ?_
  exact ⟨⟨_,rfl,(b8d rfl rfl rfl rfl hN rfl rfl rfl rfl rfl rfl rfl)⟩,⟨⟨_,rfl,(b6T rfl rfl rfl rfl)⟩,⟨⟨_,rfl,(a2K rfl fun _ _ _ _=>.imm _)⟩,⟨⟨_,rfl,(a2K rfl fun _ _ _ _=>b4o _ _ _ _)⟩,⟨⟨_,rfl,b2J⟩,trivial⟩⟩⟩⟩⟩
def accS (e:Bool) (E:Bag) (S:List Bag):List Bool:=match S with
 | []=>[]
 | _::r=>e::r.map (fun b=>decide (b.mix a7P E 4≠Bag.zero))
theorem a9m (e:Bool) (E:Bag) (S:List Bag):(accS e E S).length=S.length:=by cases S <;> simp [accS]
theorem c3K {e:Bool} {E:Bag} {S:List Bag} (hS:0 < S.length) (s:Bag):b9a E S (accS e E S) s=accS e E (a4B Bag.zero S s).1:=by
  unfold b9a a4B
  split
  · rfl
  · cases idA S s with
    | some n=>rfl
    | none => cases S with
      | nil=>simp at hS
      | cons x r=>simp [accS]
theorem b1Q {e:Bool} {E:Bag} {S:List Bag} (hS:0 < S.length) (g:Nat→Bag):∀ k,c5F E g S (accS e E S) k=accS e E (a1B Bag.zero g S k).1
  | 0=>rfl
  | k + 1 => by
    show b9a E (a1B Bag.zero g S k).1 (c5F E g S (accS e E S) k) (g k)=accS e E (a4B Bag.zero (a1B Bag.zero g S k).1 (g k)).1
    rw [b1Q hS g k,c3K (by have:=a4m Bag.zero g S k;omega)]
theorem c8a {S:List Bag} {s:Bag} (h:∀ b∈S,b.ok) (hs:s.ok):∀ b∈(a4B Bag.zero S s).1,b.ok:=by
  unfold a4B
  split
  · exact h
  · cases idA S s with
    | some n=>exact h
    | none =>
      intro b hb;rcases List.mem_append.1 hb with hb | hb;exact h b hb;simp at hb;subst hb;exact hs
theorem b6p {S:List Bag} {g:Nat→Bag} (h:∀ b∈S,b.ok) (hg:∀ k,(g k).ok):∀ k,∀ b∈(a1B Bag.zero g S k).1,b.ok
 | 0=>h
 | k+1=>c8a (b6p h hg k) (hg k)
@[reducible] def beI (wd:Nat) (β:Nat→Bag) (i:Int):Bag:=if 0≤i∧i < (wd:Int) then β i.toNat else Bag.zero
theorem c5J {wd:Nat} {β:Nat→Bag} (h:∀ i,(β i).ok) (i:Int):(beI wd β i).ok:=by unfold beI;split;exact h _;exact Bag.zero_ok
def c3q (wd:Nat) (β:Nat→Bag) (L:List Int):Nat→Bag
 | 0=>Bag.zero
 | k+1=>bun (c3q wd β L k) (beI wd β (L.getD k 0))
theorem b4Z {wd:Nat} {β:Nat→Bag} (h:∀ i,(β i).ok) (L:List Int):∀ k,(c3q wd β L k).ok
 | 0=>Bag.zero_ok
 | k+1=>a9M (b4Z h L k) (c5J h _)
def gD (wd:Nat) (on:List Bag) (β:Nat→Bag) (first:Bag) (S:List Bag) (at_:Nat):Nat→Bag:=match at_ with
 | 0=>a1I wd on first
 | k+1=>a1I wd on (c3q wd β (S.getD (k+1) Bag.zero).list (S.getD (k+1) Bag.zero).list.length)
theorem d1n {wd:Nat} {on:List Bag} {β:Nat→Bag} {first:Bag} {S:List Bag} {k:Nat} (h:1≤k):gD wd on β first S k=a1I wd on (c3q wd β (S.getD k Bag.zero).list (S.getD k Bag.zero).list.length):=by
 cases k with | zero=>omega | succ k=>rfl
def tabV (wd:Nat) (on:List Bag) (β:Nat→Bag) (p:Pc):Option (List Bag×List (List Int)):=goA Bag.zero (gD wd on β p.first) 0 [Bag.zero] []
def d3n (p:Pc):Option (List Bag×List (List Int))→HV
 | some (S,R)=>t2 (tabP R (accS p.empty p.ends S)) (intV 0)
 | none=>t2 b4P (intV 7)
theorem b2G {z:Bag} {g:List Bag→Nat→Nat→Bag} {i:Nat} {S:List Bag} {R:List (List Int)} (h:i < S.length) (hS:S.length≤200):goA z g i S R=if 200 < (a1B z (g S i) S 32).1.length then none else goA z g (i+1) (a1B z (g S i) S 32).1 (R++[(a1B z (g S i) S 32).2]):=by
 by_cases h3:200 < (a1B z (g S i) S 32).1.length
 ·rw [if_pos h3];exact c7U h hS h3
 ·rw [if_neg h3];exact c9W h hS h3
theorem b7m {S:List Bag} {i:Nat} (h:∀ b∈S,b.ok) (hi:i < S.length):(S.getD i Bag.zero).ok:=by
 rw [List.getD_eq_getElem?_getD,List.getElem?_eq_getElem hi];exact h _ (List.getElem_mem hi)
theorem d1g {g2 g4 n:Nat} {R:List (List Int)} {A:List Bool} {F:Nat→Nat→HV} (hF:F 0 0=.os 9004 g4 0 n) (hn:n=R.length):Fz [(9002,⟨g2,1,1,85,0,F⟩),(9004,stO g4 n R A)] (.pt 9002 g2 0 0) (tabP R A):=by
 subst hn
 refine .pt 9002 g2 0 0 1 _ _ (.head _) rfl (Nat.lt_succ_self 0) lrf (fun j hj=>?_)
 obtain rfl:j=0:=by omega
 show Fz _ (F 0 0) _
 rw [hF]
 exact .os 9004 g4 0 R.length (stO g4 R.length R A) _ (.tail _ (.head _)) rfl (by show 0+R.length≤R.length;omega) (fun i j hi hj=>by rw [Nat.zero_add];exact b4o R A i j)
theorem b4F (wd:Nat) (hw:wd≤1000) (on:List Bag) (hon:∀ i,(onF on i).ok) (β:Nat→Bag) (hβ:∀ i,(β i).ok) (p:Pc) (hpk:p.ok):HPure Tryz.prog 18 [netP wd on β p] (d3n p (tabV wd on β p)):=by
 have h0:tabV wd on β p=if 200 < (a1B Bag.zero (a1I wd on p.first) [Bag.zero] 32).1.length then none else goA Bag.zero (gD wd on β p.first) 1 (a1B Bag.zero (a1I wd on p.first) [Bag.zero] 32).1 ([]++[(a1B Bag.zero (a1I wd on p.first) [Bag.zero] 32).2]):=b2G (S:=[Bag.zero]) (i:=0) dcd dcd
 have hA0:c5F p.ends (a1I wd on p.first) [Bag.zero] [p.empty] 32=accS p.empty p.ends (a1B Bag.zero (a1I wd on p.first) [Bag.zero] 32).1:=b1Q (e:=p.empty) (S:=[Bag.zero]) dcd _ 32
 have hl0:=a4m Bag.zero (a1I wd on p.first) [Bag.zero] 32
 refine b4G Tryz.func18 rfl kr _ _ _ rfl 69 rfl rfl (fun w F=>?_)
 refine ru 14 ?_
 refine wdc (fun hr0 hc0=>?_) (fun hr0 hc0=>?_)
 ·skip
  exfalso;simp at hr0
 refine ru 6 ?_
 refine clx (c5s wd on β p) ?_
 refine ru 1 ?_
 refine a2x 14 (a0d (id:=9004) (hs:=[_]) ei_83.h (nb rfl) rfl (nb rfl) ⟨rfl,rfl,rfl,rfl,trivial⟩) rfl rfl pre0 rfl rfl (k':=5) rfl ?_
 refine ru 1 ?_
 refine a2x 16 (a6O (id:=9002) (sz:=1) rfl rfl rfl (nb rfl) (nb rfl)) rfl rfl pre0 rfl rfl (k':=7) rfl ?_
 refine ru 1 ?_
 refine a2x 18 (a0d (id:=9003) (hs:=[_]) ei_93.h (nb rfl) rfl (nb rfl) ⟨rfl,rfl,rfl,rfl,trivial⟩) rfl rfl pre0 rfl rfl (k':=9) rfl ?_
 refine a2x 19 (b5n (id:=9005)) rfl rfl pre0 rfl rfl (k':=10) rfl ?_
 refine ru 1 ?_
 refine a2x 21 (a6O (id:=9001) (sz:=4) rfl rfl rfl (nb rfl) (nb rfl)) rfl rfl pre0 rfl rfl (k':=12) rfl ?_
 refine ru 4 ?_
 refine (a0W 9001 (mkO 12 (netP wd on β p) 7 9 1 10) rfl (by exact b4N (.refl _) (.refl _) (.refl _) (.refl _))).wp ?_;refine (a0W 9002 (tbO 7 5 1) rfl (by exact b4h (.refl _))).wp ?_;refine (a0W 9003 (seO 9 [Bag.zero]) rfl (.of fun i j hi hj=>by obtain rfl:i=0:=(by have:i < 1:=hi;omega);match j,hj with | 0,_=>exact .refl _ | 1,_=>exact .refl _ | 2,_=>exact .refl _ | 3,_=>exact .refl _)).wp ?_;refine (a0W 9004 (stO 5 1 [] [p.empty]) rfl (.of fun i j hi hj=>by obtain rfl:i=0:=(by have:i < 1:=hi;omega);by_cases hj2:j < 32;(rw [a2D hj2];show Sb (bld [(32,1,boolV p.empty)] (fun j=>.imm ((List.replicate 32 (Value.int .i64 0)++[Value.bool false]).getD j undef)) j) _;rw [d0Z rfl rfl j hj2];exact .refl _);(obtain rfl:j=32:=om;exact .refl _))).wp ?_
 refine ru 3 ?_
 refine cll (c4b wd on β p) ?_
 refine a0n 25 (xs:=[_,_,_]) (pre:=[(9001,_),(9002,_),(9003,_),(9004,_),(9005,_)]) (c6I _ 12 7 9 5 10 wd hw on hon β p hpk [Bag.zero] [p.empty] [] p.first hpk.1 ⟨by decide,by decide⟩ rfl) ⟨rfl,⟨rfl,⟨rfl,trivial⟩⟩⟩ (a0h rfl (a0h rfl (a0h rfl (a0h rfl (a0h rfl pre0))))) rfl rfl (fun x1 c1 hx1=>?_)
 obtain ⟨r1,r2⟩:=x1
 (try dsimp only)
 refine ru 4 ?_
 have hok0:=b6p (S:=[Bag.zero]) (g:=a1I wd on p.first) (by intro b hb;simp at hb;subst hb;exact Bag.zero_ok) (a5E _ _ _) 32;rw [hA0];clear hA0;generalize a1B Bag.zero (a1I wd on p.first) [Bag.zero] 32=rw0 at h0 hl0 hok0 ⊢
 refine ru 5 ?_
 refine a0l (α:=Nat×Nat×Nat×List Bag×List (List Int)) (fun x c=>⟨69,[(1,.v (.pt 1 0 0 0)),(4,.v (.pt 9001 12 0 0)),(5,.v (intV x.1))],[(9001,mkO 12 (netP wd on β p) 7 x.2.1 x.2.2.2.1.length 10),(9002,tbO 7 x.2.2.1 x.2.2.2.1.length),(9003,seO x.2.1 x.2.2.2.1),(9004,stO x.2.2.1 x.2.2.2.1.length x.2.2.2.2 (accS p.empty p.ends x.2.2.2.1)),(9005,knO 10 x.2.2.2.1),(1,⟨0,1,1,51,0,fun _ _=>netP wd on β p⟩)],c⟩) (fun x=>1≤x.1∧x.1≤x.2.2.2.1.length∧x.2.2.2.2.length=x.1∧x.2.2.2.1.length≤232∧(∀ b∈x.2.2.2.1,b.ok)∧tabV wd on β p=(if 200 < x.2.2.2.1.length then none else goA Bag.zero (gD wd on β p.first) x.1 x.2.2.2.1 x.2.2.2.2)) (fun x=>233 - x.1) ((1,r1,r2,rw0.1,[]++[rw0.2])) (by exact ⟨Nat.le_refl _,hl0.1,rfl,Nat.le_trans hl0.2.1 dcd,hok0,h0⟩) (a0b rfl lrf tsa hsa) (fun x c hx NhL1 hL1=>?_)
 revert hx hL1;obtain ⟨i,q1,q2,S,R⟩:=x;intro hx hL1;dsimp only at hx hL1 ⊢
 obtain ⟨hi1,hiS,hRi,hS2,hok,hT⟩:=hx
 refine ru 12 ?_
 refine wdc (fun hr1 hc1=>?_) (fun hr1 hc1=>?_)
 ·skip
  have hiS2:i < S.length:=om
  refine ru 15 ?_
  refine wdc (fun hr2 hc2=>?_) (fun hr2 hc2=>?_)
  ·refine ru 10 ?_
   refine a0q ?_
   refine ru 2 ?_
   refine b0d ?_
   refine rt2 ?_
   rw [hT,if_pos om];exact a5z (.imm _) (.imm _)
  have hS3:S.length≤200:=om;have hsk:=b7m hok hiS2
  refine ru 17 ?_
  refine s0 (a0e (xs:=[_]) (c2H (S.getD i Bag.zero)) ⟨rfl,trivial⟩ ⟨(a2o (fun j hj=>by show a7L ((S.getD (0+(i:Int).toNat) Bag.zero).word _)=_;rw [Nat.zero_add];rfl)),trivial⟩) ?_
  refine ru 3 ?_
  refine a7M (α:=Nat) ⟨rfl,rfl,rfl⟩ (b4l (S.getD i Bag.zero) hsk) rfl (cs:=[_]) rfl (fun i hi=>by first | rfl | (cases i <;> first | rfl | (simp at hi))) ⟨(Fz.eq rfl),trivial⟩ rfl (fun _=>rfl) rfl (fun x=>[(9001,mkO 12 (netP wd on β p) 7 q1 S.length 10),(9002,tbO 7 q2 S.length),(9003,seO q1 S),(9004,stO q2 S.length R (accS p.empty p.ends S)),(9005,knO 10 S),(1,⟨0,1,1,51,0,fun _ _=>netP wd on β p⟩),(6,⟨c,1,4,72,0,fun _ j=>a3s (c3q wd β (S.getD i Bag.zero).list x) j⟩)]) (fun x=>x) (fun x=>x≤(S.getD i Bag.zero).list.length) (0) om (by first | rfl | omega) (hsr rfl (hsr rfl (hsr rfl (hsr rfl (hsr rfl (hsr rfl (a0g.cons rfl (.of fun i j hi hj=>by match j,hj with | 0,_=>exact .refl _ | 1,_=>exact .refl _ | 2,_=>exact .refl _ | 3,_=>exact .refl _) a0g.nil))))))) rfl (fun m c hx hi C1 lr hC1 NhR2 hR2=>?_) (fun m c hx hi=>?_)
  ·skip
   (try dsimp only at hx hi hR2 ⊢)
   refine ru 3 ?_
   refine hR2 _ (fun C2 hC3=>?_)
   refine ru 5 ?_
   refine clx (c1A wd on β p _ hw) ?_
   refine d0 5 (a0e (xs:=[_,_]) (c8r (c3q wd β (S.getD i Bag.zero).list m) (beI wd β ((S.getD i Bag.zero).list.getD m 0)) (b4Z hβ _ _) (c5J hβ _)) ⟨rfl,⟨rfl,trivial⟩⟩ ⟨(a2o (by exact j4 rfl rfl rfl rfl)),⟨(Fz.eq rfl),trivial⟩⟩) ?_
   refine ru 3 ?_
   exact a2C ⟨m+1,by (try dsimp only);omega,by first | rfl | omega,hsa⟩
  ·skip
   (try dsimp only at hx hi ⊢)
   subst hi;have hgd:=d1n (wd:=wd) (on:=on) (β:=β) (first:=p.first) (S:=S) hi1;have hl:=a4m Bag.zero (gD wd on β p.first S i) S 32;have hst:=b2G (z:=Bag.zero) (g:=gD wd on β p.first) (R:=R) hiS2 hS3
   refine ru 5 ?_
   refine rvl (intV (R.length:Int)) ((by rw [hRi])) ?_
   refine ru 1 ?_
   refine (a1b 57 [] rfl pre0 rfl ((a2o (by exact j4 rfl rfl rfl rfl)))).seq ?_
   refine a0n 58 (xs:=[_,_,_]) (pre:=[(9001,_),(9002,_),(9003,_),(9004,_),(9005,_)]) (c6I _ 12 7 q1 q2 10 wd hw on hon β p hpk S (accS p.empty p.ends S) R (c3q wd β (S.getD i Bag.zero).list (S.getD i Bag.zero).list.length) (b4Z hβ _ _) ⟨by omega,by omega⟩ (a9m _ _ _)) ⟨rfl,⟨rfl,⟨rfl,trivial⟩⟩⟩ (a0h rfl (a0h rfl (a0h rfl (a0h rfl (a0h rfl pre0))))) rfl rfl (fun x2 c2 hx2=>?_)
   obtain ⟨r1,r2⟩:=x2
   (try dsimp only)
   refine ru 3 ?_
   rw [b1Q (e:=p.empty) (E:=p.ends) om,←hgd]
   refine ru 5 ?_
   exact hL1 ((i+1,r1,r2,(a1B Bag.zero (gD wd on β p.first S i) S 32).1,R++[(a1B Bag.zero (gD wd on β p.first S i) S 32).2])) _ _ (by (try dsimp only);exact ⟨by omega,by omega,by simp [hRi],by omega,b6p hok (by rw [hgd];exact a5E _ _ _) 32,by rw [hT,if_neg om,hst]⟩) omd (a0b rfl lrf (tsr rfl (tsr rfl (a0u.cons rfl (a0K om) a0u.nil))) hsa)
 have hie:i=S.length:=om
 refine ru 2 ?_
 refine a0c ?_
 refine ru 13 ?_
 refine wdc (fun hr3 hc3=>?_) (fun hr3 hc3=>?_)
 ·refine ru 8 ?_
  refine b0d ?_
  refine rt2 ?_
  rw [hT,if_pos om];exact a5z (.imm _) (.imm _)
 refine ru 13 ?_
 refine b0d ?_
 refine a9F rfl (a0f rfl) (a0f rfl) [(9002,_),(9004,_)] rfl (a0h rfl (a0h rfl pre0)) ?_
 rw [hT,if_neg om,c0c om];exact a5z (d1g rfl om) (.imm _)
@[reducible] def c5N (b:Nat) (ob:Nat→HObj):Nat→Nat→HV:=fun _ k=>.os (b+k) (ob k).g 0 (ob k).n
@[reducible] def c6v (b:Nat) (ob:Nat→HObj) (i id c m:Nat):Nat→Nat→HV:=fun _ k=>if k=i then .os id c 0 m else .os (b+k) (ob k).g 0 (ob k).n
section
variable {C:Ctx} {n clk:Nat} {tm:List (Nat×TV)}
theorem b4m (o id b i N go:Nat) (ty:TypeId) (L:List (Nat×HObj)) (ob:Nat→HObj) (hi:i < N) (hob:o < b) (hid:id < b) (hne:id≠o) (hL:b5l b id L=true) (hfl:(ob i).fl≤(ob i).n) :
    a4D C ⟨n,tm,(o,⟨go,1,N,ty,0,c5N b ob⟩)::(L++a5B b ob (fun _=>true) N),clk⟩ ⟨n,tm,(o,⟨go,1,N,ty,0,c6v b ob i id clk (ob i).n⟩)::(id,{ ob i with g:=clk })::(L++a5B b ob (fun k=>k != i) N),clk+1⟩:=by
  have hrow:hget ((o,(⟨go,1,N,ty,0,c5N b ob⟩:HObj))::(L++a5B b ob (fun _=>true) N)) (b+i)=some (ob i):=by
    rw [a0o,a0s _ _ omo,a1S,a2T hL _ (.inl omo)]
    simp only
    rw [a1o,if_pos ⟨by omega,by omega,rfl⟩,Nat.add_sub_cancel_left]
  have key:=b3N (C:=C) (n:=n) (clk:=clk) (tm:=tm) o (b+i) id ((o,⟨go,1,N,ty,0,c5N b ob⟩)::(L++a5B b ob (fun k=>k != i) N)) (lo:=0) (m:=(ob i).n) (c6v b ob i id clk (ob i).n) hrow
    (by rw [a0o,a0v]) hne omo (fun k j hk hj=>by
      by_cases e:j=i
      · subst e;right;exact ⟨rfl,by show (if j=j then _ else _)=_;rw [if_pos rfl]⟩
      · left;show (if j=i then _ else _)=_;rw [if_neg e]) (Nat.zero_le _) (fun k o' hk=>by
      rw [a0o] at hk
      by_cases e:k=o
      · subst e;rw [a0v] at hk;exact ⟨by omega,Ne.symm hne,by rw [a0o,a0v];exact hk⟩
      · rw [a0s _ _ e,a1S] at hk
        rw [a0o,a0s _ _ e,a1S]
        cases h1:hget L k with
        | some x =>
          rw [h1] at hk
          refine ⟨fun e2=>?_,fun e2=>?_,by simpa using hk⟩
          · rw [e2,a2T hL _ (.inl omo)] at h1;cases h1
          · rw [e2,a2T hL _ (.inr rfl)] at h1;cases h1
        | none =>
          rw [h1] at hk
          simp only at hk ⊢
          rw [a1o] at hk ⊢
          by_cases h2:b≤k∧k < b+N∧((k - b) != i)=true
          · rw [if_pos h2] at hk
            have h3:k - b≠i:=by simpa using h2.2.2
            refine ⟨by omega,by omega,?_⟩
            rw [if_pos ⟨h2.1,h2.2.1,rfl⟩];exact hk
          · rw [if_neg h2] at hk;cases hk)
  refine a4D.trans key (a6P (fun k o' hk=>⟨o',?_,a2m.refl _⟩))
  rw [a0o] at hk ⊢
  by_cases e:k=o
  · subst e;rw [a0v] at hk ⊢;exact hk
  · rw [a0s _ _ e,a0o] at hk ⊢
    by_cases e2:k=id
    · subst e2;rw [a0v] at hk ⊢;exact hk
    · rw [a0s _ _ e2] at hk ⊢
      rw [a0o,a0s _ _ e];exact hk
theorem b8l (o id b i N go c m sz fl:Nat) (ty ty2:TypeId) (f:Nat→Nat→HV) (L:List (Nat×HObj)) (ob:Nat→HObj) (hi:i < N) (hob:o < b) (hid:id < b) (hne:id≠o) (hL:b5l b id L=true) :
    a4D C ⟨n,tm,(o,⟨go,1,N,ty,0,c6v b ob i id c m⟩)::(id,⟨c,m,sz,ty2,fl,f⟩)::(L++a5B b ob (fun k=>k != i) N),clk⟩ ⟨n,tm,(o,⟨go,1,N,ty,0,c5N b (fup ob i ⟨clk,m,sz,ty2,fl,f⟩)⟩)::(L++a5B b (fup ob i ⟨clk,m,sz,ty2,fl,f⟩) (fun _=>true) N),clk+1⟩:=by
  have hLo:∀ k x,hget L k=some x→k < b∧k≠id:=fun k x h=>by
    refine ⟨Nat.lt_of_not_le fun h'=>?_,fun h'=>?_⟩
    · rw [a2T hL _ (.inl h')] at h;cases h
    · rw [a2T hL _ (.inr h')] at h;cases h
  have key:=b3N (C:=C) (n:=n) (clk:=clk) (tm:=tm) (hp:=(o,⟨go,1,N,ty,0,c6v b ob i id c m⟩)::(id,⟨c,m,sz,ty2,fl,f⟩)::(L++a5B b ob (fun k=>k != i) N)) o id (b+i) ((o,⟨go,1,N,ty,0,c6v b ob i id c m⟩)::(L++a5B b ob (fun k=>k != i) N)) (lo:=0) (m:=m) (c5N b (fup ob i ⟨clk,m,sz,ty2,fl,f⟩))
    (by rw [a0o,a0s _ _ hne,a0o,a0v]) (by rw [a0o,a0v]) omo omo (fun k j hk hj=>by
      by_cases e:j=i
      · subst e;right
        refine ⟨by show (if j=j then _ else _)=_;rw [if_pos rfl],?_⟩
        show HV.os (b+j) (fup ob j _ j).g 0 (fup ob j _ j).n=_
        unfold fup;rw [if_pos rfl]
      · left
        show HV.os (b+j) (fup ob i _ j).g 0 (fup ob i _ j).n=if j=i then _ else _
        unfold fup;rw [if_neg e,if_neg e]) (Nat.zero_le _) (fun k o' hk=>by
      rw [a0o] at hk
      by_cases e:k=o
      · subst e;rw [a0v] at hk;exact ⟨Ne.symm hne,by omega,by rw [a0o,a0v];exact hk⟩
      · rw [a0s _ _ e,a1S] at hk
        cases h1:hget L k with
        | some x =>
          have:=hLo k x h1
          rw [h1] at hk
          refine ⟨this.2,by omega,?_⟩
          rw [a0o,a0s _ _ e,a0o,a0s _ _ this.2,a1S,h1];exact hk
        | none =>
          rw [h1] at hk
          simp only at hk
          rw [a1o] at hk
          by_cases h2:b≤k∧k < b+N∧((k - b) != i)=true
          · have h3:k - b≠i:=by simpa using h2.2.2
            refine ⟨by omega,by omega,?_⟩
            rw [a0o,a0s _ _ e,a0o,a0s _ _ omo,a1S,h1]
            simp only
            rw [a1o];exact hk
          · rw [if_neg h2] at hk;cases hk)
  refine a4D.trans key (a6P (fun k o' hk=>⟨o',?_,a2m.refl _⟩))
  rw [a0o] at hk ⊢
  by_cases e:k=o
  · subst e;rw [a0v] at hk ⊢;exact hk
  · rw [a0s _ _ e] at hk ⊢
    rw [a0o]
    rw [a1S] at hk
    cases h1:hget L k with
    | some x =>
      have:=hLo k x h1
      rw [h1] at hk
      rw [a0s _ _ omo,a0o,a0s _ _ e,a1S,h1];exact hk
    | none =>
      rw [h1] at hk
      simp only at hk
      rw [a1o] at hk
      by_cases h2:b≤k∧k < b+N∧true=true
      · rw [if_pos h2] at hk
        by_cases e2:k=b+i
        · subst e2
          rw [a0v]
          rw [Nat.add_sub_cancel_left] at hk
          unfold fup at hk;rw [if_pos rfl] at hk;exact hk
        · rw [a0s _ _ e2,a0o,a0s _ _ e,a1S,h1]
          simp only
          rw [a1o,if_pos ⟨h2.1,h2.2.1,by simp;omega⟩]
          unfold fup at hk;rw [if_neg omo] at hk;exact hk
      · rw [if_neg h2] at hk;cases hk
theorem c0Z (o b N go sz:Nat) (ty ty2:TypeId) (f F:Nat→Nat→HV) (L:List (Nat×HObj)) (hF:∀ j,j < N→F 0 j=.imm (.slice none 0 0)) (hob:o < b) (hL:b5l b o L=true) (hsz:0 < sz) :
    a4D C ⟨n,tm,(o,⟨go,1,N,ty,0,F⟩)::L,clk⟩ ⟨n,tm,(o,⟨go,1,N,ty,0,c5N b (fun k=>⟨clk+k,0,sz,ty2,0,f⟩)⟩)::(L++a5B b (fun k=>⟨clk+k,0,sz,ty2,0,f⟩) (fun _=>true) N),clk+N⟩:=by
  have hLo:∀ k x,hget L k=some x→k < b∧k≠o:=fun k x h=>by
    refine ⟨Nat.lt_of_not_le fun h'=>?_,fun h'=>?_⟩
    · rw [a2T hL _ (.inl h')] at h;cases h
    · rw [a2T hL _ (.inr h')] at h;cases h
  have key:∀ m,m≤N→a4D C ⟨n,tm,(o,⟨go,1,N,ty,0,F⟩)::L,clk⟩ ⟨n,tm,(o,⟨go,1,N,ty,0,fun _ j=>if j < m then .os (b+j) (clk+j) 0 0 else F 0 j⟩)::(L++a5B b (fun k=>⟨clk+k,0,sz,ty2,0,f⟩) (fun j=>decide (j < m)) N),clk+m⟩:=by
    intro m
    induction m with
    | zero =>
      intro _
      refine a6P (fun k o' hk=>?_)
      rw [a0o] at hk ⊢
      by_cases e:k=o
      · subst e;rw [a0v] at hk ⊢
        injection hk with hk;subst hk
        exact ⟨_,rfl,.of fun i j hi hj=>by obtain rfl:i=0:=omo;rw [if_neg (Nat.not_lt_zero _)];exact .refl _⟩
      · rw [a0s _ _ e,a1S] at hk
        rw [a0s _ _ e]
        cases h1:hget L k with
        | some x=>rw [h1] at hk;exact ⟨o',hk,a2m.refl _⟩
        | none =>
          rw [h1] at hk
          simp only at hk
          rw [a1o] at hk
          by_cases h2:b≤k∧k < b+N∧decide (k - b < 0)=true
          · simp at h2
          · rw [if_neg h2] at hk;cases hk
    | succ m ih =>
      intro hm
      refine a4D.trans (ih omo) ?_
      refine a4D.trans (a1N o m (b+m) sz ty2 f (fun _ j=>if j < m+1 then .os (b+j) (clk+j) 0 0 else F 0 j) (by rw [a0o,a0v]) (by rw [if_neg (Nat.lt_irrefl _)];exact hF m omo) (fun j hj=>by
        by_cases e:j=m
        · subst e;left;exact ⟨rfl,by rw [if_pos (Nat.lt_succ_self _)]⟩
        · right
          by_cases h:j < m
          · rw [if_pos h,if_pos omo]
          · rw [if_neg h,if_neg omo]) omo hsz (c':=clk+(m+1)) rfl) (a6P (fun k o' hk=>⟨o',?_,a2m.refl _⟩))
      rw [a0o] at hk ⊢
      by_cases e:k=o
      · subst e;rw [a0v] at hk ⊢;exact hk
      · rw [a0s _ _ e] at hk ⊢
        rw [a0o]
        rw [a1S] at hk
        cases h1:hget L k with
        | some x =>
          have:=hLo k x h1
          rw [h1] at hk
          rw [a0s _ _ omo,a0o,a0s _ _ e,a1S,h1];exact hk
        | none =>
          rw [h1] at hk
          simp only at hk
          rw [a1o] at hk
          by_cases h2:b≤k∧k < b+N∧decide (k - b < m+1)=true
          · rw [if_pos h2] at hk
            have h3:k - b < m+1:=by simpa using h2.2.2
            by_cases e2:k=b+m
            · subst e2
              rw [a0v]
              rw [Nat.add_sub_cancel_left] at hk;exact hk
            · rw [a0s _ _ e2,a0o,a0s _ _ e,a1S,h1]
              simp only
              rw [a1o,if_pos ⟨h2.1,h2.2.1,by simp;omega⟩];exact hk
          · rw [if_neg h2] at hk;cases hk
  refine a4D.trans (key N lrf) (a6P (fun k o' hk=>?_))
  rw [a0o] at hk ⊢
  by_cases e:k=o
  · subst e;rw [a0v] at hk ⊢
    injection hk with hk;subst hk
    exact ⟨_,rfl,.of fun i j hi hj=>by rw [if_pos hj];exact .refl _⟩
  · rw [a0s _ _ e,a1S] at hk ⊢
    refine ⟨o',?_,a2m.refl _⟩
    cases h1:hget L k with
    | some x=>rw [h1] at hk;exact hk
    | none =>
      rw [h1] at hk
      simp only at hk ⊢
      rw [a1o] at hk ⊢
      by_cases h2:b≤k∧k < b+N∧true=true
      · rw [if_pos h2] at hk
        rw [if_pos ⟨h2.1,h2.2.1,by simp;omega⟩];exact hk
      · rw [if_neg h2] at hk;cases hk
end
@[reducible] def c2t (R:List (List Int)):Nat→Nat→HV:=fun i j=>intV ((R.getD i []).getD j 0)
@[reducible] def tdF (S:List Bag) (R:List (List Int)) (A:List Bool):Nat→HV:=fun j=>match j with
 | 0=>.sl 1 S.length (fun i _=>a0i (S.getD i Bag.zero).list)
 | 1=>.sl 32 R.length (c2t R)
 | _=>.sl 1 A.length (fun i _=>boolV (A.getD i false))
@[reducible] def tabD (S:List Bag) (R:List (List Int)) (A:List Bool):HV:=.agg 3 (tdF S R A)
def b4t (R:List (List Int)):Prop:=∀ i,i < R.length→∀ s,s < 32→-1≤(R.getD i []).getD s 0∧(R.getD i []).getD s 0 < R.length
def runX (R:List (List Int)):Int→List Int→Int
 | a,[]=>a
 | a,s::w=>runX R (nxT R a s) w
theorem c0F {R:List (List Int)} (hR:b4t R) (a s:Int):-1≤nxT R a s∧nxT R a s < R.length:=by
 unfold nxT
 split
 ·exact hR _ omo _ omo
 ·omega
def a9d (R:List (List Int)) (a:Int):Nat→Bag
 | 0=>Bag.zero
 | k+1=>if nxT R a (k:Int)=-1 then a9d R a k else (a9d R a k).with_ (k:Int)
theorem b1R (R:List (List Int)) (a:Int):∀ k,(a9d R a k).ok
 | 0=>Bag.zero_ok
 | k+1=>by unfold a9d;split;exact b1R R a k;exact Bag.with_ok _ (b1R R a k) _
theorem d0m (R:List (List Int)) (A:List Bool) (a:Int):HPure Tryz.prog 58 [tabP R A,intV a] (bagH (a9d R a 32)):=by
 refine a0k Tryz.func58 rfl kr _ _ _ rfl 25 rfl rfl (fun w F=>?_)
 refine ru 17 ?_
 refine a0l (α:=Nat) (fun x c=>⟨25,[(0,.v (tabP R A)),(1,.v (intV a)),(4,.v (.pt 4 0 0 0)),(5,.v (.pt 5 1 0 0)),(9,.v (intV x))],[(4,⟨0,1,4,72,0,fun _=>a3s Bag.zero⟩),(5,⟨1,1,4,72,0,fun _ j=>a3s (a9d R a x) j⟩)],c⟩) (fun x=>x≤32) (fun x=>32 - x) (0) om (a0b rfl lrf tsa (a0g.cons rfl (.of fun i j hi hj=>by match j,hj with | 0,_=>exact .refl _ | 1,_=>exact .refl _ | 2,_=>exact .refl _ | 3,_=>exact .refl _) (a0g.cons rfl (.of fun i j hi hj=>by match j,hj with | 0,_=>exact .refl _ | 1,_=>exact .refl _ | 2,_=>exact .refl _ | 3,_=>exact .refl _) a0g.nil))) (fun k c hx NhL1 hL1=>?_)
 (try dsimp only at hx hL1 ⊢)
 refine ru 6 ?_
 refine wdc (fun hr0 hc0=>?_) (fun hr0 hc0=>?_)
 ·refine ru 15 ?_
  refine cll (c5P R A a k) ?_
  refine ru 12 ?_
  refine wdc (fun hr1 hc1=>?_) (fun hr1 hc1=>?_)
  ·skip
   have hn:nxT R a (k:Int)≠-1:=(by simpa using hr1)
   refine ru 3 ?_
   refine s0 (a0e (xs:=[_,_]) (c6z (a9d R a k) (b1R _ _ _) k) ⟨rfl,⟨rfl,trivial⟩⟩ ⟨(a2o (by exact j4 rfl rfl rfl rfl)),⟨(Fz.eq rfl),trivial⟩⟩) ?_
   refine ru 8 ?_
   exact hL1 (k+1) _ _ omd omd (a0b rfl lrf (tsr rfl (tsr rfl (tsr rfl (tsr rfl (a0u.cons rfl (a0K om) a0u.nil))))) (hsr rfl (a0g.cons rfl (.of fun i j hi hj=>by show Sb _ (a3s (a9d R a (k+1)) j);rw [show a9d R a (k+1)=(a9d R a k).with_ k from if_neg hn];exact .refl _) a0g.nil)))
  have hn:nxT R a (k:Int)=-1:=(by simpa using hr1)
  refine ru 7 ?_
  exact hL1 (k+1) _ _ omd omd (a0b rfl lrf (tsr rfl (tsr rfl (tsr rfl (tsr rfl (a0u.cons rfl (a0K om) a0u.nil))))) (hsr rfl (a0g.cons rfl (.of fun i j hi hj=>by show Sb _ (a3s (a9d R a (k+1)) j);rw [show a9d R a (k+1)=a9d R a k from if_pos hn];exact .refl _) a0g.nil)))
 have hk:k=32:=om;subst hk
 refine ru 2 ?_
 refine a0c ?_
 refine ru 9 ?_
 refine rt1 ?_
 exact a2o (by exact j4 rfl rfl rfl rfl)
theorem a9o (x:Bag):x.list.length≤1000000:=by have:=a3a x;omega
@[reducible] def boF (f:Nat→Bool):Nat→Nat→HV:=fun j _=>boolV (f j)
@[reducible] def d3T (n:Nat) (f:Nat→Nat→Bool):HV:=.sl 1 n (fun i _=>.sl 1 n (boF (f i)))
instance frz_rel (n:Nat) (f:Nat→Nat→Bool):Frz (d3T n f):=⟨.sl _ _ _ _ fun _ _ _ _=>.sl _ _ _ _ fun _ _ _ _=>.imm _⟩
theorem c1q {x:Nat×HObj} {hp:List (Nat×HObj)} {b k:Nat} (hx:Nat.blt x.1 b=true):hget (x::hp) (b+k)=hget hp (b+k):=by
 obtain ⟨k0,o0⟩:=x
 have:k0 < b:=by simpa [Nat.blt_eq] using hx
 rw [a0o,a0s _ _ omo]
theorem b5O {b N k:Nat} {ob:Nat→HObj} (h:k < N):hget (a5B b ob (fun _=>true) N) (b+k)=some (ob k):=by
 rw [a1o,if_pos ⟨by omega,by omega,rfl⟩,Nat.add_sub_cancel_left]
def d2K (r x:Nat→Nat→Bool) (i k j:Nat):Bool:=(List.range k).any (fun q=>r i q&&x q j)
@[reducible] def d1q (n:Nat) (r x:Nat→Nat→Bool):Nat→Nat→Bool:=fun i j=>d2K r x i n j
@[reducible] def orB (r y:Nat→Nat→Bool):Nat→Nat→Bool:=fun a b=>r a b||y a b
def d3A (n:Nat) (y:Nat→Nat→Bool):Nat→Nat→Nat→Bool
 | 0=>fun i j=>decide (i=j)
 | k+1=>d1q n (d3A n y k) y
def d0S (n lo:Nat) (hi:Int) (y:Nat→Nat→Bool) (i j:Nat):Prop:=∃ k,lo≤k∧(hi < 0∨(k:Int)≤hi)∧d3A n y k i j=true
open Classical in
noncomputable def d1i (n lo:Nat) (hi:Int) (y:Nat→Nat→Bool):Nat→Nat→Bool:=fun i j=>decide (d0S n lo hi y i j)
end
section
set_option maxRecDepth 10000
def b6K (L:List Int→Prop):Nat→List Int→Prop
 | 0,w=>w=[]
 | k+1,w=>∃ u v,w=u++v∧b6K L k u∧L v
mutual
def c3t (m:List UInt8→Bag):T→List Int→Prop
 | .name s=>fun w=>∃ a,w=[a]∧a∈(m s).list
 | .times lo hi t=>fun w=>∃ k:Nat,lo≤(k:Int)∧(hi < 0∨(k:Int)≤hi)∧b6K (c3t m t) k w
 | .many k ts=>fun w=>if k=3 then d1e m ts w else c9L m ts w
def d1e (m:List UInt8→Bag):List T→List Int→Prop
 | []=>fun _=>False
 | t::ts=>fun w=>c3t m t w∨d1e m ts w
def c9L (m:List UInt8→Bag):List T→List Int→Prop
 | []=>fun w=>w=[]
 | t::ts=>fun w=>∃ u v,w=u++v∧c3t m t u∧c9L m ts v
end
def sch (w:List Int) (x y:Nat):List Int:=(w.drop x).take (y - x)
def d3J (w:List Int) (L:List Int→Prop) (x y:Nat):Prop:=x≤y∧y≤w.length∧L (sch w x y)
def b5V (L K:List Int→Prop) (w:List Int):Prop:=∃ u v,w=u++v∧L u∧K v
end
section
open Go.RowKit
set_option maxRecDepth 100000
set_option maxHeartbeats 1000000
abbrev Rl:=Nat→Nat→Bool
def rl0:Rl:=fun _ _=>false
open Classical in
noncomputable def d3P (m:List UInt8→Bag) (w:List Int) (t:T):Rl:=fun x y=>decide (d3J w (c3t m t) x y)
def d4a (n:Nat) (al:List Rl) (ks:List Int):Rl:=ks.foldl (fun r k=>d1q n r (al.getD k.toNat rl0)) (fun i j=>decide (i=j))
def d3K (al:List Rl) (ks:List Int):Rl:=ks.foldl (fun r k=>orB r (al.getD k.toNat rl0)) (fun _ _=>false)
def d1P (m:List UInt8→Bag) (w:List Int) (s:List UInt8):Rl:=fun a b=>decide (a < w.length)&&(decide (b=a+1)&&decide (w.getD a 0∈(m s).list))
noncomputable def d3S (m:List UInt8→Bag) (w:List Int) (al:List Rl) (p:Pt):Rl :=
 if p.kind=1 then d1P m w p.name else if p.kind=2 then d4a (w.length+1) al p.kids else if p.kind=3 then d3K al p.kids else d1i (w.length+1) p.low.toNat p.high (al.getD (p.kids.getD 0 0).toNat rl0)
section
variable {m:List UInt8→Bag} {w:List Int} {e:List Pt} {i b:Nat} {al:List Rl}
end
open Classical in
noncomputable def d4e (m:List UInt8→Bag) (t:T) (w:List Int):Bool:=decide (c3t m t w)
section
variable (on:List Bag) (β:Nat→Bag) (ends:Bag)
end
section
variable {on:List Bag} {β:Nat→Bag} {ends:Bag} {ps:List Int} {a:Int}
end
theorem c1E (x y:Bag) (k:Nat):(x.mix a7P y 4).has k=(x.has k&&y.has k):=by
 unfold Bag.has
 have:∀ q,(x.mix a7P y 4).word q=a7P (x.word q) (y.word q):=fun q=>by
  match q with
  | 0=>rfl
  | 1=>rfl
  | 2=>rfl
  | q+3=>rfl
 rw [this]
 unfold a7P
 rw [Nat.testBit_and]
section
variable {on:List Bag} {ends:Bag} {ps:List Int} {a:Int}
end
end
section
set_option maxRecDepth 10000
structure Mc where
 F:Nat→Nat→Prop
 I:Nat→Prop
 E:Nat→Prop
 e:Prop
theorem b3J {A B:Mc} (h1:∀ p q,A.F p q↔B.F p q) (h2:∀ p,A.I p↔B.I p) (h3:∀ p,A.E p↔B.E p) (h4:A.e↔B.e):A=B:=by
 cases A;cases B
 have e1:=funext fun p=>funext fun q=>propext (h1 p q)
 have e2:=funext fun p=>propext (h2 p)
 have e3:=funext fun p=>propext (h3 p)
 have e4:=propext h4
 dsimp only at e1 e2 e3 e4
 subst e1;subst e2;subst e3;subst e4;rfl
structure Mc.In (N M:Nat) (A:Mc):Prop where
 F:∀ {p q},A.F p q→(N≤p∧p < M)∧N≤q∧q < M
 I:∀ {p},A.I p→N≤p∧p < M
 E:∀ {p},A.E p→N≤p∧p < M
theorem Mc.In.mono {N M N' M':Nat} {A:Mc} (h:A.In N M) (h1:N'≤N) (h2:M≤M'):A.In N' M' :=
 ⟨fun k=>by have:=h.F k;omega,fun k=>by have:=h.I k;omega,fun k=>by have:=h.E k;omega⟩
def Mc.alt (A B:Mc):Mc:=⟨fun p q=>A.F p q∨B.F p q,fun p=>A.I p∨B.I p,fun p=>A.E p∨B.E p,A.e∨B.e⟩
def Mc.cat (A B:Mc):Mc:=⟨fun p q=>A.F p q∨B.F p q∨(A.E p∧B.I q),fun p=>A.I p∨(A.e∧B.I p),fun p=>B.E p∨(B.e∧A.E p),A.e∧B.e⟩
def Mc.plus (A:Mc):Mc:=⟨fun p q=>A.F p q∨(A.E p∧A.I q),A.I,A.E,A.e⟩
def Mc.opt (A:Mc):Mc:=⟨A.F,A.I,A.E,True⟩
def Mc.unit:Mc:=⟨fun _ _=>False,fun _=>False,fun _=>False,True⟩
def Mc.void:Mc:=⟨fun _ _=>False,fun _=>False,fun _=>False,False⟩
section
variable {N M K:Nat} {A B:Mc}
theorem b0n:Mc.unit.In N M:=⟨fun h=>h.elim,fun h=>h.elim,fun h=>h.elim⟩
theorem c8u:Mc.void.In N M:=⟨fun h=>h.elim,fun h=>h.elim,fun h=>h.elim⟩
theorem d0M (hA:A.In N M):A.opt.In N M:=⟨hA.F,hA.I,hA.E⟩
theorem c7j (hA:A.In N M):A.plus.In N M :=
 ⟨fun h=>h.elim (fun h=>hA.F h) (fun h=>⟨hA.E h.1,hA.I h.2⟩),hA.I,hA.E⟩
theorem d0V (hA:A.In N M) (hB:B.In N M):(A.alt B).In N M :=
 ⟨fun h=>h.elim (fun h=>hA.F h) (fun h=>hB.F h),fun h=>h.elim (fun h=>hA.I h) (fun h=>hB.I h),fun h=>h.elim (fun h=>hA.E h) (fun h=>hB.E h)⟩
theorem b7D (hA:A.In N M) (hB:B.In N M):(A.cat B).In N M :=
 ⟨fun h=>h.elim (fun h=>hA.F h) (fun h=>h.elim (fun h=>hB.F h) (fun h=>⟨hA.E h.1,hB.I h.2⟩)),fun h=>h.elim (fun h=>hA.I h) (fun h=>hB.I h.2),fun h=>h.elim (fun h=>hB.E h) (fun h=>hA.E h.2)⟩
variable (σ:Nat→Int→Prop)
def a5R (A:Mc):List Int→Nat→Prop
 | [],_=>False
 | a::w,p=>σ p a∧((w=[]∧A.E p)∨∃ q,A.F p q∧a5R A w q)
def Mc.L (A:Mc) (w:List Int):Prop:=(w=[]∧A.e)∨∃ p,A.I p∧a5R σ A w p
theorem a3M {A B:Mc} (P:Nat→Prop) (hF:∀ p q,P p→(A.F p q↔B.F p q)) (hE:∀ p,P p→(A.E p↔B.E p)) (hP:∀ p q,P p→A.F p q→P q):∀ w p,P p→(a5R σ A w p↔a5R σ B w p)
  | [],_,_=>Iff.rfl
  | a :: w, p, h => by
    simp only [a5R]
    refine and_congr_right fun _=>or_congr (and_congr_right fun _=>hE p h) (exists_congr fun q=>?_)
    constructor
    · rintro ⟨h1,h2⟩;exact ⟨(hF p q h).1 h1,(a3M P hF hE hP w q (hP p q h h1)).1 h2⟩
    · rintro ⟨h1,h2⟩;have h3:=(hF p q h).2 h1;exact ⟨h3,(a3M P hF hE hP w q (hP p q h h3)).2 h2⟩
theorem b7h (hA:A.In N M) (hB:B.In M K) (w:List Int) (p:Nat) (h:p < M):a5R σ (A.alt B) w p↔a5R σ A w p :=
 a3M σ (A:=A.alt B) (B:=A) (fun p=>p < M) (fun p q hp=>⟨fun h=>h.resolve_right fun h2=>by have:=(hB.F h2).1;omega,.inl⟩) (fun p hp=>⟨fun h=>h.resolve_right fun h2=>by have:=hB.E h2;omega,.inl⟩) (fun p q hp h=>by
  rcases h with h | h
  ·exact (hA.F h).2.2
  ·have:=(hB.F h).1;omega) w p h
theorem b3t (hA:A.In N M) (hB:B.In M K) (w:List Int) (p:Nat) (h:M≤p):a5R σ (A.alt B) w p↔a5R σ B w p :=
 a3M σ (A:=A.alt B) (B:=B) (fun p=>M≤p) (fun p q hp=>⟨fun h=>h.resolve_left fun h2=>by have:=(hA.F h2).1;omega,.inr⟩) (fun p hp=>⟨fun h=>h.resolve_left fun h2=>by have:=hA.E h2;omega,.inr⟩) (fun p q hp h=>by
  rcases h with h | h
  ·have:=(hA.F h).1;omega
  ·exact (hB.F h).2.1) w p h
theorem d3s (hA:A.In N M) (hB:B.In M K) (w:List Int):(A.alt B).L σ w↔A.L σ w∨B.L σ w:=by
 constructor
 ·rintro (⟨rfl,h | h⟩ | ⟨p,h | h,h2⟩)
  ·exact .inl (.inl ⟨rfl,h⟩)
  ·exact .inr (.inl ⟨rfl,h⟩)
  ·exact .inl (.inr ⟨p,h,(b7h σ hA hB w p (hA.I h).2).1 h2⟩)
  ·exact .inr (.inr ⟨p,h,(b3t σ hA hB w p (hB.I h).1).1 h2⟩)
 ·rintro ((⟨rfl,h⟩ | ⟨p,h,h2⟩) | (⟨rfl,h⟩ | ⟨p,h,h2⟩))
  ·exact .inl ⟨rfl,.inl h⟩
  ·exact .inr ⟨p,.inl h,(b7h σ hA hB w p (hA.I h).2).2 h2⟩
  ·exact .inl ⟨rfl,.inr h⟩
  ·exact .inr ⟨p,.inr h,(b3t σ hA hB w p (hB.I h).1).2 h2⟩
theorem a7G (hA:A.In N M) (hB:B.In M K) (w:List Int) (p:Nat) (h:M≤p):a5R σ (A.cat B) w p↔a5R σ B w p :=
 a3M σ (A:=A.cat B) (B:=B) (fun p=>M≤p) (fun p q hp=>⟨fun h=>by
   rcases h with h | h | h
   ·have:=(hA.F h).1;omega
   ·exact h
   ·have:=hA.E h.1;omega,fun h=>.inr (.inl h)⟩) (fun p hp=>⟨fun h=>h.resolve_right fun h2=>by have:=hA.E h2.2;omega,.inl⟩) (fun p q hp h=>by
  rcases h with h | h | h
  ·have:=(hA.F h).1;omega
  ·exact (hB.F h).2.1
  ·have:=hA.E h.1;omega) w p h
theorem a9c (hA:A.In N M) (hB:B.In M K):∀ w p,p < M→(a5R σ (A.cat B) w p↔∃ u v,w=u++v∧a5R σ A u p∧B.L σ v)
  | [], p, h => by
    constructor
    · exact fun h=>h.elim
    · rintro ⟨u,v,e,h1,h2⟩
      cases u with
      | nil=>exact h1
      | cons a u=>cases e
  | a :: w, p, h => by
    constructor
    · rintro ⟨hs,h1⟩
      rcases h1 with ⟨rfl,h1⟩ | ⟨q,h1,h2⟩
      · rcases h1 with h1 | ⟨h1,h3⟩
        · have:=hB.E h1;omega
        · exact ⟨[a],[],rfl,⟨hs,.inl ⟨rfl,h3⟩⟩,.inl ⟨rfl,h1⟩⟩
      · rcases h1 with h1 | h1 | ⟨h1,h3⟩
        · obtain ⟨u,v,e,h4,h5⟩:=(a9c hA hB w q (hA.F h1).2.2).1 h2
          exact ⟨a::u,v,by rw [e];rfl,⟨hs,.inr ⟨q,h1,h4⟩⟩,h5⟩
        · have:=(hB.F h1).1;omega
        · exact ⟨[a],w,rfl,⟨hs,.inl ⟨rfl,h1⟩⟩,.inr ⟨q,h3,(a7G σ hA hB w q (hB.I h3).1).1 h2⟩⟩
    · rintro ⟨u,v,e,h1,h2⟩
      cases u with
      | nil=>exact h1.elim
      | cons b u =>
        obtain ⟨rfl,rfl⟩:=List.cons.inj e
        obtain ⟨hs,h3⟩:=h1
        refine ⟨hs,?_⟩
        rcases h3 with ⟨rfl,h3⟩ | ⟨q,h3,h4⟩
        · rcases h2 with ⟨rfl,h2⟩ | ⟨q,h2,h4⟩
          · exact .inl ⟨rfl,.inr ⟨h2,h3⟩⟩
          · exact .inr ⟨q,.inr (.inr ⟨h3,h2⟩),(a7G σ hA hB _ q (hB.I h2).1).2 h4⟩
        · exact .inr ⟨q,.inl h3,(a9c hA hB _ q (hA.F h3).2.2).2 ⟨u,v,rfl,h4,h2⟩⟩
theorem b3T (hA:A.In N M) (hB:B.In M K) (w:List Int):(A.cat B).L σ w↔b5V (A.L σ) (B.L σ) w:=by
 constructor
 ·rintro (⟨rfl,h1,h2⟩ | ⟨p,h | ⟨h,h3⟩,h2⟩)
  ·exact ⟨[],[],rfl,.inl ⟨rfl,h1⟩,.inl ⟨rfl,h2⟩⟩
  ·obtain ⟨u,v,e,h4,h5⟩:=(a9c σ hA hB w p (hA.I h).2).1 h2
   exact ⟨u,v,e,.inr ⟨p,h,h4⟩,h5⟩
  ·exact ⟨[],w,rfl,.inl ⟨rfl,h⟩,.inr ⟨p,h3,(a7G σ hA hB w p (hB.I h3).1).1 h2⟩⟩
 ·rintro ⟨u,v,rfl,⟨rfl,h1⟩ | ⟨p,h1,h2⟩,h3⟩
  ·rcases h3 with ⟨rfl,h3⟩ | ⟨q,h3,h4⟩
   ·exact .inl ⟨rfl,h1,h3⟩
   ·exact .inr ⟨q,.inr ⟨h1,h3⟩,(a7G σ hA hB _ q (hB.I h3).1).2 h4⟩
  ·exact .inr ⟨p,.inl h1,(a9c σ hA hB _ p (hA.I h1).2).2 ⟨u,v,rfl,h2,h3⟩⟩
end
def b8t (L:List Int→Prop) (w:List Int):Prop:=∃ j,b6K L j w
theorem a1O {L:List Int→Prop}:∀ {k:Nat} {w:List Int},b6K L (k+1) w↔b5V L (b6K L k) w
  | 0, w => by
    constructor
    · rintro ⟨u,v,e,h1,h2⟩
      have h3:u=[]:=h1
      subst h3
      exact ⟨v,[],by rw [e];simp,h2,rfl⟩
    · rintro ⟨u,v,e,h1,h2⟩
      have h3:v=[]:=h2
      subst h3
      exact ⟨[],u,by rw [e];simp,rfl,h1⟩
  | k + 1, w => by
    constructor
    · rintro ⟨u,v,rfl,h1,h2⟩
      obtain ⟨u1,u2,rfl,h3,h4⟩:=a1O.1 h1
      exact ⟨u1,u2++v,List.append_assoc ..,h3,u2,v,rfl,h4,h2⟩
    · rintro ⟨u,v,rfl,h1,v1,v2,rfl,h2,h3⟩
      exact ⟨u++v1,v2,(List.append_assoc ..).symm,a1O.2 ⟨u,v1,rfl,h1,h2⟩,h3⟩
theorem a6s {L:List Int→Prop} (a:Nat):∀ {b:Nat} {w:List Int},b6K L (a+b) w↔b5V (b6K L a) (b6K L b) w
  | 0, w => by
    constructor
    · exact fun h=>⟨w,[],by simp,h,rfl⟩
    · rintro ⟨u,v,e,h1,h2⟩
      have h3:v=[]:=h2
      subst h3
      rw [e,List.append_nil];exact h1
  | b + 1, w => by
    constructor
    · rintro ⟨u,v,rfl,h1,h2⟩
      obtain ⟨u1,u2,rfl,h3,h4⟩:=(a6s a).1 h1
      exact ⟨u1,u2++v,List.append_assoc ..,h3,u2,v,rfl,h4,h2⟩
    · rintro ⟨u,v,rfl,h1,v1,v2,rfl,h2,h3⟩
      exact ⟨u++v1,v2,(List.append_assoc ..).symm,(a6s a).2 ⟨u,v1,rfl,h1,h2⟩,h3⟩
theorem b5b {L:List Int→Prop} {u v:List Int} (h1:L u):b8t L v→b8t L (u++v)
 | ⟨j,h⟩=>⟨j+1,a1O.2 ⟨u,v,rfl,h1,h⟩⟩
theorem a6Q {L:List Int→Prop}:∀ {j:Nat} {w:List Int},b6K L j w→w=[]∨∃ u v,w=u++v∧u≠[]∧L u∧b8t L v
  | 0,w,h=>.inl h
  | j + 1, w, h => by
    obtain ⟨u,v,rfl,h1,h2⟩:=a1O.1 h
    cases u with
    | nil=>exact a6Q h2
    | cons a u=>exact .inr ⟨a::u,v,rfl,List.cons_ne_nil _ _,h1,j,h2⟩
theorem a3P {L L' K K':List Int→Prop} (h1:∀ w,L w↔L' w) (h2:∀ w,K w↔K' w) (w:List Int):b5V L K w↔b5V L' K' w:=by
 have e1:L=L':=funext fun w=>propext (h1 w)
 have e2:K=K':=funext fun w=>propext (h2 w)
 rw [e1,e2]
section
variable (σ:Nat→Int→Prop) {A:Mc}
theorem c7k (w:List Int):A.opt.L σ w↔w=[]∨A.L σ w:=by
 have hr:∀ p,a5R σ A.opt w p↔a5R σ A w p:=fun p=>a3M σ (A:=A.opt) (B:=A) (fun _=>True) (fun _ _ _=>Iff.rfl) (fun _ _=>Iff.rfl) (fun _ _ _ _=>trivial) w p trivial
 constructor
 ·rintro (⟨h,_⟩ | ⟨p,h1,h2⟩)
  ·exact .inl h
  ·exact .inr (.inr ⟨p,h1,(hr p).1 h2⟩)
 ·rintro (h | ⟨h,_⟩ | ⟨p,h1,h2⟩)
  ·exact .inl ⟨h,trivial⟩
  ·exact .inl ⟨h,trivial⟩
  ·exact .inr ⟨p,h1,(hr p).2 h2⟩
theorem a6A (w:List Int):Mc.unit.L σ w↔w=[]:=⟨fun h=>h.elim (fun h=>h.1) (fun ⟨_,h,_⟩=>h.elim),fun h=>.inl ⟨h,trivial⟩⟩
theorem d1Y (w:List Int):Mc.void.L σ w↔False:=⟨fun h=>h.elim (fun h=>h.2) (fun ⟨_,h,_⟩=>h),fun h=>h.elim⟩
theorem a4X:∀ w p,a5R σ A.plus w p↔∃ u v,w=u++v∧a5R σ A u p∧b8t (A.L σ) v
  | [], p => by
    constructor
    · exact fun h=>h.elim
    · rintro ⟨u,v,e,h1,h2⟩
      cases u with
      | nil=>exact h1
      | cons a u=>cases e
  | a :: w, p => by
    constructor
    · rintro ⟨hs,⟨rfl,h1⟩ | ⟨q,h1 | ⟨h1,h3⟩,h2⟩⟩
      · exact ⟨[a],[],rfl,⟨hs,.inl ⟨rfl,h1⟩⟩,0,rfl⟩
      · obtain ⟨u,v,e,h4,h5⟩:=(a4X w q).1 h2
        exact ⟨a::u,v,by rw [e];rfl,⟨hs,.inr ⟨q,h1,h4⟩⟩,h5⟩
      · obtain ⟨u,v,e,h4,h5⟩:=(a4X w q).1 h2
        exact ⟨[a],w,rfl,⟨hs,.inl ⟨rfl,h1⟩⟩,by rw [e];exact b5b (.inr ⟨q,h3,h4⟩) h5⟩
    · rintro ⟨u,v,e,h1,h2⟩
      cases u with
      | nil=>exact h1.elim
      | cons b u =>
        obtain ⟨rfl,rfl⟩:=List.cons.inj e
        obtain ⟨hs,h3⟩:=h1
        refine ⟨hs,?_⟩
        rcases h3 with ⟨rfl,h3⟩ | ⟨q,h3,h4⟩
        · obtain ⟨j,hj⟩:=h2
          rcases a6Q hj with rfl | ⟨u1,v1,rfl,h4,h5,h6⟩
          · exact .inl ⟨rfl,h3⟩
          · rcases h5 with ⟨h5,_⟩ | ⟨q,h5,h7⟩
            · exact absurd h5 h4
            · exact .inr ⟨q,.inr ⟨h3,h5⟩,(a4X _ q).2 ⟨u1,v1,rfl,h7,h6⟩⟩
        · exact .inr ⟨q,.inl h3,(a4X _ q).2 ⟨u,v,rfl,h4,h2⟩⟩
theorem d1f (w:List Int):A.plus.L σ w↔b5V (A.L σ) (b8t (A.L σ)) w:=by
 constructor
 ·rintro (⟨rfl,h⟩ | ⟨p,h,h2⟩)
  ·exact ⟨[],[],rfl,.inl ⟨rfl,h⟩,0,rfl⟩
  ·obtain ⟨u,v,e,h4,h5⟩:=(a4X σ w p).1 h2
   exact ⟨u,v,e,.inr ⟨p,h,h4⟩,h5⟩
 ·rintro ⟨u,v,rfl,⟨rfl,h1⟩ | ⟨p,h1,h2⟩,h3⟩
  ·obtain ⟨j,hj⟩:=h3
   rcases a6Q hj with rfl | ⟨u1,v1,rfl,h4,h5,h6⟩
   ·exact .inl ⟨rfl,h1⟩
   ·rcases h5 with ⟨h5,_⟩ | ⟨q,h5,h7⟩
    ·exact absurd h5 h4
    ·exact .inr ⟨q,h5,(a4X σ _ q).2 ⟨u1,v1,rfl,h7,h6⟩⟩
  ·exact .inr ⟨p,h1,(a4X σ _ p).2 ⟨u,v,rfl,h2,h3⟩⟩
end
def a7f (x:Bag) (p:Nat):Prop:=p < 256∧x.has p=true
theorem a9b {x y:Bag} {p:Nat}:a7f (bun x y) p↔a7f x p∨a7f y p:=by
 unfold a7f;rw [b2L,Bool.or_eq_true,and_or_left]
theorem a3i {p:Nat}:a7f Bag.zero p↔False:=by
 unfold a7f;rw [Bag.zero_has];simp
theorem b5A {n p:Nat} (hn:n < 256):a7f (a3B n) p↔p=n:=by
 constructor
 ·rintro ⟨h,h2⟩;rw [a6q _ _ h] at h2;exact of_decide_eq_true h2
 ·rintro rfl;exact ⟨hn,by rw [a6q _ _ hn];exact decide_eq_true rfl⟩
def fol (lk:List Lk) (p q:Nat):Prop:=∃ l∈lk,a7f l.1 p∧a7f l.2 q
theorem a6N {p q:Nat}:fol [] p q↔False:=by simp [fol]
theorem a4x {l k:List Lk} {p q:Nat}:fol (l++k) p q↔fol l p q∨fol k p q:=by
 simp only [fol,List.mem_append,or_and_right,exists_or]
theorem b0y {a b:Bag} {p q:Nat}:fol [(a,b)] p q↔a7f a p∧a7f b q:=by simp [fol]
theorem c3L {l k:List Lk} (h:l.Perm k) {p q:Nat}:fol l p q↔fol k p q:=by
 simp only [fol,h.mem_iff]
def mcO (lk:List Lk) (x:Pc):Mc:=⟨fol lk,a7f x.first,a7f x.ends,x.empty=true⟩
theorem b7F {a b:Pc} {p:Nat}:a7f (a.join b).first p↔a7f a.first p∨(a.empty=true∧a7f b.first p):=by
 unfold Pc.join;dsimp only
 cases a.empty with
 | true=>rw [if_pos rfl,a9b];simp
 | false=>rw [if_neg dcd];simp
theorem b8h {a b:Pc} {p:Nat}:a7f (a.join b).ends p↔a7f b.ends p∨(b.empty=true∧a7f a.ends p):=by
 unfold Pc.join;dsimp only
 cases b.empty with
 | true=>rw [if_pos rfl,a9b];simp
 | false=>rw [if_neg dcd];simp
theorem c1B {a b:Pc}:(a.join b).empty=true↔a.empty=true∧b.empty=true:=by
 unfold Pc.join;dsimp only;rw [Bool.and_eq_true]
theorem c1X (l k:List Lk) (a b:Pc):mcO (l++k++[(a.ends,b.first)]) (a.join b)=(mcO l a).cat (mcO k b) :=
 b3J (fun p q=>by show fol _ p q↔fol l p q∨fol k p q∨_;rw [a4x,a4x,b0y,or_assoc];rfl) (fun p=>b7F) (fun p=>b8h) c1B
theorem c2A (l k:List Lk) (a b:Pc):mcO (l++k) ⟨bun a.first b.first,bun a.ends b.ends,a.empty||b.empty⟩=(mcO l a).alt (mcO k b) :=
 b3J (fun p q=>a4x) (fun p=>a9b) (fun p=>a9b) (by show (_||_)=true↔_;rw [Bool.or_eq_true];rfl)
theorem b6y:mcO [] Pc.nil=Mc.unit:=b3J (fun _ _=>a6N) (fun _=>a3i) (fun _=>a3i) (by show true=true↔True;simp)
theorem c0x:mcO [] default=Mc.void:=b3J (fun _ _=>a6N) (fun _=>a3i) (fun _=>a3i) (by show false=true↔False;simp)
section
variable (hi:Int) (g:Nat→Ly) (many:Nat)
def xkM (k:Nat):Mc:=if hi < 0∧k+1=many then (mcO (g k).lk (g k).pc).plus else mcO (g k).lk (g k).pc
def jjM:Nat→Mc
 | 0=>Mc.unit
 | k+1=>(jjM k).cat (xkM hi g many k)
def ttM:Nat→Nat→Mc
 | _,0=>Mc.unit
 | k,n+1=>((xkM hi g many k).cat (ttM (k+1) n)).opt
def b0q:Nat→Nat→List Pc
 | _,0=>[]
 | k,n+1=>(g k).pc::b0q (k+1) n
variable {hi:Int} {g:Nat→Ly} {many:Nat}
theorem b0X:∀ n k,b0q g k (n+1)=b0q g k n++[(g (k+n)).pc]
  | 0,k=>rfl
  | n + 1, k => by
    rw [b0q,b0X n (k+1),b0q,List.cons_append,show k+1+n=k+(n+1) by omega]
theorem b5r (lo:Nat):∀ k,a4v lo g k=b0q g lo (k - lo)
  | 0=>by rw [Nat.zero_sub];rfl
  | k + 1 => by
    rw [a4v]
    split
    · rw [b5r lo k,show k - lo=0 by omega,show k+1 - lo=0 by omega]
    · rw [b5r lo k,show k+1 - lo=(k - lo)+1 by omega,b0X,show lo+(k - lo)=k by omega]
theorem c8T {k p:Nat}:(xkM hi g many k).I p↔a7f (g k).pc.first p:=by unfold xkM;split <;> exact Iff.rfl
theorem c8v {k p:Nat}:(xkM hi g many k).E p↔a7f (g k).pc.ends p:=by unfold xkM;split <;> exact Iff.rfl
theorem c8H {k:Nat}:(xkM hi g many k).e↔(g k).pc.empty=true:=by unfold xkM;split <;> exact Iff.rfl
theorem d2y {k p q:Nat}:(xkM hi g many k).F p q↔fol ((g k).lk++(if hi < 0∧k+1=many then [((g k).pc.ends,(g k).pc.first)] else [])) p q:=by
 unfold xkM
 split
 ·rw [a4x,b0y];exact Iff.rfl
 ·rw [List.append_nil];exact Iff.rfl
theorem d0a {p q:Nat}:∀ k,fol (lkP hi g many k) p q↔∃ i,i < k∧(xkM hi g many i).F p q
  | 0=>⟨fun h=>(a6N.1 h).elim,fun ⟨i,h,_⟩=>by omega⟩
  | k + 1 => by
    rw [lkP,List.append_assoc,a4x,←d2y,d0a k]
    constructor
    · rintro (⟨i,h,h2⟩ | h)
      · exact ⟨i,by omega,h2⟩
      · exact ⟨k,by omega,h⟩
    · rintro ⟨i,h,h2⟩
      by_cases e:i=k
      · exact .inr (e▸h2)
      · exact .inl ⟨i,by omega,h2⟩
theorem c9t:∀ k,(∀ p,(jjM hi g many k).I p↔a7f (b3g g k).first p)∧(∀ p,(jjM hi g many k).E p↔a7f (b3g g k).ends p)∧((jjM hi g many k).e↔(b3g g k).empty=true)
  | 0=>⟨fun p=>a3i.symm,fun p=>a3i.symm,by show True↔true=true;simp⟩
  | k + 1 => by
    obtain ⟨h1,h2,h3⟩:=c9t k
    refine ⟨fun p=>?_,fun p=>?_,?_⟩
    · show (jjM hi g many k).I p∨((jjM hi g many k).e∧_)↔_
      rw [h1,h3,c8T];exact b7F.symm
    · show (xkM hi g many k).E p∨((xkM hi g many k).e∧(jjM hi g many k).E p)↔_
      rw [h2,c8H,c8v];exact b8h.symm
    · show _∧_↔_
      rw [h3,c8H];exact c1B.symm
theorem d0T {p q:Nat}:∀ k,(jjM hi g many k).F p q↔(∃ i,i < k∧(xkM hi g many i).F p q)∨fol (lkJ g k) p q
  | 0=>⟨fun h=>h.elim,fun h=>h.elim (fun ⟨i,h,_⟩=>by omega) (fun h=>a6N.1 h)⟩
  | k + 1 => by
    show _∨_∨_↔_
    rw [d0T k,(c9t k).2.1 p,c8T,lkJ,a4x,b0y]
    constructor
    · rintro ((⟨i,h,h2⟩ | h) | h | h)
      · exact .inl ⟨i,by omega,h2⟩
      · exact .inr (.inl h)
      · exact .inl ⟨k,by omega,h⟩
      · exact .inr (.inr h)
    · rintro (⟨i,h,h2⟩ | h | h)
      · by_cases e:i=k
        · exact .inr (.inl (e▸h2))
        · exact .inl (.inl ⟨i,by omega,h2⟩)
      · exact .inl (.inr h)
      · exact .inr (.inr h)
theorem c7H:∀ n k,(∀ p,(ttM hi g many k n).I p↔a7f (a2h (b0q g k n)).2.first p)∧(∀ p,(ttM hi g many k n).E p↔a7f (a2h (b0q g k n)).2.ends p)∧((ttM hi g many k n).e↔(a2h (b0q g k n)).2.empty=true)
  | 0,k=>⟨fun p=>a3i.symm,fun p=>a3i.symm,by show True↔true=true;simp⟩
  | n + 1, k => by
    obtain ⟨h1,h2,h3⟩:=c7H n (k+1)
    refine ⟨fun p=>?_,fun p=>?_,?_⟩
    · show (xkM hi g many k).I p∨((xkM hi g many k).e∧(ttM hi g many (k+1) n).I p)↔_
      rw [h1,c8H,c8T];exact b7F.symm
    · show (ttM hi g many (k+1) n).E p∨((ttM hi g many (k+1) n).e∧(xkM hi g many k).E p)↔_
      rw [h2,h3,c8v];exact b8h.symm
    · show True↔true=true;simp
theorem d1s {p q:Nat}:∀ n k,(ttM hi g many k n).F p q↔(∃ i,k≤i∧i < k+n∧(xkM hi g many i).F p q)∨fol (a2h (b0q g k n)).1 p q
  | 0,k=>⟨fun h=>h.elim,fun h=>h.elim (fun ⟨i,h,h2,_⟩=>by omega) (fun h=>a6N.1 h)⟩
  | n + 1, k => by
    show (xkM hi g many k).F p q∨(ttM hi g many (k+1) n).F p q∨((xkM hi g many k).E p∧(ttM hi g many (k+1) n).I q)↔_
    rw [d1s n (k+1),(c7H n (k+1)).1 q,c8v,b0q,a2h,a4x,b0y]
    constructor
    · rintro (h | (⟨i,h,h2,h3⟩ | h) | h)
      · exact .inl ⟨k,Nat.le_refl _,by omega,h⟩
      · exact .inl ⟨i,by omega,by omega,h3⟩
      · exact .inr (.inl h)
      · exact .inr (.inr h)
    · rintro (⟨i,h,h2,h3⟩ | h | h)
      · by_cases e:i=k
        · exact .inl (e▸h3)
        · exact .inr (.inl (.inl ⟨i,by omega,by omega,h3⟩))
      · exact .inr (.inl (.inr h))
      · exact .inr (.inr h)
theorem d1r {lo:Int} (hlo:0≤lo) (hm:lo.toNat≤a0m lo hi):mcO (a7O lo hi g).lk (a7O lo hi g).pc=(jjM hi g (a0m lo hi) lo.toNat).cat (ttM hi g (a0m lo hi) lo.toNat (a0m lo hi - lo.toNat)):=by
 obtain ⟨h1,h2,h3,h4⟩:=b1z (hi:=hi) hlo g (a0m lo hi) (a0m lo hi)
 rw [Nat.min_eq_right hm] at h2 h3
 obtain ⟨j1,j2,j3⟩:=c9t (hi:=hi) (g:=g) (many:=a0m lo hi) lo.toNat
 obtain ⟨t1,t2,t3⟩:=c7H (hi:=hi) (g:=g) (many:=a0m lo hi) (a0m lo hi - lo.toNat) lo.toNat
 rw [b5r] at h4
 refine b3J (fun p q=>?_) (fun p=>?_) (fun p=>?_) ?_
 ·show fol (a7O lo hi g).lk p q↔(jjM hi g (a0m lo hi) lo.toNat).F p q∨(ttM hi g (a0m lo hi) lo.toNat (a0m lo hi - lo.toNat)).F p q∨((jjM hi g (a0m lo hi) lo.toNat).E p∧(ttM hi g (a0m lo hi) lo.toNat (a0m lo hi - lo.toNat)).I q)
  simp only [a7O,h4,h3]
  rw [a4x,a4x,c3L h2,a4x,b0y,d0a,d0T,d1s,j2,t1]
  constructor
  ·rintro (((⟨i,h,h5⟩ | h) | h) | h)
   ·by_cases e:i < lo.toNat
    ·exact .inl (.inl ⟨i,e,h5⟩)
    ·exact .inr (.inl (.inl ⟨i,by omega,by omega,h5⟩))
   ·exact .inl (.inr h)
   ·exact .inr (.inl (.inr h))
   ·exact .inr (.inr h)
  ·rintro ((⟨i,h,h5⟩ | h) | (⟨i,h,h6,h5⟩ | h) | h)
   ·exact .inl (.inl (.inl ⟨i,by omega,h5⟩))
   ·exact .inl (.inl (.inr h))
   ·exact .inl (.inl (.inl ⟨i,by omega,h5⟩))
   ·exact .inl (.inr h)
   ·exact .inr h
 ·show a7f (a7O lo hi g).pc.first p↔(jjM hi g (a0m lo hi) lo.toNat).I p∨((jjM hi g (a0m lo hi) lo.toNat).e∧(ttM hi g (a0m lo hi) lo.toNat (a0m lo hi - lo.toNat)).I p)
  simp only [a7O,h4,h3]
  rw [j1,j3,t1];exact b7F
 ·show a7f (a7O lo hi g).pc.ends p↔(ttM hi g (a0m lo hi) lo.toNat (a0m lo hi - lo.toNat)).E p∨((ttM hi g (a0m lo hi) lo.toNat (a0m lo hi - lo.toNat)).e∧(jjM hi g (a0m lo hi) lo.toNat).E p)
  simp only [a7O,h4,h3]
  rw [j2,t2,t3];exact b8h
 ·show (a7O lo hi g).pc.empty=true↔(jjM hi g (a0m lo hi) lo.toNat).e∧(ttM hi g (a0m lo hi) lo.toNat (a0m lo hi - lo.toNat)).e
  simp only [a7O,h4,h3]
  rw [j3,t3];exact c1B
variable (σ:Nat→Int→Prop) {N w:Nat} {K:List Int→Prop}
theorem b1b {k:Nat} (h:(mcO (g k).lk (g k).pc).In (N+k * w) (N+k * w+w)):(xkM hi g many k).In (N+k * w) (N+(k+1) * w):=by
 rw [Nat.succ_mul,←Nat.add_assoc]
 unfold xkM;split
 ·exact c7j h
 ·exact h
theorem b6P:∀ k,(∀ i,i < k→(mcO (g i).lk (g i).pc).In (N+i * w) (N+i * w+w))→(jjM hi g many k).In N (N+k * w)
 | 0,_=>b0n
 | k+1,h=>b7D ((b6P k fun i hi=>h i omo).mono lrf (by rw [Nat.succ_mul];omega)) ((b1b (h k omo)).mono omo lrf)
theorem c1Q:∀ n k,(∀ i,i < k+n→(mcO (g i).lk (g i).pc).In (N+i * w) (N+i * w+w))→(ttM hi g many k n).In (N+k * w) (N+(k+n) * w)
  | 0,k,_=>b0n
  | n + 1, k, h => by
    have h1:=c1Q n (k+1) (fun i hi=>h i omo)
    have e:k+1+n=k+(n+1):=by omega
    rw [e] at h1
    have h2:(k+1) * w≤(k+(n+1)) * w:=Nat.mul_le_mul_right _ omo
    exact d0M (b7D ((b1b (h k omo)).mono lrf omo) (h1.mono (by rw [Nat.succ_mul];omega) lrf))
theorem c7r:∀ k,(hi < 0→k < many)→(∀ i,i < k→(mcO (g i).lk (g i).pc).In (N+i * w) (N+i * w+w)∧∀ u,(mcO (g i).lk (g i).pc).L σ u↔K u)→∀ u,(jjM hi g many k).L σ u↔b6K K k u
  | 0,_,_,u=>a6A σ u
  | k + 1, hk, h, u => by
    show ((jjM hi g many k).cat (xkM hi g many k)).L σ u↔b5V (b6K K k) K u
    rw [b3T σ (b6P k fun i hi=>(h i omo).1) (b1b (h k omo).1)]
    refine a3P (fun u=>c7r k (fun h=>by have:=hk h;omega) (fun i hi=>h i omo) u) (fun u=>?_) u
    unfold xkM
    rw [if_neg (fun h2=>by have:=hk h2.1;omega)]
    exact (h k omo).2 u
theorem d0H (hhi:¬ hi < 0):∀ n k,(∀ i,i < k+n→(mcO (g i).lk (g i).pc).In (N+i * w) (N+i * w+w)∧∀ u,(mcO (g i).lk (g i).pc).L σ u↔K u)→∀ u,(ttM hi g many k n).L σ u↔∃ j,j≤n∧b6K K j u
  | 0,k,_,u=>(a6A σ u).trans ⟨fun h=>⟨0,Nat.le_refl _,h⟩,fun ⟨j,h,h2⟩=>by obtain rfl:j=0:=omo;exact h2⟩
  | n + 1, k, h, u => by
    show (((xkM hi g many k).cat (ttM hi g many (k+1) n)).opt).L σ u↔_
    rw [c7k,b3T σ (b1b (h k omo).1) (c1Q n (k+1) fun i hi=>(h i omo).1),
      a3P (L':=K) (K':=fun u=>∃ j,j≤n∧b6K K j u) (fun u=>by unfold xkM;rw [if_neg (fun h2=>hhi h2.1)];exact (h k omo).2 u) (d0H hhi n (k+1) fun i hi=>h i omo)]
    constructor
    · rintro (h1 | ⟨a,b,e,h1,j,h2,h3⟩)
      · exact ⟨0,by omega,h1⟩
      · exact ⟨j+1,by omega,a1O.2 ⟨a,b,e,h1,h3⟩⟩
    · rintro ⟨j,h1,h2⟩
      cases j with
      | zero=>exact .inl h2
      | succ j =>
        obtain ⟨a,b,e,h3,h4⟩:=a1O.1 h2
        exact .inr ⟨a,b,e,h3,j,by omega,h4⟩
theorem d2d {lo:Int} (hlo:0≤lo) (hh:hi=-1∨(lo≤hi∧0≤hi)) (h:∀ i,i < a0m lo hi→(mcO (g i).lk (g i).pc).In (N+i * w) (N+i * w+w)∧∀ u,(mcO (g i).lk (g i).pc).L σ u↔K u) :
    (mcO (a7O lo hi g).lk (a7O lo hi g).pc).In N (N+a0m lo hi * w)∧∀ u,(mcO (a7O lo hi g).lk (a7O lo hi g).pc).L σ u↔∃ k:Nat,lo≤(k:Int)∧(hi < 0∨(k:Int)≤hi)∧b6K K k u:=by
  have hm:lo.toNat≤a0m lo hi:=by unfold a0m;split <;> (try split) <;> omega
  have hj:=b6P (hi:=hi) (g:=g) (many:=a0m lo hi) (N:=N) (w:=w) lo.toNat (fun i hi=>(h i omo).1)
  have ht:=c1Q (hi:=hi) (g:=g) (many:=a0m lo hi) (N:=N) (w:=w) (a0m lo hi - lo.toNat) lo.toNat (fun i hi=>(h i omo).1)
  rw [show lo.toNat+(a0m lo hi - lo.toNat)=a0m lo hi by omega] at ht
  have hle:lo.toNat * w≤a0m lo hi * w:=Nat.mul_le_mul_right _ hm
  rw [d1r hlo hm]
  refine ⟨b7D (hj.mono lrf omo) (ht.mono omo lrf),fun u=>?_⟩
  rw [b3T σ hj ht]
  by_cases hneg:hi < 0
  · have em:a0m lo hi=if 1 > lo then 1 else lo.toNat:=by unfold a0m;rw [if_pos hneg];split <;> rfl
    have hst:∀ (k:Nat),k+1=a0m lo hi→∀ u,(xkM hi g (a0m lo hi) k).L σ u↔b5V K (b8t K) u:=fun k hk u=>by
      unfold xkM
      rw [if_pos ⟨hneg,hk⟩,d1f]
      have e:Mc.L σ (mcO (g k).lk (g k).pc)=K:=funext fun u=>propext ((h k omo).2 u)
      rw [e]
    by_cases hl:1 > lo
    · have e0:lo.toNat=0:=by omega
      rw [if_pos hl] at em
      have hst0:=hst 0 omo
      have hx0:=b1b (hi:=hi) (many:=a0m lo hi) (h 0 omo).1
      rw [e0,em] at *
      show b5V (Mc.unit.L σ) ((((xkM hi g 1 0).cat Mc.unit).opt).L σ) u↔_
      constructor
      · rintro ⟨a,b,rfl,h1,h2⟩
        rw [a6A] at h1
        subst h1
        rw [c7k,b3T σ hx0 (b0n (M:=N+(0+1) * w))] at h2
        rcases h2 with rfl | ⟨c,d,rfl,h2,h3⟩
        · exact ⟨0,by omega,.inl hneg,rfl⟩
        · rw [a6A] at h3
          subst h3
          rw [hst0] at h2
          obtain ⟨c1,c2,rfl,h4,j,h5⟩:=h2
          exact ⟨j+1,by omega,.inl hneg,a1O.2 ⟨c1,c2,by simp,h4,h5⟩⟩
      · rintro ⟨k,h1,h2,h3⟩
        refine ⟨[],u,rfl,(a6A σ _).2 rfl,?_⟩
        rw [c7k,b3T σ hx0 (b0n (M:=N+(0+1) * w))]
        cases k with
        | zero=>exact .inl h3
        | succ k =>
          obtain ⟨c1,c2,rfl,h4,h5⟩:=a1O.1 h3
          exact .inr ⟨c1++c2,[],by simp,(hst0 _).2 ⟨c1,c2,rfl,h4,k,h5⟩,(a6A σ _).2 rfl⟩
    · rw [if_neg hl] at em
      obtain ⟨l,el⟩:∃ l,lo.toNat=l+1:=⟨lo.toNat - 1,by omega⟩
      have hstl:=hst l omo
      have hxl:=b1b (hi:=hi) (many:=a0m lo hi) (h l omo).1
      have hjl:=b6P (hi:=hi) (g:=g) (many:=a0m lo hi) (N:=N) (w:=w) l (fun i hi=>(h i omo).1)
      have hjL:=c7r σ (hi:=hi) (g:=g) (many:=a0m lo hi) (N:=N) (w:=w) (K:=K) l (fun _=>by omega) (fun i hi=>h i omo)
      rw [show a0m lo hi - lo.toNat=0 by omega,el]
      show b5V (((jjM hi g (a0m lo hi) l).cat (xkM hi g (a0m lo hi) l)).L σ) (Mc.unit.L σ) u↔_
      constructor
      · rintro ⟨a,b,rfl,h1,h2⟩
        rw [a6A] at h2
        subst h2
        rw [b3T σ hjl hxl] at h1
        obtain ⟨c,d,rfl,h3,h4⟩:=h1
        rw [hstl] at h4
        obtain ⟨d1,d2,rfl,h5,j,h6⟩:=h4
        exact ⟨l+(j+1),by omega,.inl hneg,(a6s l).2 ⟨c,d1++d2,by simp,(hjL _).1 h3,a1O.2 ⟨d1,d2,rfl,h5,h6⟩⟩⟩
      · rintro ⟨k,h1,h2,h3⟩
        obtain ⟨j,rfl⟩:∃ j,k=l+(j+1):=⟨k - l - 1,by omega⟩
        obtain ⟨c,d,rfl,h4,h5⟩:=(a6s l).1 h3
        obtain ⟨d1,d2,rfl,h6,h7⟩:=a1O.1 h5
        refine ⟨c++(d1++d2),[],by simp,?_,(a6A σ _).2 rfl⟩
        rw [b3T σ hjl hxl]
        exact ⟨c,d1++d2,rfl,(hjL _).2 h4,(hstl _).2 ⟨d1,d2,rfl,h6,j,h7⟩⟩
  · have hjL:=c7r σ (hi:=hi) (g:=g) (many:=a0m lo hi) (N:=N) (w:=w) (K:=K) lo.toNat (fun h=>absurd h hneg) (fun i hi=>h i omo)
    have htL:=d0H σ (hi:=hi) (g:=g) (many:=a0m lo hi) (N:=N) (w:=w) (K:=K) hneg (a0m lo hi - lo.toNat) lo.toNat (fun i hi=>h i omo)
    have em:a0m lo hi=hi.toNat:=by unfold a0m;rw [if_neg hneg]
    rw [a3P hjL htL]
    constructor
    · rintro ⟨a,b,rfl,h1,j,h2,h3⟩
      exact ⟨lo.toNat+j,by omega,.inr omo,(a6s _).2 ⟨a,b,rfl,h1,h3⟩⟩
    · rintro ⟨k,h1,h2,h3⟩
      obtain ⟨j,rfl⟩:∃ j,k=lo.toNat+j:=⟨k - lo.toNat,by omega⟩
      obtain ⟨a,b,rfl,h4,h5⟩:=(a6s _).1 h3
      exact ⟨a,b,rfl,h4,j,by omega,h5⟩
end
theorem b9d {L K J:List Int→Prop} {w:List Int}:b5V (b5V L K) J w↔b5V L (b5V K J) w:=by
 constructor
 ·rintro ⟨_,v,rfl,⟨a,b,rfl,h1,h2⟩,h3⟩
  exact ⟨a,b++v,List.append_assoc ..,h1,b,v,rfl,h2,h3⟩
 ·rintro ⟨a,_,rfl,h1,b,v,rfl,h2,h3⟩
  exact ⟨a++b,v,(List.append_assoc ..).symm,⟨a,b,rfl,h1,h2⟩,h3⟩
def a5M (σ:Nat→Int→Prop) (N:Nat) (on:List Bag):Prop:=∀ i,i < on.length→∀ a,σ (N+i) a↔a∈(on.getD i Bag.zero).list
section
variable {σ:Nat→Int→Prop} {N:Nat}
theorem a5M.left {a b:List Bag} (h:a5M σ N (a++b)):a5M σ N a:=fun i hi x=>by
 have:=h i (by rw [List.length_append];omega) x
 rwa [List.getD_eq_getElem?_getD,List.getElem?_append_left hi,←List.getD_eq_getElem?_getD] at this
theorem a5M.right {a b:List Bag} (h:a5M σ N (a++b)):a5M σ (N+a.length) b:=fun i hi x=>by
 have:=h (a.length+i) (by rw [List.length_append];omega) x
 rwa [List.getD_eq_getElem?_getD,List.getElem?_append_right omo,←List.getD_eq_getElem?_getD,Nat.add_sub_cancel_left,←Nat.add_assoc] at this
theorem a5M.pre {a l:List Bag} (h:a5M σ N l) (hp:a <+: l):a5M σ N a:=by
 obtain ⟨b,rfl⟩:=hp
 exact h.left
end
theorem c0m (g:Nat→Ly) (k:Nat):∀ d,onP g k <+: onP g (k+d)
 | 0=>List.prefix_refl _
 | d+1=>(c0m g k d).trans (List.prefix_append _ _)
theorem b9S (m:List UInt8→Bag):∀ (ts:List T) (N:Nat) (a:Ly),a.on <+: (a6u m ts N a).on
 | [],N,a=>by simp only [a6u];exact List.prefix_refl _
 | t::ts,N,a=>by simp only [a6u];exact (List.prefix_append _ _).trans (b9S m ts (N+t.w) ⟨a.on++(lay m t N).on,a.lk++(lay m t N).lk++[(a.pc.ends,(lay m t N).pc.first)],a.pc.join (lay m t N).pc⟩)
theorem c1l (m:List UInt8→Bag):∀ (ts:List T) (N:Nat) (a:Ly),a.on <+: (a6t m ts N a).on
 | [],N,a=>by simp only [a6t];exact List.prefix_refl _
 | t::ts,N,a=>by simp only [a6t];exact (List.prefix_append _ _).trans (c1l m ts (N+t.w) ⟨a.on++(lay m t N).on,a.lk++(lay m t N).lk,⟨bun a.pc.first (lay m t N).pc.first,bun a.pc.ends (lay m t N).pc.ends,a.pc.empty||(lay m t N).pc.empty⟩⟩)
mutual
theorem c4v {m:List UInt8→Bag} (hm:∀ s,(m s).ok) (σ:Nat→Int→Prop):∀ (t:T) (N:Nat),t.ok=true→N+t.w≤256→a5M σ N (lay m t N).on →
    (mcO (lay m t N).lk (lay m t N).pc).In N (N+t.w)∧∀ u,(mcO (lay m t N).lk (lay m t N).pc).L σ u↔c3t m t u
  | .name s, N, _, hN, hs => by
    simp only [T.w] at hN ⊢
    simp only [lay] at hs ⊢
    have hs0:∀ a,σ N a↔a∈(m s).list:=fun a=>hs 0 sml a
    have h1:∀ p,a7f (a3B N) p↔p=N:=fun p=>b5A omo
    refine ⟨⟨fun h=>(a6N.1 h).elim,fun h=>by have:=(h1 _).1 h;omega,fun h=>by have:=(h1 _).1 h;omega⟩,fun u=>?_⟩
    simp only [c3t]
    constructor
    · rintro (⟨_,h⟩ | ⟨p,h,h2⟩)
      · cases h
      · obtain rfl:=(h1 _).1 h
        cases u with
        | nil=>exact h2.elim
        | cons a u =>
          obtain ⟨h3,⟨rfl,_⟩ | ⟨q,h4,_⟩⟩:=h2
          · exact ⟨a,rfl,(hs0 a).1 h3⟩
          · exact (a6N.1 h4).elim
    · rintro ⟨a,rfl,h⟩
      exact .inr ⟨N,(h1 N).2 rfl,(hs0 a).2 h,.inl ⟨rfl,(h1 N).2 rfl⟩⟩
  | .times lo hi t, N, hok, hN, hs => by
    simp only [T.w] at hN ⊢
    simp only [T.ok,Bool.and_eq_true,Bool.or_eq_true,decide_eq_true_eq] at hok
    simp only [lay] at hs ⊢
    simp only [c3t]
    obtain ⟨⟨⟨hlo,hlo2⟩,hh⟩,hokt⟩:=hok
    have hkw:∀ k,k < a0m lo hi→N+k * t.w+t.w≤256:=fun k hk=>by
      have:(k+1) * t.w≤a0m lo hi * t.w:=Nat.mul_le_mul_right _ hk
      rw [Nat.succ_mul] at this
      rw [Nat.mul_comm] at hN
      omega
    rw [(b6Y hlo (fun k=>lay m t (N+k * t.w)) (fun _=>Bag.zero)).1] at hs
    have hg:∀ k,k < a0m lo hi→((fun k=>lay m t (N+k * t.w)) k).Ok (N+k * t.w) t.w:=fun k hk=>a4l hm t _ (hkw k hk)
    rw [Nat.mul_comm t.w]
    refine d2d σ hlo ?_ (fun i hil=>c4v hm σ t (N+i * t.w) hokt (hkw i hil) ?_)
    · rcases hh with hh | ⟨h1,h2⟩
      · exact .inl hh
      · split at h1
        · exact .inr ⟨by omega,by omega⟩
        · exact .inr ⟨by omega,by omega⟩
    · have h1:=hs.pre (a:=onP (fun k=>lay m t (N+k * t.w)) (i+1)) (by
        have:=c0m (fun k=>lay m t (N+k * t.w)) (i+1) (a0m lo hi - (i+1))
        rwa [show i+1+(a0m lo hi - (i+1))=a0m lo hi by omega] at this)
      have h2:=a5M.right (a:=onP (fun k=>lay m t (N+k * t.w)) i) (b:=lay m t (N+i * t.w) |>.on) h1
      rwa [b5q hg i omo] at h2
  | .many k ts, N, hok, hN, hs => by
    simp only [T.w] at hN ⊢
    simp only [T.ok,Bool.and_eq_true] at hok
    simp only [lay] at hs ⊢
    simp only [c3t]
    by_cases h3:k=3
    · simp only [if_pos h3] at hs ⊢
      obtain ⟨h1,h2⟩:=c6D hm σ ts N N ⟨[],[],default⟩ hok.2 hN sml (by rw [c0x];exact c8u) hs
      refine ⟨h1,fun u=>?_⟩
      rw [h2,c0x,d1Y];simp
    · simp only [if_neg h3] at hs ⊢
      obtain ⟨h1,h2⟩:=c6M hm σ ts N N ⟨[],[],Pc.nil⟩ hok.2 hN sml (by rw [b6y];exact b0n) hs
      refine ⟨h1,fun u=>?_⟩
      rw [h2]
      constructor
      · rintro ⟨a,b,rfl,h4,h5⟩
        rw [b6y,a6A] at h4
        subst h4
        exact h5
      · exact fun h=>⟨[],u,rfl,by rw [b6y,a6A],h⟩
theorem c6D {m:List UInt8→Bag} (hm:∀ s,(m s).ok) (σ:Nat→Int→Prop):∀ (ts:List T) (N N0:Nat) (a:Ly),T.okL ts=true→N+T.wL ts≤256→N0+a.on.length=N→(mcO a.lk a.pc).In N0 N→a5M σ N0 (a6t m ts N a).on →
    (mcO (a6t m ts N a).lk (a6t m ts N a).pc).In N0 (N+T.wL ts)∧∀ u,(mcO (a6t m ts N a).lk (a6t m ts N a).pc).L σ u↔(mcO a.lk a.pc).L σ u∨d1e m ts u
  | [], N, N0, a, _, hN, hl, ha, hs => by
    simp only [a6t,T.wL,Nat.add_zero,d1e,or_false]
    exact ⟨ha,fun u=>trivial⟩
  | t :: ts, N, N0, a, hok, hN, hl, ha, hs => by
    simp only [T.wL] at hN ⊢
    simp only [T.okL,Bool.and_eq_true] at hok
    simp only [a6t] at hs ⊢
    have hlen:=(a4l hm t N omo).len
    have hst:a5M σ N0 (a.on++(lay m t N).on):=hs.pre (c1l m ts (N+t.w) ⟨a.on++(lay m t N).on,a.lk++(lay m t N).lk,⟨bun a.pc.first (lay m t N).pc.first,bun a.pc.ends (lay m t N).pc.ends,a.pc.empty||(lay m t N).pc.empty⟩⟩)
    have hst2:a5M σ N (lay m t N).on:=by have:=hst.right;rwa [hl] at this
    obtain ⟨h1,h2⟩:=c4v hm σ t N hok.1 omo hst2
    obtain ⟨h3,h4⟩:=c6D hm σ ts (N+t.w) N0 ⟨a.on++(lay m t N).on,a.lk++(lay m t N).lk,⟨bun a.pc.first (lay m t N).pc.first,bun a.pc.ends (lay m t N).pc.ends,a.pc.empty||(lay m t N).pc.empty⟩⟩ hok.2 omo
      (by show N0+(a.on++(lay m t N).on).length=_;rw [List.length_append,hlen];omega) (by rw [c2A];exact d0V (ha.mono lrf omo) (h1.mono omo lrf)) hs
    refine ⟨by rw [←Nat.add_assoc];exact h3,fun u=>?_⟩
    rw [h4];dsimp only;rw [c2A,d3s σ ha h1,h2,or_assoc]
    simp only [d1e]
theorem c6M {m:List UInt8→Bag} (hm:∀ s,(m s).ok) (σ:Nat→Int→Prop):∀ (ts:List T) (N N0:Nat) (a:Ly),T.okL ts=true→N+T.wL ts≤256→N0+a.on.length=N→(mcO a.lk a.pc).In N0 N→a5M σ N0 (a6u m ts N a).on →
    (mcO (a6u m ts N a).lk (a6u m ts N a).pc).In N0 (N+T.wL ts)∧∀ u,(mcO (a6u m ts N a).lk (a6u m ts N a).pc).L σ u↔b5V ((mcO a.lk a.pc).L σ) (c9L m ts) u
  | [], N, N0, a, _, hN, hl, ha, hs => by
    simp only [a6u,T.wL,Nat.add_zero]
    exact ⟨ha,fun u=>⟨fun h=>⟨u,[],by simp,h,by simp only [c9L]⟩,by
      rintro ⟨x,y,rfl,h1,h2⟩
      simp only [c9L] at h2
      subst h2;rw [List.append_nil];exact h1⟩⟩
  | t :: ts, N, N0, a, hok, hN, hl, ha, hs => by
    simp only [T.wL] at hN ⊢
    simp only [T.okL,Bool.and_eq_true] at hok
    simp only [a6u] at hs ⊢
    have hlen:=(a4l hm t N omo).len
    have hst:a5M σ N0 (a.on++(lay m t N).on):=hs.pre (b9S m ts (N+t.w) ⟨a.on++(lay m t N).on,a.lk++(lay m t N).lk++[(a.pc.ends,(lay m t N).pc.first)],a.pc.join (lay m t N).pc⟩)
    have hst2:a5M σ N (lay m t N).on:=by have:=hst.right;rwa [hl] at this
    obtain ⟨h1,h2⟩:=c4v hm σ t N hok.1 omo hst2
    obtain ⟨h3,h4⟩:=c6M hm σ ts (N+t.w) N0 ⟨a.on++(lay m t N).on,a.lk++(lay m t N).lk++[(a.pc.ends,(lay m t N).pc.first)],a.pc.join (lay m t N).pc⟩ hok.2 omo
      (by show N0+(a.on++(lay m t N).on).length=_;rw [List.length_append,hlen];omega) (by rw [c1X];exact b7D (ha.mono lrf omo) (h1.mono omo lrf)) hs
    refine ⟨by rw [←Nat.add_assoc];exact h3,fun u=>?_⟩
    rw [h4];dsimp only
    rw [c1X,a3P (fun u=>(b3T σ ha h1 u).trans (a3P (fun _=>Iff.rfl) h2 u)) (fun _=>Iff.rfl),b9d]
    exact a3P (fun _=>Iff.rfl) (fun u=>by simp only [c9L];exact Iff.rfl) u
end
theorem c3X {x:Bag} {p:Nat} (h:x.has p=true):∃ p',a7f x p':=by
 by_cases hp:p < 256
 ·exact ⟨p,hp,h⟩
 ·obtain ⟨q,hq⟩:∃ q,p=64 * (q+3)+p % 64:=⟨p / 64 - 3,by omega⟩
  rw [hq,x.has_at _ _ omo] at h
  refine ⟨64 * 3+p % 64,by omega,?_⟩
  rw [x.has_at _ _ omo,←h]
  cases q <;> rfl
theorem c3Z {M:Nat} {x:Pc} {lk:List Lk} (h:(mcO lk x).In 0 M) (p:Nat):InB 0 M (links (fun _=>Bag.zero) lk p):=by
  have key:∀ (l:List Lk) (β:Nat→Bag),(∀ y∈l,y∈lk)→InB 0 M (β p)→InB 0 M (links β l p):=by
    intro l
    induction l with
    | nil=>exact fun β _ h=>h
    | cons y l ih =>
      intro β hy hb
      refine ih (a2i β y) (fun z hz=>hy z (List.mem_cons_of_mem _ hz)) ?_
      unfold a2i
      split
      · rename_i hh
        obtain ⟨p',hp'⟩:=c3X hh
        exact b4D hb (fun q hq h3=>(h.F (p:=p') (q:=q) ⟨y,hy y (List.mem_cons_self ..),hp',hq,h3⟩).2)
      · exact hb
  exact key lk _ (fun _ h=>h) (a3G _ _)
end
section
open Go.RowKit
set_option maxRecDepth 100000
set_option maxHeartbeats 1000000
section
variable {on:List Bag} {β:Nat→Bag} {ends:Bag} {a:Int}
end
theorem d1B {m:List UInt8→Bag} (hm:∀ s,(m s).ok) {t:T} (hok:t.ok=true) (hw:t.w≤256) :
  (mcO (lay m t 0).lk (lay m t 0).pc).In 0 (0+t.w)∧∀ u,(mcO (lay m t 0).lk (lay m t 0).pc).L (fun p a=>a∈(onF (lay m t 0).on p).list) u↔c3t m t u :=
 c4v hm _ t 0 hok omo (fun i hi a=>by show a∈(onF (lay m t 0).on (0+i)).list↔_;rw [Nat.zero_add])
section
variable {s:List UInt8} {l:List Mn} {wd:Nat} {on:List Bag} {β:Nat→Bag} {p:Pc} {e:List Pt}
theorem NetOk.inF (V:NetOk s l wd on β p e):InB 0 wd p.first:=by
 rcases V.is with ⟨_,_,_,_,h⟩ | ⟨t,hok,_,hw,_,_,h⟩
 ·rw [h];exact a3G _ _
 ·rw [h,hw];exact (a4l (a4r l) t 0 (by have:=V.w60;omega)).inB.1
theorem NetOk.inβ (V:NetOk s l wd on β p e) (q:Nat):InB 0 wd (β q):=by
 rcases V.is with ⟨_,_,_,h,_⟩ | ⟨t,hok,_,hw,_,h,_⟩
 ·rw [h];exact a3G _ _
 ·rw [h,hw];exact c3Z (d1B (a4r l) hok (by have:=V.w60;omega)).1 q
end
section
variable {on:List Bag} {β:Nat→Bag} {x:Bag} {a:Int} {k:Nat}
end
def b3a (l m:List Int):Nat→List Int
 | 0=>[]
 | k+1=>if (k:Int)∈l∧(k:Int)∈m then b3a l m k++[(k:Int)] else b3a l m k
theorem b7K (l m:List Int):∀ k,(b3a l m k).length≤k
 | 0=>Nat.le_refl _
 | k+1=>by have:=b7K l m k;unfold b3a;split <;> simp <;> omega
theorem b6U {l m:List Int}:∀ {k:Nat},b3a l m k=[]↔∀ j,j < k→¬ ((j:Int)∈l∧(j:Int)∈m)
  | 0=>⟨fun _ j hj=>by omega,fun _=>rfl⟩
  | k + 1 => by
    unfold b3a
    split
    · rename_i h;exact ⟨fun e=>by simp at e,fun e=>absurd h (e k (Nat.lt_succ_self _))⟩
    · rename_i h
      rw [b6U]
      exact ⟨fun e j hj=>by rcases Nat.lt_succ_iff_lt_or_eq.1 hj with h1 | rfl;exact e j h1;exact h,fun e j hj=>e j omo⟩
theorem d0P (l m:List Int) (hl:l.length≤1000000) (hm:m.length≤1000000):HPure Tryz.prog 43 [a0i l,a0i m,intV 1] (a0i (b3a l m 256)):=by
 refine a0k Tryz.func43 rfl kr _ _ _ rfl 55 rfl rfl (fun w F=>?_)
 refine ru 17 ?_
 refine a9J 7 9301 1 3 ((a4C [])) rfl dcd rfl (c':=1) rfl ?_
 refine a0l (α:=Nat×Nat) (fun x c=>⟨55,[(0,.v (a0i l)),(1,.v (a0i m)),(2,.v (intV 1)),(7,.v (.os 9301 x.2 0 (b3a l m x.1).length)),(8,.v (intV x.1))],[(9301,⟨x.2,(b3a l m x.1).length,1,3,0,a4C (b3a l m x.1)⟩)],c⟩) (fun x=>x.1≤256) (fun x=>256 - x.1) ((0,0)) om (a0b rfl lrf tsa hsa) (fun x c hx NhL1 hL1=>?_)
 revert hx hL1;obtain ⟨k,g⟩:=x;intro hx hL1;dsimp only at hx hL1 ⊢
 have hlen:=b7K l m k
 refine ru 7 ?_
 refine wdc (fun hr0 hc0=>?_) (fun hr0 hc0=>?_)
 ·refine ru 8 ?_
  refine cll (c2O l hl k) ?_
  refine ru 7 ?_
  refine cll (c2O m hm k) ?_
  refine ru 36 ?_
  refine wdc (fun hr1 hc1=>?_) (fun hr1 hc1=>?_)
  ·skip
   have hab:(k:Int)∈l∧(k:Int)∈m:=(by simpa using hr1);have hA:b3a l m (k+1)=b3a l m k++[(k:Int)]:=if_pos hab
   refine ru 3 ?_
   refine a0y 52 (a0d (id:=52) (hs:=[_]) ei_23.h omx rfl omx ⟨rfl,rfl,rfl,rfl,trivial⟩) rfl rfl pre0 rfl rfl (c':=c+1) rfl ?_
   first
   | refine a0y 53 (a0a ei_23.h omy rfl omy omy (a0D rfl omy) omy rfl) rfl rfl (a0h rfl (a0L rfl)) rfl rfl (c':=c+2) rfl ?_
   | refine a0y 53 (a0a ei_23.h omy rfl omy omy (a1a rfl omy) omy rfl) rfl rfl (a0h rfl (a0L rfl)) rfl rfl (c':=c+2) rfl ?_
   | refine a0y 53 (a0a ei_23.h omy rfl omy omy (a0Y rfl) omy rfl) rfl rfl (a0h rfl pre0) rfl rfl (c':=c+2) rfl ?_
   | refine a0y 53 (a0a ei_23.h omy rfl omy omy (a0G 1 (fun _ _=>default) rfl) omy rfl) rfl rfl (a0h rfl pre0) rfl rfl (c':=c+2) rfl ?_
   refine ru 9 ?_
   exact hL1 ((k+1,c+1)) _ _ omd omd (a0b rfl lrf (tsr rfl (tsr rfl (tsr rfl (a0u.cons rfl (by dsimp only;rw [hA];exact a3A sml) (a0u.cons rfl (a0K om) a0u.nil))))) (a0g.cons rfl (by dsimp only;rw [hA];exact a0N (enc:=fun x _=>intV x) (d:=0) rfl (fun i j hi hj=>.refl _) (fun j hj=>.refl _)) a0g.nil))
  have hA:b3a l m (k+1)=b3a l m k:=if_neg (by simpa using hr1)
  refine ru 8 ?_
  exact hL1 ((k+1,g)) _ _ omd omd (a0b rfl lrf (tsr rfl (tsr rfl (tsr rfl (a0u.cons rfl (by dsimp only;rw [hA];exact .refl _) (a0u.cons rfl (a0K om) a0u.nil))))) (a0g.cons rfl (by dsimp only;rw [hA];exact .refl _) a0g.nil))
 obtain rfl:k=256:=om
 refine ru 2 ?_
 refine a0c ?_
 refine ru 9 ?_
 refine a5q rfl (a0f rfl) [(9301,_)] rfl (a0h rfl pre0) ?_
 exact a2v (l:=b3a l m 256) (enc:=fun x _=>intV x) (d:=0) (List.mem_cons_self ..) rfl rfl lrf (fun i j hi hj=>.imm _)
theorem d1O (s E:Bag) (hs:s.ok) (hE:E.ok):decide (((b3a s.list E.list 256).length:Int) > 0)=decide (s.mix a7P E 4≠Bag.zero):=by
 have key:b3a s.list E.list 256=[]↔s.mix a7P E 4=Bag.zero:=by
  rw [b6U]
  constructor
  ·intro h
   refine Bag.ext_has _ _ (c8A s E hs hE) Bag.zero_ok (fun k hk=>?_)
   rw [c1E,Bag.zero_has]
   have:=h k hk
   rw [s.mem_list k hk,E.mem_list k hk] at this
   cases h1:s.has k <;> cases h2:E.has k <;> simp_all
  ·intro h j hj
   rw [s.mem_list j hj,E.mem_list j hj]
   rintro ⟨h1,h2⟩
   have:=c1E s E j
   rw [h,Bag.zero_has,h1,h2] at this;cases this
 by_cases h:b3a s.list E.list 256=[]
 ·rw [decide_eq_false (by rw [h];simp)];exact (decide_eq_false (show ¬ s.mix a7P E 4≠Bag.zero from fun e=>e (key.1 h))).symm
 ·rw [decide_eq_true (by have:=List.length_pos_iff.2 h;omega)];exact (decide_eq_true (show s.mix a7P E 4≠Bag.zero from fun e=>h (key.2 e))).symm
theorem b3X {b:Bag}:∀ {S:List Bag} {i k:Nat},(∀ j,j < k→S.getD j Bag.zero≠b)→k < S.length→S.getD k Bag.zero=b→ixA b S i=some (i+k)
  | [],i,k,_,h,_=>by simp at h
  | x :: r, i, 0, _, _, h2 => by
    show (if x=b then some i else _)=_
    rw [if_pos (show x=b from h2)];rfl
  | x :: r, i, k + 1, h, h1, h2 => by
    show (if x=b then some i else ixA b r (i+1))=_
    rw [if_neg (show ¬ x=b from h 0 omo),b3X (fun j hj=>h (j+1) omo) (by simpa using h1) h2]
    congr 1;omega
def rfV (S:List Bag) (s:Bag):Int:=match idA S s with | some n=>(n:Int) | none=>-1
theorem d0n {S:List Bag} {s:Bag} {i:Nat} (h1:1≤i) (hi:i < S.length) (hno:∀ j,1≤j→j < i→S.getD j Bag.zero≠s) (h:S.getD i Bag.zero=s):rfV S s=(i:Int):=by
 have e:∀ j,(S.drop 1).getD j Bag.zero=S.getD (1+j) Bag.zero:=fun j=>by rw [List.getD_eq_getElem?_getD,List.getD_eq_getElem?_getD,List.getElem?_drop]
 have:=b3X (b:=s) (S:=S.drop 1) (i:=1) (k:=i - 1) (fun j hj=>by rw [e];exact hno _ omo omo) (by rw [List.length_drop];omega) (by rw [e,show 1+(i - 1)=i by omega];exact h)
 unfold rfV idA;rw [this];show ((1+(i - 1):Nat):Int)=_;congr 1;omega
theorem c9Z {S:List Bag} {s:Bag} (hno:∀ j,1≤j→j < S.length→S.getD j Bag.zero≠s):rfV S s=-1:=by
 have:idA S s=none:=by
  unfold idA
  rw [b7r]
  intro hm
  obtain ⟨j,hj,he⟩:=List.getElem_of_mem hm
  rw [List.length_drop] at hj
  refine hno (1+j) omo omo ?_
  rw [List.getD_eq_getElem?_getD,List.getElem?_eq_getElem omo]
  rw [List.getElem_drop] at he
  exact he
 unfold rfV;rw [this]
@[reducible] def dtF (g2 g3 g4 n m:Nat):Nat→HV:=fun j=>match j with
 | 0=>.os 9102 g2 0 n
 | 1=>.os 9103 g3 0 m
 | _=>.os 9104 g4 0 n
@[reducible] def dtO (g g2 g3 g4 n m:Nat):HObj:=⟨g,1,3,29,0,fun _=>dtF g2 g3 g4 n m⟩
@[reducible] def sdF (S:List Bag):Nat→Nat→HV:=fun i _=>a0i (S.getD i Bag.zero).list
@[reducible] def sdO (g:Nat) (S:List Bag):HObj:=⟨g,S.length,1,23,0,sdF S⟩
@[reducible] def nxO (g:Nat) (R:List (List Int)):HObj:=⟨g,R.length,32,80,0,c2t R⟩
@[reducible] def acO (g:Nat) (A:List Bool):HObj:=⟨g,A.length,1,4,0,fun i _=>boolV (A.getD i false)⟩
@[reducible] def dtL (g g2 g3 g4:Nat) (S:List Bag) (R:List (List Int)) (A:List Bool):List (Nat×HObj):=[(9101,dtO g g2 g3 g4 S.length R.length),(9102,sdO g2 S),(9103,nxO g3 R),(9104,acO g4 A)]
theorem b9M {kp sh:List (Nat×HObj)} {g g2 g3 g4 n m:Nat} {o2 o3 o4:HObj} (k2:hget kp 9102=some o2) (e2:o2.g=g2) (k3:hget kp 9103=some o3) (e3:o3.g=g3) (k4:hget kp 9104=some o4) (e4:o4.g=g4):OKz kp sh (dtO g g2 g3 g4 n m) (dtO g g2 g3 g4 n m):=d3R (.os _ _ _ _ _ k2 e2) (.os _ _ _ _ _ k3 e3) (.os _ _ _ _ _ k4 e4)
theorem c1y {kp sh:List (Nat×HObj)} {g:Nat} {S:List Bag}:OKz kp sh (sdO g S) (sdO g S):=a2K rfl fun _ _ _ _=>(show Fz sh (a0i _) (a0i _) from Frz.fz)
theorem c8m (g g2 g3 g4:Nat) (S:List Bag) (R:List (List Int)) (A:List Bool) (hS:S.length≤1000) (hok:∀ b∈S,b.ok) (s:Bag) (hs:s.ok):a3K Tryz.prog 42 [.pt 9101 g 0 0,a0i s.list] (dtL g g2 g3 g4 S R A) (intV (rfV S s)) (dtL g g2 g3 g4 S R A):=by
 intro c
 refine a0p Tryz.func42 rfl kr _ _ _ _ rfl 25 rfl rfl (fun X ok hX=>?_)
 refine ru 12 ?_
 refine a0l (α:=Nat) (fun x c=>⟨25,[(0,.v (.pt 9101 g 0 0)),(1,.v (a0i s.list)),(5,.v (intV x))],[(9101,dtO g g2 g3 g4 S.length R.length),(9102,sdO g2 S),(9103,nxO g3 R),(9104,acO g4 A)],c⟩) (fun x=>1≤x∧(x≤S.length∨x=1)∧∀ j,1≤j→j < x→S.getD j Bag.zero≠s) (fun x=>S.length+1 - x) (1) (by exact ⟨Nat.le_refl _,.inr rfl,fun j h1 h2=>by omega⟩) (a0b rfl lrf tsa hsa) (fun i c hx NhL1 hL1=>?_)
 (try dsimp only at hx hL1 ⊢)
 obtain ⟨hi1,hi2,hno⟩:=hx
 refine ru 12 ?_
 refine wdc (fun hr0 hc0=>?_) (fun hr0 hc0=>?_)
 ·skip
  have hil:i < S.length:=om
  refine ru 13 ?_
  refine rvl (a0i (S.getD i Bag.zero).list) ((by show a0i (S.getD (0+i) Bag.zero).list=_;rw [Nat.zero_add])) ?_
  refine ru 1 ?_
  refine cll (a4Y (S.getD i Bag.zero).list s.list (a9o _) (a9o _)) ?_
  refine ru 2 ?_
  refine wdc (fun hr1 hc1=>?_) (fun hr1 hc1=>?_)
  ·skip
   have he:S.getD i Bag.zero=s:=Bag.ext_list _ _ (b7m hok hil) hs (by simpa using hr1)
   refine ru 9 ?_
   refine a0q ?_
   refine ru 2 ?_
   refine fr1 ok hX rw1 (()) (trivial) ((by rw [d0n hi1 hil hno he];exact kza)) ?_
   exact ⟨⟨_,rfl,(b9M rfl rfl rfl rfl rfl rfl)⟩,⟨⟨_,rfl,c1y⟩,⟨⟨_,rfl,(a2K rfl fun _ _ _ _=>.imm _)⟩,⟨⟨_,rfl,(a2K rfl fun _ _ _ _=>.imm _)⟩,trivial⟩⟩⟩⟩
  have he:S.getD i Bag.zero≠s:=(fun h=>by have h9:decide ((S.getD i Bag.zero).list=s.list)=false:=hr1;rw [h] at h9;simp at h9)
  refine ru 8 ?_
  exact hL1 (i+1) _ _ (by (try dsimp only);exact ⟨by omega,by omega,fun j h1 h2=>by rcases Nat.lt_succ_iff_lt_or_eq.1 h2 with h | rfl;exact hno j h1 h;exact he⟩) omd (a0b rfl lrf (tsr rfl (tsr rfl (a0u.cons rfl (a0K om) a0u.nil))) hsa)
 have hie:S.length≤i:=om
 refine ru 2 ?_
 refine a0c ?_
 refine ru 8 ?_
 refine fr1 ok hX rw1 (()) (trivial) ((by rw [c9Z (fun j h1 h2=>hno j h1 om)];exact kza)) ?_
 exact ⟨⟨_,rfl,(b9M rfl rfl rfl rfl rfl rfl)⟩,⟨⟨_,rfl,c1y⟩,⟨⟨_,rfl,(a2K rfl fun _ _ _ _=>.imm _)⟩,⟨⟨_,rfl,(a2K rfl fun _ _ _ _=>.imm _)⟩,trivial⟩⟩⟩⟩
set_option maxHeartbeats 2000000
@[reducible] def mbO (g n:Nat) (m:Nat→Bool):HObj:=⟨g,n,1,4,0,fun q _=>boolV (m q)⟩
def b3L (l:List Int) (m:Nat→Bool):Nat→Nat→Bool
 | 0=>m
 | k+1=>fun q=>b3L l m k q||decide ((q:Int)=l.getD k 0)
def c9v (β:Nat→Bag) (L:List Int) (M:Nat→Bool):Nat→Nat→Bool
 | 0=>M
 | i+1=>b3L (β (L.getD i 0).toNat).list (c9v β L M i) (β (L.getD i 0).toNat).list.length
def m0L (a:Nat) (first:Bag):List Int:=if a=0 then first.list else []
def a2V (β:Nat→Bag) (first:Bag) (S:List Bag) (a:Nat):Nat→Bool:=c9v β (S.getD a Bag.zero).list (b3L (m0L a first) (fun _=>false) (m0L a first).length) (S.getD a Bag.zero).list.length
def inK (l:List Int) (q:Nat) (B:Nat→List Int):Nat→Nat→List Int
 | 0=>B
 | k+1=>fun s=>if l.getD k 0=(s:Int) then inK l q B k s++[(q:Int)] else inK l q B k s
def a4h (m:Nat→Bool) (on:List Bag):Nat→Nat→List Int
 | 0=>fun _=>[]
 | q+1=>if m q=true then inK (onF on q).list q (a4h m on q) (onF on q).list.length else a4h m on q
theorem b6d {l:List Int} {q:Nat} {B:Nat→List Int}:∀ k s,(inK l q B k s).length≤(B s).length+k
  | 0,s=>Nat.le_refl _
  | k + 1, s => by
    have:=b6d (l:=l) (q:=q) (B:=B) k s
    show (if _ then _ else _:List Int).length≤_
    split
    · rw [List.length_append];simp;omega
    · omega
theorem b7l {m:Nat→Bool} {on:List Bag}:∀ q s,(a4h m on q s).length≤q * 256
  | 0,s=>Nat.zero_le _
  | q + 1, s => by
    have:=b7l (m:=m) (on:=on) q s
    unfold a4h
    split
    · have h2:=b6d (l:=(onF on q).list) (q:=q) (B:=a4h m on q) (onF on q).list.length s
      have:=a3a (onF on q)
      omega
    · omega
theorem b9T {g n k:Nat} {l:List Int} {m0:Nat→Bool} {v:Int} {F:HV} (hF:F=boolV true) (hv:l.getD k 0=v) (h0:0≤v):a2m ⟨g,n,1,4,0,upd (fun q _=>boolV (b3L l m0 k q)) (0+v.toNat) 0 1 (fun j=>F.cell j)⟩ (mbO g n (b3L l m0 (k+1))):=.of fun i j hi hj=>by
 subst hF
 obtain rfl:j=0:=by omega
 show Sb _ (boolV (b3L l m0 k i||decide ((i:Int)=l.getD k 0)))
 rw [hv]
 by_cases h:i=v.toNat
 ·rw [a4t ⟨by omega,by omega,by omega⟩,show decide ((i:Int)=v)=true from decide_eq_true omo,Bool.or_true];exact .refl _
 ·rw [a1G omo,show decide ((i:Int)=v)=false from decide_eq_false omo,Bool.or_false];exact .refl _
@[reducible] def rwO (g:Nat) (l:List Int):HObj:=⟨g,l.length,1,3,0,a4C l⟩
@[reducible] def rwb (gs:Nat→Nat) (B:Nat→List Int):Nat→HObj:=fun s=>rwO (gs s) (B s)
@[reducible] def arO (g:Nat) (ob:Nat→HObj):HObj:=⟨g,1,32,104,0,c5N 10000 ob⟩
theorem c9c {b i id c m:Nat} {ob:Nat→HObj}:c6v b ob i id c m 0 (0+i * 1)=.os id c 0 m:=by
 show (if 0+i * 1=i then _ else _)=_
 rw [if_pos omo]
theorem b2q {C:Ctx} {n clk:Nat} {tm:List (Nat×TV)} (o id b i N go g m sz:Nat) (ty ty2:TypeId) (f:Nat→Nat→HV) (L:List (Nat×HObj)) (ob:Nat→HObj) (hoi:ob i=⟨g,m,sz,ty2,0,f⟩) (hi:i < N) (hob:o < b) (hid:id < b) (hne:id≠o) (hL:b5l b id L=true) {c':Nat} (hc:clk+1=c') :
  a4D C ⟨n,tm,(o,⟨go,1,N,ty,0,c5N b ob⟩)::(L++a5B b ob (fun _=>true) N),clk⟩ ⟨n,tm,(o,⟨go,1,N,ty,0,c6v b ob i id clk m⟩)::(id,⟨clk,m,sz,ty2,0,f⟩)::(L++a5B b ob (fun k=>k != i) N),c'⟩:=by
 subst hc
 have:=b4m (C:=C) (n:=n) (clk:=clk) (tm:=tm) o id b i N go ty L ob hi hob hid hne hL (by rw [hoi];exact Nat.zero_le _)
 rw [hoi] at this
 exact this
theorem d3g {zs:List Value} (hz:zs=List.replicate 32 (Value.slice none 0 0)):∀ j,j < 32→(HV.imm (zs.getD j undef))=.imm (.slice none 0 0):=fun j hj=>by
 subst hz;rw [List.getD_eq_getElem?_getD,List.getElem?_replicate,if_pos hj];rfl
set_option maxHeartbeats 4000000
theorem d1G (g g2 g3 g4:Nat) (S:List Bag) (R:List (List Int)) (A:List Bool) (wd:Nat) (on:List Bag) (β:Nat→Bag) (p:Pc) (hw:wd≤256) (hF:InB 0 wd p.first) (hβ:∀ q,InB 0 wd (β q)) (a:Nat) (ha:a < S.length) (hS:S.length≤1000) (hSa:InB 0 wd (S.getD a Bag.zero)):a3K Tryz.prog 41 [.pt 9101 g 0 0,ndR wd on β p,intV (a:Int)] (dtL g g2 g3 g4 S R A) (.agg 32 (fun s=>a0i (a4h (a2V β p.first S a) on wd s))) (dtL g g2 g3 g4 S R A):=by
 intro c0
 obtain ⟨nl,hzs⟩:∃ nl,nl=List.replicate 32 (Value.slice none 0 0):=⟨_,rfl⟩
 refine a0p Tryz.func41 rfl kr _ _ _ _ rfl 118 rfl rfl (fun X ok hX=>?_)
 refine ru 11 ?_
 refine a0y 19 (b2Z (id:=19) (n:=_) (m:=_) ei_27.h omx omx rfl rfl rfl rfl omx omx omx rfl) rfl rfl pre0 rfl rfl (c':=c0+3) rfl ?_
 refine ru 10 ?_
 refine a0l (α:=Nat) (fun x c=>⟨118,[(0,.v (.pt 9101 g 0 0)),(2,.v (intV (a:Int))),(4,.v (.pt 4 c0 0 0)),(6,.v (.pt 6 (c0+1) 0 0)),(7,.v (.os 19 (c0+2) 0 wd)),(8,.v (intV x))],[(9101,dtO g g2 g3 g4 S.length R.length),(9102,sdO g2 S),(9103,nxO g3 R),(9104,acO g4 A),(4,⟨c0,1,5,61,0,fun _=>ndF (.sl 1 wd (lrF (onF on))) (.sl 1 wd (lrF β)) p 0⟩),(6,⟨c0+1,1,32,104,0,fun _ j=>.imm (nl.getD j undef)⟩),(19,mbO (c0+2) wd (b3L (m0L a p.first) (fun _=>false) x))],c⟩) (fun x=>x≤(m0L a p.first).length) (fun x=>(m0L a p.first).length - x) (0) om (a0b rfl lrf tsa (hsr rfl (hsr rfl (hsr rfl (hsr rfl (hsr rfl (a0g.cons rfl (.of fun i j hi hj=>by subst hzs;exact .refl _) (a0g.cons rfl (.of fun i j hi hj=>by obtain rfl:j=0:=om;exact .refl _) a0g.nil)))))))) (fun i c hx NhL1 hL1=>?_)
 (try dsimp only at hx hL1 ⊢)
 refine ru 14 ?_
 refine wdc (fun hr0 hc0=>?_) (fun hr0 hc0=>?_)
 ·skip
  have ha0:a=0:=(by simp at hr0;omega);have hm0:m0L a p.first=p.first.list:=if_pos ha0;have hil:i < p.first.list.length:=(by simp at hr0;omega);have hlb:=a3a p.first;obtain ⟨v,hv256,hvA,hv⟩:=a5c p.first hil;have hvw:=hF v hv256 hvA
  refine ru 11 ?_
  refine rvl (intV (v:Int)) ((by show intV (p.first.list.getD i 0)=_;rw [hv])) ?_
  refine ru 10 ?_
  exact hL1 (i+1) _ _ (by (try dsimp only);rw [hm0];omega) (by (try dsimp only);rw [hm0];omega) (a0b rfl lrf (tsr rfl (tsr rfl (tsr rfl (tsr rfl (tsr rfl (a0u.cons rfl (a0K om) a0u.nil)))))) (hsr rfl (hsr rfl (hsr rfl (hsr rfl (hsr rfl (hsr rfl (a0g.cons rfl (b9T rfl (by rw [hm0];exact hv) om) a0g.nil))))))))
 have hie:i=(m0L a p.first).length:=(by by_cases h:a=0;(have e:m0L a p.first=p.first.list:=if_pos h;rw [e] at hx ⊢;simp [h] at hr0;omega);(have e:m0L a p.first=[]:=if_neg h;rw [e] at hx ⊢;simp at hx ⊢;omega));subst hie
 refine ru 2 ?_
 refine a0c ?_
 refine ru 9 ?_
 refine a0l (α:=Nat) (fun x c=>⟨118,[(0,.v (.pt 9101 g 0 0)),(2,.v (intV (a:Int))),(4,.v (.pt 4 c0 0 0)),(6,.v (.pt 6 (c0+1) 0 0)),(7,.v (.os 19 (c0+2) 0 wd)),(9,.v (intV x))],[(9101,dtO g g2 g3 g4 S.length R.length),(9102,sdO g2 S),(9103,nxO g3 R),(9104,acO g4 A),(4,⟨c0,1,5,61,0,fun _=>ndF (.sl 1 wd (lrF (onF on))) (.sl 1 wd (lrF β)) p 0⟩),(6,⟨c0+1,1,32,104,0,fun _ j=>.imm (nl.getD j undef)⟩),(19,mbO (c0+2) wd (c9v β (S.getD a Bag.zero).list (b3L (m0L a p.first) (fun _=>false) (m0L a p.first).length) x))],c⟩) (fun x=>x≤(S.getD a Bag.zero).list.length) (fun x=>(S.getD a Bag.zero).list.length - x) (0) om (a0b rfl lrf tsa hsa) (fun i c hx NhL2 hL2=>?_)
 (try dsimp only at hx hL2 ⊢)
 refine ru 11 ?_
 refine rvl (a0i (S.getD a Bag.zero).list) ((by show a0i (S.getD (0+a) Bag.zero).list=_;rw [Nat.zero_add])) ?_
 refine ru 4 ?_
 refine wdc (fun hr1 hc1=>?_) (fun hr1 hc1=>?_)
 ·skip
  have hil:i < (S.getD a Bag.zero).list.length:=om;have hlb:=a3a (S.getD a Bag.zero);obtain ⟨v,hv256,hvA,hv⟩:=a5c (S.getD a Bag.zero) hil;have hvw:=hSa v hv256 hvA;have hom:c9v β (S.getD a Bag.zero).list (b3L (m0L a p.first) (fun _=>false) (m0L a p.first).length) (i+1)=b3L (β v).list (c9v β (S.getD a Bag.zero).list (b3L (m0L a p.first) (fun _=>false) (m0L a p.first).length) i) (β v).list.length:=(by show b3L (β ((S.getD a Bag.zero).list.getD i 0).toNat).list _ _=_;rw [hv];rfl)
  refine ru 14 ?_
  first
  | refine a3d 58 (HOp.val (v':=a0i (S.getD a Bag.zero).list) (a0r ty_23.h rfl omy omy (fun h=>(by first | rfl | cases h))) ((by show a0i (S.getD (0+a) Bag.zero).list=_;rw [Nat.zero_add]))) rfl rfl (a0L rfl) rfl rfl (k':=9) rfl ?_
  | refine a3d 58 (HOp.val (v':=a0i (S.getD a Bag.zero).list) (a0j ty_23.h rfl omy (fun h=>(by first | rfl | cases h))) ((by show a0i (S.getD (0+a) Bag.zero).list=_;rw [Nat.zero_add]))) rfl rfl pre0 rfl rfl (k':=9) rfl ?_
  refine ru 2 ?_
  first
  | refine a3d 61 (HOp.val (v':=intV (v:Int)) (a0r ty_3.h rfl omy omy (fun h=>(by first | rfl | cases h))) ((by show intV ((S.getD a Bag.zero).list.getD i 0)=_;rw [hv]))) rfl rfl (a0L rfl) rfl rfl (k':=12) rfl ?_
  | refine a3d 61 (HOp.val (v':=intV (v:Int)) (a0j ty_3.h rfl omy (fun h=>(by first | rfl | cases h))) ((by show intV ((S.getD a Bag.zero).list.getD i 0)=_;rw [hv]))) rfl rfl pre0 rfl rfl (k':=12) rfl ?_
  refine ru 1 ?_
  first
  | refine a3d 63 (HOp.val (v':=a0i (β v).list) (a0r ty_23.h rfl omy omy (fun h=>(by first | rfl | cases h))) (rfl)) rfl rfl (a0L rfl) rfl rfl (k':=14) rfl ?_
  | refine a3d 63 (HOp.val (v':=a0i (β v).list) (a0j ty_23.h rfl omy (fun h=>(by first | rfl | cases h))) (rfl)) rfl rfl pre0 rfl rfl (k':=14) rfl ?_
  refine ru 9 ?_
  refine a0l (α:=Nat) (fun x c=>⟨118,[(0,.v (.pt 9101 g 0 0)),(2,.v (intV (a:Int))),(4,.v (.pt 4 c0 0 0)),(6,.v (.pt 6 (c0+1) 0 0)),(7,.v (.os 19 (c0+2) 0 wd)),(9,.v (intV i)),(10,.v (a0i (β v).list)),(11,.v (intV x))],[(9101,dtO g g2 g3 g4 S.length R.length),(9102,sdO g2 S),(9103,nxO g3 R),(9104,acO g4 A),(4,⟨c0,1,5,61,0,fun _=>ndF (.sl 1 wd (lrF (onF on))) (.sl 1 wd (lrF β)) p 0⟩),(6,⟨c0+1,1,32,104,0,fun _ j=>.imm (nl.getD j undef)⟩),(19,mbO (c0+2) wd (b3L (β v).list (c9v β (S.getD a Bag.zero).list (b3L (m0L a p.first) (fun _=>false) (m0L a p.first).length) i) x))],c⟩) (fun x=>x≤(β v).list.length) (fun x=>(β v).list.length - x) (0) om (a0b rfl lrf tsa hsa) (fun k c hx NhL3 hL3=>?_)
  (try dsimp only at hx hL3 ⊢)
  refine ru 9 ?_
  refine wdc (fun hr2 hc2=>?_) (fun hr2 hc2=>?_)
  ·skip
   have hkl:k < (β v).list.length:=om;have hlc:=a3a (β v);obtain ⟨u,hu256,huA,hu⟩:=a5c (β v) hkl;have huw:=hβ v u hu256 huA
   refine ru 10 ?_
   refine rvl (intV (u:Int)) ((by show intV ((β v).list.getD k 0)=_;rw [hu])) ?_
   refine ru 10 ?_
   exact hL3 (k+1) _ _ omd omd (a0b rfl lrf (tsr rfl (tsr rfl (tsr rfl (tsr rfl (tsr rfl (tsr rfl (tsr rfl (a0u.cons rfl (a0K om) a0u.nil)))))))) (hsr rfl (hsr rfl (hsr rfl (hsr rfl (hsr rfl (hsr rfl (a0g.cons rfl (b9T rfl hu om) a0g.nil))))))))
  obtain rfl:k=(β v).list.length:=om
  refine ru 2 ?_
  refine a0c ?_
  refine ru 8 ?_
  exact hL2 (i+1) _ _ omd omd (a0b rfl lrf (tsr rfl (tsr rfl (tsr rfl (tsr rfl (tsr rfl (a0u.cons rfl (a0K om) a0u.nil)))))) (hsr rfl (hsr rfl (hsr rfl (hsr rfl (hsr rfl (hsr rfl (a0g.cons rfl (by rw [hom];exact .refl _) a0g.nil))))))))
 obtain rfl:i=(S.getD a Bag.zero).list.length:=om;let k0:=c
 refine ru 2 ?_
 refine a0c ?_
 refine ru 4 ?_
 refine s0 (b1l (m:=32) (hs:=[]) ar_104.h rfl rfl trivial) ?_
 refine ru 6 ?_
 refine (a6P (hp':=(12,⟨k0,1,32,104,0,fun _ j=>.imm (nl.getD j undef)⟩)::[(9101,dtO g g2 g3 g4 S.length R.length),(9102,sdO g2 S),(9103,nxO g3 R),(9104,acO g4 A),(4,⟨c0,1,5,61,0,fun _=>ndF (.sl 1 wd (lrF (onF on))) (.sl 1 wd (lrF β)) p 0⟩),(6,⟨c0+1,1,32,104,0,fun _ j=>.imm (nl.getD j undef)⟩),(19,mbO (c0+2) wd (a2V β p.first S a))]) (a0g.cons rfl (.of fun i j hi hj=>by subst hzs;exact .refl _) (hsr rfl (hsr rfl (hsr rfl (hsr rfl (hsr rfl (hsr rfl (hsr rfl (a0g.nil)))))))))).wp ?_;refine (c0Z 12 10000 32 k0 1 104 3 (a4C []) _ [(9101,dtO g g2 g3 g4 S.length R.length),(9102,sdO g2 S),(9103,nxO g3 R),(9104,acO g4 A),(4,⟨c0,1,5,61,0,fun _=>ndF (.sl 1 wd (lrF (onF on))) (.sl 1 wd (lrF β)) p 0⟩),(6,⟨c0+1,1,32,104,0,fun _ j=>.imm (nl.getD j undef)⟩),(19,mbO (c0+2) wd (a2V β p.first S a))] (d3g hzs) dcd rfl dcd).wp ?_
 refine ru 5 ?_
 refine a0l (α:=Nat×(Nat→Nat)) (fun x c=>⟨118,[(0,.v (.pt 9101 g 0 0)),(2,.v (intV (a:Int))),(4,.v (.pt 4 c0 0 0)),(6,.v (.pt 6 (c0+1) 0 0)),(7,.v (.os 19 (c0+2) 0 wd)),(12,.v (.pt 12 k0 0 0)),(13,.v (intV x.1))],((12,arO k0 (rwb x.2 (a4h (a2V β p.first S a) on x.1)))::(9101,dtO g g2 g3 g4 S.length R.length)::(9102,sdO g2 S)::(9103,nxO g3 R)::(9104,acO g4 A)::(4,⟨c0,1,5,61,0,fun _=>ndF (.sl 1 wd (lrF (onF on))) (.sl 1 wd (lrF β)) p 0⟩)::(6,⟨c0+1,1,32,104,0,fun _ j=>.imm (nl.getD j undef)⟩)::(19,mbO (c0+2) wd (a2V β p.first S a))::a5B 10000 (rwb x.2 (a4h (a2V β p.first S a) on x.1)) (fun _=>true) 32),c⟩) (fun x=>x.1≤wd) (fun x=>wd - x.1) ((0,fun k=>k0+2+k)) om (a0b rfl lrf tsa (hsr rfl (hsr rfl (hsr rfl (hsr rfl (hsr rfl (hsr rfl (hsr rfl (hsr rfl (by repeat (first | exact a0g.refl _ | exact a9Y | refine a0g.skip ?_ rfl))))))))))) (fun x c hx NhL4 hL4=>?_)
 revert hx hL4;obtain ⟨q,gs⟩:=x;intro hx hL4;dsimp only at hx hL4 ⊢
 refine ru 9 ?_
 refine wdc (fun hr3 hc3=>?_) (fun hr3 hc3=>?_)
 ·skip
  have hqw:q < wd:=om
  refine ru 10 ?_
  refine a0l (α:=Nat×(Nat→Nat)) (fun x c=>⟨118,[(0,.v (.pt 9101 g 0 0)),(2,.v (intV (a:Int))),(4,.v (.pt 4 c0 0 0)),(6,.v (.pt 6 (c0+1) 0 0)),(7,.v (.os 19 (c0+2) 0 wd)),(12,.v (.pt 12 k0 0 0)),(13,.v (intV q)),(14,.v (intV x.1))],((12,arO k0 (rwb x.2 (inK (onF on q).list q (a4h (a2V β p.first S a) on q) x.1)))::(9101,dtO g g2 g3 g4 S.length R.length)::(9102,sdO g2 S)::(9103,nxO g3 R)::(9104,acO g4 A)::(4,⟨c0,1,5,61,0,fun _=>ndF (.sl 1 wd (lrF (onF on))) (.sl 1 wd (lrF β)) p 0⟩)::(6,⟨c0+1,1,32,104,0,fun _ j=>.imm (nl.getD j undef)⟩)::(19,mbO (c0+2) wd (a2V β p.first S a))::a5B 10000 (rwb x.2 (inK (onF on q).list q (a4h (a2V β p.first S a) on q) x.1)) (fun _=>true) 32),c⟩) (fun x=>x.1≤(onF on q).list.length∧(x.1=0∨(a2V β p.first S a) q=true)) (fun x=>(onF on q).list.length - x.1) ((0,gs)) (by exact ⟨Nat.zero_le _,.inl rfl⟩) (a0b rfl lrf tsa (hsr rfl (hsr rfl (hsr rfl (hsr rfl (hsr rfl (hsr rfl (hsr rfl (hsr rfl (by repeat (first | exact a0g.refl _ | exact a9Y | refine a0g.skip ?_ rfl))))))))))) (fun x c hx NhL5 hL5=>?_)
  revert hx hL5;obtain ⟨k,hs⟩:=x;intro hx hL5;dsimp only at hx hL5 ⊢
  obtain ⟨hk,hkm⟩:=hx
  refine ru 7 ?_
  refine rvl (boolV ((a2V β p.first S a) q)) ((by show boolV ((a2V β p.first S a) (0+q))=_;rw [Nat.zero_add])) ?_
  refine ru 12 ?_
  refine wdc (fun hr4 hc4=>?_) (fun hr4 hc4=>?_)
  ·skip
   have hmq:(a2V β p.first S a) q=true:=(by simp at hr4;exact hr4.1);have hkl:k < (onF on q).list.length:=(by simp at hr4;exact hr4.2);have hld:=a3a (onF on q);obtain ⟨s,hs256,hsA,hs0⟩:=a5c (onF on q) hkl
   refine ru 14 ?_
   refine rvl (intV (s:Int)) ((by show intV ((onF on q).list.getD k 0)=_;rw [hs0])) ?_
   refine ru 9 ?_
   refine wdc (fun hr5 hc5=>?_) (fun hr5 hc5=>?_)
   ·skip
    have hs32:s < 32:=om;have hA:(inK (onF on q).list q (a4h (a2V β p.first S a) on q) (k+1)) s=(inK (onF on q).list q (a4h (a2V β p.first S a) on q) k) s++[(q:Int)]:=if_pos hs0;have hB:∀ j,j≠s→(inK (onF on q).list q (a4h (a2V β p.first S a) on q) (k+1)) j=(inK (onF on q).list q (a4h (a2V β p.first S a) on q) k) j:=(fun j hj=>if_neg (by rw [hs0];omega));have heq:∀ j,j < 32→fup (rwb hs (inK (onF on q).list q (a4h (a2V β p.first S a) on q) k)) s ⟨c+4,((inK (onF on q).list q (a4h (a2V β p.first S a) on q) (k+1)) s).length,1,3,0,a4C ((inK (onF on q).list q (a4h (a2V β p.first S a) on q) (k+1)) s)⟩ j=rwb (fun t=>if t=s then c+4 else hs t) (inK (onF on q).list q (a4h (a2V β p.first S a) on q) (k+1)) j:=(fun j _=>by unfold fup;by_cases e:j=s;(subst e;rw [if_pos rfl];show _=rwO (if j=j then _ else _) _;rw [if_pos rfl]);(rw [if_neg e];show rwO _ _=rwO (if j=s then _ else _) _;rw [if_neg e,hB j e]))
    have hl1:=b6d (l:=(onF on q).list) (q:=q) (B:=a4h (a2V β p.first S a) on q) k s;have hl2:=b7l (m:=(a2V β p.first S a)) (on:=on) q s;have hl3:=a3a (onF on q);refine (b2q 12 9377 10000 s 32 k0 (hs s) ((inK (onF on q).list q (a4h (a2V β p.first S a) on q) k) s).length 1 104 3 (a4C ((inK (onF on q).list q (a4h (a2V β p.first S a) on q) k) s)) [(9101,dtO g g2 g3 g4 S.length R.length),(9102,sdO g2 S),(9103,nxO g3 R),(9104,acO g4 A),(4,⟨c0,1,5,61,0,fun _=>ndF (.sl 1 wd (lrF (onF on))) (.sl 1 wd (lrF β)) p 0⟩),(6,⟨c0+1,1,32,104,0,fun _ j=>.imm (nl.getD j undef)⟩),(19,mbO (c0+2) wd (a2V β p.first S a))] (rwb hs (inK (onF on q).list q (a4h (a2V β p.first S a) on q) k)) rfl hs32 dcd dcd dcd rfl (c':=c+1) rfl).wp ?_
    refine ru 5 ?_
    refine rvl (HV.os 9377 c 0 ((inK (onF on q).list q (a4h (a2V β p.first S a) on q) k) s).length) ((by exact c9c)) ?_
    refine ru 1 ?_
    refine a0y 114 (a0d (id:=114) (hs:=[_]) ei_23.h omx rfl omx ⟨rfl,rfl,rfl,rfl,trivial⟩) rfl rfl pre0 rfl rfl (c':=c+2) rfl ?_
    first
    | refine a0y 115 (a0a ei_23.h omy rfl omy omy (a0D rfl omy) omy rfl) rfl rfl (a0h rfl (a0L rfl)) rfl rfl (c':=c+3) rfl ?_
    | refine a0y 115 (a0a ei_23.h omy rfl omy omy (a1a rfl omy) omy rfl) rfl rfl (a0h rfl (a0L rfl)) rfl rfl (c':=c+3) rfl ?_
    | refine a0y 115 (a0a ei_23.h omy rfl omy omy (a0Y rfl) omy rfl) rfl rfl (a0h rfl pre0) rfl rfl (c':=c+3) rfl ?_
    | refine a0y 115 (a0a ei_23.h omy rfl omy omy (a0G 1 (fun _ _=>default) rfl) omy rfl) rfl rfl (a0h rfl pre0) rfl rfl (c':=c+3) rfl ?_
    refine ru 10 ?_
    exact hL5 ((k+1,fun t=>if t=s then c+4 else hs t)) _ _ (by (try dsimp only);exact ⟨by omega,.inr hmq⟩) omd (a4D.trans (a6P (a0g.cons (o':=⟨k0,1,32,104,0,c6v 10000 (rwb hs (inK (onF on q).list q (a4h (a2V β p.first S a) on q) k)) s 9377 (c+2) ((inK (onF on q).list q (a4h (a2V β p.first S a) on q) (k+1)) s).length⟩) rfl (.of fun i' j hi' hj=>by obtain rfl:i'=0:=om;by_cases e:j=s;(subst e;rw [a4t ⟨rfl,by omega,by omega⟩];show Sb _ (if j=j then _ else _);rw [if_pos rfl];exact a3A (by rw [hA];simp));(rw [a1G om];show Sb (if j=s then _ else _) (if j=s then _ else _);rw [if_neg e,if_neg e];exact .refl _)) (a0g.cons (o':=⟨c+2,((inK (onF on q).list q (a4h (a2V β p.first S a) on q) (k+1)) s).length,1,3,0,a4C ((inK (onF on q).list q (a4h (a2V β p.first S a) on q) (k+1)) s)⟩) rfl (by rw [hA];exact a0N (enc:=fun x _=>intV x) (d:=0) rfl (fun _ _ _ _=>.refl _) (fun _ _=>.refl _)) (hsr rfl (hsr rfl (hsr rfl (hsr rfl (hsr rfl (hsr rfl (hsr rfl ((by repeat (first | exact a0g.refl _ | exact a9Y | refine a0g.skip ?_ rfl))))))))))))) (a4D.trans (b8l 12 9377 10000 s 32 k0 (c+2) ((inK (onF on q).list q (a4h (a2V β p.first S a) on q) (k+1)) s).length 1 0 104 3 (a4C ((inK (onF on q).list q (a4h (a2V β p.first S a) on q) (k+1)) s)) [(9101,dtO g g2 g3 g4 S.length R.length),(9102,sdO g2 S),(9103,nxO g3 R),(9104,acO g4 A),(4,⟨c0,1,5,61,0,fun _=>ndF (.sl 1 wd (lrF (onF on))) (.sl 1 wd (lrF β)) p 0⟩),(6,⟨c0+1,1,32,104,0,fun _ j=>.imm (nl.getD j undef)⟩),(19,mbO (c0+2) wd (a2V β p.first S a))] (rwb hs (inK (onF on q).list q (a4h (a2V β p.first S a) on q) k)) om dcd dcd dcd rfl) (a0b rfl lrf (tsr rfl (tsr rfl (tsr rfl (tsr rfl (tsr rfl (tsr rfl (tsr rfl (a0u.cons rfl (a0K om) a0u.nil)))))))) (a0g.cons rfl (.of fun i' j hi' hj=>by have e:=heq j hj;show Sb (.os _ (fup _ _ _ j).g 0 (fup _ _ _ j).n) (.os _ (if j=s then c+4 else hs j) 0 ((inK (onF on q).list q (a4h (a2V β p.first S a) on q) (k+1)) j).length);rw [e];exact .refl _) (hsr rfl (hsr rfl (hsr rfl (hsr rfl (hsr rfl (hsr rfl (hsr rfl ((by repeat (first | exact a9s (fun j hj _=>heq j hj) | refine a0g.skip ?_ rfl))))))))))))))
   have hno:∀ j,j < 32→(inK (onF on q).list q (a4h (a2V β p.first S a) on q) k) j=(inK (onF on q).list q (a4h (a2V β p.first S a) on q) (k+1)) j:=(fun j hj=>(if_neg (by rw [hs0];omega)).symm)
   refine ru 8 ?_
   exact hL5 ((k+1,hs)) _ _ (by (try dsimp only);exact ⟨by omega,.inr hmq⟩) omd (a0b rfl lrf (tsr rfl (tsr rfl (tsr rfl (tsr rfl (tsr rfl (tsr rfl (tsr rfl (a0u.cons rfl (a0K om) a0u.nil)))))))) (a0g.cons rfl (.of fun i' j hi' hj=>by show Sb (.os _ _ 0 ((inK (onF on q).list q (a4h (a2V β p.first S a) on q) k) j).length) (.os _ _ 0 ((inK (onF on q).list q (a4h (a2V β p.first S a) on q) (k+1)) j).length);rw [hno j hj];exact .refl _) (hsr rfl (hsr rfl (hsr rfl (hsr rfl (hsr rfl (hsr rfl (hsr rfl ((by repeat (first | exact a9s (fun j hj _=>by show rwO _ _=rwO _ _;rw [hno j hj]) | refine a0g.skip ?_ rfl))))))))))))
  have hend:∀ t,(inK (onF on q).list q (a4h (a2V β p.first S a) on q) k) t=a4h (a2V β p.first S a) on (q+1) t:=(fun t=>by by_cases h:(a2V β p.first S a) q=true;(have hk2:k=(onF on q).list.length:=(by rw [h] at hr4;have:=of_decide_eq_false hr4;rw [Int.toNat_natCast] at this;omega);show _=(if (a2V β p.first S a) q=true then _ else _:Nat→List Int) t;rw [if_pos h,hk2]);(have hk0:k=0:=(hkm.resolve_right h);subst hk0;show _=(if (a2V β p.first S a) q=true then _ else _:Nat→List Int) t;rw [if_neg h];rfl))
  refine ru 2 ?_
  refine a0c ?_
  refine ru 8 ?_
  exact hL4 ((q+1,hs)) _ _ omd omd (a0b rfl lrf (tsr rfl (tsr rfl (tsr rfl (tsr rfl (tsr rfl (tsr rfl (a0u.cons rfl (a0K om) a0u.nil))))))) (a0g.cons rfl (.of fun i' j hi' hj=>by show Sb (.os _ _ 0 ((inK (onF on q).list q (a4h (a2V β p.first S a) on q) k) j).length) (.os _ _ 0 (a4h (a2V β p.first S a) on (q+1) j).length);rw [hend j];exact .refl _) (hsr rfl (hsr rfl (hsr rfl (hsr rfl (hsr rfl (hsr rfl (hsr rfl ((by repeat (first | exact a9s (fun j hj _=>by show rwO _ _=rwO _ _;rw [hend j]) | refine a0g.skip ?_ rfl))))))))))))
 obtain rfl:q=wd:=om
 refine ru 2 ?_
 refine a0c ?_
 refine ru 9 ?_
 exact a1j ok hX a2j.one rfl (a0H rfl rfl ty_104.h (fun h=>by cases h) rfl rfl) (a5B 10000 (rwb gs (a4h (a2V β p.first S a) on q)) (fun _=>true) 32) (c2D 32) (c0j (fun k hk=>by (repeat rw [c1q rfl]);exact b5O hk) 32 lrf) () trivial rfl rfl (.fz _ _ (.agg _ _ _ fun s hs=>Fz.os (10000+s) (gs s) 0 _ (rwO (gs s) (a4h (a2V β p.first S a) on q s)) _ (c0b hs) rfl (Nat.le_of_eq (Nat.zero_add _)) (fun i j hi hj=>by rw [Nat.zero_add];exact .imm _))) ⟨⟨_,rfl,b9M rfl rfl rfl rfl rfl rfl⟩,⟨_,rfl,c1y⟩,⟨_,rfl,a2K rfl fun _ _ _ _=>.imm _⟩,⟨_,rfl,a2K rfl fun _ _ _ _=>.imm _⟩,trivial⟩
end
section
theorem b8X {l:List Int} {P:Int→Prop}:(∃ k,k < l.length∧P (l.getD k 0))↔∃ v∈l,P v:=by
 constructor
 ·rintro ⟨k,hk,h⟩
  rw [List.getD_eq_getElem?_getD,List.getElem?_eq_getElem hk] at h
  exact ⟨_,List.getElem_mem hk,h⟩
 ·rintro ⟨v,hv,h⟩
  obtain ⟨k,hk,e⟩:=List.getElem_of_mem hv
  exact ⟨k,hk,by rw [List.getD_eq_getElem?_getD,List.getElem?_eq_getElem hk];show P l[k];rw [e];exact h⟩
theorem a5C {k:Nat} {P:Nat→Prop}:(∃ j,j < k+1∧P j)↔(∃ j,j < k∧P j)∨P k:=by
 constructor
 ·rintro ⟨j,hj,h⟩
  rcases Nat.lt_succ_iff_lt_or_eq.1 hj with h1 | rfl
  ·exact .inl ⟨j,h1,h⟩
  ·exact .inr h
 ·rintro (⟨j,hj,h⟩ | h)
  ·exact ⟨j,by omega,h⟩
  ·exact ⟨k,by omega,h⟩
theorem a8d {P:Nat→Prop}:(∃ j,j < 0∧P j)↔False:=⟨fun ⟨j,h,_⟩=>absurd h (Nat.not_lt_zero j),False.elim⟩
theorem c0H {l:List Int} {m:Nat→Bool} {q:Nat}:∀ k,b3L l m k q=true↔m q=true∨∃ j,j < k∧(q:Int)=l.getD j 0
  | 0=>by rw [a8d,or_false];rfl
  | k + 1 => by
    rw [a5C,←or_assoc,←c0H k]
    show (b3L l m k q||decide _)=true↔_
    rw [Bool.or_eq_true,decide_eq_true_eq]
theorem b7Q {l:List Int} {m:Nat→Bool} {q:Nat}:b3L l m l.length q=true↔m q=true∨(q:Int)∈l:=by
 rw [c0H,b8X (P:=fun v=>(q:Int)=v)]
 simp
theorem c1T {β:Nat→Bag} {L:List Int} {M:Nat→Bool} {q:Nat}:∀ i,c9v β L M i q=true↔M q=true∨∃ j,j < i∧(q:Int)∈(β (L.getD j 0).toNat).list
  | 0=>by rw [a8d,or_false];rfl
  | i + 1 => by
    rw [a5C,←or_assoc,←c1T i]
    exact b7Q
theorem c9x {β:Nat→Bag} {first:Bag} {S:List Bag} {a q:Nat}:a2V β first S a q=true↔(a=0∧(q:Int)∈first.list)∨∃ v∈(S.getD a Bag.zero).list,(q:Int)∈(β v.toNat).list:=by
 unfold a2V
 rw [c1T,b7Q,b8X (P:=fun v=>(q:Int)∈(β v.toNat).list)]
 unfold m0L
 by_cases h:a=0 <;> simp [h]
theorem c6N {l:List Int} (hn:l.Nodup) {q:Nat} {B:Nat→List Int} {s:Nat}:∀ k,k≤l.length→inK l q B k s=B s++(if ∃ j,j < k∧l.getD j 0=(s:Int) then [(q:Int)] else [])
  | 0,_=>by rw [if_neg (by rw [a8d];exact id),List.append_nil];rfl
  | k + 1, hk => by
    show (if l.getD k 0=(s:Int) then inK l q B k s++[(q:Int)] else inK l q B k s)=_
    rw [c6N hn k omo]
    by_cases h:l.getD k 0=(s:Int)
    · rw [if_pos h,if_pos (a5C.2 (.inr h)),if_neg,List.append_nil]
      rintro ⟨j,hj,e⟩
      rw [←h,List.getD_eq_getElem?_getD,List.getD_eq_getElem?_getD,List.getElem?_eq_getElem omo,List.getElem?_eq_getElem omo] at e
      have:=(List.pairwise_iff_getElem.1 hn) j k omo omo hj
      exact this e
    · rw [if_neg h]
      congr 1
      by_cases h2:∃ j,j < k∧l.getD j 0=(s:Int)
      · rw [if_pos h2,if_pos (a5C.2 (.inl h2))]
      · rw [if_neg h2,if_neg (fun h3=>(a5C.1 h3).elim h2 h)]
theorem c2q {m:Nat→Bool} {on:List Bag} {s:Nat}:∀ q,a4h m on q s=((List.range q).filter (fun p=>m p&&decide ((s:Int)∈(onF on p).list))).map (fun j:Nat=>(j:Int))
  | 0=>rfl
  | q + 1 => by
    rw [List.range_succ,List.filter_append,List.map_append,←c2q q]
    show (if m q=true then inK (onF on q).list q (a4h m on q) (onF on q).list.length else a4h m on q:Nat→List Int) s=_
    have hex:(∃ j,j < (onF on q).list.length∧(onF on q).list.getD j 0=(s:Int))↔(s:Int)∈(onF on q).list:=by
      rw [b8X (P:=fun v=>v=(s:Int))];simp
    by_cases h:m q=true
    · rw [if_pos h,c6N (b1m _) _ lrf]
      congr 1
      by_cases h2:(s:Int)∈(onF on q).list
      · rw [if_pos (hex.2 h2),List.filter_cons_of_pos (by rw [h,decide_eq_true h2];rfl)];rfl
      · rw [if_neg (fun h3=>h2 (hex.1 h3)),List.filter_cons_of_neg (by rw [decide_eq_false h2,Bool.and_false];decide)];rfl
    · rw [if_neg h,List.filter_cons_of_neg (by rw [eq_false_of_ne_true h,Bool.false_and];decide)];simp
theorem a8a {f g:Nat→Bool} {n:Nat}:∀ k,(∀ p,p < n→g p=f p)→(∀ p,n≤p→p < n+k→g p=false)→(List.range (n+k)).filter g=(List.range n).filter f
  | 0,h1,h2=>List.filter_congr fun p hp=>h1 p (List.mem_range.1 hp)
  | k + 1, h1, h2 => by
    rw [←Nat.add_assoc,List.range_succ,List.filter_append,a8a k h1 (fun p a b=>h2 p a omo),List.filter_cons_of_neg (by rw [h2 (n+k) omo omo];decide),List.filter_nil,List.append_nil]
theorem b2p {l:List Int} {B:Nat→Bag} {p:Int} {s j:Nat} (hj:j < 256):∀ k,(b2P l B p k s).has j=true↔(B s).has j=true∨((j:Int)=p∧s < 32∧∃ i,i < k∧l.getD i 0=(s:Int))
  | 0=>by rw [a8d];simp [b2P]
  | k + 1 => by
    rw [a5C]
    unfold b2P
    by_cases h:l.getD k 0=(s:Int)∧s < 32
    · rw [if_pos h,Bag.with_has _ _ _ hj,Bool.or_eq_true,decide_eq_true_eq,b2p hj k]
      have h1:=h.1
      have h2:=h.2
      constructor
      · rintro (e | e | e)
        · exact .inr ⟨e,h2,.inr h1⟩
        · exact .inl e
        · exact .inr ⟨e.1,e.2.1,.inl e.2.2⟩
      · rintro (e | ⟨e,_,e2⟩)
        · exact .inr (.inl e)
        · exact .inl e
    · rw [if_neg h,b2p hj k]
      constructor
      · rintro (e | ⟨e,e2,e3⟩)
        · exact .inl e
        · exact .inr ⟨e,e2,.inl e3⟩
      · rintro (e | ⟨e,e2,e3 | e3⟩)
        · exact .inl e
        · exact .inr ⟨e,e2,e3⟩
        · exact absurd ⟨e3,e2⟩ h
theorem b6H {L:List Int} {O:Int→Bag} {s j:Nat} (hj:j < 256):∀ k,(b9r L O k s).has j=true↔∃ i,i < k∧((j:Int)=L.getD i 0∧s < 32∧(s:Int)∈(O (L.getD i 0)).list)
  | 0=>by rw [a8d];simp [b9r,Bag.zero_has]
  | k + 1 => by
    rw [a5C,←b6H hj k]
    show (b2P (O (L.getD k 0)).list (b9r L O k) (L.getD k 0) (O (L.getD k 0)).list.length s).has j=true↔_
    rw [b2p hj,b8X (P:=fun v=>v=(s:Int))]
    simp
theorem a7I {wd:Nat} {on:List Bag} {m:Bag} {s j:Nat} (hj:j < 256) (hs:s < 32):(a1I wd on m s).has j=true↔m.has j=true∧j < wd∧(s:Int)∈(onF on j).list:=by
 unfold a1I
 rw [b6H hj,b8X (P:=fun v=>(j:Int)=v∧s < 32∧(s:Int)∈(onI wd on v).list)]
 constructor
 ·rintro ⟨v,hv,rfl,_,h⟩
  by_cases hw:j < wd
  ·refine ⟨(m.mem_list j hj).1 hv,hw,?_⟩
   unfold onI at h
   rwa [if_pos ⟨by omega,by omega⟩,Int.toNat_natCast] at h
  ·unfold onI at h
   rw [if_neg omo] at h
   rw [Bag.mem_list _ _ omo,Bag.zero_has] at h
   cases h
 ·rintro ⟨h1,h2,h3⟩
  refine ⟨(j:Int),(m.mem_list j hj).2 h1,rfl,hs,?_⟩
  unfold onI
  rwa [if_pos ⟨by omega,by omega⟩,Int.toNat_natCast]
theorem b6F {wd:Nat} {β:Nat→Bag} {L:List Int} {q:Nat}:∀ k,(c3q wd β L k).has q=true↔∃ j,j < k∧(beI wd β (L.getD j 0)).has q=true
  | 0=>by rw [a8d];simp [c3q,Bag.zero_has]
  | k + 1 => by
    rw [a5C,←b6F k]
    show (bun _ _).has q=true↔_
    rw [b2L,Bool.or_eq_true]
theorem b5g {wd:Nat} (hw:wd≤256) {on:List Bag} {β:Nat→Bag} {first:Bag} {S:List Bag} {a s:Nat} (hs:s < 32) (h0:S.getD 0 Bag.zero=Bag.zero) (hSa:InB 0 wd (S.getD a Bag.zero)):a4h (a2V β first S a) on wd s=(gD wd on β first S a s).list:=by
  rw [c2q,Bag.list_eq]
  congr 1
  obtain ⟨k,hk⟩:∃ k,256=wd+k:=⟨256 - wd,by omega⟩
  have hz:∀ v:Int,v∉Bag.zero.list:=by
    intro v hv
    rw [Bag.list_eq,List.mem_map] at hv
    obtain ⟨j,hj,rfl⟩:=hv
    have:=(List.mem_filter.1 hj).2
    rw [Bag.zero_has] at this;cases this
  have key:∀ p,p < 256→((gD wd on β first S a s).has p=true↔p < wd∧a2V β first S a p=true∧(s:Int)∈(onF on p).list):=by
    intro p hp
    rw [c9x]
    cases a with
    | zero =>
      show (a1I wd on first s).has p=true↔_
      rw [a7I hp hs,h0,←first.mem_list p hp]
      constructor
      · rintro ⟨x1,x2,x3⟩;exact ⟨x2,.inl ⟨rfl,x1⟩,x3⟩
      · rintro ⟨x1,x2 | ⟨v,hv,_⟩,x3⟩
        · exact ⟨x2.2,x1,x3⟩
        · exact absurd hv (hz v)
    | succ a =>
      show (a1I wd on (c3q wd β (S.getD (a+1) Bag.zero).list (S.getD (a+1) Bag.zero).list.length) s).has p=true↔_
      rw [a7I hp hs,b6F,b8X (P:=fun v=>(beI wd β v).has p=true)]
      constructor
      · rintro ⟨⟨v,hv,x1⟩,x2,x3⟩
        refine ⟨x2,.inr ⟨v,hv,?_⟩,x3⟩
        unfold beI at x1
        split at x1
        · exact (Bag.mem_list _ p hp).2 x1
        · rw [Bag.zero_has] at x1;cases x1
      · rintro ⟨x1,x2 | ⟨v,hv,x2⟩,x3⟩
        · exact absurd x2.1 (Nat.succ_ne_zero a)
        · refine ⟨⟨v,hv,?_⟩,x1,x3⟩
          rw [Bag.list_eq,List.mem_map] at hv
          obtain ⟨j,hj,rfl⟩:=hv
          have h1:=List.mem_filter.1 hj
          have h2:=hSa j (List.mem_range.1 h1.1) h1.2
          unfold beI
          rw [if_pos ⟨by omega,by omega⟩]
          exact (Bag.mem_list _ p hp).1 x2
  symm
  rw [hk]
  refine a8a k (fun p hp=>?_) (fun p h1 h2=>?_)
  · rw [Bool.eq_iff_iff,key p omo,Bool.and_eq_true,decide_eq_true_eq]
    exact ⟨fun h=>h.2,fun h=>⟨hp,h⟩⟩
  · cases h : (gD wd on β first S a s).has p with
    | false=>rfl
    | true=>have:=(key p omo).1 h;omega
theorem d3u {wd:Nat} {on:List Bag} {β:Nat→Bag} {first:Bag} {S:List Bag} {a s:Nat} (hs:s < 32):InB 0 wd (gD wd on β first S a s):=fun p hp h=>by
 cases a with
 | zero=>exact ⟨Nat.zero_le _,((a7I hp hs).1 h).2.1⟩
 | succ a=>exact ⟨Nat.zero_le _,((a7I hp hs).1 h).2.1⟩
theorem c0q {wd:Nat} {on:List Bag} {β:Nat→Bag} {first:Bag} {S:List Bag} {a s:Nat}:(gD wd on β first S a s).ok:=by
 cases a with
 | zero=>exact a5E _ _ _ _
 | succ a=>exact a5E _ _ _ _
structure SetOk (wd:Nat) (S:List Bag):Prop where
 one:0 < S.length
 fst:S.getD 0 Bag.zero=Bag.zero
 ok:∀ b∈S,b.ok
 inb:∀ b∈S,InB 0 wd b
theorem SetOk.at {wd:Nat} {S:List Bag} (h:SetOk wd S) {a:Nat} (ha:a < S.length):(S.getD a Bag.zero).ok∧InB 0 wd (S.getD a Bag.zero):=by
 rw [List.getD_eq_getElem?_getD,List.getElem?_eq_getElem ha]
 exact ⟨h.ok _ (List.getElem_mem ha),h.inb _ (List.getElem_mem ha)⟩
theorem SetOk.put {wd:Nat} {S:List Bag} (h:SetOk wd S) {b:Bag} (hb:b.ok) (hi:InB 0 wd b):SetOk wd (a4B Bag.zero S b).1:=by
  unfold a4B
  split
  · exact h
  · cases idA S b with
    | some n=>exact h
    | none =>
      have hl:=h.one
      refine ⟨by show 0 < (S++[b]).length;simp,by show (S++[b]).getD 0 Bag.zero=_;rw [b8Y hl];exact h.fst,fun x hx=>?_,fun x hx=>?_⟩
      · rcases List.mem_append.1 hx with hx | hx
        · exact h.ok x hx
        · simp at hx;subst hx;exact hb
      · rcases List.mem_append.1 hx with hx | hx
        · exact h.inb x hx
        · simp at hx;subst hx;exact hi
theorem SetOk.row {wd:Nat} {S:List Bag} (h:SetOk wd S) {g:Nat→Bag} (hg:∀ k,k < 32→(g k).ok∧InB 0 wd (g k)):∀ k,k≤32→SetOk wd (a1B Bag.zero g S k).1
 | 0,_=>h
 | k+1,hk=>(h.row hg k omo).put (hg k omo).1 (hg k omo).2
theorem SetOk.zero (wd:Nat):SetOk wd [Bag.zero]:=⟨by decide,rfl,fun b hb=>by simp at hb;subst hb;exact Bag.zero_ok,fun b hb=>by simp at hb;subst hb;exact fun p _ h=>by rw [Bag.zero_has] at h;cases h⟩
theorem c3j {S:List Bag} {b:Bag} (hb:b≠Bag.zero):a4B Bag.zero S b=if rfV S b < 0 then (S++[b],(S.length:Int)) else (S,rfV S b):=by
 unfold a4B rfV
 rw [if_neg hb]
 cases idA S b with
 | some n=>show (S,(n:Int))=if (n:Int) < 0 then _ else (S,(n:Int));rw [if_neg omo]
 | none=>show (S++[b],(S.length:Int))=if (-1:Int) < 0 then (S++[b],(S.length:Int)) else _;rw [if_pos omo]
theorem b0h {b:Bag} (hb:b.ok):b.list=[]↔b=Bag.zero:=by
 constructor
 ·intro h
  refine Bag.ext_has _ _ hb Bag.zero_ok fun k hk=>?_
  rw [Bag.zero_has]
  cases h1:b.has k with
  | false=>rfl
  | true=>have:=(b.mem_list k hk).2 h1;rw [h] at this;cases this
 ·rintro rfl
  rw [Bag.list_eq,List.map_eq_nil_iff,List.filter_eq_nil_iff]
  intro k _
  rw [Bag.zero_has];decide
end
section
open Go.RowKit
set_option maxRecDepth 100000
set_option maxHeartbeats 4000000
theorem b9f {g ty fl:Nat} {f f':Nat→Nat→HV} (h0:Sb (f 0 0) (f' 0 0)) (h1:Sb (f 0 1) (f' 0 1)) (h2:Sb (f 0 2) (f' 0 2)) (hfn:fl≤1:=by exact Nat.zero_le _):a2m ⟨g,1,3,ty,fl,f⟩ ⟨g,1,3,ty,fl,f'⟩:=.of (hfn:=hfn) fun i j hi hj=>by
 obtain rfl:i=0:=by omega
 match j,hj with | 0,_=>exact h0 | 1,_=>exact h1 | 2,_=>exact h2
def d3D (p:Pc):Option (List Bag×List (List Int))→HV
 | some (S,R)=>t2 (tabD S R (accS p.empty p.ends S)) (boolV true)
 | none=>t2 (.agg 3 fun _=>.imm (.slice none 0 0)) (boolV false)
theorem d2R {sh:List (Nat×HObj)} {g2 g3 g4 n m:Nat} {S:List Bag} {R:List (List Int)} {A:List Bool} (hn:n=S.length) (hm:m=R.length) (m2:(9102,sdO g2 S)∈sh) (m3:(9103,nxO g3 R)∈sh) (m4:(9104,acO g4 A)∈sh) (hA:A.length=S.length):∀ i,i < 3→Fz sh (dtF g2 g3 g4 n m i) (tdF S R A i):=fun i hi=>by
  subst hn;subst hm
  match i,hi with
  | 0,_=>exact Fz.os 9102 g2 0 S.length (sdO g2 S) _ m2 rfl (Nat.le_of_eq (Nat.zero_add _)) (fun i j hi hj=>by rw [Nat.zero_add];show Fz sh (a0i _) (a0i _);exact Frz.fz)
  | 1,_=>exact Fz.os 9103 g3 0 R.length (nxO g3 R) _ m3 rfl (Nat.le_of_eq (Nat.zero_add _)) (fun i j hi hj=>by rw [Nat.zero_add];exact .imm _)
  | 2, _ =>
    show Fz sh (.os 9104 g4 0 S.length) (.sl 1 A.length _)
    rw [←hA]
    exact Fz.os 9104 g4 0 A.length (acO g4 A) _ m4 rfl (Nat.le_of_eq (Nat.zero_add _)) (fun i j hi hj=>by rw [Nat.zero_add];exact .imm _)
theorem c9i:Sb (.imm (.slice none 0 0)) (a0i Bag.zero.list):=by
 rw [(b0h Bag.zero_ok).2 rfl];exact Sb.nil 0 1 _ (Nat.zero_le _) _
theorem c3w {e:Bool} {E:Bag} {S:List Bag} (hS:0 < S.length) (s:Bag):accS e E (S++[s])=accS e E S++[decide (s.mix a7P E 4≠Bag.zero)]:=by
 cases S with
 | nil=>simp at hS
 | cons x r=>simp [accS]
theorem b6o {z:Bag} {g:Nat→Bag} {S A:List Bag} {k:Nat} {x:Int} (h:a4B z (a1B z g S k).1 (g k)=(A,x)):(a1B z g S (k+1)).1=A∧(a1B z g S (k+1)).2=(a1B z g S k).2++[x]:=by
 have e:a1B z g S (k+1)=((a4B z (a1B z g S k).1 (g k)).1,(a1B z g S k).2++[(a4B z (a1B z g S k).1 (g k)).2]):=rfl
 rw [e,h];exact ⟨rfl,rfl⟩
theorem d0i {zs:List Value} (hz:zs=List.replicate 32 (Value.int .i64 0)) {j:Nat} (hj:j < 32) {x:HV} (hx:x=intV 0):Sb (.imm (zs.getD j undef)) x:=by
 subst hz;subst hx
 rw [show (List.replicate 32 (Value.int .i64 0)).getD j undef=.int .i64 0 from by rw [List.getD_eq_getElem?_getD,List.getElem?_replicate,if_pos hj];rfl];exact .refl _
theorem b5w {g s off:Nat} {r:List Int} {x:Int} (hr:r.length=s) (hs:s < 32) (ho:off=s):a2m ⟨g,1,32,80,0,upd (fun _ j=>intV (r.getD j 0)) 0 off 1 (fun j=>(intV x).cell j)⟩ ⟨g,1,32,80,0,fun _ j=>intV ((r++[x]).getD j 0)⟩:=.of fun i j hi hj=>by
 subst ho;subst hr
 obtain rfl:i=0:=by omega
 by_cases h:j=r.length
 ·subst h
  rw [a4t ⟨rfl,by omega,by omega⟩,b8J rfl];exact .refl _
 ·rw [a1G omo]
  rcases Nat.lt_or_ge j r.length with h2 | h2
  ·rw [b8Y h2];exact .refl _
  ·rw [b1V (l:=r) h2,b1V (l:=r++[x]) (by simp;omega)];exact .refl _
theorem c5e (wd:Nat) (on:List Bag) (β:Nat→Bag) (p:Pc) (hw:wd≤256) (hF:InB 0 wd p.first) (hβ:∀ q,InB 0 wd (β q)) (hpk:p.ok):HPure Tryz.prog 19 [ndR wd on β p] (d3D p (tabV wd on β p)):=by
 refine b4G Tryz.func19 rfl kr _ _ _ rfl 76 rfl rfl (fun w F=>?_)
 refine ru 9 ?_
 refine a0y 11 (a0d (id:=9102) (hs:=[_]) ei_25.h (nb rfl) rfl (nb rfl) ⟨rfl,rfl,rfl,rfl,trivial⟩) rfl rfl pre0 rfl rfl (c':=3) rfl ?_
 refine ru 2 ?_
 refine a0y 14 (a0d (id:=9104) (hs:=[_]) ei_27.h (nb rfl) rfl (nb rfl) ⟨rfl,rfl,rfl,rfl,trivial⟩) rfl rfl pre0 rfl rfl (c':=4) rfl ?_
 refine ru 1 ?_
 refine a0y 4 (a0V (id:=9101) (sz:=3) zc_29.h rfl rfl (nb rfl) (nb rfl)) rfl rfl pre0 rfl rfl (c':=5) rfl ?_
 refine ru 5 ?_
 refine (a0W 9101 ⟨4,1,3,29,0,fun _ j=>match j with | 0=>.os 9102 2 0 1 | 1=>.imm (.slice none 0 0) | _=>.os 9104 3 0 1⟩ rfl (b9f (.refl _) (.refl _) (.refl _))).wp ?_;refine (a1N 9101 1 9103 32 80 (c2t []) (fun _=>dtF 2 6 3 1 0) rfl rfl (fun j hj=>by match j,hj with | 0,_=>exact .inr rfl | 1,_=>exact .inl ⟨rfl,rfl⟩ | 2,_=>exact .inr rfl) dcd dcd (c':=7) rfl).wp ?_
 refine ru 5 ?_
 refine a0l (α:=Nat×Nat×Nat×Nat×List Bag×List (List Int)) (fun x c=>⟨76,[(1,.v (.pt 1 0 0 0)),(2,.v (.pt 2 1 0 0)),(3,.v (boolV false)),(4,.v (.pt 9101 4 0 0)),(5,.v (intV (x.1:Int)))],[(9101,dtO 4 x.2.1 x.2.2.1 x.2.2.2.1 x.2.2.2.2.1.length x.2.2.2.2.2.length),(9102,sdO x.2.1 x.2.2.2.2.1),(9103,nxO x.2.2.1 x.2.2.2.2.2),(9104,acO x.2.2.2.1 (accS p.empty p.ends x.2.2.2.2.1)),(1,⟨0,1,5,61,0,fun _=>ndF (.sl 1 wd (lrF (onF on))) (.sl 1 wd (lrF β)) p 0⟩),(2,⟨1,1,3,29,0,fun _ _=>.imm (.slice none 0 0)⟩)],c⟩) (fun x=>x.1≤x.2.2.2.2.1.length∧x.2.2.2.2.2.length=x.1∧x.2.2.2.2.1.length≤200∧SetOk wd x.2.2.2.2.1∧tabV wd on β p=goA Bag.zero (gD wd on β p.first) x.1 x.2.2.2.2.1 x.2.2.2.2.2) (fun x=>201 - x.1) ((0,2,6,3,[Bag.zero],[])) (by exact ⟨by decide,rfl,by decide,SetOk.zero wd,rfl⟩) (a0b rfl lrf tsa (hsr rfl (a0g.cons rfl (.of fun i j hi hj=>by obtain rfl:i=0:=om;exact c9i) (hsr rfl (a0g.cons rfl (.of fun i j hi hj=>by obtain rfl:i=0:=om;exact .refl _) (hsr rfl (a0g.cons rfl (.of fun i j hi hj=>by match j,hj with | 0,_=>exact .refl _ | 1,_=>exact .refl _ | 2,_=>exact .refl _) a0g.nil))))))) (fun x c hx NhL1 hL1=>?_)
 revert hx hL1;obtain ⟨a,g2,g3,g4,S,R⟩:=x;intro hx hL1;dsimp only at hx hL1 ⊢
 obtain ⟨haS,hRa,hS2,hok,hT⟩:=hx
 refine ru 10 ?_
 refine wdc (fun hr0 hc0=>?_) (fun hr0 hc0=>?_)
 ·skip
  have ha:a < S.length:=om;have hSa:=hok.at ha;have hst:=b2G (z:=Bag.zero) (g:=gD wd on β p.first) (R:=R) ha hS2;let k0:=c
  refine ru 6 ?_
  refine s0 (b1l (m:=32) (hs:=[]) ar_80.h rfl rfl trivial) ?_
  refine ru 8 ?_
  refine hq_ 26 (a0B (xs:=[_,_,_]) (pre:=[(9101,_),(9102,_),(9103,_),(9104,_)]) (d1G 4 g2 g3 g4 S R (accS p.empty p.ends S) wd on β p hw hF hβ a ha om hSa.2) ⟨rfl,⟨rfl,⟨rfl,trivial⟩⟩⟩) rfl rfl (a0h rfl (a0h rfl (a0h rfl (a0h rfl pre0)))) rfl rfl ?_
  refine ru 11 ?_
  refine a0l (α:=Nat×Nat×Nat) (fun x c=>⟨76,[(1,.v (.pt 1 0 0 0)),(2,.v (.pt 2 1 0 0)),(3,.v (boolV false)),(4,.v (.pt 9101 4 0 0)),(5,.v (intV (a:Int))),(6,.v (.pt 6 k0 0 0)),(7,.v (.pt 7 (k0+2) 0 0)),(8,.v (intV x.1))],[(9101,dtO 4 x.2.1 g3 x.2.2 (a1B Bag.zero (gD wd on β p.first S a) S x.1).1.length R.length),(9102,sdO x.2.1 (a1B Bag.zero (gD wd on β p.first S a) S x.1).1),(9103,nxO g3 R),(9104,acO x.2.2 (accS p.empty p.ends (a1B Bag.zero (gD wd on β p.first S a) S x.1).1)),(1,⟨0,1,5,61,0,fun _=>ndF (.sl 1 wd (lrF (onF on))) (.sl 1 wd (lrF β)) p 0⟩),(2,⟨1,1,3,29,0,fun _ _=>.imm (.slice none 0 0)⟩),(6,⟨k0,1,32,80,0,fun _ j=>intV ((a1B Bag.zero (gD wd on β p.first S a) S x.1).2.getD j 0)⟩),(7,⟨k0+2,1,32,104,0,fun _ j=>a0i ((gD wd on β p.first S a) j).list⟩)],c⟩) (fun x=>x.1≤32) (fun x=>32 - x.1) ((0,g2,g4)) om (a0b rfl lrf tsa (hsr rfl (hsr rfl (hsr rfl (hsr rfl (hsr rfl (hsr rfl (a0g.cons rfl (.of fun i j hi hj=>d0i rfl hj rfl) (a0g.cons rfl (.of fun i j hi hj=>by show Sb (a0i (a4h (a2V β p.first S a) on wd j)) _;rw [b5g hw hj hok.fst hSa.2];exact .refl _) a0g.nil))))))))) (fun x c hx NhL2 hL2=>?_)
  revert hx hL2;obtain ⟨s,q2,q4⟩:=x;intro hx hL2;dsimp only at hx hL2 ⊢
  have hl:=a4m Bag.zero (gD wd on β p.first S a) S s;have hok1:=hok.row (g:=(gD wd on β p.first S a)) (fun k hk=>⟨c0q,d3u hk⟩) s om;have hone:=hok1.one;have hAl:=a9m p.empty p.ends (a1B Bag.zero (gD wd on β p.first S a) S s).1
  refine ru 7 ?_
  refine wdc (fun hr1 hc1=>?_) (fun hr1 hc1=>?_)
  ·skip
   have hs32:s < 32:=om
   refine ru 9 ?_
   refine rvl (a0i ((gD wd on β p.first S a) s).list) ((by show a0i ((gD wd on β p.first S a) (0+s * 1)).list=_;rw [Nat.mul_one,Nat.zero_add])) ?_
   refine ru 16 ?_
   refine wdc (fun hr2 hc2=>?_) (fun hr2 hc2=>?_)
   ·skip
    have h9:=of_decide_eq_true hr2;have hne:(gD wd on β p.first S a) s≠Bag.zero:=(fun e=>by rw [(b0h c0q).2 e] at h9;simp at h9)
    refine ru 3 ?_
    refine hq_ 38 (a0B (xs:=[_,_]) (pre:=[(9101,_),(9102,_),(9103,_),(9104,_)]) (c8m 4 q2 g3 q4 (a1B Bag.zero (gD wd on β p.first S a) S s).1 R (accS p.empty p.ends (a1B Bag.zero (gD wd on β p.first S a) S s).1) om (hok1.ok) ((gD wd on β p.first S a) s) c0q) ⟨rfl,⟨rfl,trivial⟩⟩) rfl rfl (a0h rfl (a0h rfl (a0h rfl (a0h rfl pre0)))) rfl rfl ?_
    refine ru 9 ?_
    refine wdc (fun hr3 hc3=>?_) (fun hr3 hc3=>?_)
    ·skip
     have hP:a4B Bag.zero (a1B Bag.zero (gD wd on β p.first S a) S s).1 ((gD wd on β p.first S a) s)=((a1B Bag.zero (gD wd on β p.first S a) S s).1++[(gD wd on β p.first S a) s],((a1B Bag.zero (gD wd on β p.first S a) S s).1.length:Int)):=(by rw [c3j hne,if_pos (of_decide_eq_true hr3)]);obtain ⟨A1,A2⟩:=b6o hP
     refine ru 13 ?_
     refine a0y 47 (a0d (id:=47) (hs:=[_]) ei_25.h omx rfl omx ⟨rfl,rfl,rfl,rfl,trivial⟩) rfl rfl pre0 rfl rfl (c':=c+1) rfl ?_
     first
     | refine a0y 48 (a0a ei_25.h omy rfl omy omy (a0D rfl omy) omy rfl) rfl rfl (a0h rfl (a0L rfl)) rfl rfl (c':=c+2) rfl ?_
     | refine a0y 48 (a0a ei_25.h omy rfl omy omy (a1a rfl omy) omy rfl) rfl rfl (a0h rfl (a0L rfl)) rfl rfl (c':=c+2) rfl ?_
     | refine a0y 48 (a0a ei_25.h omy rfl omy omy (a0Y rfl) omy rfl) rfl rfl (a0h rfl pre0) rfl rfl (c':=c+2) rfl ?_
     | refine a0y 48 (a0a ei_25.h omy rfl omy omy (a0G 1 (fun _ _=>default) rfl) omy rfl) rfl rfl (a0h rfl pre0) rfl rfl (c':=c+2) rfl ?_
     refine ru 10 ?_
     refine clx (d0P ((gD wd on β p.first S a) s).list p.ends.list (a9o _) (a9o _)) ?_
     refine ru 2 ?_
     refine a2x 58 (a0d (id:=58) (hs:=[_]) ei_27.h omx rfl omx ⟨rfl,rfl,rfl,rfl,trivial⟩) rfl rfl pre0 rfl rfl (k':=9) rfl ?_
     first
     | refine a2x 59 (a0a ei_27.h omy rfl omy omy (a0D rfl omy) omy rfl) rfl rfl (a0h rfl (a0L rfl)) rfl rfl (k':=10) rfl ?_
     | refine a2x 59 (a0a ei_27.h omy rfl omy omy (a1a rfl omy) omy rfl) rfl rfl (a0h rfl (a0L rfl)) rfl rfl (k':=10) rfl ?_
     | refine a2x 59 (a0a ei_27.h omy rfl omy omy (a0Y rfl) omy rfl) rfl rfl (a0h rfl pre0) rfl rfl (k':=10) rfl ?_
     | refine a2x 59 (a0a ei_27.h omy rfl omy omy (a0G 1 (fun _ _=>default) rfl) omy rfl) rfl rfl (a0h rfl pre0) rfl rfl (k':=10) rfl ?_
     refine ru 17 ?_
     exact hL2 ((s+1,c+1,c+3+9)) _ _ omd omd (a0b rfl lrf (tsr rfl (tsr rfl (tsr rfl (tsr rfl (tsr rfl (tsr rfl (tsr rfl (a0u.cons rfl (a0K om) a0u.nil)))))))) (a0g.cons rfl (by (try dsimp only);rw [A1];exact b9f (a3A sml) (.refl _) (a3A sml)) (a0g.cons rfl (by (try dsimp only);rw [A1];exact a0N (enc:=fun b _=>a0i (Bag.list b)) (d:=Bag.zero) rfl (fun _ _ _ _=>.refl _) (fun _ _=>.refl _)) (hsr rfl (a0g.cons rfl (by (try dsimp only);rw [A1,c3w hone];exact a0N (enc:=fun b _=>boolV b) (d:=false) hAl.symm (fun _ _ _ _=>.refl _) (fun j hj=>by show Sb (boolV (decide (((b3a ((gD wd on β p.first S a) s).list p.ends.list 256).length:Int) > 0))) (boolV (decide _));rw [d1O _ _ c0q hpk.2];exact .refl _)) (hsr rfl (hsr rfl (a0g.cons rfl (by (try dsimp only);rw [A2];exact b5w hl.2.2 hs32 om) hsa))))))))
    have hP:a4B Bag.zero (a1B Bag.zero (gD wd on β p.first S a) S s).1 ((gD wd on β p.first S a) s)=((a1B Bag.zero (gD wd on β p.first S a) S s).1,rfV (a1B Bag.zero (gD wd on β p.first S a) S s).1 ((gD wd on β p.first S a) s)):=(by rw [c3j hne,if_neg (of_decide_eq_false hr3)]);obtain ⟨A1,A2⟩:=b6o hP
    refine ru 15 ?_
    exact hL2 ((s+1,q2,q4)) _ _ omd omd (a0b rfl lrf (tsr rfl (tsr rfl (tsr rfl (tsr rfl (tsr rfl (tsr rfl (tsr rfl (a0u.cons rfl (a0K om) a0u.nil)))))))) (a0g.cons rfl (by (try dsimp only);rw [A1];exact .refl _) (a0g.cons rfl (by (try dsimp only);rw [A1];exact .refl _) (hsr rfl (a0g.cons rfl (by (try dsimp only);rw [A1];exact .refl _) (hsr rfl (hsr rfl (a0g.cons rfl (by (try dsimp only);rw [A2];exact b5w hl.2.2 hs32 om) hsa))))))))
   have h9:=of_decide_eq_false hr2;have hz:(gD wd on β p.first S a) s=Bag.zero:=(b0h c0q).1 (List.eq_nil_of_length_eq_zero om);have hP:a4B Bag.zero (a1B Bag.zero (gD wd on β p.first S a) S s).1 ((gD wd on β p.first S a) s)=((a1B Bag.zero (gD wd on β p.first S a) S s).1,-1):=(by unfold a4B;rw [if_pos hz]);obtain ⟨A1,A2⟩:=b6o hP
   refine ru 15 ?_
   exact hL2 ((s+1,q2,q4)) _ _ omd omd (a0b rfl lrf (tsr rfl (tsr rfl (tsr rfl (tsr rfl (tsr rfl (tsr rfl (tsr rfl (a0u.cons rfl (a0K om) a0u.nil)))))))) (a0g.cons rfl (by (try dsimp only);rw [A1];exact .refl _) (a0g.cons rfl (by (try dsimp only);rw [A1];exact .refl _) (hsr rfl (a0g.cons rfl (by (try dsimp only);rw [A1];exact .refl _) (hsr rfl (hsr rfl (a0g.cons rfl (by (try dsimp only);rw [A2];exact b5w hl.2.2 hs32 om) hsa))))))))
  obtain rfl:s=32:=om
  refine ru 2 ?_
  refine a0c ?_
  refine ru 7 ?_
  refine a0y 67 (a0d (id:=67) (hs:=[_]) ei_26.h omx rfl omx ⟨rfl,rfl,rfl,rfl,trivial⟩) rfl rfl pre0 rfl rfl (c':=c+1) rfl ?_
  first
  | refine a0y 68 (a0a ei_26.h omy rfl omy omy (a0D rfl omy) omy rfl) rfl rfl (a0h rfl (a0L rfl)) rfl rfl (c':=c+2) rfl ?_
  | refine a0y 68 (a0a ei_26.h omy rfl omy omy (a1a rfl omy) omy rfl) rfl rfl (a0h rfl (a0L rfl)) rfl rfl (c':=c+2) rfl ?_
  | refine a0y 68 (a0a ei_26.h omy rfl omy omy (a0Y rfl) omy rfl) rfl rfl (a0h rfl pre0) rfl rfl (c':=c+2) rfl ?_
  | refine a0y 68 (a0a ei_26.h omy rfl omy omy (a0G 32 (fun _ _=>default) rfl) omy rfl) rfl rfl (a0h rfl pre0) rfl rfl (c':=c+2) rfl ?_
  refine ru 12 ?_
  refine wdc (fun hr4 hc4=>?_) (fun hr4 hc4=>?_)
  ·skip
   have h9:=of_decide_eq_true hr4
   refine ru 10 ?_
   refine a0q ?_
   refine ru 2 ?_
   refine b0d ?_
   refine rt2 ?_
   rw [hT,hst,if_pos om];exact a5z (.agg 3 _ _ fun i hi=>by match i,hi with | 0,_=>exact .imm _ | 1,_=>exact .imm _ | 2,_=>exact .imm _) (.imm _)
  have h9:=of_decide_eq_false hr4
  refine ru 8 ?_
  exact hL1 ((a+1,q2,c+1,q4,(a1B Bag.zero (gD wd on β p.first S a) S 32).1,R++[(a1B Bag.zero (gD wd on β p.first S a) S 32).2])) _ _ (by (try dsimp only);exact ⟨by omega,by simp [hRa],by omega,hok1,by rw [hT,hst,if_neg om]⟩) omd (a0b rfl lrf (tsr rfl (tsr rfl (tsr rfl (tsr rfl (a0u.cons rfl (a0K om) a0u.nil))))) (a0g.cons rfl (b9f (.refl _) (a3A sml) (.refl _)) (hsr rfl (a0g.cons rfl (a0N (enc:=fun (r:List Int) j=>intV (r.getD j 0)) (d:=[]) rfl (fun _ _ _ _=>.refl _) (fun _ _=>.refl _)) hsa))))
 have haE:a=S.length:=om
 refine ru 2 ?_
 refine a0c ?_
 refine ru 10 ?_
 refine b0d ?_
 refine a9F rfl (a0H rfl rfl ty_29.h rqc rfl rfl) (a0f rfl) [(9102,_),(9103,_),(9104,_)] rfl (a0h rfl (a0h rfl (a0h rfl pre0))) ?_
 rw [hT,c0c om];exact a5z (.agg 3 _ _ (d2R rfl rfl (.head _) (.tail _ (.head _)) (.tail _ (.tail _ (.head _))) (a9m _ _ _))) (.imm _)
end
end Go.Proofs.YtkeakpcieokhhaaGreatDoor
