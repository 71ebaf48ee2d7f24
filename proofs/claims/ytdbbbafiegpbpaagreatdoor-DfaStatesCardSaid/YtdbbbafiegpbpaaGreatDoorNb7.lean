/-
  The reader of expressions: items, rows, choices.
-/
import Derived.Test.YtdbbbafiegpbpaaGreatDoorEx1
namespace Go.Proofs.YtdbbbafiegpbpaaGreatDoor
set_option linter.unusedSimpArgs false
set_option linter.unusedVariables false
set_option maxRecDepth 100000
open Go.RowKit
structure Rs where
 t:Option T
 q:Nat
 g:Nat
 out:List Pt
 ret:Int
def a5N (l:List Sg) (v p:Nat) (out:List Pt) (x:Rs):Prop:=match x.t with
 | some t=>Seg l v p x.q t∧x.out=out++T.flat out.length t∧x.ret=T.root out.length t∧(2≤v→kd l x.q≠1∧kd l x.q≠2)∧(3≤v→kd l x.q≠4)
 | none=>BadS l p x.q∧x.out.length≤out.length+2 * (x.q - p)
@[reducible] def RsP (l:List Sg) (v p:Nat) (out:List Pt) (g:Nat):HEnd→List (Nat×HObj)→Nat→Prop :=
 a9t (fun (x:Rs) _=>a5N l v p out x) (fun x=>intV x.ret) (fun x=>[(9001,erO g l x.q x.g x.out.length x.t.isNone),(9002,b6v x.g x.out)])
@[reducible] def RsC (f:FuncId) (l:List Sg) (v g p:Nat):Prop:=∀ c g2 (out:List Pt),out.length≤2 * p→a4s Tryz.prog f c [.pt 9001 g 0 0] [(9001,erO g l p g2 out.length false),(9002,b6v g2 out)] (RsP l v p out g)
theorem b0U {l:List Sg} {v p:Nat} {out:List Pt} {x:Rs} (h:a5N l v p out x):p≤x.q∧x.q≤l.length∧x.out.length≤out.length+2 * (x.q - p):=by
  obtain ⟨t,q,g,o,r⟩:=x
  cases t with
  | none=>exact ⟨h.1.le,h.1.len,h.2⟩
  | some t =>
    obtain ⟨h1,h2,_⟩:=h
    have a:=a0W h1;have b:=a2J h1
    simp only at h2 a b ⊢
    subst h2
    rw [List.length_append,T.flat_len]
    omega
theorem b8H {l:List Sg} {p g:Nat} {out:List Pt} (h:kd l p=1) (h5:kd l (p+1)≠5):a5N l 1 p out ⟨some (.name (l.getD p default).name),p+1,g,out++[⟨1,0,0,(l.getD p default).name,[]⟩],out.length⟩ :=
 ⟨.item _ _ _ (.name p h) h5,by simp [T.flat],by simp [T.root,T.size],fun h=>absurd h (by decide),fun h=>absurd h (by decide)⟩
theorem b4Y {l:List Sg} {p g:Nat} {out:List Pt} (h:kd l p=1) (h5:kd l (p+1)=5):a5N l 1 p out ⟨some (.times (l.getD (p+1) default).low (l.getD (p+1) default).high (.name (l.getD p default).name)),p+2,g,out++[⟨1,0,0,(l.getD p default).name,[]⟩]++[⟨4,(l.getD (p+1) default).low,(l.getD (p+1) default).high,[],[(out.length:Int)]⟩],(out++[(⟨1,0,0,(l.getD p default).name,[]⟩:Pt)]).length⟩ :=
 ⟨.times _ _ _ (.name p h) h5,by simp [T.flat,T.size],by simp [T.root,T.size];omega,fun h=>absurd h (by decide),fun h=>absurd h (by decide)⟩
theorem b6k {l:List Sg} {p q g:Nat} {out o:List Pt} {r:Int} {t:T} (hx:a5N l 3 (p+1) out ⟨some t,q,g,o,r⟩) (h:kd l p=2) (h3:kd l q=3) (h5:kd l (q+1)≠5):a5N l 1 p out ⟨some t,q+1,g,o,r⟩ :=
 ⟨.item _ _ _ (.group p q t h hx.1 h3) h5,hx.2.1,hx.2.2.1,fun h=>absurd h (by decide),fun h=>absurd h (by decide)⟩
theorem b2g {l:List Sg} {p q g g':Nat} {out o:List Pt} {r:Int} {t:T} (hx:a5N l 3 (p+1) out ⟨some t,q,g,o,r⟩) (h:kd l p=2) (h3:kd l q=3) (h5:kd l (q+1)=5):a5N l 1 p out ⟨some (.times (l.getD (q+1) default).low (l.getD (q+1) default).high t),q+2,g',o++[⟨4,(l.getD (q+1) default).low,(l.getD (q+1) default).high,[],[r]⟩],o.length⟩:=by
 obtain ⟨h1,h2,h4,_⟩:=hx
 simp only at h2 h4
 refine ⟨.times _ _ _ (.group p q t h h1 h3) h5,?_,?_,fun h=>absurd h (by decide),fun h=>absurd h (by decide)⟩
 ·simp only [T.flat,h2,h4,T.root,List.append_assoc]
 ·simp only [T.root,T.size,h2,List.length_append,T.flat_len];omega
theorem b9h {l:List Sg} {p q g:Nat} {out o:List Pt} {r:Int} {t:Option T} (hk:b7C l) (hx:a5N l 3 (p+1) out ⟨t,q,g,o,r⟩) (h:kd l p=2) (hb:t.isNone=true∨kd l q≠3):a5N l 1 p out ⟨none,q,g,o,r⟩:=by
  have hle:=b0U hx
  simp only at hle
  refine ⟨?_,by show o.length≤out.length+2 * (q - p);omega⟩
  cases t with
  | none=>exact b7Y h hx.1
  | some t =>
    obtain ⟨h1,_,_,h2,h4⟩:=hx
    have a:=h2 (by decide);have b:=h4 (by decide)
    exact c1B hk h h1 a.1 a.2 (hb.resolve_left (by simp)) b
theorem c2O {sh:List (Nat×HObj)} {id g ty fl:Nat} {r:Int}:Fz ((id,⟨g,1,1,ty,fl,bsf [intV r]⟩)::sh) (.os id g 0 1) (a1u [r]) :=
 a2r (l:=[r]) (enc:=fun x _=>intV x) (d:=0) (List.mem_cons_self ..) rfl rfl (Nat.le_refl _) (fun i j hi hj=>by
  obtain rfl:i=0:=by simpa using hi
  exact .imm _)
theorem c7N (l:List Sg) (g p:Nat) (hk:b7C l) (hne:l≠[]) (hl:l.length≤1000) (hp:p≤l.length) (hrec:∀ p',p < p'→p'≤l.length→RsC 50 l 3 g p'):RsC 101 l 1 g p:=by
 intro c g2 out ho
 refine a0v Tryz.func101 rfl kr _ _ _ _ rfl 113 rfl rfl (fun X ok hX=>?_)
 refine ru 16 ?_
 refine hq_ 8 (a0C (xs:=[_]) (pre:=[(9001,_),(9002,_)]) (a4P g l p g2 out false hl hp) ⟨rfl,trivial⟩) rfl rfl (a0i rfl (a0i rfl a0g)) rfl rfl ?_
 refine ru 9 ?_
 refine wdc (fun hr0 hc0=>?_) (fun hr0 hc0=>?_)
 ·skip
  have hlt:=a2m (l:=l) (i:=p) (by rw [hc0];decide)
  refine ru 17 ?_
  refine c3M kr kr kr kr (c':=c+15) rfl ?_ (by simp)
  refine (a1a 29 [] rfl a0g rfl ((show Fz [] (.agg 5 _) (ptH ⟨1,0,0,(l.getD p default).name,[]⟩) from a0Y (.imm _) (.imm _) (.imm _) (.imm _) (.nil 0 1 _ (by decide) none)))).seq ?_
  refine a0s 30 (xs:=[_,_]) (pre:=[(9001,_),(9002,_)]) (c1W _ g l p g2 _ false out ⟨1,0,0,(l.getD p default).name,[]⟩ rfl om) ⟨rfl,⟨rfl,trivial⟩⟩ (a0i rfl (a0i rfl a0g)) rfl rfl (fun g3 c1 hx1=>?_)
  (try dsimp only)
  refine ru 1 ?_
  refine a3U ?_
  refine ru 17 ?_
  refine (a1e 9001 (erO g l (p+1) g3 (out++[(⟨1,0,0,(l.getD p default).name,[]⟩:Pt)]).length false) rfl (by exact b2D (.refl _) (a0H om) (.refl _) (.refl _))).wp ?_
  refine ru 4 ?_
  refine hq_ 80 (a0C (xs:=[_]) (pre:=[(9001,_),(9002,_)]) (a4P g l (p+1) g3 (out++[(⟨1,0,0,(l.getD p default).name,[]⟩:Pt)]) false hl om) ⟨rfl,trivial⟩) rfl rfl (a0i rfl (a0i rfl a0g)) rfl rfl ?_
  refine ru 3 ?_
  refine wdc (fun hr3 hc3=>?_) (fun hr3 hc3=>?_)
  ·skip
   have hlt5:=a2m (l:=l) (i:=p+1) (by rw [hc3];decide)
   refine ru 14 ?_
   refine a2n 4 (a0X (id:=4) (sz:=5) zc_120.h rfl rfl omx omx) rfl rfl a0g rfl rfl (k':=13) rfl ?_
   refine ru 17 ?_
   refine (a1e 9001 (erO g l (p+2) g3 (out++[(⟨1,0,0,(l.getD p default).name,[]⟩:Pt)]).length false) rfl (by exact b2D (.refl _) (a0H om) (.refl _) (.refl _))).wp ?_
   refine ru 7 ?_
   refine a0u 109 (a0b (id:=109) (hs:=[_]) ei_49.h omx rfl omx ⟨rfl,rfl,rfl,rfl,trivial⟩) rfl rfl a0g rfl rfl (c':=c1+17) rfl ?_
   refine ru 1 ?_
   refine (a1a 110 [(109,_)] rfl (a0i rfl a0g) rfl ((show Fz _ (.agg 5 _) (ptH ⟨4,(l.getD (p+1) default).low,(l.getD (p+1) default).high,[],[(out.length:Int)]⟩) from a0Y (.imm _) (.imm _) (.imm _) (.imm _) c2O))).seq ?_
   refine a0s 111 (xs:=[_,_]) (pre:=[(9001,_),(9002,_)]) (c1W _ g l (p+2) g3 _ false (out++[(⟨1,0,0,(l.getD p default).name,[]⟩:Pt)]) ⟨4,(l.getD (p+1) default).low,(l.getD (p+1) default).high,[],[(out.length:Int)]⟩ rfl (by rw [List.length_append];show out.length+1≤_;omega)) ⟨rfl,⟨rfl,trivial⟩⟩ (a0i rfl (a0i rfl a0g)) rfl rfl (fun g4 c2 hx2=>?_)
   (try dsimp only)
   refine ru 10 ?_
   refine fr1 ok hX rw1 (⟨some _,_,g4,_,_⟩) (b4Y hc0 hc3) (kza) ?_
   exact ⟨⟨_,rfl,a4Y rfl rfl⟩,⟨⟨_,rfl,a2C⟩,trivial⟩⟩
  refine ru 9 ?_
  refine fr1 ok hX rw1 (⟨some _,_,g3,_,_⟩) (b8H hc0 hc3) (kza) ?_
  exact ⟨⟨_,rfl,a4Y rfl rfl⟩,⟨⟨_,rfl,a2C⟩,trivial⟩⟩
 refine ru 6 ?_
 refine wdc (fun hr1 hc1=>?_) (fun hr1 hc1=>?_)
 ·skip
  have hlt:=a2m (l:=l) (i:=p) (by rw [hc1];decide)
  refine ru 15 ?_
  refine (a1e 9001 (erO g l (p+1) g2 out.length false) rfl (by exact b2D (.refl _) (a0H om) (.refl _) (.refl _))).wp ?_
  refine ru 2 ?_
  refine a0s 52 (xs:=[_]) (pre:=[(9001,_),(9002,_)]) (hrec (p+1) om om _ g2 out om) ⟨rfl,trivial⟩ (a0i rfl (a0i rfl a0g)) rfl rfl (fun x3 c3 hx=>?_)
  obtain ⟨t,q,g3,o3,r⟩:=x3
  (try dsimp only)
  refine ru 5 ?_
  have hle:=b0U hx;simp only at hle
  refine ru 9 ?_
  first
  | refine a5v 61 4 57 false _ (fun hb=>a0C (xs:=[_]) (pre:=[(9001,_),(9002,_)]) (a4P g l q g3 o3 t.isNone hl hle.2.1) ⟨rfl,trivial⟩) rfl rfl rfl rfl (a0i rfl (a0i rfl a0g)) rfl rfl rfl ?_
  | refine b7o 61 4 57 _ _ false _ (fun hb=>a0C (xs:=[_]) (pre:=[(9001,_),(9002,_)]) (a4P g l q g3 o3 t.isNone hl hle.2.1) ⟨rfl,trivial⟩) rfl rfl rfl rfl (a0i rfl (a0i rfl a0g)) rfl rfl rfl ?_
  refine ru 4 ?_
  refine wdc (fun hr2 hc2=>?_) (fun hr2 hc2=>?_)
  ·refine ru 18 ?_
   refine fr1 ok hX rw1 (⟨none,q,g3,o3,r⟩) (b9h hk hx hc1 hc2) (kza) ?_
   exact ⟨⟨_,rfl,c8E (.fz _ _ (show Fz [] (a4u l) (a4u l) from Frz.fz)) kza kza kza⟩,⟨⟨_,rfl,a2C⟩,trivial⟩⟩
  obtain ⟨tr,rfl⟩:∃ tr,t=some tr:=(by cases t with | none=>exact absurd hc2.1 (by simp) | some tr=>exact ⟨tr,rfl⟩);have hk3:=hc2.2;have hlt3:=a2m (l:=l) (i:=q) (by rw [hk3];decide)
  refine ru 18 ?_
  refine (a1e 9001 (erO g l (q+1) g3 o3.length false) rfl (by exact b2D (.refl _) (a0H om) (.refl _) (.refl _))).wp ?_
  refine ru 4 ?_
  refine hq_ 80 (a0C (xs:=[_]) (pre:=[(9001,_),(9002,_)]) (a4P g l (q+1) g3 o3 false hl om) ⟨rfl,trivial⟩) rfl rfl (a0i rfl (a0i rfl a0g)) rfl rfl ?_
  refine ru 3 ?_
  refine wdc (fun hr3 hc3=>?_) (fun hr3 hc3=>?_)
  ·skip
   have hlt5:=a2m (l:=l) (i:=q+1) (by rw [hc3];decide)
   refine ru 14 ?_
   refine a2n 4 (a0X (id:=4) (sz:=5) zc_120.h rfl rfl omx omx) rfl rfl a0g rfl rfl (k':=13) rfl ?_
   refine ru 17 ?_
   refine (a1e 9001 (erO g l (q+2) g3 o3.length false) rfl (by exact b2D (.refl _) (a0H om) (.refl _) (.refl _))).wp ?_
   refine ru 7 ?_
   refine a0u 109 (a0b (id:=109) (hs:=[_]) ei_49.h omx rfl omx ⟨rfl,rfl,rfl,rfl,trivial⟩) rfl rfl a0g rfl rfl (c':=c3+17) rfl ?_
   refine ru 1 ?_
   refine (a1a 110 [(109,_)] rfl (a0i rfl a0g) rfl ((show Fz _ (.agg 5 _) (ptH ⟨4,(l.getD (q+1) default).low,(l.getD (q+1) default).high,[],[r]⟩) from a0Y (.imm _) (.imm _) (.imm _) (.imm _) c2O))).seq ?_
   refine a0s 111 (xs:=[_,_]) (pre:=[(9001,_),(9002,_)]) (c1W _ g l (q+2) g3 _ false o3 ⟨4,(l.getD (q+1) default).low,(l.getD (q+1) default).high,[],[r]⟩ rfl om) ⟨rfl,⟨rfl,trivial⟩⟩ (a0i rfl (a0i rfl a0g)) rfl rfl (fun g4 c4 hx4=>?_)
   (try dsimp only)
   refine ru 10 ?_
   refine fr1 ok hX rw1 (⟨some _,_,g4,_,_⟩) (b2g hx hc1 hk3 hc3) (kza) ?_
   exact ⟨⟨_,rfl,a4Y rfl rfl⟩,⟨⟨_,rfl,a2C⟩,trivial⟩⟩
  refine ru 9 ?_
  refine fr1 ok hX rw1 (⟨some _,_,g3,_,_⟩) (b6k hx hc1 hk3 hc3) (kza) ?_
  exact ⟨⟨_,rfl,a4Y rfl rfl⟩,⟨⟨_,rfl,a2C⟩,trivial⟩⟩
 refine ru 17 ?_
 refine fr1 ok hX rw1 (⟨none,p,g2,out,-1⟩) (⟨b2C hne hp hc0 hc1,by simp⟩) (kza) ?_
 exact ⟨⟨_,rfl,c8E (.fz _ _ (show Fz [] (a4u l) (a4u l) from Frz.fz)) kza kza kza⟩,⟨⟨_,rfl,a2C⟩,trivial⟩⟩
def c3L (l:List Sg) (p:Nat) (out:List Pt) (bad:Bool) (q:Nat) (o:List Pt) (ks:List Int):Prop :=
 (1≤ks.length∧ks.length≤2 * (q - p)+1)∧p≤q∧q≤l.length∧match bad with
 | true=>BadS l p q∧o.length+(if ks.length=1 then 0 else 1)≤out.length+2 * (q - p)
 | false=>∃ ts,b1d l p q ts∧o=out++T.flatL out.length ts∧ks=rootsL out.length ts
theorem b3j {l:List Sg} {p q g:Nat} {out o:List Pt} {t:Option T} {r:Int} (h:a5N l 1 p out ⟨t,q,g,o,r⟩):c3L l p out t.isNone q o [r]:=by
 have hle:=b0U h
 refine ⟨⟨Nat.le_refl _,by show 1≤_;omega⟩,hle.1,hle.2.1,?_⟩
 cases t with
 | none=>exact ⟨h.1,h.2⟩
 | some t=>exact ⟨[t],c0d h.1,by rw [show o=_ from h.2.1];simp [T.flatL],by rw [show r=_ from h.2.2.1];rfl⟩
theorem b5I {l:List Sg} {p q q' g:Nat} {out o o':List Pt} {ks:List Int} {t:Option T} {r:Int} (h:c3L l p out false q o ks) (hk:kd l q=1∨kd l q=2) (h2:a5N l 1 q o ⟨t,q',g,o',r⟩):c3L l p out t.isNone q' o' (ks++[r]):=by
  have hle:q≤q'∧q'≤l.length∧o'.length≤o.length+2 * (q' - q):=b0U h2
  obtain ⟨h1,hpq,hql,ts,hi,ho,hks⟩:=h
  have hlt:=b1I hi
  have hol:o.length=out.length+T.sizeL ts:=by rw [ho,List.length_append,T.flatL_len]
  have hkl:ks.length=ts.length:=by rw [hks,a0K]
  refine ⟨by rw [List.length_append];show 1≤ks.length+1∧ks.length+1≤_;omega,by omega,hle.2.1,?_⟩
  cases t with
  | none =>
    refine ⟨b7G hi hk h2.1,?_⟩
    rw [if_neg (by rw [List.length_append];show ¬ ks.length+1=1;omega)]
    have:=hi.1
    omega
  | some t =>
    refine ⟨ts++[t],b6x hi h2.1,?_,?_⟩
    · rw [show o'=_ from h2.2.1,ho,T.flatL_snoc,List.append_assoc,List.length_append,T.flatL_len]
    · rw [show r=_ from h2.2.2.1,hks,a3D,hol]
theorem c7G {l:List Sg} {p q:Nat} {out o:List Pt} {ks:List Int} {bad:Bool} (h:c3L l p out bad q o ks):o.length≤out.length+2 * (q - p):=by
  obtain ⟨h1,hpq,hql,h⟩:=h
  cases bad with
  | true=>have:=h.2;omega
  | false =>
    obtain ⟨ts,hi,ho,hks⟩:=h
    have:=b1I hi
    rw [ho,List.length_append,T.flatL_len];omega
theorem b9p {l:List Sg} {v q q' g:Nat} {o o':List Pt} {t:Option T} {r:Int} (h:a5N l v q o ⟨t,q',g,o',r⟩):2 * (l.length - q')+(if t.isNone then 0 else 1) < 2 * (l.length - q)+(if false then 0 else 1):=by
 have hle:q≤q'∧q'≤l.length∧o'.length≤o.length+2 * (q' - q):=b0U h
 cases t with
 | none=>show _+0 < _+1;omega
 | some t=>have:=a0W h.1;show _+1 < _+1;simp only at this;omega
@[reducible] def a9K (k:Int) (out:List Pt) (ks:List Int) (y:Nat×List Pt×Int):Prop:=if ks.length=1 then y.2=(out,ks.getD 0 0) else y.2=(out++[⟨k,0,0,[],ks⟩],(out.length:Int))
theorem b8z {l:List Sg} {p q:Nat} {out o:List Pt} {ks:List Int} {k:Int} {y:Nat×List Pt×Int} (hb:o.length+(if ks.length=1 then 0 else 1)≤out.length+2 * (q - p)) (hy:a9K k o ks y):y.2.1.length≤out.length+2 * (q - p):=by
 unfold a9K at hy
 split at hy
 ·rename_i h1;rw [if_pos h1] at hb;rw [hy];exact hb
 ·rename_i h1;rw [if_neg h1] at hb;rw [hy];simpa using hb
theorem b5A {l:List Sg} {p q:Nat} {out o:List Pt} {ks:List Int} {bad:Bool} (h:c3L l p out bad q o ks) (hk:bad=true∨(kd l q≠1∧kd l q≠2)):∃ tt:Option T,tt.isNone=bad∧∀ y,a9K 2 o ks y→a5N l 2 p out ⟨tt,q,y.1,y.2.1,y.2.2⟩:=by
  obtain ⟨h1,hpq,hql,h⟩:=h
  cases bad with
  | true=>exact ⟨none,rfl,fun y hy=>⟨h.1,b8z (l:=l) h.2 hy⟩⟩
  | false =>
    obtain ⟨ts,hi,ho,hks⟩:=h
    have hk:=hk.resolve_left (by simp)
    have hkl:ks.length=ts.length:=by rw [hks,a0K]
    by_cases h2:ts.length=1
    · match ts, h2 with
      | [t], _ =>
        refine ⟨some t,rfl,fun y hy=>?_⟩
        have hy:y.2=(o,ks.getD 0 0):=by unfold a9K at hy;rwa [if_pos (by simpa using hkl)] at hy
        refine ⟨a9V hi,?_,?_,fun _=>hk,fun h=>absurd h (by decide)⟩
        · show y.2.1=_;rw [hy,ho];simp [T.flatL]
        · show y.2.2=_;rw [hy,hks];rfl
    · refine ⟨some (.many 2 ts),rfl,fun y hy=>?_⟩
      have hy:y.2=(o++[⟨2,0,0,[],ks⟩],(o.length:Int)):=by unfold a9K at hy;rwa [if_neg (by omega)] at hy
      refine ⟨b2n hi (by have:=hi.1;omega),?_,?_,fun _=>hk,fun h=>absurd h (by decide)⟩
      · show y.2.1=_;rw [hy,ho,hks];simp [T.flat]
      · show y.2.2=_;rw [hy,ho];simp [T.root,T.size,T.flatL_len];omega
theorem c9A (l:List Sg) (g p:Nat) (hk:b7C l) (hne:l≠[]) (hl:l.length≤1000) (hp:p≤l.length) (hitem:∀ p',p≤p'→p'≤l.length→RsC 101 l 1 g p'):RsC 81 l 2 g p:=by
 intro c g2 out ho
 refine a0v Tryz.func81 rfl kr _ _ _ _ rfl 34 rfl rfl (fun X ok hX=>?_)
 refine ru 8 ?_
 refine a0s 5 (xs:=[_]) (pre:=[(9001,_),(9002,_)]) (hitem p (Nat.le_refl _) hp _ g2 out ho) ⟨rfl,trivial⟩ (a0i rfl (a0i rfl a0g)) rfl rfl (fun x1 c1 hx=>?_)
 obtain ⟨t1,q1,g3,o3,r⟩:=x1
 (try dsimp only)
 refine a0u 6 (a0b (id:=6) (hs:=[_]) ei_49.h omx rfl omx ⟨rfl,rfl,rfl,rfl,trivial⟩) rfl rfl a0g rfl rfl (c':=c1+1) rfl ?_
 refine ru 5 ?_
 refine a0l (α:=Bool×Nat×List Pt×List Int×Nat×Nat) (fun x c=>⟨34,[(0,.v (.pt 9001 g 0 0)),(3,.v (.os 6 x.2.2.2.2.2 0 x.2.2.2.1.length))],[(9001,erO g l x.2.1 x.2.2.2.2.1 x.2.2.1.length x.1),(9002,b6v x.2.2.2.2.1 x.2.2.1),(6,⟨x.2.2.2.2.2,x.2.2.2.1.length,1,3,0,a2M x.2.2.2.1⟩)],c⟩) (fun x=>c3L l p out x.1 x.2.1 x.2.2.1 x.2.2.2.1) (fun x=>2 * (l.length - x.2.1)+(if x.1 then 0 else 1)) ((t1.isNone,q1,o3,[r],g3,c1)) (by exact b3j hx) (a0c rfl (Nat.le_refl _) tsa (hsr rfl (hsr rfl (a0f.cons rfl (a2X.of fun i j hi hj=>by obtain rfl:i=0:=om;exact .refl _) a0f.nil)))) (fun x c hx NhL1 hL1=>?_)
 revert hx hL1;obtain ⟨bad,q,o,ks,gg,gk⟩:=x;intro hx hL1;dsimp only at hx hL1 ⊢
 obtain ⟨hq1,hq2,hq3,hR⟩:=hx
 have hI:c3L l p out bad q o ks:=⟨hq1,hq2,hq3,hR⟩;have hol:=c7G hI
 refine ru 12 ?_
 first
 | refine a5v 16 5 12 true _ (fun hb=>a0C (xs:=[_]) (pre:=[(9001,_),(9002,_)]) (a4P g l q gg o bad hl hI.2.2.1) ⟨rfl,trivial⟩) rfl rfl rfl rfl (a0i rfl (a0i rfl a0g)) rfl rfl rfl ?_
 | refine b7o 16 5 12 _ _ true _ (fun hb=>a0C (xs:=[_]) (pre:=[(9001,_),(9002,_)]) (a4P g l q gg o bad hl hI.2.2.1) ⟨rfl,trivial⟩) rfl rfl rfl rfl (a0i rfl (a0i rfl a0g)) rfl rfl rfl ?_
 refine ru 5 ?_
 first
 | refine a5v 22 11 18 false _ (fun hb=>a0C (xs:=[_]) (pre:=[(9001,_),(9002,_)]) (a4P g l q gg o bad hl hI.2.2.1) ⟨rfl,trivial⟩) rfl rfl rfl rfl (a0i rfl (a0i rfl a0g)) rfl rfl rfl ?_
 | refine a4R 22 11 18 12 true false _ _ (fun hb hb2=>a0C (xs:=[_]) (pre:=[(9001,_),(9002,_)]) (a4P g l q gg o bad hl hI.2.2.1) ⟨rfl,trivial⟩) rfl rfl rfl rfl rfl (a0i rfl (a0i rfl a0g)) rfl rfl rfl ?_
 | refine b7o 22 11 18 _ _ false _ (fun hb=>a0C (xs:=[_]) (pre:=[(9001,_),(9002,_)]) (a4P g l q gg o bad hl hI.2.2.1) ⟨rfl,trivial⟩) rfl rfl rfl rfl (a0i rfl (a0i rfl a0g)) rfl rfl rfl ?_
 refine ru 5 ?_
 refine wdc (fun hr0 hc0=>?_) (fun hr0 hc0=>?_)
 ·skip
  obtain ⟨rfl,hkq⟩:bad=false∧(kd l q=1∨kd l q=2):=(by cases bad with | true=>exact absurd hr0 (by simp) | false=>exact ⟨rfl,by simpa using hr0⟩)
  refine ru 6 ?_
  refine a0s 28 (xs:=[_]) (pre:=[(9001,_),(9002,_)]) (hitem q hI.2.1 hI.2.2.1 _ gg o om) ⟨rfl,trivial⟩ (a0i rfl (a0i rfl a0g)) rfl rfl (fun x2 c2 hx2=>?_)
  obtain ⟨t,q',g4,o4,r'⟩:=x2
  (try dsimp only)
  refine a0u 29 (a0b (id:=29) (hs:=[_]) ei_49.h omx rfl omx ⟨rfl,rfl,rfl,rfl,trivial⟩) rfl rfl a0g rfl rfl (c':=c2+1) rfl ?_
  first
  | refine a0u 30 (a0a ei_49.h (by first | exact Nat.le_of_ble_eq_true rfl | omega | (dsimp only;omega) | (simp <;> omega)) rfl (by first | exact Nat.le_of_ble_eq_true rfl | omega | (dsimp only;omega) | (simp <;> omega)) (by first | exact Nat.le_of_ble_eq_true rfl | omega | (dsimp only;omega) | (simp <;> omega)) (a0x rfl (by first | exact Nat.le_of_ble_eq_true rfl | omega | (dsimp only;omega) | (simp <;> omega))) (by first | exact Nat.le_of_ble_eq_true rfl | omega | (dsimp only;omega) | (simp <;> omega)) rfl) rfl rfl (a0i rfl (a0P rfl)) rfl rfl (c':=c2+2) rfl ?_
  | refine a0u 30 (a0a ei_49.h (by first | exact Nat.le_of_ble_eq_true rfl | omega | (dsimp only;omega) | (simp <;> omega)) rfl (by first | exact Nat.le_of_ble_eq_true rfl | omega | (dsimp only;omega) | (simp <;> omega)) (by first | exact Nat.le_of_ble_eq_true rfl | omega | (dsimp only;omega) | (simp <;> omega)) (a0S rfl (by first | exact Nat.le_of_ble_eq_true rfl | omega | (dsimp only;omega) | (simp <;> omega))) (by first | exact Nat.le_of_ble_eq_true rfl | omega | (dsimp only;omega) | (simp <;> omega)) rfl) rfl rfl (a0i rfl (a0P rfl)) rfl rfl (c':=c2+2) rfl ?_
  | refine a0u 30 (a0a ei_49.h (by first | exact Nat.le_of_ble_eq_true rfl | omega | (dsimp only;omega) | (simp <;> omega)) rfl (by first | exact Nat.le_of_ble_eq_true rfl | omega | (dsimp only;omega) | (simp <;> omega)) (by first | exact Nat.le_of_ble_eq_true rfl | omega | (dsimp only;omega) | (simp <;> omega)) (a0O rfl) (by first | exact Nat.le_of_ble_eq_true rfl | omega | (dsimp only;omega) | (simp <;> omega)) rfl) rfl rfl (a0i rfl a0g) rfl rfl (c':=c2+2) rfl ?_
  | refine a0u 30 (a0a ei_49.h (by first | exact Nat.le_of_ble_eq_true rfl | omega | (dsimp only;omega) | (simp <;> omega)) rfl (by first | exact Nat.le_of_ble_eq_true rfl | omega | (dsimp only;omega) | (simp <;> omega)) (by first | exact Nat.le_of_ble_eq_true rfl | omega | (dsimp only;omega) | (simp <;> omega)) (a0z 1 (fun _ _=>default) rfl) (by first | exact Nat.le_of_ble_eq_true rfl | omega | (dsimp only;omega) | (simp <;> omega)) rfl) rfl rfl (a0i rfl a0g) rfl rfl (c':=c2+2) rfl ?_
  refine ru 3 ?_
  exact hL1 ((t.isNone,q',o4,ks++[r'],g4,c2+1)) _ _ (by (try dsimp only);exact b5I hI hkq hx2) (by (try dsimp only);exact b9p hx2) (a0c rfl (Nat.le_refl _) (tsr rfl (a0t.cons rfl (a3k (by simp)) a0t.nil)) (hsr rfl (hsr rfl (a0f.cons rfl (a0G (enc:=fun x _=>intV x) (d:=0) rfl (fun i j _ _=>.refl _) (fun j hj=>.refl _)) a0f.nil))))
 obtain ⟨tt,rfl,hdone⟩:=b5A hI (by cases bad with | true=>exact .inl rfl | false=>right;simpa using hr0)
 refine ru 2 ?_
 refine a0d ?_
 refine ru 6 ?_
 refine (a1a 32 [(6,_)] rfl (a0i rfl a0g) rfl ((show Fz _ _ (a1u ks) from a2r (l:=ks) (enc:=fun x _=>intV x) (d:=0) (List.mem_cons_self ..) rfl rfl (Nat.le_refl _) (fun i j hi hj=>.imm _)))).seq ?_
 refine a0s 33 (xs:=[_,_,_]) (pre:=[(9001,_),(9002,_)]) (c3l _ g l q gg _ tt.isNone o 2 ks rfl om) ⟨rfl,⟨rfl,⟨rfl,trivial⟩⟩⟩ (a0i rfl (a0i rfl a0g)) rfl rfl (fun x3 c3 hy=>?_)
 obtain ⟨g5,o5,r5⟩:=x3
 (try dsimp only)
 refine ru 4 ?_
 refine fr1 ok hX rw1 (⟨tt,q,g5,o5,r5⟩) (hdone _ hy) (kza) ?_
 exact ⟨⟨_,rfl,a4Y rfl rfl⟩,⟨⟨_,rfl,a2C⟩,trivial⟩⟩
theorem b9c {sh:List (Nat×HObj)} {a b:Int} (h:a=b):Fz sh (intV a) (intV b):=by subst h;exact .imm _
theorem a5u (x:Int):HPure Tryz.prog 107 [.imm (.int .u8 x)] (boolV (smallZ x)):=by
 refine a0k Tryz.func107 rfl kr _ _ _ rfl 9 rfl rfl (fun w F=>?_)
 refine ru 17 ?_
 refine rt1 ?_
 exact Frz.fz
theorem a1S (x:Int):HPure Tryz.prog 108 [.imm (.int .u8 x)] (boolV (a0Q x)):=by
 refine a0k Tryz.func108 rfl kr _ _ _ rfl 9 rfl rfl (fun w F=>?_)
 refine ru 17 ?_
 refine rt1 ?_
 exact Frz.fz
theorem a5y (s:List UInt8) (p:Nat):HPure Tryz.prog 116 [strV s,intV p] (t2 (intV (a1r s p).1) (intV (a1r s p).2)):=by
 refine a0k Tryz.func116 rfl kr _ _ _ rfl 13 rfl rfl (fun w F=>?_)
 refine ru 15 ?_
 refine wdc (fun hr0 hc0=>?_) (fun hr0 hc0=>?_)
 ·refine ru 10 ?_
  refine rt2 ?_
  have e:a1r s p=((s.length:Int),5):=if_pos om;rw [e];exact a4F (.imm _) (.imm _)
 refine ru 10 ?_
 refine rt2 ?_
 have e:a1r s p=((p:Int),2):=if_neg om;rw [e];exact a4F (.imm _) (.imm _)
@[reducible] def c6z (x:Option Int×Nat):HV:=t2 (intV (x.1.getD (-1))) (intV x.2)
theorem b3X (s:List UInt8) (i:Nat) (hs:s.length≤9223372036854775807) (hi:i≤s.length):HPure Tryz.prog 115 [strV s,intV i] (c6z (a4N s i)):=by
 refine a0k Tryz.func115 rfl kr _ _ _ rfl 62 rfl rfl (fun w F=>?_)
 refine ru 17 ?_
 first
 | refine stg 11 (fun hb=>a0e (xs:=[_]) (a1S _) ⟨rfl,trivial⟩ ⟨(Fz.eq rfl),trivial⟩) rfl rfl rfl rfl rfl ?_
 | refine sth 11 (fun hb=>a0e (xs:=[_]) (a1S _) ⟨rfl,trivial⟩ ⟨(Fz.eq rfl),trivial⟩) rfl rfl rfl rfl rfl ?_
 refine ru 4 ?_
 refine wdc (fun hr0 hc0=>?_) (fun hr0 hc0=>?_)
 ·skip
  have d0:a0Q (bz s i)=false:=(by have h:=hr0;rw [Int.toNat_natCast,c0u] at h;simpa using h)
  refine ru 9 ?_
  refine rt2 ?_
  rw [b1r d0];exact a4F (.imm _) (.imm _)
 have d0:a0Q (bz s i)=true:=(by have h:=hr0;rw [Int.toNat_natCast,c0u] at h;simpa using h);have hil:=a2b d0;have dz:=a1P.1 d0
 refine ru 7 ?_
 refine rvl (.imm (.int .u8 (bz s i))) (by rw [a3E hil,Int.toNat_natCast]) ?_
 refine ru 9 ?_
 refine rvl (intV ((i+1:Nat):Int)) (rfl) ?_
 refine ru 14 ?_
 first
 | refine stg 30 (fun hb=>a0e (xs:=[_]) (a1S _) ⟨rfl,trivial⟩ ⟨(Fz.eq rfl),trivial⟩) rfl rfl rfl rfl rfl ?_
 | refine sth 30 (fun hb=>a0e (xs:=[_]) (a1S _) ⟨rfl,trivial⟩ ⟨(Fz.eq rfl),trivial⟩) rfl rfl rfl rfl rfl ?_
 refine ru 3 ?_
 refine wdc (fun hr1 hc1=>?_) (fun hr1 hc1=>?_)
 ·skip
  have d1:a0Q (bz s (i+1))=true:=(by have h:=hr1;rw [Int.toNat_natCast,←b2m] at h;exact h);have hil2:=a2b d1;have dz1:=a1P.1 d1
  refine ru 7 ?_
  refine wdc (fun hr2 hc2=>?_) (fun hr2 hc2=>?_)
  ·refine ru 10 ?_
   refine rt2 ?_
   have e:a4N s i=(none,i+1):=(by unfold a4N;rw [if_pos d0,if_pos d1,if_pos om]);rw [e];exact a4F (.imm _) (.imm _)
  refine ru 9 ?_
  refine rvl (.imm (.int .u8 (bz s (i+1)))) (by rw [a3E hil2,Int.toNat_natCast]) ?_
  refine ru 10 ?_
  refine rvl (intV ((i+2:Nat):Int)) (rfl) ?_
  refine ru 13 ?_
  first
  | refine stg 53 (fun hb=>a0e (xs:=[_]) (a1S _) ⟨rfl,trivial⟩ ⟨(Fz.eq rfl),trivial⟩) rfl rfl rfl rfl rfl ?_
  | refine sth 53 (fun hb=>a0e (xs:=[_]) (a1S _) ⟨rfl,trivial⟩ ⟨(Fz.eq rfl),trivial⟩) rfl rfl rfl rfl rfl ?_
  refine ru 3 ?_
  refine wdc (fun hr3 hc3=>?_) (fun hr3 hc3=>?_)
  ·skip
   have d2:a0Q (bz s (i+2))=true:=(by have h:=hr3;rw [Int.toNat_natCast,←b2m] at h;exact h)
   refine ru 9 ?_
   refine rt2 ?_
   have e:a4N s i=(none,i+2):=(by unfold a4N;rw [if_pos d0,if_pos d1,if_neg om,if_pos d2]);rw [e];exact a4F (.imm _) (.imm _)
  have d2:a0Q (bz s (i+2))=false:=(by have h:=hr3;rw [Int.toNat_natCast,←b2m] at h;exact h)
  refine ru 11 ?_
  refine rt2 ?_
  have e:a4N s i=(some (10 * (bz s i - 48)+(bz s (i+1) - 48)),i+2):=(by unfold a4N;rw [if_pos d0,if_pos d1,if_neg om,if_neg (by rw [d2];decide)]);rw [e];exact a4F (.imm _) (.imm _)
 have d1:a0Q (bz s (i+1))=false:=(by have h:=hr1;rw [Int.toNat_natCast,←b2m] at h;exact h)
 refine ru 11 ?_
 refine rt2 ?_
 have e:a4N s i=(some (bz s i - 48),i+1):=(by unfold a4N;rw [if_pos d0,if_neg (by rw [d1];decide)]);rw [e];exact a4F (.imm _) (.imm _)
theorem b6d {s:List UInt8} {i:Nat} {x:Option Int×Nat} (hs:s.length≤9223372036854775807) (hi:i≤s.length) (h:a4N s i=x):HPure Tryz.prog 115 [strV s,intV i] (c6z x):=h▸b3X s i hs hi
@[reducible] def c9N (x:Sg×Int×Int):HV:=t3 (sgH x.1) (intV x.2.1) (intV x.2.2)
theorem b6y (s:List UInt8) (i:Nat) (hs:s.length≤9223372036854775807) (hi:i < s.length):HPure Tryz.prog 109 [strV s,intV i] (c9N (a1M s i)):=by
 refine a0k Tryz.func109 rfl kr _ _ _ rfl 143 rfl rfl (fun w F=>?_)
 refine ru 16 ?_
 rcases hn:a4N s (i+1) with ⟨_ | n,p⟩
 ·refine ru 4 ?_
  refine rvl (intV ((i+1:Nat):Int)) (rfl) ?_
  refine cll (b6d hs hi hn) ?_
  refine ru 2 ?_
  refine rvl (intV (-1)) (rfl) ?_
  refine ru 1 ?_
  refine rvl (intV p) (rfl) ?_
  refine ru 6 ?_
  have hnp:=a6b om hn
  refine ru 5 ?_
  refine wdc (fun hr0 hc0=>?_) (fun hr0 hc0=>?_)
  ·refine ru 4 ?_
   refine cll (a5y s p) ?_
   refine ru 19 ?_
   refine rt3 ?_
   have e:a1M s i=(⟨5,i,0,0,[]⟩,a1r s p):=(by unfold a1M;rw [hn]);rw [e];exact a3l (a0Y fzc fzc fzc fzc fzc) (.imm _) (.imm _)
  exfalso;exact absurd hr0 (by simp)
 ·refine ru 4 ?_
  refine rvl (intV ((i+1:Nat):Int)) (rfl) ?_
  refine cll (b6d hs hi hn) ?_
  refine ru 2 ?_
  refine rvl (intV n) (rfl) ?_
  refine ru 1 ?_
  refine rvl (intV p) (rfl) ?_
  refine ru 6 ?_
  have hnp:=a6b om hn
  refine ru 5 ?_
  refine wdc (fun hr0 hc0=>?_) (fun hr0 hc0=>?_)
  ·skip
   exfalso;have:=hnp.2.2 n rfl;omega
  refine ru 25 ?_
  refine wdc (fun hr1 hc1=>?_) (fun hr1 hc1=>?_)
  ·skip
   have h1:20 < n∨(n=0∧bz s p=125):=(by have h:=hr1;rw [Int.toNat_natCast,b8G] at h;exact of_decide_eq_true h)
   refine ru 12 ?_
   refine rt3 ?_
   have e:a1M s i=(⟨5,i,0,0,[]⟩,((i+1:Nat):Int),3):=(by unfold a1M;rw [hn];simp only;rw [if_pos h1]);rw [e];exact a3l (a0Y fzc fzc fzc fzc fzc) (.imm _) (.imm _)
  have h1:¬ (20 < n∨(n=0∧bz s p=125)):=(by have h:=hr1;rw [Int.toNat_natCast,b8G] at h;exact of_decide_eq_false h)
  refine ru 31 ?_
  refine wdc (fun hr2 hc2=>?_) (fun hr2 hc2=>?_)
  ·skip
   have h2:bz s p=44:=(by have h:=hr2;rw [Int.toNat_natCast,b8J s p (by decide)] at h;exact of_decide_eq_true h);have hlt:=a4e (s:=s) (i:=p) om
   refine ru 4 ?_
   refine rvl (intV ((p+1:Nat):Int)) (rfl) ?_
   refine ru 29 ?_
   refine wdc (fun hr3 hc3=>?_) (fun hr3 hc3=>?_)
   ·skip
    have h3:¬ bz s (p+1)=125:=(by have h:=hr3;rw [Int.toNat_natCast,a8S s (p+1) (by decide)] at h;simpa using h)
    refine ru 1 ?_
    rcases hm:a4N s (p+1) with ⟨_ | m,q⟩
    ·refine ru 3 ?_
     refine cll (b6d hs hlt hm) ?_
     refine ru 2 ?_
     refine rvl (intV (-1)) (rfl) ?_
     refine ru 1 ?_
     refine rvl (intV q) (rfl) ?_
     refine ru 6 ?_
     have hmq:=a6b om hm
     refine ru 5 ?_
     refine wdc (fun hr4 hc4=>?_) (fun hr4 hc4=>?_)
     ·refine ru 4 ?_
      refine cll (a5y s q) ?_
      refine ru 20 ?_
      refine rt3 ?_
      have e:a1M s i=(⟨5,i,n,-1,[]⟩,a1r s q):=(by unfold a1M;rw [hn];simp only;rw [if_neg h1,if_pos h2,if_neg h3,hm]);rw [e];exact a3l (a0Y fzc fzc fzc fzc fzc) (.imm _) (.imm _)
     exfalso;exact absurd hr4 (by simp)
    ·refine ru 3 ?_
     refine cll (b6d hs hlt hm) ?_
     refine ru 2 ?_
     refine rvl (intV m) (rfl) ?_
     refine ru 1 ?_
     refine rvl (intV q) (rfl) ?_
     refine ru 6 ?_
     have hmq:=a6b om hm
     refine ru 5 ?_
     refine wdc (fun hr4 hc4=>?_) (fun hr4 hc4=>?_)
     ·skip
      exfalso;have:=hmq.2.2 m rfl;omega
     refine ru 18 ?_
     refine wdc (fun hr5 hc5=>?_) (fun hr5 hc5=>?_)
     ·skip
      have h5:m < 1∨20 < m∨m < n:=(by have h:=hr5;simp only [Bool.or_eq_true,decide_eq_true_eq] at h;omega)
      refine ru 12 ?_
      refine rt3 ?_
      have e:a1M s i=(⟨5,i,n,-1,[]⟩,((p+1:Nat):Int),3):=(by unfold a1M;rw [hn];simp only;rw [if_neg h1,if_pos h2,if_neg h3,hm];simp only;rw [if_pos h5]);rw [e];exact a3l (a0Y fzc fzc fzc fzc fzc) (.imm _) (.imm _)
     have h5:¬ (m < 1∨20 < m∨m < n):=(by have h:=hr5;simp only [Bool.or_eq_false_iff,decide_eq_false_iff_not] at h;omega)
     refine ru 29 ?_
     refine wdc (fun hr6 hc6=>?_) (fun hr6 hc6=>?_)
     ·skip
      have h6:¬ bz s q=125:=(by have h:=hr6;rw [Int.toNat_natCast,a8S s q (by decide)] at h;simpa using h)
      refine ru 4 ?_
      refine cll (a5y s q) ?_
      refine ru 19 ?_
      refine rt3 ?_
      have e:a1M s i=(⟨5,i,n,m,[]⟩,a1r s q):=(by unfold a1M;rw [hn];simp only;rw [if_neg h1,if_pos h2,if_neg h3,hm];simp only;rw [if_neg h5,if_neg h6]);rw [e];exact a3l (a0Y fzc fzc fzc fzc fzc) (.imm _) (.imm _)
     have h6:bz s q=125:=(by have h:=hr6;rw [Int.toNat_natCast,a8S s q (by decide)] at h;simpa using h)
     refine ru 13 ?_
     refine rt3 ?_
     have e:a1M s i=(⟨5,i,n,m,[]⟩,((q+1:Nat):Int),0):=(by unfold a1M;rw [hn];simp only;rw [if_neg h1,if_pos h2,if_neg h3,hm];simp only;rw [if_neg h5,if_pos h6]);rw [e];exact a3l (a0Y fzc fzc fzc fzc fzc) (.imm _) (.imm _)
   have h3:bz s (p+1)=125:=(by have h:=hr3;rw [Int.toNat_natCast,a8S s (p+1) (by decide)] at h;simpa using h)
   refine ru 17 ?_
   refine wdc (fun hr6 hc6=>?_) (fun hr6 hc6=>?_)
   ·skip
    exfalso;have h:=hr6;rw [Int.toNat_natCast,a8S s (p+1) (by decide),h3] at h;exact absurd h (by decide)
   refine ru 13 ?_
   refine rt3 ?_
   have e:a1M s i=(⟨5,i,n,-1,[]⟩,((p+2:Nat):Int),0):=(by unfold a1M;rw [hn];simp only;rw [if_neg h1,if_pos h2,if_pos h3]);rw [e];exact a3l (a0Y fzc fzc fzc fzc fzc) (b9c (by show ((p+1:Nat):Int)+1=((p+2:Nat):Int);omega)) (.imm _)
  have h2:¬ bz s p=44:=(by have h:=hr2;rw [Int.toNat_natCast,b8J s p (by decide)] at h;exact of_decide_eq_false h)
  refine ru 17 ?_
  refine wdc (fun hr6 hc6=>?_) (fun hr6 hc6=>?_)
  ·skip
   have h6:¬ bz s p=125:=(by have h:=hr6;rw [Int.toNat_natCast,a8S s p (by decide)] at h;simpa using h)
   refine ru 4 ?_
   refine cll (a5y s p) ?_
   refine ru 19 ?_
   refine rt3 ?_
   have e:a1M s i=(⟨5,i,n,n,[]⟩,a1r s p):=(by unfold a1M;rw [hn];simp only;rw [if_neg h1,if_neg h2,if_neg h6]);rw [e];exact a3l (a0Y fzc fzc fzc fzc fzc) (.imm _) (.imm _)
  have h6:bz s p=125:=(by have h:=hr6;rw [Int.toNat_natCast,a8S s p (by decide)] at h;simpa using h)
  refine ru 13 ?_
  refine rt3 ?_
  have e:a1M s i=(⟨5,i,n,n,[]⟩,((p+1:Nat):Int),0):=(by unfold a1M;rw [hn];simp only;rw [if_neg h1,if_neg h2,if_pos h6]);rw [e];exact a3l (a0Y fzc fzc fzc fzc fzc) (.imm _) (.imm _)
theorem a9q (x:Int):HPure Tryz.prog 93 [.imm (.int .u8 x)] (boolV (a4L x)):=by
 refine a0k Tryz.func93 rfl kr _ _ _ rfl 33 rfl rfl (fun w F=>?_)
 refine ru 8 ?_
 refine cll (a5u _) ?_
 refine ru 32 ?_
 refine rt1 ?_
 exact Frz.fz
theorem b5P (s:List UInt8) (i:Nat) (hs:s.length≤9223372036854775807) (hi:i < s.length):HPure Tryz.prog 94 [strV s,intV i] (c9N (a7E s i)):=by
 refine a0k Tryz.func94 rfl kr _ _ _ rfl 93 rfl rfl (fun w F=>?_)
 refine ru 12 ?_
 refine rvl (.imm (.int .u8 (bz s i))) (by rw [a3E hi,Int.toNat_natCast]) ?_
 refine ru 7 ?_
 refine cll (a5u _) ?_
 refine ru 2 ?_
 refine wdc (fun hr0 hc0=>?_) (fun hr0 hc0=>?_)
 ·refine ru 8 ?_
  refine a0l (α:=Nat) (fun x c=>⟨93,[(0,.v (strV s)),(1,.v (intV i)),(4,.v (.pt 4 0 0 0)),(8,.v (intV ((i+x:Nat):Int)))],[(4,⟨0,1,5,142,0,sg0⟩)],c⟩) (fun x=>x≤12∧i+x≤s.length∧(∀ j,j < x→alnumZ (bz s (i+j))=true)) (fun x=>12 - x) (0) (by exact ⟨by omega,by omega,fun j h=>absurd h om⟩) (a0c rfl (Nat.le_refl _) tsa hsa) (fun k c hx NhL1 hL1=>?_)
  (try dsimp only at hx hL1 ⊢)
  obtain ⟨hk,hik,hal⟩:=hx
  refine ru 11 ?_
  first
  | refine stg 19 (fun hb=>a0e (xs:=[_]) (a5u _) ⟨rfl,trivial⟩ ⟨(Fz.eq rfl),trivial⟩) rfl rfl rfl rfl rfl ?_
  | refine sth 19 (fun hb=>a0e (xs:=[_]) (a5u _) ⟨rfl,trivial⟩ ⟨(Fz.eq rfl),trivial⟩) rfl rfl rfl rfl rfl ?_
  refine ru 4 ?_
  first
  | refine stg 24 (fun hb=>a0e (xs:=[_]) (a1S _) ⟨rfl,trivial⟩ ⟨(Fz.eq rfl),trivial⟩) rfl rfl rfl rfl rfl ?_
  | refine a4R 28 9 24 19 true false _ _ (fun hb hb2=>a0e (xs:=[_]) (a1S _) ⟨rfl,trivial⟩ ⟨(Fz.eq rfl),trivial⟩) rfl rfl rfl rfl rfl a0g rfl rfl rfl ?_
  | refine sth 24 (fun hb=>a0e (xs:=[_]) (a1S _) ⟨rfl,trivial⟩ ⟨(Fz.eq rfl),trivial⟩) rfl rfl rfl rfl rfl ?_
  refine ru 4 ?_
  refine wdc (fun hr1 hc1=>?_) (fun hr1 hc1=>?_)
  ·skip
   have hall:alnumZ (bz s (i+k))=true:=(by have h:=hr1;rw [Int.toNat_natCast,b6g] at h;exact h);have hlt:i+k < s.length:=a4e (fun h=>by rw [h] at hall;exact absurd hall (by decide))
   refine ru 12 ?_
   refine wdc (fun hr2 hc2=>?_) (fun hr2 hc2=>?_)
   ·refine ru 12 ?_
    refine a0o ?_
    refine ru 3 ?_
    refine rt3 ?_
    obtain rfl:k=12:=om;have e:a7E s i=(sgZ,((i+12:Nat):Int),2):=(by unfold a7E;rw [if_pos hc0];unfold c1s;rw [if_pos (b3k (Nat.le_refl _) (fun j hj=>by rcases Nat.lt_or_ge j 12 with h | h;exact hal j h;obtain rfl:j=12:=om;exact hall) (fun h=>absurd h om))]);rw [e];exact a3l (a0Y fzc fzc fzc fzc fzc) (.imm _) (.imm _)
   refine ru 5 ?_
   refine rvl (intV ((i+(k+1):Nat):Int)) (rfl) ?_
   refine ru 3 ?_
   exact hL1 (k+1) _ _ (by (try dsimp only);exact ⟨by omega,by omega,fun j hj=>by rcases Nat.lt_or_ge j k with h | h;exact hal j h;obtain rfl:j=k:=om;exact hall⟩) (by (try dsimp only);omega) (a0c rfl (Nat.le_refl _) tsa hsa)
  have hno:alnumZ (bz s (i+k))=false:=(by have h:=hr1;rw [Int.toNat_natCast,b6g] at h;exact h)
  refine ru 2 ?_
  refine a0d ?_
  refine ru 18 ?_
  refine rt3 ?_
  have e:a7E s i=(⟨1,i,0,0,(s.drop i).take (i+k - i)⟩,((i+k:Nat):Int),0):=(by unfold a7E;rw [if_pos hc0];unfold c1s;rw [b3k (f:=13) (show k≤13 by omega) hal (fun _=>hno),if_neg (show ¬ k=13 by omega),show i+k - i=k by omega]);rw [e];exact a3l (a0Y fzc fzc fzc fzc fzc) (.imm _) (.imm _)
 have h0:¬ smallZ (bz s i)=true:=(by rw [hc0];decide)
 refine ru 15 ?_
 refine wdc (fun hr3 hc3=>?_) (fun hr3 hc3=>?_)
 ·refine ru 14 ?_
  refine rt3 ?_
  have e:a7E s i=(⟨2,i,0,0,[]⟩,((i+1:Nat):Int),0):=(by unfold a7E;rw [if_neg h0,if_pos hc3]);rw [e];exact a3l (a0Y fzc fzc fzc fzc fzc) (.imm _) (.imm _)
 refine ru 6 ?_
 refine wdc (fun hr4 hc4=>?_) (fun hr4 hc4=>?_)
 ·refine ru 14 ?_
  refine rt3 ?_
  have e:a7E s i=(⟨3,i,0,0,[]⟩,((i+1:Nat):Int),0):=(by unfold a7E;rw [if_neg h0,if_neg hc3,if_pos hc4]);rw [e];exact a3l (a0Y fzc fzc fzc fzc fzc) (.imm _) (.imm _)
 refine ru 6 ?_
 refine wdc (fun hr5 hc5=>?_) (fun hr5 hc5=>?_)
 ·refine ru 14 ?_
  refine rt3 ?_
  have e:a7E s i=(⟨4,i,0,0,[]⟩,((i+1:Nat):Int),0):=(by unfold a7E;rw [if_neg h0,if_neg hc3,if_neg hc4,if_pos hc5]);rw [e];exact a3l (a0Y fzc fzc fzc fzc fzc) (.imm _) (.imm _)
 refine ru 6 ?_
 refine wdc (fun hr6 hc6=>?_) (fun hr6 hc6=>?_)
 ·refine ru 14 ?_
  refine rt3 ?_
  have e:a7E s i=(⟨5,i,0,-1,[]⟩,((i+1:Nat):Int),0):=(by unfold a7E;rw [if_neg h0,if_neg hc3,if_neg hc4,if_neg hc5,if_pos hc6]);rw [e];exact a3l (a0Y fzc fzc fzc fzc fzc) (.imm _) (.imm _)
 refine ru 6 ?_
 refine wdc (fun hr7 hc7=>?_) (fun hr7 hc7=>?_)
 ·refine ru 14 ?_
  refine rt3 ?_
  have e:a7E s i=(⟨5,i,1,-1,[]⟩,((i+1:Nat):Int),0):=(by unfold a7E;rw [if_neg h0,if_neg hc3,if_neg hc4,if_neg hc5,if_neg hc6,if_pos hc7]);rw [e];exact a3l (a0Y fzc fzc fzc fzc fzc) (.imm _) (.imm _)
 refine ru 6 ?_
 refine wdc (fun hr8 hc8=>?_) (fun hr8 hc8=>?_)
 ·refine ru 14 ?_
  refine rt3 ?_
  have e:a7E s i=(⟨5,i,0,1,[]⟩,((i+1:Nat):Int),0):=(by unfold a7E;rw [if_neg h0,if_neg hc3,if_neg hc4,if_neg hc5,if_neg hc6,if_neg hc7,if_pos hc8]);rw [e];exact a3l (a0Y fzc fzc fzc fzc fzc) (.imm _) (.imm _)
 refine ru 6 ?_
 refine wdc (fun hr9 hc9=>?_) (fun hr9 hc9=>?_)
 ·refine ru 4 ?_
  refine cll (b6y s i hs hi) ?_
  refine ru 11 ?_
  refine rt3 ?_
  have e:a7E s i=a1M s i:=(by unfold a7E;rw [if_neg h0,if_neg hc3,if_neg hc4,if_neg hc5,if_neg hc6,if_neg hc7,if_neg hc8,if_pos hc9]);rw [e];exact a3l (a0Y fzc fzc fzc fzc fzc) (.imm _) (.imm _)
 refine ru 13 ?_
 refine rt3 ?_
 have e:a7E s i=(sgZ,(i:Int),2):=(by unfold a7E;rw [if_neg h0,if_neg hc3,if_neg hc4,if_neg hc5,if_neg hc6,if_neg hc7,if_neg hc8,if_neg hc9]);rw [e];exact a3l (a0Y fzc fzc fzc fzc fzc) (.imm _) (.imm _)
theorem c9u {f:Nat→HV} (x:Sg) (h0:Sb (f 0) (sgF x 0)) (h1:Sb (f 1) (sgF x 1)) (h2:Sb (f 2) (sgF x 2)) (h3:Sb (f 3) (sgF x 3)) (h4:Sb (f 4) (sgF x 4)):∀ j,j < 5→Sb (f j) (sgF x j):=fun j hj=>by
 match j,hj with
 | 0,_=>exact h0
 | 1,_=>exact h1
 | 2,_=>exact h2
 | 3,_=>exact h3
 | 4,_=>exact h4
theorem c7n {sh:List (Nat×HObj)} (x:Sg) (j:Nat):Fz sh (sgF x j) (sgF x j):=by
 match j with
 | 0=>exact .imm _
 | 1=>exact .imm _
 | 2=>exact .imm _
 | 3=>exact .imm _
 | j+4=>exact .imm _
theorem c2f (s:List UInt8) (hs:s.length≤9223372036854775807):HPure Tryz.prog 66 [strV s] (c3e (b7E (lexV s))):=by
 have hV:=b3B s
 refine a0k Tryz.func66 rfl kr _ _ _ rfl 47 rfl rfl (fun w F=>?_)
 refine ru 19 ?_
 refine a4O 5 5 5 142 ((c3v [])) rfl (by decide) rfl (c':=1) rfl ?_
 refine a0l (α:=Nat×List Sg×Nat×Nat) (fun x c=>⟨47,[(0,.v (strV s)),(6,.v (intV x.1)),(5,.v (.os 5 x.2.2.1 0 x.2.2.2))],[(5,⟨x.2.2.1,x.2.2.2,5,142,0,c3v x.2.1⟩)],c⟩) (fun x=>x.1≤s.length∧x.2.1.length≤200∧x.2.2.2=x.2.1.length∧a4D s x.1 x.2.1=lexV s) (fun x=>s.length - x.1) ((0,[],0,0)) (by exact ⟨Nat.zero_le _,Nat.zero_le _,rfl,hV⟩) (a0c rfl (Nat.le_refl _) tsa hsa) (fun x c hx NhL1 hL1=>?_)
 revert hx hL1;obtain ⟨i,out,gl,n⟩:=x;intro hx hL1;dsimp only at hx hL1 ⊢
 obtain ⟨hi,hol,hn,hL⟩:=hx
 refine ru 9 ?_
 refine wdc (fun hr0 hc0=>?_) (fun hr0 hc0=>?_)
 ·skip
  have hil:i < s.length:=om
  refine ru 9 ?_
  refine rvl (.imm (.int .u8 (bz s i))) (by rw [a3E hil,Int.toNat_natCast]) ?_
  refine ru 3 ?_
  refine wdc (fun hr1 hc1=>?_) (fun hr1 hc1=>?_)
  ·refine ru 4 ?_
   refine rvl (intV ((i+1:Nat):Int)) (rfl) ?_
   refine ru 6 ?_
   exact hL1 ((i+1,out,gl,n)) _ _ (by (try dsimp only);exact ⟨hil,hol,hn,by rw [←b1u hil hc1];exact hL⟩) (by (try dsimp only);omega) (a0c rfl (Nat.le_refl _) tsa hsa)
  refine ru 12 ?_
  refine ry (.imm (.int .u8 (bz s i))) rfl (fun hb=>by rw [a3E hil,Int.toNat_natCast]) ?_
  first
  | refine stg 23 (fun hb=>a0e (xs:=[_]) (a9q _) ⟨rfl,trivial⟩ ⟨(Fz.eq rfl),trivial⟩) rfl rfl rfl rfl rfl ?_
  | refine sth 23 (fun hb=>a0e (xs:=[_]) (a9q _) ⟨rfl,trivial⟩ ⟨(Fz.eq rfl),trivial⟩) rfl rfl rfl rfl rfl ?_
  refine ru 3 ?_
  refine wdc (fun hr2 hc2=>?_) (fun hr2 hc2=>?_)
  ·refine ru 11 ?_
   refine a0o ?_
   refine ru 2 ?_
   refine rt3 ?_
   have e:lexV s=.error ((i:Int),4):=(by rw [←hL];exact a9S hil hc1 om hc2.2);rw [e];exact a3l (.nil 0 5 _ (by decide) none) (.imm _) (.imm _)
  refine ru 3 ?_
  have hsm:=b4Z s i hil;rcases hone:a3L s i with e | ⟨x,q⟩ <;> rw [hone] at hsm
  ·refine ru 3 ?_
   refine cll (b5P s i hs hil) ?_
   refine ru 3 ?_
   refine rvl (intV e.1) (by rw [←hsm.1];rfl) ?_
   refine ru 1 ?_
   refine rvl (intV e.2) (by rw [←hsm.1];rfl) ?_
   refine ru 13 ?_
   refine wdc (fun hr3 hc3=>?_) (fun hr3 hc3=>?_)
   ·refine ru 12 ?_
    refine a0o ?_
    refine ru 2 ?_
    refine rt3 ?_
    have e':lexV s=.error e:=(by rw [←hL];rcases Classical.em (out.length=200) with h200 | h200;(have hb:a4L (bz s i)=false:=(by have h:=hr2;rw [show ((n:Int) == 200)=true by (rw [hn,h200];try rfl),Bool.true_and] at h;exact h);rw [b2B hil hc1 h200 hb];rw [a9h hb] at hone;injection hone with hone;rw [hone]);exact b2K hil hc1 h200 hone);rw [e'];exact a3l (.nil 0 5 _ (by decide) none) (.imm _) (.imm _)
   exfalso;exact hsm.2 (by simpa using hr3)
  ·refine ru 3 ?_
   refine cll (b5P s i hs hil) ?_
   refine ru 2 ?_
   refine rvl (sgH x) (by rw [show a7E s i=(x,(q:Int),0) from hsm];rfl) ?_
   refine ru 1 ?_
   refine rvl (intV q) (by rw [show a7E s i=(x,(q:Int),0) from hsm];rfl) ?_
   refine ru 1 ?_
   refine rvl (intV 0) (by rw [show a7E s i=(x,(q:Int),0) from hsm];rfl) ?_
   refine ru 13 ?_
   refine wdc (fun hr3 hc3=>?_) (fun hr3 hc3=>?_)
   ·skip
    exfalso;exact absurd hr3 (by decide)
   refine ru 3 ?_
   have hq:=a7t hone;have h200:¬ out.length=200:=(fun h200=>by have h:=hr2;rw [show ((n:Int) == 200)=true by (rw [hn,h200];try rfl),Bool.true_and] at h;rw [a9h h] at hone;cases hone)
   refine ru 3 ?_
   refine a0u 43 (a0b (id:=43) (hs:=[_]) ei_138.h omx rfl omx ⟨rfl,rfl,rfl,rfl,trivial⟩) rfl rfl a0g rfl rfl (c':=c+3) rfl ?_
   first
   | refine a0u 44 (a0a ei_138.h (by first | exact Nat.le_of_ble_eq_true rfl | omega | (dsimp only;omega) | (simp <;> omega)) rfl (by first | exact Nat.le_of_ble_eq_true rfl | omega | (dsimp only;omega) | (simp <;> omega)) (by first | exact Nat.le_of_ble_eq_true rfl | omega | (dsimp only;omega) | (simp <;> omega)) (a0x rfl (by first | exact Nat.le_of_ble_eq_true rfl | omega | (dsimp only;omega) | (simp <;> omega))) (by first | exact Nat.le_of_ble_eq_true rfl | omega | (dsimp only;omega) | (simp <;> omega)) rfl) rfl rfl (a0i rfl (a0P rfl)) rfl rfl (c':=c+4) rfl ?_
   | refine a0u 44 (a0a ei_138.h (by first | exact Nat.le_of_ble_eq_true rfl | omega | (dsimp only;omega) | (simp <;> omega)) rfl (by first | exact Nat.le_of_ble_eq_true rfl | omega | (dsimp only;omega) | (simp <;> omega)) (by first | exact Nat.le_of_ble_eq_true rfl | omega | (dsimp only;omega) | (simp <;> omega)) (a0S rfl (by first | exact Nat.le_of_ble_eq_true rfl | omega | (dsimp only;omega) | (simp <;> omega))) (by first | exact Nat.le_of_ble_eq_true rfl | omega | (dsimp only;omega) | (simp <;> omega)) rfl) rfl rfl (a0i rfl (a0P rfl)) rfl rfl (c':=c+4) rfl ?_
   | refine a0u 44 (a0a ei_138.h (by first | exact Nat.le_of_ble_eq_true rfl | omega | (dsimp only;omega) | (simp <;> omega)) rfl (by first | exact Nat.le_of_ble_eq_true rfl | omega | (dsimp only;omega) | (simp <;> omega)) (by first | exact Nat.le_of_ble_eq_true rfl | omega | (dsimp only;omega) | (simp <;> omega)) (a0O rfl) (by first | exact Nat.le_of_ble_eq_true rfl | omega | (dsimp only;omega) | (simp <;> omega)) rfl) rfl rfl (a0i rfl a0g) rfl rfl (c':=c+4) rfl ?_
   | refine a0u 44 (a0a ei_138.h (by first | exact Nat.le_of_ble_eq_true rfl | omega | (dsimp only;omega) | (simp <;> omega)) rfl (by first | exact Nat.le_of_ble_eq_true rfl | omega | (dsimp only;omega) | (simp <;> omega)) (by first | exact Nat.le_of_ble_eq_true rfl | omega | (dsimp only;omega) | (simp <;> omega)) (a0z 5 (fun _ _=>default) rfl) (by first | exact Nat.le_of_ble_eq_true rfl | omega | (dsimp only;omega) | (simp <;> omega)) rfl) rfl rfl (a0i rfl a0g) rfl rfl (c':=c+4) rfl ?_
   refine ru 8 ?_
   exact hL1 ((q,out++[x],c+3,n+1)) _ _ (by (try dsimp only);exact ⟨hq.2,by rw [List.length_append];show out.length+1≤200;omega,by rw [List.length_append,hn];rfl,by rw [←b1j hil hc1 h200 hone];exact hL⟩) (by (try dsimp only);omega) (a0c rfl (Nat.le_refl _) tsa (a0f.cons rfl (a2X.of fun i j hi hj=>b8U (l:=out) (k:=[x]) (enc:=sgF) (d:=default) hn (fun i j _ _=>.refl _) (b7V (x:=x) (enc:=sgF) (d:=default) (c9u x (.refl _) (.refl _) (.refl _) (.refl _) (.refl _))) i j (by rw [List.length_append,←hn];exact hi) hj) a0f.nil))
 refine ru 2 ?_
 refine a0d ?_
 refine ru 11 ?_
 refine b0I rfl (a0h rfl) (a0h rfl) (a0h rfl) [(5,_)] rfl (a0i rfl a0g) ?_
 have e:lexV s=.ok out:=(by rw [←hL];exact a8n om);rw [e];exact a3l (a2r (l:=out) (enc:=sgF) (d:=default) (List.mem_cons_self ..) rfl hn (Nat.le_refl _) (fun i j hi hj=>c7n _ j)) (.imm _) (.imm _)
instance frz_sgs (l:List Sg):Frz (a4u l):=⟨.sl _ _ _ _ fun i j _ _=>c5F _ j⟩
theorem b0y {s:List UInt8}:∀ {f i:Nat} {out l:List Sg},out.length≤200→b3t s f i out=.ok l→l.length≤200
  | 0,i,out,l,h,e=>by injection e with e;subst e;exact h
  | f + 1, i, out, l, h, e => by
    simp only [b3t] at e
    split at e
    · injection e with e;subst e;exact h
    split at e
    · exact b0y h e
    split at e
    · split at e <;> cases e
    · rename_i hne
      split at e
      · cases e
      · exact b0y (by rw [List.length_append];show out.length+1≤200;omega) e
theorem a8b (s:List UInt8):(b7E (lexV s)).1.length≤200:=by
 cases h:lexV s with
 | error e=>exact Nat.zero_le _
 | ok l=>exact b0y (Nat.zero_le _) h
theorem b0p {s:List UInt8}:∀ {f i:Nat} {out:List Sg} {e:Int×Int},b3t s f i out=.error e→e.2≠0
  | 0,i,out,e,h=>by cases h
  | f + 1, i, out, e, h => by
    simp only [b3t] at h
    split at h
    · cases h
    rename_i hi
    split at h
    · exact b0p h
    split at h
    · split at h
      · injection h with h;subst h;show (4:Int)≠0;decide
      · injection h with h;subst h;exact a6t s i
    · split at h
      · rename_i e' he
        injection h with h;subst h
        have:=b4Z s i (by omega)
        rw [he] at this
        exact this.2
      · exact b0p h
theorem a6K {s:List UInt8} {e:Int×Int} (h:lexV s=.error e):(b7E (.error e)).2.2≠0:=b0p h
def ChI (l:List Sg) (p:Nat) (out:List Pt) (bad:Bool) (q:Nat) (o:List Pt) (ks:List Int):Prop :=
 (1≤ks.length∧ks.length≤2 * (q - p)+1)∧p≤q∧q≤l.length∧match bad with
 | true=>BadS l p q∧o.length+(if ks.length=1 then 0 else 1)≤out.length+2 * (q - p)
 | false=>(kd l q≠1∧kd l q≠2)∧∃ ts,b1Q l p q ts∧o=out++T.flatL out.length ts∧ks=rootsL out.length ts
theorem b6n {l:List Sg} {p q g:Nat} {out o:List Pt} {t:Option T} {r:Int} (h:a5N l 2 p out ⟨t,q,g,o,r⟩):ChI l p out t.isNone q o [r]:=by
 have hle:=b0U h
 refine ⟨⟨Nat.le_refl _,by show 1≤_;omega⟩,hle.1,hle.2.1,?_⟩
 cases t with
 | none=>exact ⟨h.1,h.2⟩
 | some t=>exact ⟨h.2.2.2.1 (Nat.le_refl _),[t],c0Y h.1,by rw [show o=_ from h.2.1];simp [T.flatL],by rw [show r=_ from h.2.2.1];rfl⟩
theorem c0e {l:List Sg} {p q q' g:Nat} {out o o':List Pt} {ks:List Int} {t:Option T} {r:Int} (h:ChI l p out false q o ks) (hk:kd l q=4) (h2:a5N l 2 (q+1) o ⟨t,q',g,o',r⟩):ChI l p out t.isNone q' o' (ks++[r]):=by
  have hle:q+1≤q'∧q'≤l.length∧o'.length≤o.length+2 * (q' - (q+1)):=b0U h2
  obtain ⟨h1,hpq,hql,_,ts,hi,ho,hks⟩:=h
  have hlt:=b3R hi
  have hol:o.length=out.length+T.sizeL ts:=by rw [ho,List.length_append,T.flatL_len]
  have hkl:ks.length=ts.length:=by rw [hks,a0K]
  refine ⟨by rw [List.length_append];show 1≤ks.length+1∧ks.length+1≤_;omega,by omega,hle.2.1,?_⟩
  cases t with
  | none =>
    refine ⟨c0S hi hk h2.1,?_⟩
    rw [if_neg (by rw [List.length_append];show ¬ ks.length+1=1;omega)]
    have:=hi.1
    omega
  | some t =>
    refine ⟨h2.2.2.2.1 (Nat.le_refl _),ts++[t],c0s hi hk h2.1,?_,?_⟩
    · rw [show o'=_ from h2.2.1,ho,T.flatL_snoc,List.append_assoc,List.length_append,T.flatL_len]
    · rw [show r=_ from h2.2.2.1,hks,a3D,hol]
theorem c9f {l:List Sg} {p q:Nat} {out o:List Pt} {ks:List Int} {bad:Bool} (h:ChI l p out bad q o ks):o.length≤out.length+2 * (q - p):=by
  obtain ⟨h1,hpq,hql,h⟩:=h
  cases bad with
  | true=>have:=h.2;omega
  | false =>
    obtain ⟨_,ts,hi,ho,hks⟩:=h
    have:=b3R hi
    rw [ho,List.length_append,T.flatL_len];omega
theorem c0k {l:List Sg} {v q q' g:Nat} {o o':List Pt} {t:Option T} {r:Int} (hq:q < l.length) (h:a5N l v (q+1) o ⟨t,q',g,o',r⟩):2 * (l.length - q')+(if t.isNone then 0 else 1) < 2 * (l.length - q)+(if false then 0 else 1):=by
 have hle:q+1≤q'∧q'≤l.length∧o'.length≤o.length+2 * (q' - (q+1)):=b0U h
 cases t with
 | none=>show _+0 < _+1;omega
 | some t=>show _+1 < _+1;omega
theorem b8b {l:List Sg} {p q:Nat} {out o:List Pt} {ks:List Int} {bad:Bool} (h:ChI l p out bad q o ks) (hk:bad=true∨kd l q≠4):∃ tt:Option T,tt.isNone=bad∧∀ y,a9K 3 o ks y→a5N l 3 p out ⟨tt,q,y.1,y.2.1,y.2.2⟩:=by
  obtain ⟨h1,hpq,hql,h⟩:=h
  cases bad with
  | true=>exact ⟨none,rfl,fun y hy=>⟨h.1,b8z (l:=l) h.2 hy⟩⟩
  | false =>
    obtain ⟨hk2,ts,hi,ho,hks⟩:=h
    have hk:=hk.resolve_left (by simp)
    have hkl:ks.length=ts.length:=by rw [hks,a0K]
    by_cases h2:ts.length=1
    · match ts, h2 with
      | [t], _ =>
        refine ⟨some t,rfl,fun y hy=>?_⟩
        have hy:y.2=(o,ks.getD 0 0):=by unfold a9K at hy;rwa [if_pos (by simpa using hkl)] at hy
        refine ⟨a7G hi,?_,?_,fun _=>hk2,fun _=>hk⟩
        · show y.2.1=_;rw [hy,ho];simp [T.flatL]
        · show y.2.2=_;rw [hy,hks];rfl
    · refine ⟨some (.many 3 ts),rfl,fun y hy=>?_⟩
      have hy:y.2=(o++[⟨3,0,0,[],ks⟩],(o.length:Int)):=by unfold a9K at hy;rwa [if_neg (by omega)] at hy
      refine ⟨a8X hi (by have:=hi.1;omega),?_,?_,fun _=>hk2,fun _=>hk⟩
      · show y.2.1=_;rw [hy,ho,hks];simp [T.flat]
      · show y.2.2=_;rw [hy,ho];simp [T.root,T.size,T.flatL_len];omega
theorem c1N (l:List Sg) (g p:Nat) (hk:b7C l) (hne:l≠[]) (hl:l.length≤1000) (hp:p≤l.length) (hrow:∀ p',p≤p'→p'≤l.length→RsC 81 l 2 g p'):RsC 50 l 3 g p:=by
 intro c g2 out ho
 refine a0v Tryz.func50 rfl kr _ _ _ _ rfl 36 rfl rfl (fun X ok hX=>?_)
 refine ru 8 ?_
 refine a0s 5 (xs:=[_]) (pre:=[(9001,_),(9002,_)]) (hrow p (Nat.le_refl _) hp _ g2 out ho) ⟨rfl,trivial⟩ (a0i rfl (a0i rfl a0g)) rfl rfl (fun x1 c1 hx=>?_)
 obtain ⟨t1,q1,g3,o3,r⟩:=x1
 (try dsimp only)
 refine a0u 6 (a0b (id:=6) (hs:=[_]) ei_49.h omx rfl omx ⟨rfl,rfl,rfl,rfl,trivial⟩) rfl rfl a0g rfl rfl (c':=c1+1) rfl ?_
 refine ru 5 ?_
 refine a0l (α:=Bool×Nat×List Pt×List Int×Nat×Nat) (fun x c=>⟨36,[(0,.v (.pt 9001 g 0 0)),(3,.v (.os 6 x.2.2.2.2.2 0 x.2.2.2.1.length))],[(9001,erO g l x.2.1 x.2.2.2.2.1 x.2.2.1.length x.1),(9002,b6v x.2.2.2.2.1 x.2.2.1),(6,⟨x.2.2.2.2.2,x.2.2.2.1.length,1,3,0,a2M x.2.2.2.1⟩)],c⟩) (fun x=>ChI l p out x.1 x.2.1 x.2.2.1 x.2.2.2.1) (fun x=>2 * (l.length - x.2.1)+(if x.1 then 0 else 1)) ((t1.isNone,q1,o3,[r],g3,c1)) (by exact b6n hx) (a0c rfl (Nat.le_refl _) tsa (hsr rfl (hsr rfl (a0f.cons rfl (a2X.of fun i j hi hj=>by obtain rfl:i=0:=om;exact .refl _) a0f.nil)))) (fun x c hx NhL1 hL1=>?_)
 revert hx hL1;obtain ⟨bad,q,o,ks,gg,gk⟩:=x;intro hx hL1;dsimp only at hx hL1 ⊢
 obtain ⟨hq1,hq2,hq3,hR⟩:=hx
 have hI:ChI l p out bad q o ks:=⟨hq1,hq2,hq3,hR⟩;have hol:=c9f hI
 refine ru 12 ?_
 first
 | refine a5v 16 5 12 true _ (fun hb=>a0C (xs:=[_]) (pre:=[(9001,_),(9002,_)]) (a4P g l q gg o bad hl hI.2.2.1) ⟨rfl,trivial⟩) rfl rfl rfl rfl (a0i rfl (a0i rfl a0g)) rfl rfl rfl ?_
 | refine b7o 16 5 12 _ _ true _ (fun hb=>a0C (xs:=[_]) (pre:=[(9001,_),(9002,_)]) (a4P g l q gg o bad hl hI.2.2.1) ⟨rfl,trivial⟩) rfl rfl rfl rfl (a0i rfl (a0i rfl a0g)) rfl rfl rfl ?_
 refine ru 4 ?_
 refine wdc (fun hr0 hc0=>?_) (fun hr0 hc0=>?_)
 ·skip
  obtain ⟨rfl,hkq⟩:bad=false∧kd l q=4:=(by cases bad with | true=>exact absurd hr0 (by simp) | false=>exact ⟨rfl,by simpa using hr0⟩);have hlt:=a2m (l:=l) (i:=q) (by rw [hkq];decide)
  refine ru 17 ?_
  refine (a1e 9001 (erO g l (q+1) gg o.length false) rfl (by exact b2D (.refl _) (a0H om) (.refl _) (.refl _))).wp ?_
  refine ru 3 ?_
  refine a0s 30 (xs:=[_]) (pre:=[(9001,_),(9002,_)]) (hrow (q+1) om hlt _ gg o om) ⟨rfl,trivial⟩ (a0i rfl (a0i rfl a0g)) rfl rfl (fun x2 c2 hx2=>?_)
  obtain ⟨t,q',g4,o4,r'⟩:=x2
  (try dsimp only)
  refine a0u 31 (a0b (id:=31) (hs:=[_]) ei_49.h omx rfl omx ⟨rfl,rfl,rfl,rfl,trivial⟩) rfl rfl a0g rfl rfl (c':=c2+1) rfl ?_
  first
  | refine a0u 32 (a0a ei_49.h (by first | exact Nat.le_of_ble_eq_true rfl | omega | (dsimp only;omega) | (simp <;> omega)) rfl (by first | exact Nat.le_of_ble_eq_true rfl | omega | (dsimp only;omega) | (simp <;> omega)) (by first | exact Nat.le_of_ble_eq_true rfl | omega | (dsimp only;omega) | (simp <;> omega)) (a0x rfl (by first | exact Nat.le_of_ble_eq_true rfl | omega | (dsimp only;omega) | (simp <;> omega))) (by first | exact Nat.le_of_ble_eq_true rfl | omega | (dsimp only;omega) | (simp <;> omega)) rfl) rfl rfl (a0i rfl (a0P rfl)) rfl rfl (c':=c2+2) rfl ?_
  | refine a0u 32 (a0a ei_49.h (by first | exact Nat.le_of_ble_eq_true rfl | omega | (dsimp only;omega) | (simp <;> omega)) rfl (by first | exact Nat.le_of_ble_eq_true rfl | omega | (dsimp only;omega) | (simp <;> omega)) (by first | exact Nat.le_of_ble_eq_true rfl | omega | (dsimp only;omega) | (simp <;> omega)) (a0S rfl (by first | exact Nat.le_of_ble_eq_true rfl | omega | (dsimp only;omega) | (simp <;> omega))) (by first | exact Nat.le_of_ble_eq_true rfl | omega | (dsimp only;omega) | (simp <;> omega)) rfl) rfl rfl (a0i rfl (a0P rfl)) rfl rfl (c':=c2+2) rfl ?_
  | refine a0u 32 (a0a ei_49.h (by first | exact Nat.le_of_ble_eq_true rfl | omega | (dsimp only;omega) | (simp <;> omega)) rfl (by first | exact Nat.le_of_ble_eq_true rfl | omega | (dsimp only;omega) | (simp <;> omega)) (by first | exact Nat.le_of_ble_eq_true rfl | omega | (dsimp only;omega) | (simp <;> omega)) (a0O rfl) (by first | exact Nat.le_of_ble_eq_true rfl | omega | (dsimp only;omega) | (simp <;> omega)) rfl) rfl rfl (a0i rfl a0g) rfl rfl (c':=c2+2) rfl ?_
  | refine a0u 32 (a0a ei_49.h (by first | exact Nat.le_of_ble_eq_true rfl | omega | (dsimp only;omega) | (simp <;> omega)) rfl (by first | exact Nat.le_of_ble_eq_true rfl | omega | (dsimp only;omega) | (simp <;> omega)) (by first | exact Nat.le_of_ble_eq_true rfl | omega | (dsimp only;omega) | (simp <;> omega)) (a0z 1 (fun _ _=>default) rfl) (by first | exact Nat.le_of_ble_eq_true rfl | omega | (dsimp only;omega) | (simp <;> omega)) rfl) rfl rfl (a0i rfl a0g) rfl rfl (c':=c2+2) rfl ?_
  refine ru 3 ?_
  exact hL1 ((t.isNone,q',o4,ks++[r'],g4,c2+1)) _ _ (by (try dsimp only);exact c0e hI hkq hx2) (by (try dsimp only);exact c0k hlt hx2) (a0c rfl (Nat.le_refl _) (tsr rfl (a0t.cons rfl (a3k (by simp)) a0t.nil)) (hsr rfl (hsr rfl (a0f.cons rfl (a0G (enc:=fun x _=>intV x) (d:=0) rfl (fun i j _ _=>.refl _) (fun j hj=>.refl _)) a0f.nil))))
 obtain ⟨tt,rfl,hdone⟩:=b8b hI (by cases bad with | true=>exact .inl rfl | false=>right;simpa using hr0)
 refine ru 2 ?_
 refine a0d ?_
 refine ru 6 ?_
 refine (a1a 34 [(6,_)] rfl (a0i rfl a0g) rfl ((show Fz _ _ (a1u ks) from a2r (l:=ks) (enc:=fun x _=>intV x) (d:=0) (List.mem_cons_self ..) rfl rfl (Nat.le_refl _) (fun i j hi hj=>.imm _)))).seq ?_
 refine a0s 35 (xs:=[_,_,_]) (pre:=[(9001,_),(9002,_)]) (c3l _ g l q gg _ tt.isNone o 3 ks rfl om) ⟨rfl,⟨rfl,⟨rfl,trivial⟩⟩⟩ (a0i rfl (a0i rfl a0g)) rfl rfl (fun x3 c3 hy=>?_)
 obtain ⟨g5,o5,r5⟩:=x3
 (try dsimp only)
 refine ru 4 ?_
 refine fr1 ok hX rw1 (⟨tt,q,g5,o5,r5⟩) (hdone _ hy) (kza) ?_
 exact ⟨⟨_,rfl,a4Y rfl rfl⟩,⟨⟨_,rfl,a2C⟩,trivial⟩⟩
theorem c3s (l:List Sg) (g:Nat) (hk:b7C l) (hne:l≠[]) (hl:l.length≤1000):∀ n p,l.length - p < n→p≤l.length→RsC 50 l 3 g p
 | 0,p,h,_=>absurd h (Nat.not_lt_zero _)
 | n+1,p,h,hp=>c1N l g p hk hne hl hp fun p1 h1 hp1=>c9A l g p1 hk hne hl hp1 fun p2 h2 hp2=>c7N l g p2 hk hne hl hp2 fun p3 h3 hp3=>c3s l g hk hne hl n p3 (by omega) hp3
inductive ParseIs (s:List UInt8):List Pt×Int×Int→Prop
 | err (e:Int×Int):lexV s=.error e→ParseIs s ([],e.1,e.2)
 | none:lexV s=.ok []→ParseIs s ([],0,0)
 | odd (l:List Sg) (q:Nat):lexV s=.ok l→l≠[]→q < l.length→chk l 0 0 true true=((q:Int),false)→ParseIs s ([],(l.getD q default).at_,2)
 | end_ (l:List Sg):lexV s=.ok l→l≠[]→chk l 0 0 true true=(-1,true)→ParseIs s ([],s.length,5)
 | ok (l:List Sg) (t:T):lexV s=.ok l→Seg l 3 0 l.length t→ParseIs s (T.flat 0 t,0,0)
@[reducible] def c3y (r:List Pt×Int×Int):HV:=t3 (ptsV r.1) (intV r.2.1) (intV r.2.2)
theorem c3d {l:List Sg} (h:∀ x∈l,SgW x):b7C l:=fun x hx=>by
 have:=h x hx
 cases this with
 | name _ _ _=>exact ⟨by show (1:Int)≤1;decide,by show (1:Int)≤5;decide⟩
 | open_=>exact ⟨by show (1:Int)≤2;decide,by show (2:Int)≤5;decide⟩
 | shut=>exact ⟨by show (1:Int)≤3;decide,by show (3:Int)≤5;decide⟩
 | or_=>exact ⟨by show (1:Int)≤4;decide,by show (4:Int)≤5;decide⟩
 | times _=>exact ⟨by show (1:Int)≤5;decide,by show (5:Int)≤5;decide⟩
theorem c6f {s:List UInt8} {r:List Sg×Int×Int} (hr:b7E (lexV s)=r) (h:r.2.2≠0):ParseIs s ([],r.2.1,r.2.2):=by
 cases hv:lexV s with
 | error e=>rw [hv] at hr;subst hr;exact .err e hv
 | ok l=>rw [hv] at hr;subst hr;exact absurd rfl h
theorem c2w {s:List UInt8} {r:List Sg×Int×Int} (hr:b7E (lexV s)=r) (h:r.2.2=0):lexV s=.ok r.1:=by
 cases hv:lexV s with
 | error e=>rw [hv] at hr;subst hr;exact absurd h (a6K hv)
 | ok l=>rw [hv] at hr;subst hr;rfl
theorem b3f {s:List UInt8} {l:List Sg} {x:Rs} (hv:lexV s=.ok l) (hk:b7C l) (hne:l≠[]) (hx:a5N l 3 0 [] x) (hq:x.q < l.length):ParseIs s ([],(l.getD x.q default).at_,2):=by
 obtain ⟨t,q,g,o,r⟩:=x
 cases t with
 | none=>exact .odd l q hv hne hq (by rw [hx.1.bad 0 true];exact b1s hq)
 | some t=>exact .odd l q hv hne hq (c1l hk hx.1 hq (hx.2.2.2.1 (by decide)).1 (hx.2.2.2.1 (by decide)).2 (hx.2.2.2.2 (by decide)))
theorem b2x {s:List UInt8} {l:List Sg} {x:Rs} (hv:lexV s=.ok l) (hne:l≠[]) (hx:a5N l 3 0 [] x) (hq:l.length≤x.q) (hb:x.t.isNone=true):ParseIs s ([],s.length,5):=by
 obtain ⟨t,q,g,o,r⟩:=x
 cases t with
 | none=>exact .end_ l hv hne (by rw [hx.1.bad 0 true];exact a8M hq)
 | some t=>cases hb
theorem b6q {s:List UInt8} {l:List Sg} {x:Rs} (hv:lexV s=.ok l) (hx:a5N l 3 0 [] x) (hq:l.length≤x.q) (hb:x.t.isNone=false):ParseIs s (x.out,0,0):=by
  obtain ⟨t,q,g,o,r⟩:=x
  cases t with
  | none=>cases hb
  | some t =>
    have hql:=a0W hx.1
    simp only at hql hq
    obtain rfl:q=l.length:=by omega
    rw [show (⟨some t,l.length,g,o,r⟩:Rs).out=[]++T.flat 0 t from hx.2.1]
    exact .ok l t hv hx.1
theorem b3y (c:Nat) (s:List UInt8) (hs:s.length≤1000000):a4s Tryz.prog 24 c [strV s] [] (a9t (fun (r:List Pt×Int×Int) _=>ParseIs s r) c3y (fun _=>[])):=by
 have hlen:=a8b s
 have hlx:=c8A s hs
 generalize hr:b7E (lexV s)=r at hlen hlx
 refine a0v Tryz.func24 rfl kr _ _ _ _ rfl 57 rfl rfl (fun X ok hX=>?_)
 refine ru 10 ?_
 refine cll (hlx) ?_
 refine ru 16 ?_
 refine wdc (fun hr0 hc0=>?_) (fun hr0 hc0=>?_)
 ·refine ru 11 ?_
  refine a2H ok hX a3g.one rfl (a0h rfl) (a0h rfl) (a0h rfl) [] rfl a0g (([],r.2.1,r.2.2)) (c6f hr hc0) (by rfl) (by rfl) (a9J (.fz _ _ (.nil 0 5 _ (by decide) none)) kza kza) ?_
  exact trivial
 have hv:=c2w hr hc0;have hk:=c3d (b3i hv)
 refine ru 10 ?_
 refine wdc (fun hr1 hc1=>?_) (fun hr1 hc1=>?_)
 ·refine ru 9 ?_
  refine a2H ok hX a3g.one rfl (a0h rfl) (a0h rfl) (a0h rfl) [] rfl a0g (([],0,0)) (.none (by rw [hv,List.length_eq_zero_iff.1 (show r.1.length=0 by omega)])) (by rfl) (by rfl) (a9J (.fz _ _ (.nil 0 5 _ (by decide) none)) kza kza) ?_
  exact trivial
 have hne:r.1≠[]:=(fun h=>by rw [h] at hc1;exact hc1 rfl)
 refine ru 7 ?_
 refine a0u 25 (a6a (id:=9001) (sz:=4) rfl rfl rfl (by decide) (by decide)) rfl rfl a0g rfl rfl (c':=c+1) rfl ?_
 refine ru 4 ?_
 refine (a1x 9001 2 9002 5 164 (b6U []) (erF r.1 0 (c+1) 0 false) rfl rfl (fun j hj=>by match j,hj with | 0,_=>exact .inr rfl | 1,_=>exact .inr rfl | 2,_=>exact .inl ⟨rfl,rfl⟩ | 3,_=>exact .inr rfl) (by decide) (by decide) (c':=c+2) rfl).wp ?_
 refine ru 2 ?_
 refine a0s 27 (xs:=[_]) (pre:=[(9001,_),(9002,_)]) (c3s r.1 c hk hne om _ 0 (Nat.lt_succ_self _) (Nat.zero_le _) _ (c+1) [] (by simp)) ⟨rfl,trivial⟩ (a0i rfl (a0i rfl a0g)) rfl rfl (fun x1 c1 hx=>?_)
 obtain ⟨t,q,g2,o2,r2⟩:=x1
 (try dsimp only)
 refine ru 5 ?_
 have hle:0≤q∧q≤r.1.length∧o2.length≤0+2 * (q - 0):=b0U hx
 refine ru 12 ?_
 refine wdc (fun hr2 hc2=>?_) (fun hr2 hc2=>?_)
 ·refine ru 19 ?_
  refine a2H ok hX a3g.one rfl (a0h rfl) (a0h rfl) (a0h rfl) [] rfl a0g (([],(r.1.getD q default).at_,2)) (b3f hv hk hne hx (show q < r.1.length by omega)) (by rfl) (by rfl) (a9J (.fz _ _ (.nil 0 5 _ (by decide) none)) kza kza) ?_
  exact trivial
 refine ru 9 ?_
 refine wdc (fun hr3 hc3=>?_) (fun hr3 hc3=>?_)
 ·refine ru 12 ?_
  refine a2H ok hX a3g.one rfl (a0h rfl) (a0h rfl) (a0h rfl) [] rfl a0g (([],(s.length:Int),5)) (b2x hv hne hx (show r.1.length≤q by omega) hc3) (by rfl) (by rfl) (a9J (.fz _ _ (.nil 0 5 _ (by decide) none)) kza kza) ?_
  exact trivial
 refine ru 15 ?_
 refine a2H ok hX a3g.one rfl (a0h rfl) (a0h rfl) (a0h rfl) [(9002,_)] rfl (a0i rfl a0g) ((o2,0,0)) (b6q hv hx (show r.1.length≤q by omega) hc3) (by rfl) (by rfl) (a9J (.fz _ _ (a2r (l:=o2) (enc:=ptF) (d:=default) (List.mem_cons_self ..) rfl rfl (Nat.le_refl _) (fun i j hi hj=>b0T _ j))) kza kza) ?_
 exact trivial
theorem a7i {a b:Bool} (h:a=b):Sb (boolV a) (boolV b):=by subst h;exact .refl _
theorem c4z {sh:List (Nat×HObj)} {acc:List Int} {r:Int} {j:Nat} (i:Nat) (hi:i < (acc++[r]).length):Fz sh (cat acc.length (a2M acc) (bsf [intV r]) i j) (intV ((acc++[r]).getD i 0)):=by
 by_cases h:i < acc.length
 ·rw [a9n h,a4z h];exact .imm _
 ·have:i=acc.length:=by rw [List.length_append,List.length_singleton] at hi;omega
  subst this
  rw [a9i (Nat.le_refl _),Nat.sub_self,a2o];exact .imm _
theorem b0V (l:List Sg) (hl:l.length≤1000):HPure Tryz.prog 67 [a4u l] (t2 (intV (chk l 0 0 true true).1) (boolV (chk l 0 0 true true).2)):=by
 refine a0k Tryz.func67 rfl kr _ _ _ rfl 75 rfl rfl (fun w F=>?_)
 refine ru 28 ?_
 refine a0l (α:=Nat×Nat×Bool×Bool) (fun x c=>⟨75,[(0,.v (a4u l)),(4,.v (intV x.2.1)),(5,.v (boolV x.2.2.1)),(6,.v (boolV x.2.2.2)),(7,.v (intV x.1))],[],c⟩) (fun x=>x.1≤l.length∧x.2.1≤x.1∧chk l x.1 x.2.1 x.2.2.1 x.2.2.2=chk l 0 0 true true) (fun x=>l.length - x.1) ((0,0,true,true)) (by exact ⟨Nat.zero_le _,Nat.zero_le _,rfl⟩) (a0c rfl (Nat.le_refl _) tsa a0f.nil) (fun x c hx NhL1 hL1=>?_)
 revert hx hL1;obtain ⟨i,d,it,ct⟩:=x;intro hx hL1;dsimp only at hx hL1 ⊢
 obtain ⟨hi,hd,hC⟩:=hx
 refine ru 9 ?_
 refine wdc (fun hr0 hc0=>?_) (fun hr0 hc0=>?_)
 ·skip
  have hil:i < l.length:=om
  refine ru 11 ?_
  refine rvl (intV (kd l i)) (by rw [a9y hil];rfl) ?_
  refine ru 32 ?_
  refine wdc (fun hr1 hc1=>?_) (fun hr1 hc1=>?_)
  ·skip
   have hbad:(it=true∧kd l i≠1∧kd l i≠2)∨(kd l i=3∧d=0)∨(kd l i=5∧ct=true):=(by have h:=hr1;cases it <;> cases ct <;> simp at h ⊢ <;> omega)
   refine ru 11 ?_
   refine a0o ?_
   refine ru 2 ?_
   refine rt2 ?_
   rw [←hC,a8U hil hbad];exact a4F (.imm _) (.imm _)
  have hbad:¬ ((it=true∧kd l i≠1∧kd l i≠2)∨(kd l i=3∧d=0)∨(kd l i=5∧ct=true)):=(by have h:=hr1;cases it <;> cases ct <;> simp at h ⊢ <;> omega)
  refine ru 9 ?_
  refine wdc (fun hr2 hc2=>?_) (fun hr2 hc2=>?_)
  ·refine ru 13 ?_
   refine wdc (fun hr3 hc3=>?_) (fun hr3 hc3=>?_)
   ·skip
    exfalso;omega
   refine ru 29 ?_
   exact hL1 ((i+1,d+1,(decide (kd l i=2)||decide (kd l i=4)),(!decide (kd l i=1)&&!decide (kd l i=3)))) _ _ (by (try dsimp only);exact ⟨hil,by omega,by rw [←hC,a3m hil,if_neg hbad,if_pos hc2]⟩) (by (try dsimp only);omega) (a0c rfl (Nat.le_refl _) (tsr rfl (a0t.cons rfl (by dsimp only;exact a0H om) (a0t.cons rfl (by dsimp only;exact a7i (by first | rfl | simp | (trace_state;rfl))) (a0t.cons rfl (by dsimp only;exact a7i (by first | rfl | simp | (trace_state;rfl))) (a0t.cons rfl (by dsimp only;exact a0H om) a0t.nil))))) a0f.nil)
  refine ru 9 ?_
  refine wdc (fun hr3 hc3=>?_) (fun hr3 hc3=>?_)
  ·refine ru 33 ?_
   exact hL1 ((i+1,d - 1,(decide (kd l i=2)||decide (kd l i=4)),(!decide (kd l i=1)&&!decide (kd l i=3)))) _ _ (by (try dsimp only);exact ⟨hil,by omega,by rw [←hC,a3m hil,if_neg hbad,if_neg hc2,if_pos hc3]⟩) (by (try dsimp only);omega) (a0c rfl (Nat.le_refl _) (tsr rfl (a0t.cons rfl (by dsimp only;exact a0H om) (a0t.cons rfl (by dsimp only;exact a7i (by first | rfl | simp | (trace_state;rfl))) (a0t.cons rfl (by dsimp only;exact a7i (by first | rfl | simp | (trace_state;rfl))) (a0t.cons rfl (by dsimp only;exact a0H om) a0t.nil))))) a0f.nil)
  refine ru 29 ?_
  exact hL1 ((i+1,d,(decide (kd l i=2)||decide (kd l i=4)),(!decide (kd l i=1)&&!decide (kd l i=3)))) _ _ (by (try dsimp only);exact ⟨hil,by omega,by rw [←hC,a3m hil,if_neg hbad,if_neg hc2,if_neg hc3]⟩) (by (try dsimp only);omega) (a0c rfl (Nat.le_refl _) (tsr rfl (a0t.cons rfl (by dsimp only;exact a0H om) (a0t.cons rfl (by dsimp only;exact a7i (by first | rfl | simp | (trace_state;rfl))) (a0t.cons rfl (by dsimp only;exact a7i (by first | rfl | simp | (trace_state;rfl))) (a0t.cons rfl (by dsimp only;exact a0H om) a0t.nil))))) a0f.nil)
 refine ru 2 ?_
 refine a0d ?_
 refine ru 19 ?_
 refine rt2 ?_
 rw [←hC,a7x om];exact a4F (.imm _) (a3d (by cases it <;> simp))
theorem c3w (l:List Sg) (p:Nat) (hl:l.length≤1000) (hp:p≤l.length):HPure Tryz.prog 110 [a4u l,intV p] (intV (a1G l p 0)):=by
 refine a0k Tryz.func110 rfl kr _ _ _ rfl 35 rfl rfl (fun w F=>?_)
 refine ru 18 ?_
 refine a0l (α:=Nat×Int) (fun x c=>⟨35,[(0,.v (a4u l)),(1,.v (intV p)),(5,.v (intV x.2)),(6,.v (intV x.1))],[],c⟩) (fun x=>x.1≤l.length∧(-(x.1:Int)≤x.2∧x.2≤x.1)∧a1G l x.1 x.2=a1G l p 0) (fun x=>l.length - x.1) ((p,0)) (by exact ⟨hp,by omega,rfl⟩) (a0c rfl (Nat.le_refl _) tsa a0f.nil) (fun x c hx NhL1 hL1=>?_)
 revert hx hL1;obtain ⟨i,d⟩:=x;intro hx hL1;dsimp only at hx hL1 ⊢
 obtain ⟨hi,hd,hC⟩:=hx
 refine ru 9 ?_
 refine wdc (fun hr0 hc0=>?_) (fun hr0 hc0=>?_)
 ·skip
  have hil:i < l.length:=om
  refine ru 12 ?_
  refine rvl (intV (kd l i)) (by rw [a9y hil];rfl) ?_
  refine ru 3 ?_
  refine wdc (fun hr1 hc1=>?_) (fun hr1 hc1=>?_)
  ·skip
   have hk1:kd l i=2:=hc1
   refine ru 14 ?_
   refine rvl (intV (kd l i)) (by rw [a9y hil];rfl) ?_
   refine ru 3 ?_
   refine wdc (fun hr2 hc2=>?_) (fun hr2 hc2=>?_)
   ·skip
    exfalso;omega
   have hk2:¬ kd l i=3:=hc2
   refine ru 8 ?_
   refine wdc (fun hr3 hc3=>?_) (fun hr3 hc3=>?_)
   ·refine ru 9 ?_
    refine a0o ?_
    refine ru 2 ?_
    refine rt1 ?_
    rw [←hC,a1s (d':=d+1) hil (by rw [if_pos hk1]),if_pos hc3];exact .imm _
   refine ru 8 ?_
   exact hL1 ((i+1,d+1)) _ _ (by (try dsimp only);exact ⟨hil,by omega,by rw [←hC,a1s (d':=d+1) hil (by rw [if_pos hk1]),if_neg hc3]⟩) (by (try dsimp only);omega) (a0c rfl (Nat.le_refl _) (tsr rfl (tsr rfl (tsr rfl (a0t.cons rfl (by dsimp only;exact a0H om) a0t.nil)))) a0f.nil)
  have hk1:¬ kd l i=2:=hc1
  refine ru 10 ?_
  refine rvl (intV (kd l i)) (by rw [a9y hil];rfl) ?_
  refine ru 3 ?_
  refine wdc (fun hr2 hc2=>?_) (fun hr2 hc2=>?_)
  ·skip
   have hk2:kd l i=3:=hc2
   refine ru 12 ?_
   refine wdc (fun hr3 hc3=>?_) (fun hr3 hc3=>?_)
   ·refine ru 9 ?_
    refine a0o ?_
    refine ru 2 ?_
    refine rt1 ?_
    rw [←hC,a1s (d':=d - 1) hil (by rw [if_neg hk1,if_pos hk2]),if_pos hc3];exact .imm _
   refine ru 8 ?_
   exact hL1 ((i+1,d - 1)) _ _ (by (try dsimp only);exact ⟨hil,by omega,by rw [←hC,a1s (d':=d - 1) hil (by rw [if_neg hk1,if_pos hk2]),if_neg hc3]⟩) (by (try dsimp only);omega) (a0c rfl (Nat.le_refl _) (tsr rfl (tsr rfl (tsr rfl (a0t.cons rfl (by dsimp only;exact a0H om) a0t.nil)))) a0f.nil)
  have hk2:¬ kd l i=3:=hc2
  refine ru 8 ?_
  refine wdc (fun hr3 hc3=>?_) (fun hr3 hc3=>?_)
  ·refine ru 9 ?_
   refine a0o ?_
   refine ru 2 ?_
   refine rt1 ?_
   rw [←hC,a1s (d':=d) hil (by rw [if_neg hk1,if_neg hk2]),if_pos hc3];exact .imm _
  refine ru 8 ?_
  exact hL1 ((i+1,d)) _ _ (by (try dsimp only);exact ⟨hil,by omega,by rw [←hC,a1s (d':=d) hil (by rw [if_neg hk1,if_neg hk2]),if_neg hc3]⟩) (by (try dsimp only);omega) (a0c rfl (Nat.le_refl _) (tsr rfl (tsr rfl (tsr rfl (a0t.cons rfl (by dsimp only;exact a0H om) a0t.nil)))) a0f.nil)
 refine ru 2 ?_
 refine a0d ?_
 refine ru 10 ?_
 refine rt1 ?_
 rw [←hC,b5O om,show i=l.length by omega];exact .imm _
theorem a2v (l:List Sg) (p q:Nat) (way:Int) (hl:l.length≤1000) (hq:q≤l.length) (hp:p≤q):HPure Tryz.prog 95 [a4u l,intV p,intV q,intV way] (a1u (a2W l p q way p [(p:Int)]++[(q:Int)])):=by
 refine a0k Tryz.func95 rfl kr _ _ _ rfl 64 rfl rfl (fun w F=>?_)
 refine ru 8 ?_
 refine a0u 13 (a0b (id:=13) (hs:=[_]) ei_49.h omx rfl omx ⟨rfl,rfl,rfl,rfl,trivial⟩) rfl rfl a0g rfl rfl (c':=1) rfl ?_
 refine ru 11 ?_
 refine a0l (α:=Nat×List Int×Nat) (fun x c=>⟨64,[(0,.v (a4u l)),(1,.v (intV p)),(2,.v (intV q)),(3,.v (intV way)),(9,.v (.os 13 x.2.2 0 x.2.1.length)),(10,.v (intV x.1))],[(13,⟨x.2.2,x.2.1.length,1,3,0,a2M x.2.1⟩)],c⟩) (fun x=>p≤x.1∧x.1≤l.length+1∧x.2.1.length≤2 * (x.1 - p)+1∧a2W l p q way x.1 x.2.1=a2W l p q way p [(p:Int)]) (fun x=>q - x.1) ((p,[(p:Int)],0)) (by exact ⟨Nat.le_refl _,by omega,by show 1≤_;omega,rfl⟩) (a0c rfl (Nat.le_refl _) tsa (a0f.cons rfl (a2X.of fun i j hi hj=>by obtain rfl:i=0:=om;exact .refl _) a0f.nil)) (fun x c hx NhL1 hL1=>?_)
 revert hx hL1;obtain ⟨i,acc,g⟩:=x;intro hx hL1;dsimp only at hx hL1 ⊢
 obtain ⟨hpi,hi,hal,hC⟩:=hx
 refine ru 8 ?_
 refine wdc (fun hr0 hc0=>?_) (fun hr0 hc0=>?_)
 ·skip
  have hiq:i < q:=om;have hsl:=b0X (l:=l) (d:=0) (n:=l.length - i) (i:=i) rfl om
  refine ru 11 ?_
  refine rvl (intV (kd l i)) (by rw [a9y (show i < l.length by omega)];rfl) ?_
  refine ru 23 ?_
  refine wdc (fun hr1 hc1=>?_) (fun hr1 hc1=>?_)
  ·skip
   have h1:way=2∧p < i∧(kd l i=1∨kd l i=2):=(by have h:=hr1;simp at h;omega)
   refine ru 3 ?_
   refine a0u 42 (a0b (id:=42) (hs:=[_]) ei_49.h omx rfl omx ⟨rfl,rfl,rfl,rfl,trivial⟩) rfl rfl a0g rfl rfl (c':=c+1) rfl ?_
   first
   | refine a0u 43 (a0a ei_49.h (by first | exact Nat.le_of_ble_eq_true rfl | omega | (dsimp only;omega) | (simp <;> omega)) rfl (by first | exact Nat.le_of_ble_eq_true rfl | omega | (dsimp only;omega) | (simp <;> omega)) (by first | exact Nat.le_of_ble_eq_true rfl | omega | (dsimp only;omega) | (simp <;> omega)) (a0x rfl (by first | exact Nat.le_of_ble_eq_true rfl | omega | (dsimp only;omega) | (simp <;> omega))) (by first | exact Nat.le_of_ble_eq_true rfl | omega | (dsimp only;omega) | (simp <;> omega)) rfl) rfl rfl (a0i rfl (a0P rfl)) rfl rfl (c':=c+2) rfl ?_
   | refine a0u 43 (a0a ei_49.h (by first | exact Nat.le_of_ble_eq_true rfl | omega | (dsimp only;omega) | (simp <;> omega)) rfl (by first | exact Nat.le_of_ble_eq_true rfl | omega | (dsimp only;omega) | (simp <;> omega)) (by first | exact Nat.le_of_ble_eq_true rfl | omega | (dsimp only;omega) | (simp <;> omega)) (a0S rfl (by first | exact Nat.le_of_ble_eq_true rfl | omega | (dsimp only;omega) | (simp <;> omega))) (by first | exact Nat.le_of_ble_eq_true rfl | omega | (dsimp only;omega) | (simp <;> omega)) rfl) rfl rfl (a0i rfl (a0P rfl)) rfl rfl (c':=c+2) rfl ?_
   | refine a0u 43 (a0a ei_49.h (by first | exact Nat.le_of_ble_eq_true rfl | omega | (dsimp only;omega) | (simp <;> omega)) rfl (by first | exact Nat.le_of_ble_eq_true rfl | omega | (dsimp only;omega) | (simp <;> omega)) (by first | exact Nat.le_of_ble_eq_true rfl | omega | (dsimp only;omega) | (simp <;> omega)) (a0O rfl) (by first | exact Nat.le_of_ble_eq_true rfl | omega | (dsimp only;omega) | (simp <;> omega)) rfl) rfl rfl (a0i rfl a0g) rfl rfl (c':=c+2) rfl ?_
   | refine a0u 43 (a0a ei_49.h (by first | exact Nat.le_of_ble_eq_true rfl | omega | (dsimp only;omega) | (simp <;> omega)) rfl (by first | exact Nat.le_of_ble_eq_true rfl | omega | (dsimp only;omega) | (simp <;> omega)) (by first | exact Nat.le_of_ble_eq_true rfl | omega | (dsimp only;omega) | (simp <;> omega)) (a0z 1 (fun _ _=>default) rfl) (by first | exact Nat.le_of_ble_eq_true rfl | omega | (dsimp only;omega) | (simp <;> omega)) rfl) rfl rfl (a0i rfl a0g) rfl rfl (c':=c+2) rfl ?_
   refine ru 14 ?_
   refine wdc (fun hr2 hc2=>?_) (fun hr2 hc2=>?_)
   ·skip
    exfalso;have h:=hr2;simp at h;omega
   have h2:¬ (way=3∧kd l i=4):=(by have h:=hr2;simp at h;omega)
   refine ru 8 ?_
   refine wdc (fun hr3 hc3=>?_) (fun hr3 hc3=>?_)
   ·skip
    have h3:kd l i=2:=hc3
    refine ru 3 ?_
    refine cll (c3w l i hl om) ?_
    refine ru 9 ?_
    exact hL1 ((a1G l i 0+1,acc++[(i:Int)],c+1)) _ _ (by (try dsimp only);exact ⟨by omega,by omega,by rw [List.length_append];show acc.length+1≤_;omega,by rw [←hC];exact (a3n (a1:=acc++[(i:Int)]) (a2:=acc++[(i:Int)]) (j:=a1G l i 0) hq hiq (by rw [if_pos h1]) (by rw [if_neg h2]) (by rw [if_pos h3])).symm⟩) (by (try dsimp only);omega) (a0c rfl (Nat.le_refl _) (tsr rfl (tsr rfl (tsr rfl (tsr rfl (a0t.cons rfl (a3k (by simp)) tsa))))) (a0f.cons rfl (a0G (enc:=fun x _=>intV x) (d:=0) rfl (fun i j _ _=>.refl _) (fun j hj=>.refl _)) a0f.nil))
   have h3:¬ kd l i=2:=hc3
   refine ru 8 ?_
   exact hL1 ((i+1,acc++[(i:Int)],c+1)) _ _ (by (try dsimp only);exact ⟨by omega,by omega,by rw [List.length_append];show acc.length+1≤_;omega,by rw [←hC];exact (a3n (a1:=acc++[(i:Int)]) (a2:=acc++[(i:Int)]) (j:=i) hq hiq (by rw [if_pos h1]) (by rw [if_neg h2]) (by rw [if_neg h3])).symm⟩) (by (try dsimp only);omega) (a0c rfl (Nat.le_refl _) (tsr rfl (tsr rfl (tsr rfl (tsr rfl (a0t.cons rfl (a3k (by simp)) tsa))))) (a0f.cons rfl (a0G (enc:=fun x _=>intV x) (d:=0) rfl (fun i j _ _=>.refl _) (fun j hj=>.refl _)) a0f.nil))
  have h1:¬ (way=2∧p < i∧(kd l i=1∨kd l i=2)):=(by have h:=hr1;simp at h;omega)
  refine ru 13 ?_
  refine wdc (fun hr2 hc2=>?_) (fun hr2 hc2=>?_)
  ·skip
   have h2:way=3∧kd l i=4:=(by have h:=hr2;simp at h;omega)
   refine ru 4 ?_
   refine a0u 53 (a0b (id:=53) (hs:=[_]) ei_49.h omx rfl omx ⟨rfl,rfl,rfl,rfl,trivial⟩) rfl rfl a0g rfl rfl (c':=c+1) rfl ?_
   first
   | refine a0u 54 (a0a ei_49.h (by first | exact Nat.le_of_ble_eq_true rfl | omega | (dsimp only;omega) | (simp <;> omega)) rfl (by first | exact Nat.le_of_ble_eq_true rfl | omega | (dsimp only;omega) | (simp <;> omega)) (by first | exact Nat.le_of_ble_eq_true rfl | omega | (dsimp only;omega) | (simp <;> omega)) (a0x rfl (by first | exact Nat.le_of_ble_eq_true rfl | omega | (dsimp only;omega) | (simp <;> omega))) (by first | exact Nat.le_of_ble_eq_true rfl | omega | (dsimp only;omega) | (simp <;> omega)) rfl) rfl rfl (a0i rfl (a0P rfl)) rfl rfl (c':=c+2) rfl ?_
   | refine a0u 54 (a0a ei_49.h (by first | exact Nat.le_of_ble_eq_true rfl | omega | (dsimp only;omega) | (simp <;> omega)) rfl (by first | exact Nat.le_of_ble_eq_true rfl | omega | (dsimp only;omega) | (simp <;> omega)) (by first | exact Nat.le_of_ble_eq_true rfl | omega | (dsimp only;omega) | (simp <;> omega)) (a0S rfl (by first | exact Nat.le_of_ble_eq_true rfl | omega | (dsimp only;omega) | (simp <;> omega))) (by first | exact Nat.le_of_ble_eq_true rfl | omega | (dsimp only;omega) | (simp <;> omega)) rfl) rfl rfl (a0i rfl (a0P rfl)) rfl rfl (c':=c+2) rfl ?_
   | refine a0u 54 (a0a ei_49.h (by first | exact Nat.le_of_ble_eq_true rfl | omega | (dsimp only;omega) | (simp <;> omega)) rfl (by first | exact Nat.le_of_ble_eq_true rfl | omega | (dsimp only;omega) | (simp <;> omega)) (by first | exact Nat.le_of_ble_eq_true rfl | omega | (dsimp only;omega) | (simp <;> omega)) (a0O rfl) (by first | exact Nat.le_of_ble_eq_true rfl | omega | (dsimp only;omega) | (simp <;> omega)) rfl) rfl rfl (a0i rfl a0g) rfl rfl (c':=c+2) rfl ?_
   | refine a0u 54 (a0a ei_49.h (by first | exact Nat.le_of_ble_eq_true rfl | omega | (dsimp only;omega) | (simp <;> omega)) rfl (by first | exact Nat.le_of_ble_eq_true rfl | omega | (dsimp only;omega) | (simp <;> omega)) (by first | exact Nat.le_of_ble_eq_true rfl | omega | (dsimp only;omega) | (simp <;> omega)) (a0z 1 (fun _ _=>default) rfl) (by first | exact Nat.le_of_ble_eq_true rfl | omega | (dsimp only;omega) | (simp <;> omega)) rfl) rfl rfl (a0i rfl a0g) rfl rfl (c':=c+2) rfl ?_
   refine ru 9 ?_
   refine wdc (fun hr3 hc3=>?_) (fun hr3 hc3=>?_)
   ·skip
    exfalso;omega
   have h3:¬ kd l i=2:=hc3
   refine ru 8 ?_
   exact hL1 ((i+1,acc++[((i+1:Nat):Int)],c+1)) _ _ (by (try dsimp only);exact ⟨by omega,by omega,by rw [List.length_append];show acc.length+1≤_;omega,by rw [←hC];exact (a3n (a1:=acc) (a2:=acc++[((i+1:Nat):Int)]) (j:=i) hq hiq (by rw [if_neg h1]) (by rw [if_pos h2]) (by rw [if_neg h3])).symm⟩) (by (try dsimp only);omega) (a0c rfl (Nat.le_refl _) (tsr rfl (tsr rfl (tsr rfl (tsr rfl (a0t.cons rfl (a3k (by simp)) tsa))))) (a0f.cons rfl (a0G (enc:=fun x _=>intV x) (d:=0) rfl (fun i j _ _=>.refl _) (fun j hj=>.refl _)) a0f.nil))
  have h2:¬ (way=3∧kd l i=4):=(by have h:=hr2;simp at h;omega)
  refine ru 8 ?_
  refine wdc (fun hr3 hc3=>?_) (fun hr3 hc3=>?_)
  ·skip
   have h3:kd l i=2:=hc3
   refine ru 3 ?_
   refine cll (c3w l i hl om) ?_
   refine ru 9 ?_
   exact hL1 ((a1G l i 0+1,acc,g)) _ _ (by (try dsimp only);exact ⟨by omega,by omega,by omega,by rw [←hC];exact (a3n (a1:=acc) (a2:=acc) (j:=a1G l i 0) hq hiq (by rw [if_neg h1]) (by rw [if_neg h2]) (by rw [if_pos h3])).symm⟩) (by (try dsimp only);omega) (a0c rfl (Nat.le_refl _) tsa hsa)
  have h3:¬ kd l i=2:=hc3
  refine ru 8 ?_
  exact hL1 ((i+1,acc,g)) _ _ (by (try dsimp only);exact ⟨by omega,by omega,by omega,by rw [←hC];exact (a3n (a1:=acc) (a2:=acc) (j:=i) hq hiq (by rw [if_neg h1]) (by rw [if_neg h2]) (by rw [if_neg h3])).symm⟩) (by (try dsimp only);omega) (a0c rfl (Nat.le_refl _) tsa hsa)
 refine ru 2 ?_
 refine a0d ?_
 refine ru 3 ?_
 have e:=a8x (l:=l) (from_:=p) (way:=way) (acc:=acc) (show q≤i by omega);rw [e] at hC
 refine ru 3 ?_
 refine a0u 62 (a0b (id:=62) (hs:=[_]) ei_49.h omx rfl omx ⟨rfl,rfl,rfl,rfl,trivial⟩) rfl rfl a0g rfl rfl (c':=c+1) rfl ?_
 first
 | refine a0u 63 (a0a ei_49.h (by first | exact Nat.le_of_ble_eq_true rfl | omega | (dsimp only;omega) | (simp <;> omega)) rfl (by first | exact Nat.le_of_ble_eq_true rfl | omega | (dsimp only;omega) | (simp <;> omega)) (by first | exact Nat.le_of_ble_eq_true rfl | omega | (dsimp only;omega) | (simp <;> omega)) (a0x rfl (by first | exact Nat.le_of_ble_eq_true rfl | omega | (dsimp only;omega) | (simp <;> omega))) (by first | exact Nat.le_of_ble_eq_true rfl | omega | (dsimp only;omega) | (simp <;> omega)) rfl) rfl rfl (a0i rfl (a0P rfl)) rfl rfl (c':=c+2) rfl ?_
 | refine a0u 63 (a0a ei_49.h (by first | exact Nat.le_of_ble_eq_true rfl | omega | (dsimp only;omega) | (simp <;> omega)) rfl (by first | exact Nat.le_of_ble_eq_true rfl | omega | (dsimp only;omega) | (simp <;> omega)) (by first | exact Nat.le_of_ble_eq_true rfl | omega | (dsimp only;omega) | (simp <;> omega)) (a0S rfl (by first | exact Nat.le_of_ble_eq_true rfl | omega | (dsimp only;omega) | (simp <;> omega))) (by first | exact Nat.le_of_ble_eq_true rfl | omega | (dsimp only;omega) | (simp <;> omega)) rfl) rfl rfl (a0i rfl (a0P rfl)) rfl rfl (c':=c+2) rfl ?_
 | refine a0u 63 (a0a ei_49.h (by first | exact Nat.le_of_ble_eq_true rfl | omega | (dsimp only;omega) | (simp <;> omega)) rfl (by first | exact Nat.le_of_ble_eq_true rfl | omega | (dsimp only;omega) | (simp <;> omega)) (by first | exact Nat.le_of_ble_eq_true rfl | omega | (dsimp only;omega) | (simp <;> omega)) (a0O rfl) (by first | exact Nat.le_of_ble_eq_true rfl | omega | (dsimp only;omega) | (simp <;> omega)) rfl) rfl rfl (a0i rfl a0g) rfl rfl (c':=c+2) rfl ?_
 | refine a0u 63 (a0a ei_49.h (by first | exact Nat.le_of_ble_eq_true rfl | omega | (dsimp only;omega) | (simp <;> omega)) rfl (by first | exact Nat.le_of_ble_eq_true rfl | omega | (dsimp only;omega) | (simp <;> omega)) (by first | exact Nat.le_of_ble_eq_true rfl | omega | (dsimp only;omega) | (simp <;> omega)) (a0z 1 (fun _ _=>default) rfl) (by first | exact Nat.le_of_ble_eq_true rfl | omega | (dsimp only;omega) | (simp <;> omega)) rfl) rfl rfl (a0i rfl a0g) rfl rfl (c':=c+2) rfl ?_
 refine ru 4 ?_
 refine a5f rfl (a0h rfl) [(13,_)] rfl (a0i rfl a0g) ?_
 rw [←hC];exact a2r (l:=acc++[(q:Int)]) (enc:=fun x _=>intV x) (d:=0) (List.mem_cons_self ..) rfl (by simp) (by simp) (fun i j hi hj=>c4z i hi)
set_option maxHeartbeats 4000000
@[reducible] def c6x (g:Nat) (l:List Pt):HObj:=⟨g,l.length,5,105,0,b6U l⟩
@[reducible] def BdP (o:List Pt):HEnd→List (Nat×HObj)→Nat→Prop:=a9t (fun (_:Nat) _=>True) (fun g'=>.os 9003 g' 0 o.length) (fun g'=>[(9003,c6x g' o)])
@[reducible] def BdC (l:List Sg) (p q:Nat) (t:T):Prop:=∀ c g (out:List Pt),out.length≤2 * p→a4s Tryz.prog 68 c [.os 9003 g 0 out.length,a4u l,intV p,intV q] [(9003,c6x g out)] (BdP (out++T.flat out.length t))
@[reducible] def BdN (l:List Sg) (p q:Nat) (t:T):Prop:=∀ c,a4s Tryz.prog 68 c [.imm (.slice none 0 0),a4u l,intV p,intV q] [] (BdP (([]:List Pt)++T.flat 0 t))
theorem a9v {kp sh:List (Nat×HObj)} {id g lo n n':Nat} {o:HObj} (h:hget kp id=some o) (hg:o.g=g) (hn:n=n'):Kz kp sh (.os id g lo n) (.os id g lo n'):=by subst hn;exact .os _ _ _ _ _ h hg
theorem a3T {kp sh:List (Nat×HObj)} {o o':List Pt} {x:Pt} {g n ty:Nat} {f:Nat→Nat→HV} (hn:n=o.length) (ho:o++[x]=o') (h:∀ j,j < 5→Fz sh (f 0 j) (ptF x j)):OKz kp sh ⟨g,n+1,5,ty,0,cat n (b6U o) f⟩ ⟨g,o'.length,5,ty,0,b6U o'⟩:=by
 subst hn;subst ho
 refine ⟨rfl,by simp,rfl,rfl,Nat.le_refl _,fun i j hi hj=>.fz _ _ ?_,fun h=>absurd h (Nat.not_lt_zero _)⟩
 show Fz sh (cat o.length (b6U o) f i j) (ptF ((o++[x]).getD i default) j)
 by_cases h':i < o.length
 ·rw [a9n h',a4z h'];exact b0T _ j
 ·have hi':i=o.length:=by simp only at hi;omega
  subst hi'
  rw [a9i (Nat.le_refl _),Nat.sub_self,a2o];exact h j hj
theorem b2O {sh:List (Nat×HObj)} {x:Pt} {f:Nat→HV} (h0:Fz sh (f 0) (ptF x 0)) (h1:Fz sh (f 1) (ptF x 1)) (h2:Fz sh (f 2) (ptF x 2)) (h3:Fz sh (f 3) (ptF x 3)) (h4:Fz sh (f 4) (ptF x 4)):∀ j,j < 5→Fz sh (f j) (ptF x j):=fun j hj=>by
 match j,hj with
 | 0,_=>exact h0
 | 1,_=>exact h1
 | 2,_=>exact h2
 | 3,_=>exact h3
 | 4,_=>exact h4
theorem b1l {sh:List (Nat×HObj)} {id g ty fl n:Nat} {ks:List Int} (hn:n=ks.length):Fz ((id,⟨g,n,1,ty,fl,a2M ks⟩)::sh) (.os id g 0 n) (a1u ks) :=
 a2r (l:=ks) (enc:=fun x _=>intV x) (d:=0) (List.mem_cons_self ..) rfl hn (Nat.le_refl _) (fun i j hi hj=>.imm _)
theorem a9F {l:List Sg} {q':Nat} {x:Int} (h:x=(q':Int)) (hq:q' < l.length):c3v l x.toNat 0=intV (kd l q'):=by rw [h,Int.toNat_natCast,a9y hq];rfl
@[reducible] def a7P (k:Int) (gk n:Nat):Nat→Nat→HV:=fun _ j=>match j with | 0=>intV k | 1=>intV 0 | 2=>intV 0 | 3=>strV [] | _=>.os 7001 gk 0 n
theorem a9H {g ty fl:Nat} {f f':Nat→Nat→HV} (h0:Sb (f 0 0) (f' 0 0)) (h1:Sb (f 0 1) (f' 0 1)) (h2:Sb (f 0 2) (f' 0 2)) (h3:Sb (f 0 3) (f' 0 3)) (h4:Sb (f 0 4) (f' 0 4)) (hfn:fl≤1:=by exact Nat.zero_le _):a2X ⟨g,1,5,ty,fl,f⟩ ⟨g,1,5,ty,fl,f'⟩:=.of (hfn:=hfn) fun i j hi hj=>by
 obtain rfl:i=0:=by omega
 match j,hj with | 0,_=>exact h0 | 1,_=>exact h1 | 2,_=>exact h2 | 3,_=>exact h3 | 4,_=>exact h4
theorem a1O {B:List Int} {i j:Nat} {x:Int} (hj:j=i) (h:B.getD i 0=x):ldv false 1 (a2M B j) 0=intV x:=by subst hj;show intV (B.getD j 0)=_;rw [h]
theorem a4n {ts:List T} {i:Nat} (h:i < ts.length):ts.take (i+1)=ts.take i++[ts.getD i default]:=by
 rw [List.take_add_one,List.getD_eq_getElem?_getD,List.getElem?_eq_getElem h];rfl
structure KidI (ts:List T) (out:List Pt) (i:Nat) (o:List Pt) (ks:List Int):Prop where
 le:i≤ts.length
 eo:o=out++T.flatL out.length (ts.take i)
 ek:ks=rootsL out.length (ts.take i)
theorem a5D {ts:List T} {out o:List Pt} {i:Nat} {ks:List Int} (h:KidI ts out i o ks) (hi:i < ts.length):KidI ts out (i+1) (o++T.flat o.length (ts.getD i default)) (ks++[T.root o.length (ts.getD i default)]):=by
 have hl:o.length=out.length+T.sizeL (ts.take i):=by rw [h.eo,List.length_append,T.flatL_len]
 refine ⟨hi,?_,?_⟩
 ·rw [a4n hi,T.flatL_snoc,hl,h.eo,List.append_assoc]
 ·rw [a4n hi,a3D,hl,h.ek]
theorem b0q {ts:List T} {out o:List Pt} {i:Nat} {ks:List Int} (h:KidI ts out i o ks):o.length=out.length+T.sizeL (ts.take i)∧ks.length=i:=by
 refine ⟨by rw [h.eo,List.length_append,T.flatL_len],?_⟩
 rw [h.ek,a0K,List.length_take];have:=h.le;omega
theorem a3P {ts:List T} {out o:List Pt} {i:Nat} {ks:List Int} {k:Int} (h:KidI ts out i o ks) (hi:i=ts.length):o++[⟨k,0,0,[],ks⟩]=out++T.flat out.length (.many k ts):=by
 have h1:=h.eo;have h2:=h.ek
 rw [hi,List.take_length] at h1 h2
 rw [h1,h2];simp [T.flat]
structure Cuts (l:List Sg) (B:List Int) (m p q:Nat) (ts:List T) (s e:Nat→Nat):Prop where
 hlen:B.length=m+1
 hm:m=ts.length
 htwo:2≤m
 hmb:m≤2000
 hat:∀ i,i < m→B.getD i 0=(s i:Int)
 hle:∀ i,i < m→s i≤e i∧e i≤l.length
 hout:∀ i,i < m→T.sizeL (ts.take i)+2 * p≤2 * s i
 hsz:∀ i,i < m→(ts.getD i default).size+2 * s i≤2 * e i
 hall:T.sizeL ts+2 * p≤2 * q
theorem c5H (l:List Sg) (p q:Nat) (hl:l.length≤1000) (h1:kd l p=1) (hq:q=p+1) (hql:q≤l.length) (hpq:p≤q) {v:Nat} (hv:v≤1) (hsg:Seg l v p q (.name (l.getD p default).name)):BdC l p q (.name (l.getD p default).name):=by
 intro c g out ho
 obtain ⟨cb,hcb⟩:∃ cb,cb=c:=⟨_,rfl⟩
 subst hcb
 refine a0v Tryz.func68 rfl kr _ _ _ _ rfl 126 rfl rfl (fun X ok hX=>?_)
 refine ru 12 ?_
 refine a2a 3 ?_
 refine a1i (fun NhU1 hU1=>?_)
 refine ru 7 ?_
 refine wdc (fun hr0 hc0=>?_) (fun hr0 hc0=>?_)
 ·refine ru 10 ?_
  refine cll ((show HPure Tryz.prog 95 [a4u l,intV p,intV q,intV 3] (a1u [(p:Int),(q:Int)]) from (by rw [←a1F hsg hv];exact a2v l p q 3 hl hql hpq))) ?_
  refine ru 11 ?_
  refine wdc (fun hr1 hc1=>?_) (fun hr1 hc1=>?_)
  ·refine ru 9 ?_
   refine hU1 _ ?_
   refine a1i (fun NhU2 hU2=>?_)
   refine ru 7 ?_
   refine wdc (fun hr0 hc0=>?_) (fun hr0 hc0=>?_)
   ·refine ru 10 ?_
    refine cll ((show HPure Tryz.prog 95 [a4u l,intV p,intV q,intV 2] (a1u [(p:Int),(q:Int)]) from (by rw [←a1F hsg hv];exact a2v l p q 2 hl hql hpq))) ?_
    refine ru 11 ?_
    refine wdc (fun hr1 hc1=>?_) (fun hr1 hc1=>?_)
    ·refine ru 9 ?_
     refine hU2 _ ?_
     refine a1i (fun NhU3 hU3=>?_)
     refine ru 7 ?_
     refine wdc (fun hr0 hc0=>?_) (fun hr0 hc0=>?_)
     ·skip
      exfalso;simp at hr0
     refine ru 2 ?_
     refine a0d ?_
     refine ru 11 ?_
     refine rvl (intV (kd l p)) (a9F om om) ?_
     refine ru 3 ?_
     refine wdc (fun hr4 hc4=>?_) (fun hr4 hc4=>?_)
     ·skip
      exfalso;omega
     refine ru 10 ?_
     refine rvl (intV (kd l p)) (a9F om om) ?_
     refine ru 3 ?_
     refine wdc (fun hr5 hc5=>?_) (fun hr5 hc5=>?_)
     ·skip
      exfalso;omega
     refine ru 11 ?_
     refine a0u 124 (a0b (id:=124) (hs:=[_]) ei_56.h omx rfl omx ⟨rfl,rfl,rfl,rfl,trivial⟩) rfl rfl a0g rfl rfl (c':=cb+1) rfl ?_
     first
     | refine a0u 125 (a0a ei_56.h (by first | exact Nat.le_of_ble_eq_true rfl | omega | (dsimp only;omega) | (simp <;> omega)) rfl (by first | exact Nat.le_of_ble_eq_true rfl | omega | (dsimp only;omega) | (simp <;> omega)) (by first | exact Nat.le_of_ble_eq_true rfl | omega | (dsimp only;omega) | (simp <;> omega)) (a0x rfl (by first | exact Nat.le_of_ble_eq_true rfl | omega | (dsimp only;omega) | (simp <;> omega))) (by first | exact Nat.le_of_ble_eq_true rfl | omega | (dsimp only;omega) | (simp <;> omega)) rfl) rfl rfl (a0i rfl (a0P rfl)) rfl rfl (c':=cb+2) rfl ?_
     | refine a0u 125 (a0a ei_56.h (by first | exact Nat.le_of_ble_eq_true rfl | omega | (dsimp only;omega) | (simp <;> omega)) rfl (by first | exact Nat.le_of_ble_eq_true rfl | omega | (dsimp only;omega) | (simp <;> omega)) (by first | exact Nat.le_of_ble_eq_true rfl | omega | (dsimp only;omega) | (simp <;> omega)) (a0S rfl (by first | exact Nat.le_of_ble_eq_true rfl | omega | (dsimp only;omega) | (simp <;> omega))) (by first | exact Nat.le_of_ble_eq_true rfl | omega | (dsimp only;omega) | (simp <;> omega)) rfl) rfl rfl (a0i rfl (a0P rfl)) rfl rfl (c':=cb+2) rfl ?_
     | refine a0u 125 (a0a ei_56.h (by first | exact Nat.le_of_ble_eq_true rfl | omega | (dsimp only;omega) | (simp <;> omega)) rfl (by first | exact Nat.le_of_ble_eq_true rfl | omega | (dsimp only;omega) | (simp <;> omega)) (by first | exact Nat.le_of_ble_eq_true rfl | omega | (dsimp only;omega) | (simp <;> omega)) (a0O rfl) (by first | exact Nat.le_of_ble_eq_true rfl | omega | (dsimp only;omega) | (simp <;> omega)) rfl) rfl rfl (a0i rfl a0g) rfl rfl (c':=cb+2) rfl ?_
     | refine a0u 125 (a0a ei_56.h (by first | exact Nat.le_of_ble_eq_true rfl | omega | (dsimp only;omega) | (simp <;> omega)) rfl (by first | exact Nat.le_of_ble_eq_true rfl | omega | (dsimp only;omega) | (simp <;> omega)) (by first | exact Nat.le_of_ble_eq_true rfl | omega | (dsimp only;omega) | (simp <;> omega)) (a0z 5 (fun _ _=>default) rfl) (by first | exact Nat.le_of_ble_eq_true rfl | omega | (dsimp only;omega) | (simp <;> omega)) rfl) rfl rfl (a0i rfl a0g) rfl rfl (c':=cb+2) rfl ?_
     refine ru 4 ?_
     refine fr1 ok hX rw1 (_) (trivial) (a9v rfl rfl (by simp [T.flat])) ?_
     exact ⟨⟨_,rfl,a3T (o:=out) (x:=⟨1,0,0,(l.getD p default).name,[]⟩) rfl (by simp [T.flat]) (b2O (.imm _) (.imm _) (.imm _) (.imm _) (.nil 0 1 _ (by decide) none))⟩,trivial⟩
    exfalso;simp at hr1
   exfalso;simp at hr0
  exfalso;simp at hr1
 exfalso;simp at hr0
theorem c1b (l:List Sg) (p q:Nat) (hl:l.length≤1000) (h1:kd l p=1) (hq:q=p+1) (hql:q≤l.length) (hpq:p≤q) {v:Nat} (hv:v≤1) (hsg:Seg l v p q (.name (l.getD p default).name)):BdN l p q (.name (l.getD p default).name):=by
 intro c
 obtain ⟨cb,hcb⟩:∃ cb,cb=c+1:=⟨_,rfl⟩
 have ho:([]:List Pt).length≤2 * p:=Nat.zero_le _
 refine a0v Tryz.func68 rfl kr _ _ _ _ rfl 126 rfl rfl (fun X ok hX=>?_)
 refine ru 1 ?_
 refine a4O 0 9003 5 105 (b6U []) rfl (by decide) rfl (c':=cb) hcb.symm ?_
 refine ru 11 ?_
 refine a2a 3 ?_
 refine a1i (fun NhU1 hU1=>?_)
 refine ru 7 ?_
 refine wdc (fun hr0 hc0=>?_) (fun hr0 hc0=>?_)
 ·refine ru 10 ?_
  refine cll ((show HPure Tryz.prog 95 [a4u l,intV p,intV q,intV 3] (a1u [(p:Int),(q:Int)]) from (by rw [←a1F hsg hv];exact a2v l p q 3 hl hql hpq))) ?_
  refine ru 11 ?_
  refine wdc (fun hr1 hc1=>?_) (fun hr1 hc1=>?_)
  ·refine ru 9 ?_
   refine hU1 _ ?_
   refine a1i (fun NhU2 hU2=>?_)
   refine ru 7 ?_
   refine wdc (fun hr0 hc0=>?_) (fun hr0 hc0=>?_)
   ·refine ru 10 ?_
    refine cll ((show HPure Tryz.prog 95 [a4u l,intV p,intV q,intV 2] (a1u [(p:Int),(q:Int)]) from (by rw [←a1F hsg hv];exact a2v l p q 2 hl hql hpq))) ?_
    refine ru 11 ?_
    refine wdc (fun hr1 hc1=>?_) (fun hr1 hc1=>?_)
    ·refine ru 9 ?_
     refine hU2 _ ?_
     refine a1i (fun NhU3 hU3=>?_)
     refine ru 7 ?_
     refine wdc (fun hr0 hc0=>?_) (fun hr0 hc0=>?_)
     ·skip
      exfalso;simp at hr0
     refine ru 2 ?_
     refine a0d ?_
     refine ru 11 ?_
     refine rvl (intV (kd l p)) (a9F om om) ?_
     refine ru 3 ?_
     refine wdc (fun hr4 hc4=>?_) (fun hr4 hc4=>?_)
     ·skip
      exfalso;omega
     refine ru 10 ?_
     refine rvl (intV (kd l p)) (a9F om om) ?_
     refine ru 3 ?_
     refine wdc (fun hr5 hc5=>?_) (fun hr5 hc5=>?_)
     ·skip
      exfalso;omega
     refine ru 11 ?_
     refine a0u 124 (a0b (id:=124) (hs:=[_]) ei_56.h omx rfl omx ⟨rfl,rfl,rfl,rfl,trivial⟩) rfl rfl a0g rfl rfl (c':=cb+1) rfl ?_
     first
     | refine a0u 125 (a0a ei_56.h (by first | exact Nat.le_of_ble_eq_true rfl | omega | (dsimp only;omega) | (simp <;> omega)) rfl (by first | exact Nat.le_of_ble_eq_true rfl | omega | (dsimp only;omega) | (simp <;> omega)) (by first | exact Nat.le_of_ble_eq_true rfl | omega | (dsimp only;omega) | (simp <;> omega)) (a0x rfl (by first | exact Nat.le_of_ble_eq_true rfl | omega | (dsimp only;omega) | (simp <;> omega))) (by first | exact Nat.le_of_ble_eq_true rfl | omega | (dsimp only;omega) | (simp <;> omega)) rfl) rfl rfl (a0i rfl (a0P rfl)) rfl rfl (c':=cb+2) rfl ?_
     | refine a0u 125 (a0a ei_56.h (by first | exact Nat.le_of_ble_eq_true rfl | omega | (dsimp only;omega) | (simp <;> omega)) rfl (by first | exact Nat.le_of_ble_eq_true rfl | omega | (dsimp only;omega) | (simp <;> omega)) (by first | exact Nat.le_of_ble_eq_true rfl | omega | (dsimp only;omega) | (simp <;> omega)) (a0S rfl (by first | exact Nat.le_of_ble_eq_true rfl | omega | (dsimp only;omega) | (simp <;> omega))) (by first | exact Nat.le_of_ble_eq_true rfl | omega | (dsimp only;omega) | (simp <;> omega)) rfl) rfl rfl (a0i rfl (a0P rfl)) rfl rfl (c':=cb+2) rfl ?_
     | refine a0u 125 (a0a ei_56.h (by first | exact Nat.le_of_ble_eq_true rfl | omega | (dsimp only;omega) | (simp <;> omega)) rfl (by first | exact Nat.le_of_ble_eq_true rfl | omega | (dsimp only;omega) | (simp <;> omega)) (by first | exact Nat.le_of_ble_eq_true rfl | omega | (dsimp only;omega) | (simp <;> omega)) (a0O rfl) (by first | exact Nat.le_of_ble_eq_true rfl | omega | (dsimp only;omega) | (simp <;> omega)) rfl) rfl rfl (a0i rfl a0g) rfl rfl (c':=cb+2) rfl ?_
     | refine a0u 125 (a0a ei_56.h (by first | exact Nat.le_of_ble_eq_true rfl | omega | (dsimp only;omega) | (simp <;> omega)) rfl (by first | exact Nat.le_of_ble_eq_true rfl | omega | (dsimp only;omega) | (simp <;> omega)) (by first | exact Nat.le_of_ble_eq_true rfl | omega | (dsimp only;omega) | (simp <;> omega)) (a0z 5 (fun _ _=>default) rfl) (by first | exact Nat.le_of_ble_eq_true rfl | omega | (dsimp only;omega) | (simp <;> omega)) rfl) rfl rfl (a0i rfl a0g) rfl rfl (c':=cb+2) rfl ?_
     refine ru 4 ?_
     refine fr1 ok hX rw1 (_) (trivial) (a9v rfl rfl (by simp [T.flat])) ?_
     exact ⟨⟨_,rfl,a3T (o:=([]:List Pt)) (x:=⟨1,0,0,(l.getD p default).name,[]⟩) rfl (by simp [T.flat]) (b2O (.imm _) (.imm _) (.imm _) (.imm _) (.nil 0 1 _ (by decide) none))⟩,trivial⟩
    exfalso;simp at hr1
   exfalso;simp at hr0
  exfalso;simp at hr1
 exfalso;simp at hr0
theorem c1v (l:List Sg) (p q:Nat) (hl:l.length≤1000) (q':Nat) (t:T) (h2:kd l p=2) (h3:kd l q'=3) (hpq1:p+1 < q') (hq:q=q'+1) (hql:q≤l.length) (hpq:p≤q) {v:Nat} (hv:v≤1) (hsg:Seg l v p q t) (ih:BdC l (p+1) q' t):BdC l p q t:=by
 intro c g out ho
 obtain ⟨cb,hcb⟩:∃ cb,cb=c:=⟨_,rfl⟩
 subst hcb
 refine a0v Tryz.func68 rfl kr _ _ _ _ rfl 126 rfl rfl (fun X ok hX=>?_)
 refine ru 12 ?_
 refine a2a 3 ?_
 refine a1i (fun NhU1 hU1=>?_)
 refine ru 7 ?_
 refine wdc (fun hr0 hc0=>?_) (fun hr0 hc0=>?_)
 ·refine ru 10 ?_
  refine cll ((show HPure Tryz.prog 95 [a4u l,intV p,intV q,intV 3] (a1u [(p:Int),(q:Int)]) from (by rw [←a1F hsg hv];exact a2v l p q 3 hl hql hpq))) ?_
  refine ru 11 ?_
  refine wdc (fun hr1 hc1=>?_) (fun hr1 hc1=>?_)
  ·refine ru 9 ?_
   refine hU1 _ ?_
   refine a1i (fun NhU2 hU2=>?_)
   refine ru 7 ?_
   refine wdc (fun hr0 hc0=>?_) (fun hr0 hc0=>?_)
   ·refine ru 10 ?_
    refine cll ((show HPure Tryz.prog 95 [a4u l,intV p,intV q,intV 2] (a1u [(p:Int),(q:Int)]) from (by rw [←a1F hsg hv];exact a2v l p q 2 hl hql hpq))) ?_
    refine ru 11 ?_
    refine wdc (fun hr1 hc1=>?_) (fun hr1 hc1=>?_)
    ·refine ru 9 ?_
     refine hU2 _ ?_
     refine a1i (fun NhU3 hU3=>?_)
     refine ru 7 ?_
     refine wdc (fun hr0 hc0=>?_) (fun hr0 hc0=>?_)
     ·skip
      exfalso;simp at hr0
     refine ru 2 ?_
     refine a0d ?_
     refine ru 11 ?_
     refine rvl (intV (kd l q')) (a9F om om) ?_
     refine ru 3 ?_
     refine wdc (fun hr4 hc4=>?_) (fun hr4 hc4=>?_)
     ·skip
      exfalso;omega
     refine ru 10 ?_
     refine rvl (intV (kd l p)) (a9F om om) ?_
     refine ru 3 ?_
     refine wdc (fun hr5 hc5=>?_) (fun hr5 hc5=>?_)
     ·refine ru 6 ?_
      refine rvl (intV ((p+1:Nat):Int)) (rfl) ?_
      refine ru 2 ?_
      refine rvl (intV (q':Int)) (by rw [show (q:Int) - 1=(q':Int) by omega]) ?_
      refine a0s 116 (xs:=[_,_,_,_]) (pre:=[(9003,_)]) (ih _ g out om) ⟨rfl,⟨rfl,⟨rfl,⟨rfl,trivial⟩⟩⟩⟩ (a0i rfl a0g) rfl rfl (fun g3 c1 hx1=>?_)
      (try dsimp only)
      refine ru 5 ?_
      refine fr1 ok hX rw1 (g3) (trivial) (kza) ?_
      exact ⟨⟨_,rfl,.of (fun i j _ _=>.fz _ _ (b0T _ j))⟩,trivial⟩
     exfalso;omega
    exfalso;simp at hr1
   exfalso;simp at hr0
  exfalso;simp at hr1
 exfalso;simp at hr0
theorem b9y (l:List Sg) (p q:Nat) (hl:l.length≤1000) (q':Nat) (t:T) (h2:kd l p=2) (h3:kd l q'=3) (hpq1:p+1 < q') (hq:q=q'+1) (hql:q≤l.length) (hpq:p≤q) {v:Nat} (hv:v≤1) (hsg:Seg l v p q t) (ih:BdC l (p+1) q' t):BdN l p q t:=by
 intro c
 obtain ⟨cb,hcb⟩:∃ cb,cb=c+1:=⟨_,rfl⟩
 have ho:([]:List Pt).length≤2 * p:=Nat.zero_le _
 refine a0v Tryz.func68 rfl kr _ _ _ _ rfl 126 rfl rfl (fun X ok hX=>?_)
 refine ru 1 ?_
 refine a4O 0 9003 5 105 (b6U []) rfl (by decide) rfl (c':=cb) hcb.symm ?_
 refine ru 11 ?_
 refine a2a 3 ?_
 refine a1i (fun NhU1 hU1=>?_)
 refine ru 7 ?_
 refine wdc (fun hr0 hc0=>?_) (fun hr0 hc0=>?_)
 ·refine ru 10 ?_
  refine cll ((show HPure Tryz.prog 95 [a4u l,intV p,intV q,intV 3] (a1u [(p:Int),(q:Int)]) from (by rw [←a1F hsg hv];exact a2v l p q 3 hl hql hpq))) ?_
  refine ru 11 ?_
  refine wdc (fun hr1 hc1=>?_) (fun hr1 hc1=>?_)
  ·refine ru 9 ?_
   refine hU1 _ ?_
   refine a1i (fun NhU2 hU2=>?_)
   refine ru 7 ?_
   refine wdc (fun hr0 hc0=>?_) (fun hr0 hc0=>?_)
   ·refine ru 10 ?_
    refine cll ((show HPure Tryz.prog 95 [a4u l,intV p,intV q,intV 2] (a1u [(p:Int),(q:Int)]) from (by rw [←a1F hsg hv];exact a2v l p q 2 hl hql hpq))) ?_
    refine ru 11 ?_
    refine wdc (fun hr1 hc1=>?_) (fun hr1 hc1=>?_)
    ·refine ru 9 ?_
     refine hU2 _ ?_
     refine a1i (fun NhU3 hU3=>?_)
     refine ru 7 ?_
     refine wdc (fun hr0 hc0=>?_) (fun hr0 hc0=>?_)
     ·skip
      exfalso;simp at hr0
     refine ru 2 ?_
     refine a0d ?_
     refine ru 11 ?_
     refine rvl (intV (kd l q')) (a9F om om) ?_
     refine ru 3 ?_
     refine wdc (fun hr4 hc4=>?_) (fun hr4 hc4=>?_)
     ·skip
      exfalso;omega
     refine ru 10 ?_
     refine rvl (intV (kd l p)) (a9F om om) ?_
     refine ru 3 ?_
     refine wdc (fun hr5 hc5=>?_) (fun hr5 hc5=>?_)
     ·refine ru 6 ?_
      refine rvl (intV ((p+1:Nat):Int)) (rfl) ?_
      refine ru 2 ?_
      refine rvl (intV (q':Int)) (by rw [show (q:Int) - 1=(q':Int) by omega]) ?_
      refine a0s 116 (xs:=[_,_,_,_]) (pre:=[(9003,_)]) (ih _ c ([]:List Pt) om) ⟨rfl,⟨rfl,⟨rfl,⟨rfl,trivial⟩⟩⟩⟩ (a0i rfl a0g) rfl rfl (fun g3 c1 hx1=>?_)
      (try dsimp only)
      refine ru 5 ?_
      refine fr1 ok hX rw1 (g3) (trivial) (kza) ?_
      exact ⟨⟨_,rfl,.of (fun i j _ _=>.fz _ _ (b0T _ j))⟩,trivial⟩
     exfalso;omega
    exfalso;simp at hr1
   exfalso;simp at hr0
  exfalso;simp at hr1
 exfalso;simp at hr0
theorem c0W (l:List Sg) (p q:Nat) (hl:l.length≤1000) (q':Nat) (t:T) (h5:kd l q'=5) (hs0:Seg l 0 p q' t) (hpq1:p < q') (hq:q=q'+1) (hql:q≤l.length) (hpq:p≤q) {v:Nat} (hv:v≤1) (hsg:Seg l v p q (.times (l.getD q' default).low (l.getD q' default).high t)) (ih:BdC l p q' t):BdC l p q (.times (l.getD q' default).low (l.getD q' default).high t):=by
 intro c g out ho
 obtain ⟨cb,hcb⟩:∃ cb,cb=c:=⟨_,rfl⟩
 subst hcb
 refine a0v Tryz.func68 rfl kr _ _ _ _ rfl 126 rfl rfl (fun X ok hX=>?_)
 refine ru 12 ?_
 refine a2a 3 ?_
 refine a1i (fun NhU1 hU1=>?_)
 refine ru 7 ?_
 refine wdc (fun hr0 hc0=>?_) (fun hr0 hc0=>?_)
 ·refine ru 10 ?_
  refine cll ((show HPure Tryz.prog 95 [a4u l,intV p,intV q,intV 3] (a1u [(p:Int),(q:Int)]) from (by rw [←a1F hsg hv];exact a2v l p q 3 hl hql hpq))) ?_
  refine ru 11 ?_
  refine wdc (fun hr1 hc1=>?_) (fun hr1 hc1=>?_)
  ·refine ru 9 ?_
   refine hU1 _ ?_
   refine a1i (fun NhU2 hU2=>?_)
   refine ru 7 ?_
   refine wdc (fun hr0 hc0=>?_) (fun hr0 hc0=>?_)
   ·refine ru 10 ?_
    refine cll ((show HPure Tryz.prog 95 [a4u l,intV p,intV q,intV 2] (a1u [(p:Int),(q:Int)]) from (by rw [←a1F hsg hv];exact a2v l p q 2 hl hql hpq))) ?_
    refine ru 11 ?_
    refine wdc (fun hr1 hc1=>?_) (fun hr1 hc1=>?_)
    ·refine ru 9 ?_
     refine hU2 _ ?_
     refine a1i (fun NhU3 hU3=>?_)
     refine ru 7 ?_
     refine wdc (fun hr0 hc0=>?_) (fun hr0 hc0=>?_)
     ·skip
      exfalso;simp at hr0
     refine ru 2 ?_
     refine a0d ?_
     refine ru 11 ?_
     refine rvl (intV (kd l q')) (a9F om om) ?_
     refine ru 3 ?_
     refine wdc (fun hr4 hc4=>?_) (fun hr4 hc4=>?_)
     ·refine ru 7 ?_
      refine rvl (intV (q':Int)) (by rw [show (q:Int) - 1=(q':Int) by omega]) ?_
      refine a0s 83 (xs:=[_,_,_,_]) (pre:=[(9003,_)]) (ih _ g out ho) ⟨rfl,⟨rfl,⟨rfl,⟨rfl,trivial⟩⟩⟩⟩ (a0i rfl a0g) rfl rfl (fun g3 c1 hx1=>?_)
      (try dsimp only)
      refine ru 4 ?_
      have hfl:=T.flat_len out.length t;have hsz:=a2J hs0;have hol:(out++T.flat out.length t).length=out.length+t.size:=(by rw [List.length_append,hfl])
      refine ru 7 ?_
      first
      | refine a3a 90 (HOp.val (v':=intV (l.getD q' default).low) (a0D ty_3.h rfl (by first | exact Nat.le_of_ble_eq_true rfl | omega | (dsimp only;omega) | (simp <;> omega)) (by first | exact Nat.le_of_ble_eq_true rfl | omega | (dsimp only;omega) | (simp <;> omega)) (fun h=>(by first | rfl | cases h))) (by rw [show ((q:Int) - 1).toNat=q' by omega];rfl)) rfl rfl (a0P rfl) rfl rfl (k':=7) rfl ?_
      | refine a3a 90 (HOp.val (v':=intV (l.getD q' default).low) (a0r ty_3.h rfl (by first | exact Nat.le_of_ble_eq_true rfl | omega | (dsimp only;omega) | (simp <;> omega)) (fun h=>(by first | rfl | cases h))) (by rw [show ((q:Int) - 1).toNat=q' by omega];rfl)) rfl rfl a0g rfl rfl (k':=7) rfl ?_
      refine ru 5 ?_
      first
      | refine a3a 96 (HOp.val (v':=intV (l.getD q' default).high) (a0D ty_3.h rfl (by first | exact Nat.le_of_ble_eq_true rfl | omega | (dsimp only;omega) | (simp <;> omega)) (by first | exact Nat.le_of_ble_eq_true rfl | omega | (dsimp only;omega) | (simp <;> omega)) (fun h=>(by first | rfl | cases h))) (by rw [show ((q:Int) - 1).toNat=q' by omega];rfl)) rfl rfl (a0P rfl) rfl rfl (k':=13) rfl ?_
      | refine a3a 96 (HOp.val (v':=intV (l.getD q' default).high) (a0r ty_3.h rfl (by first | exact Nat.le_of_ble_eq_true rfl | omega | (dsimp only;omega) | (simp <;> omega)) (fun h=>(by first | rfl | cases h))) (by rw [show ((q:Int) - 1).toNat=q' by omega];rfl)) rfl rfl a0g rfl rfl (k':=13) rfl ?_
      refine ru 3 ?_
      refine a2n 100 (a0b (id:=100) (hs:=[_]) ei_49.h omx rfl omx ⟨rfl,rfl,rfl,rfl,trivial⟩) rfl rfl a0g rfl rfl (k':=17) rfl ?_
      refine ru 1 ?_
      refine a2n 102 (a0b (id:=102) (hs:=[_]) ei_56.h omx rfl omx ⟨rfl,rfl,rfl,rfl,trivial⟩) rfl rfl a0g rfl rfl (k':=19) rfl ?_
      first
      | refine a2n 103 (a0a ei_56.h (by first | exact Nat.le_of_ble_eq_true rfl | omega | (dsimp only;omega) | (simp <;> omega)) rfl (by first | exact Nat.le_of_ble_eq_true rfl | omega | (dsimp only;omega) | (simp <;> omega)) (by first | exact Nat.le_of_ble_eq_true rfl | omega | (dsimp only;omega) | (simp <;> omega)) (a0x rfl (by first | exact Nat.le_of_ble_eq_true rfl | omega | (dsimp only;omega) | (simp <;> omega))) (by first | exact Nat.le_of_ble_eq_true rfl | omega | (dsimp only;omega) | (simp <;> omega)) rfl) rfl rfl (a0i rfl (a0P rfl)) rfl rfl (k':=20) rfl ?_
      | refine a2n 103 (a0a ei_56.h (by first | exact Nat.le_of_ble_eq_true rfl | omega | (dsimp only;omega) | (simp <;> omega)) rfl (by first | exact Nat.le_of_ble_eq_true rfl | omega | (dsimp only;omega) | (simp <;> omega)) (by first | exact Nat.le_of_ble_eq_true rfl | omega | (dsimp only;omega) | (simp <;> omega)) (a0S rfl (by first | exact Nat.le_of_ble_eq_true rfl | omega | (dsimp only;omega) | (simp <;> omega))) (by first | exact Nat.le_of_ble_eq_true rfl | omega | (dsimp only;omega) | (simp <;> omega)) rfl) rfl rfl (a0i rfl (a0P rfl)) rfl rfl (k':=20) rfl ?_
      | refine a2n 103 (a0a ei_56.h (by first | exact Nat.le_of_ble_eq_true rfl | omega | (dsimp only;omega) | (simp <;> omega)) rfl (by first | exact Nat.le_of_ble_eq_true rfl | omega | (dsimp only;omega) | (simp <;> omega)) (by first | exact Nat.le_of_ble_eq_true rfl | omega | (dsimp only;omega) | (simp <;> omega)) (a0O rfl) (by first | exact Nat.le_of_ble_eq_true rfl | omega | (dsimp only;omega) | (simp <;> omega)) rfl) rfl rfl (a0i rfl a0g) rfl rfl (k':=20) rfl ?_
      | refine a2n 103 (a0a ei_56.h (by first | exact Nat.le_of_ble_eq_true rfl | omega | (dsimp only;omega) | (simp <;> omega)) rfl (by first | exact Nat.le_of_ble_eq_true rfl | omega | (dsimp only;omega) | (simp <;> omega)) (by first | exact Nat.le_of_ble_eq_true rfl | omega | (dsimp only;omega) | (simp <;> omega)) (a0z 5 (fun _ _=>default) rfl) (by first | exact Nat.le_of_ble_eq_true rfl | omega | (dsimp only;omega) | (simp <;> omega)) rfl) rfl rfl (a0i rfl a0g) rfl rfl (k':=20) rfl ?_
      refine ru 5 ?_
      refine a1q ok hX a3g.one rfl (a0h rfl) [(100,_)] rfl (a0i rfl a0g) (_) (trivial) (by rfl) (by rfl) (a9v rfl rfl (by first | (simp [T.flat];done) | (simp [T.flat];omega))) ?_
      exact ⟨⟨_,rfl,a3T (o:=out++T.flat out.length t) (x:=⟨4,(l.getD q' default).low,(l.getD q' default).high,[],[((out.length+t.size:Nat):Int) - 1]⟩) rfl (by first | (simp only [T.flat,List.append_assoc];done) | (simp [T.flat];done) | rfl) (b2O (.imm _) (.imm _) (.imm _) (.imm _) (a2r (l:=[((out.length+t.size:Nat):Int) - 1]) (enc:=fun x _=>intV x) (d:=0) (List.mem_cons_self ..) rfl rfl (Nat.le_refl _) (fun i j hi hj=>by obtain rfl:i=0:=(by simpa using hi);exact b9c (by rw [List.length_append,hfl];rfl))))⟩,trivial⟩
     exfalso;omega
    exfalso;simp at hr1
   exfalso;simp at hr0
  exfalso;simp at hr1
 exfalso;simp at hr0
theorem b9e (l:List Sg) (p q:Nat) (hl:l.length≤1000) (q':Nat) (t:T) (h5:kd l q'=5) (hs0:Seg l 0 p q' t) (hpq1:p < q') (hq:q=q'+1) (hql:q≤l.length) (hpq:p≤q) {v:Nat} (hv:v≤1) (hsg:Seg l v p q (.times (l.getD q' default).low (l.getD q' default).high t)) (ih:BdC l p q' t):BdN l p q (.times (l.getD q' default).low (l.getD q' default).high t):=by
 intro c
 obtain ⟨cb,hcb⟩:∃ cb,cb=c+1:=⟨_,rfl⟩
 have ho:([]:List Pt).length≤2 * p:=Nat.zero_le _
 refine a0v Tryz.func68 rfl kr _ _ _ _ rfl 126 rfl rfl (fun X ok hX=>?_)
 refine ru 1 ?_
 refine a4O 0 9003 5 105 (b6U []) rfl (by decide) rfl (c':=cb) hcb.symm ?_
 refine ru 11 ?_
 refine a2a 3 ?_
 refine a1i (fun NhU1 hU1=>?_)
 refine ru 7 ?_
 refine wdc (fun hr0 hc0=>?_) (fun hr0 hc0=>?_)
 ·refine ru 10 ?_
  refine cll ((show HPure Tryz.prog 95 [a4u l,intV p,intV q,intV 3] (a1u [(p:Int),(q:Int)]) from (by rw [←a1F hsg hv];exact a2v l p q 3 hl hql hpq))) ?_
  refine ru 11 ?_
  refine wdc (fun hr1 hc1=>?_) (fun hr1 hc1=>?_)
  ·refine ru 9 ?_
   refine hU1 _ ?_
   refine a1i (fun NhU2 hU2=>?_)
   refine ru 7 ?_
   refine wdc (fun hr0 hc0=>?_) (fun hr0 hc0=>?_)
   ·refine ru 10 ?_
    refine cll ((show HPure Tryz.prog 95 [a4u l,intV p,intV q,intV 2] (a1u [(p:Int),(q:Int)]) from (by rw [←a1F hsg hv];exact a2v l p q 2 hl hql hpq))) ?_
    refine ru 11 ?_
    refine wdc (fun hr1 hc1=>?_) (fun hr1 hc1=>?_)
    ·refine ru 9 ?_
     refine hU2 _ ?_
     refine a1i (fun NhU3 hU3=>?_)
     refine ru 7 ?_
     refine wdc (fun hr0 hc0=>?_) (fun hr0 hc0=>?_)
     ·skip
      exfalso;simp at hr0
     refine ru 2 ?_
     refine a0d ?_
     refine ru 11 ?_
     refine rvl (intV (kd l q')) (a9F om om) ?_
     refine ru 3 ?_
     refine wdc (fun hr4 hc4=>?_) (fun hr4 hc4=>?_)
     ·refine ru 7 ?_
      refine rvl (intV (q':Int)) (by rw [show (q:Int) - 1=(q':Int) by omega]) ?_
      refine a0s 83 (xs:=[_,_,_,_]) (pre:=[(9003,_)]) (ih _ c ([]:List Pt) ho) ⟨rfl,⟨rfl,⟨rfl,⟨rfl,trivial⟩⟩⟩⟩ (a0i rfl a0g) rfl rfl (fun g3 c1 hx1=>?_)
      (try dsimp only)
      refine ru 4 ?_
      have hfl:=T.flat_len ([]:List Pt).length t;have hsz:=a2J hs0;have hol:(([]:List Pt)++T.flat ([]:List Pt).length t).length=([]:List Pt).length+t.size:=(by rw [List.length_append,hfl])
      refine ru 7 ?_
      first
      | refine a3a 90 (HOp.val (v':=intV (l.getD q' default).low) (a0D ty_3.h rfl (by first | exact Nat.le_of_ble_eq_true rfl | omega | (dsimp only;omega) | (simp <;> omega)) (by first | exact Nat.le_of_ble_eq_true rfl | omega | (dsimp only;omega) | (simp <;> omega)) (fun h=>(by first | rfl | cases h))) (by rw [show ((q:Int) - 1).toNat=q' by omega];rfl)) rfl rfl (a0P rfl) rfl rfl (k':=7) rfl ?_
      | refine a3a 90 (HOp.val (v':=intV (l.getD q' default).low) (a0r ty_3.h rfl (by first | exact Nat.le_of_ble_eq_true rfl | omega | (dsimp only;omega) | (simp <;> omega)) (fun h=>(by first | rfl | cases h))) (by rw [show ((q:Int) - 1).toNat=q' by omega];rfl)) rfl rfl a0g rfl rfl (k':=7) rfl ?_
      refine ru 5 ?_
      first
      | refine a3a 96 (HOp.val (v':=intV (l.getD q' default).high) (a0D ty_3.h rfl (by first | exact Nat.le_of_ble_eq_true rfl | omega | (dsimp only;omega) | (simp <;> omega)) (by first | exact Nat.le_of_ble_eq_true rfl | omega | (dsimp only;omega) | (simp <;> omega)) (fun h=>(by first | rfl | cases h))) (by rw [show ((q:Int) - 1).toNat=q' by omega];rfl)) rfl rfl (a0P rfl) rfl rfl (k':=13) rfl ?_
      | refine a3a 96 (HOp.val (v':=intV (l.getD q' default).high) (a0r ty_3.h rfl (by first | exact Nat.le_of_ble_eq_true rfl | omega | (dsimp only;omega) | (simp <;> omega)) (fun h=>(by first | rfl | cases h))) (by rw [show ((q:Int) - 1).toNat=q' by omega];rfl)) rfl rfl a0g rfl rfl (k':=13) rfl ?_
      refine ru 3 ?_
      refine a2n 100 (a0b (id:=100) (hs:=[_]) ei_49.h omx rfl omx ⟨rfl,rfl,rfl,rfl,trivial⟩) rfl rfl a0g rfl rfl (k':=17) rfl ?_
      refine ru 1 ?_
      refine a2n 102 (a0b (id:=102) (hs:=[_]) ei_56.h omx rfl omx ⟨rfl,rfl,rfl,rfl,trivial⟩) rfl rfl a0g rfl rfl (k':=19) rfl ?_
      first
      | refine a2n 103 (a0a ei_56.h (by first | exact Nat.le_of_ble_eq_true rfl | omega | (dsimp only;omega) | (simp <;> omega)) rfl (by first | exact Nat.le_of_ble_eq_true rfl | omega | (dsimp only;omega) | (simp <;> omega)) (by first | exact Nat.le_of_ble_eq_true rfl | omega | (dsimp only;omega) | (simp <;> omega)) (a0x rfl (by first | exact Nat.le_of_ble_eq_true rfl | omega | (dsimp only;omega) | (simp <;> omega))) (by first | exact Nat.le_of_ble_eq_true rfl | omega | (dsimp only;omega) | (simp <;> omega)) rfl) rfl rfl (a0i rfl (a0P rfl)) rfl rfl (k':=20) rfl ?_
      | refine a2n 103 (a0a ei_56.h (by first | exact Nat.le_of_ble_eq_true rfl | omega | (dsimp only;omega) | (simp <;> omega)) rfl (by first | exact Nat.le_of_ble_eq_true rfl | omega | (dsimp only;omega) | (simp <;> omega)) (by first | exact Nat.le_of_ble_eq_true rfl | omega | (dsimp only;omega) | (simp <;> omega)) (a0S rfl (by first | exact Nat.le_of_ble_eq_true rfl | omega | (dsimp only;omega) | (simp <;> omega))) (by first | exact Nat.le_of_ble_eq_true rfl | omega | (dsimp only;omega) | (simp <;> omega)) rfl) rfl rfl (a0i rfl (a0P rfl)) rfl rfl (k':=20) rfl ?_
      | refine a2n 103 (a0a ei_56.h (by first | exact Nat.le_of_ble_eq_true rfl | omega | (dsimp only;omega) | (simp <;> omega)) rfl (by first | exact Nat.le_of_ble_eq_true rfl | omega | (dsimp only;omega) | (simp <;> omega)) (by first | exact Nat.le_of_ble_eq_true rfl | omega | (dsimp only;omega) | (simp <;> omega)) (a0O rfl) (by first | exact Nat.le_of_ble_eq_true rfl | omega | (dsimp only;omega) | (simp <;> omega)) rfl) rfl rfl (a0i rfl a0g) rfl rfl (k':=20) rfl ?_
      | refine a2n 103 (a0a ei_56.h (by first | exact Nat.le_of_ble_eq_true rfl | omega | (dsimp only;omega) | (simp <;> omega)) rfl (by first | exact Nat.le_of_ble_eq_true rfl | omega | (dsimp only;omega) | (simp <;> omega)) (by first | exact Nat.le_of_ble_eq_true rfl | omega | (dsimp only;omega) | (simp <;> omega)) (a0z 5 (fun _ _=>default) rfl) (by first | exact Nat.le_of_ble_eq_true rfl | omega | (dsimp only;omega) | (simp <;> omega)) rfl) rfl rfl (a0i rfl a0g) rfl rfl (k':=20) rfl ?_
      refine ru 5 ?_
      refine a1q ok hX a3g.one rfl (a0h rfl) [(100,_)] rfl (a0i rfl a0g) (_) (trivial) (by rfl) (by rfl) (a9v rfl rfl (by first | (simp [T.flat];done) | (simp [T.flat];omega))) ?_
      exact ⟨⟨_,rfl,a3T (o:=([]:List Pt)++T.flat ([]:List Pt).length t) (x:=⟨4,(l.getD q' default).low,(l.getD q' default).high,[],[((([]:List Pt).length+t.size:Nat):Int) - 1]⟩) rfl (by first | (simp only [T.flat,List.append_assoc];done) | (simp [T.flat];done) | rfl) (b2O (.imm _) (.imm _) (.imm _) (.imm _) (a2r (l:=[((([]:List Pt).length+t.size:Nat):Int) - 1]) (enc:=fun x _=>intV x) (d:=0) (List.mem_cons_self ..) rfl rfl (Nat.le_refl _) (fun i j hi hj=>by obtain rfl:i=0:=(by simpa using hi);exact b9c (by rw [List.length_append,hfl];rfl))))⟩,trivial⟩
     exfalso;omega
    exfalso;simp at hr1
   exfalso;simp at hr0
  exfalso;simp at hr1
 exfalso;simp at hr0
theorem c7z (l:List Sg) (p q:Nat) (hl:l.length≤1000) (ts:List T) (B:List Int) (m:Nat) (s e:Nat→Nat) (hC:Cuts l B m p q ts s e) (hql:q≤l.length) (hpq:p≤q) (ih:∀ i,i < ts.length→BdC l (s i) (e i) (ts.getD i default)) (hsg:Seg l 2 p q (.many 2 ts)) (hB:B=a2W l p q 2 p [(p:Int)]++[(q:Int)]) (hend:∀ i,i < m→B.getD (i+1) 0=(e i:Int)):BdC l p q (.many 2 ts):=by
 intro c g out ho
 obtain ⟨cb,hcb⟩:∃ cb,cb=c:=⟨_,rfl⟩
 subst hcb
 have hCl:=hC.hlen
 have hCm:=hC.hm
 have hC2:=hC.htwo
 have hCb:=hC.hmb
 refine a0v Tryz.func68 rfl kr _ _ _ _ rfl 126 rfl rfl (fun X ok hX=>?_)
 refine ru 12 ?_
 refine a2a 3 ?_
 refine a1i (fun NhU1 hU1=>?_)
 refine ru 7 ?_
 refine wdc (fun hr0 hc0=>?_) (fun hr0 hc0=>?_)
 ·refine ru 10 ?_
  refine cll ((show HPure Tryz.prog 95 [a4u l,intV p,intV q,intV 3] (a1u [(p:Int),(q:Int)]) from (by rw [←b2c hsg];exact a2v l p q 3 hl hql hpq))) ?_
  refine ru 11 ?_
  refine wdc (fun hr1 hc1=>?_) (fun hr1 hc1=>?_)
  ·refine ru 9 ?_
   refine hU1 _ ?_
   refine a1i (fun NhU2 hU2=>?_)
   refine ru 7 ?_
   refine wdc (fun hr0 hc0=>?_) (fun hr0 hc0=>?_)
   ·refine ru 10 ?_
    refine cll ((show HPure Tryz.prog 95 [a4u l,intV p,intV q,intV 2] (a1u B) from (by rw [hB];exact a2v l p q 2 hl hql hpq))) ?_
    refine ru 11 ?_
    refine wdc (fun hr1 hc1=>?_) (fun hr1 hc1=>?_)
    ·skip
     exfalso;omega
    refine ru 17 ?_
    refine (a1x 11 4 7001 1 3 (a2M []) (a7P 2 (cb+2) 0) rfl rfl (fun j hj=>by match j,hj with | 0,_=>exact .inr rfl | 1,_=>exact .inr rfl | 2,_=>exact .inr rfl | 3,_=>exact .inr rfl | 4,_=>exact .inl ⟨rfl,rfl⟩) (by decide) (by decide) (c':=cb+3) rfl).wp ?_
    refine a0l (α:=Nat×List Pt×List Int×Nat×Nat) (fun x c=>⟨126,[(0,.v (.os 9003 x.2.2.2.1 0 x.2.1.length)),(1,.v (a4u l)),(2,.v (intV p)),(3,.v (intV q)),(9,.v (intV 2)),(10,.v (a1u B)),(11,.v (.pt 11 cb 0 0)),(12,.v (intV x.1))],[(9003,c6x x.2.2.2.1 x.2.1),(11,⟨cb,1,5,105,0,a7P 2 x.2.2.2.2 x.2.2.1.length⟩),(7001,⟨x.2.2.2.2,x.2.2.1.length,1,3,0,a2M x.2.2.1⟩)],c⟩) (fun x=>KidI ts out x.1 x.2.1 x.2.2.1) (fun x=>m - x.1) ((0,out,[],g,cb+2)) (by exact ⟨Nat.zero_le _,by simp [T.flatL],rfl⟩) (a0c rfl (Nat.le_refl _) tsa (hsr rfl (a0f.cons rfl (by exact a9H (.refl _) (.refl _) (.refl _) (.refl _) (.refl _)) hsa))) (fun x c hx NhL3 hL3=>?_)
    revert hx hL3;obtain ⟨i,o,ks,gg,gk⟩:=x;intro hx hL3;dsimp only at hx hL3 ⊢
    obtain ⟨hI1,hI2,hI3⟩:=hx
    have hI:KidI ts out i o ks:=⟨hI1,hI2,hI3⟩;have hkl:=b0q hI
    refine ru 10 ?_
    refine wdc (fun hr2 hc2=>?_) (fun hr2 hc2=>?_)
    ·skip
     have him:i < ts.length:=om;have hin:=hC.hle i om;have hou:=hC.hout i om;have hsz:=hC.hsz i om
     refine ru 11 ?_
     refine rvl (intV (e i:Int)) (by exact a1O om (hend i om)) ?_
     refine ru 17 ?_
     refine wdc (fun hr3 hc3=>?_) (fun hr3 hc3=>?_)
     ·skip
      exfalso;simp at hr3
     refine ru 10 ?_
     refine rvl (intV (s i:Int)) (by exact a1O om (hC.hat i om)) ?_
     refine ru 1 ?_
     refine a0s 58 (xs:=[_,_,_,_]) (pre:=[(9003,_)]) (ih i him _ gg o om) ⟨rfl,⟨rfl,⟨rfl,⟨rfl,trivial⟩⟩⟩⟩ (a0i rfl a0g) rfl rfl (fun g3 c1 hx1=>?_)
     (try dsimp only)
     refine ru 3 ?_
     have hol:(o++T.flat o.length (ts.getD i default)).length=o.length+(ts.getD i default).size:=(by rw [List.length_append,T.flat_len])
     refine ru 6 ?_
     refine a0u 64 (a0b (id:=64) (hs:=[_]) ei_49.h omx rfl omx ⟨rfl,rfl,rfl,rfl,trivial⟩) rfl rfl a0g rfl rfl (c':=c1+1) rfl ?_
     first
     | refine a0u 65 (a0a ei_49.h (by first | exact Nat.le_of_ble_eq_true rfl | omega | (dsimp only;omega) | (simp <;> omega)) rfl (by first | exact Nat.le_of_ble_eq_true rfl | omega | (dsimp only;omega) | (simp <;> omega)) (by first | exact Nat.le_of_ble_eq_true rfl | omega | (dsimp only;omega) | (simp <;> omega)) (a0x rfl (by first | exact Nat.le_of_ble_eq_true rfl | omega | (dsimp only;omega) | (simp <;> omega))) (by first | exact Nat.le_of_ble_eq_true rfl | omega | (dsimp only;omega) | (simp <;> omega)) rfl) rfl rfl (a0i rfl (a0P rfl)) rfl rfl (c':=c1+2) rfl ?_
     | refine a0u 65 (a0a ei_49.h (by first | exact Nat.le_of_ble_eq_true rfl | omega | (dsimp only;omega) | (simp <;> omega)) rfl (by first | exact Nat.le_of_ble_eq_true rfl | omega | (dsimp only;omega) | (simp <;> omega)) (by first | exact Nat.le_of_ble_eq_true rfl | omega | (dsimp only;omega) | (simp <;> omega)) (a0S rfl (by first | exact Nat.le_of_ble_eq_true rfl | omega | (dsimp only;omega) | (simp <;> omega))) (by first | exact Nat.le_of_ble_eq_true rfl | omega | (dsimp only;omega) | (simp <;> omega)) rfl) rfl rfl (a0i rfl (a0P rfl)) rfl rfl (c':=c1+2) rfl ?_
     | refine a0u 65 (a0a ei_49.h (by first | exact Nat.le_of_ble_eq_true rfl | omega | (dsimp only;omega) | (simp <;> omega)) rfl (by first | exact Nat.le_of_ble_eq_true rfl | omega | (dsimp only;omega) | (simp <;> omega)) (by first | exact Nat.le_of_ble_eq_true rfl | omega | (dsimp only;omega) | (simp <;> omega)) (a0O rfl) (by first | exact Nat.le_of_ble_eq_true rfl | omega | (dsimp only;omega) | (simp <;> omega)) rfl) rfl rfl (a0i rfl a0g) rfl rfl (c':=c1+2) rfl ?_
     | refine a0u 65 (a0a ei_49.h (by first | exact Nat.le_of_ble_eq_true rfl | omega | (dsimp only;omega) | (simp <;> omega)) rfl (by first | exact Nat.le_of_ble_eq_true rfl | omega | (dsimp only;omega) | (simp <;> omega)) (by first | exact Nat.le_of_ble_eq_true rfl | omega | (dsimp only;omega) | (simp <;> omega)) (a0z 1 (fun _ _=>default) rfl) (by first | exact Nat.le_of_ble_eq_true rfl | omega | (dsimp only;omega) | (simp <;> omega)) rfl) rfl rfl (a0i rfl a0g) rfl rfl (c':=c1+2) rfl ?_
     refine ru 10 ?_
     exact hL3 ((i+1,o++T.flat o.length (ts.getD i default),ks++[T.root o.length (ts.getD i default)],g3,c1+1)) _ _ (by (try dsimp only);exact a5D hI him) (by (try dsimp only);omega) (a0c rfl (Nat.le_refl _) tsa (hsr rfl (a0f.cons rfl (by exact a9H (.refl _) (.refl _) (.refl _) (.refl _) (a3k (by simp))) (a0f.cons rfl (a0G (enc:=fun x _=>intV x) (d:=0) rfl (fun i j _ _=>.refl _) (fun j hj=>by exact a0H (by rw [List.length_append,T.flat_len];rfl))) a0f.nil))))
    have hit:i=ts.length:=om;have hal:=hC.hall;have hol2:o.length=out.length+T.sizeL ts:=(by rw [hkl.1,hit,List.take_length])
    refine ru 2 ?_
    refine a0d ?_
    refine ru 6 ?_
    refine (a1a 68 [(7001,_)] rfl (a0i rfl a0g) rfl ((show Fz [(7001,⟨gk,ks.length,1,3,0,a2M ks⟩)] (.agg 5 (a7P 2 gk ks.length 0)) (ptH ⟨2,0,0,[],ks⟩) from a0Y (.imm _) (.imm _) (.imm _) (.imm _) (b1l rfl)))).seq ?_
    refine a0u 69 (a0b (id:=69) (hs:=[_]) ei_56.h omx rfl omx ⟨rfl,rfl,rfl,rfl,trivial⟩) rfl rfl a0g rfl rfl (c':=c+1) rfl ?_
    first
    | refine a0u 70 (a0a ei_56.h (by first | exact Nat.le_of_ble_eq_true rfl | omega | (dsimp only;omega) | (simp <;> omega)) rfl (by first | exact Nat.le_of_ble_eq_true rfl | omega | (dsimp only;omega) | (simp <;> omega)) (by first | exact Nat.le_of_ble_eq_true rfl | omega | (dsimp only;omega) | (simp <;> omega)) (a0x rfl (by first | exact Nat.le_of_ble_eq_true rfl | omega | (dsimp only;omega) | (simp <;> omega))) (by first | exact Nat.le_of_ble_eq_true rfl | omega | (dsimp only;omega) | (simp <;> omega)) rfl) rfl rfl (a0i rfl (a0P rfl)) rfl rfl (c':=c+2) rfl ?_
    | refine a0u 70 (a0a ei_56.h (by first | exact Nat.le_of_ble_eq_true rfl | omega | (dsimp only;omega) | (simp <;> omega)) rfl (by first | exact Nat.le_of_ble_eq_true rfl | omega | (dsimp only;omega) | (simp <;> omega)) (by first | exact Nat.le_of_ble_eq_true rfl | omega | (dsimp only;omega) | (simp <;> omega)) (a0S rfl (by first | exact Nat.le_of_ble_eq_true rfl | omega | (dsimp only;omega) | (simp <;> omega))) (by first | exact Nat.le_of_ble_eq_true rfl | omega | (dsimp only;omega) | (simp <;> omega)) rfl) rfl rfl (a0i rfl (a0P rfl)) rfl rfl (c':=c+2) rfl ?_
    | refine a0u 70 (a0a ei_56.h (by first | exact Nat.le_of_ble_eq_true rfl | omega | (dsimp only;omega) | (simp <;> omega)) rfl (by first | exact Nat.le_of_ble_eq_true rfl | omega | (dsimp only;omega) | (simp <;> omega)) (by first | exact Nat.le_of_ble_eq_true rfl | omega | (dsimp only;omega) | (simp <;> omega)) (a0O rfl) (by first | exact Nat.le_of_ble_eq_true rfl | omega | (dsimp only;omega) | (simp <;> omega)) rfl) rfl rfl (a0i rfl a0g) rfl rfl (c':=c+2) rfl ?_
    | refine a0u 70 (a0a ei_56.h (by first | exact Nat.le_of_ble_eq_true rfl | omega | (dsimp only;omega) | (simp <;> omega)) rfl (by first | exact Nat.le_of_ble_eq_true rfl | omega | (dsimp only;omega) | (simp <;> omega)) (by first | exact Nat.le_of_ble_eq_true rfl | omega | (dsimp only;omega) | (simp <;> omega)) (a0z 5 (fun _ _=>default) rfl) (by first | exact Nat.le_of_ble_eq_true rfl | omega | (dsimp only;omega) | (simp <;> omega)) rfl) rfl rfl (a0i rfl a0g) rfl rfl (c':=c+2) rfl ?_
    refine ru 6 ?_
    refine a0o ?_
    refine ru 2 ?_
    refine fr1 ok hX rw1 (_) (trivial) (a9v rfl rfl (by have e:=congrArg List.length (a3P (k:=2) hI hit);rw [List.length_append] at e;exact e)) ?_
    exact ⟨⟨_,rfl,a3T (o:=o) (x:=⟨2,0,0,[],ks⟩) rfl (a3P hI hit) (b2O (.imm _) (.imm _) (.imm _) (.imm _) (.sl _ _ _ _ fun i j _ _=>.imm _))⟩,trivial⟩
   exfalso;simp at hr0
  exfalso;simp at hr1
 exfalso;simp at hr0
theorem c6a (l:List Sg) (p q:Nat) (hl:l.length≤1000) (ts:List T) (B:List Int) (m:Nat) (s e:Nat→Nat) (hC:Cuts l B m p q ts s e) (hql:q≤l.length) (hpq:p≤q) (ih:∀ i,i < ts.length→BdC l (s i) (e i) (ts.getD i default)) (hsg:Seg l 2 p q (.many 2 ts)) (hB:B=a2W l p q 2 p [(p:Int)]++[(q:Int)]) (hend:∀ i,i < m→B.getD (i+1) 0=(e i:Int)):BdN l p q (.many 2 ts):=by
 intro c
 obtain ⟨cb,hcb⟩:∃ cb,cb=c+1:=⟨_,rfl⟩
 have ho:([]:List Pt).length≤2 * p:=Nat.zero_le _
 have hCl:=hC.hlen
 have hCm:=hC.hm
 have hC2:=hC.htwo
 have hCb:=hC.hmb
 refine a0v Tryz.func68 rfl kr _ _ _ _ rfl 126 rfl rfl (fun X ok hX=>?_)
 refine ru 1 ?_
 refine a4O 0 9003 5 105 (b6U []) rfl (by decide) rfl (c':=cb) hcb.symm ?_
 refine ru 11 ?_
 refine a2a 3 ?_
 refine a1i (fun NhU1 hU1=>?_)
 refine ru 7 ?_
 refine wdc (fun hr0 hc0=>?_) (fun hr0 hc0=>?_)
 ·refine ru 10 ?_
  refine cll ((show HPure Tryz.prog 95 [a4u l,intV p,intV q,intV 3] (a1u [(p:Int),(q:Int)]) from (by rw [←b2c hsg];exact a2v l p q 3 hl hql hpq))) ?_
  refine ru 11 ?_
  refine wdc (fun hr1 hc1=>?_) (fun hr1 hc1=>?_)
  ·refine ru 9 ?_
   refine hU1 _ ?_
   refine a1i (fun NhU2 hU2=>?_)
   refine ru 7 ?_
   refine wdc (fun hr0 hc0=>?_) (fun hr0 hc0=>?_)
   ·refine ru 10 ?_
    refine cll ((show HPure Tryz.prog 95 [a4u l,intV p,intV q,intV 2] (a1u B) from (by rw [hB];exact a2v l p q 2 hl hql hpq))) ?_
    refine ru 11 ?_
    refine wdc (fun hr1 hc1=>?_) (fun hr1 hc1=>?_)
    ·skip
     exfalso;omega
    refine ru 17 ?_
    refine (a1x 11 4 7001 1 3 (a2M []) (a7P 2 (cb+2) 0) rfl rfl (fun j hj=>by match j,hj with | 0,_=>exact .inr rfl | 1,_=>exact .inr rfl | 2,_=>exact .inr rfl | 3,_=>exact .inr rfl | 4,_=>exact .inl ⟨rfl,rfl⟩) (by decide) (by decide) (c':=cb+3) rfl).wp ?_
    refine a0l (α:=Nat×List Pt×List Int×Nat×Nat) (fun x c=>⟨126,[(0,.v (.os 9003 x.2.2.2.1 0 x.2.1.length)),(1,.v (a4u l)),(2,.v (intV p)),(3,.v (intV q)),(9,.v (intV 2)),(10,.v (a1u B)),(11,.v (.pt 11 cb 0 0)),(12,.v (intV x.1))],[(9003,c6x x.2.2.2.1 x.2.1),(11,⟨cb,1,5,105,0,a7P 2 x.2.2.2.2 x.2.2.1.length⟩),(7001,⟨x.2.2.2.2,x.2.2.1.length,1,3,0,a2M x.2.2.1⟩)],c⟩) (fun x=>KidI ts ([]:List Pt) x.1 x.2.1 x.2.2.1) (fun x=>m - x.1) ((0,([]:List Pt),[],c,cb+2)) (by exact ⟨Nat.zero_le _,by simp [T.flatL],rfl⟩) (a0c rfl (Nat.le_refl _) tsa (hsr rfl (a0f.cons rfl (by exact a9H (.refl _) (.refl _) (.refl _) (.refl _) (.refl _)) hsa))) (fun x c hx NhL3 hL3=>?_)
    revert hx hL3;obtain ⟨i,o,ks,gg,gk⟩:=x;intro hx hL3;dsimp only at hx hL3 ⊢
    obtain ⟨hI1,hI2,hI3⟩:=hx
    have hI:KidI ts ([]:List Pt) i o ks:=⟨hI1,hI2,hI3⟩;have hkl:=b0q hI
    refine ru 10 ?_
    refine wdc (fun hr2 hc2=>?_) (fun hr2 hc2=>?_)
    ·skip
     have him:i < ts.length:=om;have hin:=hC.hle i om;have hou:=hC.hout i om;have hsz:=hC.hsz i om
     refine ru 11 ?_
     refine rvl (intV (e i:Int)) (by exact a1O om (hend i om)) ?_
     refine ru 17 ?_
     refine wdc (fun hr3 hc3=>?_) (fun hr3 hc3=>?_)
     ·skip
      exfalso;simp at hr3
     refine ru 10 ?_
     refine rvl (intV (s i:Int)) (by exact a1O om (hC.hat i om)) ?_
     refine ru 1 ?_
     refine a0s 58 (xs:=[_,_,_,_]) (pre:=[(9003,_)]) (ih i him _ gg o om) ⟨rfl,⟨rfl,⟨rfl,⟨rfl,trivial⟩⟩⟩⟩ (a0i rfl a0g) rfl rfl (fun g3 c1 hx1=>?_)
     (try dsimp only)
     refine ru 3 ?_
     have hol:(o++T.flat o.length (ts.getD i default)).length=o.length+(ts.getD i default).size:=(by rw [List.length_append,T.flat_len])
     refine ru 6 ?_
     refine a0u 64 (a0b (id:=64) (hs:=[_]) ei_49.h omx rfl omx ⟨rfl,rfl,rfl,rfl,trivial⟩) rfl rfl a0g rfl rfl (c':=c1+1) rfl ?_
     first
     | refine a0u 65 (a0a ei_49.h (by first | exact Nat.le_of_ble_eq_true rfl | omega | (dsimp only;omega) | (simp <;> omega)) rfl (by first | exact Nat.le_of_ble_eq_true rfl | omega | (dsimp only;omega) | (simp <;> omega)) (by first | exact Nat.le_of_ble_eq_true rfl | omega | (dsimp only;omega) | (simp <;> omega)) (a0x rfl (by first | exact Nat.le_of_ble_eq_true rfl | omega | (dsimp only;omega) | (simp <;> omega))) (by first | exact Nat.le_of_ble_eq_true rfl | omega | (dsimp only;omega) | (simp <;> omega)) rfl) rfl rfl (a0i rfl (a0P rfl)) rfl rfl (c':=c1+2) rfl ?_
     | refine a0u 65 (a0a ei_49.h (by first | exact Nat.le_of_ble_eq_true rfl | omega | (dsimp only;omega) | (simp <;> omega)) rfl (by first | exact Nat.le_of_ble_eq_true rfl | omega | (dsimp only;omega) | (simp <;> omega)) (by first | exact Nat.le_of_ble_eq_true rfl | omega | (dsimp only;omega) | (simp <;> omega)) (a0S rfl (by first | exact Nat.le_of_ble_eq_true rfl | omega | (dsimp only;omega) | (simp <;> omega))) (by first | exact Nat.le_of_ble_eq_true rfl | omega | (dsimp only;omega) | (simp <;> omega)) rfl) rfl rfl (a0i rfl (a0P rfl)) rfl rfl (c':=c1+2) rfl ?_
     | refine a0u 65 (a0a ei_49.h (by first | exact Nat.le_of_ble_eq_true rfl | omega | (dsimp only;omega) | (simp <;> omega)) rfl (by first | exact Nat.le_of_ble_eq_true rfl | omega | (dsimp only;omega) | (simp <;> omega)) (by first | exact Nat.le_of_ble_eq_true rfl | omega | (dsimp only;omega) | (simp <;> omega)) (a0O rfl) (by first | exact Nat.le_of_ble_eq_true rfl | omega | (dsimp only;omega) | (simp <;> omega)) rfl) rfl rfl (a0i rfl a0g) rfl rfl (c':=c1+2) rfl ?_
     | refine a0u 65 (a0a ei_49.h (by first | exact Nat.le_of_ble_eq_true rfl | omega | (dsimp only;omega) | (simp <;> omega)) rfl (by first | exact Nat.le_of_ble_eq_true rfl | omega | (dsimp only;omega) | (simp <;> omega)) (by first | exact Nat.le_of_ble_eq_true rfl | omega | (dsimp only;omega) | (simp <;> omega)) (a0z 1 (fun _ _=>default) rfl) (by first | exact Nat.le_of_ble_eq_true rfl | omega | (dsimp only;omega) | (simp <;> omega)) rfl) rfl rfl (a0i rfl a0g) rfl rfl (c':=c1+2) rfl ?_
     refine ru 10 ?_
     exact hL3 ((i+1,o++T.flat o.length (ts.getD i default),ks++[T.root o.length (ts.getD i default)],g3,c1+1)) _ _ (by (try dsimp only);exact a5D hI him) (by (try dsimp only);omega) (a0c rfl (Nat.le_refl _) tsa (hsr rfl (a0f.cons rfl (by exact a9H (.refl _) (.refl _) (.refl _) (.refl _) (a3k (by simp))) (a0f.cons rfl (a0G (enc:=fun x _=>intV x) (d:=0) rfl (fun i j _ _=>.refl _) (fun j hj=>by exact a0H (by rw [List.length_append,T.flat_len];rfl))) a0f.nil))))
    have hit:i=ts.length:=om;have hal:=hC.hall;have hol2:o.length=([]:List Pt).length+T.sizeL ts:=(by rw [hkl.1,hit,List.take_length])
    refine ru 2 ?_
    refine a0d ?_
    refine ru 6 ?_
    refine (a1a 68 [(7001,_)] rfl (a0i rfl a0g) rfl ((show Fz [(7001,⟨gk,ks.length,1,3,0,a2M ks⟩)] (.agg 5 (a7P 2 gk ks.length 0)) (ptH ⟨2,0,0,[],ks⟩) from a0Y (.imm _) (.imm _) (.imm _) (.imm _) (b1l rfl)))).seq ?_
    refine a0u 69 (a0b (id:=69) (hs:=[_]) ei_56.h omx rfl omx ⟨rfl,rfl,rfl,rfl,trivial⟩) rfl rfl a0g rfl rfl (c':=c+1) rfl ?_
    first
    | refine a0u 70 (a0a ei_56.h (by first | exact Nat.le_of_ble_eq_true rfl | omega | (dsimp only;omega) | (simp <;> omega)) rfl (by first | exact Nat.le_of_ble_eq_true rfl | omega | (dsimp only;omega) | (simp <;> omega)) (by first | exact Nat.le_of_ble_eq_true rfl | omega | (dsimp only;omega) | (simp <;> omega)) (a0x rfl (by first | exact Nat.le_of_ble_eq_true rfl | omega | (dsimp only;omega) | (simp <;> omega))) (by first | exact Nat.le_of_ble_eq_true rfl | omega | (dsimp only;omega) | (simp <;> omega)) rfl) rfl rfl (a0i rfl (a0P rfl)) rfl rfl (c':=c+2) rfl ?_
    | refine a0u 70 (a0a ei_56.h (by first | exact Nat.le_of_ble_eq_true rfl | omega | (dsimp only;omega) | (simp <;> omega)) rfl (by first | exact Nat.le_of_ble_eq_true rfl | omega | (dsimp only;omega) | (simp <;> omega)) (by first | exact Nat.le_of_ble_eq_true rfl | omega | (dsimp only;omega) | (simp <;> omega)) (a0S rfl (by first | exact Nat.le_of_ble_eq_true rfl | omega | (dsimp only;omega) | (simp <;> omega))) (by first | exact Nat.le_of_ble_eq_true rfl | omega | (dsimp only;omega) | (simp <;> omega)) rfl) rfl rfl (a0i rfl (a0P rfl)) rfl rfl (c':=c+2) rfl ?_
    | refine a0u 70 (a0a ei_56.h (by first | exact Nat.le_of_ble_eq_true rfl | omega | (dsimp only;omega) | (simp <;> omega)) rfl (by first | exact Nat.le_of_ble_eq_true rfl | omega | (dsimp only;omega) | (simp <;> omega)) (by first | exact Nat.le_of_ble_eq_true rfl | omega | (dsimp only;omega) | (simp <;> omega)) (a0O rfl) (by first | exact Nat.le_of_ble_eq_true rfl | omega | (dsimp only;omega) | (simp <;> omega)) rfl) rfl rfl (a0i rfl a0g) rfl rfl (c':=c+2) rfl ?_
    | refine a0u 70 (a0a ei_56.h (by first | exact Nat.le_of_ble_eq_true rfl | omega | (dsimp only;omega) | (simp <;> omega)) rfl (by first | exact Nat.le_of_ble_eq_true rfl | omega | (dsimp only;omega) | (simp <;> omega)) (by first | exact Nat.le_of_ble_eq_true rfl | omega | (dsimp only;omega) | (simp <;> omega)) (a0z 5 (fun _ _=>default) rfl) (by first | exact Nat.le_of_ble_eq_true rfl | omega | (dsimp only;omega) | (simp <;> omega)) rfl) rfl rfl (a0i rfl a0g) rfl rfl (c':=c+2) rfl ?_
    refine ru 6 ?_
    refine a0o ?_
    refine ru 2 ?_
    refine fr1 ok hX rw1 (_) (trivial) (a9v rfl rfl (by have e:=congrArg List.length (a3P (k:=2) hI hit);rw [List.length_append] at e;exact e)) ?_
    exact ⟨⟨_,rfl,a3T (o:=o) (x:=⟨2,0,0,[],ks⟩) rfl (a3P hI hit) (b2O (.imm _) (.imm _) (.imm _) (.imm _) (.sl _ _ _ _ fun i j _ _=>.imm _))⟩,trivial⟩
   exfalso;simp at hr0
  exfalso;simp at hr1
 exfalso;simp at hr0
theorem b8F (l:List Sg) (p q:Nat) (hl:l.length≤1000) (ts:List T) (B:List Int) (m:Nat) (s e:Nat→Nat) (hC:Cuts l B m p q ts s e) (hql:q≤l.length) (hpq:p≤q) (ih:∀ i,i < ts.length→BdC l (s i) (e i) (ts.getD i default)) (hB:B=a2W l p q 3 p [(p:Int)]++[(q:Int)]) (hend:∀ i,i+1 < m→B.getD (i+1) 0=(e i:Int)+1) (hlast:∀ i,i+1=m→B.getD (i+1) 0=(e i:Int)):BdC l p q (.many 3 ts):=by
 intro c g out ho
 obtain ⟨cb,hcb⟩:∃ cb,cb=c:=⟨_,rfl⟩
 subst hcb
 have hCl:=hC.hlen
 have hCm:=hC.hm
 have hC2:=hC.htwo
 have hCb:=hC.hmb
 refine a0v Tryz.func68 rfl kr _ _ _ _ rfl 126 rfl rfl (fun X ok hX=>?_)
 refine ru 12 ?_
 refine a2a 3 ?_
 refine a1i (fun NhU1 hU1=>?_)
 refine ru 7 ?_
 refine wdc (fun hr0 hc0=>?_) (fun hr0 hc0=>?_)
 ·refine ru 10 ?_
  refine cll ((show HPure Tryz.prog 95 [a4u l,intV p,intV q,intV 3] (a1u B) from (by rw [hB];exact a2v l p q 3 hl hql hpq))) ?_
  refine ru 11 ?_
  refine wdc (fun hr1 hc1=>?_) (fun hr1 hc1=>?_)
  ·skip
   exfalso;omega
  refine ru 17 ?_
  refine (a1x 11 4 7001 1 3 (a2M []) (a7P 3 (cb+2) 0) rfl rfl (fun j hj=>by match j,hj with | 0,_=>exact .inr rfl | 1,_=>exact .inr rfl | 2,_=>exact .inr rfl | 3,_=>exact .inr rfl | 4,_=>exact .inl ⟨rfl,rfl⟩) (by decide) (by decide) (c':=cb+3) rfl).wp ?_
  refine a0l (α:=Nat×List Pt×List Int×Nat×Nat) (fun x c=>⟨126,[(0,.v (.os 9003 x.2.2.2.1 0 x.2.1.length)),(1,.v (a4u l)),(2,.v (intV p)),(3,.v (intV q)),(9,.v (intV 3)),(10,.v (a1u B)),(11,.v (.pt 11 cb 0 0)),(12,.v (intV x.1))],[(9003,c6x x.2.2.2.1 x.2.1),(11,⟨cb,1,5,105,0,a7P 3 x.2.2.2.2 x.2.2.1.length⟩),(7001,⟨x.2.2.2.2,x.2.2.1.length,1,3,0,a2M x.2.2.1⟩)],c⟩) (fun x=>KidI ts out x.1 x.2.1 x.2.2.1) (fun x=>m - x.1) ((0,out,[],g,cb+2)) (by exact ⟨Nat.zero_le _,by simp [T.flatL],rfl⟩) (a0c rfl (Nat.le_refl _) tsa (hsr rfl (a0f.cons rfl (by exact a9H (.refl _) (.refl _) (.refl _) (.refl _) (.refl _)) hsa))) (fun x c hx NhL2 hL2=>?_)
  revert hx hL2;obtain ⟨i,o,ks,gg,gk⟩:=x;intro hx hL2;dsimp only at hx hL2 ⊢
  obtain ⟨hI1,hI2,hI3⟩:=hx
  have hI:KidI ts out i o ks:=⟨hI1,hI2,hI3⟩;have hkl:=b0q hI
  refine ru 10 ?_
  refine wdc (fun hr2 hc2=>?_) (fun hr2 hc2=>?_)
  ·skip
   have him:i < ts.length:=om;have hin:=hC.hle i om;have hou:=hC.hout i om;have hsz:=hC.hsz i om
   refine ru 11 ?_
   refine rvl (intV (B.getD (i+1) 0)) (by exact a1O om rfl) ?_
   refine ru 17 ?_
   refine wdc (fun hr3 hc3=>?_) (fun hr3 hc3=>?_)
   ·skip
    have hi2:i+1 < m:=(by have h:=hr3;simp at h;omega);have hbe:=hend i hi2
    refine ru 3 ?_
    refine rvl (intV (e i:Int)) (congrArg intV (show B.getD (i+1) 0 - 1=(e i:Int) by omega)) ?_
    refine ru 11 ?_
    refine rvl (intV (s i:Int)) (by exact a1O om (hC.hat i om)) ?_
    refine ru 1 ?_
    refine a0s 58 (xs:=[_,_,_,_]) (pre:=[(9003,_)]) (ih i him _ gg o om) ⟨rfl,⟨rfl,⟨rfl,⟨rfl,trivial⟩⟩⟩⟩ (a0i rfl a0g) rfl rfl (fun g3 c1 hx1=>?_)
    (try dsimp only)
    refine ru 3 ?_
    have hol:(o++T.flat o.length (ts.getD i default)).length=o.length+(ts.getD i default).size:=(by rw [List.length_append,T.flat_len])
    refine ru 6 ?_
    refine a0u 64 (a0b (id:=64) (hs:=[_]) ei_49.h omx rfl omx ⟨rfl,rfl,rfl,rfl,trivial⟩) rfl rfl a0g rfl rfl (c':=c1+1) rfl ?_
    first
    | refine a0u 65 (a0a ei_49.h (by first | exact Nat.le_of_ble_eq_true rfl | omega | (dsimp only;omega) | (simp <;> omega)) rfl (by first | exact Nat.le_of_ble_eq_true rfl | omega | (dsimp only;omega) | (simp <;> omega)) (by first | exact Nat.le_of_ble_eq_true rfl | omega | (dsimp only;omega) | (simp <;> omega)) (a0x rfl (by first | exact Nat.le_of_ble_eq_true rfl | omega | (dsimp only;omega) | (simp <;> omega))) (by first | exact Nat.le_of_ble_eq_true rfl | omega | (dsimp only;omega) | (simp <;> omega)) rfl) rfl rfl (a0i rfl (a0P rfl)) rfl rfl (c':=c1+2) rfl ?_
    | refine a0u 65 (a0a ei_49.h (by first | exact Nat.le_of_ble_eq_true rfl | omega | (dsimp only;omega) | (simp <;> omega)) rfl (by first | exact Nat.le_of_ble_eq_true rfl | omega | (dsimp only;omega) | (simp <;> omega)) (by first | exact Nat.le_of_ble_eq_true rfl | omega | (dsimp only;omega) | (simp <;> omega)) (a0S rfl (by first | exact Nat.le_of_ble_eq_true rfl | omega | (dsimp only;omega) | (simp <;> omega))) (by first | exact Nat.le_of_ble_eq_true rfl | omega | (dsimp only;omega) | (simp <;> omega)) rfl) rfl rfl (a0i rfl (a0P rfl)) rfl rfl (c':=c1+2) rfl ?_
    | refine a0u 65 (a0a ei_49.h (by first | exact Nat.le_of_ble_eq_true rfl | omega | (dsimp only;omega) | (simp <;> omega)) rfl (by first | exact Nat.le_of_ble_eq_true rfl | omega | (dsimp only;omega) | (simp <;> omega)) (by first | exact Nat.le_of_ble_eq_true rfl | omega | (dsimp only;omega) | (simp <;> omega)) (a0O rfl) (by first | exact Nat.le_of_ble_eq_true rfl | omega | (dsimp only;omega) | (simp <;> omega)) rfl) rfl rfl (a0i rfl a0g) rfl rfl (c':=c1+2) rfl ?_
    | refine a0u 65 (a0a ei_49.h (by first | exact Nat.le_of_ble_eq_true rfl | omega | (dsimp only;omega) | (simp <;> omega)) rfl (by first | exact Nat.le_of_ble_eq_true rfl | omega | (dsimp only;omega) | (simp <;> omega)) (by first | exact Nat.le_of_ble_eq_true rfl | omega | (dsimp only;omega) | (simp <;> omega)) (a0z 1 (fun _ _=>default) rfl) (by first | exact Nat.le_of_ble_eq_true rfl | omega | (dsimp only;omega) | (simp <;> omega)) rfl) rfl rfl (a0i rfl a0g) rfl rfl (c':=c1+2) rfl ?_
    refine ru 10 ?_
    exact hL2 ((i+1,o++T.flat o.length (ts.getD i default),ks++[T.root o.length (ts.getD i default)],g3,c1+1)) _ _ (by (try dsimp only);exact a5D hI him) (by (try dsimp only);omega) (a0c rfl (Nat.le_refl _) tsa (hsr rfl (a0f.cons rfl (by exact a9H (.refl _) (.refl _) (.refl _) (.refl _) (a3k (by simp))) (a0f.cons rfl (a0G (enc:=fun x _=>intV x) (d:=0) rfl (fun i j _ _=>.refl _) (fun j hj=>by exact a0H (by rw [List.length_append,T.flat_len];rfl))) a0f.nil))))
   have hi2:i+1=m:=(by have h:=hr3;simp at h;omega)
   refine ru 10 ?_
   refine rvl (intV (s i:Int)) (by exact a1O om (hC.hat i om)) ?_
   refine ru 1 ?_
   refine rvl (intV (e i:Int)) (congrArg intV (hlast i hi2)) ?_
   refine a0s 58 (xs:=[_,_,_,_]) (pre:=[(9003,_)]) (ih i him _ gg o om) ⟨rfl,⟨rfl,⟨rfl,⟨rfl,trivial⟩⟩⟩⟩ (a0i rfl a0g) rfl rfl (fun g3 c2 hx2=>?_)
   (try dsimp only)
   refine ru 3 ?_
   have hol:(o++T.flat o.length (ts.getD i default)).length=o.length+(ts.getD i default).size:=(by rw [List.length_append,T.flat_len])
   refine ru 6 ?_
   refine a0u 64 (a0b (id:=64) (hs:=[_]) ei_49.h omx rfl omx ⟨rfl,rfl,rfl,rfl,trivial⟩) rfl rfl a0g rfl rfl (c':=c2+1) rfl ?_
   first
   | refine a0u 65 (a0a ei_49.h (by first | exact Nat.le_of_ble_eq_true rfl | omega | (dsimp only;omega) | (simp <;> omega)) rfl (by first | exact Nat.le_of_ble_eq_true rfl | omega | (dsimp only;omega) | (simp <;> omega)) (by first | exact Nat.le_of_ble_eq_true rfl | omega | (dsimp only;omega) | (simp <;> omega)) (a0x rfl (by first | exact Nat.le_of_ble_eq_true rfl | omega | (dsimp only;omega) | (simp <;> omega))) (by first | exact Nat.le_of_ble_eq_true rfl | omega | (dsimp only;omega) | (simp <;> omega)) rfl) rfl rfl (a0i rfl (a0P rfl)) rfl rfl (c':=c2+2) rfl ?_
   | refine a0u 65 (a0a ei_49.h (by first | exact Nat.le_of_ble_eq_true rfl | omega | (dsimp only;omega) | (simp <;> omega)) rfl (by first | exact Nat.le_of_ble_eq_true rfl | omega | (dsimp only;omega) | (simp <;> omega)) (by first | exact Nat.le_of_ble_eq_true rfl | omega | (dsimp only;omega) | (simp <;> omega)) (a0S rfl (by first | exact Nat.le_of_ble_eq_true rfl | omega | (dsimp only;omega) | (simp <;> omega))) (by first | exact Nat.le_of_ble_eq_true rfl | omega | (dsimp only;omega) | (simp <;> omega)) rfl) rfl rfl (a0i rfl (a0P rfl)) rfl rfl (c':=c2+2) rfl ?_
   | refine a0u 65 (a0a ei_49.h (by first | exact Nat.le_of_ble_eq_true rfl | omega | (dsimp only;omega) | (simp <;> omega)) rfl (by first | exact Nat.le_of_ble_eq_true rfl | omega | (dsimp only;omega) | (simp <;> omega)) (by first | exact Nat.le_of_ble_eq_true rfl | omega | (dsimp only;omega) | (simp <;> omega)) (a0O rfl) (by first | exact Nat.le_of_ble_eq_true rfl | omega | (dsimp only;omega) | (simp <;> omega)) rfl) rfl rfl (a0i rfl a0g) rfl rfl (c':=c2+2) rfl ?_
   | refine a0u 65 (a0a ei_49.h (by first | exact Nat.le_of_ble_eq_true rfl | omega | (dsimp only;omega) | (simp <;> omega)) rfl (by first | exact Nat.le_of_ble_eq_true rfl | omega | (dsimp only;omega) | (simp <;> omega)) (by first | exact Nat.le_of_ble_eq_true rfl | omega | (dsimp only;omega) | (simp <;> omega)) (a0z 1 (fun _ _=>default) rfl) (by first | exact Nat.le_of_ble_eq_true rfl | omega | (dsimp only;omega) | (simp <;> omega)) rfl) rfl rfl (a0i rfl a0g) rfl rfl (c':=c2+2) rfl ?_
   refine ru 10 ?_
   exact hL2 ((i+1,o++T.flat o.length (ts.getD i default),ks++[T.root o.length (ts.getD i default)],g3,c2+1)) _ _ (by (try dsimp only);exact a5D hI him) (by (try dsimp only);omega) (a0c rfl (Nat.le_refl _) tsa (hsr rfl (a0f.cons rfl (by exact a9H (.refl _) (.refl _) (.refl _) (.refl _) (a3k (by simp))) (a0f.cons rfl (a0G (enc:=fun x _=>intV x) (d:=0) rfl (fun i j _ _=>.refl _) (fun j hj=>by exact a0H (by rw [List.length_append,T.flat_len];rfl))) a0f.nil))))
  have hit:i=ts.length:=om;have hal:=hC.hall;have hol2:o.length=out.length+T.sizeL ts:=(by rw [hkl.1,hit,List.take_length])
  refine ru 2 ?_
  refine a0d ?_
  refine ru 6 ?_
  refine (a1a 68 [(7001,_)] rfl (a0i rfl a0g) rfl ((show Fz [(7001,⟨gk,ks.length,1,3,0,a2M ks⟩)] (.agg 5 (a7P 3 gk ks.length 0)) (ptH ⟨3,0,0,[],ks⟩) from a0Y (.imm _) (.imm _) (.imm _) (.imm _) (b1l rfl)))).seq ?_
  refine a0u 69 (a0b (id:=69) (hs:=[_]) ei_56.h omx rfl omx ⟨rfl,rfl,rfl,rfl,trivial⟩) rfl rfl a0g rfl rfl (c':=c+1) rfl ?_
  first
  | refine a0u 70 (a0a ei_56.h (by first | exact Nat.le_of_ble_eq_true rfl | omega | (dsimp only;omega) | (simp <;> omega)) rfl (by first | exact Nat.le_of_ble_eq_true rfl | omega | (dsimp only;omega) | (simp <;> omega)) (by first | exact Nat.le_of_ble_eq_true rfl | omega | (dsimp only;omega) | (simp <;> omega)) (a0x rfl (by first | exact Nat.le_of_ble_eq_true rfl | omega | (dsimp only;omega) | (simp <;> omega))) (by first | exact Nat.le_of_ble_eq_true rfl | omega | (dsimp only;omega) | (simp <;> omega)) rfl) rfl rfl (a0i rfl (a0P rfl)) rfl rfl (c':=c+2) rfl ?_
  | refine a0u 70 (a0a ei_56.h (by first | exact Nat.le_of_ble_eq_true rfl | omega | (dsimp only;omega) | (simp <;> omega)) rfl (by first | exact Nat.le_of_ble_eq_true rfl | omega | (dsimp only;omega) | (simp <;> omega)) (by first | exact Nat.le_of_ble_eq_true rfl | omega | (dsimp only;omega) | (simp <;> omega)) (a0S rfl (by first | exact Nat.le_of_ble_eq_true rfl | omega | (dsimp only;omega) | (simp <;> omega))) (by first | exact Nat.le_of_ble_eq_true rfl | omega | (dsimp only;omega) | (simp <;> omega)) rfl) rfl rfl (a0i rfl (a0P rfl)) rfl rfl (c':=c+2) rfl ?_
  | refine a0u 70 (a0a ei_56.h (by first | exact Nat.le_of_ble_eq_true rfl | omega | (dsimp only;omega) | (simp <;> omega)) rfl (by first | exact Nat.le_of_ble_eq_true rfl | omega | (dsimp only;omega) | (simp <;> omega)) (by first | exact Nat.le_of_ble_eq_true rfl | omega | (dsimp only;omega) | (simp <;> omega)) (a0O rfl) (by first | exact Nat.le_of_ble_eq_true rfl | omega | (dsimp only;omega) | (simp <;> omega)) rfl) rfl rfl (a0i rfl a0g) rfl rfl (c':=c+2) rfl ?_
  | refine a0u 70 (a0a ei_56.h (by first | exact Nat.le_of_ble_eq_true rfl | omega | (dsimp only;omega) | (simp <;> omega)) rfl (by first | exact Nat.le_of_ble_eq_true rfl | omega | (dsimp only;omega) | (simp <;> omega)) (by first | exact Nat.le_of_ble_eq_true rfl | omega | (dsimp only;omega) | (simp <;> omega)) (a0z 5 (fun _ _=>default) rfl) (by first | exact Nat.le_of_ble_eq_true rfl | omega | (dsimp only;omega) | (simp <;> omega)) rfl) rfl rfl (a0i rfl a0g) rfl rfl (c':=c+2) rfl ?_
  refine ru 6 ?_
  refine a0o ?_
  refine ru 2 ?_
  refine fr1 ok hX rw1 (_) (trivial) (a9v rfl rfl (by have e:=congrArg List.length (a3P (k:=3) hI hit);rw [List.length_append] at e;exact e)) ?_
  exact ⟨⟨_,rfl,a3T (o:=o) (x:=⟨3,0,0,[],ks⟩) rfl (a3P hI hit) (b2O (.imm _) (.imm _) (.imm _) (.imm _) (.sl _ _ _ _ fun i j _ _=>.imm _))⟩,trivial⟩
 exfalso;simp at hr0
theorem b7a (l:List Sg) (p q:Nat) (hl:l.length≤1000) (ts:List T) (B:List Int) (m:Nat) (s e:Nat→Nat) (hC:Cuts l B m p q ts s e) (hql:q≤l.length) (hpq:p≤q) (ih:∀ i,i < ts.length→BdC l (s i) (e i) (ts.getD i default)) (hB:B=a2W l p q 3 p [(p:Int)]++[(q:Int)]) (hend:∀ i,i+1 < m→B.getD (i+1) 0=(e i:Int)+1) (hlast:∀ i,i+1=m→B.getD (i+1) 0=(e i:Int)):BdN l p q (.many 3 ts):=by
 intro c
 obtain ⟨cb,hcb⟩:∃ cb,cb=c+1:=⟨_,rfl⟩
 have ho:([]:List Pt).length≤2 * p:=Nat.zero_le _
 have hCl:=hC.hlen
 have hCm:=hC.hm
 have hC2:=hC.htwo
 have hCb:=hC.hmb
 refine a0v Tryz.func68 rfl kr _ _ _ _ rfl 126 rfl rfl (fun X ok hX=>?_)
 refine ru 1 ?_
 refine a4O 0 9003 5 105 (b6U []) rfl (by decide) rfl (c':=cb) hcb.symm ?_
 refine ru 11 ?_
 refine a2a 3 ?_
 refine a1i (fun NhU1 hU1=>?_)
 refine ru 7 ?_
 refine wdc (fun hr0 hc0=>?_) (fun hr0 hc0=>?_)
 ·refine ru 10 ?_
  refine cll ((show HPure Tryz.prog 95 [a4u l,intV p,intV q,intV 3] (a1u B) from (by rw [hB];exact a2v l p q 3 hl hql hpq))) ?_
  refine ru 11 ?_
  refine wdc (fun hr1 hc1=>?_) (fun hr1 hc1=>?_)
  ·skip
   exfalso;omega
  refine ru 17 ?_
  refine (a1x 11 4 7001 1 3 (a2M []) (a7P 3 (cb+2) 0) rfl rfl (fun j hj=>by match j,hj with | 0,_=>exact .inr rfl | 1,_=>exact .inr rfl | 2,_=>exact .inr rfl | 3,_=>exact .inr rfl | 4,_=>exact .inl ⟨rfl,rfl⟩) (by decide) (by decide) (c':=cb+3) rfl).wp ?_
  refine a0l (α:=Nat×List Pt×List Int×Nat×Nat) (fun x c=>⟨126,[(0,.v (.os 9003 x.2.2.2.1 0 x.2.1.length)),(1,.v (a4u l)),(2,.v (intV p)),(3,.v (intV q)),(9,.v (intV 3)),(10,.v (a1u B)),(11,.v (.pt 11 cb 0 0)),(12,.v (intV x.1))],[(9003,c6x x.2.2.2.1 x.2.1),(11,⟨cb,1,5,105,0,a7P 3 x.2.2.2.2 x.2.2.1.length⟩),(7001,⟨x.2.2.2.2,x.2.2.1.length,1,3,0,a2M x.2.2.1⟩)],c⟩) (fun x=>KidI ts ([]:List Pt) x.1 x.2.1 x.2.2.1) (fun x=>m - x.1) ((0,([]:List Pt),[],c,cb+2)) (by exact ⟨Nat.zero_le _,by simp [T.flatL],rfl⟩) (a0c rfl (Nat.le_refl _) tsa (hsr rfl (a0f.cons rfl (by exact a9H (.refl _) (.refl _) (.refl _) (.refl _) (.refl _)) hsa))) (fun x c hx NhL2 hL2=>?_)
  revert hx hL2;obtain ⟨i,o,ks,gg,gk⟩:=x;intro hx hL2;dsimp only at hx hL2 ⊢
  obtain ⟨hI1,hI2,hI3⟩:=hx
  have hI:KidI ts ([]:List Pt) i o ks:=⟨hI1,hI2,hI3⟩;have hkl:=b0q hI
  refine ru 10 ?_
  refine wdc (fun hr2 hc2=>?_) (fun hr2 hc2=>?_)
  ·skip
   have him:i < ts.length:=om;have hin:=hC.hle i om;have hou:=hC.hout i om;have hsz:=hC.hsz i om
   refine ru 11 ?_
   refine rvl (intV (B.getD (i+1) 0)) (by exact a1O om rfl) ?_
   refine ru 17 ?_
   refine wdc (fun hr3 hc3=>?_) (fun hr3 hc3=>?_)
   ·skip
    have hi2:i+1 < m:=(by have h:=hr3;simp at h;omega);have hbe:=hend i hi2
    refine ru 3 ?_
    refine rvl (intV (e i:Int)) (congrArg intV (show B.getD (i+1) 0 - 1=(e i:Int) by omega)) ?_
    refine ru 11 ?_
    refine rvl (intV (s i:Int)) (by exact a1O om (hC.hat i om)) ?_
    refine ru 1 ?_
    refine a0s 58 (xs:=[_,_,_,_]) (pre:=[(9003,_)]) (ih i him _ gg o om) ⟨rfl,⟨rfl,⟨rfl,⟨rfl,trivial⟩⟩⟩⟩ (a0i rfl a0g) rfl rfl (fun g3 c1 hx1=>?_)
    (try dsimp only)
    refine ru 3 ?_
    have hol:(o++T.flat o.length (ts.getD i default)).length=o.length+(ts.getD i default).size:=(by rw [List.length_append,T.flat_len])
    refine ru 6 ?_
    refine a0u 64 (a0b (id:=64) (hs:=[_]) ei_49.h omx rfl omx ⟨rfl,rfl,rfl,rfl,trivial⟩) rfl rfl a0g rfl rfl (c':=c1+1) rfl ?_
    first
    | refine a0u 65 (a0a ei_49.h (by first | exact Nat.le_of_ble_eq_true rfl | omega | (dsimp only;omega) | (simp <;> omega)) rfl (by first | exact Nat.le_of_ble_eq_true rfl | omega | (dsimp only;omega) | (simp <;> omega)) (by first | exact Nat.le_of_ble_eq_true rfl | omega | (dsimp only;omega) | (simp <;> omega)) (a0x rfl (by first | exact Nat.le_of_ble_eq_true rfl | omega | (dsimp only;omega) | (simp <;> omega))) (by first | exact Nat.le_of_ble_eq_true rfl | omega | (dsimp only;omega) | (simp <;> omega)) rfl) rfl rfl (a0i rfl (a0P rfl)) rfl rfl (c':=c1+2) rfl ?_
    | refine a0u 65 (a0a ei_49.h (by first | exact Nat.le_of_ble_eq_true rfl | omega | (dsimp only;omega) | (simp <;> omega)) rfl (by first | exact Nat.le_of_ble_eq_true rfl | omega | (dsimp only;omega) | (simp <;> omega)) (by first | exact Nat.le_of_ble_eq_true rfl | omega | (dsimp only;omega) | (simp <;> omega)) (a0S rfl (by first | exact Nat.le_of_ble_eq_true rfl | omega | (dsimp only;omega) | (simp <;> omega))) (by first | exact Nat.le_of_ble_eq_true rfl | omega | (dsimp only;omega) | (simp <;> omega)) rfl) rfl rfl (a0i rfl (a0P rfl)) rfl rfl (c':=c1+2) rfl ?_
    | refine a0u 65 (a0a ei_49.h (by first | exact Nat.le_of_ble_eq_true rfl | omega | (dsimp only;omega) | (simp <;> omega)) rfl (by first | exact Nat.le_of_ble_eq_true rfl | omega | (dsimp only;omega) | (simp <;> omega)) (by first | exact Nat.le_of_ble_eq_true rfl | omega | (dsimp only;omega) | (simp <;> omega)) (a0O rfl) (by first | exact Nat.le_of_ble_eq_true rfl | omega | (dsimp only;omega) | (simp <;> omega)) rfl) rfl rfl (a0i rfl a0g) rfl rfl (c':=c1+2) rfl ?_
    | refine a0u 65 (a0a ei_49.h (by first | exact Nat.le_of_ble_eq_true rfl | omega | (dsimp only;omega) | (simp <;> omega)) rfl (by first | exact Nat.le_of_ble_eq_true rfl | omega | (dsimp only;omega) | (simp <;> omega)) (by first | exact Nat.le_of_ble_eq_true rfl | omega | (dsimp only;omega) | (simp <;> omega)) (a0z 1 (fun _ _=>default) rfl) (by first | exact Nat.le_of_ble_eq_true rfl | omega | (dsimp only;omega) | (simp <;> omega)) rfl) rfl rfl (a0i rfl a0g) rfl rfl (c':=c1+2) rfl ?_
    refine ru 10 ?_
    exact hL2 ((i+1,o++T.flat o.length (ts.getD i default),ks++[T.root o.length (ts.getD i default)],g3,c1+1)) _ _ (by (try dsimp only);exact a5D hI him) (by (try dsimp only);omega) (a0c rfl (Nat.le_refl _) tsa (hsr rfl (a0f.cons rfl (by exact a9H (.refl _) (.refl _) (.refl _) (.refl _) (a3k (by simp))) (a0f.cons rfl (a0G (enc:=fun x _=>intV x) (d:=0) rfl (fun i j _ _=>.refl _) (fun j hj=>by exact a0H (by rw [List.length_append,T.flat_len];rfl))) a0f.nil))))
   have hi2:i+1=m:=(by have h:=hr3;simp at h;omega)
   refine ru 10 ?_
   refine rvl (intV (s i:Int)) (by exact a1O om (hC.hat i om)) ?_
   refine ru 1 ?_
   refine rvl (intV (e i:Int)) (congrArg intV (hlast i hi2)) ?_
   refine a0s 58 (xs:=[_,_,_,_]) (pre:=[(9003,_)]) (ih i him _ gg o om) ⟨rfl,⟨rfl,⟨rfl,⟨rfl,trivial⟩⟩⟩⟩ (a0i rfl a0g) rfl rfl (fun g3 c2 hx2=>?_)
   (try dsimp only)
   refine ru 3 ?_
   have hol:(o++T.flat o.length (ts.getD i default)).length=o.length+(ts.getD i default).size:=(by rw [List.length_append,T.flat_len])
   refine ru 6 ?_
   refine a0u 64 (a0b (id:=64) (hs:=[_]) ei_49.h omx rfl omx ⟨rfl,rfl,rfl,rfl,trivial⟩) rfl rfl a0g rfl rfl (c':=c2+1) rfl ?_
   first
   | refine a0u 65 (a0a ei_49.h (by first | exact Nat.le_of_ble_eq_true rfl | omega | (dsimp only;omega) | (simp <;> omega)) rfl (by first | exact Nat.le_of_ble_eq_true rfl | omega | (dsimp only;omega) | (simp <;> omega)) (by first | exact Nat.le_of_ble_eq_true rfl | omega | (dsimp only;omega) | (simp <;> omega)) (a0x rfl (by first | exact Nat.le_of_ble_eq_true rfl | omega | (dsimp only;omega) | (simp <;> omega))) (by first | exact Nat.le_of_ble_eq_true rfl | omega | (dsimp only;omega) | (simp <;> omega)) rfl) rfl rfl (a0i rfl (a0P rfl)) rfl rfl (c':=c2+2) rfl ?_
   | refine a0u 65 (a0a ei_49.h (by first | exact Nat.le_of_ble_eq_true rfl | omega | (dsimp only;omega) | (simp <;> omega)) rfl (by first | exact Nat.le_of_ble_eq_true rfl | omega | (dsimp only;omega) | (simp <;> omega)) (by first | exact Nat.le_of_ble_eq_true rfl | omega | (dsimp only;omega) | (simp <;> omega)) (a0S rfl (by first | exact Nat.le_of_ble_eq_true rfl | omega | (dsimp only;omega) | (simp <;> omega))) (by first | exact Nat.le_of_ble_eq_true rfl | omega | (dsimp only;omega) | (simp <;> omega)) rfl) rfl rfl (a0i rfl (a0P rfl)) rfl rfl (c':=c2+2) rfl ?_
   | refine a0u 65 (a0a ei_49.h (by first | exact Nat.le_of_ble_eq_true rfl | omega | (dsimp only;omega) | (simp <;> omega)) rfl (by first | exact Nat.le_of_ble_eq_true rfl | omega | (dsimp only;omega) | (simp <;> omega)) (by first | exact Nat.le_of_ble_eq_true rfl | omega | (dsimp only;omega) | (simp <;> omega)) (a0O rfl) (by first | exact Nat.le_of_ble_eq_true rfl | omega | (dsimp only;omega) | (simp <;> omega)) rfl) rfl rfl (a0i rfl a0g) rfl rfl (c':=c2+2) rfl ?_
   | refine a0u 65 (a0a ei_49.h (by first | exact Nat.le_of_ble_eq_true rfl | omega | (dsimp only;omega) | (simp <;> omega)) rfl (by first | exact Nat.le_of_ble_eq_true rfl | omega | (dsimp only;omega) | (simp <;> omega)) (by first | exact Nat.le_of_ble_eq_true rfl | omega | (dsimp only;omega) | (simp <;> omega)) (a0z 1 (fun _ _=>default) rfl) (by first | exact Nat.le_of_ble_eq_true rfl | omega | (dsimp only;omega) | (simp <;> omega)) rfl) rfl rfl (a0i rfl a0g) rfl rfl (c':=c2+2) rfl ?_
   refine ru 10 ?_
   exact hL2 ((i+1,o++T.flat o.length (ts.getD i default),ks++[T.root o.length (ts.getD i default)],g3,c2+1)) _ _ (by (try dsimp only);exact a5D hI him) (by (try dsimp only);omega) (a0c rfl (Nat.le_refl _) tsa (hsr rfl (a0f.cons rfl (by exact a9H (.refl _) (.refl _) (.refl _) (.refl _) (a3k (by simp))) (a0f.cons rfl (a0G (enc:=fun x _=>intV x) (d:=0) rfl (fun i j _ _=>.refl _) (fun j hj=>by exact a0H (by rw [List.length_append,T.flat_len];rfl))) a0f.nil))))
  have hit:i=ts.length:=om;have hal:=hC.hall;have hol2:o.length=([]:List Pt).length+T.sizeL ts:=(by rw [hkl.1,hit,List.take_length])
  refine ru 2 ?_
  refine a0d ?_
  refine ru 6 ?_
  refine (a1a 68 [(7001,_)] rfl (a0i rfl a0g) rfl ((show Fz [(7001,⟨gk,ks.length,1,3,0,a2M ks⟩)] (.agg 5 (a7P 3 gk ks.length 0)) (ptH ⟨3,0,0,[],ks⟩) from a0Y (.imm _) (.imm _) (.imm _) (.imm _) (b1l rfl)))).seq ?_
  refine a0u 69 (a0b (id:=69) (hs:=[_]) ei_56.h omx rfl omx ⟨rfl,rfl,rfl,rfl,trivial⟩) rfl rfl a0g rfl rfl (c':=c+1) rfl ?_
  first
  | refine a0u 70 (a0a ei_56.h (by first | exact Nat.le_of_ble_eq_true rfl | omega | (dsimp only;omega) | (simp <;> omega)) rfl (by first | exact Nat.le_of_ble_eq_true rfl | omega | (dsimp only;omega) | (simp <;> omega)) (by first | exact Nat.le_of_ble_eq_true rfl | omega | (dsimp only;omega) | (simp <;> omega)) (a0x rfl (by first | exact Nat.le_of_ble_eq_true rfl | omega | (dsimp only;omega) | (simp <;> omega))) (by first | exact Nat.le_of_ble_eq_true rfl | omega | (dsimp only;omega) | (simp <;> omega)) rfl) rfl rfl (a0i rfl (a0P rfl)) rfl rfl (c':=c+2) rfl ?_
  | refine a0u 70 (a0a ei_56.h (by first | exact Nat.le_of_ble_eq_true rfl | omega | (dsimp only;omega) | (simp <;> omega)) rfl (by first | exact Nat.le_of_ble_eq_true rfl | omega | (dsimp only;omega) | (simp <;> omega)) (by first | exact Nat.le_of_ble_eq_true rfl | omega | (dsimp only;omega) | (simp <;> omega)) (a0S rfl (by first | exact Nat.le_of_ble_eq_true rfl | omega | (dsimp only;omega) | (simp <;> omega))) (by first | exact Nat.le_of_ble_eq_true rfl | omega | (dsimp only;omega) | (simp <;> omega)) rfl) rfl rfl (a0i rfl (a0P rfl)) rfl rfl (c':=c+2) rfl ?_
  | refine a0u 70 (a0a ei_56.h (by first | exact Nat.le_of_ble_eq_true rfl | omega | (dsimp only;omega) | (simp <;> omega)) rfl (by first | exact Nat.le_of_ble_eq_true rfl | omega | (dsimp only;omega) | (simp <;> omega)) (by first | exact Nat.le_of_ble_eq_true rfl | omega | (dsimp only;omega) | (simp <;> omega)) (a0O rfl) (by first | exact Nat.le_of_ble_eq_true rfl | omega | (dsimp only;omega) | (simp <;> omega)) rfl) rfl rfl (a0i rfl a0g) rfl rfl (c':=c+2) rfl ?_
  | refine a0u 70 (a0a ei_56.h (by first | exact Nat.le_of_ble_eq_true rfl | omega | (dsimp only;omega) | (simp <;> omega)) rfl (by first | exact Nat.le_of_ble_eq_true rfl | omega | (dsimp only;omega) | (simp <;> omega)) (by first | exact Nat.le_of_ble_eq_true rfl | omega | (dsimp only;omega) | (simp <;> omega)) (a0z 5 (fun _ _=>default) rfl) (by first | exact Nat.le_of_ble_eq_true rfl | omega | (dsimp only;omega) | (simp <;> omega)) rfl) rfl rfl (a0i rfl a0g) rfl rfl (c':=c+2) rfl ?_
  refine ru 6 ?_
  refine a0o ?_
  refine ru 2 ?_
  refine fr1 ok hX rw1 (_) (trivial) (a9v rfl rfl (by have e:=congrArg List.length (a3P (k:=3) hI hit);rw [List.length_append] at e;exact e)) ?_
  exact ⟨⟨_,rfl,a3T (o:=o) (x:=⟨3,0,0,[],ks⟩) rfl (a3P hI hit) (b2O (.imm _) (.imm _) (.imm _) (.imm _) (.sl _ _ _ _ fun i j _ _=>.imm _))⟩,trivial⟩
 exfalso;simp at hr0
theorem c3A {l:List Sg} {p q:Nat} {ts:List T} {c:Nat→Nat} (hl:l.length≤1000) (h2:2≤ts.length) (h0:c 0=p) (he:c ts.length=q) (hs:∀ i,i < ts.length→Seg l 1 (c i) (c (i+1)) (ts.getD i default)) :
    Cuts l ([(p:Int)]++a1j c ts.length) ts.length p q ts c (fun i=>c (i+1))∧(∀ i,i < ts.length→([(p:Int)]++a1j c ts.length).getD (i+1) 0=((c (i+1):Nat):Int)):=by
  have up:=c5z (n:=ts.length) (c:=c) (fun i hi=>(a0W (hs i hi)).1)
  have hsz:∀ i,i < ts.length→(ts.getD i default).size+2 * c i≤2 * c (i+1):=fun i hi=>by have:=a2J (hs i hi);omega
  have hout:∀ i,i≤ts.length→T.sizeL (ts.take i)+2 * p≤2 * c i:=by
    intro i
    induction i with
    | zero=>intro _;rw [a8Q];omega
    | succ i ih=>intro hi;have:=ih (by omega);have:=hsz i hi;rw [a1y ts i hi];omega
  have hg:∀ i,i < ts.length→([(p:Int)]++a1j c ts.length).getD (i+1) 0=((c (i+1):Nat):Int):=fun i hi=>by
    simp [a1j,List.getD_eq_getElem?_getD,hi]
  have hlt:ts.length≤l.length:=by
    have a:=up 0 ts.length (by omega) (Nat.le_refl _)
    have b:=(a0W (hs (ts.length - 1) (by omega))).2
    rw [show ts.length - 1+1=ts.length by omega] at b
    omega
  refine ⟨⟨by simp [a1j],rfl,h2,by omega,fun i hi=>?_,fun i hi=>⟨Nat.le_of_lt (a0W (hs i hi)).1,(a0W (hs i hi)).2⟩,fun i hi=>hout i (by omega),hsz,?_⟩,hg⟩
  · cases i with
    | zero=>rw [h0];rfl
    | succ i=>exact hg i (by omega)
  · have:=hout ts.length (Nat.le_refl _);rw [List.take_length,he] at this;exact this
theorem c3E {l:List Sg} {p q:Nat} {ts:List T} {c e:Nat→Nat} (hl:l.length≤1000) (h2:2≤ts.length) (h0:c 0=p) (he:e (ts.length - 1)=q) (hs:∀ i,i < ts.length→Seg l 2 (c i) (e i) (ts.getD i default)) (hgp:∀ i,i+1 < ts.length→kd l (e i)=4∧c (i+1)=e i+1) :
    Cuts l ([(p:Int)]++a1j c (ts.length - 1)++[(q:Int)]) ts.length p q ts c e∧(∀ i,i+1 < ts.length→([(p:Int)]++a1j c (ts.length - 1)++[(q:Int)]).getD (i+1) 0=(e i:Int)+1)∧(∀ i,i+1=ts.length→([(p:Int)]++a1j c (ts.length - 1)++[(q:Int)]).getD (i+1) 0=(e i:Int)):=by
  have hsz:∀ i,i < ts.length→(ts.getD i default).size+2 * c i≤2 * e i:=fun i hi=>by have:=a2J (hs i hi);omega
  have hout:∀ i,i < ts.length→T.sizeL (ts.take i)+2 * p≤2 * c i∧i+p≤c i:=by
    intro i
    induction i with
    | zero=>intro _;rw [a8Q];omega
    | succ i ih=>intro hi;have:=ih (by omega);have:=hsz i (by omega);have:=hgp i hi;have:=(a0W (hs i (by omega))).1;rw [a1y ts i (by omega)];omega
  have hg:∀ i,i+1 < ts.length→([(p:Int)]++a1j c (ts.length - 1)++[(q:Int)]).getD (i+1) 0=((c (i+1):Nat):Int):=fun i hi=>by
    rw [a4z (by simp [a1j];omega)]
    simp [a1j,List.getD_eq_getElem?_getD,show i < ts.length - 1 by omega]
  have hlt:ts.length≤l.length:=by
    have a:=(hout (ts.length - 1) (by omega)).2
    have b:=(a0W (hs (ts.length - 1) (by omega)))
    omega
  refine ⟨⟨by simp [a1j];omega,rfl,h2,by omega,fun i hi=>?_,fun i hi=>⟨Nat.le_of_lt (a0W (hs i hi)).1,(a0W (hs i hi)).2⟩,fun i hi=>(hout i hi).1,hsz,?_⟩,fun i hi=>by rw [hg i hi,(hgp i hi).2];rfl,fun i hi=>?_⟩
  · cases i with
    | zero=>rw [h0];rfl
    | succ i=>exact hg i (by omega)
  · have a:=hout (ts.length - 1) (by omega)
    have b:=hsz (ts.length - 1) (by omega)
    have d:=a1y ts (ts.length - 1) (by omega)
    rw [show ts.length - 1+1=ts.length by omega,List.take_length] at d
    rw [he] at b;omega
  · have hl1:([(p:Int)]++a1j c (ts.length - 1)).length=i+1:=by simp [a1j];omega
    rw [←hl1,a2o,←he,show ts.length - 1=i by omega]
theorem a6p (l:List Sg) (hl:l.length≤1000) {v p q:Nat} {t:T} (h:Seg l v p q t):BdC l p q t:=by
  induction h with
  | name p h=>exact c5H l p (p+1) hl h rfl (a0W (.name p h)).2 (by omega) (v:=0) (by decide) (.name p h)
  | group p q t h hs h3 ih=>have a:=a0W hs;have b:=a2m (l:=l) (i:=q) (by rw [h3];decide);exact c1v l p (q+1) hl q t h h3 a.1 rfl b (by omega) (v:=0) (by decide) (.group p q t h hs h3) ih
  | item p q t _ _ ih=>exact ih
  | times p q t hs h5 ih=>have a:=a0W hs;have b:=a2m (l:=l) (i:=q) (by rw [h5];decide);exact c0W l p (q+1) hl q t h5 hs a.1 rfl b (by omega) (v:=1) (by decide) (.times p q t hs h5) ih
  | row1 p q t _ ih=>exact ih
  | row p q ts c h2 h0 he hs ih =>
    have hseg:Seg l 2 p q (.many 2 ts):=.row p q ts c h2 h0 he hs
    have a:=a0W hseg
    have C:=c3A hl h2 h0 he hs
    exact c7z l p q hl ts _ _ _ _ C.1 a.2 (by omega) ih hseg (b0m h0 he (by omega) hs).symm C.2
  | choice1 p q t _ ih=>exact ih
  | choice p q ts c e h2 h0 he hs hg ih =>
    have a:=a0W (.choice p q ts c e h2 h0 he hs hg)
    have C:=c3E hl h2 h0 he hs hg
    exact b8F l p q hl ts _ _ _ _ C.1 a.2 (by omega) ih (b2i (by omega) h0 he hs hg).symm C.2.1 C.2.2
theorem b6V (l:List Sg) (hl:l.length≤1000) {v p q:Nat} {t:T} (h:Seg l v p q t):BdN l p q t:=by
  induction h with
  | name p h=>exact c1b l p (p+1) hl h rfl (a0W (.name p h)).2 (by omega) (v:=0) (by decide) (.name p h)
  | group p q t h hs h3 ih=>have a:=a0W hs;have b:=a2m (l:=l) (i:=q) (by rw [h3];decide);exact b9y l p (q+1) hl q t h h3 a.1 rfl b (by omega) (v:=0) (by decide) (.group p q t h hs h3) (a6p l hl hs)
  | item p q t _ _ ih=>exact ih
  | times p q t hs h5 ih=>have a:=a0W hs;have b:=a2m (l:=l) (i:=q) (by rw [h5];decide);exact b9e l p (q+1) hl q t h5 hs a.1 rfl b (by omega) (v:=1) (by decide) (.times p q t hs h5) (a6p l hl hs)
  | row1 p q t _ ih=>exact ih
  | row p q ts c h2 h0 he hs ih =>
    have hseg:Seg l 2 p q (.many 2 ts):=.row p q ts c h2 h0 he hs
    have a:=a0W hseg
    have C:=c3A hl h2 h0 he hs
    exact c6a l p q hl ts _ _ _ _ C.1 a.2 (by omega) (fun i hi=>a6p l hl (hs i hi)) hseg (b0m h0 he (by omega) hs).symm C.2
  | choice1 p q t _ ih=>exact ih
  | choice p q ts c e h2 h0 he hs hg ih =>
    have a:=a0W (.choice p q ts c e h2 h0 he hs hg)
    have C:=c3E hl h2 h0 he hs hg
    exact b7a l p q hl ts _ _ _ _ C.1 a.2 (by omega) (fun i hi=>a6p l hl (hs i hi)) (b2i (by omega) h0 he hs hg).symm C.2.1 C.2.2
theorem a4j (s:List UInt8) (r:List Pt×Int×Int) (hs:s.length≤9223372036854775807) (hp:ParseIs s r) (c:Nat):a4s Tryz.prog 39 c [strV s] [] (a9t (fun (_:Unit) _=>True) (fun _=>c3y r) (fun _=>[])):=by
 have hlen:=a8b s
 have hlx:=c2f s hs
 have hW:∀ l,lexV s=.ok l→b7E (lexV s)=(l,0,0):=fun l h=>by rw [h];rfl
 rcases hp with ⟨e,hv⟩ | hv | ⟨l,q,hv,hne,hq,hC⟩ | ⟨l,hv,hne,hC⟩ | ⟨l,t,hv,hsg⟩
 ·skip
  have he:=a6K hv
  rw [hv] at hlx hlen
  replace hlx:HPure Tryz.prog 66 [strV s] (c3e ([],e.1,e.2)):=hlx
  refine a0v Tryz.func39 rfl kr _ _ _ _ rfl 42 rfl rfl (fun X ok hX=>?_)
  refine ru 10 ?_
  refine cll (hlx) ?_
  refine ru 16 ?_
  refine wdc (fun hr0 hc0=>?_) (fun hr0 hc0=>?_)
  ·refine ru 11 ?_
   refine a2H ok hX a3g.one rfl (a0h rfl) (a0h rfl) (a0h rfl) [] rfl a0g (()) (trivial) (by rfl) (by rfl) (a9J (.fz _ _ (.nil 0 5 _ (by decide) none)) kza kza) ?_
   exact trivial
  exfalso;exact he hc0
 ·skip
  rw [hv] at hlx hlen
  replace hlx:HPure Tryz.prog 66 [strV s] (c3e ([],0,0)):=hlx
  have hC:chk ([]:List Sg) 0 0 true true=(-1,false):=by rw [a7x (l:=[]) (i:=0) (Nat.le_refl _)];rfl
  have hch:=b0V [] (by decide)
  rw [hC] at hch
  refine a0v Tryz.func39 rfl kr _ _ _ _ rfl 42 rfl rfl (fun X ok hX=>?_)
  refine ru 10 ?_
  refine cll (hlx) ?_
  refine ru 16 ?_
  refine wdc (fun hr0 hc0=>?_) (fun hr0 hc0=>?_)
  ·skip
   exfalso;first | exact hc0 rfl | exact hc0 trivial
  refine ru 5 ?_
  refine cll (hch) ?_
  refine ru 14 ?_
  refine wdc (fun hr1 hc1=>?_) (fun hr1 hc1=>?_)
  ·skip
   exfalso;simp at hr1
  refine ru 8 ?_
  refine wdc (fun hr2 hc2=>?_) (fun hr2 hc2=>?_)
  ·skip
   exfalso;simp at hr2
  refine ru 10 ?_
  refine wdc (fun hr3 hc3=>?_) (fun hr3 hc3=>?_)
  ·refine ru 9 ?_
   refine a2H ok hX a3g.one rfl (a0h rfl) (a0h rfl) (a0h rfl) [] rfl a0g (()) (trivial) (by rfl) (by rfl) (a9J (.fz _ _ (.nil 0 5 _ (by decide) none)) kza kza) ?_
   exact trivial
  exfalso;exact absurd hr3 (by decide)
 ·skip
  rw [hv] at hlx hlen
  have hll:l.length≤200:=hlen
  replace hlx:HPure Tryz.prog 66 [strV s] (c3e (l,0,0)):=hlx
  clear hlen
  have hch:=b0V l (by omega)
  rw [hC] at hch
  refine a0v Tryz.func39 rfl kr _ _ _ _ rfl 42 rfl rfl (fun X ok hX=>?_)
  refine ru 10 ?_
  refine cll (hlx) ?_
  refine ru 16 ?_
  refine wdc (fun hr0 hc0=>?_) (fun hr0 hc0=>?_)
  ·skip
   exfalso;first | exact hc0 rfl | exact hc0 trivial
  refine ru 5 ?_
  refine cll (hch) ?_
  refine ru 14 ?_
  refine wdc (fun hr1 hc1=>?_) (fun hr1 hc1=>?_)
  ·refine ru 14 ?_
   refine a2H ok hX a3g.one rfl (a0h rfl) (a0h rfl) (a0h rfl) [] rfl a0g (()) (trivial) (by rfl) (by rfl) (a9J (.fz _ _ (.nil 0 5 _ (by decide) none)) kza kza) ?_
   exact trivial
  exfalso;omega
 ·skip
  rw [hv] at hlx hlen
  have hll:l.length≤200:=hlen
  replace hlx:HPure Tryz.prog 66 [strV s] (c3e (l,0,0)):=hlx
  clear hlen
  have hch:=b0V l (by omega)
  rw [hC] at hch
  refine a0v Tryz.func39 rfl kr _ _ _ _ rfl 42 rfl rfl (fun X ok hX=>?_)
  refine ru 10 ?_
  refine cll (hlx) ?_
  refine ru 16 ?_
  refine wdc (fun hr0 hc0=>?_) (fun hr0 hc0=>?_)
  ·skip
   exfalso;first | exact hc0 rfl | exact hc0 trivial
  refine ru 5 ?_
  refine cll (hch) ?_
  refine ru 14 ?_
  refine wdc (fun hr1 hc1=>?_) (fun hr1 hc1=>?_)
  ·skip
   exfalso;simp at hr1
  refine ru 8 ?_
  refine wdc (fun hr2 hc2=>?_) (fun hr2 hc2=>?_)
  ·refine ru 11 ?_
   refine a2H ok hX a3g.one rfl (a0h rfl) (a0h rfl) (a0h rfl) [] rfl a0g (()) (trivial) (by rfl) (by rfl) (a9J (.fz _ _ (.nil 0 5 _ (by decide) none)) kza kza) ?_
   exact trivial
  exfalso;simp at hr2
 ·skip
  rw [hv] at hlx hlen
  have hll:l.length≤200:=hlen
  replace hlx:HPure Tryz.prog 66 [strV s] (c3e (l,0,0)):=hlx
  clear hlen
  have hch:=b0V l (by omega)
  rw [b1K hsg] at hch
  have hlt:=a0W hsg
  refine a0v Tryz.func39 rfl kr _ _ _ _ rfl 42 rfl rfl (fun X ok hX=>?_)
  refine ru 10 ?_
  refine cll (hlx) ?_
  refine ru 16 ?_
  refine wdc (fun hr0 hc0=>?_) (fun hr0 hc0=>?_)
  ·skip
   exfalso;first | exact hc0 rfl | exact hc0 trivial
  refine ru 5 ?_
  refine cll (hch) ?_
  refine ru 14 ?_
  refine wdc (fun hr1 hc1=>?_) (fun hr1 hc1=>?_)
  ·skip
   exfalso;simp at hr1
  refine ru 8 ?_
  refine wdc (fun hr2 hc2=>?_) (fun hr2 hc2=>?_)
  ·skip
   exfalso;simp at hr2
  refine ru 10 ?_
  refine wdc (fun hr3 hc3=>?_) (fun hr3 hc3=>?_)
  ·skip
   exfalso;have h:=hr3;simp at h;omega
  refine ru 7 ?_
  refine a0s 41 (xs:=[_,_,_,_]) (pre:=[]) (b6V l om hsg _) ⟨rfl,⟨rfl,⟨rfl,⟨rfl,trivial⟩⟩⟩⟩ a0g rfl rfl (fun g3 c1 hx1=>?_)
  (try dsimp only)
  refine ru 6 ?_
  refine a2H ok hX a3g.one rfl (a0h rfl) (a0h rfl) (a0h rfl) [(9003,_)] rfl (a0i rfl a0g) (()) (trivial) (by rfl) (by rfl) (a9J (.fz _ _ (a2r (l:=T.flat 0 t) (enc:=ptF) (d:=default) (List.mem_cons_self ..) rfl rfl (Nat.le_refl _) (fun i j hi hj=>b0T _ j))) kza kza) ?_
  exact trivial
set_option maxHeartbeats 1000000
theorem c1r {α:Type} (d:α) {a b:List α} (hl:a.length=b.length) (h:∀ j,j < a.length→a.getD j d=b.getD j d):a=b:=by
 apply List.ext_getElem hl
 intro i h1 h2
 have:=h i h1
 rwa [List.getD_eq_getElem?_getD,List.getD_eq_getElem?_getD,List.getElem?_eq_getElem h1,List.getElem?_eq_getElem h2] at this
@[reducible] def PtB (l:List Pt):Prop:=l.length≤100000∧∀ i,i < l.length→(l.getD i default).kids.length≤100000∧(l.getD i default).name.length≤1000000
theorem b5D (a:List Int) {lo n k:Nat} (hk:k < n) (h:lo+n≤a.length):((a.drop lo).take n).getD k 0=a.getD (lo+k) 0:=by
 rw [List.getD_eq_getElem?_getD,List.getD_eq_getElem?_getD,List.getElem?_take,if_pos hk,List.getElem?_drop]
theorem c4L (g lo n:Nat) (a b:List Int) (ha:a.length≤1000000) (hb:b.length≤1000000) (hn:lo+n≤a.length):a4S Tryz.prog 85 [.os 8001 g lo n,a1u b] [(8001,⟨g,a.length,1,3,0,a2M a⟩)] (boolV (decide ((a.drop lo).take n=b))) [(8001,⟨g,a.length,1,3,0,a2M a⟩)]:=by
 have hcl:((a.drop lo).take n).length=n:=by rw [List.length_take,List.length_drop];omega
 intro c
 refine a0v Tryz.func85 rfl kr _ _ _ _ rfl 26 rfl rfl (fun X ok hX=>?_)
 refine ru 15 ?_
 refine wdc (fun hr0 hc0=>?_) (fun hr0 hc0=>?_)
 ·refine ru 7 ?_
  refine fr1 ok hX rw1 (()) (trivial) (by rw [decide_eq_false (fun h=>hc0 (by rw [←h,hcl]))];exact kza) ?_
  exact ⟨⟨_,rfl,.of (fun i j _ _=>.fz _ _ (.imm _))⟩,trivial⟩
 refine ru 11 ?_
 refine a0l (α:=Nat) (fun x c=>⟨26,[(0,.v (.os 8001 g lo n)),(1,.v (a1u b)),(12,.v (intV n)),(13,.v (intV x))],[(8001,⟨g,a.length,1,3,0,a2M a⟩)],c⟩) (fun x=>x≤n∧∀ j,j < x→a.getD (lo+j) 0=b.getD j 0) (fun x=>n - x) (0) (by exact ⟨Nat.zero_le _,fun j hj=>absurd hj (Nat.not_lt_zero _)⟩) (a0c rfl (Nat.le_refl _) tsa hsa) (fun k c hx NhL1 hL1=>?_)
 (try dsimp only at hx hL1 ⊢)
 obtain ⟨hk,hE⟩:=hx
 refine ru 6 ?_
 refine wdc (fun hr1 hc1=>?_) (fun hr1 hc1=>?_)
 ·refine ru 15 ?_
  first
  | refine a3a 19 (HOp.val (v':=intV (a.getD (lo+k) 0)) (a0D ty_3.h rfl (by first | exact Nat.le_of_ble_eq_true rfl | omega | (dsimp only;omega) | (simp <;> omega)) (by first | exact Nat.le_of_ble_eq_true rfl | omega | (dsimp only;omega) | (simp <;> omega)) (fun h=>(by first | rfl | cases h))) (rfl)) rfl rfl (a0P rfl) rfl rfl (k':=4) rfl ?_
  | refine a3a 19 (HOp.val (v':=intV (a.getD (lo+k) 0)) (a0r ty_3.h rfl (by first | exact Nat.le_of_ble_eq_true rfl | omega | (dsimp only;omega) | (simp <;> omega)) (fun h=>(by first | rfl | cases h))) (rfl)) rfl rfl a0g rfl rfl (k':=4) rfl ?_
  refine ru 3 ?_
  first
  | refine a3a 23 (HOp.val (v':=intV (b.getD k 0)) (a0D ty_3.h rfl (by first | exact Nat.le_of_ble_eq_true rfl | omega | (dsimp only;omega) | (simp <;> omega)) (by first | exact Nat.le_of_ble_eq_true rfl | omega | (dsimp only;omega) | (simp <;> omega)) (fun h=>(by first | rfl | cases h))) (rfl)) rfl rfl (a0P rfl) rfl rfl (k':=8) rfl ?_
  | refine a3a 23 (HOp.val (v':=intV (b.getD k 0)) (a0r ty_3.h rfl (by first | exact Nat.le_of_ble_eq_true rfl | omega | (dsimp only;omega) | (simp <;> omega)) (fun h=>(by first | rfl | cases h))) (rfl)) rfl rfl a0g rfl rfl (k':=8) rfl ?_
  refine ru 3 ?_
  refine wdc (fun hr2 hc2=>?_) (fun hr2 hc2=>?_)
  ·refine ru 8 ?_
   refine a0o ?_
   refine ru 2 ?_
   refine fr1 ok hX rw1 (()) (trivial) (by rw [decide_eq_false (fun h=>hc2 (by rw [←h,b5D a om hn]))];exact kza) ?_
   exact ⟨⟨_,rfl,.of (fun i j _ _=>.fz _ _ (.imm _))⟩,trivial⟩
  refine ru 7 ?_
  exact hL1 (k+1) _ _ (by (try dsimp only);exact ⟨by omega,fun j hj=>by by_cases e:j=k;(· subst e;exact hc2);exact hE j om⟩) (by (try dsimp only);omega) (a0c rfl (Nat.le_refl _) tsa hsa)
 refine ru 2 ?_
 refine a0d ?_
 refine ru 8 ?_
 refine fr1 ok hX rw1 (()) (trivial) (by rw [decide_eq_true (c1r 0 om (fun j hj=>by rw [b5D a om hn];exact hE j om))];exact kza) ?_
 exact ⟨⟨_,rfl,.of (fun i j _ _=>.fz _ _ (.imm _))⟩,trivial⟩
theorem b7p (a b:Int):(a == b)=decide (a=b):=rfl
theorem c8e (n:Nat):decide ((n:Int)=0)=decide (n=0):=decide_eq_decide.2 (by omega)
theorem c6l (n:Nat):decide ((n:Int)=1)=decide (n=1):=decide_eq_decide.2 (by omega)
theorem b8I (n:Nat):decide (1 < (n:Int))=decide (1 < n):=decide_eq_decide.2 (by omega)
theorem b8r (s:List UInt8) (hs:s.length≤1000000):HPure Tryz.prog 103 [strV s] (boolV (nameV s)):=by
  have hlen:=a8b s
  have hlx:=c8A s hs
  have hN:nameV s=(match b7E (lexV s) with | (l,_,e)=>decide (e=0)&&decide (l.length=1)&&decide ((l.getD 0 default).kind=1)&&decide ((l.getD 0 default).name=s)):=by
    unfold nameV
    cases hv:lexV s with
    | error e =>
      have h:=a6K hv
      have h2:¬ (e.2=0):=h
      show false=(decide (e.2=0)&&_&&_&&_)
      rw [decide_eq_false h2];rfl
    | ok l =>
      match l with
      | []=>rfl
      | [x]=>rfl
      | x::y::l=>simp [b7E]
  generalize hr:b7E (lexV s)=r at hlen hlx hN
  rw [hN]
  obtain ⟨l,a,e⟩:=r
  refine a0k Tryz.func103 rfl kr _ _ _ rfl 34 rfl rfl (fun w F=>?_)
  refine ru 8 ?_
  refine cll (hlx) ?_
  refine ru 23 ?_
  refine ry (intV (l.getD 0 default).kind) rfl (fun hb=>rfl) ?_
  refine ru 7 ?_
  refine ry (strV (l.getD 0 default).name) rfl (fun hb=>rfl) ?_
  refine ru 7 ?_
  refine rt1 ?_
  exact a3d (by simp only [b7p,c6l])
theorem c4C (x:Pt) (hk:x.kids.length≤1000000) (hn:x.name.length≤1000000):HPure Tryz.prog 84 [ptH x] (boolV (a1V x)):=by
 unfold a1V
 refine a0k Tryz.func84 rfl kr _ _ _ rfl 89 rfl rfl (fun w F=>?_)
 refine ru 20 ?_
 refine wdc (fun hr0 hc0=>?_) (fun hr0 hc0=>?_)
 ·refine ru 19 ?_
  first
  | refine stg 22 (fun hb=>a0e (xs:=[_]) (b8r x.name hn) ⟨rfl,trivial⟩ ⟨(Fz.eq rfl),trivial⟩) rfl rfl rfl rfl rfl ?_
  | refine sth 22 (fun hb=>a0e (xs:=[_]) (b8r x.name hn) ⟨rfl,trivial⟩ ⟨(Fz.eq rfl),trivial⟩) rfl rfl rfl rfl rfl ?_
  refine ru 7 ?_
  refine rt1 ?_
  rw [if_pos hc0];exact a3d (by simp only [b7p,c8e])
 refine ru 7 ?_
 refine wdc (fun hr1 hc1=>?_) (fun hr1 hc1=>?_)
 ·refine ru 2 ?_
  refine wdc (fun hr2 hc2=>?_) (fun hr2 hc2=>?_)
  ·refine ru 27 ?_
   refine rt1 ?_
   rw [if_neg hc0,if_pos (.inl hc1)];exact a3d (by simp only [b7p,b8I])
  exfalso;exact absurd hr2 (by rw [hc1];decide)
 refine ru 5 ?_
 refine wdc (fun hr2 hc2=>?_) (fun hr2 hc2=>?_)
 ·refine ru 27 ?_
  refine rt1 ?_
  rw [if_neg hc0,if_pos (.inr hc2)];exact a3d (by simp only [b7p,b8I])
 refine ru 6 ?_
 refine wdc (fun hr3 hc3=>?_) (fun hr3 hc3=>?_)
 ·refine ru 51 ?_
  refine rt1 ?_
  rw [if_neg hc0,if_neg (show ¬ (x.kind=2∨x.kind=3) by omega),if_pos hc3];exact a3d (by simp only [b7p,c6l])
 refine ru 9 ?_
 refine rt1 ?_
 rw [if_neg hc0,if_neg (show ¬ (x.kind=2∨x.kind=3) by omega),if_neg hc3];exact .imm _
theorem b6I {n i:Nat} {e:List Pt} {op:List Int} (hi:i < e.length):a2O n i (e.drop i) op=((a1V (e.getD i default)&&(decide ((e.getD i default).kids.length≤op.length)&&decide (op.drop (op.length - (e.getD i default).kids.length)=(e.getD i default).kids)))&&a2O n (i+1) (e.drop (i+1)) (op.take (op.length - (e.getD i default).kids.length)++[(i:Int)])):=by
 have h:e.drop i=e.getD i default::e.drop (i+1):=by
  rw [List.getD_eq_getElem?_getD,List.getElem?_eq_getElem hi,List.drop_eq_getElem_cons hi];rfl
 rw [h];rfl
theorem c6F {id g lo lo' n n':Nat} (h1:lo=lo') (h2:n=n'):HV.os id g lo n=HV.os id g lo' n':=by subst h1;subst h2;rfl
instance frz_ptH (x:Pt):Frz (ptH x):=⟨.agg _ _ _ fun j hj=>b0T x j⟩
theorem b5Y {op:List Int} {k:Nat} (h:k≤op.length):(op.drop (op.length - k)).take k=op.drop (op.length - k):=List.take_of_length_le (by rw [List.length_drop];omega)
theorem c1t {x:Pt} {op:List Int} (h:(!a1V x||decide ((op.length:Int) - x.kids.length < 0)||!decide ((op.drop (op.length - x.kids.length)).take x.kids.length=x.kids))=true):(a1V x&&(decide (x.kids.length≤op.length)&&decide (op.drop (op.length - x.kids.length)=x.kids)))=false:=by
 by_cases hk:x.kids.length≤op.length
 ·rw [b5Y hk,decide_eq_false (show ¬ ((op.length:Int) - x.kids.length < 0) by omega)] at h
  rw [decide_eq_true hk]
  cases ha:a1V x <;> rw [ha] at h <;> simp at h ⊢
  exact h
 ·rw [decide_eq_false hk];simp
theorem b8B {x:Pt} {op:List Int} (h:(!a1V x||decide ((op.length:Int) - x.kids.length < 0)||!decide ((op.drop (op.length - x.kids.length)).take x.kids.length=x.kids))=false):(a1V x&&(decide (x.kids.length≤op.length)&&decide (op.drop (op.length - x.kids.length)=x.kids)))=true∧x.kids.length≤op.length:=by
 simp only [Bool.or_eq_false_iff,Bool.not_eq_false',decide_eq_false_iff_not] at h
 have hk:x.kids.length≤op.length:=by omega
 have h2:=h.2
 rw [b5Y hk] at h2
 exact ⟨by rw [h.1.1,decide_eq_true hk,h2];rfl,hk⟩
theorem c1w {op:List Int} {N k g ty:Nat} {r:Int} {F:Nat→Nat→HV} (hN:N=k) (hk:k≤op.length) (hF:∀ j,F 0 j=intV r):a2X ⟨g,N+1,1,ty,0,cat N (a2M op) F⟩ ⟨g,(op.take k++[r]).length,1,ty,0,a2M (op.take k++[r])⟩:=by
 subst hN
 have hl:(op.take N).length=N:=by rw [List.length_take];omega
 exact a0G (enc:=fun x _=>intV x) (d:=0) (out:=op.take N) hl.symm (fun i j hi hj=>by
  have:(op.take N).getD i 0=op.getD i 0:=by rw [List.getD_eq_getElem?_getD,List.getD_eq_getElem?_getD,List.getElem?_take,if_pos (by omega)]
  show Sb (intV (op.getD i 0)) (intV ((op.take N).getD i 0))
  rw [this];exact .refl _) (fun j hj=>by rw [hF];exact .refl _)
theorem c5A {a:Bool} {ol kl:Nat} (h:(!a||decide ((ol:Int) - kl < 0))=false):ol - kl+kl≤ol:=by simp at h;omega
theorem c5E (e:List Pt) (he:PtB e):HPure Tryz.prog 51 [ptsV e] (boolV (rightV e)):=by
 have hel:=he.1
 refine a0k Tryz.func51 rfl kr _ _ _ rfl 51 rfl rfl (fun w F=>?_)
 refine ru 19 ?_
 refine a4O 3 8001 1 3 ((a2M [])) rfl (by decide) rfl (c':=1) rfl ?_
 refine a0l (α:=Nat×List Int×Nat) (fun x c=>⟨51,[(0,.v (ptsV e)),(3,.v (.os 8001 x.2.2 0 x.2.1.length)),(7,.v (ptsV e)),(8,.v (intV e.length)),(9,.v (intV x.1))],[(8001,⟨x.2.2,x.2.1.length,1,3,0,a2M x.2.1⟩)],c⟩) (fun x=>x.1≤e.length∧x.2.1.length≤x.1∧a2O e.length x.1 (e.drop x.1) x.2.1=rightV e) (fun x=>e.length - x.1) ((0,[],0)) (by exact ⟨Nat.zero_le _,Nat.zero_le _,rfl⟩) (a0c rfl (Nat.le_refl _) tsa hsa) (fun x c hx NhL1 hL1=>?_)
 revert hx hL1;obtain ⟨i,op,g⟩:=x;intro hx hL1;dsimp only at hx hL1 ⊢
 obtain ⟨hi,hop,hR⟩:=hx
 refine ru 6 ?_
 refine wdc (fun hr0 hc0=>?_) (fun hr0 hc0=>?_)
 ·skip
  have hil:i < e.length:=om;have hkb:=he.2 i hil;have hst:=b6I (n:=e.length) (op:=op) hil
  refine ru 9 ?_
  refine rvl (ptH (e.getD i default)) (rfl) ?_
  refine ru 11 ?_
  refine rvl (a1u (e.getD i default).kids) (rfl) ?_
  refine ru 8 ?_
  first
  | refine a3a 20 (HOp.val (v':=ptH (e.getD i default)) (a0D ty_164.h rfl (by first | exact Nat.le_of_ble_eq_true rfl | omega | (dsimp only;omega) | (simp <;> omega)) (by first | exact Nat.le_of_ble_eq_true rfl | omega | (dsimp only;omega) | (simp <;> omega)) (fun h=>(by first | rfl | cases h))) (rfl)) rfl rfl (a0P rfl) rfl rfl (k':=1) rfl ?_
  | refine a3a 20 (HOp.val (v':=ptH (e.getD i default)) (a0r ty_164.h rfl (by first | exact Nat.le_of_ble_eq_true rfl | omega | (dsimp only;omega) | (simp <;> omega)) (fun h=>(by first | rfl | cases h))) (rfl)) rfl rfl a0g rfl rfl (k':=1) rfl ?_
  refine clx (c4C (e.getD i default) om om) ?_
  refine ru 8 ?_
  first
  | refine b5U 30 7 27 false _ (fun hb=>HOp.val (v':=.os 8001 g (op.length - (e.getD i default).kids.length) (e.getD i default).kids.length) (b0c el_49.h rfl (.inr ⟨_,_,rfl,rfl⟩) (.inl ⟨rfl,rfl⟩) (by first | exact Nat.le_of_ble_eq_true rfl | (simp at hb;first | omega | (dsimp only;omega) | (simp <;> omega)) | omega | (dsimp only;omega)) (by first | exact Nat.le_of_ble_eq_true rfl | (simp at hb;first | omega | (dsimp only;omega) | (simp <;> omega)) | omega | (dsimp only;omega)) (by first | exact Nat.le_of_ble_eq_true rfl | (simp at hb;first | omega | (dsimp only;omega) | (simp <;> omega)) | omega | (dsimp only;omega))) (c6F (by simp at hb;omega) (by simp at hb;omega))) rfl rfl rfl rfl a0g rfl rfl rfl (k':=11) rfl ?_
  | refine b5U 30 7 27 false _ (fun hb=>HOp.val (v':=.os 8001 g (op.length - (e.getD i default).kids.length) (e.getD i default).kids.length) (b0g el_49.h rfl (.inr ⟨_,_,rfl,rfl⟩) (.inl ⟨rfl,rfl⟩) (by first | exact Nat.le_of_ble_eq_true rfl | (simp at hb;first | omega | (dsimp only;omega) | (simp <;> omega)) | omega | (dsimp only;omega)) (by first | exact Nat.le_of_ble_eq_true rfl | (simp at hb;first | omega | (dsimp only;omega) | (simp <;> omega)) | omega | (dsimp only;omega)) (by first | exact Nat.le_of_ble_eq_true rfl | (simp at hb;first | omega | (dsimp only;omega) | (simp <;> omega)) | omega | (dsimp only;omega))) (c6F (by simp at hb;omega) (by simp at hb;omega))) rfl rfl rfl rfl (a0P rfl) rfl rfl rfl (k':=11) rfl ?_
  refine ru 1 ?_
  first
  | refine b5U 32 7 27 false _ (fun hb=>HOp.val (v':=a1u (e.getD i default).kids) (a0D ty_49.h rfl (by first | exact Nat.le_of_ble_eq_true rfl | (simp at hb;first | omega | (dsimp only;omega) | (simp <;> omega)) | omega | (dsimp only;omega)) (by first | exact Nat.le_of_ble_eq_true rfl | (simp at hb;first | omega | (dsimp only;omega) | (simp <;> omega)) | omega | (dsimp only;omega)) (fun h=>(by first | rfl | cases h))) (rfl)) rfl rfl rfl rfl (a0P rfl) rfl rfl rfl (k':=13) rfl ?_
  | refine b5U 32 7 27 false _ (fun hb=>HOp.val (v':=a1u (e.getD i default).kids) (a0r ty_49.h rfl (by first | exact Nat.le_of_ble_eq_true rfl | (simp at hb;first | omega | (dsimp only;omega) | (simp <;> omega)) | omega | (dsimp only;omega)) (fun h=>(by first | rfl | cases h))) (rfl)) rfl rfl rfl rfl a0g rfl rfl rfl (k':=13) rfl ?_
  refine b5U 33 7 27 false _ (fun hb=>a0C (xs:=[_,_]) (pre:=[(8001,_)]) (c4L g (op.length - (e.getD i default).kids.length) (e.getD i default).kids.length op (e.getD i default).kids om om (c5A hb)) ⟨rfl,⟨rfl,trivial⟩⟩) rfl rfl rfl rfl (a0i rfl a0g) rfl rfl rfl (k':=14) rfl ?_
  refine ru 2 ?_
  refine b0h kr kr (c':=c+18) rfl ?_
  refine ru 1 ?_
  refine wdc (fun hr1 hc1=>?_) (fun hr1 hc1=>?_)
  ·skip
   have hf:=c1t hr1;rw [hf,Bool.false_and] at hst
   refine ru 9 ?_
   refine a0o ?_
   refine ru 2 ?_
   refine rt1 ?_
   rw [←hR,hst];exact .imm _
  obtain ⟨hf,hkl⟩:=b8B hr1;rw [hf,Bool.true_and] at hst
  refine ru 7 ?_
  refine a0u 40 (a0b (id:=40) (hs:=[_]) ei_49.h omx rfl omx ⟨rfl,rfl,rfl,rfl,trivial⟩) rfl rfl a0g rfl rfl (c':=c+19) rfl ?_
  first
  | refine a0u 41 (a0a ei_49.h (by first | exact Nat.le_of_ble_eq_true rfl | omega | (dsimp only;omega) | (simp <;> omega)) rfl (by first | exact Nat.le_of_ble_eq_true rfl | omega | (dsimp only;omega) | (simp <;> omega)) (by first | exact Nat.le_of_ble_eq_true rfl | omega | (dsimp only;omega) | (simp <;> omega)) (a0x rfl (by first | exact Nat.le_of_ble_eq_true rfl | omega | (dsimp only;omega) | (simp <;> omega))) (by first | exact Nat.le_of_ble_eq_true rfl | omega | (dsimp only;omega) | (simp <;> omega)) rfl) rfl rfl (a0i rfl (a0P rfl)) rfl rfl (c':=c+20) rfl ?_
  | refine a0u 41 (a0a ei_49.h (by first | exact Nat.le_of_ble_eq_true rfl | omega | (dsimp only;omega) | (simp <;> omega)) rfl (by first | exact Nat.le_of_ble_eq_true rfl | omega | (dsimp only;omega) | (simp <;> omega)) (by first | exact Nat.le_of_ble_eq_true rfl | omega | (dsimp only;omega) | (simp <;> omega)) (a0S rfl (by first | exact Nat.le_of_ble_eq_true rfl | omega | (dsimp only;omega) | (simp <;> omega))) (by first | exact Nat.le_of_ble_eq_true rfl | omega | (dsimp only;omega) | (simp <;> omega)) rfl) rfl rfl (a0i rfl (a0P rfl)) rfl rfl (c':=c+20) rfl ?_
  | refine a0u 41 (a0a ei_49.h (by first | exact Nat.le_of_ble_eq_true rfl | omega | (dsimp only;omega) | (simp <;> omega)) rfl (by first | exact Nat.le_of_ble_eq_true rfl | omega | (dsimp only;omega) | (simp <;> omega)) (by first | exact Nat.le_of_ble_eq_true rfl | omega | (dsimp only;omega) | (simp <;> omega)) (a0O rfl) (by first | exact Nat.le_of_ble_eq_true rfl | omega | (dsimp only;omega) | (simp <;> omega)) rfl) rfl rfl (a0i rfl a0g) rfl rfl (c':=c+20) rfl ?_
  | refine a0u 41 (a0a ei_49.h (by first | exact Nat.le_of_ble_eq_true rfl | omega | (dsimp only;omega) | (simp <;> omega)) rfl (by first | exact Nat.le_of_ble_eq_true rfl | omega | (dsimp only;omega) | (simp <;> omega)) (by first | exact Nat.le_of_ble_eq_true rfl | omega | (dsimp only;omega) | (simp <;> omega)) (a0z 1 (fun _ _=>default) rfl) (by first | exact Nat.le_of_ble_eq_true rfl | omega | (dsimp only;omega) | (simp <;> omega)) rfl) rfl rfl (a0i rfl a0g) rfl rfl (c':=c+20) rfl ?_
  refine ru 8 ?_
  exact hL1 ((i+1,op.take (op.length - (e.getD i default).kids.length)++[(i:Int)],c+19)) _ _ (by (try dsimp only);exact ⟨by omega,by rw [List.length_append,List.length_take];show _+1≤_;omega,by rw [←hst];exact hR⟩) (by (try dsimp only);omega) (a0c rfl (Nat.le_refl _) (tsr rfl (a0t.cons rfl (by dsimp only;exact a3k (by rw [List.length_append,List.length_take];show _+1=_+1;omega)) tsa)) (a0f.cons rfl (by dsimp only;exact c1w (k:=op.length - (e.getD i default).kids.length) (r:=(i:Int)) om om (fun _=>rfl)) a0f.nil))
 refine ru 2 ?_
 refine a0d ?_
 refine ru 16 ?_
 refine rt1 ?_
 rw [←hR,List.drop_eq_nil_of_le om];exact a3d (by simp only [a2O,b7p,c6l,c8e])
theorem b8c {e:List Pt} {j k:Nat} {x:Pt} (hj:j=k) (h:e.getD k default=x):ldv true 5 (b6U e j) 0=ptH x:=by subst hj;subst h;rfl
theorem b9I {l:List Pt} {i:Nat} (h:i < l.length):l.getD i default∈l:=by
 rw [List.getD_eq_getElem?_getD,List.getElem?_eq_getElem h];exact List.getElem_mem h
theorem b5f {t:T} (h:t.ok=true) (hs:t.size≤100000):PtB (T.flat 0 t):=by
 refine ⟨by rw [T.flat_len];exact hs,fun i hi=>?_⟩
 have:=a7y t 0 h _ (b9I hi)
 omega
theorem b4J {s:List UInt8} {r:List Pt×Int×Int} (h:ParseIs s r):PtB r.1∧(r.2.2=0→rightV r.1=true):=by
  have hB0:PtB ([]:List Pt):=⟨Nat.zero_le _,fun i hi=>absurd hi (Nat.not_lt_zero _)⟩
  have hlen:=a8b s
  cases h with
  | err e hv=>exact ⟨hB0,fun h=>absurd h (a6K hv)⟩
  | none hv=>exact ⟨hB0,fun _=>rfl⟩
  | odd _ _ _ _ _ _=>exact ⟨hB0,fun h=>absurd (show (2:Int)=0 from h) (by decide)⟩
  | end_ _ _ _ _=>exact ⟨hB0,fun h=>absurd (show (5:Int)=0 from h) (by decide)⟩
  | ok l t hv hs =>
    rw [hv] at hlen
    have hll:l.length≤200:=hlen
    have hk:=c3g (b3i hv) hs
    have hz:=a2J hs
    exact ⟨b5f hk (by omega),fun _=>a4y hk⟩
end Go.Proofs.YtdbbbafiegpbpaaGreatDoor
namespace Go.Proofs.YtdbbbafiegpbpaaGreatDoor
set_option linter.unusedSimpArgs false
set_option linter.unusedVariables false
def T.kidsT:T→List T
 | .name _=>[]
 | .times _ _ t=>[t]
 | .many _ ts=>ts
theorem a6T (b:Nat) (t:T):(t.top b).kids=rootsL b t.kidsT:=by
 cases t <;> simp [T.top,T.kidsT,rootsL]
theorem a2p {e:List Pt} {b i:Nat} {t:T} (h:AtP e b (T.flat b t)) (hi:i < t.kidsT.length):AtP e (b+T.sizeL (t.kidsT.take i)) (T.flat (b+T.sizeL (t.kidsT.take i)) (t.kidsT.getD i default)):=by
  cases t with
  | name s=>exact absurd hi (Nat.not_lt_zero _)
  | times lo hi' t =>
    obtain rfl:i=0:=by simpa [T.kidsT] using hi
    simp only [T.flat] at h
    have:=a4J h
    simpa [T.kidsT,T.sizeL] using this
  | many k ts=>exact c7V h hi
theorem c5v {t:T} (h:t.ok=true):t.kind=1∨t.kind=2∨t.kind=3∨t.kind=4:=by
  cases t with
  | name s=>exact .inl rfl
  | times lo hi t=>exact .inr (.inr (.inr rfl))
  | many k ts =>
    simp only [T.ok,Bool.and_eq_true,Bool.or_eq_true,decide_eq_true_eq] at h
    rcases h.1.1 with hk | hk
    · exact .inr (.inl hk)
    · exact .inr (.inr (.inl hk))
def b7d (o:List (List UInt8)) (x:Pt):List (List UInt8):=if x.kind=1∧x.name∉o then o++[x.name] else o
def a2h (e:List Pt):List (List UInt8):=e.foldl b7d []
theorem a7u {e:List Pt} {i:Nat} (h:i < e.length):a2h (e.take (i+1))=b7d (a2h (e.take i)) (e.getD i default):=by
 have:e.take (i+1)=e.take i++[e.getD i default]:=by
  rw [List.take_add_one,List.getD_eq_getElem?_getD,List.getElem?_eq_getElem h];rfl
 unfold a2h
 rw [this,List.foldl_append];rfl
theorem a8C {e:List Pt}:∀ i,(a2h (e.take i)).length≤i
  | 0=>by simp [a2h]
  | i + 1 => by
    have ih:=a8C (e:=e) i
    rcases Nat.lt_or_ge i e.length with h | h
    · rw [a7u h]
      unfold b7d
      split
      · rw [List.length_append];show _+1≤_;omega
      · omega
    · rw [List.take_of_length_le (by omega)]
      rw [List.take_of_length_le (by omega)] at ih
      omega
end Go.Proofs.YtdbbbafiegpbpaaGreatDoor
namespace Go.Proofs.YtdbbbafiegpbpaaGreatDoor
set_option linter.unusedSimpArgs false
set_option linter.unusedVariables false
set_option maxRecDepth 100000
set_option maxHeartbeats 1000000
open Go.RowKit
def a3J (n:Nat):Int:=if n < 257 then n else 257
theorem a6i:∀ (ts:List T) (i:Nat),i < ts.length→T.wL (ts.take (i+1))=T.wL (ts.take i)+(ts.getD i default).w
  | [],i,h=>absurd h (Nat.not_lt_zero _)
  | t::ts,0,_=>by simp [T.wL]
  | t :: ts, i + 1, h => by
    have:=a6i ts i (by simpa using h)
    simp only [List.take_succ_cons,T.wL]
    rw [this]
    simp
    omega
theorem b6l (a b:Nat):(if 257 < a3J a+a3J b then (257:Int) else a3J a+a3J b)=a3J (a+b):=by
 unfold a3J;split <;> split <;> split <;> split <;> omega
theorem b1m (a k:Nat) (hk:k≤1000):(if 257 < a3J a * (k:Int) then (257:Int) else a3J a * (k:Int))=a3J (a * k)∧0≤a3J a * (k:Int)∧a3J a * (k:Int)≤257000:=by
 have h0:0≤a3J a∧a3J a≤257:=by unfold a3J;split <;> omega
 have h1:0≤a3J a * (k:Int):=Int.mul_nonneg h0.1 (by omega)
 have h2:a3J a * (k:Int)≤257 * (k:Int):=Int.mul_le_mul_of_nonneg_right h0.2 (by omega)
 refine ⟨?_,h1,by omega⟩
 by_cases ha:a < 257
 ·have e:a3J a=(a:Int):=by unfold a3J;rw [if_pos ha]
  rw [e]
  have e2:((a:Int) * (k:Int))=((a * k:Nat):Int):=by rw [Int.natCast_mul]
  rw [e2]
  unfold a3J
  split <;> split <;> omega
 ·have e:a3J a=257:=by unfold a3J;rw [if_neg ha]
  rw [e]
  rcases Nat.eq_zero_or_pos k with rfl | hk0
  ·simp [a3J]
  ·have h3:257≤a * k:=Nat.le_trans (by omega:257≤a) (Nat.le_mul_of_pos_right a hk0)
   have e3:a3J (a * k)=257:=by unfold a3J;rw [if_neg (by omega)]
   rw [e3]
   split <;> omega
theorem b0F (a:Nat):0≤a3J a∧a3J a≤257:=by unfold a3J;split <;> omega
theorem c3t {t:T} (h:t.kind=1) (hok:t.ok=true):t.w=1:=by
 cases t with
 | name s=>rfl
 | times lo hi t=>simp [T.kind] at h
 | many k ts=>simp [T.kind] at h;subst h;simp [T.ok] at hok
theorem b4S {t:T} (h:t.kind=4) (hok:t.ok=true):∃ lo hi u,t=.times lo hi u:=by
 cases t with
 | name s=>simp [T.kind] at h
 | times lo hi t=>exact ⟨lo,hi,t,rfl⟩
 | many k ts=>simp [T.kind] at h;subst h;simp [T.ok] at hok
theorem b0k {t:T} (h1:t.kind≠1) (h:t.kind≠4):t.w=T.wL t.kidsT:=by
 cases t with
 | name s=>simp [T.kind] at h1
 | times lo hi t=>simp [T.kind] at h
 | many k ts=>simp [T.w,T.kidsT]
theorem a6F (lo hi:Int) (h1:0≤lo):(if hi < 0 then (if lo < 1 then 1 else lo) else hi)=((a0j lo hi:Nat):Int):=by
 unfold a0j;split <;> (try split) <;> omega
theorem a8z {t:T} (b:Nat) (h:t.kind=4) (hok:t.ok=true):t.w=T.wL t.kidsT * a0j (t.top b).low (t.top b).high∧0≤(t.top b).low∧(t.top b).low≤20∧(t.top b).high≤20∧a0j (t.top b).low (t.top b).high≤20:=by
 obtain ⟨lo,hi,u,rfl⟩:=b4S h hok
 simp only [T.ok,Bool.and_eq_true,Bool.or_eq_true,decide_eq_true_eq] at hok
 refine ⟨by simp [T.w,T.kidsT,T.wL,T.top],hok.1.1.1,hok.1.1.2,?_,?_⟩
 ·show hi≤20;omega
 ·show a0j lo hi≤20
  unfold a0j
  split <;> (try split) <;> omega
@[reducible] def PlC (e:List Pt) (b:Nat) (t:T):Prop:=HPure Tryz.prog 55 [ptsV e,intV ((b+t.size - 1:Nat):Int)] (intV (a3J t.w))
theorem a7w (e:List Pt) (he:e.length≤100000) (b:Nat) (t:T) (hok:t.ok=true) (hat:AtP e b (T.flat b t)) (hkl:t.kidsT.length≤100000)
  (ih:∀ i,i < t.kidsT.length→PlC e (b+T.sizeL (t.kidsT.take i)) (t.kidsT.getD i default)):PlC e b t:=by
 have htop:=a3x hat
 have hps:=t.size_pos
 have hkid:=a6T b t
 have hrl:=a0K t.kidsT b
 generalize htp:t.top b=p at htop hkid
 have hpk:p.kind=t.kind:=by rw [←htp];exact a6s b t
 refine a0k Tryz.func55 rfl kr _ _ _ rfl 46 rfl rfl (fun w F=>?_)
 refine ru 11 ?_
 refine rvl (ptH p) (b8c om htop.1) ?_
 refine ru 12 ?_
 refine wdc (fun hr0 hc0=>?_) (fun hr0 hc0=>?_)
 ·refine ru 7 ?_
  refine rt1 ?_
  rw [c3t (by rw [←hpk];exact hc0) hok];exact .imm _
 refine ru 17 ?_
 refine a0l (α:=Nat) (fun x c=>⟨46,[(0,.v (ptsV e)),(5,.v (.pt 5 0 0 0)),(6,.v (intV (a3J (T.wL (t.kidsT.take x))))),(18,.v (a1u p.kids)),(19,.v (intV p.kids.length)),(20,.v (intV x))],[(5,⟨0,1,5,164,0,fun _=>ptF p⟩)],c⟩) (fun x=>x≤t.kidsT.length) (fun x=>t.kidsT.length - x) (0) om (a0c rfl (Nat.le_refl _) tsa hsa) (fun i c hx NhL1 hL1=>?_)
 (try dsimp only at hx hL1 ⊢)
 have hm1:=b0F (T.wL (t.kidsT.take i))
 refine ru 6 ?_
 refine wdc (fun hr1 hc1=>?_) (fun hr1 hc1=>?_)
 ·skip
  have him:i < t.kidsT.length:=(by have h:=hr1;simp [hkid,hrl] at h;omega);have hka:=a2p hat him;have hkt:=a3x hka;have hks:=(t.kidsT.getD i default).size_pos;have hroot:=a2T t.kidsT b i him;have hm2:=b0F (t.kidsT.getD i default).w;have hwt:=a6i t.kidsT i him;have hma:=b6l (T.wL (t.kidsT.take i)) (t.kidsT.getD i default).w
  refine ru 8 ?_
  refine rvl (intV ((b+T.sizeL (t.kidsT.take i)+(t.kidsT.getD i default).size - 1:Nat):Int)) (by exact a1O (i:=i) om (by rw [hkid,hroot];unfold T.root;omega)) ?_
  refine ru 7 ?_
  refine cll (ih i him) ?_
  refine ru 2 ?_
  refine rvl (intV (a3J (T.wL (t.kidsT.take (i+1))))) (by rw [hwt,←hma]) ?_
  refine ru 8 ?_
  exact hL1 (i+1) _ _ (by (try dsimp only);omega) (by (try dsimp only);omega) (a0c rfl (Nat.le_refl _) tsa hsa)
 have hit:i=t.kidsT.length:=(by have h:=hr1;simp [hkid,hrl] at h;omega);rw [hit,List.take_length]
 refine ru 2 ?_
 refine a0d ?_
 refine ru 10 ?_
 refine wdc (fun hr2 hc2=>?_) (fun hr2 hc2=>?_)
 ·skip
  have hct:=a8z b (by rw [←hpk];exact hc2) hok;rw [htp] at hct;have hmi:=a6F p.low p.high hct.2.1;have hmm:=b1m (T.wL t.kidsT) (a0j p.low p.high) om
  refine ru 7 ?_
  refine a6L (α:=Nat) (fun x c=>⟨46,[(5,.v (.pt 5 0 0 0)),(6,.v (intV (a3J (T.wL t.kidsT)))),(9,.v (intV ((a0j p.low p.high:Nat):Int)))],[(5,⟨0,1,5,164,0,fun _=>ptF p⟩)],c⟩) (fun x=>True) (fun NhJ2 hJ2=>?_) (fun k c hx=>?_)
  ·refine ru 6 ?_
   refine wdc (fun hr3 hc3=>?_) (fun hr3 hc3=>?_)
   ·refine ru 4 ?_
    refine rvl (intV ((a0j p.low p.high:Nat):Int)) (by rw [←hmi,if_pos hc3]) ?_
    refine ru 2 ?_
    exact hJ2 (0) _ _ (by (try dsimp only);first | done | trivial) (a0c rfl (Nat.le_refl _) tsa hsa)
   refine ru 1 ?_
   exact hJ2 (0) _ _ (by (try dsimp only);first | done | trivial) (a0c rfl (Nat.le_refl _) (tsr rfl (tsr rfl (a0t.cons rfl (by rw [←hmi,if_neg hc3];exact .refl _) a0t.nil))) hsa)
  ·skip
   (try dsimp only at hx ⊢)
   refine ru 5 ?_
   refine rvl (intV (a3J t.w)) (by rw [hct.1,←hmm.1]) ?_
   refine ru 10 ?_
   refine rt1 ?_
   exact .imm _
 have hwm:=b0k (by rw [←hpk];exact hc0) (by rw [←hpk];exact hc2);rw [←hwm]
 refine ru 9 ?_
 refine rt1 ?_
 exact .imm _
theorem b2Y:∀ ts:List T,ts.length≤T.sizeL ts
 | []=>Nat.zero_le _
 | t::ts=>by have:=b2Y ts;have:=t.size_pos;simp only [List.length_cons,T.sizeL];omega
theorem a6I {t:T}:t.kidsT.length≤t.size:=by
 cases t with
 | name s=>exact Nat.zero_le _
 | times lo hi t=>simp [T.kidsT,T.size]
 | many k ts=>have:=b2Y ts;simp only [T.kidsT,T.size];omega
mutual
theorem b1n (e:List Pt) (he:e.length≤100000):∀ (t:T) (b:Nat),t.ok=true→AtP e b (T.flat b t)→PlC e b t
  | .name s,b,hok,hat=>a7w e he b (.name s) hok hat (Nat.zero_le _) (fun i hi=>absurd hi (Nat.not_lt_zero _))
  | .times lo hi t, b, hok, hat => by
    have hok':t.ok=true:=by simp only [T.ok,Bool.and_eq_true] at hok;exact hok.2
    refine a7w e he b (.times lo hi t) hok hat (by simp [T.kidsT]) (fun i hi=>?_)
    obtain rfl:i=0:=by simpa [T.kidsT] using hi
    have:=b1n e he t b hok' (by simp only [T.flat] at hat;exact a4J hat)
    simpa [T.kidsT,T.sizeL] using this
  | .many k ts, b, hok, hat => by
    have hok':T.okL ts=true:=by simp only [T.ok,Bool.and_eq_true] at hok;exact hok.2
    have hkl:(T.many k ts).kidsT.length≤100000:=by
      have:=a6I (t:=.many k ts);have:=(a3x hat).2;omega
    exact a7w e he b (.many k ts) hok hat hkl (fun i hi=>b2k e he ts hok' i hi _ (a2p hat hi))
theorem b2k (e:List Pt) (he:e.length≤100000):∀ ts:List T,T.okL ts=true→∀ i,i < ts.length→∀ b,AtP e b (T.flat b (ts.getD i default))→PlC e b (ts.getD i default)
  | [],_,i,hi=>absurd hi (Nat.not_lt_zero _)
  | t :: ts, hok, i, hi => fun b hat => by
    simp only [T.okL,Bool.and_eq_true] at hok
    cases i with
    | zero=>exact b1n e he t b hok.1 hat
    | succ i=>exact b2k e he ts hok.2 i (by simpa using hi) b (by simpa using hat)
end
@[reducible] def c9k (l:List Pc):Nat→Nat→HV:=fun i=>pcF (l.getD i default)
@[reducible] def c0L (l:List Pc):HV:=.sl 9 l.length (c9k l)
@[reducible] def c9F (g:Nat) (l:List Pc):HObj:=⟨g,l.length,9,128,0,c9k l⟩
instance (l:List Pc):Frz (c0L l):=⟨.sl _ _ _ _ fun i j _ _=>b2l _ j⟩
theorem c8W {sh:List (Nat×HObj)} {f:Nat→HV} {p:Pc} (h:∀ j,j < 9→f j=pcF p j):Fz sh (.agg 9 f) (pcH p):=.agg _ _ _ fun j hj=>by rw [h j hj];exact b2l p j
theorem c6T (l:List Pc):HPure Tryz.prog 106 [c0L l] (.fn (.func 114) 1 (fun i=>[HV.fp 1 (fun _=>c0L l)].getD i default)):=by
 refine a0k Tryz.func106 rfl kr _ _ _ rfl 4 rfl rfl (fun w F=>?_)
 refine ru 13 ?_
 refine a5f rfl (a0h rfl) [(1,_)] rfl (a0i rfl a0g) ?_
 exact .fn _ _ _ _ (fun i hi=>by obtain rfl:i=0:=(by simpa using hi);exact .pt 1 0 0 0 1 _ (fun _=>c0L l) (List.mem_cons_self ..) rfl (Nat.lt_succ_self 0) (Nat.le_refl 1) (fun j hj=>show Fz _ (c0L l) (c0L l) from Frz.fz))
theorem c5G (l:List Pc) (hl:l.length≤100000):b9S Tryz.prog 114 [.fp 1 (fun _=>c0L l)] l.length (fun i=>[intV ((l.length - 1 - i:Nat):Int),pcH (l.getD (l.length - 1 - i) default)]):=by
 refine b5r Tryz.func114 rfl kr _ _ _ _ rfl 19 rfl rfl (fun X hXN hXy O W F hg=>?_)
 refine ru 9 ?_
 refine b1x (α:=Nat) (fun x=>[(0,.v (.fn (.yield X.l) 0 fun _=>default)),(1,.v (.fp 1 (fun _=>c0L l))),(3,.v (intV ((x:Int) - 1)))]) (fun x=>x≤l.length) (fun x=>l.length - x) (fun x=>x) (l.length) (by exact Nat.le_refl _) (by first | exact hg | simpa using hg) (a0c rfl (Nat.le_refl _) tsa a0f.nil) (fun r O W F c hx hg NhL1 hL1=>?_)
 (try dsimp only at hx hg hL1 ⊢)
 refine ru 7 ?_
 refine wdc (fun hr0 hc0=>?_) (fun hr0 hc0=>?_)
 ·skip
  have hr0:0 < r:=om;have hrr:l.length - 1 - (l.length - r)=r - 1:=om;have hrn:((r:Int) - 1).toNat=r - 1:=om
  refine ru 12 ?_
  refine b5C hg (by rw [hXN];omega) (xs:=[_,_]) [(0,.v (.fn (.yield X.l) 0 fun _=>default)),(1,.v (.fp 1 (fun _=>c0L l))),(3,.v (intV ((r:Int) - 1)))] rfl ⟨rfl,⟨rfl,trivial⟩⟩ (by rw [hXy];exact ⟨b4C (by rw [hrr];omega),c8W (fun j hj=>by rw [hrr];show pcF _ j=_;rw [hrn]),trivial⟩) (b2E.cons rfl (Fz.eq rfl) (b2E.cons rfl (Fz.eq rfl) (b2E.cons rfl (Fz.eq rfl) b2E.nil))) rfl (fun O W F hg=>?_) (fun W F hfr hjx=>?_)
  ·refine ru 1 ?_
   refine a3U ?_
   refine ru 1 ?_
   refine wdc (fun hr1 hc1=>?_) (fun hr1 hc1=>?_)
   ·skip
    exfalso;simp at hr1
   refine ru 6 ?_
   refine rvl (intV (((r - 1:Nat):Int) - 1)) (congrArg intV om) ?_
   refine ru 2 ?_
   exact hL1 (r - 1) O W F _ _ (by (try dsimp only);omega) (by (try dsimp only);omega) (by (try dsimp only);rw [show l.length - (r - 1)=l.length - r+1 by omega];exact hg) (a0c rfl (Nat.le_refl _) tsa a0f.nil)
  ·refine ru 1 ?_
   refine a3U ?_
   refine ru 1 ?_
   refine wdc (fun hr1 hc1=>?_) (fun hr1 hc1=>?_)
   ·refine ru 3 ?_
    refine a0o ?_
    refine ru 1 ?_
    refine b1f rfl ?_
    exact .inr ⟨_,by rw [hXN];omega,hjx⟩
   exfalso;simp at hr1
 refine ru 2 ?_
 refine a0d ?_
 refine ru 1 ?_
 refine a1Y ?_
 refine b1f rfl ?_
 obtain rfl:r=0:=om;exact .inl ⟨O,by have hj:=hg.j;rw [hXN];simpa using hj⟩
@[reducible] def nbO (g g1:Nat):HObj:=⟨g,1,1,55,0,fun _ _=>.pt 9001 g1 0 0⟩
@[reducible] def pcO (g:Nat) (x:Pc):HObj:=⟨g,1,9,128,0,fun _=>pcF x⟩
@[reducible] def onF (l:List Bag):Nat→Bag:=fun p=>l.getD p Bag.zero
@[reducible] def c2e (g1 g2 g3 N:Nat) (on:List Bag) (β:Nat→Bag):List (Nat×HObj):=[(9001,a9D g1 (.os 9002 g2 0 N) (.os 9003 g3 0 N)),(9002,a4t g2 N (onF on)),(9003,a4t g3 N β)]
@[reducible] def b7m (g1 g2 g3 g4 N:Nat) (on:List Bag) (β:Nat→Bag):List (Nat×HObj):=[(9001,a9D g1 (.os 9002 g2 0 N) (.os 9003 g3 0 N)),(9002,a4t g2 N (onF on)),(9003,a4t g3 N β),(9011,nbO g4 g1)]
def lkA (lo hi:Int) (g:Nat→Ly) (many k:Nat):List Lk:=(a3S lo hi g many k).2.1++(g k).lk++(if hi < 0∧k+1=many then [((g k).pc.ends,(g k).pc.first)] else [])
theorem b8h {lo hi:Int} {g:Nat→Ly} {many k:Nat} (h:(k:Int) < lo):a3S lo hi g many (k+1)=((a3S lo hi g many k).1++(g k).on,lkA lo hi g many k++[((a3S lo hi g many k).2.2.1.ends,(g k).pc.first)],(a3S lo hi g many k).2.2.1.join (g k).pc,(a3S lo hi g many k).2.2.2):=by
 simp only [a3S];rw [if_pos h];rfl
theorem c0C {lo hi:Int} {g:Nat→Ly} {many k:Nat} (h:¬ (k:Int) < lo):a3S lo hi g many (k+1)=((a3S lo hi g many k).1++(g k).on,lkA lo hi g many k,(a3S lo hi g many k).2.2.1,(a3S lo hi g many k).2.2.2++[(g k).pc]):=by
 simp only [a3S];rw [if_neg h];rfl
theorem c6D {lo hi:Int} {g:Nat→Ly} {many N w k:Nat} (hg:∀ k,k < many→(g k).Ok (N+k * w) w) (hk:k < many):Lks (N+k * w+w) (lkA lo hi g many k):=by
 have hx:=hg k hk
 refine (((b1N hg k (by omega)).2.2.1.mono (by omega)).app hx.lk).app ?_
 split
 ·exact a5l hx.pc.2 hx.pc.1 hx.inB.2
 ·exact fun q hq=>by cases hq
theorem a5V {N M:Nat} {x:Bag} (h:InB N M x):∀ p,p < 256→x.has p=true→p < M:=fun p hp hx=>(h p hp hx).2
theorem b5y {lo hi:Int} {g:Nat→Ly} {many:Nat}:∀ k,(a3S lo hi g many k).2.2.2.length≤k
  | 0=>Nat.le_refl _
  | k + 1 => by
    have:=b5y (lo:=lo) (hi:=hi) (g:=g) (many:=many) k
    by_cases h:(k:Int) < lo
    · rw [b8h h];simp only;omega
    · rw [c0C h];simp only [List.length_append,List.length_singleton];omega
theorem b0J {l:List Pc} {j:Nat} (h:j < l.length):l.drop (l.length - (j+1))=l.getD (l.length - 1 - j) default::l.drop (l.length - j):=by
 have e:l.length - (j+1)=l.length - 1 - j:=by omega
 have hlt:l.length - 1 - j < l.length:=by omega
 rw [e,List.drop_eq_getElem_cons hlt,List.getD_eq_getElem?_getD,List.getElem?_eq_getElem hlt]
 simp only [Option.getD_some]
 congr 2
 omega
theorem b5i {l:List Pc} {j:Nat} (h:j < l.length):l.getD j default∈l:=by
 rw [List.getD_eq_getElem?_getD,List.getElem?_eq_getElem h];exact List.getElem_mem h
theorem c1C (c g1 g2 g3 g4 N0 w:Nat) (on:List Bag) (β:Nat→Bag) (hon:on.length=N0) (hβ:∀ p,(β p).ok) (hz:∀ p,N0≤p→p < 256→β p=Bag.zero) (p:Pt) (g:Nat→Ly) (x1 x2 x3:HV) (hlo:0≤p.low) (hlo2:p.low≤20) (hhi:p.high≤20) (hm20:a0j p.low p.high≤20)
  (hg:∀ k,k < a0j p.low p.high→(g k).Ok (N0+k * w) w) (hN:N0+a0j p.low p.high * w≤256)
  (hag:∀ k,k < a0j p.low p.high→∀ M c g2 g3 on β,M=N0+k * w→on.length=M→(∀ p,(β p).ok)→(∀ p,M≤p→p < 256→β p=Bag.zero) →
   a4s Tryz.prog 90 c ([]++[.pt 9011 g4 0 0,x1,x2,x3]) (b7m g1 g2 g3 g4 M on β) (a9t (fun (y:Nat×Nat) _=>True) (fun _=>pcH (g k).pc) (fun y=>b7m g1 y.1 y.2 g4 (M+w) (on++(g k).on) (links β (g k).lk)))) :
  a4s Tryz.prog 89 c [.pt 9001 g1 0 0,ptH p,.fn (.func 90) 4 (fun i=>[HV.pt 9011 g4 0 0,x1,x2,x3].getD i default)] (b7m g1 g2 g3 g4 N0 on β)
   (a9t (fun (y:Nat×Nat) _=>True) (fun _=>pcH (a6V p.low p.high g).pc) (fun y=>b7m g1 y.1 y.2 g4 (N0+a0j p.low p.high * w) (on++(a6V p.low p.high g).on) (links β (a6V p.low p.high g).lk))):=by
 have hmi:=a6F p.low p.high hlo
 obtain ⟨many,hmany⟩:∃ m,m=a0j p.low p.high:=⟨_,rfl⟩
 rw [←hmany] at hm20 hg hN hag hmi ⊢
 have hok:=b1N (lo:=p.low) (hi:=p.high) hg
 let k0:=c
 refine b0H Tryz.func89 rfl kr _ _ _ _ rfl 71 rfl rfl (fun X ok hX hM=>?_)
 refine ru 14 ?_
 refine a6L (α:=Nat) (fun x c=>⟨71,[(2,.v (.fn (.func 90) 4 (fun i=>[HV.pt 9011 g4 0 0,x1,x2,x3].getD i default))),(3,.v (.pt 3 k0 0 0)),(4,.v (.pt 4 (k0+1) 0 0)),(6,.v (.pt 6 (k0+2) 0 0)),(7,.v (intV (many:Int)))],[(9001,a9D g1 (.os 9002 g2 0 N0) (.os 9003 g3 0 N0)),(9002,a4t g2 N0 (onF on)),(9003,a4t g3 N0 β),(9011,nbO g4 g1),(3,nbO k0 g1),(4,⟨k0+1,1,5,164,0,fun _=>ptF p⟩),(6,pcO (k0+2) default)],c⟩) (fun x=>x≤0) (fun NhJ1 hJ1=>?_) (fun q c hx=>?_)
 ·refine ru 6 ?_
  refine wdc (fun hr0 hc0=>?_) (fun hr0 hc0=>?_)
  ·refine ru 4 ?_
   refine rvl (intV (many:Int)) (by rw [←hmi,if_pos hc0]) ?_
   refine ru 2 ?_
   exact hJ1 (0) _ _ (by (try dsimp only);first | done | exact Nat.le_refl _) (a0c rfl (Nat.le_refl _) tsa (hsr rfl (hsr rfl (hsr rfl (hsr rfl (hsr rfl (hsr rfl (a0f.cons rfl (a3c (by exact j9 rfl rfl rfl rfl rfl rfl rfl rfl rfl)) a0f.nil))))))))
  refine ru 1 ?_
  exact hJ1 (0) _ _ (by (try dsimp only);first | done | exact Nat.le_refl _) (a0c rfl (Nat.le_refl _) (tsr rfl (tsr rfl (tsr rfl (tsr rfl (a0t.cons rfl (by rw [←hmi,if_neg hc0];exact .refl _) a0t.nil))))) (hsr rfl (hsr rfl (hsr rfl (hsr rfl (hsr rfl (hsr rfl (a0f.cons rfl (a3c (by exact j9 rfl rfl rfl rfl rfl rfl rfl rfl rfl)) a0f.nil))))))))
 ·skip
  (try dsimp only at hx ⊢)
  let k1:=c
  refine ru 20 ?_
  refine a4O 9 8009 9 128 ((c9k [])) rfl (by decide) rfl (c':=c+3) rfl ?_
  refine a0l (α:=Nat×Nat×List Bag×(Nat→Bag)×Pc×List Pc×Nat×Nat×Nat) (fun x c=>⟨71,[(2,.v (.fn (.func 90) 4 (fun i=>[HV.pt 9011 g4 0 0,x1,x2,x3].getD i default))),(3,.v (.pt 3 k0 0 0)),(4,.v (.pt 4 (k0+1) 0 0)),(6,.v (.pt 6 (k0+2) 0 0)),(7,.v (intV (many:Int))),(8,.v (.pt 8 k1 0 0)),(9,.v (.os 8009 x.2.2.2.2.2.2.2.2 0 x.2.2.2.2.2.1.length)),(23,.v (intV (many:Int))),(24,.v (intV (x.1:Int)))],[(9001,a9D g1 (.os 9002 x.2.2.2.2.2.2.1 0 x.2.1) (.os 9003 x.2.2.2.2.2.2.2.1 0 x.2.1)),(9002,a4t x.2.2.2.2.2.2.1 x.2.1 (onF x.2.2.1)),(9003,a4t x.2.2.2.2.2.2.2.1 x.2.1 x.2.2.2.1),(9011,nbO g4 g1),(3,nbO k0 g1),(4,⟨k0+1,1,5,164,0,fun _=>ptF p⟩),(6,pcO (k0+2) default),(8,pcO k1 x.2.2.2.2.1),(8009,c9F x.2.2.2.2.2.2.2.2 x.2.2.2.2.2.1)],c⟩) (fun x=>x.1≤many∧x.2.1=N0+x.1 * w∧x.2.2.1=on++(a3S p.low p.high g many x.1).1∧x.2.2.2.1=links β (a3S p.low p.high g many x.1).2.1∧x.2.2.2.2.1=(a3S p.low p.high g many x.1).2.2.1∧x.2.2.2.2.2.1=(a3S p.low p.high g many x.1).2.2.2) (fun x=>many - x.1) ((0,N0,on,β,Pc.nil,[],g2,g3,c+2)) (by exact ⟨Nat.zero_le _,by simp,by simp [a3S],rfl,rfl,rfl⟩) (a0c rfl (Nat.le_refl _) tsa (hsr rfl (hsr rfl (hsr rfl (hsr rfl (hsr rfl (hsr rfl (hsr rfl (a0f.cons rfl (a3c (by exact j9 rfl rfl rfl rfl rfl rfl rfl rfl rfl)) hsa))))))))) (fun x c hx NhL2 hL2=>?_)
  revert hx hL2;obtain ⟨kk,MM,on1,be1,ou1,rs1,y2,y3,gr⟩:=x;intro hx hL2;dsimp only at hx hL2 ⊢
  obtain ⟨hk,hMM,hon1,hbe1,hou1,hrs1⟩:=hx
  have hrl:=(show rs1.length≤kk by rw [hrs1];exact b5y kk)
  refine ru 6 ?_
  refine wdc (fun hr1 hc1=>?_) (fun hr1 hc1=>?_)
  ·skip
   have hkm:kk < many:=om;have hgk:=hg kk hkm;obtain ⟨a1,a2,a3,a4,a5,a6⟩:=hok kk hk;have hkw:kk * w+w≤many * w:=(by rw [←Nat.succ_mul];exact Nat.mul_le_mul_right w hkm);have hMw:MM+w≤256:=om;have hine:InB (N0+kk * w) (MM+w) (g kk).pc.ends:=(by rw [hMM];exact hgk.inB.2);have hbe2:∀ q,(links be1 (g kk).lk q).ok:=a1h hgk.lk (by rw [hbe1];exact a1h a3 hβ);have hou2:ou1.ok:=(by rw [hou1];exact a4);have hino:InB N0 (MM+w) ou1.ends:=(by rw [hou1,hMM];exact a5.2.mono (Nat.le_refl _) om)
   refine ru 13 ?_
   refine b2o 28 (xs:=[]) (cs:=[_,_,_,_]) (pre:=[(9001,_),(9002,_),(9003,_),(9011,_)]) (hag kk hkm MM _ y2 y3 on1 be1 hMM (by rw [hon1,List.length_append,a1,hon,hMM]) (by rw [hbe1];exact a1h a3 hβ) (by rw [hbe1,hMM];exact a2B a3 (fun q hq hq2=>hz q om hq2))) rfl rfl (fun i hi=>by first | rfl | (rcases i with _ | _ | _ | _ | i <;> first | rfl | (exact absurd hi om) | (simp at hi))) trivial (a0i rfl (a0i rfl (a0i rfl (a0i rfl a0g)))) rfl rfl (fun x1 c1 hzz=>?_)
   obtain ⟨z2,z3⟩:=x1
   (try dsimp only)
   refine ru 4 ?_
   refine a6L (α:=Nat→Bag) (fun x c=>⟨71,[(2,.v (.fn (.func 90) 4 (fun i=>[HV.pt 9011 g4 0 0,x1,x2,x3].getD i default))),(3,.v (.pt 3 k0 0 0)),(4,.v (.pt 4 (k0+1) 0 0)),(6,.v (.pt 6 (k0+2) 0 0)),(7,.v (intV (many:Int))),(8,.v (.pt 8 k1 0 0)),(9,.v (.os 8009 gr 0 rs1.length)),(10,.v (intV (kk:Int))),(11,.v (.pt 11 c1 0 0)),(23,.v (intV (many:Int))),(24,.v (intV (kk:Int)))],[(9001,a9D g1 (.os 9002 z2 0 (MM+w)) (.os 9003 z3 0 (MM+w))),(9002,a4t z2 (MM+w) (onF (on1++(g kk).on))),(9003,a4t z3 (MM+w) x),(9011,nbO g4 g1),(3,nbO k0 g1),(4,⟨k0+1,1,5,164,0,fun _=>ptF p⟩),(6,pcO (k0+2) default),(8,pcO k1 ou1),(8009,c9F gr rs1),(11,pcO c1 (g kk).pc)],c⟩) (fun x=>x=links β (lkA p.low p.high g many kk)) (fun NhJ3 hJ3=>?_) (fun be2 c hx=>?_)
   ·refine ru 13 ?_
    refine wdc (fun hr2 hc2=>?_) (fun hr2 hc2=>?_)
    ·refine ru 6 ?_
     refine (a1a 40 [] rfl a0g rfl ((show Fz [] _ (bagH (g kk).pc.ends) from a1Z (by exact j4 rfl rfl rfl rfl)))).seq ?_
     refine (a1a 42 [] rfl a0g rfl ((show Fz [] _ (bagH (g kk).pc.first) from a1Z (by exact j4 rfl rfl rfl rfl)))).seq ?_
     refine hm_ 43 (a1R (xs:=[_,_,_]) (pre:=[(9001,_),(9002,_),(9003,_)]) (c2M (g kk).pc.ends (g kk).pc.first hgk.pc.2 hgk.pc.1 (MM+w) g1 z2 z3 _ _ hbe2 hMw (a5V hine)) ((c6w rfl)) ⟨rfl,⟨rfl,⟨rfl,trivial⟩⟩⟩) rfl rfl (a0i rfl (a0i rfl (a0i rfl a0g))) rfl rfl (c':=c1+3) rfl ?_
     refine ru 1 ?_
     exact hJ3 (a1W (links be1 (g kk).lk) ((g kk).pc.ends,(g kk).pc.first)) _ _ (by (try dsimp only);rw [hbe1];unfold lkA;rw [if_pos om,a0M,a0M];rfl) (a0c rfl (Nat.le_refl _) tsa hsa)
    refine ru 1 ?_
    exact hJ3 (links be1 (g kk).lk) _ _ (by (try dsimp only);rw [hbe1];unfold lkA;rw [if_neg (fun h=>by simp [h.1] at hc2;omega),List.append_nil,a0M]) (a0c rfl (Nat.le_refl _) tsa hsa)
   ·skip
    (try dsimp only at hx ⊢)
    have hbe3:∀ q,(be2 q).ok:=(by rw [hx];exact a1h (c6D hg hkm) hβ)
    refine ru 8 ?_
    refine wdc (fun hr3 hc3=>?_) (fun hr3 hc3=>?_)
    ·refine ru 4 ?_
     refine hm_ 51 (a1R (xs:=[_,_,_]) (pre:=[(9001,_),(9002,_),(9003,_)]) (b5B ou1 (g kk).pc hou2 hgk.pc (MM+w) g1 z2 z3 _ _ hbe3 hMw (a5V hino)) ((c6w rfl)) ⟨rfl,⟨rfl,⟨rfl,trivial⟩⟩⟩) rfl rfl (a0i rfl (a0i rfl (a0i rfl a0g))) rfl rfl (c':=c+1) rfl ?_
     refine ru 8 ?_
     exact hL2 ((kk+1,MM+w,on1++(g kk).on,a1W be2 (ou1.ends,(g kk).pc.first),ou1.join (g kk).pc,rs1,z2,z3,gr)) _ _ (by (try dsimp only);have hA:=b8h (hi:=p.high) (g:=g) (many:=many) (show (kk:Int) < p.low by omega);exact ⟨by omega,by rw [hMM,Nat.succ_mul,Nat.add_assoc],by rw [hA,hon1,List.append_assoc],by rw [hA,hx,hou1];simp only;rw [a0M];rfl,by rw [hA,hou1],by rw [hA,hrs1]⟩) (by (try dsimp only);omega) (a0c rfl (Nat.le_refl _) tsa (hsr rfl (hsr rfl (hsr rfl (hsr rfl (hsr rfl (hsr rfl (hsr rfl (a0f.cons rfl (a3c (by exact j9 rfl rfl rfl rfl rfl rfl rfl rfl rfl)) hsa)))))))))
    refine ru 3 ?_
    refine a0u 54 (a0b (id:=54) (hs:=[_]) ei_179.h omx rfl omx ⟨rfl,rfl,rfl,rfl,trivial⟩) rfl rfl a0g rfl rfl (c':=c+1) rfl ?_
    first
    | refine a0u 55 (a0a ei_179.h (by first | exact Nat.le_of_ble_eq_true rfl | omega | (dsimp only;omega) | (simp <;> omega)) rfl (by first | exact Nat.le_of_ble_eq_true rfl | omega | (dsimp only;omega) | (simp <;> omega)) (by first | exact Nat.le_of_ble_eq_true rfl | omega | (dsimp only;omega) | (simp <;> omega)) (a0x rfl (by first | exact Nat.le_of_ble_eq_true rfl | omega | (dsimp only;omega) | (simp <;> omega))) (by first | exact Nat.le_of_ble_eq_true rfl | omega | (dsimp only;omega) | (simp <;> omega)) rfl) rfl rfl (a0i rfl (a0P rfl)) rfl rfl (c':=c+2) rfl ?_
    | refine a0u 55 (a0a ei_179.h (by first | exact Nat.le_of_ble_eq_true rfl | omega | (dsimp only;omega) | (simp <;> omega)) rfl (by first | exact Nat.le_of_ble_eq_true rfl | omega | (dsimp only;omega) | (simp <;> omega)) (by first | exact Nat.le_of_ble_eq_true rfl | omega | (dsimp only;omega) | (simp <;> omega)) (a0S rfl (by first | exact Nat.le_of_ble_eq_true rfl | omega | (dsimp only;omega) | (simp <;> omega))) (by first | exact Nat.le_of_ble_eq_true rfl | omega | (dsimp only;omega) | (simp <;> omega)) rfl) rfl rfl (a0i rfl (a0P rfl)) rfl rfl (c':=c+2) rfl ?_
    | refine a0u 55 (a0a ei_179.h (by first | exact Nat.le_of_ble_eq_true rfl | omega | (dsimp only;omega) | (simp <;> omega)) rfl (by first | exact Nat.le_of_ble_eq_true rfl | omega | (dsimp only;omega) | (simp <;> omega)) (by first | exact Nat.le_of_ble_eq_true rfl | omega | (dsimp only;omega) | (simp <;> omega)) (a0O rfl) (by first | exact Nat.le_of_ble_eq_true rfl | omega | (dsimp only;omega) | (simp <;> omega)) rfl) rfl rfl (a0i rfl a0g) rfl rfl (c':=c+2) rfl ?_
    | refine a0u 55 (a0a ei_179.h (by first | exact Nat.le_of_ble_eq_true rfl | omega | (dsimp only;omega) | (simp <;> omega)) rfl (by first | exact Nat.le_of_ble_eq_true rfl | omega | (dsimp only;omega) | (simp <;> omega)) (by first | exact Nat.le_of_ble_eq_true rfl | omega | (dsimp only;omega) | (simp <;> omega)) (a0z 9 (fun _ _=>default) rfl) (by first | exact Nat.le_of_ble_eq_true rfl | omega | (dsimp only;omega) | (simp <;> omega)) rfl) rfl rfl (a0i rfl a0g) rfl rfl (c':=c+2) rfl ?_
    refine ru 8 ?_
    exact hL2 ((kk+1,MM+w,on1++(g kk).on,be2,ou1,rs1++[(g kk).pc],z2,z3,c+1)) _ _ (by (try dsimp only);have hA:=c0C (hi:=p.high) (g:=g) (many:=many) (show ¬ (kk:Int) < p.low by omega);exact ⟨by omega,by rw [hMM,Nat.succ_mul,Nat.add_assoc],by rw [hA,hon1,List.append_assoc],by rw [hA,hx],by rw [hA,hou1],by rw [hA,hrs1]⟩) (by (try dsimp only);omega) (a0c rfl (Nat.le_refl _) (tsr rfl (tsr rfl (tsr rfl (tsr rfl (tsr rfl (tsr rfl (a0t.cons rfl (a3k (by simp)) tsa))))))) (hsr rfl (hsr rfl (hsr rfl (hsr rfl (hsr rfl (hsr rfl (hsr rfl (hsr rfl (a0f.cons rfl (by exact a0G (enc:=pcF) (d:=default) rfl (fun i j _ _=>.refl _) (fun j hj=>.refl _)) a0f.nil))))))))))
  have hkm:kk=many:=om;obtain ⟨a1,a2,a3,a4,a5,a6⟩:=hok kk hk;have hMm:MM=N0+many * w:=(by rw [hMM,hkm]);have hM256:MM≤256:=(by rw [hMm];exact hN);have hrs:∀ x∈rs1,x.ok∧x.inB N0 MM:=(by rw [hrs1,hMM];exact a6);have hou2:ou1.ok:=(by rw [hou1];exact a4);have hino:InB N0 MM ou1.ends:=(by rw [hou1,hMM];exact a5.2);have hbe7:∀ q,(be1 q).ok:=(by rw [hbe1];exact a1h a3 hβ)
  refine ru 2 ?_
  refine a0d ?_
  refine ru 13 ?_
  refine (a1a 58 [(8009,_)] rfl (a0i rfl a0g) rfl ((show Fz _ _ (c0L rs1) from a2r (l:=rs1) (enc:=pcF) (d:=default) (List.mem_cons_self ..) rfl rfl (Nat.le_refl _) (fun i j hi hj=>b2l _ j)))).seq ?_
  refine cll (c6T rs1) ?_
  refine ru 3 ?_
  refine a8a (α:=Nat×(Nat→Bag)×Pc) ⟨rfl,rfl,rfl⟩ (c5G rs1 om) rfl (cs:=[_]) rfl (fun i hi=>by first | rfl | (cases i <;> first | rfl | (simp at hi))) ⟨(Fz.eq rfl),trivial⟩ rfl (fun _=>rfl) rfl (fun x=>[(9001,a9D g1 (.os 9002 y2 0 MM) (.os 9003 y3 0 MM)),(9002,a4t y2 MM (onF on1)),(9003,a4t y3 MM x.2.1),(9011,nbO g4 g1),(3,nbO k0 g1),(6,pcO (k0+2) default),(8,pcO k1 ou1),(12,pcO c x.2.2)]) (fun x=>x.1) (fun x=>x.1≤rs1.length∧x.2.1=links be1 (a1X (rs1.drop (rs1.length - x.1))).1∧x.2.2=(a1X (rs1.drop (rs1.length - x.1))).2) ((0,be1,Pc.nil)) (by exact ⟨Nat.zero_le _,by simp [a1X,links],by simp [a1X]⟩) (by first | rfl | omega) (hsr rfl (hsr rfl (hsr rfl (hsr rfl (hsr rfl (hsr rfl (hsr rfl (a0f.cons rfl (a3c (by exact j9 rfl rfl rfl rfl rfl rfl rfl rfl rfl)) a0f.nil)))))))) rfl (fun x c hx hi C1 lr hC1 NhR4 hR4=>?_) (fun x c hx hi=>?_)
  ·skip
   revert hx hi hR4;obtain ⟨jj,be4,ta4⟩:=x;intro hx hi hR4;dsimp only at hx hi hR4 ⊢
   obtain ⟨hj,hbe4,hta4⟩:=hx
   have htt:=a6v (N:=N0) (M:=MM) (l:=rs1.drop (rs1.length - jj)) (fun x hx=>hrs x (List.mem_of_mem_drop hx));have hto:ta4.ok:=(by rw [hta4];exact htt.2.1);have hbe5:∀ q,(be4 q).ok:=(by rw [hbe4];exact a1h htt.1 hbe7);have hxm:=hrs _ (b5i (l:=rs1) (j:=rs1.length - 1 - jj) om);have hxo:=hxm.1;have hxin:=hxm.2.2
   refine ru 4 ?_
   refine hR4 _ (fun C2 hC5=>?_)
   refine ru 6 ?_
   refine hm_ 65 (a1R (xs:=[_,_,_]) (pre:=[(9001,_),(9002,_),(9003,_)]) (b5B (rs1.getD (rs1.length - 1 - jj) default) ta4 hxo hto MM g1 y2 y3 _ _ hbe5 hM256 (a5V hxin)) ((c6w rfl)) ⟨rfl,⟨rfl,⟨rfl,trivial⟩⟩⟩) rfl rfl (a0i rfl (a0i rfl (a0i rfl a0g))) rfl rfl (c':=c+3) rfl ?_
   refine ru 8 ?_
   exact a4k ⟨(jj+1,a1W be4 ((rs1.getD (rs1.length - 1 - jj) default).ends,ta4.first),{ (rs1.getD (rs1.length - 1 - jj) default).join ta4 with empty:=true }),by (try dsimp only);exact ⟨by omega,by rw [b0J hi,hbe4,hta4];simp only [a1X];rw [a0M];rfl,by rw [b0J hi,hta4];rfl⟩,by first | rfl | omega,(hsr rfl (hsr rfl (hsr rfl (hsr rfl (hsr rfl (hsr rfl (hsr rfl (a0f.cons rfl (a3c (by exact j9 rfl rfl rfl rfl rfl rfl rfl rfl rfl)) a0f.nil))))))))⟩
  ·skip
   revert hx hi;obtain ⟨jj,be4,ta4⟩:=x;intro hx hi;dsimp only at hx hi ⊢
   obtain ⟨hj,hbe4,hta4⟩:=hx
   have htt:=a6v (N:=N0) (M:=MM) (l:=rs1.drop (rs1.length - jj)) (fun x hx=>hrs x (List.mem_of_mem_drop hx));have hto:ta4.ok:=(by rw [hta4];exact htt.2.1);have hbe5:∀ q,(be4 q).ok:=(by rw [hbe4];exact a1h htt.1 hbe7);have hta5:ta4=(a1X rs1).2:=(by rw [hta4,hi,Nat.sub_self,List.drop_zero]);have hbe6:be4=links be1 (a1X rs1).1:=(by rw [hbe4,hi,Nat.sub_self,List.drop_zero]);have hT:a6V p.low p.high g=⟨(a3S p.low p.high g many kk).1,(a3S p.low p.high g many kk).2.1++(a1X rs1).1++[(ou1.ends,ta4.first)],ou1.join ta4⟩:=(by rw [hta5,hou1,hrs1,hkm];unfold a6V;rw [←hmany])
   refine ru 7 ?_
   refine hm_ 70 (a1R (xs:=[_,_,_]) (pre:=[(9001,_),(9002,_),(9003,_)]) (b5B ou1 ta4 hou2 hto MM g1 y2 y3 _ _ hbe5 hM256 (a5V hino)) ((c6w rfl)) ⟨rfl,⟨rfl,⟨rfl,trivial⟩⟩⟩) rfl rfl (a0i rfl (a0i rfl (a0i rfl a0g))) rfl rfl (c':=c+1) rfl ?_
   refine ru 4 ?_
   refine b4u hM ?_
   refine fr1 ok hX rw1 ((y2,y3)) (trivial) ((by rw [hT];exact a9E (by exact j9 rfl rfl rfl rfl rfl rfl rfl rfl rfl))) ?_
   exact ⟨⟨_,rfl,(by rw [←hMm];exact a3F rfl rfl rfl rfl)⟩,⟨⟨_,rfl,(by rw [←hMm];exact a1o (fun q _=>by rw [hT,hon1]))⟩,⟨⟨_,rfl,(by rw [←hMm];exact a1o (fun q _=>by rw [hT];simp only;rw [a0M,a0M,←hbe1,←hbe6];rfl))⟩,⟨⟨_,rfl,c6q kza⟩,trivial⟩⟩⟩⟩
theorem b8L {C:Ctx} {n clk:Nat} {tm:List (Nat×TV)} {hp:List (Nat×HObj)} (t:Nat) (sh kp:List (Nat×HObj)) (hd:a1n (sh.map (·.1))=true) (hsh:∀ p∈sh,hget hp p.1=some p.2) (hkp:∀ p∈kp,hget hp p.1=some p.2) {x y:HV} (ht:tget tm t=some (.v x)) (hz:Kz kp sh x y) :
  a4I C ⟨n,tm,hp,clk⟩ ⟨n,(t,.v y)::tm,sh.map (fun p=>(p.1,p.2.full))++hp,clk⟩:=by
 intro a w ⟨E,e0,r,hG,hsz,hdf,htm⟩
 obtain ⟨E1,e1,hL,hG1,hs1,r1⟩:=r.shareAll sh hd hsh
 refine ⟨E1,e0.trans e1,by simp only [a0V];exact r1,fun g hg=>hG g (by rw [←hG1];exact hg),hsz,hdf.ext e1,fun t' z hz'=>?_⟩
 simp only [a0B] at hz'
 split at hz'
 ·rename_i e;subst e;injection hz' with hz';subst hz'
  exact hz.sound (E:=E1) (E':=E1) (fun _ h=>h) (fun _ _ _=>rfl) (fun id o ho=>by
   obtain ⟨l,hl,b⟩:=r.obj id o (hkp (id,o) (a1C ho))
   rw [hG1];exact b.G) hs1 ((htm t' _ ht).ext e1)
 ·exact (htm t' z hz').ext e1
@[reducible] def c6p (mv:HV) (m:List UInt8→Bag) (e:List Pt) (b:Nat) (t:T):Prop:=∀ c g1 g2 g3 N on β,on.length=N→N+t.w≤256→(∀ p,(β p).ok)→(∀ p,N≤p→p < 256→β p=Bag.zero) →
 a4s Tryz.prog 56 c [.pt 9001 g1 0 0,ptsV e,intV ((b+t.size - 1:Nat):Int),mv] (c2e g1 g2 g3 N on β) (a9t (fun (y:Nat×Nat) _=>True) (fun _=>pcH (lay m t N).pc) (fun y=>c2e g1 y.1 y.2 (N+t.w) (on++(lay m t N).on) (links β (lay m t N).lk)))
theorem c6V (mv:HV) (m:List UInt8→Bag) (e:List Pt) (he:e.length≤100000) (b:Nat) (t:T) (hmv:∀ sh,Fz sh mv mv) (hl:c6p mv m e b t) (p:Pt) (hp:p.kids=[((b+t.size - 1:Nat):Int)]) (c g1 g2 g3 g4 M:Nat) (on:List Bag) (β:Nat→Bag) (hon:on.length=M) (hM2:M+t.w≤256) (hβ:∀ p,(β p).ok) (hz:∀ p,M≤p→p < 256→β p=Bag.zero) :
  a4s Tryz.prog 90 c ([]++[.pt 9011 g4 0 0,.fp 1 (fun _=>ptsV e),.fp 5 (ptF p),.fp 1 (fun _=>mv)]) (b7m g1 g2 g3 g4 M on β) (a9t (fun (y:Nat×Nat) _=>True) (fun _=>pcH (lay m t M).pc) (fun y=>b7m g1 y.1 y.2 g4 (M+t.w) (on++(lay m t M).on) (links β (lay m t M).lk))):=by
 have hkl:p.kids.length=1:=by rw [hp];rfl
 refine a0v Tryz.func90 rfl kr _ _ _ _ rfl 13 rfl rfl (fun X ok hX=>?_)
 refine ru 12 ?_
 first
 | refine a3a 10 (HOp.val (v':=intV ((b+t.size - 1:Nat):Int)) (a0D ty_3.h rfl (by first | exact Nat.le_of_ble_eq_true rfl | omega | (dsimp only;omega) | (simp <;> omega)) (by first | exact Nat.le_of_ble_eq_true rfl | omega | (dsimp only;omega) | (simp <;> omega)) (fun h=>(by first | rfl | cases h))) ((by show intV (p.kids.getD 0 0)=_;rw [hp];rfl))) rfl rfl (a0P rfl) rfl rfl (k':=6) rfl ?_
 | refine a3a 10 (HOp.val (v':=intV ((b+t.size - 1:Nat):Int)) (a0r ty_3.h rfl (by first | exact Nat.le_of_ble_eq_true rfl | omega | (dsimp only;omega) | (simp <;> omega)) (fun h=>(by first | rfl | cases h))) ((by show intV (p.kids.getD 0 0)=_;rw [hp];rfl))) rfl rfl a0g rfl rfl (k':=6) rfl ?_
 refine ru 1 ?_
 refine c3M kr kr kr kr (c':=c+8) rfl ?_ (by simp)
 refine a0s 12 (xs:=[_,_,_,_]) (pre:=[(9001,_),(9002,_),(9003,_)]) (hl _ g1 g2 g3 M on β hon hM2 hβ hz) ⟨rfl,⟨rfl,⟨rfl,⟨rfl,trivial⟩⟩⟩⟩ (a0i rfl (a0i rfl (a0i rfl a0g))) rfl rfl (fun x1 c1 hyy=>?_)
 obtain ⟨y2,y3⟩:=x1
 (try dsimp only)
 refine ru 1 ?_
 refine a3U ?_
 refine ru 2 ?_
 refine fr1 ok hX rw1 ((y2,y3)) (trivial) (a9E (by exact j9 rfl rfl rfl rfl rfl rfl rfl rfl rfl)) ?_
 exact ⟨⟨_,rfl,a3F rfl rfl rfl rfl⟩,⟨⟨_,rfl,a1o (fun _ _=>rfl)⟩,⟨⟨_,rfl,a1o (fun _ _=>rfl)⟩,⟨⟨_,rfl,c6q kza⟩,trivial⟩⟩⟩⟩
end Go.Proofs.YtdbbbafiegpbpaaGreatDoor
