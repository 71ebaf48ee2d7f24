/-
  The net of a text, by meanings; of nil there is nothing.
-/
import Derived.Test.YtldjnmljnlhaaaaGreatDoorNc6
import Derived.Test.YtldjnmljnlhaaaaGreatDoorEr2
import Derived.Test.YtldjnmljnlhaaaaGreatDoorHc
import Derived.Test.YtldjnmljnlhaaaaGreatDoorChecked
import Derived.ProofKit
import Derived.OpenShut
import Derived.ChangeOld
import Derived.Deep.Slices
import Derived.Test.YtldjnmljnlhaaaaGreatDoorRows
import Derived.LaidLaws
import Derived.LaidMore
import Derived.LaidSub
import Derived.HandedShaped
import Derived.Shelf.Vars
import Derived.Stop.Joined
namespace Go.Proofs.YtldjnmljnlhaaaaGreatDoor
set_option linter.unusedSimpArgs false
set_option linter.unusedVariables false
set_option maxRecDepth 100000
set_option maxHeartbeats 1000000
open Go.RowKit
@[reducible] def t4 (a b c d:HV):HV:=.tup 4 (fun i=>match i with | 0=>a | 1=>b | 2=>c | _=>d)
theorem hq_ret4 {P:Program} {w:World} {F:Addr→Prop} {fn:Func} {rv1 rv2 rv3 rv4:ResultVar} {s:HSt} {x1 x2 x3 x4 y:HV} (hres:fn.results=#[rv1,rv2,rv3,rv4]) (hrv1:RVal P s rv1 x1) (hrv2:RVal P s rv2 x2) (hrv3:RVal P s rv3 x3) (hrv4:RVal P s rv4 x4) (sh:List (Nat×HObj)) (hd:dupfree (sh.map (·.1))=true) (hsh:∀ p∈sh,hget s.hp p.1=some p.2)
    (hz:Fz sh (t4 x1 x2 x3 x4) y):HQ (Ctx.top w F) (bodyPost P fn (PurePost w F y)) .ret s:=by
  intro a w' ⟨E,e0,r,hG,hsz,hdf,ht⟩
  obtain ⟨v1,h1,g1⟩:=hrv1 (Ctx.top w F) a w' E r ht
  obtain ⟨v2,h2,g2⟩:=hrv2 (Ctx.top w F) a w' E r ht
  obtain ⟨v3,h3,g3⟩:=hrv3 (Ctx.top w F) a w' E r ht
  obtain ⟨v4,h4,g4⟩:=hrv4 (Ctx.top w F) a w' E r ht
  have hrep:Rep w' E (.tuple #[v1,v2,v3,v4]) (.tup 4 (fun i=>match i with | 0=>x1 | 1=>x2 | 2=>x3 | _=>x4)) :=
    .tup _ 4 _ (fun i=>match i with | 0=>v1 | 1=>v2 | 2=>v3 | _=>v4) rfl (fun i hi=>by match i,hi with | 0,_=>rfl | 1,_=>rfl | 2,_=>rfl | 3,_=>rfl) (fun i hi=>by match i,hi with | 0,_=>exact g1 | 1,_=>exact g2 | 2,_=>exact g3 | 3,_=>exact g4)
  refine ⟨hdf,_,?_,PurePost.of e0 r sh hd hsh hz hrep⟩
  have:(results fn a.tmps).run P w'=.ok (.tuple #[v1,v2,v3,v4]) w':=by
    unfold results
    rw [hres]
    cases rv1 <;> cases rv2 <;> cases rv3 <;> cases rv4 <;> (simp [Sem.run_bind] at h1 h2 h3 h4 ⊢)
    all_goals first | done | (try (first | rw [andThen_chain h1] | skip);try (first | rw [andThen_chain h2] | skip);try (first | rw [andThen_chain h3] | skip);try (first | rw [andThen_chain h4] | skip);try simp [h1,h2,h3,h4])
  exact this
theorem fz_t4 {sh:List (Nat×HObj)} {x1 x2 x3 x4 y1 y2 y3 y4:HV} (h1:Fz sh x1 y1) (h2:Fz sh x2 y2) (h3:Fz sh x3 y3) (h4:Fz sh x4 y4):Fz sh (t4 x1 x2 x3 x4) (t4 y1 y2 y3 y4):=.tup _ _ _ fun i hi=>by
  match i,hi with
  | 0,_=>exact h1 | 1,_=>exact h2 | 2,_=>exact h3 | 3,_=>exact h4
@[reducible] def nilP:HV:=.imm (.pointer none)
theorem nplaces0_h:HPure Tryz.prog 16 [nilP] (intV 0):=by
  refine hpure_of Tryz.func16 rfl (by kernel_rfl) _ _ _ rfl 10 rfl rfl (fun w F=>?_)
  refine srg fun N h1=>?_
  refine sa ?_
  refine snl h1 ?_
  refine hw_seq (fun Nh2 h2=>?_)
  refine srg fun N h3=>?_
  refine sm ?_
  refine s0 (hop_eql_pn rfl rfl rfl) ?_
  refine snl h3 ?_
  refine wc (fun hc0=>?_) (fun hc0=>?_)
  · have hr0 := hc0; (try simp only [hcs, Int.reduceToNat] at hc0)
    refine srg fun N h4=>?_
    refine sa ?_
    refine snl h4 ?_
    refine hw_ret ?_
    refine hq_then_ret ?_
    refine hq_ret1 rfl (rval_tmp rfl) [] rfl pre0 ?_
    exact .imm _
  have hr0:=hc0;(try simp only [hcs,Int.reduceToNat] at hc0)
  exfalso;simp at hr0
theorem nempty0_h:HPure Tryz.prog 14 [nilP] (boolV false):=by
  refine hpure_of Tryz.func14 rfl (by kernel_rfl) _ _ _ rfl 11 rfl rfl (fun w F=>?_)
  refine srg fun N h1=>?_
  refine sa ?_
  refine snl h1 ?_
  refine srg fun N h2=>?_
  refine sm ?_
  refine s0 (hop_neq_pn rfl rfl rfl) ?_
  refine sm ?_
  refine gm 5 ?_
  refine stg (v:=nilP) 5 (fun hb=>by simp at hb) rfl rfl rfl rfl rfl ?_
  refine stg (v:=nilP) 5 (fun hb=>by simp at hb) rfl rfl rfl rfl rfl ?_
  refine stg (v:=boolV false) 5 (fun hb=>by simp at hb) rfl rfl rfl rfl rfl ?_
  refine hq_p 10 (hstep_and _ _ rfl rfl rfl) rfl rfl rfl ?_
  refine sa ?_
  refine nu ?_
  refine h2 _ ?_
  refine hw_ret ?_
  refine hq_ret1 rfl (rval_tmp rfl) [] rfl pre0 ?_
  exact fz_bool (by simp)
theorem nfits0_h (x:HV):HPure Tryz.prog 24 [nilP,x] (boolV false):=by
  refine hpure_of Tryz.func24 rfl (by kernel_rfl) _ _ _ rfl 70 rfl rfl (fun w F=>?_)
  refine srg fun N h1=>?_
  refine hm_1 2 (hop_box (id:=2) (sz:=1) rfl rfl rfl (nb rfl) (nb rfl)) rfl rfl pre0 rfl rfl (c':=1) rfl ?_
  refine sa ?_
  refine snl h1 ?_
  refine hw_seq (fun Nh2 h2=>?_)
  refine srg fun N h3=>?_
  refine sl ty_36 ?_
  refine s0 (hop_eql_pn rfl rfl rfl) ?_
  refine snl h3 ?_
  refine wc (fun hc0=>?_) (fun hc0=>?_)
  · have hr0 := hc0; (try simp only [hcs, Int.reduceToNat] at hc0)
    refine srg fun N h4=>?_
    refine sa ?_
    refine snl h4 ?_
    refine hw_ret ?_
    refine hq_then_ret ?_
    refine hq_ret1 rfl (rval_tmp rfl) [] rfl pre0 ?_
    exact .imm _
  have hr0:=hc0;(try simp only [hcs,Int.reduceToNat] at hc0)
  exfalso;simp at hr0
theorem nfirst0_h:HPure Tryz.prog 15 [nilP] (bagH Bag.zero):=by
  refine hpure_of Tryz.func15 rfl (by kernel_rfl) _ _ _ rfl 10 rfl rfl (fun w F=>?_)
  refine srg fun N h1=>?_
  refine hm_1 2 (hop_alloc (id:=2) (sz:=4) zc_33 rfl rfl (nb rfl) (nb rfl)) rfl rfl pre0 rfl rfl (c':=1) rfl ?_
  refine snl h1 ?_
  refine hw_seq (fun Nh2 h2=>?_)
  refine srg fun N h3=>?_
  refine sm ?_
  refine s0 (hop_eql_pn rfl rfl rfl) ?_
  refine snl h3 ?_
  refine wc (fun hc0=>?_) (fun hc0=>?_)
  · have hr0 := hc0; (try simp only [hcs, Int.reduceToNat] at hc0)
    refine srg fun N h4=>?_
    refine s0 (hop_build (hs:=[]) st_33 rfl rfl trivial) ?_
    refine sw (2) ty_33 ?_
    refine snl h4 ?_
    refine hw_ret ?_
    refine hq_then_ret ?_
    refine hq_ret1 rfl (rvl_cell rfl rfl ty_33 (fun h=>by first | rfl | cases h) rfl rfl) [] rfl pre0 ?_
    exact fz_bg (by exact j4 rfl rfl rfl rfl)
  have hr0:=hc0;(try simp only [hcs,Int.reduceToNat] at hc0)
  exfalso;simp at hr0
theorem nends0_h:HPure Tryz.prog 23 [nilP] (bagH Bag.zero):=by
  refine hpure_of Tryz.func23 rfl (by kernel_rfl) _ _ _ rfl 10 rfl rfl (fun w F=>?_)
  refine srg fun N h1=>?_
  refine hm_1 2 (hop_alloc (id:=2) (sz:=4) zc_33 rfl rfl (nb rfl) (nb rfl)) rfl rfl pre0 rfl rfl (c':=1) rfl ?_
  refine snl h1 ?_
  refine hw_seq (fun Nh2 h2=>?_)
  refine srg fun N h3=>?_
  refine sm ?_
  refine s0 (hop_eql_pn rfl rfl rfl) ?_
  refine snl h3 ?_
  refine wc (fun hc0=>?_) (fun hc0=>?_)
  · have hr0 := hc0; (try simp only [hcs, Int.reduceToNat] at hc0)
    refine srg fun N h4=>?_
    refine s0 (hop_build (hs:=[]) st_33 rfl rfl trivial) ?_
    refine sw (2) ty_33 ?_
    refine snl h4 ?_
    refine hw_ret ?_
    refine hq_then_ret ?_
    refine hq_ret1 rfl (rvl_cell rfl rfl ty_33 (fun h=>by first | rfl | cases h) rfl rfl) [] rfl pre0 ?_
    exact fz_bg (by exact j4 rfl rfl rfl rfl)
  have hr0:=hc0;(try simp only [hcs,Int.reduceToNat] at hc0)
  exfalso;simp at hr0
theorem nbehind0_h (i:Int):HPure Tryz.prog 21 [nilP,intV i] (bagH Bag.zero):=by
  refine hpure_of Tryz.func21 rfl (by kernel_rfl) _ _ _ rfl 14 rfl rfl (fun w F=>?_)
  refine srg fun N h1=>?_
  refine hm_1 4 (hop_alloc (id:=4) (sz:=4) zc_33 rfl rfl (nb rfl) (nb rfl)) rfl rfl pre0 rfl rfl (c':=1) rfl ?_
  refine snl h1 ?_
  refine hw_seq (fun Nh2 h2=>?_)
  refine srg fun N h3=>?_
  refine sm ?_
  refine s0 (hop_eql_pn rfl rfl rfl) ?_
  refine snl h3 ?_
  refine wc (fun hc0=>?_) (fun hc0=>?_)
  · have hr0 := hc0; (try simp only [hcs, Int.reduceToNat] at hc0)
    refine srg fun N h4=>?_
    refine s0 (hop_build (hs:=[]) st_33 rfl rfl trivial) ?_
    refine sw (2) ty_33 ?_
    refine snl h4 ?_
    refine hw_ret ?_
    refine hq_then_ret ?_
    refine hq_ret1 rfl (rvl_cell rfl rfl ty_33 (fun h=>by first | rfl | cases h) rfl rfl) [] rfl pre0 ?_
    exact fz_bg (by exact j4 rfl rfl rfl rfl)
  have hr0:=hc0;(try simp only [hcs,Int.reduceToNat] at hc0)
  exfalso;simp at hr0
theorem non0_h (i:Int):HPure Tryz.prog 18 [nilP,intV i] (bagH Bag.zero):=by
  refine hpure_of Tryz.func18 rfl (by kernel_rfl) _ _ _ rfl 14 rfl rfl (fun w F=>?_)
  refine srg fun N h1=>?_
  refine hm_1 4 (hop_alloc (id:=4) (sz:=4) zc_33 rfl rfl (nb rfl) (nb rfl)) rfl rfl pre0 rfl rfl (c':=1) rfl ?_
  refine snl h1 ?_
  refine hw_seq (fun Nh2 h2=>?_)
  refine srg fun N h3=>?_
  refine sm ?_
  refine s0 (hop_eql_pn rfl rfl rfl) ?_
  refine snl h3 ?_
  refine wc (fun hc0=>?_) (fun hc0=>?_)
  · have hr0 := hc0; (try simp only [hcs, Int.reduceToNat] at hc0)
    refine srg fun N h4=>?_
    refine s0 (hop_build (hs:=[]) st_33 rfl rfl trivial) ?_
    refine sw (2) ty_33 ?_
    refine snl h4 ?_
    refine hw_ret ?_
    refine hq_then_ret ?_
    refine hq_ret1 rfl (rvl_cell rfl rfl ty_33 (fun h=>by first | rfl | cases h) rfl rfl) [] rfl pre0 ?_
    exact fz_bg (by exact j4 rfl rfl rfl rfl)
  have hr0:=hc0;(try simp only [hcs,Int.reduceToNat] at hc0)
  exfalso;simp at hr0
theorem nempty_h (wd:Nat) (on:List Bag) (β:Nat→Bag) (p:Pc):HPure Tryz.prog 14 [netP wd on β p] (boolV p.empty):=by
  refine hpure_of Tryz.func14 rfl (by kernel_rfl) _ _ _ rfl 11 rfl rfl (fun w F=>?_)
  refine srg fun N h1=>?_
  refine sa ?_
  refine snl h1 ?_
  refine srg fun N h2=>?_
  refine sm ?_
  refine s0 (hop_neq_fp rfl rfl rfl) ?_
  refine sm ?_
  refine gm 5 ?_
  refine stg 5 (fun hb=>hop_nilcheck_fp rfl) rfl rfl rfl rfl rfl ?_
  refine stg 5 (fun hb=>hop_fa_fp fd_71_4 rfl (nb rfl)) rfl rfl rfl rfl rfl ?_
  refine stg 5 (fun hb=>hop_load_fp ty_4 rfl (nb rfl) (fun h=>(by rfl))) rfl rfl rfl rfl rfl ?_
  refine hq_p 10 (hstep_and _ _ rfl rfl rfl) rfl rfl rfl ?_
  refine sa ?_
  refine nu ?_
  refine h2 _ ?_
  refine hw_ret ?_
  refine hq_ret1 rfl (rval_tmp rfl) [] rfl pre0 ?_
  exact Frz.fz
theorem names_mem:∀ (l:List Pt) (o:List (List UInt8)) (s:List UInt8),(s∈o∨∃ x∈l,x.kind=1∧x.name=s)→s∈l.foldl addN o
  | [],o,s,h=>by rcases h with h | ⟨x,hx,_⟩;exact h;cases hx
  | y :: l, o, s, h => by
    refine names_mem l (addN o y) s ?_
    have hsub:s∈o→s∈addN o y:=fun h=>by unfold addN;split;exact List.mem_append_left _ h;exact h
    rcases h with h | ⟨x,hx,hk,hn⟩
    · exact .inl (hsub h)
    · rcases List.mem_cons.1 hx with rfl | hx
      · left
        by_cases hm:x.name∈o
        · exact hsub (hn▸hm)
        · unfold addN;rw [if_pos ⟨hk,hm⟩,←hn];exact List.mem_append_right _ (List.mem_singleton_self _)
      · exact .inr ⟨x,hx,hk,hn⟩
theorem noneV_E (l:List Mn) (e:List Pt):noneV (meansV l) e=noneE l e:=by
  rw [Bool.eq_iff_iff]
  unfold noneV noneE
  rw [List.any_eq_true,List.any_eq_true]
  constructor
  · rintro ⟨s, hs, h⟩
    rcases names_from e [] s hs with h' | ⟨x,hx,hk,hn⟩
    · cases h'
    · exact ⟨x,hx,by rw [hn,decide_eq_true hk];simpa using h⟩
  · rintro ⟨x, hx, h⟩
    rw [Bool.and_eq_true,decide_eq_true_eq,decide_eq_true_eq] at h
    exact ⟨x.name,names_mem e [] _ (.inr ⟨x,hx,h.1,rfl⟩),by simpa using h.2⟩
theorem parse_none {s:List UInt8} (hv:lexV s=.ok []) {r:List Pt×Int×Int} (h:ParseIs s r):r=([],0,0):=by
  have hC:chk ([]:List Sg) 0 0 true true=(-1,false):=by rw [chk_end (l:=[]) (i:=0) (Nat.le_refl _)];rfl
  cases h with
  | err e hv'=>rw [hv] at hv';cases hv'
  | none=>rfl
  | odd l q hv' hne=>rw [hv] at hv';injection hv' with hv';exact absurd hv'.symm hne
  | end_ l hv' hne=>rw [hv] at hv';injection hv' with hv';exact absurd hv'.symm hne
  | ok l t hv' hs=>rw [hv] at hv';injection hv' with hv';subst hv';have:=seg_lt hs;simp at this
@[reducible] def NetP (s:List UInt8) (l:List Mn) (y:HV):Prop:=HPure Tryz.prog 12 [strV s,mnsV l] y
structure NetOk (s:List UInt8) (l:List Mn) (w:Nat) (on:List Bag) (β:Nat→Bag) (p:Pc) (e:List Pt):Prop where
  net:NetP s l (t4 (netP w on β p) (ptsV e) (intV 0) (boolV true))
  doc:HPure Tryz.prog 26 [ptsV e,mnsV l] (ndR w on β p)
  none:noneE l e=false
  w60:w≤60
  len:on.length=w
  onk:∀ i,(onF on i).ok
  bek:∀ i,(β i).ok
  pck:p.ok
  eln:e.length≤100000
  mnb:MnB l
  is:(e=[]∧w=0∧on=[]∧(∀ i,β i=Bag.zero)∧p=Pc.nil)∨∃ t:T,t.ok=true∧e=T.flat 0 t∧w=0+t.w∧on=(lay (meansV l) t 0).on∧β=links (fun _=>Bag.zero) (lay (meansV l) t 0).lk∧p=(lay (meansV l) t 0).pc
theorem net_err (s:List UInt8) (l:List Mn) (hs:s.length≤9223372036854775807) (a b:Int) (hp:ParseIs s ([],a,b)) (hb:b≠0):NetP s l (t4 nilP nilS (intV b) (boolV false)):=by
  refine hpure_of Tryz.func12 rfl (by kernel_rfl) _ _ _ rfl 63 rfl rfl (fun w F=>?_)
  refine srg fun N h1=>?_
  refine hm_1 3 (hop_box (id:=3) (sz:=1) rfl rfl rfl (nb rfl) (nb rfl)) rfl rfl pre0 rfl rfl (c':=1) rfl ?_
  refine sa ?_
  refine sa ?_
  refine sa ?_
  refine sa ?_
  refine snl h1 ?_
  refine srg fun N h2=>?_
  refine sm ?_
  refine hf_callR 18 (xs:=[_]) (pre:=[]) (refParse_h s ([],a,b) hs hp _) ⟨rfl,trivial⟩ pre0 rfl rfl (fun u c1 hu=>?_)
  (try dsimp only)
  refine sm ?_
  refine s0 (hop_extract rfl rfl) ?_
  refine s0 (hop_extract rfl rfl) ?_
  refine s0 (hop_extract rfl rfl) ?_
  refine sa ?_
  refine sa ?_
  refine sa ?_
  refine snl h2 ?_
  refine hw_seq (fun Nh3 h3=>?_)
  refine srg fun N h4=>?_
  refine sm ?_
  refine s0 (hop_neq rfl rfl) ?_
  refine sm ?_
  refine gm 24 ?_
  refine stg 24 (fun hb=>hop_len_strl (T:=9) rfl (by kernel_rfl) rfl) rfl rfl rfl rfl rfl ?_
  refine stg 24 (fun hb=>hop_gtr rfl rfl) rfl rfl rfl rfl rfl ?_
  refine hq_p 28 (hstep_or _ _ rfl rfl rfl) rfl rfl rfl ?_
  refine sm ?_
  refine hq_g 30 7 29 false _ (fun hb=>hol_load ty_42 rfl (nb rfl) (nb rfl) (fun h=>(by rfl))) rfl rfl rfl rfl (pre1 rfl) rfl rfl rfl ?_
  refine stg 29 (fun hb=>hop_call0 (xs:=[_]) (fewM_h l) ⟨rfl,trivial⟩ ⟨(Fz.eq rfl),trivial⟩) rfl rfl rfl rfl rfl ?_
  refine stg 29 (fun hb=>hop_not rfl) rfl rfl rfl rfl rfl ?_
  refine hq_p 33 (hstep_or _ _ rfl rfl rfl) rfl rfl rfl ?_
  refine sm ?_
  refine gm 34 ?_
  refine stg 34 (fun hb=>hop_len_sl (T:=22) rfl (elOf_spec el_22).1 rfl) rfl rfl rfl rfl rfl ?_
  refine stg 34 (fun hb=>hop_gtr rfl rfl) rfl rfl rfl rfl rfl ?_
  refine gm 34 ?_
  refine hq_g3 39 16 38 34 false true _ _ (fun hb hb2=>hop_move rfl) rfl rfl rfl rfl rfl pre0 rfl rfl rfl ?_
  refine hq_g3 40 16 38 34 false true _ _ (fun hb hb2=>hop_move rfl) rfl rfl rfl rfl rfl pre0 rfl rfl rfl ?_
  refine hq_g3 41 16 38 34 false true _ _ (fun hb hb2=>hop_len_sl (T:=22) rfl (elOf_spec el_22).1 rfl) rfl rfl rfl rfl rfl pre0 rfl rfl rfl ?_
  refine hq_g3 42 16 38 34 false true _ _ (fun hb hb2=>hop_subi rfl rfl rfl (by simp at hb2;omega) (by simp at hb2;omega)) rfl rfl rfl rfl rfl pre0 rfl rfl rfl ?_
  refine sth (v:=intV 0) 38 (fun hb=>by simp at hb) rfl rfl rfl rfl rfl ?_
  refine hq_g3 44 16 38 34 false true _ _ (fun hb hb2=>hop_gtr rfl rfl) rfl rfl rfl rfl rfl pre0 rfl rfl rfl ?_
  refine hq_pg 45 (hstep_andg (gi:=12) (j:=34) _ _ rfl rfl rfl rfl) rfl rfl rfl rfl ?_
  refine hq_p 46 (hstep_and _ _ rfl rfl rfl) rfl rfl rfl ?_
  refine nu ?_
  refine h4 _ ?_
  refine wc (fun hc0=>?_) (fun hc0=>?_)
  · have hr0 := hc0; (try simp only [hcs, Int.reduceToNat] at hc0)
    refine srg fun N h5=>?_
    refine sm ?_
    refine sa ?_
    refine sa ?_
    refine sa ?_
    refine sa ?_
    refine snl h5 ?_
    refine hw_ret ?_
    refine hq_then_ret ?_
    refine hq_ret4 rfl (rval_tmp rfl) (rval_tmp rfl) (rval_tmp rfl) (rval_tmp rfl) [] rfl pre0 ?_
    exact fz_t4 (.imm _) (.imm _) (.imm _) (.imm _)
  have hr0:=hc0;(try simp only [hcs,Int.reduceToNat] at hc0)
  exfalso;simp [hb] at hr0
theorem net_far0 (s:List UInt8) (l:List Mn) (hs:s.length≤9223372036854775807) (hp:ParseIs s ([],0,0)) (hf:¬ (s.length≤500∧fewM l=true)):NetP s l (t4 nilP nilS (intV 0) (boolV false)):=by
  refine hpure_of Tryz.func12 rfl (by kernel_rfl) _ _ _ rfl 63 rfl rfl (fun w F=>?_)
  refine srg fun N h1=>?_
  refine hm_1 3 (hop_box (id:=3) (sz:=1) rfl rfl rfl (nb rfl) (nb rfl)) rfl rfl pre0 rfl rfl (c':=1) rfl ?_
  refine sa ?_
  refine sa ?_
  refine sa ?_
  refine sa ?_
  refine snl h1 ?_
  refine srg fun N h2=>?_
  refine sm ?_
  refine hf_callR 18 (xs:=[_]) (pre:=[]) (refParse_h s ([],0,0) hs hp _) ⟨rfl,trivial⟩ pre0 rfl rfl (fun u c1 hu=>?_)
  (try dsimp only)
  refine sm ?_
  refine s0 (hop_extract rfl rfl) ?_
  refine s0 (hop_extract rfl rfl) ?_
  refine s0 (hop_extract rfl rfl) ?_
  refine sa ?_
  refine sa ?_
  refine sa ?_
  refine snl h2 ?_
  refine hw_seq (fun Nh3 h3=>?_)
  refine srg fun N h4=>?_
  refine sm ?_
  refine s0 (hop_neq rfl rfl) ?_
  refine sm ?_
  refine gm 24 ?_
  refine stg 24 (fun hb=>hop_len_strl (T:=9) rfl (by kernel_rfl) rfl) rfl rfl rfl rfl rfl ?_
  refine stg 24 (fun hb=>hop_gtr rfl rfl) rfl rfl rfl rfl rfl ?_
  refine hq_p 28 (hstep_or _ _ rfl rfl rfl) rfl rfl rfl ?_
  refine sm ?_
  refine hq_g 30 7 29 false _ (fun hb=>hol_load ty_42 rfl (nb rfl) (nb rfl) (fun h=>(by rfl))) rfl rfl rfl rfl (pre1 rfl) rfl rfl rfl ?_
  refine stg 29 (fun hb=>hop_call0 (xs:=[_]) (fewM_h l) ⟨rfl,trivial⟩ ⟨(Fz.eq rfl),trivial⟩) rfl rfl rfl rfl rfl ?_
  refine stg 29 (fun hb=>hop_not rfl) rfl rfl rfl rfl rfl ?_
  refine hq_p 33 (hstep_or _ _ rfl rfl rfl) rfl rfl rfl ?_
  refine sm ?_
  refine gm 34 ?_
  refine stg 34 (fun hb=>hop_len_sl (T:=22) rfl (elOf_spec el_22).1 rfl) rfl rfl rfl rfl rfl ?_
  refine stg 34 (fun hb=>hop_gtr rfl rfl) rfl rfl rfl rfl rfl ?_
  refine gm 34 ?_
  refine hq_g3 39 16 38 34 false true _ _ (fun hb hb2=>hop_move rfl) rfl rfl rfl rfl rfl pre0 rfl rfl rfl ?_
  refine hq_g3 40 16 38 34 false true _ _ (fun hb hb2=>hop_move rfl) rfl rfl rfl rfl rfl pre0 rfl rfl rfl ?_
  refine hq_g3 41 16 38 34 false true _ _ (fun hb hb2=>hop_len_sl (T:=22) rfl (elOf_spec el_22).1 rfl) rfl rfl rfl rfl rfl pre0 rfl rfl rfl ?_
  refine hq_g3 42 16 38 34 false true _ _ (fun hb hb2=>hop_sub rfl rfl) rfl rfl rfl rfl rfl pre0 rfl rfl rfl ?_
  refine sth (v:=intV 0) 38 (fun hb=>by simp at hb) rfl rfl rfl rfl rfl ?_
  refine hq_g3 44 16 38 34 false true _ _ (fun hb hb2=>hop_gtr rfl rfl) rfl rfl rfl rfl rfl pre0 rfl rfl rfl ?_
  refine hq_pg 45 (hstep_andg (gi:=12) (j:=34) _ _ rfl rfl rfl rfl) rfl rfl rfl rfl ?_
  refine hq_p 46 (hstep_and _ _ rfl rfl rfl) rfl rfl rfl ?_
  refine nu ?_
  refine h4 _ ?_
  refine wc (fun hc0=>?_) (fun hc0=>?_)
  · have hr0 := hc0; (try simp only [hcs, Int.reduceToNat] at hc0)
    refine srg fun N h5=>?_
    refine sm ?_
    refine sa ?_
    refine sa ?_
    refine sa ?_
    refine sa ?_
    refine snl h5 ?_
    refine hw_ret ?_
    refine hq_then_ret ?_
    refine hq_ret4 rfl (rval_tmp rfl) (rval_tmp rfl) (rval_tmp rfl) (rval_tmp rfl) [] rfl pre0 ?_
    exact fz_t4 (.imm _) (.imm _) (.imm _) (.imm _)
  have hr0:=hc0;(try simp only [hcs,Int.reduceToNat] at hc0)
  exfalso;have h:=hr0;simp at h;exact hf ⟨by omega,by simpa using h.2⟩
theorem net_far (s:List UInt8) (l:List Mn) (hs:s.length≤9223372036854775807) (t:T) (hok:t.ok=true) (hB:PtB (T.flat 0 t)) (hp:ParseIs s (T.flat 0 t,0,0)) (hf:¬ (s.length≤500∧fewM l=true∧t.w≤60)):NetP s l (t4 nilP nilS (intV 0) (boolV false)):=by
  have hel:=hB.1
  have hat:AtP (T.flat 0 t) 0 (T.flat 0 t):=⟨[],[],by simp,rfl⟩
  have hsz:(T.flat 0 t).length=t.size:=T.flat_len 0 t
  have hps:=t.size_pos
  have hwm:wMin t.w≤60↔t.w≤60:=by unfold wMin;split <;> omega
  have hmn:=manyT_h (T.flat 0 t) hel t 0 hok hat
  generalize T.flat 0 t=e at hel hat hsz hmn hp hB
  have hel0:0 < e.length:=by omega
  refine hpure_of Tryz.func12 rfl (by kernel_rfl) _ _ _ rfl 63 rfl rfl (fun w F=>?_)
  refine srg fun N h1=>?_
  refine hm_1 3 (hop_box (id:=3) (sz:=1) rfl rfl rfl (nb rfl) (nb rfl)) rfl rfl pre0 rfl rfl (c':=1) rfl ?_
  refine sa ?_
  refine sa ?_
  refine sa ?_
  refine sa ?_
  refine snl h1 ?_
  refine srg fun N h2=>?_
  refine sm ?_
  refine hf_callR 18 (xs:=[_]) (pre:=[]) (refParse_h s (e,0,0) hs hp _) ⟨rfl,trivial⟩ pre0 rfl rfl (fun u c1 hu=>?_)
  (try dsimp only)
  refine sm ?_
  refine s0 (hop_extract rfl rfl) ?_
  refine s0 (hop_extract rfl rfl) ?_
  refine s0 (hop_extract rfl rfl) ?_
  refine sa ?_
  refine sa ?_
  refine sa ?_
  refine snl h2 ?_
  refine hw_seq (fun Nh3 h3=>?_)
  refine srg fun N h4=>?_
  refine sm ?_
  refine s0 (hop_neq rfl rfl) ?_
  refine sm ?_
  refine gm 24 ?_
  refine stg 24 (fun hb=>hop_len_strl (T:=9) rfl (by kernel_rfl) rfl) rfl rfl rfl rfl rfl ?_
  refine stg 24 (fun hb=>hop_gtr rfl rfl) rfl rfl rfl rfl rfl ?_
  refine hq_p 28 (hstep_or _ _ rfl rfl rfl) rfl rfl rfl ?_
  refine sm ?_
  refine hq_g 30 7 29 false _ (fun hb=>hol_load ty_42 rfl (nb rfl) (nb rfl) (fun h=>(by rfl))) rfl rfl rfl rfl (pre1 rfl) rfl rfl rfl ?_
  refine stg 29 (fun hb=>hop_call0 (xs:=[_]) (fewM_h l) ⟨rfl,trivial⟩ ⟨(Fz.eq rfl),trivial⟩) rfl rfl rfl rfl rfl ?_
  refine stg 29 (fun hb=>hop_not rfl) rfl rfl rfl rfl rfl ?_
  refine hq_p 33 (hstep_or _ _ rfl rfl rfl) rfl rfl rfl ?_
  refine sm ?_
  refine gm 34 ?_
  refine stg 34 (fun hb=>hop_len_sl (T:=22) rfl (elOf_spec el_22).1 rfl) rfl rfl rfl rfl rfl ?_
  refine stg 34 (fun hb=>hop_gtr rfl rfl) rfl rfl rfl rfl rfl ?_
  refine gm 34 ?_
  refine hq_g3 39 16 38 34 false true _ _ (fun hb hb2=>hop_move rfl) rfl rfl rfl rfl rfl pre0 rfl rfl rfl ?_
  refine hq_g3 40 16 38 34 false true _ _ (fun hb hb2=>hop_move rfl) rfl rfl rfl rfl rfl pre0 rfl rfl rfl ?_
  refine hq_g3 41 16 38 34 false true _ _ (fun hb hb2=>hop_len_sl (T:=22) rfl (elOf_spec el_22).1 rfl) rfl rfl rfl rfl rfl pre0 rfl rfl rfl ?_
  refine hq_g3 42 16 38 34 false true _ _ (fun hb hb2=>HOp.val (v':=intV ((0+t.size - 1:Nat):Int)) (hop_subi rfl rfl rfl (by simp at hb;omega) (by (simp at hb hb2;first | omega | (dsimp only;omega) | (simp <;> omega)))) (congrArg intV (by dsimp only;omega))) rfl rfl rfl rfl rfl pre0 rfl rfl rfl ?_
  refine hq_g3 43 16 38 34 false true _ _ (fun hb hb2=>hop_call0 (xs:=[_,_]) (hmn) ⟨rfl,⟨rfl,trivial⟩⟩ ⟨(Fz.eq rfl),⟨(Fz.eq rfl),trivial⟩⟩) rfl rfl rfl rfl rfl pre0 rfl rfl rfl ?_
  refine hq_g3 44 16 38 34 false true _ _ (fun hb hb2=>hop_gtr rfl rfl) rfl rfl rfl rfl rfl pre0 rfl rfl rfl ?_
  refine hq_pg 45 (hstep_andg (gi:=12) (j:=34) _ _ rfl rfl rfl rfl) rfl rfl rfl rfl ?_
  refine hq_p 46 (hstep_or _ _ rfl rfl rfl) rfl rfl rfl ?_
  refine nu ?_
  refine h4 _ ?_
  refine wc (fun hc0=>?_) (fun hc0=>?_)
  · have hr0 := hc0; (try simp only [hcs, Int.reduceToNat] at hc0)
    refine srg fun N h5=>?_
    refine sm ?_
    refine sa ?_
    refine sa ?_
    refine sa ?_
    refine sa ?_
    refine snl h5 ?_
    refine hw_ret ?_
    refine hq_then_ret ?_
    refine hq_ret4 rfl (rval_tmp rfl) (rval_tmp rfl) (rval_tmp rfl) (rval_tmp rfl) [] rfl pre0 ?_
    exact fz_t4 (.imm _) (.imm _) (.imm _) (.imm _)
  have hr0:=hc0;(try simp only [hcs,Int.reduceToNat] at hc0)
  exfalso;have h:=hc0;have h60:=h.2;rw [decide_eq_true (by omega:(0:Int) < (e.length:Int)),Bool.true_and,decide_eq_false_iff_not] at h60;exact hf ⟨by omega,h.1.2,hwm.1 (by omega)⟩
theorem fz_cap {sh:List (Nat×HObj)} {g ty fl:Nat} {l:List Mn} {f:Nat→Nat→HV} (ho:(3,(⟨g,1,1,ty,fl,f⟩:HObj))∈sh) (hf:f 0 0=mnsV l):Fz sh (.fn (.func 42) 1 (fun i=>[HV.pt 3 g 0 0].getD i default)) (.fn (.func 42) 1 (fun i=>[HV.fp 1 (fun _=>mnsV l)].getD i default)) :=
  .fn _ _ _ _ (fun i hi=>by
    obtain rfl:i=0:=by omega
    exact .pt 3 _ 0 0 1 _ _ ho rfl (Nat.lt_succ_self 0) (Nat.le_refl _) (fun j hj=>by
      obtain rfl:j=0:=by omega
      show Fz sh (f 0 0) (mnsV l);rw [hf];exact Frz.fz))
theorem net_fine0 (s:List UInt8) (l:List Mn) (hs5:s.length≤500) (hF:fewM l=true) (hv:lexV s=.ok []):NetP s l (t4 (netP 0 [] (fun _=>Bag.zero) ⟨Bag.zero,Bag.zero,true⟩) (ptsV []) (intV 0) (boolV true)):=by
  have hB:=(fewM_B hF).1
  refine hpure_of Tryz.func12 rfl (by kernel_rfl) _ _ _ rfl 63 rfl rfl (fun w F=>?_)
  refine srg fun N h1=>?_
  refine hm_1 3 (hop_box (id:=3) (sz:=1) rfl rfl rfl (nb rfl) (nb rfl)) rfl rfl pre0 rfl rfl (c':=1) rfl ?_
  refine sa ?_
  refine sa ?_
  refine sa ?_
  refine sa ?_
  refine snl h1 ?_
  refine srg fun N h2=>?_
  refine sm ?_
  refine hf_callR 18 (xs:=[_]) (pre:=[]) (refParse_h s ([],0,0) (by omega) (.none hv) _) ⟨rfl,trivial⟩ pre0 rfl rfl (fun u c1 hu=>?_)
  (try dsimp only)
  refine sm ?_
  refine s0 (hop_extract rfl rfl) ?_
  refine s0 (hop_extract rfl rfl) ?_
  refine s0 (hop_extract rfl rfl) ?_
  refine sa ?_
  refine sa ?_
  refine sa ?_
  refine snl h2 ?_
  refine hw_seq (fun Nh3 h3=>?_)
  refine srg fun N h4=>?_
  refine sm ?_
  refine s0 (hop_neq rfl rfl) ?_
  refine sm ?_
  refine gm 24 ?_
  refine stg 24 (fun hb=>hop_len_strl (T:=9) rfl (by kernel_rfl) rfl) rfl rfl rfl rfl rfl ?_
  refine stg 24 (fun hb=>hop_gtr rfl rfl) rfl rfl rfl rfl rfl ?_
  refine hq_p 28 (hstep_or _ _ rfl rfl rfl) rfl rfl rfl ?_
  refine sm ?_
  refine hq_g 30 7 29 false _ (fun hb=>hol_load ty_42 rfl (nb rfl) (nb rfl) (fun h=>(by rfl))) rfl rfl rfl rfl (pre1 rfl) rfl rfl rfl ?_
  refine stg 29 (fun hb=>hop_call0 (xs:=[_]) (fewM_h l) ⟨rfl,trivial⟩ ⟨(Fz.eq rfl),trivial⟩) rfl rfl rfl rfl rfl ?_
  refine stg 29 (fun hb=>hop_not rfl) rfl rfl rfl rfl rfl ?_
  refine hq_p 33 (hstep_or _ _ rfl rfl rfl) rfl rfl rfl ?_
  refine sm ?_
  refine gm 34 ?_
  refine stg 34 (fun hb=>hop_len_sl (T:=22) rfl (elOf_spec el_22).1 rfl) rfl rfl rfl rfl rfl ?_
  refine stg 34 (fun hb=>hop_gtr rfl rfl) rfl rfl rfl rfl rfl ?_
  refine gm 34 ?_
  refine hq_g3 39 16 38 34 false true _ _ (fun hb hb2=>hop_move rfl) rfl rfl rfl rfl rfl pre0 rfl rfl rfl ?_
  refine hq_g3 40 16 38 34 false true _ _ (fun hb hb2=>hop_move rfl) rfl rfl rfl rfl rfl pre0 rfl rfl rfl ?_
  refine hq_g3 41 16 38 34 false true _ _ (fun hb hb2=>hop_len_sl (T:=22) rfl (elOf_spec el_22).1 rfl) rfl rfl rfl rfl rfl pre0 rfl rfl rfl ?_
  refine hq_g3 42 16 38 34 false true _ _ (fun hb hb2=>hop_sub rfl rfl) rfl rfl rfl rfl rfl pre0 rfl rfl rfl ?_
  refine sth (v:=intV 0) 38 (fun hb=>by simp at hb) rfl rfl rfl rfl rfl ?_
  refine hq_g3 44 16 38 34 false true _ _ (fun hb hb2=>hop_gtr rfl rfl) rfl rfl rfl rfl rfl pre0 rfl rfl rfl ?_
  refine hq_pg 45 (hstep_andg (gi:=12) (j:=34) _ _ rfl rfl rfl rfl) rfl rfl rfl rfl ?_
  refine hq_p 46 (hstep_and _ _ rfl rfl rfl) rfl rfl rfl ?_
  refine nu ?_
  refine h4 _ ?_
  refine wc (fun hc0=>?_) (fun hc0=>?_)
  · have hr0 := hc0; (try simp only [hcs, Int.reduceToNat] at hc0)
    exfalso;have h:=hr0;simp [hF] at h;omega
  have hr0:=hc0;(try simp only [hcs,Int.reduceToNat] at hc0)
  refine hw_skip ?_
  refine h3 _ ?_
  refine srg fun N h5=>?_
  refine sm ?_
  refine hf_callR 50 (xs:=[_]) (pre:=[]) (parse_h _ s (by omega)) ⟨rfl,trivial⟩ pre0 rfl rfl (fun r c2 hr=>?_)
  (try dsimp only)
  refine sm ?_
  refine s0 (hop_extract rfl rfl) ?_
  refine s0 (hop_extract rfl rfl) ?_
  refine s0 (hop_extract rfl rfl) ?_
  refine sa ?_
  refine sa ?_
  refine sa ?_
  refine snl h5 ?_
  refine hw_seq (fun Nh6 h6=>?_)
  obtain rfl:=parse_none hv hr
  refine hw_region ?_
  refine sm ?_
  refine s0 (hop_makeFunc (hs:=[_]) ⟨rfl,trivial⟩) ?_
  refine (hsub_shr 56 [(3,_)] rfl (preC rfl pre0) rfl (fz_cap (.head _) rfl)).seq ?_
  refine s0 (hop_call0 (xs:=[_,_]) (new_h (meansOk l hB) [] ⟨Nat.zero_le _,fun i hi=>absurd hi (Nat.not_lt_zero _)⟩ _ (.nil rfl)) ⟨rfl,⟨rfl,trivial⟩⟩ ⟨(Fz.eq rfl),⟨(.fn _ _ _ _ (fun i hi=>by obtain rfl:i=0:=(by omega);exact .fp _ _ (Nat.le_refl _) _ _ (fun j hj=>show Fz _ (mnsV l) (mnsV l) from Frz.fz))),trivial⟩⟩) ?_
  refine sm ?_
  refine s0 (hop_extract rfl rfl) ?_
  refine s0 (hop_extract rfl rfl) ?_
  refine sa ?_
  refine sa ?_
  refine snl h6 ?_
  refine srg fun N h7=>?_
  refine sm ?_
  refine sm ?_
  refine sm ?_
  refine sa ?_
  refine sa ?_
  refine sa ?_
  refine sa ?_
  refine snl h7 ?_
  refine hw_ret ?_
  refine hq_ret4 rfl (rval_tmp rfl) (rval_tmp rfl) (rval_tmp rfl) (rval_tmp rfl) [] rfl pre0 ?_
  exact fz_t4 (.fp _ _ (Nat.le_refl _) _ _ (fun j hj=>Frz.fz)) (show Fz _ (ptsV []) (ptsV []) from Frz.fz) (.imm _) (.imm _)
theorem net_fine (s:List UInt8) (l:List Mn) (hs5:s.length≤500) (hF:fewM l=true) (lx:List Sg) (t:T) (hok:t.ok=true) (hv:lexV s=.ok lx) (hsg:Seg lx 3 0 lx.length t) (hPB:PtB (T.flat 0 t)) (hw:t.w≤60) (y:HV) (z:Int)
    (hn:NewIs (meansV l) (T.flat 0 t) (t2 y (intV z))) (hy:∀ sh,Fz sh y y):NetP s l (t4 y (ptsV (T.flat 0 t)) (intV z) (boolV true)):=by
  have hB:=(fewM_B hF).1
  have hel:=hPB.1
  have hat:AtP (T.flat 0 t) 0 (T.flat 0 t):=⟨[],[],by simp,rfl⟩
  have hsz:(T.flat 0 t).length=t.size:=T.flat_len 0 t
  have hps:=t.size_pos
  have hwm:wMin t.w≤60:=by unfold wMin;split <;> omega
  have hmn:=manyT_h (T.flat 0 t) hel t 0 hok hat
  have hpt:=fun r (h:ParseIs s r)=>parse_tree hv hsg h
  have hp:ParseIs s (T.flat 0 t,0,0):=.ok lx t hv hsg
  generalize T.flat 0 t=e at hel hat hsz hmn hp hpt hPB hn ⊢
  have hel0:0 < e.length:=by omega
  refine hpure_of Tryz.func12 rfl (by kernel_rfl) _ _ _ rfl 63 rfl rfl (fun w F=>?_)
  refine srg fun N h1=>?_
  refine hm_1 3 (hop_box (id:=3) (sz:=1) rfl rfl rfl (nb rfl) (nb rfl)) rfl rfl pre0 rfl rfl (c':=1) rfl ?_
  refine sa ?_
  refine sa ?_
  refine sa ?_
  refine sa ?_
  refine snl h1 ?_
  refine srg fun N h2=>?_
  refine sm ?_
  refine hf_callR 18 (xs:=[_]) (pre:=[]) (refParse_h s (e,0,0) (by omega) hp _) ⟨rfl,trivial⟩ pre0 rfl rfl (fun u c1 hu=>?_)
  (try dsimp only)
  refine sm ?_
  refine s0 (hop_extract rfl rfl) ?_
  refine s0 (hop_extract rfl rfl) ?_
  refine s0 (hop_extract rfl rfl) ?_
  refine sa ?_
  refine sa ?_
  refine sa ?_
  refine snl h2 ?_
  refine hw_seq (fun Nh3 h3=>?_)
  refine srg fun N h4=>?_
  refine sm ?_
  refine s0 (hop_neq rfl rfl) ?_
  refine sm ?_
  refine gm 24 ?_
  refine stg 24 (fun hb=>hop_len_strl (T:=9) rfl (by kernel_rfl) rfl) rfl rfl rfl rfl rfl ?_
  refine stg 24 (fun hb=>hop_gtr rfl rfl) rfl rfl rfl rfl rfl ?_
  refine hq_p 28 (hstep_or _ _ rfl rfl rfl) rfl rfl rfl ?_
  refine sm ?_
  refine hq_g 30 7 29 false _ (fun hb=>hol_load ty_42 rfl (nb rfl) (nb rfl) (fun h=>(by rfl))) rfl rfl rfl rfl (pre1 rfl) rfl rfl rfl ?_
  refine stg 29 (fun hb=>hop_call0 (xs:=[_]) (fewM_h l) ⟨rfl,trivial⟩ ⟨(Fz.eq rfl),trivial⟩) rfl rfl rfl rfl rfl ?_
  refine stg 29 (fun hb=>hop_not rfl) rfl rfl rfl rfl rfl ?_
  refine hq_p 33 (hstep_or _ _ rfl rfl rfl) rfl rfl rfl ?_
  refine sm ?_
  refine gm 34 ?_
  refine stg 34 (fun hb=>hop_len_sl (T:=22) rfl (elOf_spec el_22).1 rfl) rfl rfl rfl rfl rfl ?_
  refine stg 34 (fun hb=>hop_gtr rfl rfl) rfl rfl rfl rfl rfl ?_
  refine gm 34 ?_
  refine hq_g3 39 16 38 34 false true _ _ (fun hb hb2=>hop_move rfl) rfl rfl rfl rfl rfl pre0 rfl rfl rfl ?_
  refine hq_g3 40 16 38 34 false true _ _ (fun hb hb2=>hop_move rfl) rfl rfl rfl rfl rfl pre0 rfl rfl rfl ?_
  refine hq_g3 41 16 38 34 false true _ _ (fun hb hb2=>hop_len_sl (T:=22) rfl (elOf_spec el_22).1 rfl) rfl rfl rfl rfl rfl pre0 rfl rfl rfl ?_
  refine hq_g3 42 16 38 34 false true _ _ (fun hb hb2=>HOp.val (v':=intV ((0+t.size - 1:Nat):Int)) (hop_subi rfl rfl rfl (by simp at hb;omega) (by (simp at hb hb2;first | omega | (dsimp only;omega) | (simp <;> omega)))) (congrArg intV (by dsimp only;omega))) rfl rfl rfl rfl rfl pre0 rfl rfl rfl ?_
  refine hq_g3 43 16 38 34 false true _ _ (fun hb hb2=>hop_call0 (xs:=[_,_]) (hmn) ⟨rfl,⟨rfl,trivial⟩⟩ ⟨(Fz.eq rfl),⟨(Fz.eq rfl),trivial⟩⟩) rfl rfl rfl rfl rfl pre0 rfl rfl rfl ?_
  refine hq_g3 44 16 38 34 false true _ _ (fun hb hb2=>hop_gtr rfl rfl) rfl rfl rfl rfl rfl pre0 rfl rfl rfl ?_
  refine hq_pg 45 (hstep_andg (gi:=12) (j:=34) _ _ rfl rfl rfl rfl) rfl rfl rfl rfl ?_
  refine hq_p 46 (hstep_or _ _ rfl rfl rfl) rfl rfl rfl ?_
  refine nu ?_
  refine h4 _ ?_
  refine wc (fun hc0=>?_) (fun hc0=>?_)
  · have hr0 := hc0; (try simp only [hcs, Int.reduceToNat] at hc0)
    exfalso;have h:=hr0;simp [hF] at h;omega
  have hr0:=hc0;(try simp only [hcs,Int.reduceToNat] at hc0)
  refine hw_skip ?_
  refine h3 _ ?_
  refine srg fun N h5=>?_
  refine sm ?_
  refine hf_callR 50 (xs:=[_]) (pre:=[]) (parse_h _ s (by omega)) ⟨rfl,trivial⟩ pre0 rfl rfl (fun r c2 hr=>?_)
  (try dsimp only)
  refine sm ?_
  refine s0 (hop_extract rfl rfl) ?_
  refine s0 (hop_extract rfl rfl) ?_
  refine s0 (hop_extract rfl rfl) ?_
  refine sa ?_
  refine sa ?_
  refine sa ?_
  refine snl h5 ?_
  refine hw_seq (fun Nh6 h6=>?_)
  obtain rfl:=hpt _ hr
  refine hw_region ?_
  refine sm ?_
  refine s0 (hop_makeFunc (hs:=[_]) ⟨rfl,trivial⟩) ?_
  refine (hsub_shr 56 [(3,_)] rfl (preC rfl pre0) rfl (fz_cap (.head _) rfl)).seq ?_
  refine s0 (hop_call0 (xs:=[_,_]) (new_h (meansOk l hB) e hPB _ hn) ⟨rfl,⟨rfl,trivial⟩⟩ ⟨(Fz.eq rfl),⟨(.fn _ _ _ _ (fun i hi=>by obtain rfl:i=0:=(by omega);exact .fp _ _ (Nat.le_refl _) _ _ (fun j hj=>show Fz _ (mnsV l) (mnsV l) from Frz.fz))),trivial⟩⟩) ?_
  refine sm ?_
  refine s0 (hop_extract rfl rfl) ?_
  refine s0 (hop_extract rfl rfl) ?_
  refine sa ?_
  refine sa ?_
  refine snl h6 ?_
  refine srg fun N h7=>?_
  refine sm ?_
  refine sm ?_
  refine sm ?_
  refine sa ?_
  refine sa ?_
  refine sa ?_
  refine sa ?_
  refine snl h7 ?_
  refine hw_ret ?_
  refine hq_ret4 rfl (rval_tmp rfl) (rval_tmp rfl) (rval_tmp rfl) (rval_tmp rfl) [] rfl pre0 ?_
  exact fz_t4 (hy _) (show Fz _ (ptsV e) (ptsV e) from Frz.fz) (.imm _) (.imm _)
theorem net_cases (s:List UInt8) (l:List Mn) (hs:s.length≤9223372036854775807):(∃ x:Int,NetP s l (t4 nilP nilS (intV x) (boolV false)))∨(∃ e,NetP s l (t4 nilP (ptsV e) (intV 6) (boolV true))∧noneE l e=true∧e.length≤100000∧MnB l)∨∃ w on β p e,NetOk s l w on β p e:=by
  obtain ⟨r,hp⟩:=parse_ex s
  have hpr:=parse_right hp
  cases hp with
  | err e hv=>exact .inl ⟨_,net_err s l hs _ _ (.err e hv) (lexV_err hv)⟩
  | odd lx q hv hne hq hC=>exact .inl ⟨_,net_err s l hs _ _ (.odd lx q hv hne hq hC) (by decide)⟩
  | end_ lx hv hne hC=>exact .inl ⟨_,net_err s l hs _ _ (.end_ lx hv hne hC) (by decide)⟩
  | none hv =>
    by_cases h:s.length≤500∧fewM l=true
    · have hB := (fewM_B h.2).1
      exact .inr (.inr ⟨0,[],fun _=>Bag.zero,Pc.nil,[],⟨net_fine0 s l h.1 h.2 hv,refNil_h l,rfl,Nat.zero_le _,rfl,fun i=>Bag.zero_ok,fun i=>Bag.zero_ok,Pc.nil_ok,Nat.zero_le _,hB,.inl ⟨rfl,rfl,rfl,fun _=>rfl,rfl⟩⟩⟩)
    · exact .inl ⟨_,net_far0 s l hs (.none hv) h⟩
  | ok lx t hv hsg =>
    have hok:=seg_ok (lexV_W hv) hsg
    have hPB:=hpr.1
    by_cases h:s.length≤500∧fewM l=true∧t.w≤60
    · have hB := (fewM_B h.2.1).1
      have hR:rightV (T.flat 0 t)=true:=right_of_ok hok
      have hmo:=means_ok l
      cases hn:noneE l (T.flat 0 t) with
      | true=>exact .inr (.inl ⟨_,net_fine s l h.1 h.2.1 lx t hok hv hsg hPB h.2.2 _ _ (.none hR (by rw [noneV_E];exact hn)) (fun sh=>.imm _),hn,hPB.1,hB⟩)
      | false =>
        have hly:=lay_ok hmo t 0 (by omega)
        refine .inr (.inr ⟨0+t.w,_,_,_,_,⟨net_fine s l h.1 h.2.1 lx t hok hv hsg hPB h.2.2 (treeNet (meansV l) t) 0 (.fine t hok rfl (by rw [noneV_E];exact hn) (by omega)) (fun sh=>.fp _ _ (Nat.le_refl _) _ _ (fun j hj=>Frz.fz)),refNet_h l hB t hok hPB.1 (by omega),hn,by omega,?_,?_,?_,hly.pc,hPB.1,hB,.inr ⟨t,hok,rfl,rfl,rfl,rfl,rfl⟩⟩⟩)
        · rw [Nat.zero_add];exact hly.len
        · intro i
          show ((lay (meansV l) t 0).on.getD i Bag.zero).ok
          by_cases hi:i < (lay (meansV l) t 0).on.length
          · rw [List.getD_eq_getElem?_getD,List.getElem?_eq_getElem hi];exact hly.on _ (List.getElem_mem hi)
          · rw [List.getD_eq_getElem?_getD,List.getElem?_eq_none (by omega)];exact Bag.zero_ok
        · exact links_ok hly.lk (fun _=>Bag.zero_ok)
    · exact .inl ⟨_,net_far s l hs t hok hPB (.ok lx t hv hsg) h⟩
theorem list_few (x:Bag):x.list.length≤1000000:=by have:=list_le x;omega
theorem nfaPlaces_h (s:List UInt8) (l:List Mn) (pl:Int) (hs:s.length≤9223372036854775807):HPure Tryz.prog 5 [strV s,mnsV l,intV pl] (boolV true):=by
  have hn:=net_cases s l hs
  refine hpure_of Tryz.func5 rfl (by kernel_rfl) _ _ _ rfl 168 rfl rfl (fun w F=>?_)
  refine srg fun N h1=>?_
  refine sa ?_
  refine snl h1 ?_
  refine srg fun N h2=>?_
  refine sa ?_
  refine snl h2 ?_
  refine hw_seq (fun Nh3 h3=>?_)
  refine srg fun N h4=>?_
  refine sm ?_
  refine s0 (hop_call0 (xs:=[_]) (nplaces0_h) ⟨rfl,trivial⟩ ⟨(Fz.eq rfl),trivial⟩) ?_
  refine s0 (hop_neq rfl rfl) ?_
  refine sm ?_
  refine gm 17 ?_
  refine stg 17 (fun hb=>hop_call0 (xs:=[_]) (nempty0_h) ⟨rfl,trivial⟩ ⟨(Fz.eq rfl),trivial⟩) rfl rfl rfl rfl rfl ?_
  refine hq_p 20 (hstep_and _ _ rfl rfl rfl) rfl rfl rfl ?_
  refine sm ?_
  refine gm 21 ?_
  refine stg 21 (fun hb=>hop_call0 (xs:=[_]) (nfirst0_h) ⟨rfl,trivial⟩ ⟨(Fz.eq rfl),trivial⟩) rfl rfl rfl rfl rfl ?_
  refine stg 21 (fun hb=>hop_build (hs:=[]) st_33 rfl rfl trivial) rfl rfl rfl rfl rfl ?_
  refine stg 21 (fun hb=>hop_neq_bag Bag.zero Bag.zero rfl rfl rfl (by exact j4 rfl rfl rfl rfl) (by exact j4 rfl rfl rfl rfl)) rfl rfl rfl rfl rfl ?_
  refine hq_p 26 (hstep_and _ _ rfl rfl rfl) rfl rfl rfl ?_
  refine sm ?_
  refine gm 27 ?_
  refine stg 27 (fun hb=>hop_call0 (xs:=[_]) (nends0_h) ⟨rfl,trivial⟩ ⟨(Fz.eq rfl),trivial⟩) rfl rfl rfl rfl rfl ?_
  refine stg 27 (fun hb=>hop_build (hs:=[]) st_33 rfl rfl trivial) rfl rfl rfl rfl rfl ?_
  refine stg 27 (fun hb=>hop_neq_bag Bag.zero Bag.zero rfl rfl rfl (by exact j4 rfl rfl rfl rfl) (by exact j4 rfl rfl rfl rfl)) rfl rfl rfl rfl rfl ?_
  refine hq_p 32 (hstep_and _ _ rfl rfl rfl) rfl rfl rfl ?_
  refine sm ?_
  refine gm 33 ?_
  refine gm 33 ?_
  refine stg 33 (fun hb=>hop_call0 (xs:=[_,_]) (nbehind0_h pl) ⟨rfl,⟨rfl,trivial⟩⟩ ⟨(Fz.eq rfl),⟨(Fz.eq rfl),trivial⟩⟩) rfl rfl rfl rfl rfl ?_
  refine stg 33 (fun hb=>hop_build (hs:=[]) st_33 rfl rfl trivial) rfl rfl rfl rfl rfl ?_
  refine stg 33 (fun hb=>hop_neq_bag Bag.zero Bag.zero rfl rfl rfl (by exact j4 rfl rfl rfl rfl) (by exact j4 rfl rfl rfl rfl)) rfl rfl rfl rfl rfl ?_
  refine hq_p 39 (hstep_and _ _ rfl rfl rfl) rfl rfl rfl ?_
  refine sm ?_
  refine gm 40 ?_
  refine gm 40 ?_
  refine stg 40 (fun hb=>hop_call0 (xs:=[_,_]) (non0_h pl) ⟨rfl,⟨rfl,trivial⟩⟩ ⟨(Fz.eq rfl),⟨(Fz.eq rfl),trivial⟩⟩) rfl rfl rfl rfl rfl ?_
  refine stg 40 (fun hb=>hop_build (hs:=[]) st_33 rfl rfl trivial) rfl rfl rfl rfl rfl ?_
  refine stg 40 (fun hb=>hop_neq_bag Bag.zero Bag.zero rfl rfl rfl (by exact j4 rfl rfl rfl rfl) (by exact j4 rfl rfl rfl rfl)) rfl rfl rfl rfl rfl ?_
  refine hq_p 46 (hstep_and _ _ rfl rfl rfl) rfl rfl rfl ?_
  refine sm ?_
  refine gm 47 ?_
  refine stg 47 (fun hb=>hop_call0 (xs:=[_,_]) (nfits0_h _) ⟨rfl,⟨rfl,trivial⟩⟩ ⟨(Fz.eq rfl),⟨(Fz.eq rfl),trivial⟩⟩) rfl rfl rfl rfl rfl ?_
  refine hq_p 50 (hstep_and _ _ rfl rfl rfl) rfl rfl rfl ?_
  refine nu ?_
  refine h4 _ ?_
  refine wc (fun hc0=>?_) (fun hc0=>?_)
  · have hr0 := hc0; (try simp only [hcs, Int.reduceToNat] at hc0)
    exfalso;simp at hr0
  have hr0:=hc0;(try simp only [hcs,Int.reduceToNat] at hc0)
  refine hw_skip ?_
  refine h3 _ ?_
  refine hw_seq (fun Nh5 h5=>?_)
  rcases hn with ⟨x,hx⟩ | ⟨e,hx,hne,hel,hmb⟩ | ⟨wd,on,β,p,e,V⟩
  · skip
    refine hw_region ?_
    refine sm ?_
    refine sm ?_
    refine s0 (hop_call0 (xs:=[_,_]) (hx) ⟨rfl,⟨rfl,trivial⟩⟩ ⟨(Fz.eq rfl),⟨(Fz.eq rfl),trivial⟩⟩) ?_
    refine sm ?_
    refine s0 (hop_extract rfl rfl) ?_
    refine s0 (hop_extract rfl rfl) ?_
    refine s0 (hop_extract rfl rfl) ?_
    refine s0 (hop_extract rfl rfl) ?_
    refine sa ?_
    refine sa ?_
    refine sa ?_
    refine sa ?_
    refine snl h5 ?_
    refine hw_seq (fun Nh6 h6=>?_)
    refine srg fun N h7=>?_
    refine sm ?_
    refine s0 (hop_not rfl) ?_
    refine snl h7 ?_
    refine wc (fun hc1=>?_) (fun hc1=>?_)
    · have hr1 := hc1; (try simp only [hcs, Int.reduceToNat] at hc1)
      refine srg fun N h8=>?_
      refine s0 (hop_call0 (xs:=[]) (live7_h) trivial trivial) ?_
      refine sa ?_
      refine snl h8 ?_
      refine hw_ret ?_
      refine hq_then_ret ?_
      refine hq_ret1 rfl (rval_tmp rfl) [] rfl pre0 ?_
      exact .imm _
    have hr1:=hc1;(try simp only [hcs,Int.reduceToNat] at hc1)
    exfalso;simp at hr1
  · skip
    refine hw_region ?_
    refine sm ?_
    refine sm ?_
    refine s0 (hop_call0 (xs:=[_,_]) (hx) ⟨rfl,⟨rfl,trivial⟩⟩ ⟨(Fz.eq rfl),⟨(Fz.eq rfl),trivial⟩⟩) ?_
    refine sm ?_
    refine s0 (hop_extract rfl rfl) ?_
    refine s0 (hop_extract rfl rfl) ?_
    refine s0 (hop_extract rfl rfl) ?_
    refine s0 (hop_extract rfl rfl) ?_
    refine sa ?_
    refine sa ?_
    refine sa ?_
    refine sa ?_
    refine snl h5 ?_
    refine hw_seq (fun Nh9 h9=>?_)
    refine srg fun N h10=>?_
    refine sm ?_
    refine s0 (hop_not rfl) ?_
    refine snl h10 ?_
    refine wc (fun hc1=>?_) (fun hc1=>?_)
    · have hr1 := hc1; (try simp only [hcs, Int.reduceToNat] at hc1)
      exfalso;simp at hr1
    have hr1:=hc1;(try simp only [hcs,Int.reduceToNat] at hc1)
    refine hw_skip ?_
    refine h9 _ ?_
    refine hw_seq (fun Nh11 h11=>?_)
    refine srg fun N h12=>?_
    refine sm ?_
    refine sm ?_
    refine s0 (hop_call0 (xs:=[_,_]) (none_h l hmb e hel) ⟨rfl,⟨rfl,trivial⟩⟩ ⟨(Fz.eq rfl),⟨(Fz.eq rfl),trivial⟩⟩) ?_
    refine snl h12 ?_
    refine wc (fun hc2=>?_) (fun hc2=>?_)
    · have hr2 := hc2; (try simp only [hcs, Int.reduceToNat] at hc2)
      refine srg fun N h13=>?_
      refine sm ?_
      refine s0 (hop_eql_pn rfl rfl rfl) ?_
      refine sm ?_
      refine hq_k 68 67 true (hop_move rfl) rfl rfl rfl rfl pre0 rfl rfl ?_
      refine hq_k 69 67 true (hop_eql rfl rfl) rfl rfl rfl rfl pre0 rfl rfl ?_
      refine s0 (hop_pick_t rfl rfl) ?_
      refine sm ?_
      refine hq_k 72 71 true (hop_call0 (xs:=[]) (live7_h) trivial trivial) rfl rfl rfl rfl pre0 rfl rfl ?_
      refine s0 (hop_pick_t rfl rfl) ?_
      refine sa ?_
      refine nu ?_
      refine h13 _ ?_
      refine hw_ret ?_
      refine hq_then_ret ?_
      refine hq_ret1 rfl (rval_tmp rfl) [] rfl pre0 ?_
      exact .imm _
    have hr2:=hc2;(try simp only [hcs,Int.reduceToNat] at hc2)
    exfalso;simp [hne] at hr2
  · skip
    refine hw_region ?_
    refine sm ?_
    refine sm ?_
    refine s0 (hop_call0 (xs:=[_,_]) (V.net) ⟨rfl,⟨rfl,trivial⟩⟩ ⟨(Fz.eq rfl),⟨(Fz.eq rfl),trivial⟩⟩) ?_
    refine sm ?_
    refine s0 (hop_extract rfl rfl) ?_
    refine s0 (hop_extract rfl rfl) ?_
    refine s0 (hop_extract rfl rfl) ?_
    refine s0 (hop_extract rfl rfl) ?_
    refine sa ?_
    refine sa ?_
    refine sa ?_
    refine sa ?_
    refine snl h5 ?_
    refine hw_seq (fun Nh14 h14=>?_)
    refine srg fun N h15=>?_
    refine sm ?_
    refine s0 (hop_not rfl) ?_
    refine snl h15 ?_
    refine wc (fun hc1=>?_) (fun hc1=>?_)
    · have hr1 := hc1; (try simp only [hcs, Int.reduceToNat] at hc1)
      exfalso;simp at hr1
    have hr1:=hc1;(try simp only [hcs,Int.reduceToNat] at hc1)
    refine hw_skip ?_
    refine h14 _ ?_
    refine hw_seq (fun Nh16 h16=>?_)
    refine srg fun N h17=>?_
    refine sm ?_
    refine sm ?_
    refine s0 (hop_call0 (xs:=[_,_]) (none_h l V.mnb e V.eln) ⟨rfl,⟨rfl,trivial⟩⟩ ⟨(Fz.eq rfl),⟨(Fz.eq rfl),trivial⟩⟩) ?_
    refine snl h17 ?_
    refine wc (fun hc2=>?_) (fun hc2=>?_)
    · have hr2 := hc2; (try simp only [hcs, Int.reduceToNat] at hc2)
      exfalso;simp [V.none] at hr2
    have hr2:=hc2;(try simp only [hcs,Int.reduceToNat] at hc2)
    have hw60:=V.w60
    refine hw_skip ?_
    refine h16 _ ?_
    refine srg fun N h18=>?_
    refine sm ?_
    refine sm ?_
    refine s0 (hop_call0 (xs:=[_,_]) (V.doc) ⟨rfl,⟨rfl,trivial⟩⟩ ⟨(Fz.eq rfl),⟨(Fz.eq rfl),trivial⟩⟩) ?_
    refine hm_1 12 (hop_alloc (id:=12) (sz:=5) zc_55 rfl rfl (nb rfl) (nb rfl)) rfl rfl pre0 rfl rfl (c':=1) rfl ?_
    refine sw (2) ty_55 ?_
    refine snl h18 ?_
    refine hw_seq (fun Nh19 h19=>?_)
    refine hw_seq (fun Nh20 h20=>?_)
    refine hd_start ?_
    refine dm 1 ?_
    refine d0 2 (hop_neq rfl rfl) ?_
    refine dm 3 ?_
    refine hd_g 80 2 79 false _ (fun hb=>hop_move rfl) rfl rfl rfl rfl pre0 rfl rfl rfl (k':=4) rfl ?_
    refine hd_g 81 2 79 false _ (fun hb=>hop_call0 (xs:=[_]) (nplaces_h wd on β p (by omega)) ⟨rfl,trivial⟩ ⟨(Fz.eq rfl),trivial⟩) rfl rfl rfl rfl pre0 rfl rfl rfl (k':=5) rfl ?_
    refine hd_g 82 2 79 false _ (fun hb=>hop_fa fd_55_0 rfl) rfl rfl rfl rfl pre0 rfl rfl rfl (k':=6) rfl ?_
    refine hd_g 83 2 79 false _ (fun hb=>hol_load ty_53 rfl (nb rfl) (nb rfl) (fun h=>(by rfl))) rfl rfl rfl rfl (pre1 rfl) rfl rfl rfl (k':=7) rfl ?_
    refine hd_g 84 2 79 false _ (fun hb=>hop_len_sl (T:=53) rfl (elOf_spec el_53).1 rfl) rfl rfl rfl rfl pre0 rfl rfl rfl (k':=8) rfl ?_
    refine hd_g 85 2 79 false _ (fun hb=>hop_neq rfl rfl) rfl rfl rfl rfl pre0 rfl rfl rfl (k':=9) rfl ?_
    refine hd_p 86 (hstep_or _ _ rfl rfl rfl) rfl rfl rfl (k':=10) rfl ?_
    refine dm 11 ?_
    refine hd_g 88 10 87 false _ (fun hb=>hop_move rfl) rfl rfl rfl rfl pre0 rfl rfl rfl (k':=12) rfl ?_
    refine hd_g 89 10 87 false _ (fun hb=>hop_call0 (xs:=[_]) (nempty_h wd on β p) ⟨rfl,trivial⟩ ⟨(Fz.eq rfl),trivial⟩) rfl rfl rfl rfl pre0 rfl rfl rfl (k':=13) rfl ?_
    refine hd_g 90 10 87 false _ (fun hb=>hop_fa fd_55_4 rfl) rfl rfl rfl rfl pre0 rfl rfl rfl (k':=14) rfl ?_
    refine hd_g 91 10 87 false _ (fun hb=>hol_load ty_4 rfl (nb rfl) (nb rfl) (fun h=>(by rfl))) rfl rfl rfl rfl (pre1 rfl) rfl rfl rfl (k':=15) rfl ?_
    refine hd_g 92 10 87 false _ (fun hb=>hop_bne (fun w=>by kernel_rfl) rfl rfl) rfl rfl rfl rfl pre0 rfl rfl rfl (k':=16) rfl ?_
    refine hd_p 93 (hstep_or _ _ rfl rfl rfl) rfl rfl rfl (k':=17) rfl ?_
    refine dm 18 ?_
    refine hd_g 95 17 94 false _ (fun hb=>hop_move rfl) rfl rfl rfl rfl pre0 rfl rfl rfl (k':=19) rfl ?_
    refine hd_g 96 17 94 false _ (fun hb=>hop_call0 (xs:=[_]) (nfirst_h wd on β p) ⟨rfl,trivial⟩ ⟨(Fz.eq rfl),trivial⟩) rfl rfl rfl rfl pre0 rfl rfl rfl (k':=20) rfl ?_
    refine hd_g 97 17 94 false _ (fun hb=>hop_call0 (xs:=[_]) (nlist_h p.first V.pck.1) ⟨rfl,trivial⟩ ⟨(Fz.eq rfl),trivial⟩) rfl rfl rfl rfl pre0 rfl rfl rfl (k':=21) rfl ?_
    refine hd_g 98 17 94 false _ (fun hb=>hop_fa fd_55_2 rfl) rfl rfl rfl rfl pre0 rfl rfl rfl (k':=22) rfl ?_
    refine hd_g 99 17 94 false _ (fun hb=>hol_load ty_25 rfl (nb rfl) (nb rfl) (fun h=>(by rfl))) rfl rfl rfl rfl (pre1 rfl) rfl rfl rfl (k':=23) rfl ?_
    refine hd_g 100 17 94 false _ (fun hb=>hop_call0 (xs:=[_,_]) (same03_h p.first.list p.first.list (list_few _) (list_few _)) ⟨rfl,⟨rfl,trivial⟩⟩ ⟨(Fz.eq rfl),⟨(Fz.eq rfl),trivial⟩⟩) rfl rfl rfl rfl pre0 rfl rfl rfl (k':=24) rfl ?_
    refine hd_g 101 17 94 false _ (fun hb=>hop_not rfl) rfl rfl rfl rfl pre0 rfl rfl rfl (k':=25) rfl ?_
    refine hd_p 102 (hstep_or _ _ rfl rfl rfl) rfl rfl rfl (k':=26) rfl ?_
    refine dm 27 ?_
    refine hd_g 104 26 103 false _ (fun hb=>hop_move rfl) rfl rfl rfl rfl pre0 rfl rfl rfl (k':=28) rfl ?_
    refine hd_g 105 26 103 false _ (fun hb=>hop_call0 (xs:=[_]) (nends_h wd on β p) ⟨rfl,trivial⟩ ⟨(Fz.eq rfl),trivial⟩) rfl rfl rfl rfl pre0 rfl rfl rfl (k':=29) rfl ?_
    refine hd_g 106 26 103 false _ (fun hb=>hop_call0 (xs:=[_]) (nlist_h p.ends V.pck.2) ⟨rfl,trivial⟩ ⟨(Fz.eq rfl),trivial⟩) rfl rfl rfl rfl pre0 rfl rfl rfl (k':=30) rfl ?_
    refine hd_g 107 26 103 false _ (fun hb=>hop_fa fd_55_3 rfl) rfl rfl rfl rfl pre0 rfl rfl rfl (k':=31) rfl ?_
    refine hd_g 108 26 103 false _ (fun hb=>hol_load ty_25 rfl (nb rfl) (nb rfl) (fun h=>(by rfl))) rfl rfl rfl rfl (pre1 rfl) rfl rfl rfl (k':=32) rfl ?_
    refine hd_g 109 26 103 false _ (fun hb=>hop_call0 (xs:=[_,_]) (same03_h p.ends.list p.ends.list (list_few _) (list_few _)) ⟨rfl,⟨rfl,trivial⟩⟩ ⟨(Fz.eq rfl),⟨(Fz.eq rfl),trivial⟩⟩) rfl rfl rfl rfl pre0 rfl rfl rfl (k':=33) rfl ?_
    refine hd_g 110 26 103 false _ (fun hb=>hop_not rfl) rfl rfl rfl rfl pre0 rfl rfl rfl (k':=34) rfl ?_
    refine hd_p 111 (hstep_or _ _ rfl rfl rfl) rfl rfl rfl (k':=35) rfl ?_
    refine hd_nilU (by kernel_rfl) (by kernel_rfl) (by rfl) (by simp only [dropUn,slots];exact rfl) (c':=37) rfl ?_
    refine h20 _ ?_
    refine wc (fun hc3=>?_) (fun hc3=>?_)
    · have hr3 := hc3; (try simp only [hcs, Int.reduceToNat] at hc3)
      exfalso;simp at hr3
    have hr3:=hc3;(try simp only [hcs,Int.reduceToNat] at hc3)
    refine hw_skip ?_
    refine h19 _ ?_
    refine hw_seq (fun Nh21 h21=>?_)
    refine srg fun N h22=>?_
    refine sa ?_
    refine snl h22 ?_
    refine hw_block ?_
    refine hw_loopc (α:=Nat) (fun x c=>⟨168,[(2,.v (intV pl)),(8,.v (netP wd on β p)),(12,.v (.pt 12 0 0 0)),(13,.v (intV (x:Int)))],[(12,⟨0,1,5,55,0,fun _=>ndF (.sl 1 wd (lrF (onF on))) (.sl 1 wd (lrF β)) p 0⟩)],c⟩) (fun x=>x≤wd) (fun x=>wd - x) (0) (by omega) (hsub_of rfl (Nat.le_refl _) (tsr rfl (tsr rfl (tsr rfl (tsr rfl TmSub.nil)))) (HpSub.cons rfl (osub_nd (.refl _) (.refl _) (.refl _) (.refl _) (.refl _)) HpSub.nil)) (fun i c hx NhL23 hL23=>?_)
    (try dsimp only at hx hL23 ⊢)
    refine hw_seq (fun Nh24 h24=>?_)
    refine srg fun N h25=>?_
    refine sm ?_
    refine sf fd_55_0 ?_
    refine sl ty_53 ?_
    refine s0 (hop_len_sl (T:=53) rfl (elOf_spec el_53).1 rfl) ?_
    refine s0 (hop_lss rfl rfl) ?_
    refine snl h25 ?_
    refine wc (fun hc4=>?_) (fun hc4=>?_)
    · have hr4 := hc4; (try simp only [hcs, Int.reduceToNat] at hc4)
      have hiw:i < wd:=(by omega)
      refine hw_skip ?_
      refine h24 _ ?_
      refine hw_seq (fun Nh26 h26=>?_)
      refine hw_block ?_
      refine hw_seq (fun Nh27 h27=>?_)
      refine hd_start ?_
      refine dm 1 ?_
      refine dm 2 ?_
      refine d0 3 (HOp.val (v':=bagH (onF on i)) (hop_call0 (xs:=[_,_]) (non_h wd on β p (i:Int) (by omega)) ⟨rfl,⟨rfl,trivial⟩⟩ ⟨(Fz.eq rfl),⟨(Fz.eq rfl),trivial⟩⟩) ((by rw [if_pos (by omega)];rfl))) ?_
      refine d0 4 (hop_call0 (xs:=[_]) (nlist_h (onF on i) (V.onk i)) ⟨rfl,trivial⟩ ⟨(Fz.eq rfl),trivial⟩) ?_
      refine df 5 fd_55_0 ?_
      refine dl 6 ty_53 ?_
      refine dm 7 ?_
      refine d0 8 (hop_ia_sl el_53 rfl rfl (by omega) (by omega) (nb rfl)) ?_
      refine d0 9 (hop_load_fp ty_25 rfl (nb rfl) (fun h=>(by rfl))) ?_
      refine d0 10 (hop_call0 (xs:=[_,_]) (same03_h (onF on i).list (onF on i).list (list_few _) (list_few _)) ⟨rfl,⟨rfl,trivial⟩⟩ ⟨(Fz.eq rfl),⟨(Fz.eq rfl),trivial⟩⟩) ?_
      refine d0 11 (hop_not rfl) ?_
      refine dm 12 ?_
      refine hd_g 131 11 130 false _ (fun hb=>hop_move rfl) rfl rfl rfl rfl pre0 rfl rfl rfl (k':=13) rfl ?_
      refine hd_g 132 11 130 false _ (fun hb=>hop_move rfl) rfl rfl rfl rfl pre0 rfl rfl rfl (k':=14) rfl ?_
      refine hd_g 133 11 130 false _ (fun hb=>HOp.val (v':=bagH (β i)) (hop_call0 (xs:=[_,_]) (nbehind_h wd on β p (i:Int) (by omega)) ⟨rfl,⟨rfl,trivial⟩⟩ ⟨(Fz.eq rfl),⟨(Fz.eq rfl),trivial⟩⟩) ((by rw [if_pos (by omega)];rfl))) rfl rfl rfl rfl pre0 rfl rfl rfl (k':=15) rfl ?_
      refine hd_g 134 11 130 false _ (fun hb=>hop_call0 (xs:=[_]) (nlist_h (β i) (V.bek i)) ⟨rfl,trivial⟩ ⟨(Fz.eq rfl),trivial⟩) rfl rfl rfl rfl pre0 rfl rfl rfl (k':=16) rfl ?_
      refine hd_g 135 11 130 false _ (fun hb=>hop_fa fd_55_1 rfl) rfl rfl rfl rfl pre0 rfl rfl rfl (k':=17) rfl ?_
      refine hd_g 136 11 130 false _ (fun hb=>hol_load ty_53 rfl (nb rfl) (nb rfl) (fun h=>(by rfl))) rfl rfl rfl rfl (pre1 rfl) rfl rfl rfl (k':=18) rfl ?_
      refine hd_g 137 11 130 false _ (fun hb=>hop_move rfl) rfl rfl rfl rfl pre0 rfl rfl rfl (k':=19) rfl ?_
      refine hd_g 138 11 130 false _ (fun hb=>hop_ia_sl el_53 rfl rfl (by (simp at hb;first | omega | (dsimp only;omega) | (simp <;> omega))) (by (simp at hb;first | omega | (dsimp only;omega) | (simp <;> omega))) (nb rfl)) rfl rfl rfl rfl pre0 rfl rfl rfl (k':=20) rfl ?_
      refine hd_g 139 11 130 false _ (fun hb=>hop_load_fp ty_25 rfl (nb rfl) (fun h=>(by rfl))) rfl rfl rfl rfl pre0 rfl rfl rfl (k':=21) rfl ?_
      refine hd_g 140 11 130 false _ (fun hb=>hop_call0 (xs:=[_,_]) (same03_h (β i).list (β i).list (list_few _) (list_few _)) ⟨rfl,⟨rfl,trivial⟩⟩ ⟨(Fz.eq rfl),⟨(Fz.eq rfl),trivial⟩⟩) rfl rfl rfl rfl pre0 rfl rfl rfl (k':=22) rfl ?_
      refine hd_g 141 11 130 false _ (fun hb=>hop_not rfl) rfl rfl rfl rfl pre0 rfl rfl rfl (k':=23) rfl ?_
      refine hd_p 142 (hstep_or _ _ rfl rfl rfl) rfl rfl rfl (k':=24) rfl ?_
      refine hd_nilU (by kernel_rfl) (by kernel_rfl) (by rfl) (by simp only [dropUn,slots];exact rfl) (c':=c+24) rfl ?_
      refine h27 _ ?_
      refine wc (fun hc5=>?_) (fun hc5=>?_)
      · have hr5 := hc5; (try simp only [hcs, Int.reduceToNat] at hc5)
        exfalso;simp at hr5
      have hr5:=hc5;(try simp only [hcs,Int.reduceToNat] at hc5)
      refine hw_skip ?_
      refine hq_block ?_
      refine h26 _ ?_
      refine hw_region ?_
      refine sm ?_
      refine s0 (hop_addi rfl rfl rfl (by omega) (by omega)) ?_
      refine sa ?_
      refine hseq_nil ?_
      exact hL23 (i+1) _ _ (by (try dsimp only);omega) (by (try dsimp only);omega) (hsub_of rfl (Nat.le_refl _) (tsr rfl (tsr rfl (tsr rfl (tsr rfl TmSub.nil)))) (hsr rfl HpSub.nil))
    have hr4:=hc4;(try simp only [hcs,Int.reduceToNat] at hc4)
    refine hw_exit ?_
    refine hq_then_exit ?_
    refine hq_then_exit ?_
    refine hq_block_here ?_
    refine h21 _ ?_
    refine hw_seq (fun Nh28 h28=>?_)
    refine srg fun N h29=>?_
    refine sm ?_
    refine s0 (hop_lss rfl rfl) ?_
    refine sm ?_
    refine gm 145 ?_
    refine stg 145 (fun hb=>hop_fa fd_55_0 rfl) rfl rfl rfl rfl rfl ?_
    refine hq_g 148 2 145 false _ (fun hb=>hol_load ty_53 rfl (nb rfl) (nb rfl) (fun h=>(by rfl))) rfl rfl rfl rfl (pre1 rfl) rfl rfl rfl ?_
    refine stg 145 (fun hb=>hop_len_sl (T:=53) rfl (elOf_spec el_53).1 rfl) rfl rfl rfl rfl rfl ?_
    refine stg 145 (fun hb=>hop_geq rfl rfl) rfl rfl rfl rfl rfl ?_
    refine hq_p 151 (hstep_or _ _ rfl rfl rfl) rfl rfl rfl ?_
    refine nu ?_
    refine h29 _ ?_
    refine wc (fun hc6=>?_) (fun hc6=>?_)
    · have hr6 := hc6; (try simp only [hcs, Int.reduceToNat] at hc6)
      have hpw:¬ (0≤pl∧pl < (wd:Int)):=(by omega)
      refine srg fun N h30=>?_
      refine sm ?_
      refine sm ?_
      refine s0 (HOp.val (v':=bagH Bag.zero) (hop_call0 (xs:=[_,_]) (non_h wd on β p pl (by omega)) ⟨rfl,⟨rfl,trivial⟩⟩ ⟨(Fz.eq rfl),⟨(Fz.eq rfl),trivial⟩⟩) ((by rw [if_neg hpw]))) ?_
      refine s0 (hop_build (hs:=[]) st_33 rfl rfl trivial) ?_
      refine s0 (hop_eqb_t Bag.zero rfl rfl rfl (by exact j4 rfl rfl rfl rfl) (by exact j4 rfl rfl rfl rfl)) ?_
      refine sm ?_
      refine hq_k 158 157 true (hop_move rfl) rfl rfl rfl rfl pre0 rfl rfl ?_
      refine hq_k 159 157 true (hop_move rfl) rfl rfl rfl rfl pre0 rfl rfl ?_
      refine hq_k 160 157 true (HOp.val (v':=bagH Bag.zero) (hop_call0 (xs:=[_,_]) (nbehind_h wd on β p pl (by omega)) ⟨rfl,⟨rfl,trivial⟩⟩ ⟨(Fz.eq rfl),⟨(Fz.eq rfl),trivial⟩⟩) ((by rw [if_neg hpw]))) rfl rfl rfl rfl pre0 rfl rfl ?_
      refine hq_k 161 157 true (hop_build (hs:=[]) st_33 rfl rfl trivial) rfl rfl rfl rfl pre0 rfl rfl ?_
      refine hq_k 162 157 true (hop_eqb_t Bag.zero rfl rfl rfl (by exact j4 rfl rfl rfl rfl) (by exact j4 rfl rfl rfl rfl)) rfl rfl rfl rfl pre0 rfl rfl ?_
      refine s0 (hop_pick_t rfl rfl) ?_
      refine sm ?_
      refine hq_k 165 164 true (hop_call0 (xs:=[]) (live7_h) trivial trivial) rfl rfl rfl rfl pre0 rfl rfl ?_
      refine s0 (hop_pick_t rfl rfl) ?_
      refine sa ?_
      refine nu ?_
      refine h30 _ ?_
      refine hw_ret ?_
      refine hq_then_ret ?_
      refine hq_ret1 rfl (rval_tmp rfl) [] rfl pre0 ?_
      exact .imm _
    have hr6:=hc6;(try simp only [hcs,Int.reduceToNat] at hc6)
    refine hw_skip ?_
    refine h28 _ ?_
    refine srg fun N h31=>?_
    refine s0 (hop_call0 (xs:=[]) (live7_h) trivial trivial) ?_
    refine sa ?_
    refine snl h31 ?_
    refine hw_ret ?_
    refine hq_ret1 rfl (rval_tmp rfl) [] rfl pre0 ?_
    exact .imm _
end Go.Proofs.YtldjnmljnlhaaaaGreatDoor
namespace Go.Proofs.YtldjnmljnlhaaaaGreatDoor
set_option linter.unusedSimpArgs false
set_option linter.unusedVariables false
open Go.ChangeShapes Go.WideShapes Go.ChangeAt Go.RowKit Go.Deep
section
variable {H:Type} {encH:TypeId×Value→H} {P:Program} {w:World} {base:Nat} {spare:Nat→Bool} {held:Bool}
theorem open_sl {α:Type} {t e:TypeId} {fuel:Nat} {A:Option Addr} {n c:Nat} {x:DataW H×List MemPlace} (ht:P.underlying t=some (.slice e)) (size:Nat) (hC:P.cellsOf e=size) (hpos:0 < size)
    (enc:α→List Value) (henc:∀ a,(enc a).length=size) (ok:α→Prop)
    (hel:∀ (m:Nat) (cs:List Value) (y:DataW H×List MemPlace),DataW.trod encH P w base spare held m e cs=some y→∃ a:α,cs=enc a∧ok a)
    (hf:DataW.trod encH P w base spare held fuel t [.slice A n c]=some x) :
    ∃ l:List α,l.length=n∧Sl w w.heap.size size enc A l∧n≤c∧c≤9223372036854775807∧∀ a∈l,ok a:=by
  rcases open_slice ht hf with ⟨h0,_⟩ | ⟨a,len,cap,m,k,D,Pl,hcs,hb,hl,hm,hmm,hx,hi⟩
  · injection h0 with h0 _
    injection h0 with h1 h2 h3
    subst h1;subst h2;subst h3
    exact ⟨[],rfl,⟨henc,Reads.none_⟩,by omega,by omega,by simp⟩
  · injection hcs with h0 _
    injection h0 with h1 h2 h3
    subst h1;subst h2;subst h3
    have hnm:n≤m:=by rw [hmm];split <;> omega
    have each:∀ k,k≤n→∃ l:List α,l.length=k∧(∀ i (hi:i < l.length),w.cells? base (a.add (i * size)) size=some (enc l[i]))∧∀ y∈l,ok y:=by
      intro k
      induction k with
      | zero=>intro _;exact ⟨[],rfl,fun i hi=>by simp at hi,by simp⟩
      | succ k ih =>
        intro hk
        obtain ⟨l,hl1,hl2,hl3⟩:=ih (by omega)
        obtain ⟨cs',h1,h2⟩:=hi k (by omega)
        rw [hC] at h1
        obtain ⟨a',rfl,hok⟩:=hel _ _ _ h2
        refine ⟨l++[a'],by simp [hl1],fun i hi=>?_,fun y hy=>?_⟩
        · by_cases hik : i < l.length
          · rw [List.getElem_append_left hik];exact hl2 i hik
          · have : i = k := by simp at hi; omega
            subst this
            simp [hl1,h1]
        · rcases List.mem_append.1 hy with hy | hy
          · exact hl3 y hy
          · simp at hy;subst hy;exact hok
    obtain ⟨l,hl1,hl2,hl3⟩:=each n (Nat.le_refl _)
    refine ⟨l,hl1,⟨henc,?_,fun hn=>?_⟩,hl,by unfold maxLen at hm;omega,hl3⟩
    · have:∀ m:List α,(m.flatMap enc).length=m.length * size:=by
        intro m
        induction m with
        | nil=>simp
        | cons x m ih=>simp [List.flatMap_cons,ih,henc,Nat.add_mul,Nat.add_comm]
      exact this l
    · refine ⟨a, rfl, ?_, fun j u hu => ?_⟩
      · have h0 := hl2 0 hn
        have:=World.cells?_block h0 hpos
        rwa [block_of_add] at this
      · have hfl:(l.flatMap enc).length=l.length * size:=by
          have:∀ m:List α,(m.flatMap enc).length=m.length * size:=by
            intro m
            induction m with
            | nil=>simp
            | cons x m ih=>simp [List.flatMap_cons,ih,henc,Nat.add_mul,Nat.add_comm]
          exact this l
        have hj:j < l.length * size:=by
          rcases Nat.lt_or_ge j (l.flatMap enc).length with hlt | hge
          · rw [hfl] at hlt;exact hlt
          · rw [List.getElem?_eq_none hge] at hu;cases hu
        have hjd:j / size < l.length:=(Nat.div_lt_iff_lt_mul hpos).2 hj
        have hjm:j % size < size:=Nat.mod_lt _ hpos
        have e1:j=j / size * size+j % size:=by rw [Nat.mul_comm];exact (Nat.div_add_mod j size).symm
        rw [e1] at hu ⊢
        rw [flatMap_at henc _ _ _ hjd hjm] at hu
        have:=(World.cells?_some (hl2 _ hjd)).2.2 (j % size) hjm
        rw [add_of_add] at this
        rw [this,hu]
def okInt (x:Int):Prop:=(Lit.int .i64 x).wf=true
theorem el_int {e:TypeId} (he:P.underlying e=some (.int .i64)) (m:Nat) (cs:List Value) (y:DataW H×List MemPlace) (h:DataW.trod encH P w base spare held m e cs=some y):∃ a:Int,cs=intC a∧okInt a:=by
  obtain ⟨b,rfl,_,hw⟩:=DataW.trod_int he h
  exact ⟨b,rfl,hw⟩
end
structure PtI where
  v:Pt
  A:Option Addr
  n:Nat
  c:Nat
def PtI.cells (x:PtI):List Value:=[.int .i64 x.v.kind,.int .i64 x.v.low,.int .i64 x.v.high,.string ⟨x.v.name.toArray⟩,.slice x.A x.n x.c]
def PtI.none:PtI:=⟨default,.none,0,0⟩
theorem PtI.cells_length (x:PtI):x.cells.length=5:=by simp [PtI.cells]
def PtI.inOk (w:World) (x:PtI):Prop:=x.v.kids.length=x.n∧Sl w w.heap.size 1 intC x.A x.v.kids∧x.n≤x.c∧x.c≤9223372036854775807
section
variable {H:Type} {encH:TypeId×Value→H} {w:World} {base:Nat} {spare:Nat→Bool} {held:Bool}
theorem slice_form {P:Program} {t e:TypeId} (ht:P.underlying t=some (.slice e)) {fuel:Nat} {v:Value} {x:DataW H×List MemPlace} (hf:DataW.trod encH P w base spare held fuel t [v]=some x):∃ A n c,v=.slice A n c:=by
  rcases open_slice ht hf with ⟨h0,_⟩ | ⟨a,len,cap,m,k,D,Pl,hcs,_⟩
  · injection h0 with h0 _;exact ⟨_,_,_,h0⟩
  · injection hcs with h0 _;exact ⟨_,_,_,h0⟩
end
theorem intC_one (x:Int):∀ u∈intC x,u.oneCell'=true:=by
  intro u hu
  simp only [intC,List.mem_cons,List.not_mem_nil,or_false] at hu
  subst hu;rfl
theorem rep_kids {w:World} {B:Nat} {A:Option Addr} {c:Nat} {l:List Int} (h:Sl w B 1 intC A l) (hc:l.length≤c) (hm:c≤maxLen):Rep w (Env.just (allF w)) (.slice A l.length c) (kidsV l) :=
  rep_sl 1 (by omega) intC intC_one (fun x _=>intV x) 0 l hc hm h (fun i j _ hj=>by
    match j,hj with
    | 0,_=>exact .imm _)
structure MnI where
  v:Mn
  A:Option Addr
  n:Nat
  c:Nat
def MnI.cells (x:MnI):List Value:=[.string ⟨x.v.name.toArray⟩,.slice x.A x.n x.c]
def MnI.none:MnI:=⟨default,.none,0,0⟩
theorem MnI.cells_length (x:MnI):x.cells.length=2:=by simp [MnI.cells]
def MnI.inOk (w:World) (x:MnI):Prop:=x.v.on.length=x.n∧Sl w w.heap.size 1 intC x.A x.v.on∧x.n≤x.c∧x.c≤9223372036854775807
theorem mni_one (x:MnI):∀ u∈x.cells,u.oneCell'=true:=by
  intro u hu
  simp only [MnI.cells,List.mem_cons,List.not_mem_nil,or_false] at hu
  rcases hu with rfl | rfl <;> rfl
section
variable {H:Type} {encH:TypeId×Value→H} {w:World} {base:Nat} {spare:Nat→Bool} {held:Bool}
set_option maxRecDepth 100000 in
theorem el_mn (m:Nat) (cs:List Value) (y:DataW H×List MemPlace) (h:DataW.trod encH Tryz.prog w base spare held m 127 cs=some y):∃ t:MnI,cs=t.cells∧t.inOk w:=by
  obtain ⟨xs,k,_,_,hlen,hxl,hx⟩:=DataW.trod_struct Tryz.underlying127 h
  have hC:Tryz.prog.cellsOf 127=2:=by kernel_rfl
  have hS:Tryz.prog.cellsOf 9=1:=by kernel_rfl
  have hK:Tryz.prog.cellsOf 25=1:=by kernel_rfl
  rw [hC] at hlen
  match cs,hlen,xs,hxl with
  | [c3, c4], _, [x3, x4], _ =>
    have f3:DataW.trod encH Tryz.prog w base spare held k 9 (([c3,c4].drop 0).take (Tryz.prog.cellsOf 9))=[x3,x4][0]?:=hx 0 _ rfl
    have f4:DataW.trod encH Tryz.prog w base spare held k 25 (([c3,c4].drop 1).take (Tryz.prog.cellsOf 25))=[x3,x4][1]?:=hx 1 _ rfl
    rw [hS] at f3
    rw [hK] at f4
    obtain ⟨b3,h3,_,_⟩:=DataW.trod_string Tryz.underlying9 f3
    simp at h3
    subst h3
    simp only [List.drop_succ_cons,List.drop_zero,List.take_succ_cons,List.take_zero] at f4
    obtain ⟨A,n,c,rfl⟩:=slice_form Tryz.underlying25 f4
    obtain ⟨l,e,s,o,m',_⟩:=open_sl Tryz.underlying25 1 (by kernel_rfl) (by omega) intC (fun a=>by simp [intC]) okInt (el_int Tryz.underlying3) f4
    exact ⟨⟨⟨b3.data.toList,l⟩,A,n,c⟩,rfl,e,s,o,m'⟩
end
theorem rep_mns {w:World} {B:Nat} {A:Option Addr} {c:Nat} {l:List MnI} (h:Sl w B 2 MnI.cells A l) (hc:l.length≤c) (hm:c≤maxLen) (hok:∀ x∈l,x.inOk w):Rep w (Env.just (allF w)) (.slice A l.length c) (mnsV (l.map (·.v))):=by
  have key:=rep_sl (w:=w) 2 (by omega) MnI.cells mni_one (fun x=>mnF x.v) MnI.none l hc hm h (fun i j hi hj=>by
    have hg:l.getD i MnI.none=l[i]:=by rw [List.getD_eq_getElem?_getD,List.getElem?_eq_getElem hi];rfl
    rw [hg]
    obtain ⟨e,s,o,m⟩:=hok _ (List.getElem_mem hi)
    generalize l[i]=x at e s o m
    obtain ⟨v,A',n',c'⟩:=x
    simp only at e s o m
    subst e
    match j,hj with
    | 0,_=>exact .imm _
    | 1,_=>exact rep_kids s o (by unfold maxLen;omega))
  have e:mnsV (l.map (·.v))=.sl 2 l.length (fun i=>mnF (l.getD i MnI.none).v):=by
    show HV.sl 2 (l.map (·.v)).length (fun i=>mnF ((l.map (·.v)).getD i default))=_
    rw [List.length_map]
    congr 1
    funext i
    show mnF ((l.map (·.v)).getD i default)=_
    congr 1
    rw [List.getD_eq_getElem?_getD,List.getD_eq_getElem?_getD,List.getElem?_map]
    cases l[i]? <;> rfl
  rw [e];exact key
theorem NfaPlaces_walk (W:World) (hL:LibW W) (s:ByteArray) (hs:s.size≤maxLen) (a:Option Addr) (n c:Nat) (l:List MnI) (hn:l.length=n) (sl:Sl W W.heap.size 2 MnI.cells a l) (hc:n≤c) (hm:c≤9223372036854775807) (hok:∀ x∈l,x.inOk W) (pl:Int) (hw:(Lit.int .i64 pl).wf=true) :
    Calls Tryz.prog 5 #[.string s,.slice a n c,.int .i64 pl] W fun e w'=>e=.returned (.bool true)∧Below W.heap.size W w':=by
  subst hn
  have hs':s.data.toList.length≤9223372036854775807:=by have:s.size=s.data.toList.length:=rfl;rw [←this];unfold maxLen at hs;omega
  exact law_walk (nfaPlaces_h s.data.toList (l.map (·.v)) pl hs') W [.string s,.slice a l.length c,.int .i64 pl] ⟨.imm _,rep_mns sl hc (by unfold maxLen;omega) hok,.imm _,trivial⟩ hL
end Go.Proofs.YtldjnmljnlhaaaaGreatDoor
namespace Go.Proofs.YtldjnmljnlhaaaaGreatDoor
set_option linter.unusedSimpArgs false
set_option linter.unusedVariables false
set_option maxRecDepth 100000
open Go.RowKit
theorem laid_one {W:World} {l:List (String×DataW Unit)} (h:laidMetH Tryz.prog l W) (hl:(l.all fun x=>x.2.handleName?.isNone)=true) (n:String) (d:DataW Unit) (hf:l.filter (fun x=>x.1 == n)=[(n,d)]):laidMet Tryz.prog [(n,d)] W:=by
  rw [MakeChecks.laidMetH_plain _ _ _ hl] at h
  have:=laidMet.filter (fun x=>x.1 == n) h
  rwa [hf] at this
theorem iface_one {W:World} {n:String} {name:String} {d:DataW Unit} {g:Nat} {t:TypeId} {ms:Array (String×TypeId)} (hg:Tryz.prog.globalNamed n=some g) (hty:(Tryz.prog.globals[g]?).map (·.type)=some t) (ht:Tryz.prog.underlying t=some (.interface ms))
    (h:laidMet Tryz.prog [(n,.iface name d)] W):∃ tp p,W.var? Tryz.prog n=some #[.iface tp p]:=by
  obtain ⟨ps,⟨g',t',cs,fuel,p,q,hg',ht',hvar,hd,_,_⟩,_⟩:=h
  obtain rfl:=Option.some.inj (hg.symm.trans hg')
  obtain rfl:=Option.some.inj (hty.symm.trans ht')
  obtain ⟨f1,u,v,hc,_⟩:=iface_of_trod ht hd
  refine ⟨u,v,?_⟩
  rw [hvar]
  congr 1
  apply Array.ext'
  exact hc
theorem handed_shaped {H:Type} {enc:TypeId×Value→H} {a:Assume} {C:Checked} {os:Os} {f:FuncId} {fn:Func} {s:ChangeSpec} {conds:List PathCond} {apart fresh handsOn again:Bool} {X:World→Array Value→Prop}
    (hX:∀ (w w':World) (args:Array Value),w.heap=w'.heap→X w args→X w' args)
    (own:ownKnob C.prog.godebug=none) (started:os.Started) (noInit:C.prog.inits.idxOf? f=none) (hfn:C.prog.funcs[f]?=some fn)
    (wit:∃ (w:World) (tape:Tape) (i:Input),w.os=os∧(w.forCall tape i).Shaped C.prog∧i.vars=[]∧Input.okWide C.prog (w.forCall tape i) .any w.heap.size f i ∧
      ((s.pre enc C.prog fn conds apart (w.forCall tape i).memory i.args∧X (w.forCall tape i).memory i.args)∧sizedMet enc C.prog fn (OpenSpec.ofChange s) apart (w.forCall tape i).memory i.args)∧a.holds C.prog (lone (Frame.enter C.prog f i.args .normal) [] (w.forCall tape i)))
    (con:∀ (W:World) (base:Nat) (args:Array Value) (ds gs:List (DataW H)) (before:List MemPlace),
      (∀ (j:Nat) t v,fn.params[j]?=some t→args[j]?=some v→Value.okWide C.prog W .any base t v) →
      DataW.Whole enc C.prog fn.params.toList s.vars apart W args.toList ds gs before →
      conds.all (PathCond.test C.prog ⟨fn.params.toList,ds,s.plain.varTypes C.prog,gs⟩)=true→X W args→W.ShapedOpen C.prog →
      Calls C.prog f args W fun e W'=>∃ v,e=.returned v∧s.post enc C.prog fn apart fresh handsOn again W args v W') :
    ReturnsInHanded a C os f .any (fun w args=>(s.pre enc C.prog fn conds apart w args∧X w args)∧sizedMet enc C.prog fn (OpenSpec.ofChange s) apart w args) (s.post enc C.prog fn apart fresh handsOn again):=by
  refine returnsInHanded_of_calls own started noInit wit fun w tape i _ hsh _ hok hpre _=>?_
  obtain ⟨_,_,_,fn',hfn',_,_,_,_,hval⟩:=hok
  obtain rfl:fn'=fn:=Option.some.inj (hfn'.symm.trans hfn)
  obtain ⟨⟨⟨ds,gs,before,hw,hc⟩,hx⟩,_⟩:=hpre
  refine (con (w.forCall tape i) w.heap.size i.args ds gs before hval (DataW.Whole.of_heap (w':=w.forCall tape i) (by rfl) hw) hc (hX _ _ _ (by rfl) hx) hsh).mono fun e W' ⟨v,he,hp⟩=>?_
  subst he
  exact ChangeSpec.post_blind hp
theorem max_of {W:World} (hs:W.ShapedOpen Tryz.prog):∃ m,W.cell? ⟨1,0,none⟩=some (.int .i64 m) :=
  cell_of_shapedOpen_int (zero:=#[.int .i64 0]) (t:=3) (k:=.i64) hs (of_decide_eq_true (by kernel_rfl)) (by kernel_rfl) rfl (by kernel_rfl) (by kernel_rfl) Tryz.underlying3
theorem libW_of {W:World} {l:List (String×DataW Unit)} (hs:W.ShapedOpen Tryz.prog) (h:laidMetH Tryz.prog l W) (hl:(l.all fun x=>x.2.handleName?.isNone)=true)
    (h1:l.filter (fun x=>x.1 == "internal/strconv.uint64pow10")=[("internal/strconv.uint64pow10", Rows.laid_internal_strconv_uint64pow10)])
    (h2:l.filter (fun x=>x.1 == "strconv.ErrSyntax")=[("strconv.ErrSyntax", Rows.laid_strconv_ErrSyntax)])
    (h3:l.filter (fun x=>x.1 == "strconv.ErrRange")=[("strconv.ErrRange", Rows.laid_strconv_ErrRange)])
    (h4:l.filter (fun x=>x.1 == "math/bits.deBruijn64tab")=[("math/bits.deBruijn64tab", Rows.laid_math_bits_deBruijn64tab)]):LibW W:=by
  have t:=laid_one h hl _ _ h1
  have a:=laid_one h hl _ _ h2
  have b:=laid_one h hl _ _ h3
  have t4:=laid_one h hl _ _ h4
  have t4':Lib.TabIs Tryz.prog W "math/bits.deBruijn64tab" .u8 (Lib.deBruijn64tab.map (fun n:Nat=>(n:Int))) :=
    Lib.tabIs_of_head (zs:=Lib.deBruijn64tab.map (fun n:Nat=>(n:Int))) (k:=.u8) (g:=0) (t:=152) (e:=5) (n:=64) (by kernel_rfl) (by kernel_rfl) Tryz.underlying152 Tryz.underlying5 (by kernel_rfl) (by kernel_rfl) t4
  have t':Lib.TabIs Tryz.prog W "internal/strconv.uint64pow10" .u64 Lib.pow10Tab :=
    Lib.tabIs_of_head (zs:=Lib.pow10Tab) (k:=.u64) (g:=4) (t:=193) (e:=30) (n:=20) (by kernel_rfl) (by kernel_rfl) Tryz.underlying193 Tryz.underlying30 (by kernel_rfl) (by kernel_rfl) t
  have a':=iface_one (g:=2) (t:=164) (by kernel_rfl) (by kernel_rfl) Tryz.underlying164 a
  have b':=iface_one (g:=3) (t:=164) (by kernel_rfl) (by kernel_rfl) Tryz.underlying164 b
  have lt:∀ {n:String} {g:Nat} {x:Array Value},Tryz.prog.globalNamed n=some g→W.var? Tryz.prog n=some x→g < W.heap.size:=by
    intro n g x hg hv
    unfold World.var? at hv
    rw [hg] at hv
    simp only [Option.bind_some] at hv
    rcases Nat.lt_or_ge g W.heap.size with h | h
    · exact h
    · rw [Array.getElem?_eq_none h] at hv;cases hv
  have m':=max_of hs
  refine ⟨fun k hk=>?_,fun _=>t',fun _=>a',fun _=>b',fun g hg=>by
    obtain rfl:=Option.some.inj ((show Tryz.prog.globalNamed "internal/bytealg.MaxLen" = some 1 by kernel_rfl).symm.trans hg)
    exact m',fun _=>t4'⟩
  obtain ⟨n,hn,hg⟩:=hk
  simp only [libNames,List.mem_cons,List.not_mem_nil,or_false] at hn
  rcases hn with rfl | rfl | rfl | rfl | rfl
  · exact lt hg t'
  · obtain ⟨_,_,a'⟩:=a';exact lt hg a'
  · obtain ⟨_,_,b'⟩:=b';exact lt hg b'
  · obtain rfl := Option.some.inj ((show Tryz.prog.globalNamed "internal/bytealg.MaxLen" = some 1 by kernel_rfl).symm.trans hg)
    obtain ⟨m,hm⟩:=m'
    exact World.block_lt_of_cell? W _ hm
  · exact lt hg t4'
theorem libW_zp {W:World} (hs:W.ShapedOpen Tryz.prog) (h:laidMetH Tryz.prog Rows.nfaPlacesRow.laid W):LibW W:=libW_of hs h (by kernel_rfl) (by kernel_rfl) (by kernel_rfl) (by kernel_rfl) (by kernel_rfl)
end Go.Proofs.YtldjnmljnlhaaaaGreatDoor
