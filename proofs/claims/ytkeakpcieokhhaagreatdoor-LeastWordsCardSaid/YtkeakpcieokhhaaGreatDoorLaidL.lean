/-
  LeastWords: the walk, at what comes in.
-/
import Derived.Test.YtkeakpcieokhhaaGreatDoorMnIn
import Derived.Test.YtkeakpcieokhhaaGreatDoorHc
import Derived.Test.YtkeakpcieokhhaaGreatDoorRows
import Derived.LaidLaws
import Derived.LaidMore
import Derived.LaidSub
import Derived.HandedShaped
import Derived.Shelf.Vars
import Derived.Stop.Joined
set_option linter.unusedSimpArgs false
set_option linter.unusedVariables false
namespace Go.Proofs.YtkeakpcieokhhaaGreatDoor
section
open Go.ChangeShapes Go.WideShapes Go.ChangeAt Go.RowKit Go.Deep
theorem b3d {P:Program} {w:World} {r:Reach} {base:Nat} {t:TypeId} {v:Value} {n:Nat} {e:TypeId} (ht:P.underlying t=some (.array n e)) (h:Value.okWide P w r base t v):∃ cs,v=.agg cs∧cs.size=P.cellsOf t:=by
 simp only [Value.okWide,ht] at h
 obtain ⟨cs,h1,h2,_⟩:=h
 exact ⟨cs,h1,h2⟩
theorem c7h {w:World} {E:Env} (x:Int×Int):Rep w E (.agg (c0R x).toArray) (.agg 2 (twF x.1 x.2)):=by
  refine .agg _ 2 _ (fun j=>match j with | 0=>.int .i64 x.1 | _=>.int .i64 x.2) rfl (fun j hj=>?_) (fun j hj=>?_)
  · match j, hj with
    | 0,_=>exact ⟨rfl,rfl⟩
    | 1,_=>exact ⟨rfl,rfl⟩
  · match j, hj with
    | 0,_=>exact .imm _
    | 1,_=>exact .imm _
theorem a9W (W:World) (hL:LibW W) (s:ByteArray) (hs:s.size≤maxLen) (a:Option Addr) (n c:Nat) (l:List MnI) (hn:l.length=n) (sl:Sl W W.heap.size 2 MnI.cells a l) (hc:n≤c) (hm:c≤9223372036854775807) (hok:∀ x∈l,x.inOk W)
  (a2:Option Addr) (n2 c2:Nat) (l2:List Int) (hn2:l2.length=n2) (sl2:Sl W W.heap.size 1 a4U a2 l2) (hc2:n2≤c2) (hm2:c2≤9223372036854775807) (hok2:∀ x∈l2,b8B x) (x:Int×Int) (hx:c6l x) :
  Calls Tryz.prog 4 #[.string s,.slice a n c,.slice a2 n2 c2,.agg (c0R x).toArray] W fun e w'=>e=.returned (.bool true)∧Below W.heap.size W w':=by
 subst hn;subst hn2
 have hs':s.data.toList.length≤9223372036854775807:=by have:s.size=s.data.toList.length:=rfl;rw [←this];unfold maxLen at hs;omega
 exact c4e (b3G s.data.toList (l.map (·.v)) l2 x.1 x.2 hs') W [.string s,.slice a l.length c,.slice a2 l2.length c2,.agg (c0R x).toArray] ⟨.imm _,c7o sl hc (by unfold maxLen;omega) hok,b7s sl2 hc2 (by unfold maxLen;omega),c7h x,trivial⟩ hL
end
section
open Go.RowKit
set_option maxRecDepth 100000
theorem a8S {W:World} {l:List (String×DataW Unit)} (h:laidMetH Tryz.prog l W) (hl:(l.all fun x=>x.2.handleName?.isNone)=true) (n:String) (d:DataW Unit) (hf:l.filter (fun x=>x.1 == n)=[(n,d)]):laidMet Tryz.prog [(n,d)] W:=by
 rw [MakeChecks.laidMetH_plain _ _ _ hl] at h
 have:=laidMet.filter (fun x=>x.1 == n) h
 rwa [hf] at this
theorem b4K {W:World} {n:String} {name:String} {d:DataW Unit} {g:Nat} {t:TypeId} {ms:Array (String×TypeId)} (hg:Tryz.prog.globalNamed n=some g) (hty:(Tryz.prog.globals[g]?).map (·.type)=some t) (ht:Tryz.prog.underlying t=some (.interface ms))
  (h:laidMet Tryz.prog [(n,.iface name d)] W):∃ tp p,W.var? Tryz.prog n=some #[.iface tp p]:=by
 obtain ⟨ps,⟨g',t',cs,fuel,p,q,hg',ht',hvar,hd,_,_⟩,_⟩:=h
 obtain rfl:=Option.some.inj (hg.symm.trans hg')
 obtain rfl:=Option.some.inj (hty.symm.trans ht')
 obtain ⟨f1,u,v,hc,_⟩:=iface_of_trod ht hd
 refine ⟨u,v,?_⟩
 rw [hvar]
 congr 1
 apply Array.ext'
 exact hc
theorem b2M {H:Type} {enc:TypeId×Value→H} {a:Assume} {C:Checked} {os:Os} {f:FuncId} {fn:Func} {s:ChangeSpec} {conds:List PathCond} {apart fresh handsOn again:Bool} {X:World→Array Value→Prop}
  (hX:∀ (w w':World) (args:Array Value),w.heap=w'.heap→X w args→X w' args)
  (own:ownKnob C.prog.godebug=none) (started:os.Started) (noInit:C.prog.inits.idxOf? f=none) (hfn:C.prog.funcs[f]?=some fn)
  (wit:∃ (w:World) (tape:Tape) (i:Input),w.os=os∧(w.forCall tape i).Shaped C.prog∧i.vars=[]∧Input.okWide C.prog (w.forCall tape i) .any w.heap.size f i ∧
   ((s.pre enc C.prog fn conds apart (w.forCall tape i).memory i.args∧X (w.forCall tape i).memory i.args)∧sizedMet enc C.prog fn (OpenSpec.ofChange s) apart (w.forCall tape i).memory i.args)∧a.holds C.prog (lone (Frame.enter C.prog f i.args .normal) [] (w.forCall tape i)))
  (con:∀ (W:World) (base:Nat) (args:Array Value) (ds gs:List (DataW H)) (before:List MemPlace),
   (∀ (j:Nat) t v,fn.params[j]?=some t→args[j]?=some v→Value.okWide C.prog W .any base t v) →
   DataW.Whole enc C.prog fn.params.toList s.vars apart W args.toList ds gs before →
   conds.all (PathCond.test C.prog ⟨fn.params.toList,ds,s.plain.varTypes C.prog,gs⟩)=true→X W args→W.ShapedOpen C.prog →
   Calls C.prog f args W fun e W'=>∃ v,e=.returned v∧s.post enc C.prog fn apart fresh handsOn again W args v W') :
  ReturnsInHanded a C os f .any (fun w args=>(s.pre enc C.prog fn conds apart w args∧X w args)∧sizedMet enc C.prog fn (OpenSpec.ofChange s) apart w args) (s.post enc C.prog fn apart fresh handsOn again):=by
 refine returnsInHanded_of_calls own started noInit wit fun w tape i _ hsh _ hok hpre _=>?_
 obtain ⟨_,_,_,fn',hfn',_,_,_,_,hval⟩:=hok
 obtain rfl:fn'=fn:=Option.some.inj (hfn'.symm.trans hfn)
 obtain ⟨⟨⟨ds,gs,before,hw,hc⟩,hx⟩,_⟩:=hpre
 refine (con (w.forCall tape i) w.heap.size i.args ds gs before hval (DataW.Whole.of_heap (w':=w.forCall tape i) (by rfl) hw) hc (hX _ _ _ (by rfl) hx) hsh).mono fun e W' ⟨v,he,hp⟩=>?_
 subst he
 exact ChangeSpec.post_blind hp
theorem d1w {W:World} (hs:W.ShapedOpen Tryz.prog):∃ m,W.cell? ⟨1,0,none⟩=some (.int .i64 m) :=
 cell_of_shapedOpen_int (zero:=#[.int .i64 0]) (t:=3) (k:=.i64) hs (of_decide_eq_true (by kernel_rfl)) (by kernel_rfl) rfl (by kernel_rfl) (by kernel_rfl) Tryz.underlying3
theorem c7t {W:World} {l:List (String×DataW Unit)} (hs:W.ShapedOpen Tryz.prog) (h:laidMetH Tryz.prog l W) (hl:(l.all fun x=>x.2.handleName?.isNone)=true)
  (h1:l.filter (fun x=>x.1 == "internal/strconv.uint64pow10")=[("internal/strconv.uint64pow10", Rows.laid_internal_strconv_uint64pow10)])
  (h2:l.filter (fun x=>x.1 == "strconv.ErrSyntax")=[("strconv.ErrSyntax", Rows.laid_strconv_ErrSyntax)])
  (h3:l.filter (fun x=>x.1 == "strconv.ErrRange")=[("strconv.ErrRange", Rows.laid_strconv_ErrRange)])
  (h4:l.filter (fun x=>x.1 == "math/bits.deBruijn64tab")=[("math/bits.deBruijn64tab", Rows.laid_math_bits_deBruijn64tab)]):LibW W:=by
 have t:=a8S h hl _ _ h1
 have a:=a8S h hl _ _ h2
 have b:=a8S h hl _ _ h3
 have t4:=a8S h hl _ _ h4
 have t4':Lib.TabIs Tryz.prog W "math/bits.deBruijn64tab" .u8 (Lib.deBruijn64tab.map (fun n:Nat=>(n:Int))) :=
  Lib.tabIs_of_head (zs:=Lib.deBruijn64tab.map (fun n:Nat=>(n:Int))) (k:=.u8) (g:=0) (t:=196) (e:=5) (n:=64) (by kernel_rfl) (by kernel_rfl) Tryz.underlying196 Tryz.underlying5 (by kernel_rfl) (by kernel_rfl) t4
 have t':Lib.TabIs Tryz.prog W "internal/strconv.uint64pow10" .u64 Lib.pow10Tab :=
  Lib.tabIs_of_head (zs:=Lib.pow10Tab) (k:=.u64) (g:=4) (t:=250) (e:=69) (n:=20) (by kernel_rfl) (by kernel_rfl) Tryz.underlying250 Tryz.underlying69 (by kernel_rfl) (by kernel_rfl) t
 have a':=b4K (g:=2) (t:=221) (by kernel_rfl) (by kernel_rfl) Tryz.underlying221 a
 have b':=b4K (g:=3) (t:=221) (by kernel_rfl) (by kernel_rfl) Tryz.underlying221 b
 have lt:∀ {n:String} {g:Nat} {x:Array Value},Tryz.prog.globalNamed n=some g→W.var? Tryz.prog n=some x→g < W.heap.size:=by
  intro n g x hg hv
  unfold World.var? at hv
  rw [hg] at hv
  simp only [Option.bind_some] at hv
  rcases Nat.lt_or_ge g W.heap.size with h | h
  ·exact h
  ·rw [Array.getElem?_eq_none h] at hv;cases hv
 have m':=d1w hs
 refine ⟨fun k hk=>?_,fun _=>t',fun _=>a',fun _=>b',fun g hg=>by
  obtain rfl:=Option.some.inj ((show Tryz.prog.globalNamed "internal/bytealg.MaxLen" = some 1 by kernel_rfl).symm.trans hg)
  exact m',fun _=>t4'⟩
 obtain ⟨n,hn,hg⟩:=hk
 simp only [a3I,List.mem_cons,List.not_mem_nil,or_false] at hn
 rcases hn with rfl | rfl | rfl | rfl | rfl
 ·exact lt hg t'
 ·obtain ⟨_,_,a'⟩:=a';exact lt hg a'
 ·obtain ⟨_,_,b'⟩:=b';exact lt hg b'
 ·obtain rfl:=Option.some.inj ((show Tryz.prog.globalNamed "internal/bytealg.MaxLen" = some 1 by kernel_rfl).symm.trans hg)
  obtain ⟨m,hm⟩:=m'
  exact World.block_lt_of_cell? W _ hm
 ·exact lt hg t4'
theorem c8p {W:World} (hs:W.ShapedOpen Tryz.prog) (h:laidMetH Tryz.prog Rows.leastWordsRow.laid W):LibW W:=c7t hs h (by kernel_rfl) (by kernel_rfl) (by kernel_rfl) (by kernel_rfl) (by kernel_rfl)
end
end Go.Proofs.YtkeakpcieokhhaaGreatDoor
