/-
  The law LeastWords, as its row says it, and its tied card: whatever comes in, the call returns true, and what came in reads as it did, where the listed variables begin as the text lays them (tied). No other condition.
-/
import Derived.Test.YtkeakpcieokhhaaGreatDoorLaidL
import Derived.Test.YtkeakpcieokhhaaGreatDoorRows
import Derived.Test.YtkeakpcieokhhaaGreatDoorCards
import Derived.Test.YtkeakpcieokhhaaGreatDoorTie
import Derived.ShutString
import Derived.LaidMore
import Derived.Stop.Joined
import Derived.SevenTiedAt
set_option linter.unusedSimpArgs false
set_option linter.unusedVariables false
namespace Go.Proofs.YtkeakpcieokhhaaGreatDoor.lawLeastWords
section
open Go.ChangeMaps (open_string shut_string)
open Go.ChangeShapes Go.WideShapes Go.ChangeAt Go.RowKit Go.Deep
theorem own:ownKnob Tryz.prog.godebug=none:=by kernel_rfl
theorem laidOut:laidOutB Tryz.prog=true:=by kernel_rfl
set_option maxRecDepth 100000 in
theorem door_met (os:Os) (args:Array Value):laidMetH Tryz.prog Rows.leastWordsRow.laid ((World.doorLaid Tryz.prog 62 os).forCall (fun _ _=>0) ⟨#[],args,[]⟩).memory :=
 laidMetH_of_parts3 (fuel:=12) (laidMet_of_run' 12 krf krf) krf krf
set_option maxRecDepth 100000 in
set_option maxHeartbeats 1000000 in
theorem lifted (os:Os) (started:os.Started) (H:Type) (enc:TypeId×Value→H) :
  ReturnsInHanded {} Tryz.checked os 4 .any (fun w args=>(Rows.leastWordsSpec.pre enc Tryz.prog Tryz.f4 [] false w args∧laidMetH Tryz.prog Rows.leastWordsRow.laid w)∧sizedMet enc Tryz.prog Tryz.f4 (OpenSpec.ofChange Rows.leastWordsSpec) false w args)
   (Rows.leastWordsSpec.post enc Tryz.prog Tryz.f4 false true false false):=by
 refine b2M (C:=Tryz.checked) (X:=fun w _=>laidMetH Tryz.prog Rows.leastWordsRow.laid w) (fun _ _ _ hh h=>h.of_heap hh) own started krf Tryz.func4
  (ChangeSpec.witness_shaped (enc:=enc) (C:=Tryz.checked) (os:=os) (X:=fun w _=>laidMetH Tryz.prog Rows.leastWordsRow.laid w) false (World.doorLaid Tryz.prog 62 os) #[.string ByteArray.empty,.slice none 0 0,.slice none 0 0,.agg #[.int .i64 0,.int .i64 0]] 8 rfl (World.shaped_of_RefB krf krf) krf krf krf (door_met os _)) ?_
 intro W base args ds gs before hval0 hW _ hL hsh
 have hval:∀ (j:Nat) t v,Tryz.f4.params[j]?=some t→args[j]?=some v→Value.okWide Tryz.prog W .any base t v:=hval0
 have hW':=hW
 obtain ⟨p,q,hA0,hV,rfl,hfz,hnd⟩:=hW
 have hA:DataW.TrodAll enc Tryz.prog W 0 (fun _=>true) true Tryz.f4.params.toList args.toList ds p:=hA0
 rw [Tryz.params4] at hA hval
 obtain ⟨v0,vs0,d0,ds0,p0,q0,hargs,rfl,rfl,h0,r0⟩:=trodAll_cons hA
 obtain ⟨v1,vs1,d1,ds1,p1,q1,rfl,rfl,rfl,h1,r1⟩:=trodAll_cons r0
 obtain ⟨v2,vs2,d2,ds2,p2,q2,rfl,rfl,rfl,h2,r2⟩:=trodAll_cons r1
 obtain ⟨v3,vs3,d3,ds3,p3,q3,rfl,rfl,rfl,h3,r3⟩:=trodAll_cons r2
 obtain ⟨rfl,rfl,rfl⟩:=trodAll_nil r3
 obtain rfl:args=#[v0,v1,v2,v3]:=by cases args;simp_all
 obtain ⟨rfl,rfl⟩:=trodVars_none hV
 have hfact:=c8p hsh hL
 obtain ⟨s0,rfl,rfl,rfl,w0⟩:=open_string Tryz.underlying9 (hval 0 9 v0 rfl rfl) h0
 obtain ⟨a1,n1,c1,rfl⟩:=okWide_slice Tryz.underlying22 (hval 1 22 v1 rfl rfl)
 have k1:=h1
 have lt1:∀ x∈p1,x.block < W.heap.size:=by obtain ⟨m,hm⟩:=k1;exact DataW.trod_lt m _ _ _ hm
 obtain ⟨fuel1,hf1⟩:=h1
 obtain ⟨l1,hn1,sl1,hc1,hm1,ok1⟩:=b6b Tryz.underlying22 2 krf omo MnI.cells MnI.cells_length (MnI.inOk W) d3e hf1
 obtain ⟨a2,n2,c2,rfl⟩:=okWide_slice Tryz.underlying23 (hval 2 23 v2 rfl rfl)
 have k2:=h2
 have lt2:∀ x∈p2,x.block < W.heap.size:=by obtain ⟨m,hm⟩:=k2;exact DataW.trod_lt m _ _ _ hm
 obtain ⟨fuel2,hf2⟩:=h2
 obtain ⟨l2,hn2,sl2,hc2,hm2,ok2⟩:=b6b Tryz.underlying23 1 krf omo a4U (fun _=>by simp [a4U]) b8B (c5x Tryz.underlying3) hf2
 obtain ⟨cs3,rfl,_⟩:=b3d Tryz.underlying43 (hval 3 43 v3 rfl rfl)
 have k3:=h3
 have lt3:∀ x∈p3,x.block < W.heap.size:=by obtain ⟨m,hm⟩:=k3;exact DataW.trod_lt m _ _ _ hm
 obtain ⟨fuel3,hf3⟩:=h3
 obtain ⟨s3,es3,ok3⟩:=(c8F Tryz.underlying43 Tryz.underlying3 krf krf) fuel3 cs3.toList _ hf3
 obtain rfl:cs3=(c0R s3).toArray:=by rw [←es3]
 clear hA0 hval0
 refine (a9W W hfact s0 w0 a1 n1 c1 l1 hn1 sl1 hc1 hm1 ok1 a2 n2 c2 l2 hn2 sl2 hc2 hm2 ok2 s3 ok3).mono fun e W' ⟨he,bel⟩=>?_
 subst he
 exact ⟨_,rfl,_,_,_,[],_,[],hW',trodAll_mk1 (shut_bool Tryz.underlying4 _),(trodAll_cons_mk (shut_string Tryz.underlying9 w0) (trodAll_cons_mk (Below.trod laidOut krf (of_decide_eq_true krf) k1 bel lt1) (trodAll_cons_mk (Below.trod laidOut krf (of_decide_eq_true krf) k2 bel lt2) (trodAll_cons_mk (Below.trod laidOut krf (of_decide_eq_true krf) k3 bel lt3) trodAll_mk0)))),rfl,bel.frame _,fun h=>by cases h⟩
theorem over:Rows.leastWordsRow.holds Tryz.pinned (OpenSpec.ofChange Rows.leastWordsSpec) :=
 OpenClaim.holds_of_wide 4 Tryz.f4 rfl rfl rfl rfl rfl rfl rfl ⟨rfl,rfl,rfl,rfl,rfl⟩ rfl rfl rfl rfl rfl krf Tryz.func4 krf
  (of_decide_eq_true krf) (by unfold Func.isWrapper;first | (rw [if_pos (by decide +kernel)];kernel_rfl) | (rw [if_neg (by decide +kernel)];exact ⟨rfl,rfl⟩))
  (fun os started H enc _=>lifted os started H enc)
theorem proved:Rows.LeastWordsCardSaid :=
 Claim7.holds_tied_plain_at .later [] [.data,.data,.data,.sentinel,.sentinel] true (true, "3c54eff5fcb949cd836fa22a364479d7f415ea830d06f47b07bf1b77f3c42aef") true
  over (fun _ h=>by cases h) krf (fun _ h=>by cases h) leastWords_row_tie rfl ⟨rfl,rfl⟩ krf rfl
  (fun f fn hf hfn=>by
   obtain rfl:f=4:=Option.some.inj ((show Tryz.prog.funcNamed "stet/stetlaw09.LeastWords" = some 4 by kernel_rfl).symm.trans hf) |>.symm
   obtain rfl:fn=Tryz.f4:=(Option.some.inj (Tryz.func4.symm.trans hfn)).symm
   exact ⟨by kernel_rfl,fun j t ht=>by
    rw [Tryz.params4] at ht
    have hm:t∈[9,22,23,43]:=by simpa using Array.mem_of_getElem? ht
    have hall:([9,22,23,43].all fun u=>!Tryz.prog.wantsStandIn u)=true:=by kernel_rfl
    exact (show Tryz.prog.wantsStandIn t=false by simpa using List.all_eq_true.1 hall t hm)⟩)
  krf
end
end Go.Proofs.YtkeakpcieokhhaaGreatDoor.lawLeastWords
