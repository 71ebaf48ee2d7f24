/-
  Two pieces, one behind the other; how many places a part has.
-/
import Derived.Test.YtldjnmljnlhaaaaGreatDoorNb2
import Derived.Test.YtldjnmljnlhaaaaGreatDoorNum
namespace Go.Proofs.YtldjnmljnlhaaaaGreatDoor
set_option linter.unusedSimpArgs false
set_option linter.unusedVariables false
set_option maxRecDepth 100000
set_option maxHeartbeats 1000000
open Go.RowKit
def pcF (p : Pc) : Nat → HV := fun j => match j with
  | 0 => u64V (p.first.word 0) | 1 => u64V (p.first.word 1) | 2 => u64V (p.first.word 2) | 3 => u64V (p.first.word 3)
  | 4 => u64V (p.ends.word 0) | 5 => u64V (p.ends.word 1) | 6 => u64V (p.ends.word 2) | 7 => u64V (p.ends.word 3)
  | _ => boolV p.empty
@[reducible] def pcH (p : Pc) : HV := .agg 9 (pcF p)
theorem fz_pcF {sh : List (Nat × HObj)} (p : Pc) (j : Nat) : Fz sh (pcF p j) (pcF p j) := by unfold pcF; split <;> exact .imm _
instance (p : Pc) (j : Nat) : Frz (pcF p j) := ⟨fz_pcF p j⟩
theorem fz_bg {sh : List (Nat × HObj)} {f : Nat → HV} {x : Bag} (h : ∀ j, j < 4 → f j = bagF x j) : Fz sh (.agg 4 f) (bagH x) := .agg _ _ _ fun j hj => by rw [h j hj]; exact .imm _
theorem j4 {f g : Nat → HV} (h0 : f 0 = g 0) (h1 : f 1 = g 1) (h2 : f 2 = g 2) (h3 : f 3 = g 3) : ∀ j, j < 4 → f j = g j := fun j hj => by
  match j, hj with | 0, _ => exact h0 | 1, _ => exact h1 | 2, _ => exact h2 | 3, _ => exact h3
theorem j9 {P : Nat → Prop} (h0 : P 0) (h1 : P 1) (h2 : P 2) (h3 : P 3) (h4 : P 4) (h5 : P 5) (h6 : P 6) (h7 : P 7) (h8 : P 8) : ∀ j, j < 9 → P j := fun j hj => by
  match j, hj with | 0, _ => exact h0 | 1, _ => exact h1 | 2, _ => exact h2 | 3, _ => exact h3 | 4, _ => exact h4 | 5, _ => exact h5 | 6, _ => exact h6 | 7, _ => exact h7 | 8, _ => exact h8
theorem osub_pc {g ty : Nat} {f : Nat → Nat → HV} {p : Pc} (h : ∀ j, j < 9 → f 0 j = pcF p j) : OSub ⟨g, 1, 9, ty, 0, f⟩ ⟨g, 1, 9, ty, 0, fun _ => pcF p⟩ := OSub.of fun i j hi hj => by
  obtain rfl : i = 0 := by omega
  rw [h j hj]; exact .refl _
theorem kz_pc {kp sh : List (Nat × HObj)} {f : Nat → HV} {p : Pc} (h : ∀ j, j < 9 → f j = pcF p j) : Kz kp sh (.agg 9 f) (pcH p) := .fz _ _ (.agg _ _ _ fun j hj => by rw [h j hj]; exact fz_pcF p j)
theorem clk3 {g1 g2 g3 M M' M'' : Nat} {a b : HV} {ρ β ρ' β' : Nat → Bag} {o1 : HObj} (h1 : o1.g = g1) : Clocks [(9001, netO g1 a b), (9002, rowO g2 M ρ), (9003, rowO g3 M β)] [(9001, o1), (9002, rowO g2 M' ρ'), (9003, rowO g3 M'' β')] :=
  clocks_cons (.head _) h1.symm (clocks_cons (.tail _ (.head _)) rfl (clocks_cons (.tail _ (.tail _ (.head _))) rfl clocks_nil))
theorem join_h (a b : Pc) (ha : a.ok) (hb : b.ok) (M g1 g2 g3 : Nat) (ρ β : Nat → Bag) (hβ : ∀ p, (β p).ok) (hN : M ≤ 256) (hin : ∀ p, p < 256 → a.ends.has p = true → p < M) :
    HFunD Tryz.prog 68 [.pt 9001 g1 0 0, pcH a, pcH b] [(9001, netO g1 (.os 9002 g2 0 M) (.os 9003 g3 0 M)), (9002, rowO g2 M ρ), (9003, rowO g3 M β)] (pcH (a.join b)) [(9001, netO g1 (.os 9002 g2 0 M) (.os 9003 g3 0 M)), (9002, rowO g2 M ρ), (9003, rowO g3 M (linkF β (a.ends, b.first)))] := by
  intro c
  refine hfun_of Tryz.func68 rfl (by kernel_rfl) _ _ _ _ rfl 42 rfl rfl (fun X ok hX => ?_)
  refine srg fun N h1 => ?_
  refine hm_1 4 (hop_box (id := 4) (sz := 9) rfl rfl rfl (nb rfl) (nb rfl)) rfl rfl pre0 rfl rfl (c' := c + 1) rfl ?_
  refine hm_1 5 (hop_box (id := 5) (sz := 9) rfl rfl rfl (nb rfl) (nb rfl)) rfl rfl pre0 rfl rfl (c' := c + 2) rfl ?_
  refine hm_1 6 (hop_alloc (id := 6) (sz := 9) zc_74 rfl rfl (nb rfl) (nb rfl)) rfl rfl pre0 rfl rfl (c' := c + 3) rfl ?_
  refine snl h1 ?_
  refine srg fun N h2 => ?_
  refine stm rfl rfl rfl ?_
  refine st0 (hop_fa fd_74_1 rfl) rfl rfl ?_
  refine st1 (hol_load ty_33 rfl (nb rfl) (nb rfl) (fun h => (by cases h))) rfl rfl rfl ?_
  refine st0 (hop_fa fd_74_0 rfl) rfl rfl ?_
  refine st1 (hol_load ty_33 rfl (nb rfl) (nb rfl) (fun h => (by cases h))) rfl rfl rfl ?_
  refine (hsub_shr 10 [] rfl pre0 rfl ((show Fz [] _ (bagH a.ends) from fz_bg (by exact j4 rfl rfl rfl rfl)))).seq ?_
  refine (hsub_shr 12 [] rfl pre0 rfl ((show Fz [] _ (bagH b.first) from fz_bg (by exact j4 rfl rfl rfl rfl)))).seq ?_
  refine hm_ 13 (hop_funD (xs := [_, _, _]) (pre := [(9001, _), (9002, _), (9003, _)]) (link_h a.ends b.first ha.2 hb.1 M g1 g2 g3 ρ β hβ hN hin) ((clk3 rfl)) ⟨rfl, ⟨rfl, ⟨rfl, trivial⟩⟩⟩) rfl rfl (preC rfl (preC rfl (preC rfl pre0))) rfl rfl (c' := c + 4) rfl ?_
  refine snl h2 ?_
  refine srg fun N h3 => ?_
  refine st0 (hop_fa fd_74_0 rfl) rfl rfl ?_
  refine st1 (hol_load ty_33 rfl (nb rfl) (nb rfl) (fun h => (by cases h))) rfl rfl rfl ?_
  refine st0 (hop_fa fd_74_1 rfl) rfl rfl ?_
  refine st1 (hol_load ty_33 rfl (nb rfl) (nb rfl) (fun h => (by cases h))) rfl rfl rfl ?_
  refine st0 (hop_fa fd_74_2 rfl) rfl rfl ?_
  refine st1 (hol_load ty_4 rfl (nb rfl) (nb rfl) (fun h => (by rfl))) rfl rfl rfl ?_
  refine stm rfl rfl rfl ?_
  refine stg 20 (fun hb => hop_fa fd_74_2 rfl) rfl rfl rfl rfl rfl ?_
  refine hq_g 22 6 20 true _ (fun hb => hol_load ty_4 rfl (nb rfl) (nb rfl) (fun h => (by rfl))) rfl rfl rfl rfl (pre1 rfl) rfl rfl rfl ?_
  refine hq_p 23 (hstep_and _ _ rfl rfl rfl) rfl rfl rfl ?_
  refine st0 (hop_build (hs := [(0, 4, _), (4, 4, _), (8, 1, _)]) st_74 rfl rfl ⟨rfl, rfl, rfl, rfl, rfl, ⟨rfl, rfl, rfl, rfl, rfl, ⟨rfl, rfl, rfl, rfl, rfl, trivial⟩⟩⟩) rfl rfl ?_
  refine hm_1 7 (hop_alloc (id := 7) (sz := 9) zc_74 rfl rfl (nb rfl) (nb rfl)) rfl rfl pre0 rfl rfl (c' := c + 5) rfl ?_
  refine hm_s1 (hol_storeW ty_74 rfl rfl rfl rfl) rfl rfl (pre1 rfl) (c' := c + 6) rfl ?_
  refine hseq_nilU (by rfl) (by simp only [dropUn, slots]; exact rfl) ?_
  refine h3 _ ?_
  refine hw_seq (fun Nh4 h4 => ?_)
  refine srg fun N h5 => ?_
  refine st0 (hop_fa fd_74_2 rfl) rfl rfl ?_
  refine st1 (hol_load ty_4 rfl (nb rfl) (nb rfl) (fun h => (by rfl))) rfl rfl rfl ?_
  refine snl h5 ?_
  refine hw_cond _ rfl (fun hc0 => ?_) (fun hc0 => ?_)
  · have hr0 := hc0; (try simp only [hcs, Int.reduceToNat] at hc0)
    refine hw_region ?_
    refine st0 (hop_fa fd_74_0 rfl) rfl rfl ?_
    refine st1 (hol_load ty_33 rfl (nb rfl) (nb rfl) (fun h => (by cases h))) rfl rfl rfl ?_
    refine st0 (hop_fa fd_74_0 rfl) rfl rfl ?_
    refine st1 (hol_load ty_33 rfl (nb rfl) (nb rfl) (fun h => (by cases h))) rfl rfl rfl ?_
    refine st0 (hop_call0 (xs := [_, _]) (or_h a.first b.first ha.1 hb.1) ⟨rfl, ⟨rfl, trivial⟩⟩ ⟨(fz_bg (by exact j4 rfl rfl rfl rfl)), ⟨(fz_bg (by exact j4 rfl rfl rfl rfl)), trivial⟩⟩) rfl rfl ?_
    refine st0 (hop_fa fd_74_0 rfl) rfl rfl ?_
    refine hm_s1 (hol_store ty_33 rfl rfl rfl rfl (nb rfl) (nb rfl) (nb rfl)) rfl rfl (pre1 rfl) (c' := c + 7) rfl ?_
    refine snl h4 ?_
    refine hw_seq (fun Nh6 h6 => ?_)
    refine srg fun N h7 => ?_
    refine st0 (hop_fa fd_74_2 rfl) rfl rfl ?_
    refine st1 (hol_load ty_4 rfl (nb rfl) (nb rfl) (fun h => (by rfl))) rfl rfl rfl ?_
    refine snl h7 ?_
    refine hw_cond _ rfl (fun hc1 => ?_) (fun hc1 => ?_)
    · have hr1 := hc1; (try simp only [hcs, Int.reduceToNat] at hc1)
      refine hw_region ?_
      refine st0 (hop_fa fd_74_1 rfl) rfl rfl ?_
      refine st1 (hol_load ty_33 rfl (nb rfl) (nb rfl) (fun h => (by cases h))) rfl rfl rfl ?_
      refine st0 (hop_fa fd_74_1 rfl) rfl rfl ?_
      refine st1 (hol_load ty_33 rfl (nb rfl) (nb rfl) (fun h => (by cases h))) rfl rfl rfl ?_
      refine st0 (hop_call0 (xs := [_, _]) (or_h b.ends a.ends hb.2 ha.2) ⟨rfl, ⟨rfl, trivial⟩⟩ ⟨(fz_bg (by exact j4 rfl rfl rfl rfl)), ⟨(fz_bg (by exact j4 rfl rfl rfl rfl)), trivial⟩⟩) rfl rfl ?_
      refine st0 (hop_fa fd_74_1 rfl) rfl rfl ?_
      refine hm_s1 (hol_store ty_33 rfl rfl rfl rfl (nb rfl) (nb rfl) (nb rfl)) rfl rfl (pre1 rfl) (c' := c + 8) rfl ?_
      refine snl h6 ?_
      refine srg fun N h8 => ?_
      refine st1 (hol_load ty_74 rfl (nb rfl) (nb rfl) (fun h => (by cases h))) rfl rfl rfl ?_
      refine hm_s1 (hol_storeW ty_74 rfl rfl rfl rfl) rfl rfl (pre1 rfl) (c' := c + 9) rfl ?_
      refine snl h8 ?_
      refine hw_ret ?_
      refine hf_retR1 ok hX RetS.one rfl (rvl_cell rfl rfl ty_74 (fun h => by first | rfl | cases h) rfl rfl) [] rfl pre0 (()) (trivial) (by rfl) (by rfl) ((by rw [show a.join b = ⟨bun a.first b.first, bun b.ends a.ends, true⟩ from by simp [Pc.join, hc0, hc1]]; exact kz_pc (by exact j9 rfl rfl rfl rfl rfl rfl rfl rfl (by simp [pcF, hc0, hc1]; rfl)))) ?_
      exact ⟨⟨_, rfl, okz_net rfl rfl rfl rfl⟩, ⟨⟨_, rfl, okz_row (fun _ _ => rfl)⟩, ⟨⟨_, rfl, okz_row (fun _ _ => rfl)⟩, trivial⟩⟩⟩
    have hr1 := hc1; (try simp only [hcs, Int.reduceToNat] at hc1)
    refine hw_skip ?_
    refine h6 _ ?_
    refine srg fun N h9 => ?_
    refine st1 (hol_load ty_74 rfl (nb rfl) (nb rfl) (fun h => (by cases h))) rfl rfl rfl ?_
    refine hm_s1 (hol_storeW ty_74 rfl rfl rfl rfl) rfl rfl (pre1 rfl) (c' := c + 8) rfl ?_
    refine snl h9 ?_
    refine hw_ret ?_
    refine hf_retR1 ok hX RetS.one rfl (rvl_cell rfl rfl ty_74 (fun h => by first | rfl | cases h) rfl rfl) [] rfl pre0 (()) (trivial) (by rfl) (by rfl) ((by rw [show a.join b = ⟨bun a.first b.first, b.ends, false⟩ from by simp [Pc.join, hc0, hc1]]; exact kz_pc (by exact j9 rfl rfl rfl rfl rfl rfl rfl rfl (by simp [pcF, hc0, hc1]; rfl)))) ?_
    exact ⟨⟨_, rfl, okz_net rfl rfl rfl rfl⟩, ⟨⟨_, rfl, okz_row (fun _ _ => rfl)⟩, ⟨⟨_, rfl, okz_row (fun _ _ => rfl)⟩, trivial⟩⟩⟩
  have hr0 := hc0; (try simp only [hcs, Int.reduceToNat] at hc0)
  refine hw_skip ?_
  refine h4 _ ?_
  refine hw_seq (fun Nh10 h10 => ?_)
  refine srg fun N h11 => ?_
  refine st0 (hop_fa fd_74_2 rfl) rfl rfl ?_
  refine st1 (hol_load ty_4 rfl (nb rfl) (nb rfl) (fun h => (by rfl))) rfl rfl rfl ?_
  refine snl h11 ?_
  refine hw_cond _ rfl (fun hc1 => ?_) (fun hc1 => ?_)
  · have hr1 := hc1; (try simp only [hcs, Int.reduceToNat] at hc1)
    refine hw_region ?_
    refine st0 (hop_fa fd_74_1 rfl) rfl rfl ?_
    refine st1 (hol_load ty_33 rfl (nb rfl) (nb rfl) (fun h => (by cases h))) rfl rfl rfl ?_
    refine st0 (hop_fa fd_74_1 rfl) rfl rfl ?_
    refine st1 (hol_load ty_33 rfl (nb rfl) (nb rfl) (fun h => (by cases h))) rfl rfl rfl ?_
    refine st0 (hop_call0 (xs := [_, _]) (or_h b.ends a.ends hb.2 ha.2) ⟨rfl, ⟨rfl, trivial⟩⟩ ⟨(fz_bg (by exact j4 rfl rfl rfl rfl)), ⟨(fz_bg (by exact j4 rfl rfl rfl rfl)), trivial⟩⟩) rfl rfl ?_
    refine st0 (hop_fa fd_74_1 rfl) rfl rfl ?_
    refine hm_s1 (hol_store ty_33 rfl rfl rfl rfl (nb rfl) (nb rfl) (nb rfl)) rfl rfl (pre1 rfl) (c' := c + 7) rfl ?_
    refine snl h10 ?_
    refine srg fun N h12 => ?_
    refine st1 (hol_load ty_74 rfl (nb rfl) (nb rfl) (fun h => (by cases h))) rfl rfl rfl ?_
    refine hm_s1 (hol_storeW ty_74 rfl rfl rfl rfl) rfl rfl (pre1 rfl) (c' := c + 8) rfl ?_
    refine snl h12 ?_
    refine hw_ret ?_
    refine hf_retR1 ok hX RetS.one rfl (rvl_cell rfl rfl ty_74 (fun h => by first | rfl | cases h) rfl rfl) [] rfl pre0 (()) (trivial) (by rfl) (by rfl) ((by rw [show a.join b = ⟨a.first, bun b.ends a.ends, false⟩ from by simp [Pc.join, hc0, hc1]]; exact kz_pc (by exact j9 rfl rfl rfl rfl rfl rfl rfl rfl (by simp [pcF, hc0, hc1]; rfl)))) ?_
    exact ⟨⟨_, rfl, okz_net rfl rfl rfl rfl⟩, ⟨⟨_, rfl, okz_row (fun _ _ => rfl)⟩, ⟨⟨_, rfl, okz_row (fun _ _ => rfl)⟩, trivial⟩⟩⟩
  have hr1 := hc1; (try simp only [hcs, Int.reduceToNat] at hc1)
  refine hw_skip ?_
  refine h10 _ ?_
  refine srg fun N h13 => ?_
  refine st1 (hol_load ty_74 rfl (nb rfl) (nb rfl) (fun h => (by cases h))) rfl rfl rfl ?_
  refine hm_s1 (hol_storeW ty_74 rfl rfl rfl rfl) rfl rfl (pre1 rfl) (c' := c + 7) rfl ?_
  refine snl h13 ?_
  refine hw_ret ?_
  refine hf_retR1 ok hX RetS.one rfl (rvl_cell rfl rfl ty_74 (fun h => by first | rfl | cases h) rfl rfl) [] rfl pre0 (()) (trivial) (by rfl) (by rfl) ((by rw [show a.join b = ⟨a.first, b.ends, false⟩ from by simp [Pc.join, hc0, hc1]]; exact kz_pc (by exact j9 rfl rfl rfl rfl rfl rfl rfl rfl (by simp [pcF, hc0, hc1]; rfl)))) ?_
  exact ⟨⟨_, rfl, okz_net rfl rfl rfl rfl⟩, ⟨⟨_, rfl, okz_row (fun _ _ => rfl)⟩, ⟨⟨_, rfl, okz_row (fun _ _ => rfl)⟩, trivial⟩⟩⟩
end Go.Proofs.YtldjnmljnlhaaaaGreatDoor

namespace Go.Proofs.YtldjnmljnlhaaaaGreatDoor
set_option linter.unusedSimpArgs false
set_option linter.unusedVariables false
set_option maxRecDepth 100000
open Go.RowKit

theorem sg_imm (x : Sg) (j : Nat) : ∃ v, sgF x j = .imm v := by
  match j with
  | 0 => exact ⟨_, rfl⟩
  | 1 => exact ⟨_, rfl⟩
  | 2 => exact ⟨_, rfl⟩
  | 3 => exact ⟨_, rfl⟩
  | j + 4 => exact ⟨_, rfl⟩
theorem sg_fz {sh : List (Nat × HObj)} (x : Sg) (j : Nat) : Fz sh (sgF x j) (sgF x j) := by
  obtain ⟨v, hv⟩ := sg_imm x j
  rw [hv]; exact .imm _
theorem osub1 {g ty fl : Nat} {f f' : Nat → Nat → HV} (h0 : Sb (f 0 0) (f' 0 0)) (hfn : fl ≤ 1 := by exact Nat.zero_le _) : OSub ⟨g, 1, 1, ty, fl, f⟩ ⟨g, 1, 1, ty, fl, f'⟩ := .of (hfn := hfn) fun i j hi hj => by
  obtain rfl : i = 0 := by omega
  match j, hj with | 0, _ => exact h0
@[reducible] def cloV : HV := .fn (.func 78) ([.pt 2 0 0 0, .pt 3 1 0 0, .pt 4 2 0 0] : List HV).length (fun i => ([.pt 2 0 0 0, .pt 3 1 0 0, .pt 4 2 0 0] : List HV).getD i default)
theorem lex_pan {w : World} {F : Addr → Prop} {s : List UInt8} {fn : Func} {n clk : Nat} {tm : List (Nat × TV)} {hp : List (Nat × HObj)} {y : Int × Int} {x : HV} {va ve : Int} (hv : lexV s = .error y) (hfn : fn.results = #[.cell 2 105, .cell 3 3, .cell 4 37])
    (h2 : tget tm 2 = some (.v (.pt 2 0 0 0))) (h3 : tget tm 3 = some (.v (.pt 3 1 0 0))) (h4 : tget tm 4 = some (.v (.pt 4 2 0 0)))
    (o2 : hget hp 2 = some (cell1 0 105 x)) (o3 : hget hp 3 = some (cell1 1 3 (intV va))) (o4 : hget hp 4 = some (cell1 2 37 (intV ve))) :
    HPan ((Ctx.top w F).wait cloV) (bodyPostD Tryz.prog fn (PurePost w F (lexH (lexO (lexV s))))) ⟨n, tm, hp, clk⟩ (faultV y) := by
  refine hpan_wait ⟨rfl, rfl⟩ (lex1_P clk 0 1 2 x va ve y) (preC o2 (preC o3 (preC o4 pre0))) (fun x kp c' h => by obtain ⟨_, _, h, _⟩ := h; cases h) (fun r kp c' h => ?_)
  obtain ⟨_, _, hr, hk⟩ := h
  subst hk
  refine hq_ret3 hfn (rvl_cell h2 rfl ty_105 (fun h => by first | rfl | cases h) rfl rfl) (rvl_cell h3 rfl ty_3 (fun h => by first | rfl | cases h) rfl rfl) (rvl_cell h4 rfl ty_37 (fun h => by first | rfl | cases h) rfl rfl) [] rfl pre0 ?_
  rw [hv]
  exact fz_t3 (.nil 0 5 _ (by decide) none) (.imm _) (.imm _)
theorem sign_d (g : Nat) (s : List UInt8) (i : Nat) (hs : s.length ≤ 1000000) (hi : i ≤ s.length) {x : Sg} {q : Nat} (h : oneR s i = .ok (x, q)) : HFunD Tryz.prog 84 [.pt 9001 g 0 0] [(9001, rdO g s i)] (sgH x) [(9001, rdO g s q)] := fun c =>
  (sign_h c g s i hs hi).mono fun e kp c' hP => by
    rcases hP with ⟨y, hy, he, hk⟩ | ⟨y, hy, _⟩
    · rw [h] at hy; injection hy with hy; subst hy; exact ⟨(), trivial, he, hk⟩
    · rw [h] at hy; cases hy
theorem lex_h (s : List UInt8) (hs : s.length ≤ 1000000) : HPure Tryz.prog 59 [strV s] (lexH (lexO (lexV s))) := by
  have hV := lexV_at s
  refine hpure_ofD Tryz.func59 rfl (by kernel_rfl) _ _ _ rfl 55 rfl rfl (fun w F => ?_)
  refine hw_seqC (fun Nh1 h1 => ?_)
  refine hw_region ?_
  refine hm_1 2 (hop_alloc (id := 2) (sz := 1) zc_105 rfl rfl (nb rfl) (nb rfl)) rfl rfl pre0 rfl rfl (c' := 1) rfl ?_
  refine hm_1 3 (hop_alloc (id := 3) (sz := 1) zc_3 rfl rfl (nb rfl) (nb rfl)) rfl rfl pre0 rfl rfl (c' := 2) rfl ?_
  refine hm_1 4 (hop_alloc (id := 4) (sz := 1) zc_37 rfl rfl (nb rfl) (nb rfl)) rfl rfl pre0 rfl rfl (c' := 3) rfl ?_
  refine hseq_nil ?_
  refine h1 _ _ rfl ?_
  refine hw_seqC (fun Nh2 h2 => ?_)
  refine hw_region ?_
  refine st0 (hop_makeFunc (hs := [_, _, _]) ⟨rfl, ⟨rfl, ⟨rfl, trivial⟩⟩⟩) rfl rfl ?_
  refine hseq_defer rfl ?_
  refine h2 _ _ rfl ?_
  refine hw_seqC (fun Nh3 h3 => ?_)
  refine hw_region ?_
  refine stm rfl rfl rfl ?_
  refine st0 (hop_build (hs := [(0, 1, _)]) st_139 rfl rfl ⟨rfl, rfl, rfl, rfl, rfl, trivial⟩) rfl rfl ?_
  refine hm_1 10 (hop_box (id := 9001) (sz := 2) rfl rfl rfl (by decide) (by decide)) rfl rfl pre0 rfl rfl (c' := 4) rfl ?_
  refine sta rfl rfl rfl ?_
  refine hseq_nil ?_
  refine h3 _ _ rfl ?_
  refine hw_block ?_
  refine (hsub_ownc 2 0 54 5 113 (sgsF []) (fun _ _ => .os 54 4 0 0) rfl rfl (fun j hj => .inl ⟨by omega, rfl⟩) (by decide) (by decide) (c' := 5) rfl).wp ?_
  refine hw_loopc (α := Nat × List Sg × Nat × Nat) (fun x c => ⟨55, [(0, .v (strV s)), (2, .v (.pt 2 0 0 0)), (3, .v (.pt 3 1 0 0)), (4, .v (.pt 4 2 0 0)), (5, .v (.pt 9001 3 0 0))], [(9001, rdO 3 s x.1), (2, cell1 0 105 (.os 54 x.2.2.1 0 x.2.2.2)), (3, cell1 1 3 (intV 0)), (4, cell1 2 37 (intV 0)), (54, ⟨x.2.2.1, x.2.2.2, 5, 113, 0, sgsF x.2.1⟩)], c⟩) (fun x => x.1 ≤ s.length ∧ x.2.1.length ≤ 200 ∧ x.2.2.2 = x.2.1.length ∧ lexAt s x.1 x.2.1 = lexV s) (fun x => s.length - x.1) ((0, [], 4, 0)) (by exact ⟨Nat.zero_le _, Nat.zero_le _, rfl, hV⟩) (hsub_of rfl (Nat.le_refl _) (TmSub.cons rfl (Sb.refl _) (TmSub.cons rfl (Sb.refl _) (TmSub.cons rfl (Sb.refl _) (TmSub.cons rfl (Sb.refl _) (TmSub.cons rfl (Sb.refl _) TmSub.nil))))) (HpSub.cons rfl (osub2 (.refl _) (.refl _)) (HpSub.cons rfl (OSub.refl _) (HpSub.cons rfl (osub1 (.refl _)) (HpSub.cons rfl (osub1 (.refl _)) (HpSub.cons rfl (OSub.refl _) HpSub.nil)))))) (fun x c hx NhL4 hL4 => ?_)
  revert hx hL4; obtain ⟨i, out, gl, n⟩ := x; intro hx hL4; dsimp only at hx hL4 ⊢
  obtain ⟨hi, hol, hn, hL⟩ := hx
  refine hw_block ?_
  refine hw_seqC (fun Nh5 h5 => ?_)
  refine hw_block ?_
  refine hw_loopc (α := Nat) (fun x c => ⟨55, [(0, .v (strV s)), (2, .v (.pt 2 0 0 0)), (3, .v (.pt 3 1 0 0)), (4, .v (.pt 4 2 0 0)), (5, .v (.pt 9001 3 0 0))], [(9001, rdO 3 s x), (2, cell1 0 105 (.os 54 gl 0 n)), (3, cell1 1 3 (intV 0)), (4, cell1 2 37 (intV 0)), (54, ⟨gl, n, 5, 113, 0, sgsF out⟩)], c⟩) (fun x => i ≤ x ∧ x ≤ s.length ∧ lexAt s x out = lexV s) (fun x => s.length - x) (i) (by exact ⟨Nat.le_refl _, hi, hL⟩) (hsub_of rfl (Nat.le_refl _) (TmSub.cons rfl (Sb.refl _) (TmSub.cons rfl (Sb.refl _) (TmSub.cons rfl (Sb.refl _) (TmSub.cons rfl (Sb.refl _) (TmSub.cons rfl (Sb.refl _) TmSub.nil))))) (HpSub.cons rfl (OSub.refl _) (HpSub.cons rfl (OSub.refl _) (HpSub.cons rfl (OSub.refl _) (HpSub.cons rfl (OSub.refl _) (HpSub.cons rfl (OSub.refl _) HpSub.nil)))))) (fun j c hx NhL6 hL6 => ?_)
  (try dsimp only at hx hL6 ⊢)
  obtain ⟨hij, hj, hLj⟩ := hx
  refine hw_seqC (fun Nh7 h7 => ?_)
  refine hw_seqC (fun Nh8 h8 => ?_)
  refine hw_region ?_
  refine stm rfl rfl rfl ?_
  refine hq_ 12 (hop_funR (xs := [_]) (pre := [(9001, _)]) (peek_h 3 s j hs hj) ⟨rfl, trivial⟩) rfl rfl (preC rfl pre0) rfl rfl ?_
  refine st0 (hop_eql rfl rfl) rfl rfl ?_
  refine hseq_nil ?_
  refine h8 _ _ rfl ?_
  refine hw_cond _ rfl (fun hc0 => ?_) (fun hc0 => ?_)
  · have hr0 := hc0; (try simp only [hcs, Int.reduceToNat] at hc0)
    have hlt : j < s.length := bz_lt (by omega)
    refine hw_skip ?_
    refine h7 _ _ rfl ?_
    refine hw_block ?_
    refine hw_region ?_
    refine stm rfl rfl rfl ?_
    refine st0 (hop_nilcheck_pt rfl) rfl rfl ?_
    refine st0 (hop_fa fd_139_1 rfl) rfl rfl ?_
    refine st1 (hol_load ty_3 rfl (nb rfl) (nb rfl) (fun h => (by rfl))) rfl rfl rfl ?_
    refine st0 (hop_addi rfl rfl rfl (by omega) (by omega)) rfl rfl ?_
    refine st0 (hop_nilcheck_pt rfl) rfl rfl ?_
    refine st0 (hop_fa fd_139_1 rfl) rfl rfl ?_
    refine hm_s1 (hol_store ty_3 rfl rfl rfl rfl (nb rfl) (nb rfl) (nb rfl)) rfl rfl (pre1 rfl) (c' := c + 1) rfl ?_
    refine hseq_nil ?_
    refine hq_block ?_
    exact hL6 (j + 1) _ _ (by (try dsimp only); exact ⟨by omega, hlt, by rw [← lexAt_sp hlt hc0]; exact hLj⟩) (by (try dsimp only); omega) (hsub_of rfl (Nat.le_refl _) (TmSub.cons rfl (Sb.refl _) (TmSub.cons rfl (Sb.refl _) (TmSub.cons rfl (Sb.refl _) (TmSub.cons rfl (Sb.refl _) (TmSub.cons rfl (Sb.refl _) TmSub.nil))))) (HpSub.cons rfl (osub2 (.refl _) (sb_int (by omega))) (HpSub.cons rfl (OSub.refl _) (HpSub.cons rfl (OSub.refl _) (HpSub.cons rfl (OSub.refl _) (HpSub.cons rfl (OSub.refl _) HpSub.nil))))))
  have hr0 := hc0; (try simp only [hcs, Int.reduceToNat] at hc0)
  refine hw_exit ?_
  refine hq_then_exit ?_
  refine hq_then_exit ?_
  refine hq_block_here ?_
  refine h5 _ _ rfl ?_
  refine hw_seqC (fun Nh9 h9 => ?_)
  refine hw_seqC (fun Nh10 h10 => ?_)
  refine hw_region ?_
  refine stm rfl rfl rfl ?_
  refine st0 (hop_nilcheck_pt rfl) rfl rfl ?_
  refine st0 (hop_fa fd_139_1 rfl) rfl rfl ?_
  refine st1 (hol_load ty_3 rfl (nb rfl) (nb rfl) (fun h => (by rfl))) rfl rfl rfl ?_
  refine stm rfl rfl rfl ?_
  refine st0 (hop_len_strl (T := 9) rfl (by kernel_rfl) rfl) rfl rfl ?_
  refine st0 (hop_eql rfl rfl) rfl rfl ?_
  refine hseq_nil ?_
  refine h10 _ _ rfl ?_
  refine hw_cond _ rfl (fun hc1 => ?_) (fun hc1 => ?_)
  · have hr1 := hc1; (try simp only [hcs, Int.reduceToNat] at hc1)
    refine hw_seqC (fun Nh11 h11 => ?_)
    refine hw_region ?_
    refine st1 (hol_load ty_105 rfl (nb rfl) (nb rfl) (fun h => (by rfl))) rfl rfl rfl ?_
    refine hm_s1 (hol_storeW ty_105 rfl rfl rfl rfl) rfl rfl (pre1 rfl) (c' := c + 1) rfl ?_
    refine hm_s1 (hol_storeW ty_3 rfl rfl rfl rfl) rfl rfl (pre1 rfl) (c' := c + 2) rfl ?_
    refine hm_s1 (hol_storeW ty_37 rfl rfl rfl rfl) rfl rfl (pre1 rfl) (c' := c + 3) rfl ?_
    refine hseq_nil ?_
    refine h11 _ _ rfl ?_
    refine hw_ret ?_
    refine hq_then_ret ?_
    refine hq_block_ret ?_
    refine hq_then_ret ?_
    refine hq_block_ret ?_
    refine hq_wait ⟨rfl, rfl⟩ (lex1_R _ 0 1 2 gl n (sgsF out) (fun i j => sg_imm _ j) 0 0) (preC rfl (preC rfl (preC rfl (preC rfl pre0)))) (fun x kp c' h => by obtain ⟨_, _, h, _⟩ := h; cases h) (fun r kp c' h => ?_); obtain ⟨_, _, hr, hk⟩ := h; subst hk
    refine hq_ret3 rfl (rvl_cell rfl rfl ty_105 (fun h => by first | rfl | cases h) rfl rfl) (rvl_cell rfl rfl ty_3 (fun h => by first | rfl | cases h) rfl rfl) (rvl_cell rfl rfl ty_37 (fun h => by first | rfl | cases h) rfl rfl) [(54, _)] rfl (preC rfl pre0) ?_
    have e : lexV s = .ok out := (by rw [← hLj]; exact lexAt_end (by omega)); rw [e]; exact fz_t3 (fz_row (l := out) (enc := sgF) (d := default) (List.mem_cons_self ..) rfl hn (Nat.le_refl _) (fun i j hi hj => sg_fz _ j)) (.imm _) (.imm _)
  have hr1 := hc1; (try simp only [hcs, Int.reduceToNat] at hc1)
  have hjl : j < s.length := (by omega)
  refine hw_skip ?_
  refine h9 _ _ rfl ?_
  refine hw_seqC (fun Nh12 h12 => ?_)
  refine hw_seqC (fun Nh13 h13 => ?_)
  refine hw_region ?_
  refine st1 (hol_load ty_105 rfl (nb rfl) (nb rfl) (fun h => (by rfl))) rfl rfl rfl ?_
  refine st0 (hop_len_os (T := 105) rfl (elOf_spec el_105).1 rfl) rfl rfl ?_
  refine st0 (hop_eql rfl rfl) rfl rfl ?_
  refine hseq_nil ?_
  refine h13 _ _ rfl ?_
  refine hw_cond _ rfl (fun hc2 => ?_) (fun hc2 => ?_)
  · have hr2 := hc2; (try simp only [hcs, Int.reduceToNat] at hc2)
    refine hw_seqC (fun Nh14 h14 => ?_)
    refine hw_seqC (fun Nh15 h15 => ?_)
    refine hw_region ?_
    refine stm rfl rfl rfl ?_
    refine hq_ 33 (hop_funR (xs := [_]) (pre := [(9001, _)]) (peek_h 3 s j hs hj) ⟨rfl, trivial⟩) rfl rfl (preC rfl pre0) rfl rfl ?_
    refine sta rfl rfl rfl ?_
    refine hseq_nil ?_
    refine h15 _ _ rfl ?_
    refine hw_seqC (fun Nh16 h16 => ?_)
    refine hw_region ?_
    refine stm rfl rfl rfl ?_
    refine st0 (hop_call0 (xs := [_]) (small_h _) ⟨rfl, trivial⟩ ⟨(Fz.eq rfl), trivial⟩) rfl rfl ?_
    refine st0 (hop_not rfl) rfl rfl ?_
    refine stm rfl rfl rfl ?_
    refine stg 37 (fun hb => hop_move rfl) rfl rfl rfl rfl rfl ?_
    refine stg 37 (fun hb => hop_call0 (xs := [_, _]) (indexByte_h [40, 41, 124, 42, 43, 63, 123] (s.getD j 0)) ⟨rfl, ⟨rfl, trivial⟩⟩ ⟨(Fz.eq rfl), ⟨(Fz.eq (by rw [bz_in hjl])), trivial⟩⟩) rfl rfl rfl rfl rfl ?_
    refine stg 37 (fun hb => hop_lss rfl rfl) rfl rfl rfl rfl rfl ?_
    refine hq_p 41 (hstep_and _ _ rfl rfl rfl) rfl rfl rfl ?_
    refine hseq_nilU (by rfl) (by simp only [dropUn, slots]; exact rfl) ?_
    refine h16 _ _ rfl ?_
    refine hw_cond _ rfl (fun hc3 => ?_) (fun hc3 => ?_)
    · have hr3 := hc3; (try simp only [hcs, Int.reduceToNat] at hc3)
      have hb : beginZ (bz s j) = false := (by have h := hr3; rw [bz_in hjl] at h; rw [begin_iff] at h; rw [bz_in hjl]; simpa using h)
      refine hw_region ?_
      refine stm rfl rfl rfl ?_
      refine hf_callP (xs := [_]) (pre := [(9001, _)]) (odd_h _ 3 s j hs hj) ⟨rfl, trivial⟩ (preC rfl pre0) (fun y c1 hy => ?_)
      refine (hpan_then (hpan_then (hpan_block (hpan_then (hpan_block ?_)))))
      exact lex_pan (by rw [← hLj, hy]; exact lexAt_odd hjl hc0 (by omega) hb) rfl rfl rfl rfl rfl rfl rfl
    have hr3 := hc3; (try simp only [hcs, Int.reduceToNat] at hc3)
    have hb : beginZ (bz s j) = true := (by have h := hr3; rw [bz_in hjl] at h; rw [begin_iff] at h; rw [bz_in hjl]; simpa using h)
    refine hw_skip ?_
    refine h14 _ _ rfl ?_
    refine hw_region ?_
    refine stm rfl rfl rfl ?_
    refine stm rfl rfl rfl ?_
    refine st0 (hop_nilcheck_pt rfl) rfl rfl ?_
    refine st0 (hop_fa fd_139_1 rfl) rfl rfl ?_
    refine st1 (hol_load ty_3 rfl (nb rfl) (nb rfl) (fun h => (by rfl))) rfl rfl rfl ?_
    refine hf_callP (xs := [_, _, _]) (pre := [(9001, _)]) (stop_h _ 3 s j _ _) ⟨rfl, ⟨rfl, ⟨rfl, trivial⟩⟩⟩ (preC rfl pre0) (fun y c2 hy => ?_)
    refine (hpan_then (hpan_block (hpan_then (hpan_block ?_))))
    exact lex_pan (by rw [← hLj, hy]; exact lexAt_long hjl hc0 (by omega) hb) rfl rfl rfl rfl rfl rfl rfl
  have hr2 := hc2; (try simp only [hcs, Int.reduceToNat] at hc2)
  refine hw_skip ?_
  refine h12 _ _ rfl ?_
  rcases hone : oneR s j with e | ⟨x, q⟩
  · skip
    refine hd_start ?_
    refine hd_q 50 (hol_load ty_105 rfl (nb rfl) (nb rfl) (fun h => (by rfl))) rfl rfl (pre1 rfl) rfl rfl (k' := 1) rfl ?_
    refine hd_q 51 (hop_move rfl) rfl rfl pre0 rfl rfl (k' := 2) rfl ?_
    exact hd_pan (xs := [_]) (pre := [(9001, _)]) [(2, .v (.pt 2 0 0 0)), (3, .v (.pt 3 1 0 0)), (4, .v (.pt 4 2 0 0))] (by kernel_rfl) rfl (sign_h _ 3 s j hs hj) ⟨rfl, trivial⟩ (preC rfl pre0) (by kernel_rfl) (by kernel_rfl) (by kernel_rfl) (tk_cons rfl (tk_cons rfl (tk_cons rfl tk_nil))) (by kernel_rfl) (fun r kp c' h => by rcases h with ⟨x, hx, _⟩ | ⟨y, _, hy, _⟩; rw [hone] at hx; cases hx; cases hy) (fun x kp c' h => by rcases h with ⟨x, hx, he, _⟩ | ⟨y, hy, he, hk⟩; cases he; injection he with he; subst he; subst hk; rw [hone] at hy; injection hy with hy; (repeat (first | with_reducible refine hpan_then ?_ | with_reducible refine hpan_block ?_)); exact lex_pan (by rw [← hLj, ← hy]; exact lexAt_err hjl hc0 (by omega) hone) rfl rfl rfl rfl rfl rfl rfl)
  · skip
    refine hd_start ?_
    refine hd_q 50 (hol_load ty_105 rfl (nb rfl) (nb rfl) (fun h => (by rfl))) rfl rfl (pre1 rfl) rfl rfl (k' := 1) rfl ?_
    refine hd_q 51 (hop_move rfl) rfl rfl pre0 rfl rfl (k' := 2) rfl ?_
    refine hd_m 52 (hop_funD (xs := [_]) (pre := [(9001, _)]) (sign_d 3 s j hs hj hone) (clocks_cons (.head _) rfl clocks_nil) ⟨rfl, trivial⟩) rfl rfl (preC rfl pre0) rfl rfl (k' := 3) rfl ?_
    refine hd_1 53 (hop_buildSlice (id := 53) (hs := [_]) ei_105 (nb rfl) rfl (nb rfl) ⟨rfl, rfl, rfl, rfl, trivial⟩) rfl rfl pre0 rfl rfl (k' := 4) rfl ?_
    refine hd_1 54 (hol_append ei_105 (nb rfl) rfl (by omega) (nb rfl) (srl_os0 rfl (nb rfl)) (by omega) rfl) rfl rfl (preC rfl (pre1 rfl)) rfl rfl (k' := 5) rfl ?_
    refine hd_s1 (hol_storeW ty_105 rfl rfl rfl rfl) rfl rfl (pre1 rfl) (k' := 6) rfl ?_
    refine hd_nil (by kernel_rfl) (by kernel_rfl) (c' := c + 6) rfl ?_
    refine hq_block ?_
    have hq := oneR_le hone
    exact hL4 ((q, out ++ [x], c + 4, n + 1)) _ _ (by (try dsimp only); exact ⟨hq.2, by rw [List.length_append]; show out.length + 1 ≤ 200; omega, by rw [List.length_append, hn]; rfl, by rw [← lexAt_go hjl hc0 (by omega) hone]; exact hLj⟩) (by (try dsimp only); omega) (hsub_of rfl (Nat.le_refl _) (TmSub.cons rfl (Sb.refl _) (TmSub.cons rfl (Sb.refl _) (TmSub.cons rfl (Sb.refl _) (TmSub.cons rfl (Sb.refl _) (TmSub.cons rfl (Sb.refl _) TmSub.nil))))) (HpSub.cons rfl (OSub.refl _) (HpSub.cons rfl (OSub.refl _) (HpSub.cons rfl (OSub.refl _) (HpSub.cons rfl (OSub.refl _) (HpSub.cons rfl (OSub.of fun i j hi hj => sb_cat (l := out) (k := [x]) (enc := sgF) (d := default) hn (fun i j _ _ => .refl _) (sb_one (x := x) (enc := sgF) (d := default) (fun j hj => by match j, hj with | 0, _ => exact .refl _ | 1, _ => exact .refl _ | 2, _ => exact .refl _ | 3, _ => exact .refl _ | 4, _ => exact .refl _)) i j (by rw [List.length_append, ← hn]; exact hi) hj) HpSub.nil))))))
end Go.Proofs.YtldjnmljnlhaaaaGreatDoor

namespace Go.Proofs.YtldjnmljnlhaaaaGreatDoor
set_option linter.unusedSimpArgs false
set_option linter.unusedVariables false
set_option maxRecDepth 100000
open Go.RowKit

@[reducible] def kidsF (l : List Int) : Nat → Nat → HV := fun i _ => intV (l.getD i 0)
@[reducible] def kidsV (l : List Int) : HV := .sl 1 l.length (kidsF l)
@[reducible] def ptF (x : Pt) : Nat → HV := fun j => match j with | 0 => intV x.kind | 1 => intV x.low | 2 => intV x.high | 3 => strV x.name | _ => kidsV x.kids
@[reducible] def ptH (x : Pt) : HV := .agg 5 (ptF x)
@[reducible] def ptsF (l : List Pt) : Nat → Nat → HV := fun i => ptF (l.getD i default)
@[reducible] def ptsV (l : List Pt) : HV := .sl 5 l.length (ptsF l)
@[reducible] def ptsO (g : Nat) (l : List Pt) : HObj := ⟨g, l.length, 5, 29, 0, ptsF l⟩
@[reducible] def erF (l : List Sg) (p g2 n : Nat) (b : Bool) : Nat → Nat → HV := fun _ j => match j with | 0 => sgsV l | 1 => intV p | 2 => .os 9002 g2 0 n | _ => boolV b
@[reducible] def erO (g : Nat) (l : List Sg) (p g2 n : Nat) (b : Bool) : HObj := ⟨g, 1, 4, 112, 0, erF l p g2 n b⟩
theorem pt_fz {sh : List (Nat × HObj)} (x : Pt) (j : Nat) : Fz sh (ptF x j) (ptF x j) := by
  match j with
  | 0 => exact .imm _
  | 1 => exact .imm _
  | 2 => exact .imm _
  | 3 => exact .imm _
  | j + 4 => exact .sl _ _ _ _ fun i j _ _ => .imm _
instance frz_sgsV (l : List Sg) : Frz (sgsV l) := ⟨.sl _ _ _ _ fun i j _ _ => sg_fz _ j⟩
instance frz_kidsV (l : List Int) : Frz (kidsV l) := ⟨.sl _ _ _ _ fun i j _ _ => .imm _⟩
instance frz_ptsV (l : List Pt) : Frz (ptsV l) := ⟨.sl _ _ _ _ fun i j _ _ => pt_fz _ j⟩
theorem okz_pts {kp sh : List (Nat × HObj)} {g : Nat} {l : List Pt} : OKz kp sh (ptsO g l) (ptsO g l) := .of fun i j _ _ => .fz _ _ (pt_fz _ j)
theorem sb_pt {x : Pt} {f : Nat → HV} (h0 : Sb (f 0) (ptF x 0)) (h1 : Sb (f 1) (ptF x 1)) (h2 : Sb (f 2) (ptF x 2)) (h3 : Sb (f 3) (ptF x 3)) (h4 : Sb (f 4) (ptF x 4)) : ∀ j, j < 5 → Sb (f j) (ptF x j) := fun j hj => by
  match j, hj with
  | 0, _ => exact h0
  | 1, _ => exact h1
  | 2, _ => exact h2
  | 3, _ => exact h3
  | 4, _ => exact h4
theorem okz_er {kp sh : List (Nat × HObj)} {g p g2 n : Nat} {l : List Sg} {b : Bool} {o : HObj} (h : hget kp 9002 = some o) (hg : o.g = g2) : OKz kp sh (erO g l p g2 n b) (erO g l p g2 n b) := okz4 (.fz _ _ (show Fz sh (sgsV l) (sgsV l) from Frz.fz)) (.fz _ _ (.imm _)) (.os _ _ _ _ _ h hg) (.fz _ _ (.imm _))
theorem osub4 {g ty fl : Nat} {f f' : Nat → Nat → HV} (h0 : Sb (f 0 0) (f' 0 0)) (h1 : Sb (f 0 1) (f' 0 1)) (h2 : Sb (f 0 2) (f' 0 2)) (h3 : Sb (f 0 3) (f' 0 3)) (hfn : fl ≤ 1 := by exact Nat.zero_le _) : OSub ⟨g, 1, 4, ty, fl, f⟩ ⟨g, 1, 4, ty, fl, f'⟩ := .of (hfn := hfn) fun i j hi hj => by
  obtain rfl : i = 0 := by omega
  match j, hj with | 0, _ => exact h0 | 1, _ => exact h1 | 2, _ => exact h2 | 3, _ => exact h3
/-- An own row with one more. -/
theorem osub_snoc {α : Type} {enc : α → Nat → HV} {d x : α} {out : List α} {g n sz ty : Nat} {f F : Nat → Nat → HV} (hn : n = out.length) (hF : ∀ i j, i < out.length → j < sz → Sb (F i j) (enc (out.getD i d) j)) (h : ∀ j, j < sz → Sb (f 0 j) (enc x j)) :
    OSub ⟨g, n + 1, sz, ty, 0, cat n F f⟩ ⟨g, (out ++ [x]).length, sz, ty, 0, fun i => enc ((out ++ [x]).getD i d)⟩ := by
  subst hn
  refine ⟨rfl, by simp, rfl, rfl, Nat.le_refl _, fun i j hi hj => ?_, fun h => absurd h (Nat.not_lt_zero _)⟩
  exact sb_cat (l := out) (k := [x]) (enc := enc) (d := d) rfl hF (sb_one (x := x) (enc := enc) (d := d) h) i j (by rw [List.length_append]; exact hi) hj
theorem sb_os {id g lo n n' : Nat} (h : n = n') : Sb (.os id g lo n) (.os id g lo n') := by subst h; exact .refl _
theorem kind_h (g : Nat) (l : List Sg) (p g2 : Nat) (out : List Pt) (b : Bool) (hl : l.length ≤ 1000) (hp : p ≤ l.length) : HFunD Tryz.prog 86 [.pt 9001 g 0 0] [(9001, erO g l p g2 out.length b), (9002, ptsO g2 out)] (intV (kd l p)) [(9001, erO g l p g2 out.length b), (9002, ptsO g2 out)] := by
  intro c
  refine hfun_of Tryz.func86 rfl (by kernel_rfl) _ _ _ _ rfl 24 rfl rfl (fun X ok hX => ?_)
  refine srg fun N h1 => ?_
  refine sta rfl rfl rfl ?_
  refine snl h1 ?_
  refine hw_seq (fun Nh2 h2 => ?_)
  refine hw_seq (fun Nh3 h3 => ?_)
  refine hd_start ?_
  refine hd_q 3 (hop_move rfl) rfl rfl pre0 rfl rfl (k' := 1) rfl ?_
  refine hd_q 4 (hop_nilcheck_pt rfl) rfl rfl pre0 rfl rfl (k' := 2) rfl ?_
  refine hd_q 5 (hop_fa fd_110_1 rfl) rfl rfl pre0 rfl rfl (k' := 3) rfl ?_
  refine hd_q 6 (hol_load ty_3 rfl (nb rfl) (nb rfl) (fun h => (by rfl))) rfl rfl (pre1 rfl) rfl rfl (k' := 4) rfl ?_
  refine hd_q 7 (hop_move rfl) rfl rfl pre0 rfl rfl (k' := 5) rfl ?_
  refine hd_q 8 (hop_nilcheck_pt rfl) rfl rfl pre0 rfl rfl (k' := 6) rfl ?_
  refine hd_q 9 (hop_fa fd_110_0 rfl) rfl rfl pre0 rfl rfl (k' := 7) rfl ?_
  refine hd_q 10 (hol_load ty_105 rfl (nb rfl) (nb rfl) (fun h => (by rfl))) rfl rfl (pre1 rfl) rfl rfl (k' := 8) rfl ?_
  refine hd_q 11 (hop_len_sl (T := 105) rfl (elOf_spec el_105).1 rfl) rfl rfl pre0 rfl rfl (k' := 9) rfl ?_
  refine hd_q 12 (hop_lss rfl rfl) rfl rfl pre0 rfl rfl (k' := 10) rfl ?_
  refine hd_nil (by kernel_rfl) (by kernel_rfl) (c' := c + 10) rfl ?_
  refine h3 _ ?_
  refine hw_cond _ rfl (fun hc0 => ?_) (fun hc0 => ?_)
  · have hr0 := hc0; (try simp only [hcs, Int.reduceToNat] at hc0)
    refine hw_seq (fun Nh4 h4 => ?_)
    refine hd_start ?_
    refine hd_q 13 (hop_move rfl) rfl rfl pre0 rfl rfl (k' := 1) rfl ?_
    refine hd_q 14 (hop_nilcheck_pt rfl) rfl rfl pre0 rfl rfl (k' := 2) rfl ?_
    refine hd_q 15 (hop_fa fd_110_0 rfl) rfl rfl pre0 rfl rfl (k' := 3) rfl ?_
    refine hd_q 16 (hol_load ty_105 rfl (nb rfl) (nb rfl) (fun h => (by rfl))) rfl rfl (pre1 rfl) rfl rfl (k' := 4) rfl ?_
    refine hd_q 17 (hop_move rfl) rfl rfl pre0 rfl rfl (k' := 5) rfl ?_
    refine hd_q 18 (hop_nilcheck_pt rfl) rfl rfl pre0 rfl rfl (k' := 6) rfl ?_
    refine hd_q 19 (hop_fa fd_110_1 rfl) rfl rfl pre0 rfl rfl (k' := 7) rfl ?_
    refine hd_q 20 (hol_load ty_3 rfl (nb rfl) (nb rfl) (fun h => (by rfl))) rfl rfl (pre1 rfl) rfl rfl (k' := 8) rfl ?_
    refine hd_q 21 (hop_ia_sl el_105 rfl rfl (by omega) (by omega) (nb rfl)) rfl rfl pre0 rfl rfl (k' := 9) rfl ?_
    refine hd_q 22 (hop_fa_fp fd_113_0 rfl (nb rfl)) rfl rfl pre0 rfl rfl (k' := 10) rfl ?_
    refine hd_q 23 (hop_load_fp ty_3 rfl (nb rfl) (fun h => (by rfl))) rfl rfl pre0 rfl rfl (k' := 11) rfl ?_
    refine hd_q 2 (hop_assign rfl) rfl rfl pre0 rfl rfl (k' := 12) rfl ?_
    refine hd_nil (by kernel_rfl) (by kernel_rfl) (c' := c + 22) rfl ?_
    refine h4 _ ?_
    refine hw_ret ?_
    refine hq_then_ret ?_
    refine hf_retR1 ok hX RetS.one rfl (rval_tmp rfl) [] rfl pre0 (()) (trivial) (by rfl) (by rfl) (by rw [kd_in (by simpa using hc0)]; exact (by first | exact .fz _ _ (.imm _) | exact .os _ _ _ _ _ rfl rfl | exact .pt _ _ _ _ _ rfl rfl | exact .nps _ _ _ rfl rfl | (dsimp only; exact .fz _ _ Frz.fz) | exact .fz _ _ (.tup 0 _ _ (fun i hi => absurd hi (Nat.not_lt_zero _))))) ?_
    exact ⟨⟨_, rfl, okz_er rfl rfl⟩, ⟨⟨_, rfl, okz_pts⟩, trivial⟩⟩
  have hr0 := hc0; (try simp only [hcs, Int.reduceToNat] at hc0)
  refine hw_skip ?_
  refine h2 _ ?_
  refine srg fun N h5 => ?_
  refine sta rfl rfl rfl ?_
  refine snl h5 ?_
  refine hw_ret ?_
  refine hf_retR1 ok hX RetS.one rfl (rval_tmp rfl) [] rfl pre0 (()) (trivial) (by rfl) (by rfl) (by rw [kd_out (by simpa using hc0)]; exact (by first | exact .fz _ _ (.imm _) | exact .os _ _ _ _ _ rfl rfl | exact .pt _ _ _ _ _ rfl rfl | exact .nps _ _ _ rfl rfl | (dsimp only; exact .fz _ _ Frz.fz) | exact .fz _ _ (.tup 0 _ _ (fun i hi => absurd hi (Nat.not_lt_zero _))))) ?_
  exact ⟨⟨_, rfl, okz_er rfl rfl⟩, ⟨⟨_, rfl, okz_pts⟩, trivial⟩⟩
theorem lay_h (c g : Nat) (l : List Sg) (p g2 n : Nat) (b : Bool) (out : List Pt) (x : Pt) (hn : n = out.length) (ho : out.length ≤ 100000) : HFun Tryz.prog 102 c [.pt 9001 g 0 0, ptH x] [(9001, erO g l p g2 n b), (9002, ptsO g2 out)]
    (RetP (fun (g' : Nat) _ => True) (fun _ => intV out.length) (fun g' => [(9001, erO g l p g' (out ++ [x]).length b), (9002, ptsO g' (out ++ [x]))])) := by
  subst hn
  refine hfun_of Tryz.func102 rfl (by kernel_rfl) _ _ _ _ rfl 21 rfl rfl (fun X ok hX => ?_)
  refine srg fun N h1 => ?_
  refine hm_1 3 (hop_box (id := 3) (sz := 5) rfl rfl rfl (nb rfl) (nb rfl)) rfl rfl pre0 rfl rfl (c' := c + 1) rfl ?_
  refine sta rfl rfl rfl ?_
  refine snl h1 ?_
  refine hw_seq (fun Nh2 h2 => ?_)
  refine hd_start ?_
  refine hd_q 5 (hop_move rfl) rfl rfl pre0 rfl rfl (k' := 1) rfl ?_
  refine hd_q 6 (hop_move rfl) rfl rfl pre0 rfl rfl (k' := 2) rfl ?_
  refine hd_q 7 (hop_nilcheck_pt rfl) rfl rfl pre0 rfl rfl (k' := 3) rfl ?_
  refine hd_q 8 (hop_fa fd_112_1 rfl) rfl rfl pre0 rfl rfl (k' := 4) rfl ?_
  refine hd_q 9 (hol_load ty_24 rfl (nb rfl) (nb rfl) (fun h => (by rfl))) rfl rfl (pre1 rfl) rfl rfl (k' := 5) rfl ?_
  refine hd_q 10 (hol_load ty_29 rfl (nb rfl) (nb rfl) (fun h => (by cases h))) rfl rfl (pre1 rfl) rfl rfl (k' := 6) rfl ?_
  refine hd_1 11 (hop_buildSlice (id := 11) (hs := [_]) ei_24 (nb rfl) rfl (nb rfl) ⟨rfl, rfl, rfl, rfl, trivial⟩) rfl rfl pre0 rfl rfl (k' := 7) rfl ?_
  refine hd_1 12 (hol_append ei_24 (nb rfl) rfl (by omega) (nb rfl) (srl_os0 rfl (nb rfl)) (by omega) rfl) rfl rfl (preC rfl (pre1 rfl)) rfl rfl (k' := 8) rfl ?_
  refine hd_q 13 (hop_nilcheck_pt rfl) rfl rfl pre0 rfl rfl (k' := 9) rfl ?_
  refine hd_q 14 (hop_fa fd_112_1 rfl) rfl rfl pre0 rfl rfl (k' := 10) rfl ?_
  refine hd_s1 (hol_store ty_24 rfl rfl rfl rfl (nb rfl) (nb rfl) (nb rfl)) rfl rfl (pre1 rfl) (k' := 11) rfl ?_
  refine hd_nil (by kernel_rfl) (by kernel_rfl) (c' := c + 12) rfl ?_
  refine h2 _ ?_
  refine hw_seq (fun Nh3 h3 => ?_)
  refine (hsub_ob 9001 (erO g l p (c + 1 + 7) (out ++ [x]).length b) rfl (by exact osub4 (.refl _) (.refl _) (sb_os (by simp)) (.refl _))).wp ?_; refine (hsub_ob 9002 (ptsO (c + 1 + 7) (out ++ [x])) rfl (by exact osub_snoc (enc := ptF) (d := default) rfl (fun i j _ _ => .refl _) (sb_pt (.refl _) (.refl _) (.refl _) (.refl _) (.refl _)))).wp ?_
  refine hw_region ?_
  refine stm rfl rfl rfl ?_
  refine st0 (hop_nilcheck_pt rfl) rfl rfl ?_
  refine st0 (hop_fa fd_112_1 rfl) rfl rfl ?_
  refine st1 (hol_load ty_24 rfl (nb rfl) (nb rfl) (fun h => (by rfl))) rfl rfl rfl ?_
  refine st0 (hop_len_os (T := 24) rfl (elOf_spec el_24).1 rfl) rfl rfl ?_
  refine st0 (hop_subi rfl rfl rfl (by omega) (by simp <;> omega)) rfl rfl ?_
  refine sta rfl rfl rfl ?_
  refine snl h3 ?_
  refine hw_ret ?_
  refine hf_retR1 ok hX RetS.one rfl (rval_tmp rfl) [] rfl pre0 ((c + 1 + 7)) (trivial) (by rfl) (by rfl) (kz_int (by simp)) ?_
  exact ⟨⟨_, rfl, okz_er rfl rfl⟩, ⟨⟨_, rfl, okz_pts⟩, trivial⟩⟩
theorem many_h (c g : Nat) (l : List Sg) (p g2 n : Nat) (b : Bool) (out : List Pt) (k : Int) (ks : List Int) (hn : n = out.length) (ho : out.length ≤ 100000) : HFun Tryz.prog 87 c [.pt 9001 g 0 0, intV k, kidsV ks] [(9001, erO g l p g2 n b), (9002, ptsO g2 out)]
    (RetP (fun (y : Nat × List Pt × Int) _ => if ks.length = 1 then y.2 = (out, ks.getD 0 0) else y.2 = (out ++ [⟨k, 0, 0, [], ks⟩], (out.length : Int))) (fun y => intV y.2.2) (fun y => [(9001, erO g l p y.1 y.2.1.length b), (9002, ptsO y.1 y.2.1)])) := by
  subst hn
  refine hfun_of Tryz.func87 rfl (by kernel_rfl) _ _ _ _ rfl 18 rfl rfl (fun X ok hX => ?_)
  refine srg fun N h1 => ?_
  refine sta rfl rfl rfl ?_
  refine snl h1 ?_
  refine hw_seq (fun Nh2 h2 => ?_)
  refine srg fun N h3 => ?_
  refine stm rfl rfl rfl ?_
  refine st0 (hop_len_sl (T := 25) rfl (elOf_spec el_25).1 rfl) rfl rfl ?_
  refine st0 (hop_eql rfl rfl) rfl rfl ?_
  refine snl h3 ?_
  refine hw_cond _ rfl (fun hc0 => ?_) (fun hc0 => ?_)
  · have hr0 := hc0; (try simp only [hcs, Int.reduceToNat] at hc0)
    refine srg fun N h4 => ?_
    refine stm rfl rfl rfl ?_
    refine st0 (hop_ia_sl el_25 rfl rfl (by omega) (by omega) (nb rfl)) rfl rfl ?_
    refine st0 (hop_load_fp ty_3 rfl (nb rfl) (fun h => (by rfl))) rfl rfl ?_
    refine sta rfl rfl rfl ?_
    refine snl h4 ?_
    refine hw_ret ?_
    refine hq_then_ret ?_
    refine hf_retR1 ok hX RetS.one rfl (rval_tmp rfl) [] rfl pre0 ((g2, out, ks.getD 0 0)) ((by rw [if_pos (by omega)])) (by rfl) (by rfl) ((by first | exact .fz _ _ (.imm _) | exact .os _ _ _ _ _ rfl rfl | exact .pt _ _ _ _ _ rfl rfl | exact .nps _ _ _ rfl rfl | (dsimp only; exact .fz _ _ Frz.fz) | exact .fz _ _ (.tup 0 _ _ (fun i hi => absurd hi (Nat.not_lt_zero _))))) ?_
    exact ⟨⟨_, rfl, okz_er rfl rfl⟩, ⟨⟨_, rfl, okz_pts⟩, trivial⟩⟩
  have hr0 := hc0; (try simp only [hcs, Int.reduceToNat] at hc0)
  refine hw_skip ?_
  refine h2 _ ?_
  refine srg fun N h5 => ?_
  refine stm rfl rfl rfl ?_
  refine stm rfl rfl rfl ?_
  refine stm rfl rfl rfl ?_
  refine st0 (hop_build (hs := [(0, 1, _), (4, 1, _)]) st_29 rfl rfl ⟨rfl, rfl, rfl, rfl, rfl, ⟨rfl, rfl, rfl, rfl, rfl, trivial⟩⟩) rfl rfl ?_
  refine (hsub_shr 16 [] rfl pre0 rfl ((show Fz [] (.agg 5 _) (ptH ⟨k, 0, 0, [], ks⟩) from fz_agg5 (.imm _) (.imm _) (.imm _) (.imm _) (show Fz [] (kidsV ks) (kidsV ks) from Frz.fz)))).seq ?_
  refine hf_callR 17 (xs := [_, _]) (pre := [(9001, _), (9002, _)]) (lay_h _ g l p g2 _ b out ⟨k, 0, 0, [], ks⟩ rfl ho) ⟨rfl, ⟨rfl, trivial⟩⟩ (preC rfl (preC rfl pre0)) rfl rfl (fun g3 c1 hx1 => ?_)
  (try dsimp only)
  refine sta rfl rfl rfl ?_
  refine snl h5 ?_
  refine hw_ret ?_
  refine hf_retR1 ok hX RetS.one rfl (rval_tmp rfl) [] rfl pre0 ((g3, out ++ [⟨k, 0, 0, [], ks⟩], (out.length : Int))) ((by rw [if_neg (by omega)])) (by rfl) (by rfl) ((by first | exact .fz _ _ (.imm _) | exact .os _ _ _ _ _ rfl rfl | exact .pt _ _ _ _ _ rfl rfl | exact .nps _ _ _ rfl rfl | (dsimp only; exact .fz _ _ Frz.fz) | exact .fz _ _ (.tup 0 _ _ (fun i hi => absurd hi (Nat.not_lt_zero _))))) ?_
  exact ⟨⟨_, rfl, okz_er rfl rfl⟩, ⟨⟨_, rfl, okz_pts⟩, trivial⟩⟩
end Go.Proofs.YtldjnmljnlhaaaaGreatDoor

namespace Go.Proofs.YtldjnmljnlhaaaaGreatDoor
set_option linter.unusedSimpArgs false
set_option linter.unusedVariables false
set_option maxRecDepth 100000
open Go.RowKit

/-- What has been read: the tree (none: something is wrong), where the reader stands, the parts, the answer. -/
structure Rs where
  t : Option T
  q : Nat
  g : Nat
  out : List Pt
  ret : Int
def RsOk (l : List Sg) (v p : Nat) (out : List Pt) (x : Rs) : Prop := match x.t with
  | some t => Seg l v p x.q t ∧ x.out = out ++ T.flat out.length t ∧ x.ret = T.root out.length t ∧ (2 ≤ v → kd l x.q ≠ 1 ∧ kd l x.q ≠ 2) ∧ (3 ≤ v → kd l x.q ≠ 4)
  | none => BadS l p x.q ∧ x.out.length ≤ out.length + 2 * (x.q - p)
@[reducible] def RsP (l : List Sg) (v p : Nat) (out : List Pt) (g : Nat) : HEnd → List (Nat × HObj) → Nat → Prop :=
  RetP (fun (x : Rs) _ => RsOk l v p out x) (fun x => intV x.ret) (fun x => [(9001, erO g l x.q x.g x.out.length x.t.isNone), (9002, ptsO x.g x.out)])
@[reducible] def RsC (f : FuncId) (l : List Sg) (v g p : Nat) : Prop := ∀ c g2 (out : List Pt), out.length ≤ 2 * p → HFun Tryz.prog f c [.pt 9001 g 0 0] [(9001, erO g l p g2 out.length false), (9002, ptsO g2 out)] (RsP l v p out g)
theorem rs_le {l : List Sg} {v p : Nat} {out : List Pt} {x : Rs} (h : RsOk l v p out x) : p ≤ x.q ∧ x.q ≤ l.length ∧ x.out.length ≤ out.length + 2 * (x.q - p) := by
  obtain ⟨t, q, g, o, r⟩ := x
  cases t with
  | none => exact ⟨h.1.le, h.1.len, h.2⟩
  | some t =>
    obtain ⟨h1, h2, _⟩ := h
    have a := seg_lt h1; have b := seg_size h1
    simp only at h2 a b ⊢
    subst h2
    rw [List.length_append, T.flat_len]
    omega
theorem ok_name {l : List Sg} {p g : Nat} {out : List Pt} (h : kd l p = 1) (h5 : kd l (p + 1) ≠ 5) : RsOk l 1 p out ⟨some (.name (l.getD p default).name), p + 1, g, out ++ [⟨1, 0, 0, (l.getD p default).name, []⟩], out.length⟩ :=
  ⟨.item _ _ _ (.name p h) h5, by simp [T.flat], by simp [T.root, T.size], fun h => absurd h (by decide), fun h => absurd h (by decide)⟩
theorem ok_name5 {l : List Sg} {p g : Nat} {out : List Pt} (h : kd l p = 1) (h5 : kd l (p + 1) = 5) : RsOk l 1 p out ⟨some (.times (l.getD (p + 1) default).low (l.getD (p + 1) default).high (.name (l.getD p default).name)), p + 2, g, out ++ [⟨1, 0, 0, (l.getD p default).name, []⟩] ++ [⟨4, (l.getD (p + 1) default).low, (l.getD (p + 1) default).high, [], [(out.length : Int)]⟩], (out ++ [(⟨1, 0, 0, (l.getD p default).name, []⟩ : Pt)]).length⟩ :=
  ⟨.times _ _ _ (.name p h) h5, by simp [T.flat, T.size], by simp [T.root, T.size]; omega, fun h => absurd h (by decide), fun h => absurd h (by decide)⟩
theorem ok_group {l : List Sg} {p q g : Nat} {out o : List Pt} {r : Int} {t : T} (hx : RsOk l 3 (p + 1) out ⟨some t, q, g, o, r⟩) (h : kd l p = 2) (h3 : kd l q = 3) (h5 : kd l (q + 1) ≠ 5) : RsOk l 1 p out ⟨some t, q + 1, g, o, r⟩ :=
  ⟨.item _ _ _ (.group p q t h hx.1 h3) h5, hx.2.1, hx.2.2.1, fun h => absurd h (by decide), fun h => absurd h (by decide)⟩
theorem ok_group5 {l : List Sg} {p q g g' : Nat} {out o : List Pt} {r : Int} {t : T} (hx : RsOk l 3 (p + 1) out ⟨some t, q, g, o, r⟩) (h : kd l p = 2) (h3 : kd l q = 3) (h5 : kd l (q + 1) = 5) : RsOk l 1 p out ⟨some (.times (l.getD (q + 1) default).low (l.getD (q + 1) default).high t), q + 2, g', o ++ [⟨4, (l.getD (q + 1) default).low, (l.getD (q + 1) default).high, [], [r]⟩], o.length⟩ := by
  obtain ⟨h1, h2, h4, _⟩ := hx
  simp only at h2 h4
  refine ⟨.times _ _ _ (.group p q t h h1 h3) h5, ?_, ?_, fun h => absurd h (by decide), fun h => absurd h (by decide)⟩
  · simp only [T.flat, h2, h4, T.root, List.append_assoc]
  · simp only [T.root, T.size, h2, List.length_append, T.flat_len]; omega
theorem ok_bad {l : List Sg} {p q g : Nat} {out o : List Pt} {r : Int} {t : Option T} (hk : KdOk l) (hx : RsOk l 3 (p + 1) out ⟨t, q, g, o, r⟩) (h : kd l p = 2) (hb : t.isNone = true ∨ kd l q ≠ 3) : RsOk l 1 p out ⟨none, q, g, o, r⟩ := by
  have hle := rs_le hx
  simp only at hle
  refine ⟨?_, by show o.length ≤ out.length + 2 * (q - p); omega⟩
  cases t with
  | none => exact bad_group h hx.1
  | some t =>
    obtain ⟨h1, _, _, h2, h4⟩ := hx
    have a := h2 (by decide); have b := h4 (by decide)
    exact bad_shut hk h h1 a.1 a.2 (hb.resolve_left (by simp)) b
theorem fz_one {sh : List (Nat × HObj)} {id g ty fl : Nat} {r : Int} : Fz ((id, ⟨g, 1, 1, ty, fl, bsf [intV r]⟩) :: sh) (.os id g 0 1) (kidsV [r]) :=
  fz_row (l := [r]) (enc := fun x _ => intV x) (d := 0) (List.mem_cons_self ..) rfl rfl (Nat.le_refl _) (fun i j hi hj => by
    obtain rfl : i = 0 := by simpa using hi
    exact .imm _)
theorem item_h (l : List Sg) (g p : Nat) (hk : KdOk l) (hne : l ≠ []) (hl : l.length ≤ 1000) (hp : p ≤ l.length) (hrec : ∀ p', p < p' → p' ≤ l.length → RsC 60 l 3 g p') : RsC 101 l 1 g p := by
  intro c g2 out ho
  refine hfun_of Tryz.func101 rfl (by kernel_rfl) _ _ _ _ rfl 113 rfl rfl (fun X ok hX => ?_)
  refine srg fun N h1 => ?_
  refine sta rfl rfl rfl ?_
  refine snl h1 ?_
  refine srg fun N h2 => ?_
  refine sta rfl rfl rfl ?_
  refine snl h2 ?_
  refine hw_seq (fun Nh3 h3 => ?_)
  refine srg fun N h4 => ?_
  refine stm rfl rfl rfl ?_
  refine st0 (hop_nilcheck_pt rfl) rfl rfl ?_
  refine st0 (hop_fa fd_112_0 rfl) rfl rfl ?_
  refine hq_ 8 (hop_funR (xs := [_]) (pre := [(9001, _), (9002, _)]) (kind_h g l p g2 out false hl hp) ⟨rfl, trivial⟩) rfl rfl (preC rfl (preC rfl pre0)) rfl rfl ?_
  refine snl h4 ?_
  refine hw_block ?_
  refine srg fun N h5 => ?_
  refine st0 (hop_eql rfl rfl) rfl rfl ?_
  refine sta rfl rfl rfl ?_
  refine snl h5 ?_
  refine hw_cond _ rfl (fun hc0 => ?_) (fun hc0 => ?_)
  · have hr0 := hc0; (try simp only [hcs, Int.reduceToNat] at hc0)
    have hlt := kd_lt (l := l) (i := p) (by rw [hc0]; decide)
    refine hw_seq (fun Nh6 h6 => ?_)
    refine hd_start ?_
    refine hd_q 15 (hop_move rfl) rfl rfl pre0 rfl rfl (k' := 1) rfl ?_
    refine hd_q 16 (hop_move rfl) rfl rfl pre0 rfl rfl (k' := 2) rfl ?_
    refine hd_q 17 (hop_nilcheck_pt rfl) rfl rfl pre0 rfl rfl (k' := 3) rfl ?_
    refine hd_q 18 (hop_fa fd_112_0 rfl) rfl rfl pre0 rfl rfl (k' := 4) rfl ?_
    refine hd_q 19 (hop_fa fd_110_0 rfl) rfl rfl pre0 rfl rfl (k' := 5) rfl ?_
    refine hd_q 20 (hol_load ty_105 rfl (nb rfl) (nb rfl) (fun h => (by rfl))) rfl rfl (pre1 rfl) rfl rfl (k' := 6) rfl ?_
    refine hd_q 21 (hop_move rfl) rfl rfl pre0 rfl rfl (k' := 7) rfl ?_
    refine hd_q 22 (hop_nilcheck_pt rfl) rfl rfl pre0 rfl rfl (k' := 8) rfl ?_
    refine hd_q 23 (hop_fa fd_112_0 rfl) rfl rfl pre0 rfl rfl (k' := 9) rfl ?_
    refine hd_q 24 (hop_fa fd_110_1 rfl) rfl rfl pre0 rfl rfl (k' := 10) rfl ?_
    refine hd_q 25 (hol_load ty_3 rfl (nb rfl) (nb rfl) (fun h => (by rfl))) rfl rfl (pre1 rfl) rfl rfl (k' := 11) rfl ?_
    refine hd_q 26 (hop_ia_sl el_105 rfl rfl (by omega) (by omega) (nb rfl)) rfl rfl pre0 rfl rfl (k' := 12) rfl ?_
    refine hd_q 27 (hop_fa_fp fd_113_4 rfl (nb rfl)) rfl rfl pre0 rfl rfl (k' := 13) rfl ?_
    refine hd_q 28 (hop_load_fp ty_9 rfl (nb rfl) (fun h => (by rfl))) rfl rfl pre0 rfl rfl (k' := 14) rfl ?_
    refine hd_q 29 (hop_build (hs := [(0, 1, _), (3, 1, _)]) st_29 rfl rfl ⟨rfl, rfl, rfl, rfl, rfl, ⟨rfl, rfl, rfl, rfl, rfl, trivial⟩⟩) rfl rfl pre0 rfl rfl (k' := 15) rfl ?_
    refine hd_cut (by kernel_rfl) (by kernel_rfl) (by kernel_rfl) (by kernel_rfl) (c' := c + 15) rfl ?_ (by simp)
    refine (hsub_shr 29 [] rfl pre0 rfl ((show Fz [] (.agg 5 _) (ptH ⟨1, 0, 0, (l.getD p default).name, []⟩) from fz_agg5 (.imm _) (.imm _) (.imm _) (.imm _) (.nil 0 1 _ (by decide) none)))).seq ?_
    refine hf_callR 30 (xs := [_, _]) (pre := [(9001, _), (9002, _)]) (lay_h _ g l p g2 _ false out ⟨1, 0, 0, (l.getD p default).name, []⟩ rfl (by omega)) ⟨rfl, ⟨rfl, trivial⟩⟩ (preC rfl (preC rfl pre0)) rfl rfl (fun g3 c1 hx1 => ?_)
    (try dsimp only)
    refine sta rfl rfl rfl ?_
    refine snl h6 ?_
    refine hw_region ?_
    refine stm rfl rfl rfl ?_
    refine st0 (hop_nilcheck_pt rfl) rfl rfl ?_
    refine st0 (hop_fa fd_112_0 rfl) rfl rfl ?_
    refine st0 (hop_fa fd_110_1 rfl) rfl rfl ?_
    refine st1 (hol_load ty_3 rfl (nb rfl) (nb rfl) (fun h => (by rfl))) rfl rfl rfl ?_
    refine st0 (hop_addi rfl rfl rfl (by omega) (by omega)) rfl rfl ?_
    refine st0 (hop_nilcheck_pt rfl) rfl rfl ?_
    refine st0 (hop_fa fd_112_0 rfl) rfl rfl ?_
    refine st0 (hop_fa fd_110_1 rfl) rfl rfl ?_
    refine hm_s1 (hol_store ty_3 rfl rfl rfl rfl (nb rfl) (nb rfl) (nb rfl)) rfl rfl (pre1 rfl) (c' := c1 + 1) rfl ?_
    refine hseq_nil ?_
    refine hq_block ?_
    refine h3 _ ?_
    refine hw_seq (fun Nh7 h7 => ?_)
    refine hw_seq (fun Nh8 h8 => ?_)
    refine (hsub_ob 9001 (erO g l (p + 1) g3 (out ++ [(⟨1, 0, 0, (l.getD p default).name, []⟩ : Pt)]).length false) rfl (by exact osub4 (.refl _) (sb_int (by omega)) (.refl _) (.refl _))).wp ?_
    refine hw_region ?_
    refine stm rfl rfl rfl ?_
    refine st0 (hop_nilcheck_pt rfl) rfl rfl ?_
    refine st0 (hop_fa fd_112_0 rfl) rfl rfl ?_
    refine hq_ 80 (hop_funR (xs := [_]) (pre := [(9001, _), (9002, _)]) (kind_h g l (p + 1) g3 (out ++ [(⟨1, 0, 0, (l.getD p default).name, []⟩ : Pt)]) false hl (by omega)) ⟨rfl, trivial⟩) rfl rfl (preC rfl (preC rfl pre0)) rfl rfl ?_
    refine st0 (hop_eql rfl rfl) rfl rfl ?_
    refine snl h8 ?_
    refine hw_cond _ rfl (fun hc3 => ?_) (fun hc3 => ?_)
    · have hr3 := hc3; (try simp only [hcs, Int.reduceToNat] at hc3)
      have hlt5 := kd_lt (l := l) (i := p + 1) (by rw [hc3]; decide)
      refine hw_seq (fun Nh9 h9 => ?_)
      refine hd_start ?_
      refine hd_q 82 (hop_move rfl) rfl rfl pre0 rfl rfl (k' := 1) rfl ?_
      refine hd_q 83 (hop_nilcheck_pt rfl) rfl rfl pre0 rfl rfl (k' := 2) rfl ?_
      refine hd_q 84 (hop_fa fd_112_0 rfl) rfl rfl pre0 rfl rfl (k' := 3) rfl ?_
      refine hd_q 85 (hop_fa fd_110_0 rfl) rfl rfl pre0 rfl rfl (k' := 4) rfl ?_
      refine hd_q 86 (hol_load ty_105 rfl (nb rfl) (nb rfl) (fun h => (by rfl))) rfl rfl (pre1 rfl) rfl rfl (k' := 5) rfl ?_
      refine hd_q 87 (hop_move rfl) rfl rfl pre0 rfl rfl (k' := 6) rfl ?_
      refine hd_q 88 (hop_nilcheck_pt rfl) rfl rfl pre0 rfl rfl (k' := 7) rfl ?_
      refine hd_q 89 (hop_fa fd_112_0 rfl) rfl rfl pre0 rfl rfl (k' := 8) rfl ?_
      refine hd_q 90 (hop_fa fd_110_1 rfl) rfl rfl pre0 rfl rfl (k' := 9) rfl ?_
      refine hd_q 91 (hol_load ty_3 rfl (nb rfl) (nb rfl) (fun h => (by rfl))) rfl rfl (pre1 rfl) rfl rfl (k' := 10) rfl ?_
      refine hd_q 92 (hop_ia_sl el_105 rfl rfl (by omega) (by omega) (nb rfl)) rfl rfl pre0 rfl rfl (k' := 11) rfl ?_
      refine hd_q 93 (hop_load_fp ty_113 rfl (nb rfl) (fun h => (by cases h))) rfl rfl pre0 rfl rfl (k' := 12) rfl ?_
      refine hd_1 4 (hop_alloc (id := 4) (sz := 5) zc_113 rfl rfl (nb rfl) (nb rfl)) rfl rfl pre0 rfl rfl (k' := 13) rfl ?_
      refine hd_s1 (hol_storeW ty_113 rfl rfl rfl rfl) rfl rfl (pre1 rfl) (k' := 14) rfl ?_
      refine hd_nil (by kernel_rfl) (by kernel_rfl) (c' := c1 + 15) rfl ?_
      refine h9 _ ?_
      refine srg fun N h10 => ?_
      refine stm rfl rfl rfl ?_
      refine st0 (hop_nilcheck_pt rfl) rfl rfl ?_
      refine st0 (hop_fa fd_112_0 rfl) rfl rfl ?_
      refine st0 (hop_fa fd_110_1 rfl) rfl rfl ?_
      refine st1 (hol_load ty_3 rfl (nb rfl) (nb rfl) (fun h => (by rfl))) rfl rfl rfl ?_
      refine st0 (hop_addi rfl rfl rfl (by omega) (by omega)) rfl rfl ?_
      refine st0 (hop_nilcheck_pt rfl) rfl rfl ?_
      refine st0 (hop_fa fd_112_0 rfl) rfl rfl ?_
      refine st0 (hop_fa fd_110_1 rfl) rfl rfl ?_
      refine hm_s1 (hol_store ty_3 rfl rfl rfl rfl (nb rfl) (nb rfl) (nb rfl)) rfl rfl (pre1 rfl) (c' := c1 + 16) rfl ?_
      refine snl h10 ?_
      refine (hsub_ob 9001 (erO g l (p + 2) g3 (out ++ [(⟨1, 0, 0, (l.getD p default).name, []⟩ : Pt)]).length false) rfl (by exact osub4 (.refl _) (sb_int (by omega)) (.refl _) (.refl _))).wp ?_
      refine hw_region ?_
      refine stm rfl rfl rfl ?_
      refine st0 (hop_fa fd_113_2 rfl) rfl rfl ?_
      refine st1 (hol_load ty_3 rfl (nb rfl) (nb rfl) (fun h => (by rfl))) rfl rfl rfl ?_
      refine st0 (hop_fa fd_113_3 rfl) rfl rfl ?_
      refine st1 (hol_load ty_3 rfl (nb rfl) (nb rfl) (fun h => (by rfl))) rfl rfl rfl ?_
      refine stm rfl rfl rfl ?_
      refine hm_1 109 (hop_buildSlice (id := 109) (hs := [_]) ei_25 (nb rfl) rfl (nb rfl) ⟨rfl, rfl, rfl, rfl, trivial⟩) rfl rfl pre0 rfl rfl (c' := c1 + 17) rfl ?_
      refine st0 (hop_build (hs := [(0, 1, _), (1, 1, _), (2, 1, _), (4, 1, _)]) st_29 rfl rfl ⟨rfl, rfl, rfl, rfl, rfl, ⟨rfl, rfl, rfl, rfl, rfl, ⟨rfl, rfl, rfl, rfl, rfl, ⟨rfl, rfl, rfl, rfl, rfl, trivial⟩⟩⟩⟩) rfl rfl ?_
      refine (hsub_shr 110 [(109, _)] rfl (preC rfl pre0) rfl ((show Fz _ (.agg 5 _) (ptH ⟨4, (l.getD (p + 1) default).low, (l.getD (p + 1) default).high, [], [(out.length : Int)]⟩) from fz_agg5 (.imm _) (.imm _) (.imm _) (.imm _) fz_one))).seq ?_
      refine hf_callR 111 (xs := [_, _]) (pre := [(9001, _), (9002, _)]) (lay_h _ g l (p + 2) g3 _ false (out ++ [(⟨1, 0, 0, (l.getD p default).name, []⟩ : Pt)]) ⟨4, (l.getD (p + 1) default).low, (l.getD (p + 1) default).high, [], [(out.length : Int)]⟩ rfl (by rw [List.length_append]; show out.length + 1 ≤ _; omega)) ⟨rfl, ⟨rfl, trivial⟩⟩ (preC rfl (preC rfl pre0)) rfl rfl (fun g4 c2 hx2 => ?_)
      (try dsimp only)
      refine sta rfl rfl rfl ?_
      refine snl h7 ?_
      refine srg fun N h11 => ?_
      refine stm rfl rfl rfl ?_
      refine sta rfl rfl rfl ?_
      refine snl h11 ?_
      refine hw_ret ?_
      refine hf_retR1 ok hX RetS.one rfl (rval_tmp rfl) [] rfl pre0 (⟨some _, _, g4, _, _⟩) (ok_name5 hc0 hc3) (by rfl) (by rfl) ((by first | exact .fz _ _ (.imm _) | exact .os _ _ _ _ _ rfl rfl | exact .pt _ _ _ _ _ rfl rfl | exact .nps _ _ _ rfl rfl | (dsimp only; exact .fz _ _ Frz.fz) | exact .fz _ _ (.tup 0 _ _ (fun i hi => absurd hi (Nat.not_lt_zero _))))) ?_
      exact ⟨⟨_, rfl, okz_er rfl rfl⟩, ⟨⟨_, rfl, okz_pts⟩, trivial⟩⟩
    have hr3 := hc3; (try simp only [hcs, Int.reduceToNat] at hc3)
    refine hw_skip ?_
    refine h7 _ ?_
    refine srg fun N h12 => ?_
    refine stm rfl rfl rfl ?_
    refine sta rfl rfl rfl ?_
    refine snl h12 ?_
    refine hw_ret ?_
    refine hf_retR1 ok hX RetS.one rfl (rval_tmp rfl) [] rfl pre0 (⟨some _, _, g3, _, _⟩) (ok_name hc0 hc3) (by rfl) (by rfl) ((by first | exact .fz _ _ (.imm _) | exact .os _ _ _ _ _ rfl rfl | exact .pt _ _ _ _ _ rfl rfl | exact .nps _ _ _ rfl rfl | (dsimp only; exact .fz _ _ Frz.fz) | exact .fz _ _ (.tup 0 _ _ (fun i hi => absurd hi (Nat.not_lt_zero _))))) ?_
    exact ⟨⟨_, rfl, okz_er rfl rfl⟩, ⟨⟨_, rfl, okz_pts⟩, trivial⟩⟩
  have hr0 := hc0; (try simp only [hcs, Int.reduceToNat] at hc0)
  refine srg fun N h13 => ?_
  refine st0 (hop_eql rfl rfl) rfl rfl ?_
  refine sta rfl rfl rfl ?_
  refine snl h13 ?_
  refine hw_cond _ rfl (fun hc1 => ?_) (fun hc1 => ?_)
  · have hr1 := hc1; (try simp only [hcs, Int.reduceToNat] at hc1)
    have hlt := kd_lt (l := l) (i := p) (by rw [hc1]; decide)
    refine srg fun N h14 => ?_
    refine stm rfl rfl rfl ?_
    refine st0 (hop_nilcheck_pt rfl) rfl rfl ?_
    refine st0 (hop_fa fd_112_0 rfl) rfl rfl ?_
    refine st0 (hop_fa fd_110_1 rfl) rfl rfl ?_
    refine st1 (hol_load ty_3 rfl (nb rfl) (nb rfl) (fun h => (by rfl))) rfl rfl rfl ?_
    refine st0 (hop_addi rfl rfl rfl (by omega) (by omega)) rfl rfl ?_
    refine st0 (hop_nilcheck_pt rfl) rfl rfl ?_
    refine st0 (hop_fa fd_112_0 rfl) rfl rfl ?_
    refine st0 (hop_fa fd_110_1 rfl) rfl rfl ?_
    refine hm_s1 (hol_store ty_3 rfl rfl rfl rfl (nb rfl) (nb rfl) (nb rfl)) rfl rfl (pre1 rfl) (c' := c + 1) rfl ?_
    refine snl h14 ?_
    refine hw_seq (fun Nh15 h15 => ?_)
    refine (hsub_ob 9001 (erO g l (p + 1) g2 out.length false) rfl (by exact osub4 (.refl _) (sb_int (by omega)) (.refl _) (.refl _))).wp ?_
    refine hw_region ?_
    refine stm rfl rfl rfl ?_
    refine hf_callR 52 (xs := [_]) (pre := [(9001, _), (9002, _)]) (hrec (p + 1) (by omega) (by omega) _ g2 out (by omega)) ⟨rfl, trivial⟩ (preC rfl (preC rfl pre0)) rfl rfl (fun x3 c3 hx => ?_)
    obtain ⟨t, q, g3, o3, r⟩ := x3
    (try dsimp only)
    refine sta rfl rfl rfl ?_
    refine snl h15 ?_
    refine hw_seq (fun Nh16 h16 => ?_)
    refine hw_seq (fun Nh17 h17 => ?_)
    have hle := rs_le hx; simp only at hle
    refine hw_region ?_
    refine stm rfl rfl rfl ?_
    refine st0 (hop_nilcheck_pt rfl) rfl rfl ?_
    refine st0 (hop_fa fd_112_2 rfl) rfl rfl ?_
    refine st1 (hol_load ty_4 rfl (nb rfl) (nb rfl) (fun h => (by rfl))) rfl rfl rfl ?_
    refine stm rfl rfl rfl ?_
    refine stg 57 (fun hb => hop_move rfl) rfl rfl rfl rfl rfl ?_
    refine stg 57 (fun hb => hop_nilcheck_pt rfl) rfl rfl rfl rfl rfl ?_
    refine stg 57 (fun hb => hop_fa fd_112_0 rfl) rfl rfl rfl rfl rfl ?_
    refine hq_g 61 4 57 false _ (fun hb => hop_funR (xs := [_]) (pre := [(9001, _), (9002, _)]) (kind_h g l q g3 o3 t.isNone hl hle.2.1) ⟨rfl, trivial⟩) rfl rfl rfl rfl (preC rfl (preC rfl pre0)) rfl rfl rfl ?_
    refine stg 57 (fun hb => hop_neq rfl rfl) rfl rfl rfl rfl rfl ?_
    refine hq_p 63 (hstep_or _ _ rfl rfl rfl) rfl rfl rfl ?_
    refine hseq_nilU (by rfl) (by simp only [dropUn, slots]; exact rfl) ?_
    refine h17 _ ?_
    refine hw_cond _ rfl (fun hc2 => ?_) (fun hc2 => ?_)
    · have hr2 := hc2; (try simp only [hcs, Int.reduceToNat] at hc2)
      refine srg fun N h18 => ?_
      refine stm rfl rfl rfl ?_
      refine st0 (hop_nilcheck_pt rfl) rfl rfl ?_
      refine st0 (hop_fa fd_112_2 rfl) rfl rfl ?_
      refine hm_s1 (hol_store ty_4 rfl rfl rfl rfl (nb rfl) (nb rfl) (nb rfl)) rfl rfl (pre1 rfl) (c' := c3 + 1) rfl ?_
      refine snl h18 ?_
      refine srg fun N h19 => ?_
      refine stm rfl rfl rfl ?_
      refine sta rfl rfl rfl ?_
      refine snl h19 ?_
      refine hw_ret ?_
      refine hq_then_ret ?_
      refine hq_block_ret ?_
      refine hq_then_ret ?_
      refine hf_retR1 ok hX RetS.one rfl (rval_tmp rfl) [] rfl pre0 (⟨none, q, g3, o3, r⟩) (ok_bad hk hx hc1 hc2) (by rfl) (by rfl) ((by first | exact .fz _ _ (.imm _) | exact .os _ _ _ _ _ rfl rfl | exact .pt _ _ _ _ _ rfl rfl | exact .nps _ _ _ rfl rfl | (dsimp only; exact .fz _ _ Frz.fz) | exact .fz _ _ (.tup 0 _ _ (fun i hi => absurd hi (Nat.not_lt_zero _))))) ?_
      exact ⟨⟨_, rfl, okz4 (.fz _ _ (show Fz [] (sgsV l) (sgsV l) from Frz.fz)) (by first | exact .fz _ _ (.imm _) | exact .os _ _ _ _ _ rfl rfl | exact .pt _ _ _ _ _ rfl rfl | exact .nps _ _ _ rfl rfl | (dsimp only; exact .fz _ _ Frz.fz) | exact .fz _ _ (.tup 0 _ _ (fun i hi => absurd hi (Nat.not_lt_zero _)))) (by first | exact .fz _ _ (.imm _) | exact .os _ _ _ _ _ rfl rfl | exact .pt _ _ _ _ _ rfl rfl | exact .nps _ _ _ rfl rfl | (dsimp only; exact .fz _ _ Frz.fz) | exact .fz _ _ (.tup 0 _ _ (fun i hi => absurd hi (Nat.not_lt_zero _)))) (by first | exact .fz _ _ (.imm _) | exact .os _ _ _ _ _ rfl rfl | exact .pt _ _ _ _ _ rfl rfl | exact .nps _ _ _ rfl rfl | (dsimp only; exact .fz _ _ Frz.fz) | exact .fz _ _ (.tup 0 _ _ (fun i hi => absurd hi (Nat.not_lt_zero _))))⟩, ⟨⟨_, rfl, okz_pts⟩, trivial⟩⟩
    have hr2 := hc2; (try simp only [hcs, Int.reduceToNat] at hc2)
    obtain ⟨tr, rfl⟩ : ∃ tr, t = some tr := (by cases t with | none => exact absurd hc2.1 (by simp) | some tr => exact ⟨tr, rfl⟩); have hk3 := hc2.2; have hlt3 := kd_lt (l := l) (i := q) (by rw [hk3]; decide)
    refine hw_skip ?_
    refine h16 _ ?_
    refine hw_region ?_
    refine stm rfl rfl rfl ?_
    refine st0 (hop_nilcheck_pt rfl) rfl rfl ?_
    refine st0 (hop_fa fd_112_0 rfl) rfl rfl ?_
    refine st0 (hop_fa fd_110_1 rfl) rfl rfl ?_
    refine st1 (hol_load ty_3 rfl (nb rfl) (nb rfl) (fun h => (by rfl))) rfl rfl rfl ?_
    refine st0 (hop_addi rfl rfl rfl (by omega) (by omega)) rfl rfl ?_
    refine st0 (hop_nilcheck_pt rfl) rfl rfl ?_
    refine st0 (hop_fa fd_112_0 rfl) rfl rfl ?_
    refine st0 (hop_fa fd_110_1 rfl) rfl rfl ?_
    refine hm_s1 (hol_store ty_3 rfl rfl rfl rfl (nb rfl) (nb rfl) (nb rfl)) rfl rfl (pre1 rfl) (c' := c3 + 1) rfl ?_
    refine hseq_nil ?_
    refine hq_block ?_
    refine h3 _ ?_
    refine hw_seq (fun Nh20 h20 => ?_)
    refine hw_seq (fun Nh21 h21 => ?_)
    refine (hsub_ob 9001 (erO g l (q + 1) g3 o3.length false) rfl (by exact osub4 (.refl _) (sb_int (by omega)) (.refl _) (.refl _))).wp ?_
    refine hw_region ?_
    refine stm rfl rfl rfl ?_
    refine st0 (hop_nilcheck_pt rfl) rfl rfl ?_
    refine st0 (hop_fa fd_112_0 rfl) rfl rfl ?_
    refine hq_ 80 (hop_funR (xs := [_]) (pre := [(9001, _), (9002, _)]) (kind_h g l (q + 1) g3 o3 false hl (by omega)) ⟨rfl, trivial⟩) rfl rfl (preC rfl (preC rfl pre0)) rfl rfl ?_
    refine st0 (hop_eql rfl rfl) rfl rfl ?_
    refine snl h21 ?_
    refine hw_cond _ rfl (fun hc3 => ?_) (fun hc3 => ?_)
    · have hr3 := hc3; (try simp only [hcs, Int.reduceToNat] at hc3)
      have hlt5 := kd_lt (l := l) (i := q + 1) (by rw [hc3]; decide)
      refine hw_seq (fun Nh22 h22 => ?_)
      refine hd_start ?_
      refine hd_q 82 (hop_move rfl) rfl rfl pre0 rfl rfl (k' := 1) rfl ?_
      refine hd_q 83 (hop_nilcheck_pt rfl) rfl rfl pre0 rfl rfl (k' := 2) rfl ?_
      refine hd_q 84 (hop_fa fd_112_0 rfl) rfl rfl pre0 rfl rfl (k' := 3) rfl ?_
      refine hd_q 85 (hop_fa fd_110_0 rfl) rfl rfl pre0 rfl rfl (k' := 4) rfl ?_
      refine hd_q 86 (hol_load ty_105 rfl (nb rfl) (nb rfl) (fun h => (by rfl))) rfl rfl (pre1 rfl) rfl rfl (k' := 5) rfl ?_
      refine hd_q 87 (hop_move rfl) rfl rfl pre0 rfl rfl (k' := 6) rfl ?_
      refine hd_q 88 (hop_nilcheck_pt rfl) rfl rfl pre0 rfl rfl (k' := 7) rfl ?_
      refine hd_q 89 (hop_fa fd_112_0 rfl) rfl rfl pre0 rfl rfl (k' := 8) rfl ?_
      refine hd_q 90 (hop_fa fd_110_1 rfl) rfl rfl pre0 rfl rfl (k' := 9) rfl ?_
      refine hd_q 91 (hol_load ty_3 rfl (nb rfl) (nb rfl) (fun h => (by rfl))) rfl rfl (pre1 rfl) rfl rfl (k' := 10) rfl ?_
      refine hd_q 92 (hop_ia_sl el_105 rfl rfl (by omega) (by omega) (nb rfl)) rfl rfl pre0 rfl rfl (k' := 11) rfl ?_
      refine hd_q 93 (hop_load_fp ty_113 rfl (nb rfl) (fun h => (by cases h))) rfl rfl pre0 rfl rfl (k' := 12) rfl ?_
      refine hd_1 4 (hop_alloc (id := 4) (sz := 5) zc_113 rfl rfl (nb rfl) (nb rfl)) rfl rfl pre0 rfl rfl (k' := 13) rfl ?_
      refine hd_s1 (hol_storeW ty_113 rfl rfl rfl rfl) rfl rfl (pre1 rfl) (k' := 14) rfl ?_
      refine hd_nil (by kernel_rfl) (by kernel_rfl) (c' := c3 + 15) rfl ?_
      refine h22 _ ?_
      refine srg fun N h23 => ?_
      refine stm rfl rfl rfl ?_
      refine st0 (hop_nilcheck_pt rfl) rfl rfl ?_
      refine st0 (hop_fa fd_112_0 rfl) rfl rfl ?_
      refine st0 (hop_fa fd_110_1 rfl) rfl rfl ?_
      refine st1 (hol_load ty_3 rfl (nb rfl) (nb rfl) (fun h => (by rfl))) rfl rfl rfl ?_
      refine st0 (hop_addi rfl rfl rfl (by omega) (by omega)) rfl rfl ?_
      refine st0 (hop_nilcheck_pt rfl) rfl rfl ?_
      refine st0 (hop_fa fd_112_0 rfl) rfl rfl ?_
      refine st0 (hop_fa fd_110_1 rfl) rfl rfl ?_
      refine hm_s1 (hol_store ty_3 rfl rfl rfl rfl (nb rfl) (nb rfl) (nb rfl)) rfl rfl (pre1 rfl) (c' := c3 + 16) rfl ?_
      refine snl h23 ?_
      refine (hsub_ob 9001 (erO g l (q + 2) g3 o3.length false) rfl (by exact osub4 (.refl _) (sb_int (by omega)) (.refl _) (.refl _))).wp ?_
      refine hw_region ?_
      refine stm rfl rfl rfl ?_
      refine st0 (hop_fa fd_113_2 rfl) rfl rfl ?_
      refine st1 (hol_load ty_3 rfl (nb rfl) (nb rfl) (fun h => (by rfl))) rfl rfl rfl ?_
      refine st0 (hop_fa fd_113_3 rfl) rfl rfl ?_
      refine st1 (hol_load ty_3 rfl (nb rfl) (nb rfl) (fun h => (by rfl))) rfl rfl rfl ?_
      refine stm rfl rfl rfl ?_
      refine hm_1 109 (hop_buildSlice (id := 109) (hs := [_]) ei_25 (nb rfl) rfl (nb rfl) ⟨rfl, rfl, rfl, rfl, trivial⟩) rfl rfl pre0 rfl rfl (c' := c3 + 17) rfl ?_
      refine st0 (hop_build (hs := [(0, 1, _), (1, 1, _), (2, 1, _), (4, 1, _)]) st_29 rfl rfl ⟨rfl, rfl, rfl, rfl, rfl, ⟨rfl, rfl, rfl, rfl, rfl, ⟨rfl, rfl, rfl, rfl, rfl, ⟨rfl, rfl, rfl, rfl, rfl, trivial⟩⟩⟩⟩) rfl rfl ?_
      refine (hsub_shr 110 [(109, _)] rfl (preC rfl pre0) rfl ((show Fz _ (.agg 5 _) (ptH ⟨4, (l.getD (q + 1) default).low, (l.getD (q + 1) default).high, [], [r]⟩) from fz_agg5 (.imm _) (.imm _) (.imm _) (.imm _) fz_one))).seq ?_
      refine hf_callR 111 (xs := [_, _]) (pre := [(9001, _), (9002, _)]) (lay_h _ g l (q + 2) g3 _ false o3 ⟨4, (l.getD (q + 1) default).low, (l.getD (q + 1) default).high, [], [r]⟩ rfl (by omega)) ⟨rfl, ⟨rfl, trivial⟩⟩ (preC rfl (preC rfl pre0)) rfl rfl (fun g4 c4 hx4 => ?_)
      (try dsimp only)
      refine sta rfl rfl rfl ?_
      refine snl h20 ?_
      refine srg fun N h24 => ?_
      refine stm rfl rfl rfl ?_
      refine sta rfl rfl rfl ?_
      refine snl h24 ?_
      refine hw_ret ?_
      refine hf_retR1 ok hX RetS.one rfl (rval_tmp rfl) [] rfl pre0 (⟨some _, _, g4, _, _⟩) (ok_group5 hx hc1 hk3 hc3) (by rfl) (by rfl) ((by first | exact .fz _ _ (.imm _) | exact .os _ _ _ _ _ rfl rfl | exact .pt _ _ _ _ _ rfl rfl | exact .nps _ _ _ rfl rfl | (dsimp only; exact .fz _ _ Frz.fz) | exact .fz _ _ (.tup 0 _ _ (fun i hi => absurd hi (Nat.not_lt_zero _))))) ?_
      exact ⟨⟨_, rfl, okz_er rfl rfl⟩, ⟨⟨_, rfl, okz_pts⟩, trivial⟩⟩
    have hr3 := hc3; (try simp only [hcs, Int.reduceToNat] at hc3)
    refine hw_skip ?_
    refine h20 _ ?_
    refine srg fun N h25 => ?_
    refine stm rfl rfl rfl ?_
    refine sta rfl rfl rfl ?_
    refine snl h25 ?_
    refine hw_ret ?_
    refine hf_retR1 ok hX RetS.one rfl (rval_tmp rfl) [] rfl pre0 (⟨some _, _, g3, _, _⟩) (ok_group hx hc1 hk3 hc3) (by rfl) (by rfl) ((by first | exact .fz _ _ (.imm _) | exact .os _ _ _ _ _ rfl rfl | exact .pt _ _ _ _ _ rfl rfl | exact .nps _ _ _ rfl rfl | (dsimp only; exact .fz _ _ Frz.fz) | exact .fz _ _ (.tup 0 _ _ (fun i hi => absurd hi (Nat.not_lt_zero _))))) ?_
    exact ⟨⟨_, rfl, okz_er rfl rfl⟩, ⟨⟨_, rfl, okz_pts⟩, trivial⟩⟩
  have hr1 := hc1; (try simp only [hcs, Int.reduceToNat] at hc1)
  refine srg fun N h26 => ?_
  refine stm rfl rfl rfl ?_
  refine st0 (hop_nilcheck_pt rfl) rfl rfl ?_
  refine st0 (hop_fa fd_112_2 rfl) rfl rfl ?_
  refine hm_s1 (hol_store ty_4 rfl rfl rfl rfl (nb rfl) (nb rfl) (nb rfl)) rfl rfl (pre1 rfl) (c' := c + 1) rfl ?_
  refine snl h26 ?_
  refine srg fun N h27 => ?_
  refine stm rfl rfl rfl ?_
  refine sta rfl rfl rfl ?_
  refine snl h27 ?_
  refine hw_ret ?_
  refine hq_block_ret ?_
  refine hq_then_ret ?_
  refine hf_retR1 ok hX RetS.one rfl (rval_tmp rfl) [] rfl pre0 (⟨none, p, g2, out, -1⟩) (⟨bad_first hne hp hc0 hc1, by simp⟩) (by rfl) (by rfl) ((by first | exact .fz _ _ (.imm _) | exact .os _ _ _ _ _ rfl rfl | exact .pt _ _ _ _ _ rfl rfl | exact .nps _ _ _ rfl rfl | (dsimp only; exact .fz _ _ Frz.fz) | exact .fz _ _ (.tup 0 _ _ (fun i hi => absurd hi (Nat.not_lt_zero _))))) ?_
  exact ⟨⟨_, rfl, okz4 (.fz _ _ (show Fz [] (sgsV l) (sgsV l) from Frz.fz)) (by first | exact .fz _ _ (.imm _) | exact .os _ _ _ _ _ rfl rfl | exact .pt _ _ _ _ _ rfl rfl | exact .nps _ _ _ rfl rfl | (dsimp only; exact .fz _ _ Frz.fz) | exact .fz _ _ (.tup 0 _ _ (fun i hi => absurd hi (Nat.not_lt_zero _)))) (by first | exact .fz _ _ (.imm _) | exact .os _ _ _ _ _ rfl rfl | exact .pt _ _ _ _ _ rfl rfl | exact .nps _ _ _ rfl rfl | (dsimp only; exact .fz _ _ Frz.fz) | exact .fz _ _ (.tup 0 _ _ (fun i hi => absurd hi (Nat.not_lt_zero _)))) (by first | exact .fz _ _ (.imm _) | exact .os _ _ _ _ _ rfl rfl | exact .pt _ _ _ _ _ rfl rfl | exact .nps _ _ _ rfl rfl | (dsimp only; exact .fz _ _ Frz.fz) | exact .fz _ _ (.tup 0 _ _ (fun i hi => absurd hi (Nat.not_lt_zero _))))⟩, ⟨⟨_, rfl, okz_pts⟩, trivial⟩⟩
/-- Where a row's loop stands. -/
def RowI (l : List Sg) (p : Nat) (out : List Pt) (bad : Bool) (q : Nat) (o : List Pt) (ks : List Int) : Prop :=
  (1 ≤ ks.length ∧ ks.length ≤ 2 * (q - p) + 1) ∧ p ≤ q ∧ q ≤ l.length ∧ match bad with
  | true => BadS l p q ∧ o.length + (if ks.length = 1 then 0 else 1) ≤ out.length + 2 * (q - p)
  | false => ∃ ts, Items l p q ts ∧ o = out ++ T.flatL out.length ts ∧ ks = rootsL out.length ts
theorem row_start {l : List Sg} {p q g : Nat} {out o : List Pt} {t : Option T} {r : Int} (h : RsOk l 1 p out ⟨t, q, g, o, r⟩) : RowI l p out t.isNone q o [r] := by
  have hle := rs_le h
  refine ⟨⟨Nat.le_refl _, by show 1 ≤ _; omega⟩, hle.1, hle.2.1, ?_⟩
  cases t with
  | none => exact ⟨h.1, h.2⟩
  | some t => exact ⟨[t], items_one h.1, by rw [show o = _ from h.2.1]; simp [T.flatL], by rw [show r = _ from h.2.2.1]; rfl⟩
theorem row_next {l : List Sg} {p q q' g : Nat} {out o o' : List Pt} {ks : List Int} {t : Option T} {r : Int} (h : RowI l p out false q o ks) (hk : kd l q = 1 ∨ kd l q = 2) (h2 : RsOk l 1 q o ⟨t, q', g, o', r⟩) : RowI l p out t.isNone q' o' (ks ++ [r]) := by
  have hle : q ≤ q' ∧ q' ≤ l.length ∧ o'.length ≤ o.length + 2 * (q' - q) := rs_le h2
  obtain ⟨h1, hpq, hql, ts, hi, ho, hks⟩ := h
  have hlt := items_lt hi
  have hol : o.length = out.length + T.sizeL ts := by rw [ho, List.length_append, T.flatL_len]
  have hkl : ks.length = ts.length := by rw [hks, rootsL_len]
  refine ⟨by rw [List.length_append]; show 1 ≤ ks.length + 1 ∧ ks.length + 1 ≤ _; omega, by omega, hle.2.1, ?_⟩
  cases t with
  | none =>
    refine ⟨bad_items hi hk h2.1, ?_⟩
    rw [if_neg (by rw [List.length_append]; show ¬ ks.length + 1 = 1; omega)]
    have := hi.1
    omega
  | some t =>
    refine ⟨ts ++ [t], items_snoc hi h2.1, ?_, ?_⟩
    · rw [show o' = _ from h2.2.1, ho, T.flatL_snoc, List.append_assoc, List.length_append, T.flatL_len]
    · rw [show r = _ from h2.2.2.1, hks, rootsL_snoc, hol]
theorem row_le {l : List Sg} {p q : Nat} {out o : List Pt} {ks : List Int} {bad : Bool} (h : RowI l p out bad q o ks) : o.length ≤ out.length + 2 * (q - p) := by
  obtain ⟨h1, hpq, hql, h⟩ := h
  cases bad with
  | true => have := h.2; omega
  | false =>
    obtain ⟨ts, hi, ho, hks⟩ := h
    have := items_lt hi
    rw [ho, List.length_append, T.flatL_len]; omega
theorem rs_meas {l : List Sg} {v q q' g : Nat} {o o' : List Pt} {t : Option T} {r : Int} (h : RsOk l v q o ⟨t, q', g, o', r⟩) : 2 * (l.length - q') + (if t.isNone then 0 else 1) < 2 * (l.length - q) + (if false then 0 else 1) := by
  have hle : q ≤ q' ∧ q' ≤ l.length ∧ o'.length ≤ o.length + 2 * (q' - q) := rs_le h
  cases t with
  | none => show _ + 0 < _ + 1; omega
  | some t => have := seg_lt h.1; show _ + 1 < _ + 1; simp only at this; omega
@[reducible] def manyP (k : Int) (out : List Pt) (ks : List Int) (y : Nat × List Pt × Int) : Prop := if ks.length = 1 then y.2 = (out, ks.getD 0 0) else y.2 = (out ++ [⟨k, 0, 0, [], ks⟩], (out.length : Int))
theorem many_le {l : List Sg} {p q : Nat} {out o : List Pt} {ks : List Int} {k : Int} {y : Nat × List Pt × Int} (hb : o.length + (if ks.length = 1 then 0 else 1) ≤ out.length + 2 * (q - p)) (hy : manyP k o ks y) : y.2.1.length ≤ out.length + 2 * (q - p) := by
  unfold manyP at hy
  split at hy
  · rename_i h1; rw [if_pos h1] at hb; rw [hy]; exact hb
  · rename_i h1; rw [if_neg h1] at hb; rw [hy]; simpa using hb
theorem row_done {l : List Sg} {p q : Nat} {out o : List Pt} {ks : List Int} {bad : Bool} (h : RowI l p out bad q o ks) (hk : bad = true ∨ (kd l q ≠ 1 ∧ kd l q ≠ 2)) : ∃ tt : Option T, tt.isNone = bad ∧ ∀ y, manyP 2 o ks y → RsOk l 2 p out ⟨tt, q, y.1, y.2.1, y.2.2⟩ := by
  obtain ⟨h1, hpq, hql, h⟩ := h
  cases bad with
  | true => exact ⟨none, rfl, fun y hy => ⟨h.1, many_le (l := l) h.2 hy⟩⟩
  | false =>
    obtain ⟨ts, hi, ho, hks⟩ := h
    have hk := hk.resolve_left (by simp)
    have hkl : ks.length = ts.length := by rw [hks, rootsL_len]
    by_cases h2 : ts.length = 1
    · match ts, h2 with
      | [t], _ =>
        refine ⟨some t, rfl, fun y hy => ?_⟩
        have hy : y.2 = (o, ks.getD 0 0) := by unfold manyP at hy; rwa [if_pos (by simpa using hkl)] at hy
        refine ⟨items_row1 hi, ?_, ?_, fun _ => hk, fun h => absurd h (by decide)⟩
        · show y.2.1 = _; rw [hy, ho]; simp [T.flatL]
        · show y.2.2 = _; rw [hy, hks]; rfl
    · refine ⟨some (.many 2 ts), rfl, fun y hy => ?_⟩
      have hy : y.2 = (o ++ [⟨2, 0, 0, [], ks⟩], (o.length : Int)) := by unfold manyP at hy; rwa [if_neg (by omega)] at hy
      refine ⟨items_row hi (by have := hi.1; omega), ?_, ?_, fun _ => hk, fun h => absurd h (by decide)⟩
      · show y.2.1 = _; rw [hy, ho, hks]; simp [T.flat]
      · show y.2.2 = _; rw [hy, ho]; simp [T.root, T.size, T.flatL_len]; omega
theorem row_h (l : List Sg) (g p : Nat) (hk : KdOk l) (hne : l ≠ []) (hl : l.length ≤ 1000) (hp : p ≤ l.length) (hitem : ∀ p', p ≤ p' → p' ≤ l.length → RsC 101 l 1 g p') : RsC 85 l 2 g p := by
  intro c g2 out ho
  refine hfun_of Tryz.func85 rfl (by kernel_rfl) _ _ _ _ rfl 34 rfl rfl (fun X ok hX => ?_)
  refine srg fun N h1 => ?_
  refine sta rfl rfl rfl ?_
  refine snl h1 ?_
  refine srg fun N h2 => ?_
  refine stm rfl rfl rfl ?_
  refine hf_callR 5 (xs := [_]) (pre := [(9001, _), (9002, _)]) (hitem p (Nat.le_refl _) hp _ g2 out ho) ⟨rfl, trivial⟩ (preC rfl (preC rfl pre0)) rfl rfl (fun x1 c1 hx => ?_)
  obtain ⟨t1, q1, g3, o3, r⟩ := x1
  (try dsimp only)
  refine hm_1 6 (hop_buildSlice (id := 6) (hs := [_]) ei_25 (nb rfl) rfl (nb rfl) ⟨rfl, rfl, rfl, rfl, trivial⟩) rfl rfl pre0 rfl rfl (c' := c1 + 1) rfl ?_
  refine sta rfl rfl rfl ?_
  refine snl h2 ?_
  refine hw_seq (fun Nh3 h3 => ?_)
  refine hw_block ?_
  refine hw_loopc (α := Bool × Nat × List Pt × List Int × Nat × Nat) (fun x c => ⟨34, [(0, .v (.pt 9001 g 0 0)), (3, .v (.os 6 x.2.2.2.2.2 0 x.2.2.2.1.length))], [(9001, erO g l x.2.1 x.2.2.2.2.1 x.2.2.1.length x.1), (9002, ptsO x.2.2.2.2.1 x.2.2.1), (6, ⟨x.2.2.2.2.2, x.2.2.2.1.length, 1, 3, 0, kidsF x.2.2.2.1⟩)], c⟩) (fun x => RowI l p out x.1 x.2.1 x.2.2.1 x.2.2.2.1) (fun x => 2 * (l.length - x.2.1) + (if x.1 then 0 else 1)) ((t1.isNone, q1, o3, [r], g3, c1)) (by exact row_start hx) (hsub_of rfl (Nat.le_refl _) (TmSub.cons rfl (Sb.refl _) (TmSub.cons rfl (Sb.refl _) TmSub.nil)) (HpSub.cons rfl (OSub.refl _) (HpSub.cons rfl (OSub.refl _) (HpSub.cons rfl (OSub.of fun i j hi hj => by obtain rfl : i = 0 := (by omega); exact .refl _) HpSub.nil)))) (fun x c hx NhL4 hL4 => ?_)
  revert hx hL4; obtain ⟨bad, q, o, ks, gg, gk⟩ := x; intro hx hL4; dsimp only at hx hL4 ⊢
  obtain ⟨hq1, hq2, hq3, hR⟩ := hx
  have hI : RowI l p out bad q o ks := ⟨hq1, hq2, hq3, hR⟩; have hol := row_le hI
  refine hw_seq (fun Nh5 h5 => ?_)
  refine srg fun N h6 => ?_
  refine stm rfl rfl rfl ?_
  refine st0 (hop_nilcheck_pt rfl) rfl rfl ?_
  refine st0 (hop_fa fd_112_2 rfl) rfl rfl ?_
  refine st1 (hol_load ty_4 rfl (nb rfl) (nb rfl) (fun h => (by rfl))) rfl rfl rfl ?_
  refine st0 (hop_not rfl) rfl rfl ?_
  refine stm rfl rfl rfl ?_
  refine stg 12 (fun hb => hop_move rfl) rfl rfl rfl rfl rfl ?_
  refine stg 12 (fun hb => hop_nilcheck_pt rfl) rfl rfl rfl rfl rfl ?_
  refine stg 12 (fun hb => hop_fa fd_112_0 rfl) rfl rfl rfl rfl rfl ?_
  refine hq_g 16 5 12 true _ (fun hb => hop_funR (xs := [_]) (pre := [(9001, _), (9002, _)]) (kind_h g l q gg o bad hl hI.2.2.1) ⟨rfl, trivial⟩) rfl rfl rfl rfl (preC rfl (preC rfl pre0)) rfl rfl rfl ?_
  refine stg 12 (fun hb => hop_eql rfl rfl) rfl rfl rfl rfl rfl ?_
  refine stg 12 (fun hb => hop_move rfl) rfl rfl rfl rfl rfl ?_
  refine hq_g3 19 11 18 12 true false _ _ (fun hb hb2 => hop_move rfl) rfl rfl rfl rfl rfl pre0 rfl rfl rfl ?_
  refine hq_g3 20 11 18 12 true false _ _ (fun hb hb2 => hop_nilcheck_pt rfl) rfl rfl rfl rfl rfl pre0 rfl rfl rfl ?_
  refine hq_g3 21 11 18 12 true false _ _ (fun hb hb2 => hop_fa fd_112_0 rfl) rfl rfl rfl rfl rfl pre0 rfl rfl rfl ?_
  refine hq_g3 22 11 18 12 true false _ _ (fun hb hb2 => hop_funR (xs := [_]) (pre := [(9001, _), (9002, _)]) (kind_h g l q gg o bad hl hI.2.2.1) ⟨rfl, trivial⟩) rfl rfl rfl rfl rfl (preC rfl (preC rfl pre0)) rfl rfl rfl ?_
  refine hq_g3 23 11 18 12 true false _ _ (fun hb hb2 => hop_eql rfl rfl) rfl rfl rfl rfl rfl pre0 rfl rfl rfl ?_
  refine hq_pg 24 (hstep_org (gi := 5) (j := 12) _ _ rfl rfl rfl rfl) rfl rfl rfl rfl ?_
  refine hq_p 25 (hstep_and _ _ rfl rfl rfl) rfl rfl rfl ?_
  refine hseq_nilU (by rfl) (by simp only [dropUn, slots]; exact rfl) ?_
  refine h6 _ ?_
  refine hw_cond _ rfl (fun hc0 => ?_) (fun hc0 => ?_)
  · have hr0 := hc0; (try simp only [hcs, Int.reduceToNat] at hc0)
    obtain ⟨rfl, hkq⟩ : bad = false ∧ (kd l q = 1 ∨ kd l q = 2) := (by cases bad with | true => exact absurd hr0 (by simp) | false => exact ⟨rfl, by simpa using hr0⟩)
    refine hw_skip ?_
    refine h5 _ ?_
    refine hw_block ?_
    refine hw_region ?_
    refine stm rfl rfl rfl ?_
    refine stm rfl rfl rfl ?_
    refine hf_callR 28 (xs := [_]) (pre := [(9001, _), (9002, _)]) (hitem q hI.2.1 hI.2.2.1 _ gg o (by omega)) ⟨rfl, trivial⟩ (preC rfl (preC rfl pre0)) rfl rfl (fun x2 c2 hx2 => ?_)
    obtain ⟨t, q', g4, o4, r'⟩ := x2
    (try dsimp only)
    refine hm_1 29 (hop_buildSlice (id := 29) (hs := [_]) ei_25 (nb rfl) rfl (nb rfl) ⟨rfl, rfl, rfl, rfl, trivial⟩) rfl rfl pre0 rfl rfl (c' := c2 + 1) rfl ?_
    refine hm_1 30 (hol_append ei_25 (nb rfl) rfl (by omega) (nb rfl) (srl_os0 rfl (nb rfl)) (by omega) rfl) rfl rfl (preC rfl (pre1 rfl)) rfl rfl (c' := c2 + 2) rfl ?_
    refine sta rfl rfl rfl ?_
    refine hseq_nil ?_
    refine hq_block ?_
    exact hL4 ((t.isNone, q', o4, ks ++ [r'], g4, c2 + 1)) _ _ (by (try dsimp only); exact row_next hI hkq hx2) (by (try dsimp only); exact rs_meas hx2) (hsub_of rfl (Nat.le_refl _) (TmSub.cons rfl (Sb.refl _) (TmSub.cons rfl (sb_os (by simp)) TmSub.nil)) (HpSub.cons rfl (OSub.refl _) (HpSub.cons rfl (OSub.refl _) (HpSub.cons rfl (osub_snoc (enc := fun x _ => intV x) (d := 0) rfl (fun i j _ _ => .refl _) (fun j hj => .refl _)) HpSub.nil))))
  have hr0 := hc0; (try simp only [hcs, Int.reduceToNat] at hc0)
  obtain ⟨tt, rfl, hdone⟩ := row_done hI (by cases bad with | true => exact .inl rfl | false => right; simpa using hr0)
  refine hw_exit ?_
  refine hq_then_exit ?_
  refine hq_then_exit ?_
  refine hq_block_here ?_
  refine h3 _ ?_
  refine srg fun N h7 => ?_
  refine stm rfl rfl rfl ?_
  refine stm rfl rfl rfl ?_
  refine (hsub_shr 32 [(6, _)] rfl (preC rfl pre0) rfl ((show Fz _ _ (kidsV ks) from fz_row (l := ks) (enc := fun x _ => intV x) (d := 0) (List.mem_cons_self ..) rfl rfl (Nat.le_refl _) (fun i j hi hj => .imm _)))).seq ?_
  refine hf_callR 33 (xs := [_, _, _]) (pre := [(9001, _), (9002, _)]) (many_h _ g l q gg _ tt.isNone o 2 ks rfl (by omega)) ⟨rfl, ⟨rfl, ⟨rfl, trivial⟩⟩⟩ (preC rfl (preC rfl pre0)) rfl rfl (fun x3 c3 hy => ?_)
  obtain ⟨g5, o5, r5⟩ := x3
  (try dsimp only)
  refine sta rfl rfl rfl ?_
  refine snl h7 ?_
  refine hw_ret ?_
  refine hf_retR1 ok hX RetS.one rfl (rval_tmp rfl) [] rfl pre0 (⟨tt, q, g5, o5, r5⟩) (hdone _ hy) (by rfl) (by rfl) ((by first | exact .fz _ _ (.imm _) | exact .os _ _ _ _ _ rfl rfl | exact .pt _ _ _ _ _ rfl rfl | exact .nps _ _ _ rfl rfl | (dsimp only; exact .fz _ _ Frz.fz) | exact .fz _ _ (.tup 0 _ _ (fun i hi => absurd hi (Nat.not_lt_zero _))))) ?_
  exact ⟨⟨_, rfl, okz_er rfl rfl⟩, ⟨⟨_, rfl, okz_pts⟩, trivial⟩⟩
end Go.Proofs.YtldjnmljnlhaaaaGreatDoor

namespace Go.Proofs.YtldjnmljnlhaaaaGreatDoor
set_option linter.unusedSimpArgs false
set_option linter.unusedVariables false
set_option maxRecDepth 100000
open Go.RowKit

theorem fz_int {sh : List (Nat × HObj)} {a b : Int} (h : a = b) : Fz sh (intV a) (intV b) := by subst h; exact .imm _
theorem refSmall_h (x : Int) : HPure Tryz.prog 92 [.imm (.int .u8 x)] (boolV (smallZ x)) := by
  refine hpure_of Tryz.func92 rfl (by kernel_rfl) _ _ _ rfl 9 rfl rfl (fun w F => ?_)
  refine srg fun N h1 => ?_
  refine sta rfl rfl rfl ?_
  refine snl h1 ?_
  refine srg fun N h2 => ?_
  refine stm rfl rfl rfl ?_
  refine st0 (hop_geq rfl rfl) rfl rfl ?_
  refine stm rfl rfl rfl ?_
  refine stg 5 (fun hb => hop_move rfl) rfl rfl rfl rfl rfl ?_
  refine stg 5 (fun hb => hop_leq rfl rfl) rfl rfl rfl rfl rfl ?_
  refine hq_p 8 (hstep_and _ _ rfl rfl rfl) rfl rfl rfl ?_
  refine sta rfl rfl rfl ?_
  refine hseq_nilU (by rfl) (by simp only [dropUn, slots]; exact rfl) ?_
  refine h2 _ ?_
  refine hw_ret ?_
  refine hq_ret1 rfl (rval_tmp rfl) [] rfl pre0 ?_
  exact Frz.fz
theorem refDigit_h (x : Int) : HPure Tryz.prog 93 [.imm (.int .u8 x)] (boolV (digitZ x)) := by
  refine hpure_of Tryz.func93 rfl (by kernel_rfl) _ _ _ rfl 9 rfl rfl (fun w F => ?_)
  refine srg fun N h1 => ?_
  refine sta rfl rfl rfl ?_
  refine snl h1 ?_
  refine srg fun N h2 => ?_
  refine stm rfl rfl rfl ?_
  refine st0 (hop_geq rfl rfl) rfl rfl ?_
  refine stm rfl rfl rfl ?_
  refine stg 5 (fun hb => hop_move rfl) rfl rfl rfl rfl rfl ?_
  refine stg 5 (fun hb => hop_leq rfl rfl) rfl rfl rfl rfl rfl ?_
  refine hq_p 8 (hstep_and _ _ rfl rfl rfl) rfl rfl rfl ?_
  refine sta rfl rfl rfl ?_
  refine hseq_nilU (by rfl) (by simp only [dropUn, slots]; exact rfl) ?_
  refine h2 _ ?_
  refine hw_ret ?_
  refine hq_ret1 rfl (rval_tmp rfl) [] rfl pre0 ?_
  exact Frz.fz
theorem refWrong_h (s : List UInt8) (p : Nat) : HPure Tryz.prog 105 [strV s, intV p] (t2 (intV (wrongV s p).1) (intV (wrongV s p).2)) := by
  refine hpure_of Tryz.func105 rfl (by kernel_rfl) _ _ _ rfl 13 rfl rfl (fun w F => ?_)
  refine srg fun N h1 => ?_
  refine sta rfl rfl rfl ?_
  refine sta rfl rfl rfl ?_
  refine snl h1 ?_
  refine hw_seq (fun Nh2 h2 => ?_)
  refine srg fun N h3 => ?_
  refine stm rfl rfl rfl ?_
  refine stm rfl rfl rfl ?_
  refine st0 (hop_len_strl (T := 9) rfl (by kernel_rfl) rfl) rfl rfl ?_
  refine st0 (hop_geq rfl rfl) rfl rfl ?_
  refine snl h3 ?_
  refine hw_cond _ rfl (fun hc0 => ?_) (fun hc0 => ?_)
  · have hr0 := hc0; (try simp only [hcs, Int.reduceToNat] at hc0)
    refine srg fun N h4 => ?_
    refine stm rfl rfl rfl ?_
    refine st0 (hop_len_strl (T := 9) rfl (by kernel_rfl) rfl) rfl rfl ?_
    refine sta rfl rfl rfl ?_
    refine sta rfl rfl rfl ?_
    refine snl h4 ?_
    refine hw_ret ?_
    refine hq_then_ret ?_
    refine hq_ret2 rfl (rval_tmp rfl) (rval_tmp rfl) [] rfl pre0 ?_
    have e : wrongV s p = ((s.length : Int), 5) := if_pos (by omega); rw [e]; exact fz_t2 (.imm _) (.imm _)
  have hr0 := hc0; (try simp only [hcs, Int.reduceToNat] at hc0)
  refine hw_skip ?_
  refine h2 _ ?_
  refine srg fun N h5 => ?_
  refine stm rfl rfl rfl ?_
  refine sta rfl rfl rfl ?_
  refine sta rfl rfl rfl ?_
  refine snl h5 ?_
  refine hw_ret ?_
  refine hq_ret2 rfl (rval_tmp rfl) (rval_tmp rfl) [] rfl pre0 ?_
  have e : wrongV s p = ((p : Int), 2) := if_neg (by omega); rw [e]; exact fz_t2 (.imm _) (.imm _)
@[reducible] def numLH (x : Option Int × Nat) : HV := t2 (intV (x.1.getD (-1))) (intV x.2)
theorem refNumber_h (s : List UInt8) (i : Nat) (hs : s.length ≤ 9223372036854775807) (hi : i ≤ s.length) : HPure Tryz.prog 104 [strV s, intV i] (numLH (numL s i)) := by
  refine hpure_of Tryz.func104 rfl (by kernel_rfl) _ _ _ rfl 62 rfl rfl (fun w F => ?_)
  refine srg fun N h1 => ?_
  refine sta rfl rfl rfl ?_
  refine sta rfl rfl rfl ?_
  refine snl h1 ?_
  refine hw_seq (fun Nh2 h2 => ?_)
  refine srg fun N h3 => ?_
  refine stm rfl rfl rfl ?_
  refine stm rfl rfl rfl ?_
  refine st0 (hop_len_strl (T := 9) rfl (by kernel_rfl) rfl) rfl rfl ?_
  refine st0 (hop_geq rfl rfl) rfl rfl ?_
  refine stm rfl rfl rfl ?_
  refine stg 11 (fun hb => hop_move rfl) rfl rfl rfl rfl rfl ?_
  refine stg 11 (fun hb => hop_move rfl) rfl rfl rfl rfl rfl ?_
  refine stg 11 (fun hb => hop_ix_strl (by kernel_rfl) rfl rfl (by (simp at hb; first | omega | (dsimp only; omega) | (simp <;> omega))) (by (simp at hb; first | omega | (dsimp only; omega) | (simp <;> omega)))) rfl rfl rfl rfl rfl ?_
  refine stg 11 (fun hb => hop_call0 (xs := [_]) (refDigit_h _) ⟨rfl, trivial⟩ ⟨(Fz.eq rfl), trivial⟩) rfl rfl rfl rfl rfl ?_
  refine stg 11 (fun hb => hop_not rfl) rfl rfl rfl rfl rfl ?_
  refine hq_p 17 (hstep_or _ _ rfl rfl rfl) rfl rfl rfl ?_
  refine hseq_nilU (by rfl) (by simp only [dropUn, slots]; exact rfl) ?_
  refine h3 _ ?_
  refine hw_cond _ rfl (fun hc0 => ?_) (fun hc0 => ?_)
  · have hr0 := hc0; (try simp only [hcs, Int.reduceToNat] at hc0)
    have d0 : digitZ (bz s i) = false := (by have h := hr0; rw [Int.toNat_natCast, bz_ndig] at h; simpa using h)
    refine srg fun N h4 => ?_
    refine stm rfl rfl rfl ?_
    refine sta rfl rfl rfl ?_
    refine sta rfl rfl rfl ?_
    refine snl h4 ?_
    refine hw_ret ?_
    refine hq_then_ret ?_
    refine hq_ret2 rfl (rval_tmp rfl) (rval_tmp rfl) [] rfl pre0 ?_
    rw [num_zero d0]; exact fz_t2 (.imm _) (.imm _)
  have hr0 := hc0; (try simp only [hcs, Int.reduceToNat] at hc0)
  have d0 : digitZ (bz s i) = true := (by have h := hr0; rw [Int.toNat_natCast, bz_ndig] at h; simpa using h); have hil := digit_lt d0; have dz := digit_iff.1 d0
  refine hw_skip ?_
  refine h2 _ ?_
  refine srg fun N h5 => ?_
  refine stm rfl rfl rfl ?_
  refine stm rfl rfl rfl ?_
  refine st0 (HOp.val (v' := .imm (.int .u8 (bz s i))) (hop_ix_strl (by kernel_rfl) rfl rfl (by omega) (by omega)) (by rw [bz_in hil, Int.toNat_natCast])) rfl rfl ?_
  refine st0 (hop_subk wok_u8 rfl rfl rfl (by omega) (by omega)) rfl rfl ?_
  refine st0 (hop_convk wok_i64 (by kernel_rfl) (by kernel_rfl) rfl (by omega) (by omega)) rfl rfl ?_
  refine sta rfl rfl rfl ?_
  refine snl h5 ?_
  refine srg fun N h6 => ?_
  refine stm rfl rfl rfl ?_
  refine st0 (HOp.val (v' := intV ((i + 1 : Nat) : Int)) (hop_addi rfl rfl rfl (by omega) (by omega)) (rfl)) rfl rfl ?_
  refine sta rfl rfl rfl ?_
  refine snl h6 ?_
  refine hw_seq (fun Nh7 h7 => ?_)
  refine srg fun N h8 => ?_
  refine stm rfl rfl rfl ?_
  refine stm rfl rfl rfl ?_
  refine st0 (hop_len_strl (T := 9) rfl (by kernel_rfl) rfl) rfl rfl ?_
  refine st0 (hop_lss rfl rfl) rfl rfl ?_
  refine stm rfl rfl rfl ?_
  refine stg 30 (fun hb => hop_move rfl) rfl rfl rfl rfl rfl ?_
  refine stg 30 (fun hb => hop_move rfl) rfl rfl rfl rfl rfl ?_
  refine stg 30 (fun hb => hop_ix_strl (by kernel_rfl) rfl rfl (by (simp at hb; first | omega | (dsimp only; omega) | (simp <;> omega))) (by (simp at hb; first | omega | (dsimp only; omega) | (simp <;> omega)))) rfl rfl rfl rfl rfl ?_
  refine stg 30 (fun hb => hop_call0 (xs := [_]) (refDigit_h _) ⟨rfl, trivial⟩ ⟨(Fz.eq rfl), trivial⟩) rfl rfl rfl rfl rfl ?_
  refine hq_p 35 (hstep_and _ _ rfl rfl rfl) rfl rfl rfl ?_
  refine hseq_nilU (by rfl) (by simp only [dropUn, slots]; exact rfl) ?_
  refine h8 _ ?_
  refine hw_cond _ rfl (fun hc1 => ?_) (fun hc1 => ?_)
  · have hr1 := hc1; (try simp only [hcs, Int.reduceToNat] at hc1)
    have d1 : digitZ (bz s (i + 1)) = true := (by have h := hr1; rw [Int.toNat_natCast, ← bz_dig] at h; exact h); have hil2 := digit_lt d1; have dz1 := digit_iff.1 d1
    refine hw_seq (fun Nh9 h9 => ?_)
    refine srg fun N h10 => ?_
    refine stm rfl rfl rfl ?_
    refine st0 (hop_eql rfl rfl) rfl rfl ?_
    refine snl h10 ?_
    refine hw_cond _ rfl (fun hc2 => ?_) (fun hc2 => ?_)
    · have hr2 := hc2; (try simp only [hcs, Int.reduceToNat] at hc2)
      refine srg fun N h11 => ?_
      refine stm rfl rfl rfl ?_
      refine sta rfl rfl rfl ?_
      refine sta rfl rfl rfl ?_
      refine snl h11 ?_
      refine hw_ret ?_
      refine hq_then_ret ?_
      refine hq_then_ret ?_
      refine hq_ret2 rfl (rval_tmp rfl) (rval_tmp rfl) [] rfl pre0 ?_
      have e : numL s i = (none, i + 1) := (by unfold numL; rw [if_pos d0, if_pos d1, if_pos (by omega)]); rw [e]; exact fz_t2 (.imm _) (.imm _)
    have hr2 := hc2; (try simp only [hcs, Int.reduceToNat] at hc2)
    refine hw_skip ?_
    refine h9 _ ?_
    refine srg fun N h12 => ?_
    refine stm rfl rfl rfl ?_
    refine st0 (hop_muli rfl rfl rfl (by omega) (by omega)) rfl rfl ?_
    refine stm rfl rfl rfl ?_
    refine stm rfl rfl rfl ?_
    refine st0 (HOp.val (v' := .imm (.int .u8 (bz s (i + 1)))) (hop_ix_strl (by kernel_rfl) rfl rfl (by omega) (by omega)) (by rw [bz_in hil2, Int.toNat_natCast])) rfl rfl ?_
    refine st0 (hop_subk wok_u8 rfl rfl rfl (by omega) (by omega)) rfl rfl ?_
    refine st0 (hop_convk wok_i64 (by kernel_rfl) (by kernel_rfl) rfl (by omega) (by omega)) rfl rfl ?_
    refine st0 (hop_addi rfl rfl rfl (by omega) (by omega)) rfl rfl ?_
    refine sta rfl rfl rfl ?_
    refine snl h12 ?_
    refine srg fun N h13 => ?_
    refine stm rfl rfl rfl ?_
    refine st0 (HOp.val (v' := intV ((i + 2 : Nat) : Int)) (hop_addi rfl rfl rfl (by omega) (by omega)) (rfl)) rfl rfl ?_
    refine sta rfl rfl rfl ?_
    refine snl h13 ?_
    refine srg fun N h14 => ?_
    refine stm rfl rfl rfl ?_
    refine stm rfl rfl rfl ?_
    refine st0 (hop_len_strl (T := 9) rfl (by kernel_rfl) rfl) rfl rfl ?_
    refine st0 (hop_lss rfl rfl) rfl rfl ?_
    refine stm rfl rfl rfl ?_
    refine stg 53 (fun hb => hop_move rfl) rfl rfl rfl rfl rfl ?_
    refine stg 53 (fun hb => hop_move rfl) rfl rfl rfl rfl rfl ?_
    refine stg 53 (fun hb => hop_ix_strl (by kernel_rfl) rfl rfl (by (simp at hb; first | omega | (dsimp only; omega) | (simp <;> omega))) (by (simp at hb; first | omega | (dsimp only; omega) | (simp <;> omega)))) rfl rfl rfl rfl rfl ?_
    refine stg 53 (fun hb => hop_call0 (xs := [_]) (refDigit_h _) ⟨rfl, trivial⟩ ⟨(Fz.eq rfl), trivial⟩) rfl rfl rfl rfl rfl ?_
    refine hq_p 58 (hstep_and _ _ rfl rfl rfl) rfl rfl rfl ?_
    refine hseq_nilU (by rfl) (by simp only [dropUn, slots]; exact rfl) ?_
    refine h14 _ ?_
    refine hw_cond _ rfl (fun hc3 => ?_) (fun hc3 => ?_)
    · have hr3 := hc3; (try simp only [hcs, Int.reduceToNat] at hc3)
      have d2 : digitZ (bz s (i + 2)) = true := (by have h := hr3; rw [Int.toNat_natCast, ← bz_dig] at h; exact h)
      refine srg fun N h15 => ?_
      refine stm rfl rfl rfl ?_
      refine sta rfl rfl rfl ?_
      refine sta rfl rfl rfl ?_
      refine snl h15 ?_
      refine hw_ret ?_
      refine hq_then_ret ?_
      refine hq_ret2 rfl (rval_tmp rfl) (rval_tmp rfl) [] rfl pre0 ?_
      have e : numL s i = (none, i + 2) := (by unfold numL; rw [if_pos d0, if_pos d1, if_neg (by omega), if_pos d2]); rw [e]; exact fz_t2 (.imm _) (.imm _)
    have hr3 := hc3; (try simp only [hcs, Int.reduceToNat] at hc3)
    have d2 : digitZ (bz s (i + 2)) = false := (by have h := hr3; rw [Int.toNat_natCast, ← bz_dig] at h; exact h)
    refine hw_skip ?_
    refine h7 _ ?_
    refine srg fun N h16 => ?_
    refine stm rfl rfl rfl ?_
    refine stm rfl rfl rfl ?_
    refine sta rfl rfl rfl ?_
    refine sta rfl rfl rfl ?_
    refine snl h16 ?_
    refine hw_ret ?_
    refine hq_ret2 rfl (rval_tmp rfl) (rval_tmp rfl) [] rfl pre0 ?_
    have e : numL s i = (some (10 * (bz s i - 48) + (bz s (i + 1) - 48)), i + 2) := (by unfold numL; rw [if_pos d0, if_pos d1, if_neg (by omega), if_neg (by rw [d2]; decide)]); rw [e]; exact fz_t2 (.imm _) (.imm _)
  have hr1 := hc1; (try simp only [hcs, Int.reduceToNat] at hc1)
  have d1 : digitZ (bz s (i + 1)) = false := (by have h := hr1; rw [Int.toNat_natCast, ← bz_dig] at h; exact h)
  refine hw_skip ?_
  refine h7 _ ?_
  refine srg fun N h17 => ?_
  refine stm rfl rfl rfl ?_
  refine stm rfl rfl rfl ?_
  refine sta rfl rfl rfl ?_
  refine sta rfl rfl rfl ?_
  refine snl h17 ?_
  refine hw_ret ?_
  refine hq_ret2 rfl (rval_tmp rfl) (rval_tmp rfl) [] rfl pre0 ?_
  have e : numL s i = (some (bz s i - 48), i + 1) := (by unfold numL; rw [if_pos d0, if_neg (by rw [d1]; decide)]); rw [e]; exact fz_t2 (.imm _) (.imm _)
theorem refNum {s : List UInt8} {i : Nat} {x : Option Int × Nat} (hs : s.length ≤ 9223372036854775807) (hi : i ≤ s.length) (h : numL s i = x) : HPure Tryz.prog 104 [strV s, intV i] (numLH x) := h ▸ refNumber_h s i hs hi
@[reducible] def oneH (x : Sg × Int × Int) : HV := t3 (sgH x.1) (intV x.2.1) (intV x.2.2)
theorem refCount_h (s : List UInt8) (i : Nat) (hs : s.length ≤ 9223372036854775807) (hi : i < s.length) : HPure Tryz.prog 94 [strV s, intV i] (oneH (countF s i)) := by
  refine hpure_of Tryz.func94 rfl (by kernel_rfl) _ _ _ rfl 143 rfl rfl (fun w F => ?_)
  refine srg fun N h1 => ?_
  refine hm_1 4 (hop_alloc (id := 4) (sz := 5) zc_80 rfl rfl (nb rfl) (nb rfl)) rfl rfl pre0 rfl rfl (c' := 1) rfl ?_
  refine sta rfl rfl rfl ?_
  refine sta rfl rfl rfl ?_
  refine snl h1 ?_
  refine srg fun N h2 => ?_
  refine stm rfl rfl rfl ?_
  refine st0 (hop_build (hs := [(0, 1, _), (1, 1, _)]) st_80 rfl rfl ⟨rfl, rfl, rfl, rfl, rfl, ⟨rfl, rfl, rfl, rfl, rfl, trivial⟩⟩) rfl rfl ?_
  refine hm_1 7 (hop_alloc (id := 7) (sz := 5) zc_80 rfl rfl (nb rfl) (nb rfl)) rfl rfl pre0 rfl rfl (c' := 2) rfl ?_
  refine hm_s1 (hol_storeW ty_80 rfl rfl rfl rfl) rfl rfl (pre1 rfl) (c' := 3) rfl ?_
  refine snl h2 ?_
  refine hw_seq (fun Nh3 h3 => ?_)
  rcases hn : numL s (i + 1) with ⟨_ | n, p⟩
  · skip
    refine hw_region ?_
    refine stm rfl rfl rfl ?_
    refine stm rfl rfl rfl ?_
    refine st0 (HOp.val (v' := intV ((i + 1 : Nat) : Int)) (hop_addi rfl rfl rfl (by omega) (by omega)) (rfl)) rfl rfl ?_
    refine st0 (hop_call0 (xs := [_, _]) (refNum hs hi hn) ⟨rfl, ⟨rfl, trivial⟩⟩ ⟨(Fz.eq rfl), ⟨(Fz.eq rfl), trivial⟩⟩) rfl rfl ?_
    refine stm rfl rfl rfl ?_
    refine st0 (HOp.val (v' := intV (-1)) (hop_extract rfl rfl) (rfl)) rfl rfl ?_
    refine st0 (HOp.val (v' := intV p) (hop_extract rfl rfl) (rfl)) rfl rfl ?_
    refine sta rfl rfl rfl ?_
    refine sta rfl rfl rfl ?_
    refine snl h3 ?_
    refine hw_seq (fun Nh4 h4 => ?_)
    refine hw_seq (fun Nh5 h5 => ?_)
    have hnp := numL_le (by omega) hn
    refine hw_region ?_
    refine stm rfl rfl rfl ?_
    refine st0 (hop_lss rfl rfl) rfl rfl ?_
    refine snl h5 ?_
    refine hw_cond _ rfl (fun hc0 => ?_) (fun hc0 => ?_)
    · have hr0 := hc0; (try simp only [hcs, Int.reduceToNat] at hc0)
      refine srg fun N h6 => ?_
      refine stm rfl rfl rfl ?_
      refine stm rfl rfl rfl ?_
      refine st0 (hop_call0 (xs := [_, _]) (refWrong_h s p) ⟨rfl, ⟨rfl, trivial⟩⟩ ⟨(Fz.eq rfl), ⟨(Fz.eq rfl), trivial⟩⟩) rfl rfl ?_
      refine stm rfl rfl rfl ?_
      refine st0 (hop_extract rfl rfl) rfl rfl ?_
      refine st0 (hop_extract rfl rfl) rfl rfl ?_
      refine sta rfl rfl rfl ?_
      refine sta rfl rfl rfl ?_
      refine snl h6 ?_
      refine srg fun N h7 => ?_
      refine st1 (hol_load ty_80 rfl (nb rfl) (nb rfl) (fun h => (by cases h))) rfl rfl rfl ?_
      refine stm rfl rfl rfl ?_
      refine stm rfl rfl rfl ?_
      refine hm_s1 (hol_storeW ty_80 rfl rfl rfl rfl) rfl rfl (pre1 rfl) (c' := 4) rfl ?_
      refine sta rfl rfl rfl ?_
      refine sta rfl rfl rfl ?_
      refine snl h7 ?_
      refine hw_ret ?_
      refine hq_then_ret ?_
      refine hq_ret3 rfl (rvl_cell rfl rfl ty_80 (fun h => by first | rfl | cases h) rfl rfl) (rval_tmp rfl) (rval_tmp rfl) [] rfl pre0 ?_
      have e : countF s i = (⟨5, i, 0, 0, []⟩, wrongV s p) := (by unfold countF; rw [hn]); rw [e]; exact fz_t3 (fz_agg5 (by first | exact .imm _ | exact .nil _ _ _ (by decide) _ | exact fz_toks _ | exact fz_mkss _ | exact Frz.fz) (by first | exact .imm _ | exact .nil _ _ _ (by decide) _ | exact fz_toks _ | exact fz_mkss _ | exact Frz.fz) (by first | exact .imm _ | exact .nil _ _ _ (by decide) _ | exact fz_toks _ | exact fz_mkss _ | exact Frz.fz) (by first | exact .imm _ | exact .nil _ _ _ (by decide) _ | exact fz_toks _ | exact fz_mkss _ | exact Frz.fz) (by first | exact .imm _ | exact .nil _ _ _ (by decide) _ | exact fz_toks _ | exact fz_mkss _ | exact Frz.fz)) (.imm _) (.imm _)
    have hr0 := hc0; (try simp only [hcs, Int.reduceToNat] at hc0)
    exfalso; exact absurd hr0 (by simp)
  · skip
    refine hw_region ?_
    refine stm rfl rfl rfl ?_
    refine stm rfl rfl rfl ?_
    refine st0 (HOp.val (v' := intV ((i + 1 : Nat) : Int)) (hop_addi rfl rfl rfl (by omega) (by omega)) (rfl)) rfl rfl ?_
    refine st0 (hop_call0 (xs := [_, _]) (refNum hs hi hn) ⟨rfl, ⟨rfl, trivial⟩⟩ ⟨(Fz.eq rfl), ⟨(Fz.eq rfl), trivial⟩⟩) rfl rfl ?_
    refine stm rfl rfl rfl ?_
    refine st0 (HOp.val (v' := intV n) (hop_extract rfl rfl) (rfl)) rfl rfl ?_
    refine st0 (HOp.val (v' := intV p) (hop_extract rfl rfl) (rfl)) rfl rfl ?_
    refine sta rfl rfl rfl ?_
    refine sta rfl rfl rfl ?_
    refine snl h3 ?_
    refine hw_seq (fun Nh8 h8 => ?_)
    refine hw_seq (fun Nh9 h9 => ?_)
    have hnp := numL_le (by omega) hn
    refine hw_region ?_
    refine stm rfl rfl rfl ?_
    refine st0 (hop_lss rfl rfl) rfl rfl ?_
    refine snl h9 ?_
    refine hw_cond _ rfl (fun hc0 => ?_) (fun hc0 => ?_)
    · have hr0 := hc0; (try simp only [hcs, Int.reduceToNat] at hc0)
      exfalso; have := hnp.2.2 n rfl; omega
    have hr0 := hc0; (try simp only [hcs, Int.reduceToNat] at hc0)
    refine hw_skip ?_
    refine h8 _ ?_
    refine hw_seq (fun Nh10 h10 => ?_)
    refine srg fun N h11 => ?_
    refine stm rfl rfl rfl ?_
    refine st0 (hop_gtr rfl rfl) rfl rfl ?_
    refine stm rfl rfl rfl ?_
    refine stg 41 (fun hb => hop_move rfl) rfl rfl rfl rfl rfl ?_
    refine stg 41 (fun hb => hop_eql rfl rfl) rfl rfl rfl rfl rfl ?_
    refine stg 41 (fun hb => hop_move rfl) rfl rfl rfl rfl rfl ?_
    refine hq_g3 45 5 44 41 false true _ _ (fun hb hb2 => hop_move rfl) rfl rfl rfl rfl rfl pre0 rfl rfl rfl ?_
    refine hq_g3 46 5 44 41 false true _ _ (fun hb hb2 => hop_move rfl) rfl rfl rfl rfl rfl pre0 rfl rfl rfl ?_
    refine hq_g3 47 5 44 41 false true _ _ (fun hb hb2 => hop_len_strl (T := 9) rfl (by kernel_rfl) rfl) rfl rfl rfl rfl rfl pre0 rfl rfl rfl ?_
    refine hq_g3 48 5 44 41 false true _ _ (fun hb hb2 => hop_lss rfl rfl) rfl rfl rfl rfl rfl pre0 rfl rfl rfl ?_
    refine hq_pg 49 (hstep_andg (gi := 2) (j := 41) _ _ rfl rfl rfl rfl) rfl rfl rfl rfl ?_
    refine stg 41 (fun hb => hop_move rfl) rfl rfl rfl rfl rfl ?_
    refine hq_g3 51 11 50 41 false true _ _ (fun hb hb2 => hop_move rfl) rfl rfl rfl rfl rfl pre0 rfl rfl rfl ?_
    refine hq_g3 52 11 50 41 false true _ _ (fun hb hb2 => hop_move rfl) rfl rfl rfl rfl rfl pre0 rfl rfl rfl ?_
    refine hq_g3 53 11 50 41 false true _ _ (fun hb hb2 => hop_ix_strl (by kernel_rfl) rfl rfl (by simp at hb; omega) (by simp at hb; omega)) rfl rfl rfl rfl rfl pre0 rfl rfl rfl ?_
    refine hq_g3 54 11 50 41 false true _ _ (fun hb hb2 => hop_eql rfl rfl) rfl rfl rfl rfl rfl pre0 rfl rfl rfl ?_
    refine hq_pg 55 (hstep_andg (gi := 2) (j := 41) _ _ rfl rfl rfl rfl) rfl rfl rfl rfl ?_
    refine hq_p 56 (hstep_or _ _ rfl rfl rfl) rfl rfl rfl ?_
    refine hseq_nilU (by rfl) (by simp only [dropUn, slots]; exact rfl) ?_
    refine h11 _ ?_
    refine hw_cond _ rfl (fun hc1 => ?_) (fun hc1 => ?_)
    · have hr1 := hc1; (try simp only [hcs, Int.reduceToNat] at hc1)
      have h1 : 20 < n ∨ (n = 0 ∧ bz s p = 125) := (by have h := hr1; rw [Int.toNat_natCast, cnt_bad] at h; exact of_decide_eq_true h)
      refine srg fun N h12 => ?_
      refine st1 (hol_load ty_80 rfl (nb rfl) (nb rfl) (fun h => (by cases h))) rfl rfl rfl ?_
      refine stm rfl rfl rfl ?_
      refine st0 (hop_addi rfl rfl rfl (by omega) (by omega)) rfl rfl ?_
      refine hm_s1 (hol_storeW ty_80 rfl rfl rfl rfl) rfl rfl (pre1 rfl) (c' := 4) rfl ?_
      refine sta rfl rfl rfl ?_
      refine sta rfl rfl rfl ?_
      refine snl h12 ?_
      refine hw_ret ?_
      refine hq_then_ret ?_
      refine hq_ret3 rfl (rvl_cell rfl rfl ty_80 (fun h => by first | rfl | cases h) rfl rfl) (rval_tmp rfl) (rval_tmp rfl) [] rfl pre0 ?_
      have e : countF s i = (⟨5, i, 0, 0, []⟩, ((i + 1 : Nat) : Int), 3) := (by unfold countF; rw [hn]; simp only; rw [if_pos h1]); rw [e]; exact fz_t3 (fz_agg5 (by first | exact .imm _ | exact .nil _ _ _ (by decide) _ | exact fz_toks _ | exact fz_mkss _ | exact Frz.fz) (by first | exact .imm _ | exact .nil _ _ _ (by decide) _ | exact fz_toks _ | exact fz_mkss _ | exact Frz.fz) (by first | exact .imm _ | exact .nil _ _ _ (by decide) _ | exact fz_toks _ | exact fz_mkss _ | exact Frz.fz) (by first | exact .imm _ | exact .nil _ _ _ (by decide) _ | exact fz_toks _ | exact fz_mkss _ | exact Frz.fz) (by first | exact .imm _ | exact .nil _ _ _ (by decide) _ | exact fz_toks _ | exact fz_mkss _ | exact Frz.fz)) (.imm _) (.imm _)
    have hr1 := hc1; (try simp only [hcs, Int.reduceToNat] at hc1)
    have h1 : ¬ (20 < n ∨ (n = 0 ∧ bz s p = 125)) := (by have h := hr1; rw [Int.toNat_natCast, cnt_bad] at h; exact of_decide_eq_false h)
    refine hw_skip ?_
    refine h10 _ ?_
    refine srg fun N h13 => ?_
    refine stm rfl rfl rfl ?_
    refine st0 (hop_fa fd_80_2 rfl) rfl rfl ?_
    refine hm_s1 (hol_store ty_3 rfl rfl rfl rfl (nb rfl) (nb rfl) (nb rfl)) rfl rfl (pre1 rfl) (c' := 4) rfl ?_
    refine snl h13 ?_
    refine srg fun N h14 => ?_
    refine stm rfl rfl rfl ?_
    refine st0 (hop_fa fd_80_3 rfl) rfl rfl ?_
    refine hm_s1 (hol_store ty_3 rfl rfl rfl rfl (nb rfl) (nb rfl) (nb rfl)) rfl rfl (pre1 rfl) (c' := 5) rfl ?_
    refine snl h14 ?_
    refine hw_seq (fun Nh15 h15 => ?_)
    refine srg fun N h16 => ?_
    refine stm rfl rfl rfl ?_
    refine stm rfl rfl rfl ?_
    refine st0 (hop_len_strl (T := 9) rfl (by kernel_rfl) rfl) rfl rfl ?_
    refine st0 (hop_lss rfl rfl) rfl rfl ?_
    refine stm rfl rfl rfl ?_
    refine stg 68 (fun hb => hop_move rfl) rfl rfl rfl rfl rfl ?_
    refine stg 68 (fun hb => hop_move rfl) rfl rfl rfl rfl rfl ?_
    refine stg 68 (fun hb => hop_ix_strl (by kernel_rfl) rfl rfl (by (simp at hb; first | omega | (dsimp only; omega) | (simp <;> omega))) (by (simp at hb; first | omega | (dsimp only; omega) | (simp <;> omega)))) rfl rfl rfl rfl rfl ?_
    refine stg 68 (fun hb => hop_eql rfl rfl) rfl rfl rfl rfl rfl ?_
    refine hq_p 73 (hstep_and _ _ rfl rfl rfl) rfl rfl rfl ?_
    refine hseq_nilU (by rfl) (by simp only [dropUn, slots]; exact rfl) ?_
    refine h16 _ ?_
    refine hw_cond _ rfl (fun hc2 => ?_) (fun hc2 => ?_)
    · have hr2 := hc2; (try simp only [hcs, Int.reduceToNat] at hc2)
      have h2 : bz s p = 44 := (by have h := hr2; rw [Int.toNat_natCast, bz_eqb s p (by decide)] at h; exact of_decide_eq_true h); have hlt := bz_lt (s := s) (i := p) (by omega)
      refine srg fun N h17 => ?_
      refine stm rfl rfl rfl ?_
      refine st0 (HOp.val (v' := intV ((p + 1 : Nat) : Int)) (hop_addi rfl rfl rfl (by omega) (by omega)) (rfl)) rfl rfl ?_
      refine sta rfl rfl rfl ?_
      refine snl h17 ?_
      refine srg fun N h18 => ?_
      refine st0 (hop_fa fd_80_3 rfl) rfl rfl ?_
      refine hm_s1 (hol_store ty_3 rfl rfl rfl rfl (nb rfl) (nb rfl) (nb rfl)) rfl rfl (pre1 rfl) (c' := 6) rfl ?_
      refine snl h18 ?_
      refine srg fun N h19 => ?_
      refine stm rfl rfl rfl ?_
      refine sta rfl rfl rfl ?_
      refine snl h19 ?_
      refine srg fun N h20 => ?_
      refine stm rfl rfl rfl ?_
      refine stm rfl rfl rfl ?_
      refine st0 (hop_len_strl (T := 9) rfl (by kernel_rfl) rfl) rfl rfl ?_
      refine st0 (hop_geq rfl rfl) rfl rfl ?_
      refine stm rfl rfl rfl ?_
      refine stg 82 (fun hb => hop_move rfl) rfl rfl rfl rfl rfl ?_
      refine stg 82 (fun hb => hop_move rfl) rfl rfl rfl rfl rfl ?_
      refine stg 82 (fun hb => hop_ix_strl (by kernel_rfl) rfl rfl (by (simp at hb; first | omega | (dsimp only; omega) | (simp <;> omega))) (by (simp at hb; first | omega | (dsimp only; omega) | (simp <;> omega)))) rfl rfl rfl rfl rfl ?_
      refine stg 82 (fun hb => hop_neq rfl rfl) rfl rfl rfl rfl rfl ?_
      refine hq_p 87 (hstep_or _ _ rfl rfl rfl) rfl rfl rfl ?_
      refine hseq_nilU (by rfl) (by simp only [dropUn, slots]; exact rfl) ?_
      refine h20 _ ?_
      refine hw_cond _ rfl (fun hc3 => ?_) (fun hc3 => ?_)
      · have hr3 := hc3; (try simp only [hcs, Int.reduceToNat] at hc3)
        have h3 : ¬ bz s (p + 1) = 125 := (by have h := hr3; rw [Int.toNat_natCast, bz_neb s (p + 1) (by decide)] at h; simpa using h)
        refine hw_seq (fun Nh21 h21 => ?_)
        rcases hm : numL s (p + 1) with ⟨_ | m, q⟩
        · skip
          refine hw_region ?_
          refine stm rfl rfl rfl ?_
          refine stm rfl rfl rfl ?_
          refine st0 (hop_call0 (xs := [_, _]) (refNum hs hlt hm) ⟨rfl, ⟨rfl, trivial⟩⟩ ⟨(Fz.eq rfl), ⟨(Fz.eq rfl), trivial⟩⟩) rfl rfl ?_
          refine stm rfl rfl rfl ?_
          refine st0 (HOp.val (v' := intV (-1)) (hop_extract rfl rfl) (rfl)) rfl rfl ?_
          refine st0 (HOp.val (v' := intV q) (hop_extract rfl rfl) (rfl)) rfl rfl ?_
          refine sta rfl rfl rfl ?_
          refine sta rfl rfl rfl ?_
          refine snl h21 ?_
          refine hw_seq (fun Nh22 h22 => ?_)
          refine hw_seq (fun Nh23 h23 => ?_)
          have hmq := numL_le (by omega) hm
          refine hw_region ?_
          refine stm rfl rfl rfl ?_
          refine st0 (hop_lss rfl rfl) rfl rfl ?_
          refine snl h23 ?_
          refine hw_cond _ rfl (fun hc4 => ?_) (fun hc4 => ?_)
          · have hr4 := hc4; (try simp only [hcs, Int.reduceToNat] at hc4)
            refine srg fun N h24 => ?_
            refine stm rfl rfl rfl ?_
            refine stm rfl rfl rfl ?_
            refine st0 (hop_call0 (xs := [_, _]) (refWrong_h s q) ⟨rfl, ⟨rfl, trivial⟩⟩ ⟨(Fz.eq rfl), ⟨(Fz.eq rfl), trivial⟩⟩) rfl rfl ?_
            refine stm rfl rfl rfl ?_
            refine st0 (hop_extract rfl rfl) rfl rfl ?_
            refine st0 (hop_extract rfl rfl) rfl rfl ?_
            refine sta rfl rfl rfl ?_
            refine sta rfl rfl rfl ?_
            refine snl h24 ?_
            refine srg fun N h25 => ?_
            refine st1 (hol_load ty_80 rfl (nb rfl) (nb rfl) (fun h => (by cases h))) rfl rfl rfl ?_
            refine stm rfl rfl rfl ?_
            refine stm rfl rfl rfl ?_
            refine hm_s1 (hol_storeW ty_80 rfl rfl rfl rfl) rfl rfl (pre1 rfl) (c' := 7) rfl ?_
            refine sta rfl rfl rfl ?_
            refine sta rfl rfl rfl ?_
            refine snl h25 ?_
            refine hw_ret ?_
            refine hq_then_ret ?_
            refine hq_then_ret ?_
            refine hq_ret3 rfl (rvl_cell rfl rfl ty_80 (fun h => by first | rfl | cases h) rfl rfl) (rval_tmp rfl) (rval_tmp rfl) [] rfl pre0 ?_
            have e : countF s i = (⟨5, i, n, -1, []⟩, wrongV s q) := (by unfold countF; rw [hn]; simp only; rw [if_neg h1, if_pos h2, if_neg h3, hm]); rw [e]; exact fz_t3 (fz_agg5 (by first | exact .imm _ | exact .nil _ _ _ (by decide) _ | exact fz_toks _ | exact fz_mkss _ | exact Frz.fz) (by first | exact .imm _ | exact .nil _ _ _ (by decide) _ | exact fz_toks _ | exact fz_mkss _ | exact Frz.fz) (by first | exact .imm _ | exact .nil _ _ _ (by decide) _ | exact fz_toks _ | exact fz_mkss _ | exact Frz.fz) (by first | exact .imm _ | exact .nil _ _ _ (by decide) _ | exact fz_toks _ | exact fz_mkss _ | exact Frz.fz) (by first | exact .imm _ | exact .nil _ _ _ (by decide) _ | exact fz_toks _ | exact fz_mkss _ | exact Frz.fz)) (.imm _) (.imm _)
          have hr4 := hc4; (try simp only [hcs, Int.reduceToNat] at hc4)
          exfalso; exact absurd hr4 (by simp)
        · skip
          refine hw_region ?_
          refine stm rfl rfl rfl ?_
          refine stm rfl rfl rfl ?_
          refine st0 (hop_call0 (xs := [_, _]) (refNum hs hlt hm) ⟨rfl, ⟨rfl, trivial⟩⟩ ⟨(Fz.eq rfl), ⟨(Fz.eq rfl), trivial⟩⟩) rfl rfl ?_
          refine stm rfl rfl rfl ?_
          refine st0 (HOp.val (v' := intV m) (hop_extract rfl rfl) (rfl)) rfl rfl ?_
          refine st0 (HOp.val (v' := intV q) (hop_extract rfl rfl) (rfl)) rfl rfl ?_
          refine sta rfl rfl rfl ?_
          refine sta rfl rfl rfl ?_
          refine snl h21 ?_
          refine hw_seq (fun Nh26 h26 => ?_)
          refine hw_seq (fun Nh27 h27 => ?_)
          have hmq := numL_le (by omega) hm
          refine hw_region ?_
          refine stm rfl rfl rfl ?_
          refine st0 (hop_lss rfl rfl) rfl rfl ?_
          refine snl h27 ?_
          refine hw_cond _ rfl (fun hc4 => ?_) (fun hc4 => ?_)
          · have hr4 := hc4; (try simp only [hcs, Int.reduceToNat] at hc4)
            exfalso; have := hmq.2.2 m rfl; omega
          have hr4 := hc4; (try simp only [hcs, Int.reduceToNat] at hc4)
          refine hw_skip ?_
          refine h26 _ ?_
          refine hw_seq (fun Nh28 h28 => ?_)
          refine srg fun N h29 => ?_
          refine stm rfl rfl rfl ?_
          refine st0 (hop_lss rfl rfl) rfl rfl ?_
          refine stm rfl rfl rfl ?_
          refine stg 107 (fun hb => hop_move rfl) rfl rfl rfl rfl rfl ?_
          refine stg 107 (fun hb => hop_gtr rfl rfl) rfl rfl rfl rfl rfl ?_
          refine hq_p 110 (hstep_or _ _ rfl rfl rfl) rfl rfl rfl ?_
          refine stm rfl rfl rfl ?_
          refine stg 111 (fun hb => hop_move rfl) rfl rfl rfl rfl rfl ?_
          refine stg 111 (fun hb => hop_move rfl) rfl rfl rfl rfl rfl ?_
          refine stg 111 (fun hb => hop_lss rfl rfl) rfl rfl rfl rfl rfl ?_
          refine hq_p 115 (hstep_or _ _ rfl rfl rfl) rfl rfl rfl ?_
          refine hseq_nilU (by rfl) (by simp only [dropUn, slots]; exact rfl) ?_
          refine h29 _ ?_
          refine hw_cond _ rfl (fun hc5 => ?_) (fun hc5 => ?_)
          · have hr5 := hc5; (try simp only [hcs, Int.reduceToNat] at hc5)
            have h5 : m < 1 ∨ 20 < m ∨ m < n := (by have h := hr5; simp only [Bool.or_eq_true, decide_eq_true_eq] at h; omega)
            refine srg fun N h30 => ?_
            refine st1 (hol_load ty_80 rfl (nb rfl) (nb rfl) (fun h => (by cases h))) rfl rfl rfl ?_
            refine stm rfl rfl rfl ?_
            refine hm_s1 (hol_storeW ty_80 rfl rfl rfl rfl) rfl rfl (pre1 rfl) (c' := 7) rfl ?_
            refine sta rfl rfl rfl ?_
            refine sta rfl rfl rfl ?_
            refine snl h30 ?_
            refine hw_ret ?_
            refine hq_then_ret ?_
            refine hq_then_ret ?_
            refine hq_ret3 rfl (rvl_cell rfl rfl ty_80 (fun h => by first | rfl | cases h) rfl rfl) (rval_tmp rfl) (rval_tmp rfl) [] rfl pre0 ?_
            have e : countF s i = (⟨5, i, n, -1, []⟩, ((p + 1 : Nat) : Int), 3) := (by unfold countF; rw [hn]; simp only; rw [if_neg h1, if_pos h2, if_neg h3, hm]; simp only; rw [if_pos h5]); rw [e]; exact fz_t3 (fz_agg5 (by first | exact .imm _ | exact .nil _ _ _ (by decide) _ | exact fz_toks _ | exact fz_mkss _ | exact Frz.fz) (by first | exact .imm _ | exact .nil _ _ _ (by decide) _ | exact fz_toks _ | exact fz_mkss _ | exact Frz.fz) (by first | exact .imm _ | exact .nil _ _ _ (by decide) _ | exact fz_toks _ | exact fz_mkss _ | exact Frz.fz) (by first | exact .imm _ | exact .nil _ _ _ (by decide) _ | exact fz_toks _ | exact fz_mkss _ | exact Frz.fz) (by first | exact .imm _ | exact .nil _ _ _ (by decide) _ | exact fz_toks _ | exact fz_mkss _ | exact Frz.fz)) (.imm _) (.imm _)
          have hr5 := hc5; (try simp only [hcs, Int.reduceToNat] at hc5)
          have h5 : ¬ (m < 1 ∨ 20 < m ∨ m < n) := (by have h := hr5; simp only [Bool.or_eq_false_iff, decide_eq_false_iff_not] at h; omega)
          refine hw_skip ?_
          refine h28 _ ?_
          refine srg fun N h31 => ?_
          refine stm rfl rfl rfl ?_
          refine st0 (hop_fa fd_80_3 rfl) rfl rfl ?_
          refine hm_s1 (hol_store ty_3 rfl rfl rfl rfl (nb rfl) (nb rfl) (nb rfl)) rfl rfl (pre1 rfl) (c' := 7) rfl ?_
          refine snl h31 ?_
          refine hw_region ?_
          refine stm rfl rfl rfl ?_
          refine sta rfl rfl rfl ?_
          refine snl h15 ?_
          refine hw_seq (fun Nh32 h32 => ?_)
          refine srg fun N h33 => ?_
          refine stm rfl rfl rfl ?_
          refine stm rfl rfl rfl ?_
          refine st0 (hop_len_strl (T := 9) rfl (by kernel_rfl) rfl) rfl rfl ?_
          refine st0 (hop_geq rfl rfl) rfl rfl ?_
          refine stm rfl rfl rfl ?_
          refine stg 125 (fun hb => hop_move rfl) rfl rfl rfl rfl rfl ?_
          refine stg 125 (fun hb => hop_move rfl) rfl rfl rfl rfl rfl ?_
          refine stg 125 (fun hb => hop_ix_strl (by kernel_rfl) rfl rfl (by (simp at hb; first | omega | (dsimp only; omega) | (simp <;> omega))) (by (simp at hb; first | omega | (dsimp only; omega) | (simp <;> omega)))) rfl rfl rfl rfl rfl ?_
          refine stg 125 (fun hb => hop_neq rfl rfl) rfl rfl rfl rfl rfl ?_
          refine hq_p 130 (hstep_or _ _ rfl rfl rfl) rfl rfl rfl ?_
          refine hseq_nilU (by rfl) (by simp only [dropUn, slots]; exact rfl) ?_
          refine h33 _ ?_
          refine hw_cond _ rfl (fun hc6 => ?_) (fun hc6 => ?_)
          · have hr6 := hc6; (try simp only [hcs, Int.reduceToNat] at hc6)
            have h6 : ¬ bz s q = 125 := (by have h := hr6; rw [Int.toNat_natCast, bz_neb s q (by decide)] at h; simpa using h)
            refine srg fun N h34 => ?_
            refine stm rfl rfl rfl ?_
            refine stm rfl rfl rfl ?_
            refine st0 (hop_call0 (xs := [_, _]) (refWrong_h s q) ⟨rfl, ⟨rfl, trivial⟩⟩ ⟨(Fz.eq rfl), ⟨(Fz.eq rfl), trivial⟩⟩) rfl rfl ?_
            refine stm rfl rfl rfl ?_
            refine st0 (hop_extract rfl rfl) rfl rfl ?_
            refine st0 (hop_extract rfl rfl) rfl rfl ?_
            refine sta rfl rfl rfl ?_
            refine sta rfl rfl rfl ?_
            refine snl h34 ?_
            refine srg fun N h35 => ?_
            refine st1 (hol_load ty_80 rfl (nb rfl) (nb rfl) (fun h => (by cases h))) rfl rfl rfl ?_
            refine stm rfl rfl rfl ?_
            refine stm rfl rfl rfl ?_
            refine hm_s1 (hol_storeW ty_80 rfl rfl rfl rfl) rfl rfl (pre1 rfl) (c' := 8) rfl ?_
            refine sta rfl rfl rfl ?_
            refine sta rfl rfl rfl ?_
            refine snl h35 ?_
            refine hw_ret ?_
            refine hq_then_ret ?_
            refine hq_ret3 rfl (rvl_cell rfl rfl ty_80 (fun h => by first | rfl | cases h) rfl rfl) (rval_tmp rfl) (rval_tmp rfl) [] rfl pre0 ?_
            have e : countF s i = (⟨5, i, n, m, []⟩, wrongV s q) := (by unfold countF; rw [hn]; simp only; rw [if_neg h1, if_pos h2, if_neg h3, hm]; simp only; rw [if_neg h5, if_neg h6]); rw [e]; exact fz_t3 (fz_agg5 (by first | exact .imm _ | exact .nil _ _ _ (by decide) _ | exact fz_toks _ | exact fz_mkss _ | exact Frz.fz) (by first | exact .imm _ | exact .nil _ _ _ (by decide) _ | exact fz_toks _ | exact fz_mkss _ | exact Frz.fz) (by first | exact .imm _ | exact .nil _ _ _ (by decide) _ | exact fz_toks _ | exact fz_mkss _ | exact Frz.fz) (by first | exact .imm _ | exact .nil _ _ _ (by decide) _ | exact fz_toks _ | exact fz_mkss _ | exact Frz.fz) (by first | exact .imm _ | exact .nil _ _ _ (by decide) _ | exact fz_toks _ | exact fz_mkss _ | exact Frz.fz)) (.imm _) (.imm _)
          have hr6 := hc6; (try simp only [hcs, Int.reduceToNat] at hc6)
          have h6 : bz s q = 125 := (by have h := hr6; rw [Int.toNat_natCast, bz_neb s q (by decide)] at h; simpa using h)
          refine hw_skip ?_
          refine h32 _ ?_
          refine srg fun N h36 => ?_
          refine st1 (hol_load ty_80 rfl (nb rfl) (nb rfl) (fun h => (by cases h))) rfl rfl rfl ?_
          refine stm rfl rfl rfl ?_
          refine st0 (hop_addi rfl rfl rfl (by omega) (by omega)) rfl rfl ?_
          refine hm_s1 (hol_storeW ty_80 rfl rfl rfl rfl) rfl rfl (pre1 rfl) (c' := 8) rfl ?_
          refine sta rfl rfl rfl ?_
          refine sta rfl rfl rfl ?_
          refine snl h36 ?_
          refine hw_ret ?_
          refine hq_ret3 rfl (rvl_cell rfl rfl ty_80 (fun h => by first | rfl | cases h) rfl rfl) (rval_tmp rfl) (rval_tmp rfl) [] rfl pre0 ?_
          have e : countF s i = (⟨5, i, n, m, []⟩, ((q + 1 : Nat) : Int), 0) := (by unfold countF; rw [hn]; simp only; rw [if_neg h1, if_pos h2, if_neg h3, hm]; simp only; rw [if_neg h5, if_pos h6]); rw [e]; exact fz_t3 (fz_agg5 (by first | exact .imm _ | exact .nil _ _ _ (by decide) _ | exact fz_toks _ | exact fz_mkss _ | exact Frz.fz) (by first | exact .imm _ | exact .nil _ _ _ (by decide) _ | exact fz_toks _ | exact fz_mkss _ | exact Frz.fz) (by first | exact .imm _ | exact .nil _ _ _ (by decide) _ | exact fz_toks _ | exact fz_mkss _ | exact Frz.fz) (by first | exact .imm _ | exact .nil _ _ _ (by decide) _ | exact fz_toks _ | exact fz_mkss _ | exact Frz.fz) (by first | exact .imm _ | exact .nil _ _ _ (by decide) _ | exact fz_toks _ | exact fz_mkss _ | exact Frz.fz)) (.imm _) (.imm _)
      have hr3 := hc3; (try simp only [hcs, Int.reduceToNat] at hc3)
      have h3 : bz s (p + 1) = 125 := (by have h := hr3; rw [Int.toNat_natCast, bz_neb s (p + 1) (by decide)] at h; simpa using h)
      refine hw_skip ?_
      refine h15 _ ?_
      refine hw_seq (fun Nh37 h37 => ?_)
      refine srg fun N h38 => ?_
      refine stm rfl rfl rfl ?_
      refine stm rfl rfl rfl ?_
      refine st0 (hop_len_strl (T := 9) rfl (by kernel_rfl) rfl) rfl rfl ?_
      refine st0 (hop_geq rfl rfl) rfl rfl ?_
      refine stm rfl rfl rfl ?_
      refine stg 125 (fun hb => hop_move rfl) rfl rfl rfl rfl rfl ?_
      refine stg 125 (fun hb => hop_move rfl) rfl rfl rfl rfl rfl ?_
      refine stg 125 (fun hb => hop_ix_strl (by kernel_rfl) rfl rfl (by (simp at hb; first | omega | (dsimp only; omega) | (simp <;> omega))) (by (simp at hb; first | omega | (dsimp only; omega) | (simp <;> omega)))) rfl rfl rfl rfl rfl ?_
      refine stg 125 (fun hb => hop_neq rfl rfl) rfl rfl rfl rfl rfl ?_
      refine hq_p 130 (hstep_or _ _ rfl rfl rfl) rfl rfl rfl ?_
      refine hseq_nilU (by rfl) (by simp only [dropUn, slots]; exact rfl) ?_
      refine h38 _ ?_
      refine hw_cond _ rfl (fun hc6 => ?_) (fun hc6 => ?_)
      · have hr6 := hc6; (try simp only [hcs, Int.reduceToNat] at hc6)
        exfalso; have h := hr6; rw [Int.toNat_natCast, bz_neb s (p + 1) (by decide), h3] at h; exact absurd h (by decide)
      have hr6 := hc6; (try simp only [hcs, Int.reduceToNat] at hc6)
      refine hw_skip ?_
      refine h37 _ ?_
      refine srg fun N h39 => ?_
      refine st1 (hol_load ty_80 rfl (nb rfl) (nb rfl) (fun h => (by cases h))) rfl rfl rfl ?_
      refine stm rfl rfl rfl ?_
      refine st0 (hop_addi rfl rfl rfl (by omega) (by omega)) rfl rfl ?_
      refine hm_s1 (hol_storeW ty_80 rfl rfl rfl rfl) rfl rfl (pre1 rfl) (c' := 7) rfl ?_
      refine sta rfl rfl rfl ?_
      refine sta rfl rfl rfl ?_
      refine snl h39 ?_
      refine hw_ret ?_
      refine hq_ret3 rfl (rvl_cell rfl rfl ty_80 (fun h => by first | rfl | cases h) rfl rfl) (rval_tmp rfl) (rval_tmp rfl) [] rfl pre0 ?_
      have e : countF s i = (⟨5, i, n, -1, []⟩, ((p + 2 : Nat) : Int), 0) := (by unfold countF; rw [hn]; simp only; rw [if_neg h1, if_pos h2, if_pos h3]); rw [e]; exact fz_t3 (fz_agg5 (by first | exact .imm _ | exact .nil _ _ _ (by decide) _ | exact fz_toks _ | exact fz_mkss _ | exact Frz.fz) (by first | exact .imm _ | exact .nil _ _ _ (by decide) _ | exact fz_toks _ | exact fz_mkss _ | exact Frz.fz) (by first | exact .imm _ | exact .nil _ _ _ (by decide) _ | exact fz_toks _ | exact fz_mkss _ | exact Frz.fz) (by first | exact .imm _ | exact .nil _ _ _ (by decide) _ | exact fz_toks _ | exact fz_mkss _ | exact Frz.fz) (by first | exact .imm _ | exact .nil _ _ _ (by decide) _ | exact fz_toks _ | exact fz_mkss _ | exact Frz.fz)) (fz_int (by show ((p + 1 : Nat) : Int) + 1 = ((p + 2 : Nat) : Int); omega)) (.imm _)
    have hr2 := hc2; (try simp only [hcs, Int.reduceToNat] at hc2)
    have h2 : ¬ bz s p = 44 := (by have h := hr2; rw [Int.toNat_natCast, bz_eqb s p (by decide)] at h; exact of_decide_eq_false h)
    refine hw_skip ?_
    refine h15 _ ?_
    refine hw_seq (fun Nh40 h40 => ?_)
    refine srg fun N h41 => ?_
    refine stm rfl rfl rfl ?_
    refine stm rfl rfl rfl ?_
    refine st0 (hop_len_strl (T := 9) rfl (by kernel_rfl) rfl) rfl rfl ?_
    refine st0 (hop_geq rfl rfl) rfl rfl ?_
    refine stm rfl rfl rfl ?_
    refine stg 125 (fun hb => hop_move rfl) rfl rfl rfl rfl rfl ?_
    refine stg 125 (fun hb => hop_move rfl) rfl rfl rfl rfl rfl ?_
    refine stg 125 (fun hb => hop_ix_strl (by kernel_rfl) rfl rfl (by (simp at hb; first | omega | (dsimp only; omega) | (simp <;> omega))) (by (simp at hb; first | omega | (dsimp only; omega) | (simp <;> omega)))) rfl rfl rfl rfl rfl ?_
    refine stg 125 (fun hb => hop_neq rfl rfl) rfl rfl rfl rfl rfl ?_
    refine hq_p 130 (hstep_or _ _ rfl rfl rfl) rfl rfl rfl ?_
    refine hseq_nilU (by rfl) (by simp only [dropUn, slots]; exact rfl) ?_
    refine h41 _ ?_
    refine hw_cond _ rfl (fun hc6 => ?_) (fun hc6 => ?_)
    · have hr6 := hc6; (try simp only [hcs, Int.reduceToNat] at hc6)
      have h6 : ¬ bz s p = 125 := (by have h := hr6; rw [Int.toNat_natCast, bz_neb s p (by decide)] at h; simpa using h)
      refine srg fun N h42 => ?_
      refine stm rfl rfl rfl ?_
      refine stm rfl rfl rfl ?_
      refine st0 (hop_call0 (xs := [_, _]) (refWrong_h s p) ⟨rfl, ⟨rfl, trivial⟩⟩ ⟨(Fz.eq rfl), ⟨(Fz.eq rfl), trivial⟩⟩) rfl rfl ?_
      refine stm rfl rfl rfl ?_
      refine st0 (hop_extract rfl rfl) rfl rfl ?_
      refine st0 (hop_extract rfl rfl) rfl rfl ?_
      refine sta rfl rfl rfl ?_
      refine sta rfl rfl rfl ?_
      refine snl h42 ?_
      refine srg fun N h43 => ?_
      refine st1 (hol_load ty_80 rfl (nb rfl) (nb rfl) (fun h => (by cases h))) rfl rfl rfl ?_
      refine stm rfl rfl rfl ?_
      refine stm rfl rfl rfl ?_
      refine hm_s1 (hol_storeW ty_80 rfl rfl rfl rfl) rfl rfl (pre1 rfl) (c' := 6) rfl ?_
      refine sta rfl rfl rfl ?_
      refine sta rfl rfl rfl ?_
      refine snl h43 ?_
      refine hw_ret ?_
      refine hq_then_ret ?_
      refine hq_ret3 rfl (rvl_cell rfl rfl ty_80 (fun h => by first | rfl | cases h) rfl rfl) (rval_tmp rfl) (rval_tmp rfl) [] rfl pre0 ?_
      have e : countF s i = (⟨5, i, n, n, []⟩, wrongV s p) := (by unfold countF; rw [hn]; simp only; rw [if_neg h1, if_neg h2, if_neg h6]); rw [e]; exact fz_t3 (fz_agg5 (by first | exact .imm _ | exact .nil _ _ _ (by decide) _ | exact fz_toks _ | exact fz_mkss _ | exact Frz.fz) (by first | exact .imm _ | exact .nil _ _ _ (by decide) _ | exact fz_toks _ | exact fz_mkss _ | exact Frz.fz) (by first | exact .imm _ | exact .nil _ _ _ (by decide) _ | exact fz_toks _ | exact fz_mkss _ | exact Frz.fz) (by first | exact .imm _ | exact .nil _ _ _ (by decide) _ | exact fz_toks _ | exact fz_mkss _ | exact Frz.fz) (by first | exact .imm _ | exact .nil _ _ _ (by decide) _ | exact fz_toks _ | exact fz_mkss _ | exact Frz.fz)) (.imm _) (.imm _)
    have hr6 := hc6; (try simp only [hcs, Int.reduceToNat] at hc6)
    have h6 : bz s p = 125 := (by have h := hr6; rw [Int.toNat_natCast, bz_neb s p (by decide)] at h; simpa using h)
    refine hw_skip ?_
    refine h40 _ ?_
    refine srg fun N h44 => ?_
    refine st1 (hol_load ty_80 rfl (nb rfl) (nb rfl) (fun h => (by cases h))) rfl rfl rfl ?_
    refine stm rfl rfl rfl ?_
    refine st0 (hop_addi rfl rfl rfl (by omega) (by omega)) rfl rfl ?_
    refine hm_s1 (hol_storeW ty_80 rfl rfl rfl rfl) rfl rfl (pre1 rfl) (c' := 6) rfl ?_
    refine sta rfl rfl rfl ?_
    refine sta rfl rfl rfl ?_
    refine snl h44 ?_
    refine hw_ret ?_
    refine hq_ret3 rfl (rvl_cell rfl rfl ty_80 (fun h => by first | rfl | cases h) rfl rfl) (rval_tmp rfl) (rval_tmp rfl) [] rfl pre0 ?_
    have e : countF s i = (⟨5, i, n, n, []⟩, ((p + 1 : Nat) : Int), 0) := (by unfold countF; rw [hn]; simp only; rw [if_neg h1, if_neg h2, if_pos h6]); rw [e]; exact fz_t3 (fz_agg5 (by first | exact .imm _ | exact .nil _ _ _ (by decide) _ | exact fz_toks _ | exact fz_mkss _ | exact Frz.fz) (by first | exact .imm _ | exact .nil _ _ _ (by decide) _ | exact fz_toks _ | exact fz_mkss _ | exact Frz.fz) (by first | exact .imm _ | exact .nil _ _ _ (by decide) _ | exact fz_toks _ | exact fz_mkss _ | exact Frz.fz) (by first | exact .imm _ | exact .nil _ _ _ (by decide) _ | exact fz_toks _ | exact fz_mkss _ | exact Frz.fz) (by first | exact .imm _ | exact .nil _ _ _ (by decide) _ | exact fz_toks _ | exact fz_mkss _ | exact Frz.fz)) (.imm _) (.imm _)
end Go.Proofs.YtldjnmljnlhaaaaGreatDoor

namespace Go.Proofs.YtldjnmljnlhaaaaGreatDoor
set_option linter.unusedSimpArgs false
set_option linter.unusedVariables false
set_option maxRecDepth 100000
open Go.RowKit

theorem refBegins_h (x : Int) : HPure Tryz.prog 69 [.imm (.int .u8 x)] (boolV (beginZ x)) := by
  refine hpure_of Tryz.func69 rfl (by kernel_rfl) _ _ _ rfl 33 rfl rfl (fun w F => ?_)
  refine srg fun N h1 => ?_
  refine sta rfl rfl rfl ?_
  refine snl h1 ?_
  refine srg fun N h2 => ?_
  refine stm rfl rfl rfl ?_
  refine st0 (hop_call0 (xs := [_]) (refSmall_h _) ⟨rfl, trivial⟩ ⟨(Fz.eq rfl), trivial⟩) rfl rfl ?_
  refine stm rfl rfl rfl ?_
  refine stg 5 (fun hb => hop_move rfl) rfl rfl rfl rfl rfl ?_
  refine stg 5 (fun hb => hop_eql rfl rfl) rfl rfl rfl rfl rfl ?_
  refine hq_p 8 (hstep_or _ _ rfl rfl rfl) rfl rfl rfl ?_
  refine stm rfl rfl rfl ?_
  refine stg 9 (fun hb => hop_move rfl) rfl rfl rfl rfl rfl ?_
  refine stg 9 (fun hb => hop_eql rfl rfl) rfl rfl rfl rfl rfl ?_
  refine hq_p 12 (hstep_or _ _ rfl rfl rfl) rfl rfl rfl ?_
  refine stm rfl rfl rfl ?_
  refine stg 13 (fun hb => hop_move rfl) rfl rfl rfl rfl rfl ?_
  refine stg 13 (fun hb => hop_eql rfl rfl) rfl rfl rfl rfl rfl ?_
  refine hq_p 16 (hstep_or _ _ rfl rfl rfl) rfl rfl rfl ?_
  refine stm rfl rfl rfl ?_
  refine stg 17 (fun hb => hop_move rfl) rfl rfl rfl rfl rfl ?_
  refine stg 17 (fun hb => hop_eql rfl rfl) rfl rfl rfl rfl rfl ?_
  refine hq_p 20 (hstep_or _ _ rfl rfl rfl) rfl rfl rfl ?_
  refine stm rfl rfl rfl ?_
  refine stg 21 (fun hb => hop_move rfl) rfl rfl rfl rfl rfl ?_
  refine stg 21 (fun hb => hop_eql rfl rfl) rfl rfl rfl rfl rfl ?_
  refine hq_p 24 (hstep_or _ _ rfl rfl rfl) rfl rfl rfl ?_
  refine stm rfl rfl rfl ?_
  refine stg 25 (fun hb => hop_move rfl) rfl rfl rfl rfl rfl ?_
  refine stg 25 (fun hb => hop_eql rfl rfl) rfl rfl rfl rfl rfl ?_
  refine hq_p 28 (hstep_or _ _ rfl rfl rfl) rfl rfl rfl ?_
  refine stm rfl rfl rfl ?_
  refine stg 29 (fun hb => hop_move rfl) rfl rfl rfl rfl rfl ?_
  refine stg 29 (fun hb => hop_eql rfl rfl) rfl rfl rfl rfl rfl ?_
  refine hq_p 32 (hstep_or _ _ rfl rfl rfl) rfl rfl rfl ?_
  refine sta rfl rfl rfl ?_
  refine hseq_nilU (by rfl) (by simp only [dropUn, slots]; exact rfl) ?_
  refine h2 _ ?_
  refine hw_ret ?_
  refine hq_ret1 rfl (rval_tmp rfl) [] rfl pre0 ?_
  exact Frz.fz
theorem refOne_h (s : List UInt8) (i : Nat) (hs : s.length ≤ 9223372036854775807) (hi : i < s.length) : HPure Tryz.prog 70 [strV s, intV i] (oneH (oneF s i)) := by
  refine hpure_of Tryz.func70 rfl (by kernel_rfl) _ _ _ rfl 93 rfl rfl (fun w F => ?_)
  refine srg fun N h1 => ?_
  refine hm_1 4 (hop_alloc (id := 4) (sz := 5) zc_80 rfl rfl (nb rfl) (nb rfl)) rfl rfl pre0 rfl rfl (c' := 1) rfl ?_
  refine sta rfl rfl rfl ?_
  refine sta rfl rfl rfl ?_
  refine snl h1 ?_
  refine srg fun N h2 => ?_
  refine stm rfl rfl rfl ?_
  refine stm rfl rfl rfl ?_
  refine st0 (HOp.val (v' := .imm (.int .u8 (bz s i))) (hop_ix_strl (by kernel_rfl) rfl rfl (by omega) (by omega)) (by rw [bz_in hi, Int.toNat_natCast])) rfl rfl ?_
  refine sta rfl rfl rfl ?_
  refine snl h2 ?_
  refine hw_seq (fun Nh3 h3 => ?_)
  refine srg fun N h4 => ?_
  refine stm rfl rfl rfl ?_
  refine st0 (hop_call0 (xs := [_]) (refSmall_h _) ⟨rfl, trivial⟩ ⟨(Fz.eq rfl), trivial⟩) rfl rfl ?_
  refine snl h4 ?_
  refine hw_cond _ rfl (fun hc0 => ?_) (fun hc0 => ?_)
  · have hr0 := hc0; (try simp only [hcs, Int.reduceToNat] at hc0)
    refine srg fun N h5 => ?_
    refine stm rfl rfl rfl ?_
    refine sta rfl rfl rfl ?_
    refine snl h5 ?_
    refine hw_seq (fun Nh6 h6 => ?_)
    refine hw_block ?_
    refine hw_loopc (α := Nat) (fun x c => ⟨93, [(0, .v (strV s)), (1, .v (intV i)), (4, .v (.pt 4 0 0 0)), (8, .v (intV ((i + x : Nat) : Int)))], [(4, ⟨0, 1, 5, 80, 0, sg0⟩)], c⟩) (fun x => x ≤ 12 ∧ i + x ≤ s.length ∧ (∀ j, j < x → alnumZ (bz s (i + j)) = true)) (fun x => 12 - x) (0) (by exact ⟨by omega, by omega, fun j h => absurd h (by omega)⟩) (hsub_of rfl (Nat.le_refl _) (TmSub.cons rfl (Sb.refl _) (TmSub.cons rfl (Sb.refl _) (TmSub.cons rfl (Sb.refl _) (TmSub.cons rfl (Sb.refl _) TmSub.nil)))) (HpSub.cons rfl (OSub.refl _) HpSub.nil)) (fun k c hx NhL7 hL7 => ?_)
    (try dsimp only at hx hL7 ⊢)
    obtain ⟨hk, hik, hal⟩ := hx
    refine hw_seq (fun Nh8 h8 => ?_)
    refine srg fun N h9 => ?_
    refine stm rfl rfl rfl ?_
    refine stm rfl rfl rfl ?_
    refine st0 (hop_len_strl (T := 9) rfl (by kernel_rfl) rfl) rfl rfl ?_
    refine st0 (hop_lss rfl rfl) rfl rfl ?_
    refine stm rfl rfl rfl ?_
    refine stg 19 (fun hb => hop_move rfl) rfl rfl rfl rfl rfl ?_
    refine stg 19 (fun hb => hop_move rfl) rfl rfl rfl rfl rfl ?_
    refine stg 19 (fun hb => hop_ix_strl (by kernel_rfl) rfl rfl (by (simp at hb; first | omega | (dsimp only; omega) | (simp <;> omega))) (by (simp at hb; first | omega | (dsimp only; omega) | (simp <;> omega)))) rfl rfl rfl rfl rfl ?_
    refine stg 19 (fun hb => hop_call0 (xs := [_]) (refSmall_h _) ⟨rfl, trivial⟩ ⟨(Fz.eq rfl), trivial⟩) rfl rfl rfl rfl rfl ?_
    refine stg 19 (fun hb => hop_move rfl) rfl rfl rfl rfl rfl ?_
    refine hq_g3 25 9 24 19 true false _ _ (fun hb hb2 => hop_move rfl) rfl rfl rfl rfl rfl pre0 rfl rfl rfl ?_
    refine hq_g3 26 9 24 19 true false _ _ (fun hb hb2 => hop_move rfl) rfl rfl rfl rfl rfl pre0 rfl rfl rfl ?_
    refine hq_g3 27 9 24 19 true false _ _ (fun hb hb2 => hop_ix_strl (by kernel_rfl) rfl rfl (by simp at hb; omega) (by simp at hb2; omega)) rfl rfl rfl rfl rfl pre0 rfl rfl rfl ?_
    refine hq_g3 28 9 24 19 true false _ _ (fun hb hb2 => hop_call0 (xs := [_]) (refDigit_h _) ⟨rfl, trivial⟩ ⟨(Fz.eq rfl), trivial⟩) rfl rfl rfl rfl rfl pre0 rfl rfl rfl ?_
    refine hq_pg 29 (hstep_org (gi := 4) (j := 19) _ _ rfl rfl rfl rfl) rfl rfl rfl rfl ?_
    refine hq_p 30 (hstep_and _ _ rfl rfl rfl) rfl rfl rfl ?_
    refine hseq_nilU (by rfl) (by simp only [dropUn, slots]; exact rfl) ?_
    refine h9 _ ?_
    refine hw_cond _ rfl (fun hc1 => ?_) (fun hc1 => ?_)
    · have hr1 := hc1; (try simp only [hcs, Int.reduceToNat] at hc1)
      have hall : alnumZ (bz s (i + k)) = true := (by have h := hr1; rw [Int.toNat_natCast, bz_alnum] at h; exact h); have hlt : i + k < s.length := bz_lt (fun h => by rw [h] at hall; exact absurd hall (by decide))
      refine hw_skip ?_
      refine h8 _ ?_
      refine hw_block ?_
      refine hw_seq (fun Nh10 h10 => ?_)
      refine srg fun N h11 => ?_
      refine stm rfl rfl rfl ?_
      refine stm rfl rfl rfl ?_
      refine st0 (hop_subi rfl rfl rfl (by omega) (by omega)) rfl rfl ?_
      refine st0 (hop_eql rfl rfl) rfl rfl ?_
      refine snl h11 ?_
      refine hw_cond _ rfl (fun hc2 => ?_) (fun hc2 => ?_)
      · have hr2 := hc2; (try simp only [hcs, Int.reduceToNat] at hc2)
        refine srg fun N h12 => ?_
        refine st0 (hop_build (hs := []) st_80 rfl rfl trivial) rfl rfl ?_
        refine stm rfl rfl rfl ?_
        refine hm_s1 (hol_storeW ty_80 rfl rfl rfl rfl) rfl rfl (pre1 rfl) (c' := c + 1) rfl ?_
        refine sta rfl rfl rfl ?_
        refine sta rfl rfl rfl ?_
        refine snl h12 ?_
        refine hw_ret ?_
        refine hq_then_ret ?_
        refine hq_block_ret ?_
        refine hq_then_ret ?_
        refine hq_block_ret ?_
        refine hq_then_ret ?_
        refine hq_then_ret ?_
        refine hq_ret3 rfl (rvl_cell rfl rfl ty_80 (fun h => by first | rfl | cases h) rfl rfl) (rval_tmp rfl) (rval_tmp rfl) [] rfl pre0 ?_
        obtain rfl : k = 12 := (by omega); have e : oneF s i = (sgZ, ((i + 12 : Nat) : Int), 2) := (by unfold oneF; rw [if_pos hc0]; unfold nameF; rw [if_pos (run_eq (Nat.le_refl _) (fun j hj => by rcases Nat.lt_or_ge j 12 with h | h; exact hal j h; obtain rfl : j = 12 := (by omega); exact hall) (fun h => absurd h (by omega)))]); rw [e]; exact fz_t3 (fz_agg5 (by first | exact .imm _ | exact .nil _ _ _ (by decide) _ | exact fz_toks _ | exact fz_mkss _ | exact Frz.fz) (by first | exact .imm _ | exact .nil _ _ _ (by decide) _ | exact fz_toks _ | exact fz_mkss _ | exact Frz.fz) (by first | exact .imm _ | exact .nil _ _ _ (by decide) _ | exact fz_toks _ | exact fz_mkss _ | exact Frz.fz) (by first | exact .imm _ | exact .nil _ _ _ (by decide) _ | exact fz_toks _ | exact fz_mkss _ | exact Frz.fz) (by first | exact .imm _ | exact .nil _ _ _ (by decide) _ | exact fz_toks _ | exact fz_mkss _ | exact Frz.fz)) (.imm _) (.imm _)
      have hr2 := hc2; (try simp only [hcs, Int.reduceToNat] at hc2)
      refine hw_skip ?_
      refine h10 _ ?_
      refine hw_region ?_
      refine stm rfl rfl rfl ?_
      refine st0 (HOp.val (v' := intV ((i + (k + 1) : Nat) : Int)) (hop_addi rfl rfl rfl (by omega) (by omega)) (rfl)) rfl rfl ?_
      refine sta rfl rfl rfl ?_
      refine hseq_nil ?_
      refine hq_block ?_
      exact hL7 (k + 1) _ _ (by (try dsimp only); exact ⟨by omega, by omega, fun j hj => by rcases Nat.lt_or_ge j k with h | h; exact hal j h; obtain rfl : j = k := (by omega); exact hall⟩) (by (try dsimp only); omega) (hsub_of rfl (Nat.le_refl _) (TmSub.cons rfl (Sb.refl _) (TmSub.cons rfl (Sb.refl _) (TmSub.cons rfl (Sb.refl _) (TmSub.cons rfl (Sb.refl _) TmSub.nil)))) (HpSub.cons rfl (OSub.refl _) HpSub.nil))
    have hr1 := hc1; (try simp only [hcs, Int.reduceToNat] at hc1)
    have hno : alnumZ (bz s (i + k)) = false := (by have h := hr1; rw [Int.toNat_natCast, bz_alnum] at h; exact h)
    refine hw_exit ?_
    refine hq_then_exit ?_
    refine hq_then_exit ?_
    refine hq_block_here ?_
    refine h6 _ ?_
    refine srg fun N h13 => ?_
    refine stm rfl rfl rfl ?_
    refine stm rfl rfl rfl ?_
    refine stm rfl rfl rfl ?_
    refine stm rfl rfl rfl ?_
    refine st0 (hop_cut_strl (by kernel_rfl) rfl (.inr ⟨_, _, rfl, rfl⟩) (.inr ⟨_, _, rfl, rfl⟩) (by omega) (by omega) (by omega)) rfl rfl ?_
    refine st0 (hop_build (hs := [(0, 1, _), (1, 1, _), (4, 1, _)]) st_80 rfl rfl ⟨rfl, rfl, rfl, rfl, rfl, ⟨rfl, rfl, rfl, rfl, rfl, ⟨rfl, rfl, rfl, rfl, rfl, trivial⟩⟩⟩) rfl rfl ?_
    refine stm rfl rfl rfl ?_
    refine hm_s1 (hol_storeW ty_80 rfl rfl rfl rfl) rfl rfl (pre1 rfl) (c' := c + 1) rfl ?_
    refine sta rfl rfl rfl ?_
    refine sta rfl rfl rfl ?_
    refine snl h13 ?_
    refine hw_ret ?_
    refine hq_then_ret ?_
    refine hq_ret3 rfl (rvl_cell rfl rfl ty_80 (fun h => by first | rfl | cases h) rfl rfl) (rval_tmp rfl) (rval_tmp rfl) [] rfl pre0 ?_
    have e : oneF s i = (⟨1, i, 0, 0, (s.drop i).take (i + k - i)⟩, ((i + k : Nat) : Int), 0) := (by unfold oneF; rw [if_pos hc0]; unfold nameF; rw [run_eq (f := 13) (show k ≤ 13 by omega) hal (fun _ => hno), if_neg (show ¬ k = 13 by omega), show i + k - i = k by omega]); rw [e]; exact fz_t3 (fz_agg5 (by first | exact .imm _ | exact .nil _ _ _ (by decide) _ | exact fz_toks _ | exact fz_mkss _ | exact Frz.fz) (by first | exact .imm _ | exact .nil _ _ _ (by decide) _ | exact fz_toks _ | exact fz_mkss _ | exact Frz.fz) (by first | exact .imm _ | exact .nil _ _ _ (by decide) _ | exact fz_toks _ | exact fz_mkss _ | exact Frz.fz) (by first | exact .imm _ | exact .nil _ _ _ (by decide) _ | exact fz_toks _ | exact fz_mkss _ | exact Frz.fz) (by first | exact .imm _ | exact .nil _ _ _ (by decide) _ | exact fz_toks _ | exact fz_mkss _ | exact Frz.fz)) (.imm _) (.imm _)
  have hr0 := hc0; (try simp only [hcs, Int.reduceToNat] at hc0)
  have h0 : ¬ smallZ (bz s i) = true := (by rw [hc0]; decide)
  refine hw_skip ?_
  refine h3 _ ?_
  refine hw_seq (fun Nh14 h14 => ?_)
  refine srg fun N h15 => ?_
  refine stm rfl rfl rfl ?_
  refine snl h15 ?_
  refine hw_block ?_
  refine srg fun N h16 => ?_
  refine st0 (hop_eql rfl rfl) rfl rfl ?_
  refine sta rfl rfl rfl ?_
  refine snl h16 ?_
  refine hw_cond _ rfl (fun hc3 => ?_) (fun hc3 => ?_)
  · have hr3 := hc3; (try simp only [hcs, Int.reduceToNat] at hc3)
    refine srg fun N h17 => ?_
    refine stm rfl rfl rfl ?_
    refine st0 (hop_build (hs := [(0, 1, _), (1, 1, _)]) st_80 rfl rfl ⟨rfl, rfl, rfl, rfl, rfl, ⟨rfl, rfl, rfl, rfl, rfl, trivial⟩⟩) rfl rfl ?_
    refine stm rfl rfl rfl ?_
    refine st0 (hop_addi rfl rfl rfl (by omega) (by omega)) rfl rfl ?_
    refine hm_s1 (hol_storeW ty_80 rfl rfl rfl rfl) rfl rfl (pre1 rfl) (c' := 2) rfl ?_
    refine sta rfl rfl rfl ?_
    refine sta rfl rfl rfl ?_
    refine snl h17 ?_
    refine hw_ret ?_
    refine hq_block_ret ?_
    refine hq_then_ret ?_
    refine hq_ret3 rfl (rvl_cell rfl rfl ty_80 (fun h => by first | rfl | cases h) rfl rfl) (rval_tmp rfl) (rval_tmp rfl) [] rfl pre0 ?_
    have e : oneF s i = (⟨2, i, 0, 0, []⟩, ((i + 1 : Nat) : Int), 0) := (by unfold oneF; rw [if_neg h0, if_pos hc3]); rw [e]; exact fz_t3 (fz_agg5 (by first | exact .imm _ | exact .nil _ _ _ (by decide) _ | exact fz_toks _ | exact fz_mkss _ | exact Frz.fz) (by first | exact .imm _ | exact .nil _ _ _ (by decide) _ | exact fz_toks _ | exact fz_mkss _ | exact Frz.fz) (by first | exact .imm _ | exact .nil _ _ _ (by decide) _ | exact fz_toks _ | exact fz_mkss _ | exact Frz.fz) (by first | exact .imm _ | exact .nil _ _ _ (by decide) _ | exact fz_toks _ | exact fz_mkss _ | exact Frz.fz) (by first | exact .imm _ | exact .nil _ _ _ (by decide) _ | exact fz_toks _ | exact fz_mkss _ | exact Frz.fz)) (.imm _) (.imm _)
  have hr3 := hc3; (try simp only [hcs, Int.reduceToNat] at hc3)
  refine srg fun N h18 => ?_
  refine st0 (hop_eql rfl rfl) rfl rfl ?_
  refine sta rfl rfl rfl ?_
  refine snl h18 ?_
  refine hw_cond _ rfl (fun hc4 => ?_) (fun hc4 => ?_)
  · have hr4 := hc4; (try simp only [hcs, Int.reduceToNat] at hc4)
    refine srg fun N h19 => ?_
    refine stm rfl rfl rfl ?_
    refine st0 (hop_build (hs := [(0, 1, _), (1, 1, _)]) st_80 rfl rfl ⟨rfl, rfl, rfl, rfl, rfl, ⟨rfl, rfl, rfl, rfl, rfl, trivial⟩⟩) rfl rfl ?_
    refine stm rfl rfl rfl ?_
    refine st0 (hop_addi rfl rfl rfl (by omega) (by omega)) rfl rfl ?_
    refine hm_s1 (hol_storeW ty_80 rfl rfl rfl rfl) rfl rfl (pre1 rfl) (c' := 2) rfl ?_
    refine sta rfl rfl rfl ?_
    refine sta rfl rfl rfl ?_
    refine snl h19 ?_
    refine hw_ret ?_
    refine hq_block_ret ?_
    refine hq_then_ret ?_
    refine hq_ret3 rfl (rvl_cell rfl rfl ty_80 (fun h => by first | rfl | cases h) rfl rfl) (rval_tmp rfl) (rval_tmp rfl) [] rfl pre0 ?_
    have e : oneF s i = (⟨3, i, 0, 0, []⟩, ((i + 1 : Nat) : Int), 0) := (by unfold oneF; rw [if_neg h0, if_neg hc3, if_pos hc4]); rw [e]; exact fz_t3 (fz_agg5 (by first | exact .imm _ | exact .nil _ _ _ (by decide) _ | exact fz_toks _ | exact fz_mkss _ | exact Frz.fz) (by first | exact .imm _ | exact .nil _ _ _ (by decide) _ | exact fz_toks _ | exact fz_mkss _ | exact Frz.fz) (by first | exact .imm _ | exact .nil _ _ _ (by decide) _ | exact fz_toks _ | exact fz_mkss _ | exact Frz.fz) (by first | exact .imm _ | exact .nil _ _ _ (by decide) _ | exact fz_toks _ | exact fz_mkss _ | exact Frz.fz) (by first | exact .imm _ | exact .nil _ _ _ (by decide) _ | exact fz_toks _ | exact fz_mkss _ | exact Frz.fz)) (.imm _) (.imm _)
  have hr4 := hc4; (try simp only [hcs, Int.reduceToNat] at hc4)
  refine srg fun N h20 => ?_
  refine st0 (hop_eql rfl rfl) rfl rfl ?_
  refine sta rfl rfl rfl ?_
  refine snl h20 ?_
  refine hw_cond _ rfl (fun hc5 => ?_) (fun hc5 => ?_)
  · have hr5 := hc5; (try simp only [hcs, Int.reduceToNat] at hc5)
    refine srg fun N h21 => ?_
    refine stm rfl rfl rfl ?_
    refine st0 (hop_build (hs := [(0, 1, _), (1, 1, _)]) st_80 rfl rfl ⟨rfl, rfl, rfl, rfl, rfl, ⟨rfl, rfl, rfl, rfl, rfl, trivial⟩⟩) rfl rfl ?_
    refine stm rfl rfl rfl ?_
    refine st0 (hop_addi rfl rfl rfl (by omega) (by omega)) rfl rfl ?_
    refine hm_s1 (hol_storeW ty_80 rfl rfl rfl rfl) rfl rfl (pre1 rfl) (c' := 2) rfl ?_
    refine sta rfl rfl rfl ?_
    refine sta rfl rfl rfl ?_
    refine snl h21 ?_
    refine hw_ret ?_
    refine hq_block_ret ?_
    refine hq_then_ret ?_
    refine hq_ret3 rfl (rvl_cell rfl rfl ty_80 (fun h => by first | rfl | cases h) rfl rfl) (rval_tmp rfl) (rval_tmp rfl) [] rfl pre0 ?_
    have e : oneF s i = (⟨4, i, 0, 0, []⟩, ((i + 1 : Nat) : Int), 0) := (by unfold oneF; rw [if_neg h0, if_neg hc3, if_neg hc4, if_pos hc5]); rw [e]; exact fz_t3 (fz_agg5 (by first | exact .imm _ | exact .nil _ _ _ (by decide) _ | exact fz_toks _ | exact fz_mkss _ | exact Frz.fz) (by first | exact .imm _ | exact .nil _ _ _ (by decide) _ | exact fz_toks _ | exact fz_mkss _ | exact Frz.fz) (by first | exact .imm _ | exact .nil _ _ _ (by decide) _ | exact fz_toks _ | exact fz_mkss _ | exact Frz.fz) (by first | exact .imm _ | exact .nil _ _ _ (by decide) _ | exact fz_toks _ | exact fz_mkss _ | exact Frz.fz) (by first | exact .imm _ | exact .nil _ _ _ (by decide) _ | exact fz_toks _ | exact fz_mkss _ | exact Frz.fz)) (.imm _) (.imm _)
  have hr5 := hc5; (try simp only [hcs, Int.reduceToNat] at hc5)
  refine srg fun N h22 => ?_
  refine st0 (hop_eql rfl rfl) rfl rfl ?_
  refine sta rfl rfl rfl ?_
  refine snl h22 ?_
  refine hw_cond _ rfl (fun hc6 => ?_) (fun hc6 => ?_)
  · have hr6 := hc6; (try simp only [hcs, Int.reduceToNat] at hc6)
    refine srg fun N h23 => ?_
    refine stm rfl rfl rfl ?_
    refine st0 (hop_build (hs := [(0, 1, _), (1, 1, _), (3, 1, _)]) st_80 rfl rfl ⟨rfl, rfl, rfl, rfl, rfl, ⟨rfl, rfl, rfl, rfl, rfl, ⟨rfl, rfl, rfl, rfl, rfl, trivial⟩⟩⟩) rfl rfl ?_
    refine stm rfl rfl rfl ?_
    refine st0 (hop_addi rfl rfl rfl (by omega) (by omega)) rfl rfl ?_
    refine hm_s1 (hol_storeW ty_80 rfl rfl rfl rfl) rfl rfl (pre1 rfl) (c' := 2) rfl ?_
    refine sta rfl rfl rfl ?_
    refine sta rfl rfl rfl ?_
    refine snl h23 ?_
    refine hw_ret ?_
    refine hq_block_ret ?_
    refine hq_then_ret ?_
    refine hq_ret3 rfl (rvl_cell rfl rfl ty_80 (fun h => by first | rfl | cases h) rfl rfl) (rval_tmp rfl) (rval_tmp rfl) [] rfl pre0 ?_
    have e : oneF s i = (⟨5, i, 0, -1, []⟩, ((i + 1 : Nat) : Int), 0) := (by unfold oneF; rw [if_neg h0, if_neg hc3, if_neg hc4, if_neg hc5, if_pos hc6]); rw [e]; exact fz_t3 (fz_agg5 (by first | exact .imm _ | exact .nil _ _ _ (by decide) _ | exact fz_toks _ | exact fz_mkss _ | exact Frz.fz) (by first | exact .imm _ | exact .nil _ _ _ (by decide) _ | exact fz_toks _ | exact fz_mkss _ | exact Frz.fz) (by first | exact .imm _ | exact .nil _ _ _ (by decide) _ | exact fz_toks _ | exact fz_mkss _ | exact Frz.fz) (by first | exact .imm _ | exact .nil _ _ _ (by decide) _ | exact fz_toks _ | exact fz_mkss _ | exact Frz.fz) (by first | exact .imm _ | exact .nil _ _ _ (by decide) _ | exact fz_toks _ | exact fz_mkss _ | exact Frz.fz)) (.imm _) (.imm _)
  have hr6 := hc6; (try simp only [hcs, Int.reduceToNat] at hc6)
  refine srg fun N h24 => ?_
  refine st0 (hop_eql rfl rfl) rfl rfl ?_
  refine sta rfl rfl rfl ?_
  refine snl h24 ?_
  refine hw_cond _ rfl (fun hc7 => ?_) (fun hc7 => ?_)
  · have hr7 := hc7; (try simp only [hcs, Int.reduceToNat] at hc7)
    refine srg fun N h25 => ?_
    refine stm rfl rfl rfl ?_
    refine st0 (hop_build (hs := [(0, 1, _), (1, 1, _), (2, 1, _), (3, 1, _)]) st_80 rfl rfl ⟨rfl, rfl, rfl, rfl, rfl, ⟨rfl, rfl, rfl, rfl, rfl, ⟨rfl, rfl, rfl, rfl, rfl, ⟨rfl, rfl, rfl, rfl, rfl, trivial⟩⟩⟩⟩) rfl rfl ?_
    refine stm rfl rfl rfl ?_
    refine st0 (hop_addi rfl rfl rfl (by omega) (by omega)) rfl rfl ?_
    refine hm_s1 (hol_storeW ty_80 rfl rfl rfl rfl) rfl rfl (pre1 rfl) (c' := 2) rfl ?_
    refine sta rfl rfl rfl ?_
    refine sta rfl rfl rfl ?_
    refine snl h25 ?_
    refine hw_ret ?_
    refine hq_block_ret ?_
    refine hq_then_ret ?_
    refine hq_ret3 rfl (rvl_cell rfl rfl ty_80 (fun h => by first | rfl | cases h) rfl rfl) (rval_tmp rfl) (rval_tmp rfl) [] rfl pre0 ?_
    have e : oneF s i = (⟨5, i, 1, -1, []⟩, ((i + 1 : Nat) : Int), 0) := (by unfold oneF; rw [if_neg h0, if_neg hc3, if_neg hc4, if_neg hc5, if_neg hc6, if_pos hc7]); rw [e]; exact fz_t3 (fz_agg5 (by first | exact .imm _ | exact .nil _ _ _ (by decide) _ | exact fz_toks _ | exact fz_mkss _ | exact Frz.fz) (by first | exact .imm _ | exact .nil _ _ _ (by decide) _ | exact fz_toks _ | exact fz_mkss _ | exact Frz.fz) (by first | exact .imm _ | exact .nil _ _ _ (by decide) _ | exact fz_toks _ | exact fz_mkss _ | exact Frz.fz) (by first | exact .imm _ | exact .nil _ _ _ (by decide) _ | exact fz_toks _ | exact fz_mkss _ | exact Frz.fz) (by first | exact .imm _ | exact .nil _ _ _ (by decide) _ | exact fz_toks _ | exact fz_mkss _ | exact Frz.fz)) (.imm _) (.imm _)
  have hr7 := hc7; (try simp only [hcs, Int.reduceToNat] at hc7)
  refine srg fun N h26 => ?_
  refine st0 (hop_eql rfl rfl) rfl rfl ?_
  refine sta rfl rfl rfl ?_
  refine snl h26 ?_
  refine hw_cond _ rfl (fun hc8 => ?_) (fun hc8 => ?_)
  · have hr8 := hc8; (try simp only [hcs, Int.reduceToNat] at hc8)
    refine srg fun N h27 => ?_
    refine stm rfl rfl rfl ?_
    refine st0 (hop_build (hs := [(0, 1, _), (1, 1, _), (3, 1, _)]) st_80 rfl rfl ⟨rfl, rfl, rfl, rfl, rfl, ⟨rfl, rfl, rfl, rfl, rfl, ⟨rfl, rfl, rfl, rfl, rfl, trivial⟩⟩⟩) rfl rfl ?_
    refine stm rfl rfl rfl ?_
    refine st0 (hop_addi rfl rfl rfl (by omega) (by omega)) rfl rfl ?_
    refine hm_s1 (hol_storeW ty_80 rfl rfl rfl rfl) rfl rfl (pre1 rfl) (c' := 2) rfl ?_
    refine sta rfl rfl rfl ?_
    refine sta rfl rfl rfl ?_
    refine snl h27 ?_
    refine hw_ret ?_
    refine hq_block_ret ?_
    refine hq_then_ret ?_
    refine hq_ret3 rfl (rvl_cell rfl rfl ty_80 (fun h => by first | rfl | cases h) rfl rfl) (rval_tmp rfl) (rval_tmp rfl) [] rfl pre0 ?_
    have e : oneF s i = (⟨5, i, 0, 1, []⟩, ((i + 1 : Nat) : Int), 0) := (by unfold oneF; rw [if_neg h0, if_neg hc3, if_neg hc4, if_neg hc5, if_neg hc6, if_neg hc7, if_pos hc8]); rw [e]; exact fz_t3 (fz_agg5 (by first | exact .imm _ | exact .nil _ _ _ (by decide) _ | exact fz_toks _ | exact fz_mkss _ | exact Frz.fz) (by first | exact .imm _ | exact .nil _ _ _ (by decide) _ | exact fz_toks _ | exact fz_mkss _ | exact Frz.fz) (by first | exact .imm _ | exact .nil _ _ _ (by decide) _ | exact fz_toks _ | exact fz_mkss _ | exact Frz.fz) (by first | exact .imm _ | exact .nil _ _ _ (by decide) _ | exact fz_toks _ | exact fz_mkss _ | exact Frz.fz) (by first | exact .imm _ | exact .nil _ _ _ (by decide) _ | exact fz_toks _ | exact fz_mkss _ | exact Frz.fz)) (.imm _) (.imm _)
  have hr8 := hc8; (try simp only [hcs, Int.reduceToNat] at hc8)
  refine srg fun N h28 => ?_
  refine st0 (hop_eql rfl rfl) rfl rfl ?_
  refine sta rfl rfl rfl ?_
  refine snl h28 ?_
  refine hw_cond _ rfl (fun hc9 => ?_) (fun hc9 => ?_)
  · have hr9 := hc9; (try simp only [hcs, Int.reduceToNat] at hc9)
    refine srg fun N h29 => ?_
    refine stm rfl rfl rfl ?_
    refine stm rfl rfl rfl ?_
    refine st0 (hop_call0 (xs := [_, _]) (refCount_h s i hs hi) ⟨rfl, ⟨rfl, trivial⟩⟩ ⟨(Fz.eq rfl), ⟨(Fz.eq rfl), trivial⟩⟩) rfl rfl ?_
    refine st0 (hop_extract rfl rfl) rfl rfl ?_
    refine st0 (hop_extract rfl rfl) rfl rfl ?_
    refine st0 (hop_extract rfl rfl) rfl rfl ?_
    refine hm_s1 (hol_storeW ty_80 rfl rfl rfl rfl) rfl rfl (pre1 rfl) (c' := 2) rfl ?_
    refine sta rfl rfl rfl ?_
    refine sta rfl rfl rfl ?_
    refine snl h29 ?_
    refine hw_ret ?_
    refine hq_block_ret ?_
    refine hq_then_ret ?_
    refine hq_ret3 rfl (rvl_cell rfl rfl ty_80 (fun h => by first | rfl | cases h) rfl rfl) (rval_tmp rfl) (rval_tmp rfl) [] rfl pre0 ?_
    have e : oneF s i = countF s i := (by unfold oneF; rw [if_neg h0, if_neg hc3, if_neg hc4, if_neg hc5, if_neg hc6, if_neg hc7, if_neg hc8, if_pos hc9]); rw [e]; exact fz_t3 (fz_agg5 (by first | exact .imm _ | exact .nil _ _ _ (by decide) _ | exact fz_toks _ | exact fz_mkss _ | exact Frz.fz) (by first | exact .imm _ | exact .nil _ _ _ (by decide) _ | exact fz_toks _ | exact fz_mkss _ | exact Frz.fz) (by first | exact .imm _ | exact .nil _ _ _ (by decide) _ | exact fz_toks _ | exact fz_mkss _ | exact Frz.fz) (by first | exact .imm _ | exact .nil _ _ _ (by decide) _ | exact fz_toks _ | exact fz_mkss _ | exact Frz.fz) (by first | exact .imm _ | exact .nil _ _ _ (by decide) _ | exact fz_toks _ | exact fz_mkss _ | exact Frz.fz)) (.imm _) (.imm _)
  have hr9 := hc9; (try simp only [hcs, Int.reduceToNat] at hc9)
  refine hw_skip ?_
  refine hq_block ?_
  refine h14 _ ?_
  refine srg fun N h30 => ?_
  refine st0 (hop_build (hs := []) st_80 rfl rfl trivial) rfl rfl ?_
  refine stm rfl rfl rfl ?_
  refine hm_s1 (hol_storeW ty_80 rfl rfl rfl rfl) rfl rfl (pre1 rfl) (c' := 2) rfl ?_
  refine sta rfl rfl rfl ?_
  refine sta rfl rfl rfl ?_
  refine snl h30 ?_
  refine hw_ret ?_
  refine hq_ret3 rfl (rvl_cell rfl rfl ty_80 (fun h => by first | rfl | cases h) rfl rfl) (rval_tmp rfl) (rval_tmp rfl) [] rfl pre0 ?_
  have e : oneF s i = (sgZ, (i : Int), 2) := (by unfold oneF; rw [if_neg h0, if_neg hc3, if_neg hc4, if_neg hc5, if_neg hc6, if_neg hc7, if_neg hc8, if_neg hc9]); rw [e]; exact fz_t3 (fz_agg5 (by first | exact .imm _ | exact .nil _ _ _ (by decide) _ | exact fz_toks _ | exact fz_mkss _ | exact Frz.fz) (by first | exact .imm _ | exact .nil _ _ _ (by decide) _ | exact fz_toks _ | exact fz_mkss _ | exact Frz.fz) (by first | exact .imm _ | exact .nil _ _ _ (by decide) _ | exact fz_toks _ | exact fz_mkss _ | exact Frz.fz) (by first | exact .imm _ | exact .nil _ _ _ (by decide) _ | exact fz_toks _ | exact fz_mkss _ | exact Frz.fz) (by first | exact .imm _ | exact .nil _ _ _ (by decide) _ | exact fz_toks _ | exact fz_mkss _ | exact Frz.fz)) (.imm _) (.imm _)
theorem sb_sg {f : Nat → HV} (x : Sg) (h0 : Sb (f 0) (sgF x 0)) (h1 : Sb (f 1) (sgF x 1)) (h2 : Sb (f 2) (sgF x 2)) (h3 : Sb (f 3) (sgF x 3)) (h4 : Sb (f 4) (sgF x 4)) : ∀ j, j < 5 → Sb (f j) (sgF x j) := fun j hj => by
  match j, hj with
  | 0, _ => exact h0
  | 1, _ => exact h1
  | 2, _ => exact h2
  | 3, _ => exact h3
  | 4, _ => exact h4
theorem sg_fz7 {sh : List (Nat × HObj)} (x : Sg) (j : Nat) : Fz sh (sgF x j) (sgF x j) := by
  match j with
  | 0 => exact .imm _
  | 1 => exact .imm _
  | 2 => exact .imm _
  | 3 => exact .imm _
  | j + 4 => exact .imm _
theorem refLex_h (s : List UInt8) (hs : s.length ≤ 9223372036854775807) : HPure Tryz.prog 38 [strV s] (lexH (lexO (lexV s))) := by
  have hV := lexV_at s
  refine hpure_of Tryz.func38 rfl (by kernel_rfl) _ _ _ rfl 47 rfl rfl (fun w F => ?_)
  refine srg fun N h1 => ?_
  refine sta rfl rfl rfl ?_
  refine sta rfl rfl rfl ?_
  refine sta rfl rfl rfl ?_
  refine snl h1 ?_
  refine srg fun N h2 => ?_
  refine sta rfl rfl rfl ?_
  refine snl h2 ?_
  refine hw_seq (fun Nh3 h3 => ?_)
  refine srg fun N h4 => ?_
  refine sta rfl rfl rfl ?_
  refine snl h4 ?_
  refine hw_block ?_
  refine hw_own 5 5 5 80 ((sgsF [])) rfl (by decide) rfl (c' := 1) rfl ?_
  refine hw_loopc (α := Nat × List Sg × Nat × Nat) (fun x c => ⟨47, [(0, .v (strV s)), (6, .v (intV x.1)), (5, .v (.os 5 x.2.2.1 0 x.2.2.2))], [(5, ⟨x.2.2.1, x.2.2.2, 5, 80, 0, sgsF x.2.1⟩)], c⟩) (fun x => x.1 ≤ s.length ∧ x.2.1.length ≤ 200 ∧ x.2.2.2 = x.2.1.length ∧ lexAt s x.1 x.2.1 = lexV s) (fun x => s.length - x.1) ((0, [], 0, 0)) (by exact ⟨Nat.zero_le _, Nat.zero_le _, rfl, hV⟩) (hsub_of rfl (Nat.le_refl _) (TmSub.cons rfl (Sb.refl _) (TmSub.cons rfl (Sb.refl _) (TmSub.cons rfl (Sb.refl _) TmSub.nil))) (HpSub.cons rfl (OSub.refl _) HpSub.nil)) (fun x c hx NhL5 hL5 => ?_)
  revert hx hL5; obtain ⟨i, out, gl, n⟩ := x; intro hx hL5; dsimp only at hx hL5 ⊢
  obtain ⟨hi, hol, hn, hL⟩ := hx
  refine hw_seq (fun Nh6 h6 => ?_)
  refine srg fun N h7 => ?_
  refine stm rfl rfl rfl ?_
  refine stm rfl rfl rfl ?_
  refine st0 (hop_len_strl (T := 9) rfl (by kernel_rfl) rfl) rfl rfl ?_
  refine st0 (hop_lss rfl rfl) rfl rfl ?_
  refine snl h7 ?_
  refine hw_cond _ rfl (fun hc0 => ?_) (fun hc0 => ?_)
  · have hr0 := hc0; (try simp only [hcs, Int.reduceToNat] at hc0)
    have hil : i < s.length := (by omega)
    refine hw_skip ?_
    refine h6 _ ?_
    refine hw_block ?_
    refine hw_seq (fun Nh8 h8 => ?_)
    refine srg fun N h9 => ?_
    refine stm rfl rfl rfl ?_
    refine stm rfl rfl rfl ?_
    refine st0 (HOp.val (v' := .imm (.int .u8 (bz s i))) (hop_ix_strl (by kernel_rfl) rfl rfl (by omega) (by omega)) (by rw [bz_in hil, Int.toNat_natCast])) rfl rfl ?_
    refine st0 (hop_eql rfl rfl) rfl rfl ?_
    refine snl h9 ?_
    refine hw_cond _ rfl (fun hc1 => ?_) (fun hc1 => ?_)
    · have hr1 := hc1; (try simp only [hcs, Int.reduceToNat] at hc1)
      refine srg fun N h10 => ?_
      refine stm rfl rfl rfl ?_
      refine st0 (HOp.val (v' := intV ((i + 1 : Nat) : Int)) (hop_addi rfl rfl rfl (by omega) (by omega)) (rfl)) rfl rfl ?_
      refine sta rfl rfl rfl ?_
      refine snl h10 ?_
      refine hw_exit ?_
      refine hq_then_exit ?_
      refine hq_block_here ?_
      exact hL5 ((i + 1, out, gl, n)) _ _ (by (try dsimp only); exact ⟨hil, hol, hn, by rw [← lexAt_sp hil hc1]; exact hL⟩) (by (try dsimp only); omega) (hsub_of rfl (Nat.le_refl _) (TmSub.cons rfl (Sb.refl _) (TmSub.cons rfl (Sb.refl _) (TmSub.cons rfl (Sb.refl _) TmSub.nil))) (HpSub.cons rfl (OSub.refl _) HpSub.nil))
    have hr1 := hc1; (try simp only [hcs, Int.reduceToNat] at hc1)
    refine hw_skip ?_
    refine h8 _ ?_
    refine hw_seq (fun Nh11 h11 => ?_)
    refine srg fun N h12 => ?_
    refine stm rfl rfl rfl ?_
    refine st0 (hop_len_os (T := 76) rfl (elOf_spec el_76).1 rfl) rfl rfl ?_
    refine st0 (hop_eql rfl rfl) rfl rfl ?_
    refine stm rfl rfl rfl ?_
    refine stg 23 (fun hb => hop_move rfl) rfl rfl rfl rfl rfl ?_
    refine stg 23 (fun hb => hop_move rfl) rfl rfl rfl rfl rfl ?_
    refine stg 23 (fun hb => HOp.val (v' := .imm (.int .u8 (bz s i))) (hop_ix_strl (by kernel_rfl) rfl rfl (by (simp at hb; first | omega | (dsimp only; omega) | (simp <;> omega))) (by (simp at hb; first | omega | (dsimp only; omega) | (simp <;> omega)))) (by rw [bz_in hil, Int.toNat_natCast])) rfl rfl rfl rfl rfl ?_
    refine stg 23 (fun hb => hop_call0 (xs := [_]) (refBegins_h _) ⟨rfl, trivial⟩ ⟨(Fz.eq rfl), trivial⟩) rfl rfl rfl rfl rfl ?_
    refine hq_p 28 (hstep_and _ _ rfl rfl rfl) rfl rfl rfl ?_
    refine hseq_nilU (by rfl) (by simp only [dropUn, slots]; exact rfl) ?_
    refine h12 _ ?_
    refine hw_cond _ rfl (fun hc2 => ?_) (fun hc2 => ?_)
    · have hr2 := hc2; (try simp only [hcs, Int.reduceToNat] at hc2)
      refine srg fun N h13 => ?_
      refine stm rfl rfl rfl ?_
      refine sta rfl rfl rfl ?_
      refine sta rfl rfl rfl ?_
      refine sta rfl rfl rfl ?_
      refine snl h13 ?_
      refine hw_ret ?_
      refine hq_then_ret ?_
      refine hq_block_ret ?_
      refine hq_then_ret ?_
      refine hq_block_ret ?_
      refine hq_then_ret ?_
      refine hq_ret3 rfl (rval_tmp rfl) (rval_tmp rfl) (rval_tmp rfl) [] rfl pre0 ?_
      have e : lexV s = .error ((i : Int), 4) := (by rw [← hL]; exact lexAt_long hil hc1 (by omega) hc2.2); rw [e]; exact fz_t3 (.nil 0 5 _ (by decide) none) (.imm _) (.imm _)
    have hr2 := hc2; (try simp only [hcs, Int.reduceToNat] at hc2)
    refine hw_skip ?_
    refine h11 _ ?_
    refine hw_seq (fun Nh14 h14 => ?_)
    have hsm := one_same s i hil; rcases hone : oneR s i with e | ⟨x, q⟩ <;> rw [hone] at hsm
    · skip
      refine hw_region ?_
      refine stm rfl rfl rfl ?_
      refine stm rfl rfl rfl ?_
      refine st0 (hop_call0 (xs := [_, _]) (refOne_h s i hs hil) ⟨rfl, ⟨rfl, trivial⟩⟩ ⟨(Fz.eq rfl), ⟨(Fz.eq rfl), trivial⟩⟩) rfl rfl ?_
      refine stm rfl rfl rfl ?_
      refine st0 (hop_extract rfl rfl) rfl rfl ?_
      refine st0 (HOp.val (v' := intV e.1) (hop_extract rfl rfl) (by rw [← hsm.1]; rfl)) rfl rfl ?_
      refine st0 (HOp.val (v' := intV e.2) (hop_extract rfl rfl) (by rw [← hsm.1]; rfl)) rfl rfl ?_
      refine hm_1 7 (hop_alloc (id := 7) (sz := 5) zc_80 rfl rfl (nb rfl) (nb rfl)) rfl rfl pre0 rfl rfl (c' := c + 1) rfl ?_
      refine hm_s1 (hol_storeW ty_80 rfl rfl rfl rfl) rfl rfl (pre1 rfl) (c' := c + 2) rfl ?_
      refine sta rfl rfl rfl ?_
      refine sta rfl rfl rfl ?_
      refine snl h14 ?_
      refine hw_seq (fun Nh15 h15 => ?_)
      refine srg fun N h16 => ?_
      refine stm rfl rfl rfl ?_
      refine st0 (hop_neq rfl rfl) rfl rfl ?_
      refine snl h16 ?_
      refine hw_cond _ rfl (fun hc3 => ?_) (fun hc3 => ?_)
      · have hr3 := hc3; (try simp only [hcs, Int.reduceToNat] at hc3)
        refine srg fun N h17 => ?_
        refine stm rfl rfl rfl ?_
        refine stm rfl rfl rfl ?_
        refine sta rfl rfl rfl ?_
        refine sta rfl rfl rfl ?_
        refine sta rfl rfl rfl ?_
        refine snl h17 ?_
        refine hw_ret ?_
        refine hq_then_ret ?_
        refine hq_block_ret ?_
        refine hq_then_ret ?_
        refine hq_block_ret ?_
        refine hq_then_ret ?_
        refine hq_ret3 rfl (rval_tmp rfl) (rval_tmp rfl) (rval_tmp rfl) [] rfl pre0 ?_
        have e' : lexV s = .error e := (by rw [← hL]; rcases Classical.em (out.length = 200) with h200 | h200; (have hb : beginZ (bz s i) = false := (by have h := hr2; rw [show ((n : Int) == 200) = true by (rw [hn, h200]; try rfl), Bool.true_and] at h; exact h); rw [lexAt_odd hil hc1 h200 hb]; rw [one_nobegin hb] at hone; injection hone with hone; rw [hone]); exact lexAt_err hil hc1 h200 hone); rw [e']; exact fz_t3 (.nil 0 5 _ (by decide) none) (.imm _) (.imm _)
      have hr3 := hc3; (try simp only [hcs, Int.reduceToNat] at hc3)
      exfalso; exact hsm.2 (by simpa using hr3)
    · skip
      refine hw_region ?_
      refine stm rfl rfl rfl ?_
      refine stm rfl rfl rfl ?_
      refine st0 (hop_call0 (xs := [_, _]) (refOne_h s i hs hil) ⟨rfl, ⟨rfl, trivial⟩⟩ ⟨(Fz.eq rfl), ⟨(Fz.eq rfl), trivial⟩⟩) rfl rfl ?_
      refine stm rfl rfl rfl ?_
      refine st0 (HOp.val (v' := sgH x) (hop_extract rfl rfl) (by rw [show oneF s i = (x, (q : Int), 0) from hsm]; rfl)) rfl rfl ?_
      refine st0 (HOp.val (v' := intV q) (hop_extract rfl rfl) (by rw [show oneF s i = (x, (q : Int), 0) from hsm]; rfl)) rfl rfl ?_
      refine st0 (HOp.val (v' := intV 0) (hop_extract rfl rfl) (by rw [show oneF s i = (x, (q : Int), 0) from hsm]; rfl)) rfl rfl ?_
      refine hm_1 7 (hop_alloc (id := 7) (sz := 5) zc_80 rfl rfl (nb rfl) (nb rfl)) rfl rfl pre0 rfl rfl (c' := c + 1) rfl ?_
      refine hm_s1 (hol_storeW ty_80 rfl rfl rfl rfl) rfl rfl (pre1 rfl) (c' := c + 2) rfl ?_
      refine sta rfl rfl rfl ?_
      refine sta rfl rfl rfl ?_
      refine snl h14 ?_
      refine hw_seq (fun Nh18 h18 => ?_)
      refine srg fun N h19 => ?_
      refine stm rfl rfl rfl ?_
      refine st0 (hop_neq rfl rfl) rfl rfl ?_
      refine snl h19 ?_
      refine hw_cond _ rfl (fun hc3 => ?_) (fun hc3 => ?_)
      · have hr3 := hc3; (try simp only [hcs, Int.reduceToNat] at hc3)
        exfalso; exact absurd hr3 (by decide)
      have hr3 := hc3; (try simp only [hcs, Int.reduceToNat] at hc3)
      refine hw_skip ?_
      refine h18 _ ?_
      refine hw_seq (fun Nh20 h20 => ?_)
      have hq := oneR_le hone; have h200 : ¬ out.length = 200 := (fun h200 => by have h := hr2; rw [show ((n : Int) == 200) = true by (rw [hn, h200]; try rfl), Bool.true_and] at h; rw [one_nobegin h] at hone; cases hone)
      refine hw_region ?_
      refine stm rfl rfl rfl ?_
      refine st1 (hol_load ty_80 rfl (nb rfl) (nb rfl) (fun h => (by cases h))) rfl rfl rfl ?_
      refine hm_1 43 (hop_buildSlice (id := 43) (hs := [_]) ei_76 (nb rfl) rfl (nb rfl) ⟨rfl, rfl, rfl, rfl, trivial⟩) rfl rfl pre0 rfl rfl (c' := c + 3) rfl ?_
      refine hm_1 44 (hol_append ei_76 (nb rfl) rfl (by omega) (nb rfl) (srl_os0 rfl (nb rfl)) (by omega) rfl) rfl rfl (preC rfl (pre1 rfl)) rfl rfl (c' := c + 4) rfl ?_
      refine sta rfl rfl rfl ?_
      refine snl h20 ?_
      refine hw_region ?_
      refine stm rfl rfl rfl ?_
      refine sta rfl rfl rfl ?_
      refine hseq_nil ?_
      refine hq_block ?_
      exact hL5 ((q, out ++ [x], c + 3, n + 1)) _ _ (by (try dsimp only); exact ⟨hq.2, by rw [List.length_append]; show out.length + 1 ≤ 200; omega, by rw [List.length_append, hn]; rfl, by rw [← lexAt_go hil hc1 h200 hone]; exact hL⟩) (by (try dsimp only); omega) (hsub_of rfl (Nat.le_refl _) (TmSub.cons rfl (Sb.refl _) (TmSub.cons rfl (Sb.refl _) (TmSub.cons rfl (Sb.refl _) TmSub.nil))) (HpSub.cons rfl (OSub.of fun i j hi hj => sb_cat (l := out) (k := [x]) (enc := sgF) (d := default) hn (fun i j _ _ => .refl _) (sb_one (x := x) (enc := sgF) (d := default) (sb_sg x (.refl _) (.refl _) (.refl _) (.refl _) (.refl _))) i j (by rw [List.length_append, ← hn]; exact hi) hj) HpSub.nil))
  have hr0 := hc0; (try simp only [hcs, Int.reduceToNat] at hc0)
  refine hw_exit ?_
  refine hq_then_exit ?_
  refine hq_then_exit ?_
  refine hq_block_here ?_
  refine h3 _ ?_
  refine srg fun N h21 => ?_
  refine stm rfl rfl rfl ?_
  refine sta rfl rfl rfl ?_
  refine sta rfl rfl rfl ?_
  refine sta rfl rfl rfl ?_
  refine snl h21 ?_
  refine hw_ret ?_
  refine hq_ret3 rfl (rval_tmp rfl) (rval_tmp rfl) (rval_tmp rfl) [(5, _)] rfl (preC rfl pre0) ?_
  have e : lexV s = .ok out := (by rw [← hL]; exact lexAt_end (by omega)); rw [e]; exact fz_t3 (fz_row (l := out) (enc := sgF) (d := default) (List.mem_cons_self ..) rfl hn (Nat.le_refl _) (fun i j hi hj => sg_fz7 _ j)) (.imm _) (.imm _)
end Go.Proofs.YtldjnmljnlhaaaaGreatDoor

namespace Go.Proofs.YtldjnmljnlhaaaaGreatDoor
set_option linter.unusedSimpArgs false
set_option linter.unusedVariables false
set_option maxRecDepth 100000
open Go.RowKit

end Go.Proofs.YtldjnmljnlhaaaaGreatDoor

namespace Go.Proofs.YtldjnmljnlhaaaaGreatDoor
set_option linter.unusedSimpArgs false
set_option linter.unusedVariables false
set_option maxRecDepth 100000
open Go.RowKit

instance frz_sgs (l : List Sg) : Frz (sgsV l) := ⟨.sl _ _ _ _ fun i j _ _ => sg_fz _ j⟩
theorem lexR_len {s : List UInt8} : ∀ {f i : Nat} {out l : List Sg}, out.length ≤ 200 → lexR s f i out = .ok l → l.length ≤ 200
  | 0, i, out, l, h, e => by injection e with e; subst e; exact h
  | f + 1, i, out, l, h, e => by
    simp only [lexR] at e
    split at e
    · injection e with e; subst e; exact h
    split at e
    · exact lexR_len h e
    split at e
    · split at e <;> cases e
    · rename_i hne
      split at e
      · cases e
      · exact lexR_len (by rw [List.length_append]; show out.length + 1 ≤ 200; omega) e
theorem lexO_len (s : List UInt8) : (lexO (lexV s)).1.length ≤ 200 := by
  cases h : lexV s with
  | error e => exact Nat.zero_le _
  | ok l => exact lexR_len (Nat.zero_le _) h
end Go.Proofs.YtldjnmljnlhaaaaGreatDoor

namespace Go.Proofs.YtldjnmljnlhaaaaGreatDoor
set_option linter.unusedSimpArgs false
set_option linter.unusedVariables false
set_option maxRecDepth 100000
open Go.RowKit

theorem lexR_err {s : List UInt8} : ∀ {f i : Nat} {out : List Sg} {e : Int × Int}, lexR s f i out = .error e → e.2 ≠ 0
  | 0, i, out, e, h => by cases h
  | f + 1, i, out, e, h => by
    simp only [lexR] at h
    split at h
    · cases h
    rename_i hi
    split at h
    · exact lexR_err h
    split at h
    · split at h
      · injection h with h; subst h; show (4 : Int) ≠ 0; decide
      · injection h with h; subst h; exact wrong_ne s i
    · split at h
      · rename_i e' he
        injection h with h; subst h
        have := one_same s i (by omega)
        rw [he] at this
        exact this.2
      · exact lexR_err h
theorem lexV_err {s : List UInt8} {e : Int × Int} (h : lexV s = .error e) : (lexO (.error e)).2.2 ≠ 0 := lexR_err h
end Go.Proofs.YtldjnmljnlhaaaaGreatDoor

namespace Go.Proofs.YtldjnmljnlhaaaaGreatDoor
set_option linter.unusedSimpArgs false
set_option linter.unusedVariables false
set_option maxRecDepth 100000
open Go.RowKit

/-- Where a choice's loop stands. -/
def ChI (l : List Sg) (p : Nat) (out : List Pt) (bad : Bool) (q : Nat) (o : List Pt) (ks : List Int) : Prop :=
  (1 ≤ ks.length ∧ ks.length ≤ 2 * (q - p) + 1) ∧ p ≤ q ∧ q ≤ l.length ∧ match bad with
  | true => BadS l p q ∧ o.length + (if ks.length = 1 then 0 else 1) ≤ out.length + 2 * (q - p)
  | false => (kd l q ≠ 1 ∧ kd l q ≠ 2) ∧ ∃ ts, RowsS l p q ts ∧ o = out ++ T.flatL out.length ts ∧ ks = rootsL out.length ts
theorem ch_start {l : List Sg} {p q g : Nat} {out o : List Pt} {t : Option T} {r : Int} (h : RsOk l 2 p out ⟨t, q, g, o, r⟩) : ChI l p out t.isNone q o [r] := by
  have hle := rs_le h
  refine ⟨⟨Nat.le_refl _, by show 1 ≤ _; omega⟩, hle.1, hle.2.1, ?_⟩
  cases t with
  | none => exact ⟨h.1, h.2⟩
  | some t => exact ⟨h.2.2.2.1 (Nat.le_refl _), [t], rows_one h.1, by rw [show o = _ from h.2.1]; simp [T.flatL], by rw [show r = _ from h.2.2.1]; rfl⟩
theorem ch_next {l : List Sg} {p q q' g : Nat} {out o o' : List Pt} {ks : List Int} {t : Option T} {r : Int} (h : ChI l p out false q o ks) (hk : kd l q = 4) (h2 : RsOk l 2 (q + 1) o ⟨t, q', g, o', r⟩) : ChI l p out t.isNone q' o' (ks ++ [r]) := by
  have hle : q + 1 ≤ q' ∧ q' ≤ l.length ∧ o'.length ≤ o.length + 2 * (q' - (q + 1)) := rs_le h2
  obtain ⟨h1, hpq, hql, _, ts, hi, ho, hks⟩ := h
  have hlt := rows_lt hi
  have hol : o.length = out.length + T.sizeL ts := by rw [ho, List.length_append, T.flatL_len]
  have hkl : ks.length = ts.length := by rw [hks, rootsL_len]
  refine ⟨by rw [List.length_append]; show 1 ≤ ks.length + 1 ∧ ks.length + 1 ≤ _; omega, by omega, hle.2.1, ?_⟩
  cases t with
  | none =>
    refine ⟨bad_rows hi hk h2.1, ?_⟩
    rw [if_neg (by rw [List.length_append]; show ¬ ks.length + 1 = 1; omega)]
    have := hi.1
    omega
  | some t =>
    refine ⟨h2.2.2.2.1 (Nat.le_refl _), ts ++ [t], rows_snoc hi hk h2.1, ?_, ?_⟩
    · rw [show o' = _ from h2.2.1, ho, T.flatL_snoc, List.append_assoc, List.length_append, T.flatL_len]
    · rw [show r = _ from h2.2.2.1, hks, rootsL_snoc, hol]
theorem ch_le {l : List Sg} {p q : Nat} {out o : List Pt} {ks : List Int} {bad : Bool} (h : ChI l p out bad q o ks) : o.length ≤ out.length + 2 * (q - p) := by
  obtain ⟨h1, hpq, hql, h⟩ := h
  cases bad with
  | true => have := h.2; omega
  | false =>
    obtain ⟨_, ts, hi, ho, hks⟩ := h
    have := rows_lt hi
    rw [ho, List.length_append, T.flatL_len]; omega
theorem ch_meas {l : List Sg} {v q q' g : Nat} {o o' : List Pt} {t : Option T} {r : Int} (hq : q < l.length) (h : RsOk l v (q + 1) o ⟨t, q', g, o', r⟩) : 2 * (l.length - q') + (if t.isNone then 0 else 1) < 2 * (l.length - q) + (if false then 0 else 1) := by
  have hle : q + 1 ≤ q' ∧ q' ≤ l.length ∧ o'.length ≤ o.length + 2 * (q' - (q + 1)) := rs_le h
  cases t with
  | none => show _ + 0 < _ + 1; omega
  | some t => show _ + 1 < _ + 1; omega
theorem ch_done {l : List Sg} {p q : Nat} {out o : List Pt} {ks : List Int} {bad : Bool} (h : ChI l p out bad q o ks) (hk : bad = true ∨ kd l q ≠ 4) : ∃ tt : Option T, tt.isNone = bad ∧ ∀ y, manyP 3 o ks y → RsOk l 3 p out ⟨tt, q, y.1, y.2.1, y.2.2⟩ := by
  obtain ⟨h1, hpq, hql, h⟩ := h
  cases bad with
  | true => exact ⟨none, rfl, fun y hy => ⟨h.1, many_le (l := l) h.2 hy⟩⟩
  | false =>
    obtain ⟨hk2, ts, hi, ho, hks⟩ := h
    have hk := hk.resolve_left (by simp)
    have hkl : ks.length = ts.length := by rw [hks, rootsL_len]
    by_cases h2 : ts.length = 1
    · match ts, h2 with
      | [t], _ =>
        refine ⟨some t, rfl, fun y hy => ?_⟩
        have hy : y.2 = (o, ks.getD 0 0) := by unfold manyP at hy; rwa [if_pos (by simpa using hkl)] at hy
        refine ⟨rows_choice1 hi, ?_, ?_, fun _ => hk2, fun _ => hk⟩
        · show y.2.1 = _; rw [hy, ho]; simp [T.flatL]
        · show y.2.2 = _; rw [hy, hks]; rfl
    · refine ⟨some (.many 3 ts), rfl, fun y hy => ?_⟩
      have hy : y.2 = (o ++ [⟨3, 0, 0, [], ks⟩], (o.length : Int)) := by unfold manyP at hy; rwa [if_neg (by omega)] at hy
      refine ⟨rows_choice hi (by have := hi.1; omega), ?_, ?_, fun _ => hk2, fun _ => hk⟩
      · show y.2.1 = _; rw [hy, ho, hks]; simp [T.flat]
      · show y.2.2 = _; rw [hy, ho]; simp [T.root, T.size, T.flatL_len]; omega
theorem choice_h (l : List Sg) (g p : Nat) (hk : KdOk l) (hne : l ≠ []) (hl : l.length ≤ 1000) (hp : p ≤ l.length) (hrow : ∀ p', p ≤ p' → p' ≤ l.length → RsC 85 l 2 g p') : RsC 60 l 3 g p := by
  intro c g2 out ho
  refine hfun_of Tryz.func60 rfl (by kernel_rfl) _ _ _ _ rfl 36 rfl rfl (fun X ok hX => ?_)
  refine srg fun N h1 => ?_
  refine sta rfl rfl rfl ?_
  refine snl h1 ?_
  refine srg fun N h2 => ?_
  refine stm rfl rfl rfl ?_
  refine hf_callR 5 (xs := [_]) (pre := [(9001, _), (9002, _)]) (hrow p (Nat.le_refl _) hp _ g2 out ho) ⟨rfl, trivial⟩ (preC rfl (preC rfl pre0)) rfl rfl (fun x1 c1 hx => ?_)
  obtain ⟨t1, q1, g3, o3, r⟩ := x1
  (try dsimp only)
  refine hm_1 6 (hop_buildSlice (id := 6) (hs := [_]) ei_25 (nb rfl) rfl (nb rfl) ⟨rfl, rfl, rfl, rfl, trivial⟩) rfl rfl pre0 rfl rfl (c' := c1 + 1) rfl ?_
  refine sta rfl rfl rfl ?_
  refine snl h2 ?_
  refine hw_seq (fun Nh3 h3 => ?_)
  refine hw_block ?_
  refine hw_loopc (α := Bool × Nat × List Pt × List Int × Nat × Nat) (fun x c => ⟨36, [(0, .v (.pt 9001 g 0 0)), (3, .v (.os 6 x.2.2.2.2.2 0 x.2.2.2.1.length))], [(9001, erO g l x.2.1 x.2.2.2.2.1 x.2.2.1.length x.1), (9002, ptsO x.2.2.2.2.1 x.2.2.1), (6, ⟨x.2.2.2.2.2, x.2.2.2.1.length, 1, 3, 0, kidsF x.2.2.2.1⟩)], c⟩) (fun x => ChI l p out x.1 x.2.1 x.2.2.1 x.2.2.2.1) (fun x => 2 * (l.length - x.2.1) + (if x.1 then 0 else 1)) ((t1.isNone, q1, o3, [r], g3, c1)) (by exact ch_start hx) (hsub_of rfl (Nat.le_refl _) (TmSub.cons rfl (Sb.refl _) (TmSub.cons rfl (Sb.refl _) TmSub.nil)) (HpSub.cons rfl (OSub.refl _) (HpSub.cons rfl (OSub.refl _) (HpSub.cons rfl (OSub.of fun i j hi hj => by obtain rfl : i = 0 := (by omega); exact .refl _) HpSub.nil)))) (fun x c hx NhL4 hL4 => ?_)
  revert hx hL4; obtain ⟨bad, q, o, ks, gg, gk⟩ := x; intro hx hL4; dsimp only at hx hL4 ⊢
  obtain ⟨hq1, hq2, hq3, hR⟩ := hx
  have hI : ChI l p out bad q o ks := ⟨hq1, hq2, hq3, hR⟩; have hol := ch_le hI
  refine hw_seq (fun Nh5 h5 => ?_)
  refine srg fun N h6 => ?_
  refine stm rfl rfl rfl ?_
  refine st0 (hop_nilcheck_pt rfl) rfl rfl ?_
  refine st0 (hop_fa fd_112_2 rfl) rfl rfl ?_
  refine st1 (hol_load ty_4 rfl (nb rfl) (nb rfl) (fun h => (by rfl))) rfl rfl rfl ?_
  refine st0 (hop_not rfl) rfl rfl ?_
  refine stm rfl rfl rfl ?_
  refine stg 12 (fun hb => hop_move rfl) rfl rfl rfl rfl rfl ?_
  refine stg 12 (fun hb => hop_nilcheck_pt rfl) rfl rfl rfl rfl rfl ?_
  refine stg 12 (fun hb => hop_fa fd_112_0 rfl) rfl rfl rfl rfl rfl ?_
  refine hq_g 16 5 12 true _ (fun hb => hop_funR (xs := [_]) (pre := [(9001, _), (9002, _)]) (kind_h g l q gg o bad hl hI.2.2.1) ⟨rfl, trivial⟩) rfl rfl rfl rfl (preC rfl (preC rfl pre0)) rfl rfl rfl ?_
  refine stg 12 (fun hb => hop_eql rfl rfl) rfl rfl rfl rfl rfl ?_
  refine hq_p 18 (hstep_and _ _ rfl rfl rfl) rfl rfl rfl ?_
  refine hseq_nilU (by rfl) (by simp only [dropUn, slots]; exact rfl) ?_
  refine h6 _ ?_
  refine hw_cond _ rfl (fun hc0 => ?_) (fun hc0 => ?_)
  · have hr0 := hc0; (try simp only [hcs, Int.reduceToNat] at hc0)
    obtain ⟨rfl, hkq⟩ : bad = false ∧ kd l q = 4 := (by cases bad with | true => exact absurd hr0 (by simp) | false => exact ⟨rfl, by simpa using hr0⟩); have hlt := kd_lt (l := l) (i := q) (by rw [hkq]; decide)
    refine hw_skip ?_
    refine h5 _ ?_
    refine hw_block ?_
    refine srg fun N h7 => ?_
    refine stm rfl rfl rfl ?_
    refine st0 (hop_nilcheck_pt rfl) rfl rfl ?_
    refine st0 (hop_fa fd_112_0 rfl) rfl rfl ?_
    refine st0 (hop_fa fd_110_1 rfl) rfl rfl ?_
    refine st1 (hol_load ty_3 rfl (nb rfl) (nb rfl) (fun h => (by rfl))) rfl rfl rfl ?_
    refine st0 (hop_addi rfl rfl rfl (by omega) (by omega)) rfl rfl ?_
    refine st0 (hop_nilcheck_pt rfl) rfl rfl ?_
    refine st0 (hop_fa fd_112_0 rfl) rfl rfl ?_
    refine st0 (hop_fa fd_110_1 rfl) rfl rfl ?_
    refine hm_s1 (hol_store ty_3 rfl rfl rfl rfl (nb rfl) (nb rfl) (nb rfl)) rfl rfl (pre1 rfl) (c' := c + 1) rfl ?_
    refine snl h7 ?_
    refine (hsub_ob 9001 (erO g l (q + 1) gg o.length false) rfl (by exact osub4 (.refl _) (sb_int (by omega)) (.refl _) (.refl _))).wp ?_
    refine hw_region ?_
    refine stm rfl rfl rfl ?_
    refine stm rfl rfl rfl ?_
    refine hf_callR 30 (xs := [_]) (pre := [(9001, _), (9002, _)]) (hrow (q + 1) (by omega) hlt _ gg o (by omega)) ⟨rfl, trivial⟩ (preC rfl (preC rfl pre0)) rfl rfl (fun x2 c2 hx2 => ?_)
    obtain ⟨t, q', g4, o4, r'⟩ := x2
    (try dsimp only)
    refine hm_1 31 (hop_buildSlice (id := 31) (hs := [_]) ei_25 (nb rfl) rfl (nb rfl) ⟨rfl, rfl, rfl, rfl, trivial⟩) rfl rfl pre0 rfl rfl (c' := c2 + 1) rfl ?_
    refine hm_1 32 (hol_append ei_25 (nb rfl) rfl (by omega) (nb rfl) (srl_os0 rfl (nb rfl)) (by omega) rfl) rfl rfl (preC rfl (pre1 rfl)) rfl rfl (c' := c2 + 2) rfl ?_
    refine sta rfl rfl rfl ?_
    refine hseq_nil ?_
    refine hq_block ?_
    exact hL4 ((t.isNone, q', o4, ks ++ [r'], g4, c2 + 1)) _ _ (by (try dsimp only); exact ch_next hI hkq hx2) (by (try dsimp only); exact ch_meas hlt hx2) (hsub_of rfl (Nat.le_refl _) (TmSub.cons rfl (Sb.refl _) (TmSub.cons rfl (sb_os (by simp)) TmSub.nil)) (HpSub.cons rfl (OSub.refl _) (HpSub.cons rfl (OSub.refl _) (HpSub.cons rfl (osub_snoc (enc := fun x _ => intV x) (d := 0) rfl (fun i j _ _ => .refl _) (fun j hj => .refl _)) HpSub.nil))))
  have hr0 := hc0; (try simp only [hcs, Int.reduceToNat] at hc0)
  obtain ⟨tt, rfl, hdone⟩ := ch_done hI (by cases bad with | true => exact .inl rfl | false => right; simpa using hr0)
  refine hw_exit ?_
  refine hq_then_exit ?_
  refine hq_then_exit ?_
  refine hq_block_here ?_
  refine h3 _ ?_
  refine srg fun N h8 => ?_
  refine stm rfl rfl rfl ?_
  refine stm rfl rfl rfl ?_
  refine (hsub_shr 34 [(6, _)] rfl (preC rfl pre0) rfl ((show Fz _ _ (kidsV ks) from fz_row (l := ks) (enc := fun x _ => intV x) (d := 0) (List.mem_cons_self ..) rfl rfl (Nat.le_refl _) (fun i j hi hj => .imm _)))).seq ?_
  refine hf_callR 35 (xs := [_, _, _]) (pre := [(9001, _), (9002, _)]) (many_h _ g l q gg _ tt.isNone o 3 ks rfl (by omega)) ⟨rfl, ⟨rfl, ⟨rfl, trivial⟩⟩⟩ (preC rfl (preC rfl pre0)) rfl rfl (fun x3 c3 hy => ?_)
  obtain ⟨g5, o5, r5⟩ := x3
  (try dsimp only)
  refine sta rfl rfl rfl ?_
  refine snl h8 ?_
  refine hw_ret ?_
  refine hf_retR1 ok hX RetS.one rfl (rval_tmp rfl) [] rfl pre0 (⟨tt, q, g5, o5, r5⟩) (hdone _ hy) (by rfl) (by rfl) ((by first | exact .fz _ _ (.imm _) | exact .os _ _ _ _ _ rfl rfl | exact .pt _ _ _ _ _ rfl rfl | exact .nps _ _ _ rfl rfl | (dsimp only; exact .fz _ _ Frz.fz) | exact .fz _ _ (.tup 0 _ _ (fun i hi => absurd hi (Nat.not_lt_zero _))))) ?_
  exact ⟨⟨_, rfl, okz_er rfl rfl⟩, ⟨⟨_, rfl, okz_pts⟩, trivial⟩⟩
theorem read_h (l : List Sg) (g : Nat) (hk : KdOk l) (hne : l ≠ []) (hl : l.length ≤ 1000) : ∀ n p, l.length - p < n → p ≤ l.length → RsC 60 l 3 g p
  | 0, p, h, _ => absurd h (Nat.not_lt_zero _)
  | n + 1, p, h, hp => choice_h l g p hk hne hl hp fun p1 h1 hp1 => row_h l g p1 hk hne hl hp1 fun p2 h2 hp2 => item_h l g p2 hk hne hl hp2 fun p3 h3 hp3 => read_h l g hk hne hl n p3 (by omega) hp3
/-- What a text's parts are. -/
inductive ParseIs (s : List UInt8) : List Pt × Int × Int → Prop
  | err (e : Int × Int) : lexV s = .error e → ParseIs s ([], e.1, e.2)
  | none : lexV s = .ok [] → ParseIs s ([], 0, 0)
  | odd (l : List Sg) (q : Nat) : lexV s = .ok l → l ≠ [] → q < l.length → chk l 0 0 true true = ((q : Int), false) → ParseIs s ([], (l.getD q default).at_, 2)
  | end_ (l : List Sg) : lexV s = .ok l → l ≠ [] → chk l 0 0 true true = (-1, true) → ParseIs s ([], s.length, 5)
  | ok (l : List Sg) (t : T) : lexV s = .ok l → Seg l 3 0 l.length t → ParseIs s (T.flat 0 t, 0, 0)
@[reducible] def parseH (r : List Pt × Int × Int) : HV := t3 (ptsV r.1) (intV r.2.1) (intV r.2.2)
theorem sgW_kd {l : List Sg} (h : ∀ x ∈ l, SgW x) : KdOk l := fun x hx => by
  have := h x hx
  cases this with
  | name _ _ _ => exact ⟨by show (1 : Int) ≤ 1; decide, by show (1 : Int) ≤ 5; decide⟩
  | open_ => exact ⟨by show (1 : Int) ≤ 2; decide, by show (2 : Int) ≤ 5; decide⟩
  | shut => exact ⟨by show (1 : Int) ≤ 3; decide, by show (3 : Int) ≤ 5; decide⟩
  | or_ => exact ⟨by show (1 : Int) ≤ 4; decide, by show (4 : Int) ≤ 5; decide⟩
  | times _ => exact ⟨by show (1 : Int) ≤ 5; decide, by show (5 : Int) ≤ 5; decide⟩
theorem lex_err {s : List UInt8} {r : List Sg × Int × Int} (hr : lexO (lexV s) = r) (h : r.2.2 ≠ 0) : ParseIs s ([], r.2.1, r.2.2) := by
  cases hv : lexV s with
  | error e => rw [hv] at hr; subst hr; exact .err e hv
  | ok l => rw [hv] at hr; subst hr; exact absurd rfl h
theorem lex_fine {s : List UInt8} {r : List Sg × Int × Int} (hr : lexO (lexV s) = r) (h : r.2.2 = 0) : lexV s = .ok r.1 := by
  cases hv : lexV s with
  | error e => rw [hv] at hr; subst hr; exact absurd h (lexV_err hv)
  | ok l => rw [hv] at hr; subst hr; rfl
theorem parse_odd {s : List UInt8} {l : List Sg} {x : Rs} (hv : lexV s = .ok l) (hk : KdOk l) (hne : l ≠ []) (hx : RsOk l 3 0 [] x) (hq : x.q < l.length) : ParseIs s ([], (l.getD x.q default).at_, 2) := by
  obtain ⟨t, q, g, o, r⟩ := x
  cases t with
  | none => exact .odd l q hv hne hq (by rw [hx.1.bad 0 true]; exact badAt_lt hq)
  | some t => exact .odd l q hv hne hq (rest_bad hk hx.1 hq (hx.2.2.2.1 (by decide)).1 (hx.2.2.2.1 (by decide)).2 (hx.2.2.2.2 (by decide)))
theorem parse_end {s : List UInt8} {l : List Sg} {x : Rs} (hv : lexV s = .ok l) (hne : l ≠ []) (hx : RsOk l 3 0 [] x) (hq : l.length ≤ x.q) (hb : x.t.isNone = true) : ParseIs s ([], s.length, 5) := by
  obtain ⟨t, q, g, o, r⟩ := x
  cases t with
  | none => exact .end_ l hv hne (by rw [hx.1.bad 0 true]; exact badAt_end hq)
  | some t => cases hb
theorem parse_ok {s : List UInt8} {l : List Sg} {x : Rs} (hv : lexV s = .ok l) (hx : RsOk l 3 0 [] x) (hq : l.length ≤ x.q) (hb : x.t.isNone = false) : ParseIs s (x.out, 0, 0) := by
  obtain ⟨t, q, g, o, r⟩ := x
  cases t with
  | none => cases hb
  | some t =>
    have hql := seg_lt hx.1
    simp only at hql hq
    obtain rfl : q = l.length := by omega
    rw [show (⟨some t, l.length, g, o, r⟩ : Rs).out = [] ++ T.flat 0 t from hx.2.1]
    exact .ok l t hv hx.1
theorem parse_h (c : Nat) (s : List UInt8) (hs : s.length ≤ 1000000) : HFun Tryz.prog 30 c [strV s] [] (RetP (fun (r : List Pt × Int × Int) _ => ParseIs s r) parseH (fun _ => [])) := by
  have hlen := lexO_len s
  have hlx := lex_h s hs
  generalize hr : lexO (lexV s) = r at hlen hlx
  refine hfun_of Tryz.func30 rfl (by kernel_rfl) _ _ _ _ rfl 57 rfl rfl (fun X ok hX => ?_)
  refine srg fun N h1 => ?_
  refine sta rfl rfl rfl ?_
  refine sta rfl rfl rfl ?_
  refine sta rfl rfl rfl ?_
  refine snl h1 ?_
  refine srg fun N h2 => ?_
  refine stm rfl rfl rfl ?_
  refine st0 (hop_call0 (xs := [_]) (hlx) ⟨rfl, trivial⟩ ⟨(Fz.eq rfl), trivial⟩) rfl rfl ?_
  refine stm rfl rfl rfl ?_
  refine st0 (hop_extract rfl rfl) rfl rfl ?_
  refine st0 (hop_extract rfl rfl) rfl rfl ?_
  refine st0 (hop_extract rfl rfl) rfl rfl ?_
  refine sta rfl rfl rfl ?_
  refine sta rfl rfl rfl ?_
  refine sta rfl rfl rfl ?_
  refine snl h2 ?_
  refine hw_seq (fun Nh3 h3 => ?_)
  refine srg fun N h4 => ?_
  refine stm rfl rfl rfl ?_
  refine st0 (hop_neq rfl rfl) rfl rfl ?_
  refine snl h4 ?_
  refine hw_cond _ rfl (fun hc0 => ?_) (fun hc0 => ?_)
  · have hr0 := hc0; (try simp only [hcs, Int.reduceToNat] at hc0)
    refine srg fun N h5 => ?_
    refine stm rfl rfl rfl ?_
    refine stm rfl rfl rfl ?_
    refine sta rfl rfl rfl ?_
    refine sta rfl rfl rfl ?_
    refine sta rfl rfl rfl ?_
    refine snl h5 ?_
    refine hw_ret ?_
    refine hq_then_ret ?_
    refine hf_retR3 ok hX RetS.one rfl (rval_tmp rfl) (rval_tmp rfl) (rval_tmp rfl) [] rfl pre0 (([], r.2.1, r.2.2)) (lex_err hr hc0) (by rfl) (by rfl) (kz_t3 (.fz _ _ (.nil 0 5 _ (by decide) none)) (by first | exact .fz _ _ (.imm _) | exact .os _ _ _ _ _ rfl rfl | exact .pt _ _ _ _ _ rfl rfl | exact .nps _ _ _ rfl rfl | (dsimp only; exact .fz _ _ Frz.fz) | exact .fz _ _ (.tup 0 _ _ (fun i hi => absurd hi (Nat.not_lt_zero _)))) (by first | exact .fz _ _ (.imm _) | exact .os _ _ _ _ _ rfl rfl | exact .pt _ _ _ _ _ rfl rfl | exact .nps _ _ _ rfl rfl | (dsimp only; exact .fz _ _ Frz.fz) | exact .fz _ _ (.tup 0 _ _ (fun i hi => absurd hi (Nat.not_lt_zero _))))) ?_
    exact trivial
  have hr0 := hc0; (try simp only [hcs, Int.reduceToNat] at hc0)
  have hv := lex_fine hr hc0; have hk := sgW_kd (lexV_W hv)
  refine hw_skip ?_
  refine h3 _ ?_
  refine hw_seq (fun Nh6 h6 => ?_)
  refine srg fun N h7 => ?_
  refine stm rfl rfl rfl ?_
  refine st0 (hop_len_sl (T := 105) rfl (elOf_spec el_105).1 rfl) rfl rfl ?_
  refine st0 (hop_eql rfl rfl) rfl rfl ?_
  refine snl h7 ?_
  refine hw_cond _ rfl (fun hc1 => ?_) (fun hc1 => ?_)
  · have hr1 := hc1; (try simp only [hcs, Int.reduceToNat] at hc1)
    refine srg fun N h8 => ?_
    refine sta rfl rfl rfl ?_
    refine sta rfl rfl rfl ?_
    refine sta rfl rfl rfl ?_
    refine snl h8 ?_
    refine hw_ret ?_
    refine hq_then_ret ?_
    refine hf_retR3 ok hX RetS.one rfl (rval_tmp rfl) (rval_tmp rfl) (rval_tmp rfl) [] rfl pre0 (([], 0, 0)) (.none (by rw [hv, List.length_eq_zero_iff.1 (show r.1.length = 0 by omega)])) (by rfl) (by rfl) (kz_t3 (.fz _ _ (.nil 0 5 _ (by decide) none)) (by first | exact .fz _ _ (.imm _) | exact .os _ _ _ _ _ rfl rfl | exact .pt _ _ _ _ _ rfl rfl | exact .nps _ _ _ rfl rfl | (dsimp only; exact .fz _ _ Frz.fz) | exact .fz _ _ (.tup 0 _ _ (fun i hi => absurd hi (Nat.not_lt_zero _)))) (by first | exact .fz _ _ (.imm _) | exact .os _ _ _ _ _ rfl rfl | exact .pt _ _ _ _ _ rfl rfl | exact .nps _ _ _ rfl rfl | (dsimp only; exact .fz _ _ Frz.fz) | exact .fz _ _ (.tup 0 _ _ (fun i hi => absurd hi (Nat.not_lt_zero _))))) ?_
    exact trivial
  have hr1 := hc1; (try simp only [hcs, Int.reduceToNat] at hc1)
  have hne : r.1 ≠ [] := (fun h => by rw [h] at hc1; exact hc1 rfl)
  refine hw_skip ?_
  refine h6 _ ?_
  refine srg fun N h9 => ?_
  refine stm rfl rfl rfl ?_
  refine st0 (hop_build (hs := [(0, 1, _)]) st_110 rfl rfl ⟨rfl, rfl, rfl, rfl, rfl, trivial⟩) rfl rfl ?_
  refine st0 (hop_build (hs := [(0, 2, _)]) st_112 rfl rfl ⟨rfl, rfl, rfl, rfl, rfl, trivial⟩) rfl rfl ?_
  refine hm_1 25 (hop_box (id := 9001) (sz := 4) rfl rfl rfl (by decide) (by decide)) rfl rfl pre0 rfl rfl (c' := c + 1) rfl ?_
  refine sta rfl rfl rfl ?_
  refine snl h9 ?_
  refine hw_seq (fun Nh10 h10 => ?_)
  refine (hsub_ownc 9001 2 9002 5 29 (ptsF []) (erF r.1 0 (c + 1) 0 false) rfl rfl (fun j hj => by match j, hj with | 0, _ => exact .inr rfl | 1, _ => exact .inr rfl | 2, _ => exact .inl ⟨rfl, rfl⟩ | 3, _ => exact .inr rfl) (by decide) (by decide) (c' := c + 2) rfl).wp ?_
  refine hw_region ?_
  refine stm rfl rfl rfl ?_
  refine hf_callR 27 (xs := [_]) (pre := [(9001, _), (9002, _)]) (read_h r.1 c hk hne (by omega) _ 0 (Nat.lt_succ_self _) (Nat.zero_le _) _ (c + 1) [] (by simp)) ⟨rfl, trivial⟩ (preC rfl (preC rfl pre0)) rfl rfl (fun x1 c1 hx => ?_)
  obtain ⟨t, q, g2, o2, r2⟩ := x1
  (try dsimp only)
  refine snl h10 ?_
  refine hw_seq (fun Nh11 h11 => ?_)
  refine hw_block ?_
  refine hw_seq (fun Nh12 h12 => ?_)
  have hle : 0 ≤ q ∧ q ≤ r.1.length ∧ o2.length ≤ 0 + 2 * (q - 0) := rs_le hx
  refine hw_region ?_
  refine stm rfl rfl rfl ?_
  refine st0 (hop_nilcheck_pt rfl) rfl rfl ?_
  refine st0 (hop_fa fd_112_0 rfl) rfl rfl ?_
  refine st0 (hop_fa fd_110_1 rfl) rfl rfl ?_
  refine st1 (hol_load ty_3 rfl (nb rfl) (nb rfl) (fun h => (by rfl))) rfl rfl rfl ?_
  refine stm rfl rfl rfl ?_
  refine st0 (hop_len_sl (T := 105) rfl (elOf_spec el_105).1 rfl) rfl rfl ?_
  refine st0 (hop_lss rfl rfl) rfl rfl ?_
  refine sta rfl rfl rfl ?_
  refine snl h12 ?_
  refine hw_cond _ rfl (fun hc2 => ?_) (fun hc2 => ?_)
  · have hr2 := hc2; (try simp only [hcs, Int.reduceToNat] at hc2)
    refine hw_seq (fun Nh13 h13 => ?_)
    refine hd_start ?_
    refine hd_q 37 (hop_move rfl) rfl rfl pre0 rfl rfl (k' := 1) rfl ?_
    refine hd_q 38 (hop_move rfl) rfl rfl pre0 rfl rfl (k' := 2) rfl ?_
    refine hd_q 39 (hop_nilcheck_pt rfl) rfl rfl pre0 rfl rfl (k' := 3) rfl ?_
    refine hd_q 40 (hop_fa fd_112_0 rfl) rfl rfl pre0 rfl rfl (k' := 4) rfl ?_
    refine hd_q 41 (hop_fa fd_110_1 rfl) rfl rfl pre0 rfl rfl (k' := 5) rfl ?_
    refine hd_q 42 (hol_load ty_3 rfl (nb rfl) (nb rfl) (fun h => (by rfl))) rfl rfl (pre1 rfl) rfl rfl (k' := 6) rfl ?_
    refine hd_q 43 (hop_ia_sl el_105 rfl rfl (by omega) (by omega) (nb rfl)) rfl rfl pre0 rfl rfl (k' := 7) rfl ?_
    refine hd_q 44 (hop_fa_fp fd_113_1 rfl (nb rfl)) rfl rfl pre0 rfl rfl (k' := 8) rfl ?_
    refine hd_q 45 (hop_load_fp ty_3 rfl (nb rfl) (fun h => (by rfl))) rfl rfl pre0 rfl rfl (k' := 9) rfl ?_
    refine hd_q 2 (hop_assign rfl) rfl rfl pre0 rfl rfl (k' := 10) rfl ?_
    refine hd_q 3 (hop_assign rfl) rfl rfl pre0 rfl rfl (k' := 11) rfl ?_
    refine hd_q 4 (hop_assign rfl) rfl rfl pre0 rfl rfl (k' := 12) rfl ?_
    refine hd_nil (by kernel_rfl) (by kernel_rfl) (c' := c1 + 12) rfl ?_
    refine h13 _ ?_
    refine hw_ret ?_
    refine hq_block_ret ?_
    refine hq_then_ret ?_
    refine hf_retR3 ok hX RetS.one rfl (rval_tmp rfl) (rval_tmp rfl) (rval_tmp rfl) [] rfl pre0 (([], (r.1.getD q default).at_, 2)) (parse_odd hv hk hne hx (show q < r.1.length by omega)) (by rfl) (by rfl) (kz_t3 (.fz _ _ (.nil 0 5 _ (by decide) none)) (by first | exact .fz _ _ (.imm _) | exact .os _ _ _ _ _ rfl rfl | exact .pt _ _ _ _ _ rfl rfl | exact .nps _ _ _ rfl rfl | (dsimp only; exact .fz _ _ Frz.fz) | exact .fz _ _ (.tup 0 _ _ (fun i hi => absurd hi (Nat.not_lt_zero _)))) (by first | exact .fz _ _ (.imm _) | exact .os _ _ _ _ _ rfl rfl | exact .pt _ _ _ _ _ rfl rfl | exact .nps _ _ _ rfl rfl | (dsimp only; exact .fz _ _ Frz.fz) | exact .fz _ _ (.tup 0 _ _ (fun i hi => absurd hi (Nat.not_lt_zero _))))) ?_
    exact trivial
  have hr2 := hc2; (try simp only [hcs, Int.reduceToNat] at hc2)
  refine srg fun N h14 => ?_
  refine stm rfl rfl rfl ?_
  refine st0 (hop_nilcheck_pt rfl) rfl rfl ?_
  refine st0 (hop_fa fd_112_2 rfl) rfl rfl ?_
  refine st1 (hol_load ty_4 rfl (nb rfl) (nb rfl) (fun h => (by rfl))) rfl rfl rfl ?_
  refine sta rfl rfl rfl ?_
  refine snl h14 ?_
  refine hw_cond _ rfl (fun hc3 => ?_) (fun hc3 => ?_)
  · have hr3 := hc3; (try simp only [hcs, Int.reduceToNat] at hc3)
    refine srg fun N h15 => ?_
    refine stm rfl rfl rfl ?_
    refine st0 (hop_len_strl (T := 9) rfl (by kernel_rfl) rfl) rfl rfl ?_
    refine sta rfl rfl rfl ?_
    refine sta rfl rfl rfl ?_
    refine sta rfl rfl rfl ?_
    refine snl h15 ?_
    refine hw_ret ?_
    refine hq_block_ret ?_
    refine hq_then_ret ?_
    refine hf_retR3 ok hX RetS.one rfl (rval_tmp rfl) (rval_tmp rfl) (rval_tmp rfl) [] rfl pre0 (([], (s.length : Int), 5)) (parse_end hv hne hx (show r.1.length ≤ q by omega) hc3) (by rfl) (by rfl) (kz_t3 (.fz _ _ (.nil 0 5 _ (by decide) none)) (by first | exact .fz _ _ (.imm _) | exact .os _ _ _ _ _ rfl rfl | exact .pt _ _ _ _ _ rfl rfl | exact .nps _ _ _ rfl rfl | (dsimp only; exact .fz _ _ Frz.fz) | exact .fz _ _ (.tup 0 _ _ (fun i hi => absurd hi (Nat.not_lt_zero _)))) (by first | exact .fz _ _ (.imm _) | exact .os _ _ _ _ _ rfl rfl | exact .pt _ _ _ _ _ rfl rfl | exact .nps _ _ _ rfl rfl | (dsimp only; exact .fz _ _ Frz.fz) | exact .fz _ _ (.tup 0 _ _ (fun i hi => absurd hi (Nat.not_lt_zero _))))) ?_
    exact trivial
  have hr3 := hc3; (try simp only [hcs, Int.reduceToNat] at hc3)
  refine hw_skip ?_
  refine hq_block ?_
  refine h11 _ ?_
  refine srg fun N h16 => ?_
  refine stm rfl rfl rfl ?_
  refine st0 (hop_nilcheck_pt rfl) rfl rfl ?_
  refine st0 (hop_fa fd_112_1 rfl) rfl rfl ?_
  refine st1 (hol_load ty_24 rfl (nb rfl) (nb rfl) (fun h => (by rfl))) rfl rfl rfl ?_
  refine sta rfl rfl rfl ?_
  refine sta rfl rfl rfl ?_
  refine sta rfl rfl rfl ?_
  refine snl h16 ?_
  refine hw_ret ?_
  refine hf_retR3 ok hX RetS.one rfl (rval_tmp rfl) (rval_tmp rfl) (rval_tmp rfl) [(9002, _)] rfl (preC rfl pre0) ((o2, 0, 0)) (parse_ok hv hx (show r.1.length ≤ q by omega) hc3) (by rfl) (by rfl) (kz_t3 (.fz _ _ (fz_row (l := o2) (enc := ptF) (d := default) (List.mem_cons_self ..) rfl rfl (Nat.le_refl _) (fun i j hi hj => pt_fz _ j))) (by first | exact .fz _ _ (.imm _) | exact .os _ _ _ _ _ rfl rfl | exact .pt _ _ _ _ _ rfl rfl | exact .nps _ _ _ rfl rfl | (dsimp only; exact .fz _ _ Frz.fz) | exact .fz _ _ (.tup 0 _ _ (fun i hi => absurd hi (Nat.not_lt_zero _)))) (by first | exact .fz _ _ (.imm _) | exact .os _ _ _ _ _ rfl rfl | exact .pt _ _ _ _ _ rfl rfl | exact .nps _ _ _ rfl rfl | (dsimp only; exact .fz _ _ Frz.fz) | exact .fz _ _ (.tup 0 _ _ (fun i hi => absurd hi (Nat.not_lt_zero _))))) ?_
  exact trivial
end Go.Proofs.YtldjnmljnlhaaaaGreatDoor

namespace Go.Proofs.YtldjnmljnlhaaaaGreatDoor
set_option linter.unusedSimpArgs false
set_option linter.unusedVariables false
set_option maxRecDepth 100000
open Go.RowKit

end Go.Proofs.YtldjnmljnlhaaaaGreatDoor

namespace Go.Proofs.YtldjnmljnlhaaaaGreatDoor
set_option linter.unusedSimpArgs false
set_option linter.unusedVariables false
set_option maxRecDepth 100000
set_option maxHeartbeats 4000000
open Go.RowKit

theorem kz_os {kp sh : List (Nat × HObj)} {id g lo n n' : Nat} {o : HObj} (h : hget kp id = some o) (hg : o.g = g) (hn : n = n') : Kz kp sh (.os id g lo n) (.os id g lo n') := by subst hn; exact .os _ _ _ _ _ h hg
theorem osub5 {g ty fl : Nat} {f f' : Nat → Nat → HV} (h0 : Sb (f 0 0) (f' 0 0)) (h1 : Sb (f 0 1) (f' 0 1)) (h2 : Sb (f 0 2) (f' 0 2)) (h3 : Sb (f 0 3) (f' 0 3)) (h4 : Sb (f 0 4) (f' 0 4)) (hfn : fl ≤ 1 := by exact Nat.zero_le _) : OSub ⟨g, 1, 5, ty, fl, f⟩ ⟨g, 1, 5, ty, fl, f'⟩ := .of (hfn := hfn) fun i j hi hj => by
  obtain rfl : i = 0 := by omega
  match j, hj with | 0, _ => exact h0 | 1, _ => exact h1 | 2, _ => exact h2 | 3, _ => exact h3 | 4, _ => exact h4
theorem kids_at {B : List Int} {i j : Nat} {x : Int} (hj : j = i) (h : B.getD i 0 = x) : ldv false 1 (kidsF B j) 0 = intV x := by subst hj; show intV (B.getD j 0) = _; rw [h]
theorem take_snoc {ts : List T} {i : Nat} (h : i < ts.length) : ts.take (i + 1) = ts.take i ++ [ts.getD i default] := by
  rw [List.take_add_one, List.getD_eq_getElem?_getD, List.getElem?_eq_getElem h]; rfl
/-- The kids that have been laid. -/
structure KidI (ts : List T) (out : List Pt) (i : Nat) (o : List Pt) (ks : List Int) : Prop where
  le : i ≤ ts.length
  eo : o = out ++ T.flatL out.length (ts.take i)
  ek : ks = rootsL out.length (ts.take i)
/-- The places between pieces. -/
structure Cuts (l : List Sg) (B : List Int) (m p q : Nat) (ts : List T) (s e : Nat → Nat) : Prop where
  hlen : B.length = m + 1
  hm : m = ts.length
  htwo : 2 ≤ m
  hmb : m ≤ 2000
  hat : ∀ i, i < m → B.getD i 0 = (s i : Int)
  hle : ∀ i, i < m → s i ≤ e i ∧ e i ≤ l.length
  hout : ∀ i, i < m → T.sizeL (ts.take i) + 2 * p ≤ 2 * s i
  hsz : ∀ i, i < m → (ts.getD i default).size + 2 * s i ≤ 2 * e i
  hall : T.sizeL ts + 2 * p ≤ 2 * q
end Go.Proofs.YtldjnmljnlhaaaaGreatDoor

namespace Go.Proofs.YtldjnmljnlhaaaaGreatDoor
set_option linter.unusedSimpArgs false
set_option linter.unusedVariables false
set_option maxRecDepth 100000
open Go.RowKit

end Go.Proofs.YtldjnmljnlhaaaaGreatDoor

namespace Go.Proofs.YtldjnmljnlhaaaaGreatDoor
set_option linter.unusedSimpArgs false
set_option linter.unusedVariables false
set_option maxRecDepth 100000
set_option maxHeartbeats 1000000
open Go.RowKit

theorem ext_getD {α : Type} (d : α) {a b : List α} (hl : a.length = b.length) (h : ∀ j, j < a.length → a.getD j d = b.getD j d) : a = b := by
  apply List.ext_getElem hl
  intro i h1 h2
  have := h i h1
  rwa [List.getD_eq_getElem?_getD, List.getD_eq_getElem?_getD, List.getElem?_eq_getElem h1, List.getElem?_eq_getElem h2] at this
/-- Parts that aren't too long. -/
@[reducible] def PtB (l : List Pt) : Prop := l.length ≤ 100000 ∧ ∀ i, i < l.length → (l.getD i default).kids.length ≤ 100000 ∧ (l.getD i default).name.length ≤ 1000000
end Go.Proofs.YtldjnmljnlhaaaaGreatDoor

namespace Go.Proofs.YtldjnmljnlhaaaaGreatDoor
set_option linter.unusedSimpArgs false
set_option linter.unusedVariables false
set_option maxRecDepth 100000
set_option maxHeartbeats 1000000
open Go.RowKit

theorem getD_cut (a : List Int) {lo n k : Nat} (hk : k < n) (h : lo + n ≤ a.length) : ((a.drop lo).take n).getD k 0 = a.getD (lo + k) 0 := by
  rw [List.getD_eq_getElem?_getD, List.getD_eq_getElem?_getD, List.getElem?_take, if_pos hk, List.getElem?_drop]
theorem equal_h (g lo n : Nat) (a b : List Int) (ha : a.length ≤ 1000000) (hb : b.length ≤ 1000000) (hn : lo + n ≤ a.length) : HFunD Tryz.prog 62 [.os 8001 g lo n, kidsV b] [(8001, ⟨g, a.length, 1, 3, 0, kidsF a⟩)] (boolV (decide ((a.drop lo).take n = b))) [(8001, ⟨g, a.length, 1, 3, 0, kidsF a⟩)] := by
  have hcl : ((a.drop lo).take n).length = n := by rw [List.length_take, List.length_drop]; omega
  intro c
  refine hfun_of Tryz.func62 rfl (by kernel_rfl) _ _ _ _ rfl 26 rfl rfl (fun X ok hX => ?_)
  refine srg fun N h1 => ?_
  refine sta rfl rfl rfl ?_
  refine snl h1 ?_
  refine hw_seq (fun Nh2 h2 => ?_)
  refine srg fun N h3 => ?_
  refine stm rfl rfl rfl ?_
  refine st0 (hop_len_os (T := 25) rfl (elOf_spec el_25).1 rfl) rfl rfl ?_
  refine stm rfl rfl rfl ?_
  refine st0 (hop_len_sl (T := 25) rfl (elOf_spec el_25).1 rfl) rfl rfl ?_
  refine st0 (hop_neq rfl rfl) rfl rfl ?_
  refine snl h3 ?_
  refine hw_cond _ rfl (fun hc0 => ?_) (fun hc0 => ?_)
  · have hr0 := hc0; (try simp only [hcs, Int.reduceToNat] at hc0)
    refine srg fun N h4 => ?_
    refine sta rfl rfl rfl ?_
    refine snl h4 ?_
    refine hw_ret ?_
    refine hq_then_ret ?_
    refine hf_retR1 ok hX RetS.one rfl (rval_tmp rfl) [] rfl pre0 (()) (trivial) (by rfl) (by rfl) (by rw [decide_eq_false (fun h => hc0 (by rw [← h, hcl]))]; exact (by first | exact .fz _ _ (.imm _) | exact .os _ _ _ _ _ rfl rfl | exact .pt _ _ _ _ _ rfl rfl | exact .nps _ _ _ rfl rfl | (dsimp only; exact .fz _ _ Frz.fz) | exact .fz _ _ (.tup 0 _ _ (fun i hi => absurd hi (Nat.not_lt_zero _))))) ?_
    exact ⟨⟨_, rfl, .of (fun i j _ _ => .fz _ _ (.imm _))⟩, trivial⟩
  have hr0 := hc0; (try simp only [hcs, Int.reduceToNat] at hc0)
  refine hw_skip ?_
  refine h2 _ ?_
  refine hw_seq (fun Nh5 h5 => ?_)
  refine srg fun N h6 => ?_
  refine stm rfl rfl rfl ?_
  refine st0 (hop_len_os (T := 25) rfl (elOf_spec el_25).1 rfl) rfl rfl ?_
  refine stm rfl rfl rfl ?_
  refine snl h6 ?_
  refine hw_block ?_
  refine hw_loopc (α := Nat) (fun x c => ⟨26, [(0, .v (.os 8001 g lo n)), (1, .v (kidsV b)), (12, .v (intV n)), (13, .v (intV x))], [(8001, ⟨g, a.length, 1, 3, 0, kidsF a⟩)], c⟩) (fun x => x ≤ n ∧ ∀ j, j < x → a.getD (lo + j) 0 = b.getD j 0) (fun x => n - x) (0) (by exact ⟨Nat.zero_le _, fun j hj => absurd hj (Nat.not_lt_zero _)⟩) (hsub_of rfl (Nat.le_refl _) (TmSub.cons rfl (Sb.refl _) (TmSub.cons rfl (Sb.refl _) (TmSub.cons rfl (Sb.refl _) (TmSub.cons rfl (Sb.refl _) TmSub.nil)))) (HpSub.cons rfl (OSub.refl _) HpSub.nil)) (fun k c hx NhL7 hL7 => ?_)
  (try dsimp only at hx hL7 ⊢)
  obtain ⟨hk, hE⟩ := hx
  refine srg fun N h8 => ?_
  refine st0 (hop_lss rfl rfl) rfl rfl ?_
  refine snl h8 ?_
  refine hw_seq (fun Nh9 h9 => ?_)
  refine hw_cond _ rfl (fun hc1 => ?_) (fun hc1 => ?_)
  · have hr1 := hc1; (try simp only [hcs, Int.reduceToNat] at hc1)
    refine hw_skip ?_
    refine h9 _ ?_
    refine hw_seq (fun Nh10 h10 => ?_)
    refine hw_block ?_
    refine srg fun N h11 => ?_
    refine stm rfl rfl rfl ?_
    refine sta rfl rfl rfl ?_
    refine snl h11 ?_
    refine hw_seq (fun Nh12 h12 => ?_)
    refine hd_start ?_
    refine hd_q 16 (hop_move rfl) rfl rfl pre0 rfl rfl (k' := 1) rfl ?_
    refine hd_q 17 (hop_move rfl) rfl rfl pre0 rfl rfl (k' := 2) rfl ?_
    refine hd_q 18 (hol_ia_os el_25 rfl rfl (by omega) (by omega)) rfl rfl (pre1 rfl) rfl rfl (k' := 3) rfl ?_
    refine hd_q 19 (HOp.val (v' := intV (a.getD (lo + k) 0)) (hol_load ty_3 rfl (by omega) (nb rfl) (fun h => (by rfl))) (rfl)) rfl rfl (pre1 rfl) rfl rfl (k' := 4) rfl ?_
    refine hd_q 20 (hop_move rfl) rfl rfl pre0 rfl rfl (k' := 5) rfl ?_
    refine hd_q 21 (hop_move rfl) rfl rfl pre0 rfl rfl (k' := 6) rfl ?_
    refine hd_q 22 (hop_ia_sl el_25 rfl rfl (by omega) (by omega) (nb rfl)) rfl rfl pre0 rfl rfl (k' := 7) rfl ?_
    refine hd_q 23 (HOp.val (v' := intV (b.getD k 0)) (hop_load_fp ty_3 rfl (nb rfl) (fun h => (by rfl))) (rfl)) rfl rfl pre0 rfl rfl (k' := 8) rfl ?_
    refine hd_q 24 (hop_neq rfl rfl) rfl rfl pre0 rfl rfl (k' := 9) rfl ?_
    refine hd_nil (by kernel_rfl) (by kernel_rfl) (c' := c + 9) rfl ?_
    refine h12 _ ?_
    refine hw_cond _ rfl (fun hc2 => ?_) (fun hc2 => ?_)
    · have hr2 := hc2; (try simp only [hcs, Int.reduceToNat] at hc2)
      refine srg fun N h13 => ?_
      refine sta rfl rfl rfl ?_
      refine snl h13 ?_
      refine hw_ret ?_
      refine hq_block_ret ?_
      refine hq_then_ret ?_
      refine hq_then_ret ?_
      refine hq_block_ret ?_
      refine hq_then_ret ?_
      refine hf_retR1 ok hX RetS.one rfl (rval_tmp rfl) [] rfl pre0 (()) (trivial) (by rfl) (by rfl) (by rw [decide_eq_false (fun h => hc2 (by rw [← h, getD_cut a (by omega) hn]))]; exact (by first | exact .fz _ _ (.imm _) | exact .os _ _ _ _ _ rfl rfl | exact .pt _ _ _ _ _ rfl rfl | exact .nps _ _ _ rfl rfl | (dsimp only; exact .fz _ _ Frz.fz) | exact .fz _ _ (.tup 0 _ _ (fun i hi => absurd hi (Nat.not_lt_zero _))))) ?_
      exact ⟨⟨_, rfl, .of (fun i j _ _ => .fz _ _ (.imm _))⟩, trivial⟩
    have hr2 := hc2; (try simp only [hcs, Int.reduceToNat] at hc2)
    refine hw_skip ?_
    refine hq_block ?_
    refine h10 _ ?_
    refine hw_region ?_
    refine st0 (hop_addi rfl rfl rfl (by omega) (by omega)) rfl rfl ?_
    refine stm rfl rfl rfl ?_
    refine hseq_nil ?_
    exact hL7 (k + 1) _ _ (by (try dsimp only); exact ⟨by omega, fun j hj => by by_cases e : j = k; (· subst e; exact hc2); exact hE j (by omega)⟩) (by (try dsimp only); omega) (hsub_of rfl (Nat.le_refl _) (TmSub.cons rfl (Sb.refl _) (TmSub.cons rfl (Sb.refl _) (TmSub.cons rfl (Sb.refl _) (TmSub.cons rfl (Sb.refl _) TmSub.nil)))) (HpSub.cons rfl (OSub.refl _) HpSub.nil))
  have hr1 := hc1; (try simp only [hcs, Int.reduceToNat] at hc1)
  refine hw_exit ?_
  refine hq_then_exit ?_
  refine hq_then_exit ?_
  refine hq_block_here ?_
  refine h5 _ ?_
  refine srg fun N h14 => ?_
  refine sta rfl rfl rfl ?_
  refine snl h14 ?_
  refine hw_ret ?_
  refine hf_retR1 ok hX RetS.one rfl (rval_tmp rfl) [] rfl pre0 (()) (trivial) (by rfl) (by rfl) (by rw [decide_eq_true (ext_getD 0 (by omega) (fun j hj => by rw [getD_cut a (by omega) hn]; exact hE j (by omega)))]; exact (by first | exact .fz _ _ (.imm _) | exact .os _ _ _ _ _ rfl rfl | exact .pt _ _ _ _ _ rfl rfl | exact .nps _ _ _ rfl rfl | (dsimp only; exact .fz _ _ Frz.fz) | exact .fz _ _ (.tup 0 _ _ (fun i hi => absurd hi (Nat.not_lt_zero _))))) ?_
  exact ⟨⟨_, rfl, .of (fun i j _ _ => .fz _ _ (.imm _))⟩, trivial⟩
theorem beq_d (a b : Int) : (a == b) = decide (a = b) := rfl
theorem int_0 (n : Nat) : decide ((n : Int) = 0) = decide (n = 0) := decide_eq_decide.2 (by omega)
theorem int_1 (n : Nat) : decide ((n : Int) = 1) = decide (n = 1) := decide_eq_decide.2 (by omega)
theorem int_lt1 (n : Nat) : decide (1 < (n : Int)) = decide (1 < n) := decide_eq_decide.2 (by omega)
theorem name6_h (s : List UInt8) (hs : s.length ≤ 1000000) : HPure Tryz.prog 88 [strV s] (boolV (nameV s)) := by
  have hlen := lexO_len s
  have hlx := lex_h s hs
  have hN : nameV s = (match lexO (lexV s) with | (l, _, e) => decide (e = 0) && decide (l.length = 1) && decide ((l.getD 0 default).kind = 1) && decide ((l.getD 0 default).name = s)) := by
    unfold nameV
    cases hv : lexV s with
    | error e =>
      have h := lexV_err hv
      have h2 : ¬ (e.2 = 0) := h
      show false = (decide (e.2 = 0) && _ && _ && _)
      rw [decide_eq_false h2]; rfl
    | ok l =>
      match l with
      | [] => rfl
      | [x] => rfl
      | x :: y :: l => simp [lexO]
  generalize hr : lexO (lexV s) = r at hlen hlx hN
  rw [hN]
  obtain ⟨l, a, e⟩ := r
  refine hpure_of Tryz.func88 rfl (by kernel_rfl) _ _ _ rfl 34 rfl rfl (fun w F => ?_)
  refine srg fun N h1 => ?_
  refine sta rfl rfl rfl ?_
  refine snl h1 ?_
  refine srg fun N h2 => ?_
  refine stm rfl rfl rfl ?_
  refine st0 (hop_call0 (xs := [_]) (hlx) ⟨rfl, trivial⟩ ⟨(Fz.eq rfl), trivial⟩) rfl rfl ?_
  refine stm rfl rfl rfl ?_
  refine st0 (hop_extract rfl rfl) rfl rfl ?_
  refine st0 (hop_extract rfl rfl) rfl rfl ?_
  refine st0 (hop_extract rfl rfl) rfl rfl ?_
  refine sta rfl rfl rfl ?_
  refine sta rfl rfl rfl ?_
  refine sta rfl rfl rfl ?_
  refine snl h2 ?_
  refine srg fun N h3 => ?_
  refine stm rfl rfl rfl ?_
  refine st0 (hop_eql rfl rfl) rfl rfl ?_
  refine stm rfl rfl rfl ?_
  refine stg 14 (fun hb => hop_move rfl) rfl rfl rfl rfl rfl ?_
  refine stg 14 (fun hb => hop_len_sl (T := 105) rfl (elOf_spec el_105).1 rfl) rfl rfl rfl rfl rfl ?_
  refine stg 14 (fun hb => hop_eql rfl rfl) rfl rfl rfl rfl rfl ?_
  refine hq_p 18 (hstep_and _ _ rfl rfl rfl) rfl rfl rfl ?_
  refine stm rfl rfl rfl ?_
  refine stg 19 (fun hb => hop_move rfl) rfl rfl rfl rfl rfl ?_
  refine stg 19 (fun hb => hop_ia_sl el_105 rfl rfl (by (simp at hb; first | omega | (dsimp only; omega) | (simp <;> omega))) (by (simp at hb; first | omega | (dsimp only; omega) | (simp <;> omega))) (nb rfl)) rfl rfl rfl rfl rfl ?_
  refine stg 19 (fun hb => hop_fa_fp fd_113_0 rfl (nb rfl)) rfl rfl rfl rfl rfl ?_
  refine stg 19 (fun hb => HOp.val (v' := intV (l.getD 0 default).kind) (hop_load_fp ty_3 rfl (nb rfl) (fun h => (by rfl))) (rfl)) rfl rfl rfl rfl rfl ?_
  refine stg 19 (fun hb => hop_eql rfl rfl) rfl rfl rfl rfl rfl ?_
  refine hq_p 25 (hstep_and _ _ rfl rfl rfl) rfl rfl rfl ?_
  refine stm rfl rfl rfl ?_
  refine stg 26 (fun hb => hop_move rfl) rfl rfl rfl rfl rfl ?_
  refine stg 26 (fun hb => hop_ia_sl el_105 rfl rfl (by (simp at hb; first | omega | (dsimp only; omega) | (simp <;> omega))) (by (simp at hb; first | omega | (dsimp only; omega) | (simp <;> omega))) (nb rfl)) rfl rfl rfl rfl rfl ?_
  refine stg 26 (fun hb => hop_fa_fp fd_113_4 rfl (nb rfl)) rfl rfl rfl rfl rfl ?_
  refine stg 26 (fun hb => HOp.val (v' := strV (l.getD 0 default).name) (hop_load_fp ty_9 rfl (nb rfl) (fun h => (by rfl))) (rfl)) rfl rfl rfl rfl rfl ?_
  refine stg 26 (fun hb => hop_move rfl) rfl rfl rfl rfl rfl ?_
  refine stg 26 (fun hb => hop_seq_l rfl rfl) rfl rfl rfl rfl rfl ?_
  refine hq_p 33 (hstep_and _ _ rfl rfl rfl) rfl rfl rfl ?_
  refine sta rfl rfl rfl ?_
  refine hseq_nilU (by rfl) (by simp only [dropUn, slots]; exact rfl) ?_
  refine h3 _ ?_
  refine hw_ret ?_
  refine hq_ret1 rfl (rval_tmp rfl) [] rfl pre0 ?_
  exact fz_bool (by simp only [beq_d, int_1])
theorem alone_h (x : Pt) (hk : x.kids.length ≤ 1000000) (hn : x.name.length ≤ 1000000) : HPure Tryz.prog 61 [ptH x] (boolV (aloneV x)) := by
  unfold aloneV
  refine hpure_of Tryz.func61 rfl (by kernel_rfl) _ _ _ rfl 89 rfl rfl (fun w F => ?_)
  refine srg fun N h1 => ?_
  refine hm_1 1 (hop_box (id := 1) (sz := 5) rfl rfl rfl (nb rfl) (nb rfl)) rfl rfl pre0 rfl rfl (c' := 1) rfl ?_
  refine sta rfl rfl rfl ?_
  refine snl h1 ?_
  refine hw_seq (fun Nh2 h2 => ?_)
  refine srg fun N h3 => ?_
  refine st0 (hop_fa fd_29_0 rfl) rfl rfl ?_
  refine st1 (hol_load ty_3 rfl (nb rfl) (nb rfl) (fun h => (by rfl))) rfl rfl rfl ?_
  refine snl h3 ?_
  refine hw_block ?_
  refine srg fun N h4 => ?_
  refine st0 (hop_eql rfl rfl) rfl rfl ?_
  refine sta rfl rfl rfl ?_
  refine snl h4 ?_
  refine hw_cond _ rfl (fun hc0 => ?_) (fun hc0 => ?_)
  · have hr0 := hc0; (try simp only [hcs, Int.reduceToNat] at hc0)
    refine srg fun N h5 => ?_
    refine st0 (hop_fa fd_29_4 rfl) rfl rfl ?_
    refine st1 (hol_load ty_25 rfl (nb rfl) (nb rfl) (fun h => (by rfl))) rfl rfl rfl ?_
    refine st0 (hop_len_sl (T := 25) rfl (elOf_spec el_25).1 rfl) rfl rfl ?_
    refine st0 (hop_eql rfl rfl) rfl rfl ?_
    refine stm rfl rfl rfl ?_
    refine stg 12 (fun hb => hop_fa fd_29_1 rfl) rfl rfl rfl rfl rfl ?_
    refine hq_g 14 4 12 true _ (fun hb => hol_load ty_3 rfl (nb rfl) (nb rfl) (fun h => (by rfl))) rfl rfl rfl rfl (pre1 rfl) rfl rfl rfl ?_
    refine stg 12 (fun hb => hop_eql rfl rfl) rfl rfl rfl rfl rfl ?_
    refine hq_p 16 (hstep_and _ _ rfl rfl rfl) rfl rfl rfl ?_
    refine stm rfl rfl rfl ?_
    refine stg 17 (fun hb => hop_fa fd_29_2 rfl) rfl rfl rfl rfl rfl ?_
    refine hq_g 19 9 17 true _ (fun hb => hol_load ty_3 rfl (nb rfl) (nb rfl) (fun h => (by rfl))) rfl rfl rfl rfl (pre1 rfl) rfl rfl rfl ?_
    refine stg 17 (fun hb => hop_eql rfl rfl) rfl rfl rfl rfl rfl ?_
    refine hq_p 21 (hstep_and _ _ rfl rfl rfl) rfl rfl rfl ?_
    refine stm rfl rfl rfl ?_
    refine stg 22 (fun hb => hop_fa fd_29_3 rfl) rfl rfl rfl rfl rfl ?_
    refine hq_g 24 14 22 true _ (fun hb => hol_load ty_9 rfl (nb rfl) (nb rfl) (fun h => (by rfl))) rfl rfl rfl rfl (pre1 rfl) rfl rfl rfl ?_
    refine stg 22 (fun hb => hop_call0 (xs := [_]) (name6_h x.name hn) ⟨rfl, trivial⟩ ⟨(Fz.eq rfl), trivial⟩) rfl rfl rfl rfl rfl ?_
    refine hq_p 26 (hstep_and _ _ rfl rfl rfl) rfl rfl rfl ?_
    refine sta rfl rfl rfl ?_
    refine hseq_nilU (by rfl) (by simp only [dropUn, slots]; exact rfl) ?_
    refine h5 _ ?_
    refine hw_ret ?_
    refine hq_block_ret ?_
    refine hq_then_ret ?_
    refine hq_ret1 rfl (rval_tmp rfl) [] rfl pre0 ?_
    rw [if_pos hc0]; exact fz_bool (by simp only [beq_d, int_0])
  have hr0 := hc0; (try simp only [hcs, Int.reduceToNat] at hc0)
  refine hw_seq (fun Nh6 h6 => ?_)
  refine srg fun N h7 => ?_
  refine st0 (hop_eql rfl rfl) rfl rfl ?_
  refine sta rfl rfl rfl ?_
  refine snl h7 ?_
  refine hw_cond _ rfl (fun hc1 => ?_) (fun hc1 => ?_)
  · have hr1 := hc1; (try simp only [hcs, Int.reduceToNat] at hc1)
    refine hw_skip ?_
    refine h6 _ ?_
    refine hw_cond _ rfl (fun hc2 => ?_) (fun hc2 => ?_)
    · have hr2 := hc2; (try simp only [hcs, Int.reduceToNat] at hc2)
      refine srg fun N h8 => ?_
      refine st0 (hop_fa fd_29_4 rfl) rfl rfl ?_
      refine st1 (hol_load ty_25 rfl (nb rfl) (nb rfl) (fun h => (by rfl))) rfl rfl rfl ?_
      refine st0 (hop_len_sl (T := 25) rfl (elOf_spec el_25).1 rfl) rfl rfl ?_
      refine st0 (hop_gtr rfl rfl) rfl rfl ?_
      refine stm rfl rfl rfl ?_
      refine stg 34 (fun hb => hop_fa fd_29_1 rfl) rfl rfl rfl rfl rfl ?_
      refine hq_g 36 4 34 true _ (fun hb => hol_load ty_3 rfl (nb rfl) (nb rfl) (fun h => (by rfl))) rfl rfl rfl rfl (pre1 rfl) rfl rfl rfl ?_
      refine stg 34 (fun hb => hop_eql rfl rfl) rfl rfl rfl rfl rfl ?_
      refine hq_p 38 (hstep_and _ _ rfl rfl rfl) rfl rfl rfl ?_
      refine stm rfl rfl rfl ?_
      refine stg 39 (fun hb => hop_fa fd_29_2 rfl) rfl rfl rfl rfl rfl ?_
      refine hq_g 41 9 39 true _ (fun hb => hol_load ty_3 rfl (nb rfl) (nb rfl) (fun h => (by rfl))) rfl rfl rfl rfl (pre1 rfl) rfl rfl rfl ?_
      refine stg 39 (fun hb => hop_eql rfl rfl) rfl rfl rfl rfl rfl ?_
      refine hq_p 43 (hstep_and _ _ rfl rfl rfl) rfl rfl rfl ?_
      refine stm rfl rfl rfl ?_
      refine stg 44 (fun hb => hop_fa fd_29_3 rfl) rfl rfl rfl rfl rfl ?_
      refine hq_g 46 14 44 true _ (fun hb => hol_load ty_9 rfl (nb rfl) (nb rfl) (fun h => (by rfl))) rfl rfl rfl rfl (pre1 rfl) rfl rfl rfl ?_
      refine stg 44 (fun hb => hop_seq_l rfl rfl) rfl rfl rfl rfl rfl ?_
      refine hq_p 48 (hstep_and _ _ rfl rfl rfl) rfl rfl rfl ?_
      refine sta rfl rfl rfl ?_
      refine hseq_nilU (by rfl) (by simp only [dropUn, slots]; exact rfl) ?_
      refine h8 _ ?_
      refine hw_ret ?_
      refine hq_block_ret ?_
      refine hq_then_ret ?_
      refine hq_ret1 rfl (rval_tmp rfl) [] rfl pre0 ?_
      rw [if_neg hc0, if_pos (.inl hc1)]; exact fz_bool (by simp only [beq_d, int_lt1])
    have hr2 := hc2; (try simp only [hcs, Int.reduceToNat] at hc2)
    exfalso; exact absurd hr2 (by rw [hc1]; decide)
  have hr1 := hc1; (try simp only [hcs, Int.reduceToNat] at hc1)
  refine hw_region ?_
  refine st0 (hop_eql rfl rfl) rfl rfl ?_
  refine sta rfl rfl rfl ?_
  refine snl h6 ?_
  refine hw_cond _ rfl (fun hc2 => ?_) (fun hc2 => ?_)
  · have hr2 := hc2; (try simp only [hcs, Int.reduceToNat] at hc2)
    refine srg fun N h9 => ?_
    refine st0 (hop_fa fd_29_4 rfl) rfl rfl ?_
    refine st1 (hol_load ty_25 rfl (nb rfl) (nb rfl) (fun h => (by rfl))) rfl rfl rfl ?_
    refine st0 (hop_len_sl (T := 25) rfl (elOf_spec el_25).1 rfl) rfl rfl ?_
    refine st0 (hop_gtr rfl rfl) rfl rfl ?_
    refine stm rfl rfl rfl ?_
    refine stg 34 (fun hb => hop_fa fd_29_1 rfl) rfl rfl rfl rfl rfl ?_
    refine hq_g 36 4 34 true _ (fun hb => hol_load ty_3 rfl (nb rfl) (nb rfl) (fun h => (by rfl))) rfl rfl rfl rfl (pre1 rfl) rfl rfl rfl ?_
    refine stg 34 (fun hb => hop_eql rfl rfl) rfl rfl rfl rfl rfl ?_
    refine hq_p 38 (hstep_and _ _ rfl rfl rfl) rfl rfl rfl ?_
    refine stm rfl rfl rfl ?_
    refine stg 39 (fun hb => hop_fa fd_29_2 rfl) rfl rfl rfl rfl rfl ?_
    refine hq_g 41 9 39 true _ (fun hb => hol_load ty_3 rfl (nb rfl) (nb rfl) (fun h => (by rfl))) rfl rfl rfl rfl (pre1 rfl) rfl rfl rfl ?_
    refine stg 39 (fun hb => hop_eql rfl rfl) rfl rfl rfl rfl rfl ?_
    refine hq_p 43 (hstep_and _ _ rfl rfl rfl) rfl rfl rfl ?_
    refine stm rfl rfl rfl ?_
    refine stg 44 (fun hb => hop_fa fd_29_3 rfl) rfl rfl rfl rfl rfl ?_
    refine hq_g 46 14 44 true _ (fun hb => hol_load ty_9 rfl (nb rfl) (nb rfl) (fun h => (by rfl))) rfl rfl rfl rfl (pre1 rfl) rfl rfl rfl ?_
    refine stg 44 (fun hb => hop_seq_l rfl rfl) rfl rfl rfl rfl rfl ?_
    refine hq_p 48 (hstep_and _ _ rfl rfl rfl) rfl rfl rfl ?_
    refine sta rfl rfl rfl ?_
    refine hseq_nilU (by rfl) (by simp only [dropUn, slots]; exact rfl) ?_
    refine h9 _ ?_
    refine hw_ret ?_
    refine hq_block_ret ?_
    refine hq_then_ret ?_
    refine hq_ret1 rfl (rval_tmp rfl) [] rfl pre0 ?_
    rw [if_neg hc0, if_pos (.inr hc2)]; exact fz_bool (by simp only [beq_d, int_lt1])
  have hr2 := hc2; (try simp only [hcs, Int.reduceToNat] at hc2)
  refine srg fun N h10 => ?_
  refine st0 (hop_eql rfl rfl) rfl rfl ?_
  refine sta rfl rfl rfl ?_
  refine snl h10 ?_
  refine hw_cond _ rfl (fun hc3 => ?_) (fun hc3 => ?_)
  · have hr3 := hc3; (try simp only [hcs, Int.reduceToNat] at hc3)
    refine srg fun N h11 => ?_
    refine st0 (hop_fa fd_29_2 rfl) rfl rfl ?_
    refine st1 (hol_load ty_3 rfl (nb rfl) (nb rfl) (fun h => (by rfl))) rfl rfl rfl ?_
    refine st0 (hop_eql rfl rfl) rfl rfl ?_
    refine stm rfl rfl rfl ?_
    refine stg 54 (fun hb => hop_fa fd_29_2 rfl) rfl rfl rfl rfl rfl ?_
    refine hq_g 56 3 54 false _ (fun hb => hol_load ty_3 rfl (nb rfl) (nb rfl) (fun h => (by rfl))) rfl rfl rfl rfl (pre1 rfl) rfl rfl rfl ?_
    refine stg 54 (fun hb => hop_fa fd_29_1 rfl) rfl rfl rfl rfl rfl ?_
    refine hq_g 58 3 54 false _ (fun hb => hol_load ty_3 rfl (nb rfl) (nb rfl) (fun h => (by rfl))) rfl rfl rfl rfl (pre1 rfl) rfl rfl rfl ?_
    refine stg 54 (fun hb => hop_max rfl rfl) rfl rfl rfl rfl rfl ?_
    refine stg 54 (fun hb => hop_geq rfl rfl) rfl rfl rfl rfl rfl ?_
    refine stg 54 (fun hb => hop_move rfl) rfl rfl rfl rfl rfl ?_
    refine hq_g3 62 10 61 54 false true _ _ (fun hb hb2 => hop_fa fd_29_2 rfl) rfl rfl rfl rfl rfl pre0 rfl rfl rfl ?_
    refine hq_g3 63 10 61 54 false true _ _ (fun hb hb2 => hol_load ty_3 rfl (nb rfl) (nb rfl) (fun h => (by rfl))) rfl rfl rfl rfl rfl (pre1 rfl) rfl rfl rfl ?_
    refine hq_g3 64 10 61 54 false true _ _ (fun hb hb2 => hop_leq rfl rfl) rfl rfl rfl rfl rfl pre0 rfl rfl rfl ?_
    refine hq_pg 65 (hstep_andg (gi := 3) (j := 54) _ _ rfl rfl rfl rfl) rfl rfl rfl rfl ?_
    refine hq_p 66 (hstep_or _ _ rfl rfl rfl) rfl rfl rfl ?_
    refine sta rfl rfl rfl ?_
    refine hseq_nilU (by rfl) (by simp only [dropUn, slots]; exact rfl) ?_
    refine h11 _ ?_
    refine srg fun N h12 => ?_
    refine st0 (hop_fa fd_29_4 rfl) rfl rfl ?_
    refine st1 (hol_load ty_25 rfl (nb rfl) (nb rfl) (fun h => (by rfl))) rfl rfl rfl ?_
    refine st0 (hop_len_sl (T := 25) rfl (elOf_spec el_25).1 rfl) rfl rfl ?_
    refine st0 (hop_eql rfl rfl) rfl rfl ?_
    refine stm rfl rfl rfl ?_
    refine stg 71 (fun hb => hop_fa fd_29_1 rfl) rfl rfl rfl rfl rfl ?_
    refine hq_g 73 4 71 true _ (fun hb => hol_load ty_3 rfl (nb rfl) (nb rfl) (fun h => (by rfl))) rfl rfl rfl rfl (pre1 rfl) rfl rfl rfl ?_
    refine stg 71 (fun hb => hop_geq rfl rfl) rfl rfl rfl rfl rfl ?_
    refine hq_p 75 (hstep_and _ _ rfl rfl rfl) rfl rfl rfl ?_
    refine stm rfl rfl rfl ?_
    refine stg 76 (fun hb => hop_fa fd_29_1 rfl) rfl rfl rfl rfl rfl ?_
    refine hq_g 78 9 76 true _ (fun hb => hol_load ty_3 rfl (nb rfl) (nb rfl) (fun h => (by rfl))) rfl rfl rfl rfl (pre1 rfl) rfl rfl rfl ?_
    refine stg 76 (fun hb => hop_leq rfl rfl) rfl rfl rfl rfl rfl ?_
    refine hq_p 80 (hstep_and _ _ rfl rfl rfl) rfl rfl rfl ?_
    refine stm rfl rfl rfl ?_
    refine stg 81 (fun hb => hop_move rfl) rfl rfl rfl rfl rfl ?_
    refine hq_p 83 (hstep_and _ _ rfl rfl rfl) rfl rfl rfl ?_
    refine stm rfl rfl rfl ?_
    refine stg 84 (fun hb => hop_fa fd_29_3 rfl) rfl rfl rfl rfl rfl ?_
    refine hq_g 86 17 84 true _ (fun hb => hol_load ty_9 rfl (nb rfl) (nb rfl) (fun h => (by rfl))) rfl rfl rfl rfl (pre1 rfl) rfl rfl rfl ?_
    refine stg 84 (fun hb => hop_seq_l rfl rfl) rfl rfl rfl rfl rfl ?_
    refine hq_p 88 (hstep_and _ _ rfl rfl rfl) rfl rfl rfl ?_
    refine sta rfl rfl rfl ?_
    refine hseq_nilU (by rfl) (by simp only [dropUn, slots]; exact rfl) ?_
    refine h12 _ ?_
    refine hw_ret ?_
    refine hq_block_ret ?_
    refine hq_then_ret ?_
    refine hq_ret1 rfl (rval_tmp rfl) [] rfl pre0 ?_
    rw [if_neg hc0, if_neg (show ¬ (x.kind = 2 ∨ x.kind = 3) by omega), if_pos hc3]; exact fz_bool (by simp only [beq_d, int_1])
  have hr3 := hc3; (try simp only [hcs, Int.reduceToNat] at hc3)
  refine hw_skip ?_
  refine hq_block ?_
  refine h2 _ ?_
  refine srg fun N h13 => ?_
  refine sta rfl rfl rfl ?_
  refine snl h13 ?_
  refine hw_ret ?_
  refine hq_ret1 rfl (rval_tmp rfl) [] rfl pre0 ?_
  rw [if_neg hc0, if_neg (show ¬ (x.kind = 2 ∨ x.kind = 3) by omega), if_neg hc3]; exact .imm _
theorem right_step {n i : Nat} {e : List Pt} {op : List Int} (hi : i < e.length) : rightL n i (e.drop i) op = ((aloneV (e.getD i default) && (decide ((e.getD i default).kids.length ≤ op.length) && decide (op.drop (op.length - (e.getD i default).kids.length) = (e.getD i default).kids))) && rightL n (i + 1) (e.drop (i + 1)) (op.take (op.length - (e.getD i default).kids.length) ++ [(i : Int)])) := by
  have h : e.drop i = e.getD i default :: e.drop (i + 1) := by
    rw [List.getD_eq_getElem?_getD, List.getElem?_eq_getElem hi, List.drop_eq_getElem_cons hi]; rfl
  rw [h]; rfl
theorem os_eq {id g lo lo' n n' : Nat} (h1 : lo = lo') (h2 : n = n') : HV.os id g lo n = HV.os id g lo' n' := by subst h1; subst h2; rfl
instance frz_ptH (x : Pt) : Frz (ptH x) := ⟨.agg _ _ _ fun j hj => pt_fz x j⟩
theorem cut_all6 {op : List Int} {k : Nat} (h : k ≤ op.length) : (op.drop (op.length - k)).take k = op.drop (op.length - k) := List.take_of_length_le (by rw [List.length_drop]; omega)
theorem right_no {x : Pt} {op : List Int} (h : (!aloneV x || decide ((op.length : Int) - x.kids.length < 0) || !decide ((op.drop (op.length - x.kids.length)).take x.kids.length = x.kids)) = true) : (aloneV x && (decide (x.kids.length ≤ op.length) && decide (op.drop (op.length - x.kids.length) = x.kids))) = false := by
  by_cases hk : x.kids.length ≤ op.length
  · rw [cut_all6 hk, decide_eq_false (show ¬ ((op.length : Int) - x.kids.length < 0) by omega)] at h
    rw [decide_eq_true hk]
    cases ha : aloneV x <;> rw [ha] at h <;> simp at h ⊢
    exact h
  · rw [decide_eq_false hk]; simp
theorem right_yes {x : Pt} {op : List Int} (h : (!aloneV x || decide ((op.length : Int) - x.kids.length < 0) || !decide ((op.drop (op.length - x.kids.length)).take x.kids.length = x.kids)) = false) : (aloneV x && (decide (x.kids.length ≤ op.length) && decide (op.drop (op.length - x.kids.length) = x.kids))) = true ∧ x.kids.length ≤ op.length := by
  simp only [Bool.or_eq_false_iff, Bool.not_eq_false', decide_eq_false_iff_not] at h
  have hk : x.kids.length ≤ op.length := by omega
  have h2 := h.2
  rw [cut_all6 hk] at h2
  exact ⟨by rw [h.1.1, decide_eq_true hk, h2]; rfl, hk⟩
theorem osub_cut {op : List Int} {N k g ty : Nat} {r : Int} {F : Nat → Nat → HV} (hN : N = k) (hk : k ≤ op.length) (hF : ∀ j, F 0 j = intV r) : OSub ⟨g, N + 1, 1, ty, 0, cat N (kidsF op) F⟩ ⟨g, (op.take k ++ [r]).length, 1, ty, 0, kidsF (op.take k ++ [r])⟩ := by
  subst hN
  have hl : (op.take N).length = N := by rw [List.length_take]; omega
  exact osub_snoc (enc := fun x _ => intV x) (d := 0) (out := op.take N) hl.symm (fun i j hi hj => by
    have : (op.take N).getD i 0 = op.getD i 0 := by rw [List.getD_eq_getElem?_getD, List.getD_eq_getElem?_getD, List.getElem?_take, if_pos (by omega)]
    show Sb (intV (op.getD i 0)) (intV ((op.take N).getD i 0))
    rw [this]; exact .refl _) (fun j hj => by rw [hF]; exact .refl _)
theorem right_g {a : Bool} {ol kl : Nat} (h : (!a || decide ((ol : Int) - kl < 0)) = false) : ol - kl + kl ≤ ol := by simp at h; omega
theorem right_h (e : List Pt) (he : PtB e) : HPure Tryz.prog 32 [ptsV e] (boolV (rightV e)) := by
  have hel := he.1
  refine hpure_of Tryz.func32 rfl (by kernel_rfl) _ _ _ rfl 51 rfl rfl (fun w F => ?_)
  refine srg fun N h1 => ?_
  refine sta rfl rfl rfl ?_
  refine snl h1 ?_
  refine srg fun N h2 => ?_
  refine sta rfl rfl rfl ?_
  refine snl h2 ?_
  refine hw_seq (fun Nh3 h3 => ?_)
  refine srg fun N h4 => ?_
  refine stm rfl rfl rfl ?_
  refine st0 (hop_len_sl (T := 24) rfl (elOf_spec el_24).1 rfl) rfl rfl ?_
  refine stm rfl rfl rfl ?_
  refine snl h4 ?_
  refine hw_block ?_
  refine hw_own 3 8001 1 3 ((kidsF [])) rfl (by decide) rfl (c' := 1) rfl ?_
  refine hw_loopc (α := Nat × List Int × Nat) (fun x c => ⟨51, [(0, .v (ptsV e)), (3, .v (.os 8001 x.2.2 0 x.2.1.length)), (7, .v (ptsV e)), (8, .v (intV e.length)), (9, .v (intV x.1))], [(8001, ⟨x.2.2, x.2.1.length, 1, 3, 0, kidsF x.2.1⟩)], c⟩) (fun x => x.1 ≤ e.length ∧ x.2.1.length ≤ x.1 ∧ rightL e.length x.1 (e.drop x.1) x.2.1 = rightV e) (fun x => e.length - x.1) ((0, [], 0)) (by exact ⟨Nat.zero_le _, Nat.zero_le _, rfl⟩) (hsub_of rfl (Nat.le_refl _) (TmSub.cons rfl (Sb.refl _) (TmSub.cons rfl (Sb.refl _) (TmSub.cons rfl (Sb.refl _) (TmSub.cons rfl (Sb.refl _) (TmSub.cons rfl (Sb.refl _) TmSub.nil))))) (HpSub.cons rfl (OSub.refl _) HpSub.nil)) (fun x c hx NhL5 hL5 => ?_)
  revert hx hL5; obtain ⟨i, op, g⟩ := x; intro hx hL5; dsimp only at hx hL5 ⊢
  obtain ⟨hi, hop, hR⟩ := hx
  refine srg fun N h6 => ?_
  refine st0 (hop_lss rfl rfl) rfl rfl ?_
  refine snl h6 ?_
  refine hw_seq (fun Nh7 h7 => ?_)
  refine hw_cond _ rfl (fun hc0 => ?_) (fun hc0 => ?_)
  · have hr0 := hc0; (try simp only [hcs, Int.reduceToNat] at hc0)
    have hil : i < e.length := (by omega); have hkb := he.2 i hil; have hst := right_step (n := e.length) (op := op) hil
    refine hw_skip ?_
    refine h7 _ ?_
    refine hw_seq (fun Nh8 h8 => ?_)
    refine hw_block ?_
    refine srg fun N h9 => ?_
    refine stm rfl rfl rfl ?_
    refine st0 (hop_ia_sl el_24 rfl rfl (by omega) (by omega) (nb rfl)) rfl rfl ?_
    refine st0 (HOp.val (v' := ptH (e.getD i default)) (hop_load_fp ty_29 rfl (nb rfl) (fun h => (by cases h))) (rfl)) rfl rfl ?_
    refine hm_1 5 (hop_alloc (id := 5) (sz := 5) zc_29 rfl rfl (nb rfl) (nb rfl)) rfl rfl pre0 rfl rfl (c' := c + 1) rfl ?_
    refine sta rfl rfl rfl ?_
    refine hm_s1 (hol_storeW ty_29 rfl rfl rfl rfl) rfl rfl (pre1 rfl) (c' := c + 2) rfl ?_
    refine snl h9 ?_
    refine srg fun N h10 => ?_
    refine stm rfl rfl rfl ?_
    refine st0 (hop_len_os (T := 25) rfl (elOf_spec el_25).1 rfl) rfl rfl ?_
    refine st0 (hop_fa fd_29_4 rfl) rfl rfl ?_
    refine st1 (HOp.val (v' := kidsV (e.getD i default).kids) (hol_load ty_25 rfl (nb rfl) (nb rfl) (fun h => (by rfl))) (rfl)) rfl rfl rfl ?_
    refine st0 (hop_len_sl (T := 25) rfl (elOf_spec el_25).1 rfl) rfl rfl ?_
    refine st0 (hop_subi rfl rfl rfl (by omega) (by omega)) rfl rfl ?_
    refine sta rfl rfl rfl ?_
    refine snl h10 ?_
    refine hw_seq (fun Nh11 h11 => ?_)
    refine hw_seq (fun Nh12 h12 => ?_)
    refine hd_start ?_
    refine hd_q 20 (HOp.val (v' := ptH (e.getD i default)) (hol_load ty_29 rfl (nb rfl) (nb rfl) (fun h => (by cases h))) (rfl)) rfl rfl (pre1 rfl) rfl rfl (k' := 1) rfl ?_
    refine hd_q 21 (hop_call0 (xs := [_]) (alone_h (e.getD i default) (by omega) (by omega)) ⟨rfl, trivial⟩ ⟨(Fz.eq rfl), trivial⟩) rfl rfl pre0 rfl rfl (k' := 2) rfl ?_
    refine hd_q 22 (hop_not rfl) rfl rfl pre0 rfl rfl (k' := 3) rfl ?_
    refine hd_q 23 (hop_move rfl) rfl rfl pre0 rfl rfl (k' := 4) rfl ?_
    refine hd_g 24 3 23 false _ (fun hb => hop_move rfl) rfl rfl rfl rfl pre0 rfl rfl rfl (k' := 5) rfl ?_
    refine hd_g 25 3 23 false _ (fun hb => hop_lss rfl rfl) rfl rfl rfl rfl pre0 rfl rfl rfl (k' := 6) rfl ?_
    refine hd_p 26 (hstep_or _ _ rfl rfl rfl) rfl rfl rfl (k' := 7) rfl ?_
    refine hd_q 27 (hop_move rfl) rfl rfl pre0 rfl rfl (k' := 8) rfl ?_
    refine hd_g 28 7 27 false _ (fun hb => hop_move rfl) rfl rfl rfl rfl pre0 rfl rfl rfl (k' := 9) rfl ?_
    refine hd_g 29 7 27 false _ (fun hb => hop_move rfl) rfl rfl rfl rfl pre0 rfl rfl rfl (k' := 10) rfl ?_
    refine hd_g 30 7 27 false _ (fun hb => HOp.val (v' := .os 8001 g (op.length - (e.getD i default).kids.length) (e.getD i default).kids.length) (hol_cut_os el_25 rfl (.inr ⟨_, _, rfl, rfl⟩) (.inl ⟨rfl, rfl⟩) (by (simp at hb; first | omega | (dsimp only; omega) | (simp <;> omega))) (by (simp at hb; first | omega | (dsimp only; omega) | (simp <;> omega))) (by (simp at hb; first | omega | (dsimp only; omega) | (simp <;> omega)))) (os_eq (by simp at hb; omega) (by simp at hb; omega))) rfl rfl rfl rfl (pre1 rfl) rfl rfl rfl (k' := 11) rfl ?_
    refine hd_g 31 7 27 false _ (fun hb => hop_fa fd_29_4 rfl) rfl rfl rfl rfl pre0 rfl rfl rfl (k' := 12) rfl ?_
    refine hd_g 32 7 27 false _ (fun hb => HOp.val (v' := kidsV (e.getD i default).kids) (hol_load ty_25 rfl (nb rfl) (nb rfl) (fun h => (by rfl))) (rfl)) rfl rfl rfl rfl (pre1 rfl) rfl rfl rfl (k' := 13) rfl ?_
    refine hd_g 33 7 27 false _ (fun hb => hop_funR (xs := [_, _]) (pre := [(8001, _)]) (equal_h g (op.length - (e.getD i default).kids.length) (e.getD i default).kids.length op (e.getD i default).kids (by omega) (by omega) (right_g hb)) ⟨rfl, ⟨rfl, trivial⟩⟩) rfl rfl rfl rfl (preC rfl pre0) rfl rfl rfl (k' := 14) rfl ?_
    refine hd_g 34 7 27 false _ (fun hb => hop_not rfl) rfl rfl rfl rfl pre0 rfl rfl rfl (k' := 15) rfl ?_
    refine hd_p 35 (hstep_or _ _ rfl rfl rfl) rfl rfl rfl (k' := 16) rfl ?_
    refine hd_nil (by kernel_rfl) (by kernel_rfl) (c' := c + 18) rfl ?_
    refine h12 _ ?_
    refine hw_cond _ rfl (fun hc1 => ?_) (fun hc1 => ?_)
    · have hr1 := hc1; (try simp only [hcs, Int.reduceToNat] at hc1)
      have hf := right_no hr1; rw [hf, Bool.false_and] at hst
      refine srg fun N h13 => ?_
      refine sta rfl rfl rfl ?_
      refine snl h13 ?_
      refine hw_ret ?_
      refine hq_then_ret ?_
      refine hq_block_ret ?_
      refine hq_then_ret ?_
      refine hq_then_ret ?_
      refine hq_block_ret ?_
      refine hq_then_ret ?_
      refine hq_ret1 rfl (rval_tmp rfl) [] rfl pre0 ?_
      rw [← hR, hst]; exact .imm _
    have hr1 := hc1; (try simp only [hcs, Int.reduceToNat] at hc1)
    obtain ⟨hf, hkl⟩ := right_yes hr1; rw [hf, Bool.true_and] at hst
    refine hw_skip ?_
    refine h11 _ ?_
    refine hw_region ?_
    refine stm rfl rfl rfl ?_
    refine stm rfl rfl rfl ?_
    refine st1 (hol_cut_os el_25 rfl (.inl ⟨rfl, rfl⟩) (.inr ⟨_, _, rfl, rfl⟩) (by omega) (by omega) (by omega)) rfl rfl rfl ?_
    refine stm rfl rfl rfl ?_
    refine hm_1 40 (hop_buildSlice (id := 40) (hs := [_]) ei_25 (nb rfl) rfl (nb rfl) ⟨rfl, rfl, rfl, rfl, trivial⟩) rfl rfl pre0 rfl rfl (c' := c + 19) rfl ?_
    refine hm_1 41 (hol_append ei_25 (nb rfl) rfl (by omega) (nb rfl) (srl_os0 rfl (nb rfl)) (by omega) rfl) rfl rfl (preC rfl (pre1 rfl)) rfl rfl (c' := c + 20) rfl ?_
    refine sta rfl rfl rfl ?_
    refine hseq_nil ?_
    refine hq_block ?_
    refine h8 _ ?_
    refine hw_region ?_
    refine st0 (hop_addi rfl rfl rfl (by omega) (by omega)) rfl rfl ?_
    refine stm rfl rfl rfl ?_
    refine hseq_nil ?_
    exact hL5 ((i + 1, op.take (op.length - (e.getD i default).kids.length) ++ [(i : Int)], c + 19)) _ _ (by (try dsimp only); exact ⟨by omega, by rw [List.length_append, List.length_take]; show _ + 1 ≤ _; omega, by rw [← hst]; exact hR⟩) (by (try dsimp only); omega) (hsub_of rfl (Nat.le_refl _) (TmSub.cons rfl (Sb.refl _) (TmSub.cons rfl (by dsimp only; exact sb_os (by rw [List.length_append, List.length_take]; show _ + 1 = _ + 1; omega)) (TmSub.cons rfl (Sb.refl _) (TmSub.cons rfl (Sb.refl _) (TmSub.cons rfl (Sb.refl _) TmSub.nil))))) (HpSub.cons rfl (by dsimp only; exact osub_cut (k := op.length - (e.getD i default).kids.length) (r := (i : Int)) (by omega) (by omega) (fun _ => rfl)) HpSub.nil))
  have hr0 := hc0; (try simp only [hcs, Int.reduceToNat] at hc0)
  refine hw_exit ?_
  refine hq_then_exit ?_
  refine hq_then_exit ?_
  refine hq_block_here ?_
  refine h3 _ ?_
  refine srg fun N h14 => ?_
  refine stm rfl rfl rfl ?_
  refine st0 (hop_len_os (T := 25) rfl (elOf_spec el_25).1 rfl) rfl rfl ?_
  refine st0 (hop_eql rfl rfl) rfl rfl ?_
  refine stm rfl rfl rfl ?_
  refine stg 46 (fun hb => hop_move rfl) rfl rfl rfl rfl rfl ?_
  refine stg 46 (fun hb => hop_len_sl (T := 24) rfl (elOf_spec el_24).1 rfl) rfl rfl rfl rfl rfl ?_
  refine stg 46 (fun hb => hop_eql rfl rfl) rfl rfl rfl rfl rfl ?_
  refine hq_p 50 (hstep_or _ _ rfl rfl rfl) rfl rfl rfl ?_
  refine sta rfl rfl rfl ?_
  refine hseq_nilU (by rfl) (by simp only [dropUn, slots]; exact rfl) ?_
  refine h14 _ ?_
  refine hw_ret ?_
  refine hq_ret1 rfl (rval_tmp rfl) [] rfl pre0 ?_
  rw [← hR, List.drop_eq_nil_of_le (by omega)]; exact fz_bool (by simp only [rightL, beq_d, int_1, int_0])
end Go.Proofs.YtldjnmljnlhaaaaGreatDoor

namespace Go.Proofs.YtldjnmljnlhaaaaGreatDoor
set_option linter.unusedSimpArgs false
set_option linter.unusedVariables false
set_option maxRecDepth 100000
set_option maxHeartbeats 4000000
open Go.RowKit

theorem pt_at {e : List Pt} {j k : Nat} {x : Pt} (hj : j = k) (h : e.getD k default = x) : ldv true 5 (ptsF e j) 0 = ptH x := by subst hj; subst h; rfl
end Go.Proofs.YtldjnmljnlhaaaaGreatDoor

namespace Go.Proofs.YtldjnmljnlhaaaaGreatDoor
set_option linter.unusedSimpArgs false
set_option linter.unusedVariables false
set_option maxRecDepth 100000
set_option maxHeartbeats 1000000
open Go.RowKit

theorem getD_mem' {l : List Pt} {i : Nat} (h : i < l.length) : l.getD i default ∈ l := by
  rw [List.getD_eq_getElem?_getD, List.getElem?_eq_getElem h]; exact List.getElem_mem h
theorem ptB_flat {t : T} (h : t.ok = true) (hs : t.size ≤ 100000) : PtB (T.flat 0 t) := by
  refine ⟨by rw [T.flat_len]; exact hs, fun i hi => ?_⟩
  have := flat_small t 0 h _ (getD_mem' hi)
  omega
end Go.Proofs.YtldjnmljnlhaaaaGreatDoor

namespace Go.Proofs.YtldjnmljnlhaaaaGreatDoor
set_option linter.unusedSimpArgs false
set_option linter.unusedVariables false

def T.kidsT : T → List T
  | .name _ => []
  | .times _ _ t => [t]
  | .many _ ts => ts
theorem top_kids (b : Nat) (t : T) : (t.top b).kids = rootsL b t.kidsT := by
  cases t <;> simp [T.top, T.kidsT, rootsL]
theorem kids_at' {e : List Pt} {b i : Nat} {t : T} (h : AtP e b (T.flat b t)) (hi : i < t.kidsT.length) : AtP e (b + T.sizeL (t.kidsT.take i)) (T.flat (b + T.sizeL (t.kidsT.take i)) (t.kidsT.getD i default)) := by
  cases t with
  | name s => exact absurd hi (Nat.not_lt_zero _)
  | times lo hi' t =>
    obtain rfl : i = 0 := by simpa [T.kidsT] using hi
    simp only [T.flat] at h
    have := atP_left h
    simpa [T.kidsT, T.sizeL] using this
  | many k ts => exact at_kid h hi
/-- The names, each once. -/
def addN (o : List (List UInt8)) (x : Pt) : List (List UInt8) := if x.kind = 1 ∧ x.name ∉ o then o ++ [x.name] else o
def namesV (e : List Pt) : List (List UInt8) := e.foldl addN []
theorem names_take {e : List Pt} {i : Nat} (h : i < e.length) : namesV (e.take (i + 1)) = addN (namesV (e.take i)) (e.getD i default) := by
  have : e.take (i + 1) = e.take i ++ [e.getD i default] := by
    rw [List.take_add_one, List.getD_eq_getElem?_getD, List.getElem?_eq_getElem h]; rfl
  unfold namesV
  rw [this, List.foldl_append]; rfl
theorem names_len {e : List Pt} : ∀ i, (namesV (e.take i)).length ≤ i
  | 0 => by simp [namesV]
  | i + 1 => by
    have ih := names_len (e := e) i
    rcases Nat.lt_or_ge i e.length with h | h
    · rw [names_take h]
      unfold addN
      split
      · rw [List.length_append]; show _ + 1 ≤ _; omega
      · omega
    · rw [List.take_of_length_le (by omega)]
      rw [List.take_of_length_le (by omega)] at ih
      omega
end Go.Proofs.YtldjnmljnlhaaaaGreatDoor

namespace Go.Proofs.YtldjnmljnlhaaaaGreatDoor
set_option linter.unusedSimpArgs false
set_option linter.unusedVariables false
set_option maxRecDepth 100000
set_option maxHeartbeats 1000000
open Go.RowKit
def wMin (n : Nat) : Int := if n < 257 then n else 257
theorem wL_take : ∀ (ts : List T) (i : Nat), i < ts.length → T.wL (ts.take (i + 1)) = T.wL (ts.take i) + (ts.getD i default).w
  | [], i, h => absurd h (Nat.not_lt_zero _)
  | t :: ts, 0, _ => by simp [T.wL]
  | t :: ts, i + 1, h => by
    have := wL_take ts i (by simpa using h)
    simp only [List.take_succ_cons, T.wL]
    rw [this]
    simp
    omega
theorem wMin_add (a b : Nat) : (if 257 < wMin a + wMin b then (257 : Int) else wMin a + wMin b) = wMin (a + b) := by
  unfold wMin; split <;> split <;> split <;> split <;> omega
theorem wMin_mul (a k : Nat) (hk : k ≤ 1000) : (if 257 < wMin a * (k : Int) then (257 : Int) else wMin a * (k : Int)) = wMin (a * k) ∧ 0 ≤ wMin a * (k : Int) ∧ wMin a * (k : Int) ≤ 257000 := by
  have h0 : 0 ≤ wMin a ∧ wMin a ≤ 257 := by unfold wMin; split <;> omega
  have h1 : 0 ≤ wMin a * (k : Int) := Int.mul_nonneg h0.1 (by omega)
  have h2 : wMin a * (k : Int) ≤ 257 * (k : Int) := Int.mul_le_mul_of_nonneg_right h0.2 (by omega)
  refine ⟨?_, h1, by omega⟩
  by_cases ha : a < 257
  · have e : wMin a = (a : Int) := by unfold wMin; rw [if_pos ha]
    rw [e]
    have e2 : ((a : Int) * (k : Int)) = ((a * k : Nat) : Int) := by rw [Int.natCast_mul]
    rw [e2]
    unfold wMin
    split <;> split <;> omega
  · have e : wMin a = 257 := by unfold wMin; rw [if_neg ha]
    rw [e]
    rcases Nat.eq_zero_or_pos k with rfl | hk0
    · simp [wMin]
    · have h3 : 257 ≤ a * k := Nat.le_trans (by omega : 257 ≤ a) (Nat.le_mul_of_pos_right a hk0)
      have e3 : wMin (a * k) = 257 := by unfold wMin; rw [if_neg (by omega)]
      rw [e3]
      split <;> omega
theorem wMin_le (a : Nat) : 0 ≤ wMin a ∧ wMin a ≤ 257 := by unfold wMin; split <;> omega
theorem w_name {t : T} (h : t.kind = 1) (hok : t.ok = true) : t.w = 1 := by
  cases t with
  | name s => rfl
  | times lo hi t => simp [T.kind] at h
  | many k ts => simp [T.kind] at h; subst h; simp [T.ok] at hok
theorem w_times {t : T} (h : t.kind = 4) (hok : t.ok = true) : ∃ lo hi u, t = .times lo hi u := by
  cases t with
  | name s => simp [T.kind] at h
  | times lo hi t => exact ⟨lo, hi, t, rfl⟩
  | many k ts => simp [T.kind] at h; subst h; simp [T.ok] at hok
theorem w_many {t : T} (h1 : t.kind ≠ 1) (h : t.kind ≠ 4) : t.w = T.wL t.kidsT := by
  cases t with
  | name s => simp [T.kind] at h1
  | times lo hi t => simp [T.kind] at h
  | many k ts => simp [T.w, T.kidsT]
theorem many_int (lo hi : Int) (h1 : 0 ≤ lo) : (if hi < 0 then (if lo < 1 then 1 else lo) else hi) = ((manyOf lo hi : Nat) : Int) := by
  unfold manyOf; split <;> (try split) <;> omega
theorem w_count {t : T} (b : Nat) (h : t.kind = 4) (hok : t.ok = true) : t.w = T.wL t.kidsT * manyOf (t.top b).low (t.top b).high ∧ 0 ≤ (t.top b).low ∧ (t.top b).low ≤ 20 ∧ (t.top b).high ≤ 20 ∧ manyOf (t.top b).low (t.top b).high ≤ 20 := by
  obtain ⟨lo, hi, u, rfl⟩ := w_times h hok
  simp only [T.ok, Bool.and_eq_true, Bool.or_eq_true, decide_eq_true_eq] at hok
  refine ⟨by simp [T.w, T.kidsT, T.wL, T.top], hok.1.1.1, hok.1.1.2, ?_, ?_⟩
  · show hi ≤ 20; omega
  · show manyOf lo hi ≤ 20
    unfold manyOf
    split <;> (try split) <;> omega
@[reducible] def PlC (e : List Pt) (b : Nat) (t : T) : Prop := HPure Tryz.prog 36 [ptsV e, intV ((b + t.size - 1 : Nat) : Int)] (intV (wMin t.w))
theorem places_one (e : List Pt) (he : e.length ≤ 100000) (b : Nat) (t : T) (hok : t.ok = true) (hat : AtP e b (T.flat b t)) (hkl : t.kidsT.length ≤ 100000)
    (ih : ∀ i, i < t.kidsT.length → PlC e (b + T.sizeL (t.kidsT.take i)) (t.kidsT.getD i default)) : PlC e b t := by
  have htop := at_top hat
  have hps := t.size_pos
  have hkid := top_kids b t
  have hrl := rootsL_len t.kidsT b
  generalize htp : t.top b = p at htop hkid
  have hpk : p.kind = t.kind := by rw [← htp]; exact top_kind b t
  refine hpure_of Tryz.func36 rfl (by kernel_rfl) _ _ _ rfl 46 rfl rfl (fun w F => ?_)
  refine srg fun N h1 => ?_
  refine sta rfl rfl rfl ?_
  refine snl h1 ?_
  refine srg fun N h2 => ?_
  refine stm rfl rfl rfl ?_
  refine stm rfl rfl rfl ?_
  refine st0 (hop_ia_sl el_24 rfl rfl (by omega) (by omega) (nb rfl)) rfl rfl ?_
  refine st0 (HOp.val (v' := ptH p) (hop_load_fp ty_29 rfl (nb rfl) (fun h => (by cases h))) (pt_at (by omega) htop.1)) rfl rfl ?_
  refine hm_1 5 (hop_alloc (id := 5) (sz := 5) zc_29 rfl rfl (nb rfl) (nb rfl)) rfl rfl pre0 rfl rfl (c' := 1) rfl ?_
  refine hm_s1 (hol_storeW ty_29 rfl rfl rfl rfl) rfl rfl (pre1 rfl) (c' := 2) rfl ?_
  refine snl h2 ?_
  refine hw_seq (fun Nh3 h3 => ?_)
  refine srg fun N h4 => ?_
  refine st0 (hop_fa fd_29_0 rfl) rfl rfl ?_
  refine st1 (hol_load ty_3 rfl (nb rfl) (nb rfl) (fun h => (by rfl))) rfl rfl rfl ?_
  refine st0 (hop_eql rfl rfl) rfl rfl ?_
  refine snl h4 ?_
  refine hw_cond _ rfl (fun hc0 => ?_) (fun hc0 => ?_)
  · have hr0 := hc0; (try simp only [hcs, Int.reduceToNat] at hc0)
    refine srg fun N h5 => ?_
    refine sta rfl rfl rfl ?_
    refine snl h5 ?_
    refine hw_ret ?_
    refine hq_then_ret ?_
    refine hq_ret1 rfl (rval_tmp rfl) [] rfl pre0 ?_
    rw [w_name (by rw [← hpk]; exact hc0) hok]; exact .imm _
  have hr0 := hc0; (try simp only [hcs, Int.reduceToNat] at hc0)
  refine hw_skip ?_
  refine h3 _ ?_
  refine srg fun N h6 => ?_
  refine sta rfl rfl rfl ?_
  refine snl h6 ?_
  refine hw_seq (fun Nh7 h7 => ?_)
  refine srg fun N h8 => ?_
  refine st0 (hop_fa fd_29_4 rfl) rfl rfl ?_
  refine st1 (hol_load ty_25 rfl (nb rfl) (nb rfl) (fun h => (by rfl))) rfl rfl rfl ?_
  refine st0 (hop_len_sl (T := 25) rfl (elOf_spec el_25).1 rfl) rfl rfl ?_
  refine stm rfl rfl rfl ?_
  refine snl h8 ?_
  refine hw_block ?_
  refine hw_loopc (α := Nat) (fun x c => ⟨46, [(0, .v (ptsV e)), (5, .v (.pt 5 0 0 0)), (6, .v (intV (wMin (T.wL (t.kidsT.take x))))), (18, .v (kidsV p.kids)), (19, .v (intV p.kids.length)), (20, .v (intV x))], [(5, ⟨0, 1, 5, 29, 0, fun _ => ptF p⟩)], c⟩) (fun x => x ≤ t.kidsT.length) (fun x => t.kidsT.length - x) (0) (by omega) (hsub_of rfl (Nat.le_refl _) (TmSub.cons rfl (Sb.refl _) (TmSub.cons rfl (Sb.refl _) (TmSub.cons rfl (Sb.refl _) (TmSub.cons rfl (Sb.refl _) (TmSub.cons rfl (Sb.refl _) (TmSub.cons rfl (Sb.refl _) TmSub.nil)))))) (HpSub.cons rfl (OSub.refl _) HpSub.nil)) (fun i c hx NhL9 hL9 => ?_)
  (try dsimp only at hx hL9 ⊢)
  have hm1 := wMin_le (T.wL (t.kidsT.take i))
  refine srg fun N h10 => ?_
  refine st0 (hop_lss rfl rfl) rfl rfl ?_
  refine snl h10 ?_
  refine hw_seq (fun Nh11 h11 => ?_)
  refine hw_cond _ rfl (fun hc1 => ?_) (fun hc1 => ?_)
  · have hr1 := hc1; (try simp only [hcs, Int.reduceToNat] at hc1)
    have him : i < t.kidsT.length := (by have h := hr1; simp [hkid, hrl] at h; omega); have hka := kids_at' hat him; have hkt := at_top hka; have hks := (t.kidsT.getD i default).size_pos; have hroot := roots_get t.kidsT b i him; have hm2 := wMin_le (t.kidsT.getD i default).w; have hwt := wL_take t.kidsT i him; have hma := wMin_add (T.wL (t.kidsT.take i)) (t.kidsT.getD i default).w
    refine hw_skip ?_
    refine h11 _ ?_
    refine hw_seq (fun Nh12 h12 => ?_)
    refine hw_block ?_
    refine srg fun N h13 => ?_
    refine st0 (hop_ia_sl el_25 rfl rfl (by omega) (by omega) (nb rfl)) rfl rfl ?_
    refine st0 (HOp.val (v' := intV ((b + T.sizeL (t.kidsT.take i) + (t.kidsT.getD i default).size - 1 : Nat) : Int)) (hop_load_fp ty_3 rfl (nb rfl) (fun h => (by rfl))) (by exact kids_at (i := i) (by omega) (by rw [hkid, hroot]; unfold T.root; omega))) rfl rfl ?_
    refine sta rfl rfl rfl ?_
    refine snl h13 ?_
    refine hw_region ?_
    refine stm rfl rfl rfl ?_
    refine stm rfl rfl rfl ?_
    refine stm rfl rfl rfl ?_
    refine st0 (hop_call0 (xs := [_, _]) (ih i him) ⟨rfl, ⟨rfl, trivial⟩⟩ ⟨(Fz.eq rfl), ⟨(Fz.eq rfl), trivial⟩⟩) rfl rfl ?_
    refine st0 (hop_addi rfl rfl rfl (by omega) (by omega)) rfl rfl ?_
    refine st0 (HOp.val (v' := intV (wMin (T.wL (t.kidsT.take (i + 1))))) (hop_min rfl rfl) (by rw [hwt, ← hma])) rfl rfl ?_
    refine sta rfl rfl rfl ?_
    refine hseq_nil ?_
    refine hq_block ?_
    refine h12 _ ?_
    refine hw_region ?_
    refine st0 (hop_addi rfl rfl rfl (by omega) (by omega)) rfl rfl ?_
    refine stm rfl rfl rfl ?_
    refine hseq_nil ?_
    exact hL9 (i + 1) _ _ (by (try dsimp only); omega) (by (try dsimp only); omega) (hsub_of rfl (Nat.le_refl _) (TmSub.cons rfl (Sb.refl _) (TmSub.cons rfl (Sb.refl _) (TmSub.cons rfl (Sb.refl _) (TmSub.cons rfl (Sb.refl _) (TmSub.cons rfl (Sb.refl _) (TmSub.cons rfl (Sb.refl _) TmSub.nil)))))) (HpSub.cons rfl (OSub.refl _) HpSub.nil))
  have hr1 := hc1; (try simp only [hcs, Int.reduceToNat] at hc1)
  have hit : i = t.kidsT.length := (by have h := hr1; simp [hkid, hrl] at h; omega); rw [hit, List.take_length]
  refine hw_exit ?_
  refine hq_then_exit ?_
  refine hq_then_exit ?_
  refine hq_block_here ?_
  refine h7 _ ?_
  refine hw_seq (fun Nh14 h14 => ?_)
  refine srg fun N h15 => ?_
  refine st0 (hop_fa fd_29_0 rfl) rfl rfl ?_
  refine st1 (hol_load ty_3 rfl (nb rfl) (nb rfl) (fun h => (by rfl))) rfl rfl rfl ?_
  refine st0 (hop_eql rfl rfl) rfl rfl ?_
  refine snl h15 ?_
  refine hw_cond _ rfl (fun hc2 => ?_) (fun hc2 => ?_)
  · have hr2 := hc2; (try simp only [hcs, Int.reduceToNat] at hc2)
    have hct := w_count b (by rw [← hpk]; exact hc2) hok; rw [htp] at hct; have hmi := many_int p.low p.high hct.2.1; have hmm := wMin_mul (T.wL t.kidsT) (manyOf p.low p.high) (by omega)
    refine srg fun N h16 => ?_
    refine st0 (hop_fa fd_29_2 rfl) rfl rfl ?_
    refine st1 (hol_load ty_3 rfl (nb rfl) (nb rfl) (fun h => (by rfl))) rfl rfl rfl ?_
    refine sta rfl rfl rfl ?_
    refine snl h16 ?_
    refine hw_joinc (α := Nat) (fun x c => ⟨46, [(5, .v (.pt 5 0 0 0)), (6, .v (intV (wMin (T.wL t.kidsT)))), (9, .v (intV ((manyOf p.low p.high : Nat) : Int)))], [(5, ⟨0, 1, 5, 29, 0, fun _ => ptF p⟩)], c⟩) (fun x => True) (fun NhJ17 hJ17 => ?_) (fun k c hx => ?_)
    · skip
      refine srg fun N h18 => ?_
      refine stm rfl rfl rfl ?_
      refine st0 (hop_lss rfl rfl) rfl rfl ?_
      refine snl h18 ?_
      refine hw_cond _ rfl (fun hc3 => ?_) (fun hc3 => ?_)
      · have hr3 := hc3; (try simp only [hcs, Int.reduceToNat] at hc3)
        refine hw_region ?_
        refine st0 (hop_fa fd_29_1 rfl) rfl rfl ?_
        refine st1 (hol_load ty_3 rfl (nb rfl) (nb rfl) (fun h => (by rfl))) rfl rfl rfl ?_
        refine st0 (HOp.val (v' := intV ((manyOf p.low p.high : Nat) : Int)) (hop_max rfl rfl) (by rw [← hmi, if_pos hc3])) rfl rfl ?_
        refine sta rfl rfl rfl ?_
        refine hseq_nil ?_
        exact hJ17 (0) _ _ (by (try dsimp only); first | done | trivial) (hsub_of rfl (Nat.le_refl _) (TmSub.cons rfl (Sb.refl _) (TmSub.cons rfl (Sb.refl _) (TmSub.cons rfl (Sb.refl _) TmSub.nil))) (HpSub.cons rfl (OSub.refl _) HpSub.nil))
      have hr3 := hc3; (try simp only [hcs, Int.reduceToNat] at hc3)
      refine hw_skip ?_
      exact hJ17 (0) _ _ (by (try dsimp only); first | done | trivial) (hsub_of rfl (Nat.le_refl _) (TmSub.cons rfl (Sb.refl _) (TmSub.cons rfl (Sb.refl _) (TmSub.cons rfl (by rw [← hmi, if_neg hc3]; exact .refl _) TmSub.nil))) (HpSub.cons rfl (OSub.refl _) HpSub.nil))
    · skip
      (try dsimp only at hx ⊢)
      refine hw_region ?_
      refine stm rfl rfl rfl ?_
      refine stm rfl rfl rfl ?_
      refine st0 (hop_muli rfl rfl rfl (by omega) (by omega)) rfl rfl ?_
      refine st0 (HOp.val (v' := intV (wMin t.w)) (hop_min rfl rfl) (by rw [hct.1, ← hmm.1])) rfl rfl ?_
      refine sta rfl rfl rfl ?_
      refine snl h14 ?_
      refine srg fun N h19 => ?_
      refine stm rfl rfl rfl ?_
      refine sta rfl rfl rfl ?_
      refine snl h19 ?_
      refine hw_ret ?_
      refine hq_ret1 rfl (rval_tmp rfl) [] rfl pre0 ?_
      exact .imm _
  have hr2 := hc2; (try simp only [hcs, Int.reduceToNat] at hc2)
  have hwm := w_many (by rw [← hpk]; exact hc0) (by rw [← hpk]; exact hc2); rw [← hwm]
  refine hw_skip ?_
  refine h14 _ ?_
  refine srg fun N h20 => ?_
  refine stm rfl rfl rfl ?_
  refine sta rfl rfl rfl ?_
  refine snl h20 ?_
  refine hw_ret ?_
  refine hq_ret1 rfl (rval_tmp rfl) [] rfl pre0 ?_
  exact .imm _
theorem sizeL_ge2 : ∀ ts : List T, ts.length ≤ T.sizeL ts
  | [] => Nat.zero_le _
  | t :: ts => by have := sizeL_ge2 ts; have := t.size_pos; simp only [List.length_cons, T.sizeL]; omega
theorem kids_few2 {t : T} : t.kidsT.length ≤ t.size := by
  cases t with
  | name s => exact Nat.zero_le _
  | times lo hi t => simp [T.kidsT, T.size]
  | many k ts => have := sizeL_ge2 ts; simp only [T.kidsT, T.size]; omega
mutual
theorem places_h (e : List Pt) (he : e.length ≤ 100000) : ∀ (t : T) (b : Nat), t.ok = true → AtP e b (T.flat b t) → PlC e b t
  | .name s, b, hok, hat => places_one e he b (.name s) hok hat (Nat.zero_le _) (fun i hi => absurd hi (Nat.not_lt_zero _))
  | .times lo hi t, b, hok, hat => by
    have hok' : t.ok = true := by simp only [T.ok, Bool.and_eq_true] at hok; exact hok.2
    refine places_one e he b (.times lo hi t) hok hat (by simp [T.kidsT]) (fun i hi => ?_)
    obtain rfl : i = 0 := by simpa [T.kidsT] using hi
    have := places_h e he t b hok' (by simp only [T.flat] at hat; exact atP_left hat)
    simpa [T.kidsT, T.sizeL] using this
  | .many k ts, b, hok, hat => by
    have hok' : T.okL ts = true := by simp only [T.ok, Bool.and_eq_true] at hok; exact hok.2
    have hkl : (T.many k ts).kidsT.length ≤ 100000 := by
      have := kids_few2 (t := .many k ts); have := (at_top hat).2; omega
    exact places_one e he b (.many k ts) hok hat hkl (fun i hi => placesL_h e he ts hok' i hi _ (kids_at' hat hi))
theorem placesL_h (e : List Pt) (he : e.length ≤ 100000) : ∀ ts : List T, T.okL ts = true → ∀ i, i < ts.length → ∀ b, AtP e b (T.flat b (ts.getD i default)) → PlC e b (ts.getD i default)
  | [], _, i, hi => absurd hi (Nat.not_lt_zero _)
  | t :: ts, hok, i, hi => fun b hat => by
    simp only [T.okL, Bool.and_eq_true] at hok
    cases i with
    | zero => exact places_h e he t b hok.1 hat
    | succ i => exact placesL_h e he ts hok.2 i (by simpa using hi) b (by simpa using hat)
end
end Go.Proofs.YtldjnmljnlhaaaaGreatDoor

namespace Go.Proofs.YtldjnmljnlhaaaaGreatDoor
set_option linter.unusedSimpArgs false
set_option linter.unusedVariables false
set_option maxRecDepth 100000
set_option maxHeartbeats 1000000
open Go.RowKit
@[reducible] def pcsF (l : List Pc) : Nat → Nat → HV := fun i => pcF (l.getD i default)
@[reducible] def pcsV (l : List Pc) : HV := .sl 9 l.length (pcsF l)
@[reducible] def pcsO (g : Nat) (l : List Pc) : HObj := ⟨g, l.length, 9, 74, 0, pcsF l⟩
instance (l : List Pc) : Frz (pcsV l) := ⟨.sl _ _ _ _ fun i j _ _ => fz_pcF _ j⟩
theorem fz_pc {sh : List (Nat × HObj)} {f : Nat → HV} {p : Pc} (h : ∀ j, j < 9 → f j = pcF p j) : Fz sh (.agg 9 f) (pcH p) := .agg _ _ _ fun j hj => by rw [h j hj]; exact fz_pcF p j
theorem back_h (l : List Pc) : HPure Tryz.prog 91 [pcsV l] (.fn (.func 103) 1 (fun i => [HV.fp 1 (fun _ => pcsV l)].getD i default)) := by
  refine hpure_of Tryz.func91 rfl (by kernel_rfl) _ _ _ rfl 4 rfl rfl (fun w F => ?_)
  refine srg fun N h1 => ?_
  refine hm_1 1 (hop_box (id := 1) (sz := 1) rfl rfl rfl (nb rfl) (nb rfl)) rfl rfl pre0 rfl rfl (c' := 1) rfl ?_
  refine sta rfl rfl rfl ?_
  refine snl h1 ?_
  refine srg fun N h2 => ?_
  refine st0 (hop_makeFunc (hs := [_]) ⟨rfl, trivial⟩) rfl rfl ?_
  refine sta rfl rfl rfl ?_
  refine snl h2 ?_
  refine hw_ret ?_
  refine hq_ret1 rfl (rval_tmp rfl) [(1, _)] rfl (preC rfl pre0) ?_
  exact .fn _ _ _ _ (fun i hi => by obtain rfl : i = 0 := (by simpa using hi); exact .pt 1 0 0 0 1 _ (fun _ => pcsV l) (List.mem_cons_self ..) rfl (Nat.lt_succ_self 0) (Nat.le_refl 1) (fun j hj => show Fz _ (pcsV l) (pcsV l) from Frz.fz))
theorem back_it (l : List Pc) (hl : l.length ≤ 100000) : HIter Tryz.prog 103 [.fp 1 (fun _ => pcsV l)] l.length (fun i => [intV ((l.length - 1 - i : Nat) : Int), pcH (l.getD (l.length - 1 - i) default)]) := by
  refine hiter_of Tryz.func103 rfl (by kernel_rfl) _ _ _ _ rfl 19 rfl rfl (fun X hXN hXy O W F hg => ?_)
  refine hw_seqC (fun Nh1 h1 => ?_)
  refine hw_region ?_
  refine st0 (hop_load_fp ty_146 rfl (nb rfl) (fun h => (by rfl))) rfl rfl ?_
  refine st0 (hop_len_sl (T := 146) rfl (elOf_spec el_146).1 rfl) rfl rfl ?_
  refine st0 (hop_subi rfl rfl rfl (by omega) (by omega)) rfl rfl ?_
  refine sta rfl rfl rfl ?_
  refine hseq_nil ?_
  refine h1 _ _ rfl ?_
  refine hw_block ?_
  refine hw_loopI (α := Nat) (fun x => [(0, .v (.fn (.yield X.l) 0 fun _ => default)), (1, .v (.fp 1 (fun _ => pcsV l))), (3, .v (intV ((x : Int) - 1)))]) (fun x => x ≤ l.length) (fun x => l.length - x) (fun x => x) (l.length) (by exact Nat.le_refl _) (by first | exact hg | simpa using hg) (hsub_of rfl (Nat.le_refl _) (TmSub.cons rfl (Sb.refl _) (TmSub.cons rfl (Sb.refl _) (TmSub.cons rfl (Sb.refl _) TmSub.nil))) HpSub.nil) (fun r O W F c hx hg NhL2 hL2 => ?_)
  (try dsimp only at hx hg hL2 ⊢)
  refine hw_seqC (fun Nh3 h3 => ?_)
  refine hw_seqC (fun Nh4 h4 => ?_)
  refine hw_region ?_
  refine stm rfl rfl rfl ?_
  refine st0 (hop_geq rfl rfl) rfl rfl ?_
  refine hseq_nil ?_
  refine h4 _ _ rfl ?_
  refine hw_cond _ rfl (fun hc0 => ?_) (fun hc0 => ?_)
  · have hr0 := hc0; (try simp only [hcs, Int.reduceToNat] at hc0)
    have hr0 : 0 < r := (by omega); have hrr : l.length - 1 - (l.length - r) = r - 1 := (by omega); have hrn : ((r : Int) - 1).toNat = r - 1 := (by omega)
    refine hw_skip ?_
    refine h3 _ _ rfl ?_
    refine hw_seqC (fun Nh5 h5 => ?_)
    refine hw_block ?_
    refine hw_seqC (fun Nh6 h6 => ?_)
    refine hw_region ?_
    refine stm rfl rfl rfl ?_
    refine stm rfl rfl rfl ?_
    refine st0 (hop_load_fp ty_146 rfl (nb rfl) (fun h => (by rfl))) rfl rfl ?_
    refine stm rfl rfl rfl ?_
    refine st0 (hop_ia_sl el_146 rfl rfl (by omega) (by omega) (nb rfl)) rfl rfl ?_
    refine st0 (hop_load_fp ty_74 rfl (nb rfl) (fun h => (by cases h))) rfl rfl ?_
    refine hq_yield hg (by rw [hXN]; omega) (xs := [_, _]) [(0, .v (.fn (.yield X.l) 0 fun _ => default)), (1, .v (.fp 1 (fun _ => pcsV l))), (3, .v (intV ((r : Int) - 1)))] rfl ⟨rfl, ⟨rfl, trivial⟩⟩ (by rw [hXy]; exact ⟨fz_intB (by rw [hrr]; omega), fz_pc (fun j hj => by rw [hrr]; show pcF _ j = _; rw [hrn]), trivial⟩) (TmFz.cons rfl (Fz.eq rfl) (TmFz.cons rfl (Fz.eq rfl) (TmFz.cons rfl (Fz.eq rfl) TmFz.nil))) rfl (fun O W F hg => ?_) (fun W F hfr hjx => ?_)
    · skip
      refine st0 (hop_not rfl) rfl rfl ?_
      refine hseq_nil ?_
      refine h6 _ _ rfl ?_
      refine hw_cond _ rfl (fun hc1 => ?_) (fun hc1 => ?_)
      · have hr1 := hc1; (try simp only [hcs, Int.reduceToNat] at hc1)
        exfalso; simp at hr1
      have hr1 := hc1; (try simp only [hcs, Int.reduceToNat] at hc1)
      refine hw_skip ?_
      refine hq_block ?_
      refine h5 _ _ rfl ?_
      refine hw_region ?_
      refine stm rfl rfl rfl ?_
      refine st0 (HOp.val (v' := intV (((r - 1 : Nat) : Int) - 1)) (hop_subi rfl rfl rfl (by omega) (by omega)) (congrArg intV (by omega))) rfl rfl ?_
      refine sta rfl rfl rfl ?_
      refine hseq_nil ?_
      exact hL2 (r - 1) O W F _ _ (by (try dsimp only); omega) (by (try dsimp only); omega) (by (try dsimp only); rw [show l.length - (r - 1) = l.length - r + 1 by omega]; exact hg) (hsub_of rfl (Nat.le_refl _) (TmSub.cons rfl (Sb.refl _) (TmSub.cons rfl (Sb.refl _) (TmSub.cons rfl (Sb.refl _) TmSub.nil))) HpSub.nil)
    · skip
      refine st0 (hop_not rfl) rfl rfl ?_
      refine hseq_nil ?_
      refine h6 _ _ rfl ?_
      refine hw_cond _ rfl (fun hc1 => ?_) (fun hc1 => ?_)
      · have hr1 := hc1; (try simp only [hcs, Int.reduceToNat] at hc1)
        refine hw_ret ?_
        refine hq_block_ret ?_
        refine hq_then_ret ?_
        refine hq_then_ret ?_
        refine hq_block_ret ?_
        refine hq_retI rfl ?_
        exact .inr ⟨_, by rw [hXN]; omega, hjx⟩
      have hr1 := hc1; (try simp only [hcs, Int.reduceToNat] at hc1)
      exfalso; simp at hr1
  have hr0 := hc0; (try simp only [hcs, Int.reduceToNat] at hc0)
  refine hw_exit ?_
  refine hq_then_exit ?_
  refine hq_then_exit ?_
  refine hq_block_here ?_
  refine hq_fall ?_
  refine hq_retI rfl ?_
  obtain rfl : r = 0 := (by omega); exact .inl ⟨O, by have hj := hg.j; rw [hXN]; simpa using hj⟩
end Go.Proofs.YtldjnmljnlhaaaaGreatDoor

