/-
  What is counted, so often.
-/
import Derived.Test.YtldjnmljnlhaaaaGreatDoorNb5
import Derived.Test.YtldjnmljnlhaaaaGreatDoorNb2
import Derived.Test.YtldjnmljnlhaaaaGreatDoorNum
import Derived.Test.YtldjnmljnlhaaaaGreatDoorHc
import Derived.Test.YtldjnmljnlhaaaaGreatDoorChecked
import Derived.ProofKit
import Derived.OpenShut
import Derived.ChangeOld
import Derived.Deep.Slices
namespace Go.Proofs.YtldjnmljnlhaaaaGreatDoor
set_option linter.unusedSimpArgs false
set_option linter.unusedVariables false
set_option maxRecDepth 100000
set_option maxHeartbeats 1000000
open Go.RowKit
@[reducible] def nbO (g g1 : Nat) : HObj := ⟨g, 1, 1, 36, 0, fun _ _ => .pt 9001 g1 0 0⟩
@[reducible] def pcO (g : Nat) (x : Pc) : HObj := ⟨g, 1, 9, 74, 0, fun _ => pcF x⟩
@[reducible] def onF (l : List Bag) : Nat → Bag := fun p => l.getD p Bag.zero
@[reducible] def netL (g1 g2 g3 N : Nat) (on : List Bag) (β : Nat → Bag) : List (Nat × HObj) := [(9001, netO g1 (.os 9002 g2 0 N) (.os 9003 g3 0 N)), (9002, rowO g2 N (onF on)), (9003, rowO g3 N β)]
@[reducible] def netL4 (g1 g2 g3 g4 N : Nat) (on : List Bag) (β : Nat → Bag) : List (Nat × HObj) := [(9001, netO g1 (.os 9002 g2 0 N) (.os 9003 g3 0 N)), (9002, rowO g2 N (onF on)), (9003, rowO g3 N β), (9011, nbO g4 g1)]
def lkA (lo hi : Int) (g : Nat → Ly) (many k : Nat) : List Lk := (layA lo hi g many k).2.1 ++ (g k).lk ++ (if hi < 0 ∧ k + 1 = many then [((g k).pc.ends, (g k).pc.first)] else [])
theorem layA_lt {lo hi : Int} {g : Nat → Ly} {many k : Nat} (h : (k : Int) < lo) : layA lo hi g many (k + 1) = ((layA lo hi g many k).1 ++ (g k).on, lkA lo hi g many k ++ [((layA lo hi g many k).2.2.1.ends, (g k).pc.first)], (layA lo hi g many k).2.2.1.join (g k).pc, (layA lo hi g many k).2.2.2) := by
  simp only [layA]; rw [if_pos h]; rfl
theorem layA_ge {lo hi : Int} {g : Nat → Ly} {many k : Nat} (h : ¬ (k : Int) < lo) : layA lo hi g many (k + 1) = ((layA lo hi g many k).1 ++ (g k).on, lkA lo hi g many k, (layA lo hi g many k).2.2.1, (layA lo hi g many k).2.2.2 ++ [(g k).pc]) := by
  simp only [layA]; rw [if_neg h]; rfl
theorem lkA_ok {lo hi : Int} {g : Nat → Ly} {many N w k : Nat} (hg : ∀ k, k < many → (g k).Ok (N + k * w) w) (hk : k < many) : Lks (N + k * w + w) (lkA lo hi g many k) := by
  have hx := hg k hk
  refine (((layA_ok hg k (by omega)).2.2.1.mono (by omega)).app hx.lk).app ?_
  split
  · exact lks_one hx.pc.2 hx.pc.1 hx.inB.2
  · exact fun q hq => by cases hq
theorem inB_lt {N M : Nat} {x : Bag} (h : InB N M x) : ∀ p, p < 256 → x.has p = true → p < M := fun p hp hx => (h p hp hx).2
theorem rest_len {lo hi : Int} {g : Nat → Ly} {many : Nat} : ∀ k, (layA lo hi g many k).2.2.2.length ≤ k
  | 0 => Nat.le_refl _
  | k + 1 => by
    have := rest_len (lo := lo) (hi := hi) (g := g) (many := many) k
    by_cases h : (k : Int) < lo
    · rw [layA_lt h]; simp only; omega
    · rw [layA_ge h]; simp only [List.length_append, List.length_singleton]; omega
theorem drop_at {l : List Pc} {j : Nat} (h : j < l.length) : l.drop (l.length - (j + 1)) = l.getD (l.length - 1 - j) default :: l.drop (l.length - j) := by
  have e : l.length - (j + 1) = l.length - 1 - j := by omega
  have hlt : l.length - 1 - j < l.length := by omega
  rw [e, List.drop_eq_getElem_cons hlt, List.getD_eq_getElem?_getD, List.getElem?_eq_getElem hlt]
  simp only [Option.getD_some]
  congr 2
  omega
theorem getD_mem {l : List Pc} {j : Nat} (h : j < l.length) : l.getD j default ∈ l := by
  rw [List.getD_eq_getElem?_getD, List.getElem?_eq_getElem h]; exact List.getElem_mem h
theorem timesN_h (c g1 g2 g3 g4 N0 w : Nat) (on : List Bag) (β : Nat → Bag) (hon : on.length = N0) (hβ : ∀ p, (β p).ok) (hz : ∀ p, N0 ≤ p → p < 256 → β p = Bag.zero) (p : Pt) (g : Nat → Ly) (x1 x2 x3 : HV) (hlo : 0 ≤ p.low) (hlo2 : p.low ≤ 20) (hhi : p.high ≤ 20) (hm20 : manyOf p.low p.high ≤ 20)
    (hg : ∀ k, k < manyOf p.low p.high → (g k).Ok (N0 + k * w) w) (hN : N0 + manyOf p.low p.high * w ≤ 256)
    (hag : ∀ k, k < manyOf p.low p.high → ∀ M c g2 g3 on β, M = N0 + k * w → on.length = M → (∀ p, (β p).ok) → (∀ p, M ≤ p → p < 256 → β p = Bag.zero) →
      HFun Tryz.prog 67 c ([] ++ [.pt 9011 g4 0 0, x1, x2, x3]) (netL4 g1 g2 g3 g4 M on β) (RetP (fun (y : Nat × Nat) _ => True) (fun _ => pcH (g k).pc) (fun y => netL4 g1 y.1 y.2 g4 (M + w) (on ++ (g k).on) (links β (g k).lk)))) :
    HFun Tryz.prog 66 c [.pt 9001 g1 0 0, ptH p, .fn (.func 67) 4 (fun i => [HV.pt 9011 g4 0 0, x1, x2, x3].getD i default)] (netL4 g1 g2 g3 g4 N0 on β)
      (RetP (fun (y : Nat × Nat) _ => True) (fun _ => pcH (layT p.low p.high g).pc) (fun y => netL4 g1 y.1 y.2 g4 (N0 + manyOf p.low p.high * w) (on ++ (layT p.low p.high g).on) (links β (layT p.low p.high g).lk))) := by
  have hmi := many_int p.low p.high hlo
  obtain ⟨many, hmany⟩ : ∃ m, m = manyOf p.low p.high := ⟨_, rfl⟩
  rw [← hmany] at hm20 hg hN hag hmi ⊢
  have hok := layA_ok (lo := p.low) (hi := p.high) hg
  let k0 := c
  refine hfun_ofM Tryz.func66 rfl (by kernel_rfl) _ _ _ _ rfl 71 rfl rfl (fun X ok hX hM => ?_)
  refine srg fun N h1 => ?_
  refine hm_1 3 (hop_box (id := 3) (sz := 1) rfl rfl rfl (nb rfl) (nb rfl)) rfl rfl pre0 rfl rfl (c' := c + 1) rfl ?_
  refine hm_1 4 (hop_box (id := 4) (sz := 5) rfl rfl rfl (nb rfl) (nb rfl)) rfl rfl pre0 rfl rfl (c' := c + 2) rfl ?_
  refine hm_1 6 (hop_alloc (id := 6) (sz := 9) zc_74 rfl rfl (nb rfl) (nb rfl)) rfl rfl pre0 rfl rfl (c' := c + 3) rfl ?_
  refine snl h1 ?_
  refine srg fun N h2 => ?_
  refine st0 (hop_fa fd_29_2 rfl) rfl rfl ?_
  refine st1 (hol_load ty_3 rfl (nb rfl) (nb rfl) (fun h => (by rfl))) rfl rfl rfl ?_
  refine sta rfl rfl rfl ?_
  refine snl h2 ?_
  refine hw_joinc (α := Nat) (fun x c => ⟨71, [(2, .v (.fn (.func 67) 4 (fun i => [HV.pt 9011 g4 0 0, x1, x2, x3].getD i default))), (3, .v (.pt 3 k0 0 0)), (4, .v (.pt 4 (k0 + 1) 0 0)), (6, .v (.pt 6 (k0 + 2) 0 0)), (7, .v (intV (many : Int)))], [(9001, netO g1 (.os 9002 g2 0 N0) (.os 9003 g3 0 N0)), (9002, rowO g2 N0 (onF on)), (9003, rowO g3 N0 β), (9011, nbO g4 g1), (3, nbO k0 g1), (4, ⟨k0 + 1, 1, 5, 29, 0, fun _ => ptF p⟩), (6, pcO (k0 + 2) default)], c⟩) (fun x => x ≤ 0) (fun NhJ3 hJ3 => ?_) (fun q c hx => ?_)
  · skip
    refine srg fun N h4 => ?_
    refine stm rfl rfl rfl ?_
    refine st0 (hop_lss rfl rfl) rfl rfl ?_
    refine snl h4 ?_
    refine hw_cond _ rfl (fun hc0 => ?_) (fun hc0 => ?_)
    · have hr0 := hc0; (try simp only [hcs, Int.reduceToNat] at hc0)
      refine hw_region ?_
      refine st0 (hop_fa fd_29_1 rfl) rfl rfl ?_
      refine st1 (hol_load ty_3 rfl (nb rfl) (nb rfl) (fun h => (by rfl))) rfl rfl rfl ?_
      refine st0 (HOp.val (v' := intV (many : Int)) (hop_max rfl rfl) (by rw [← hmi, if_pos hc0])) rfl rfl ?_
      refine sta rfl rfl rfl ?_
      refine hseq_nil ?_
      exact hJ3 (0) _ _ (by (try dsimp only); first | done | exact Nat.le_refl _) (hsub_of rfl (Nat.le_refl _) (TmSub.cons rfl (Sb.refl _) (TmSub.cons rfl (Sb.refl _) (TmSub.cons rfl (Sb.refl _) (TmSub.cons rfl (Sb.refl _) (TmSub.cons rfl (Sb.refl _) TmSub.nil))))) (HpSub.cons rfl (OSub.refl _) (HpSub.cons rfl (OSub.refl _) (HpSub.cons rfl (OSub.refl _) (HpSub.cons rfl (OSub.refl _) (HpSub.cons rfl (OSub.refl _) (HpSub.cons rfl (OSub.refl _) (HpSub.cons rfl (osub_pc (by exact j9 rfl rfl rfl rfl rfl rfl rfl rfl rfl)) HpSub.nil))))))))
    have hr0 := hc0; (try simp only [hcs, Int.reduceToNat] at hc0)
    refine hw_skip ?_
    exact hJ3 (0) _ _ (by (try dsimp only); first | done | exact Nat.le_refl _) (hsub_of rfl (Nat.le_refl _) (TmSub.cons rfl (Sb.refl _) (TmSub.cons rfl (Sb.refl _) (TmSub.cons rfl (Sb.refl _) (TmSub.cons rfl (Sb.refl _) (TmSub.cons rfl (by rw [← hmi, if_neg hc0]; exact .refl _) TmSub.nil))))) (HpSub.cons rfl (OSub.refl _) (HpSub.cons rfl (OSub.refl _) (HpSub.cons rfl (OSub.refl _) (HpSub.cons rfl (OSub.refl _) (HpSub.cons rfl (OSub.refl _) (HpSub.cons rfl (OSub.refl _) (HpSub.cons rfl (osub_pc (by exact j9 rfl rfl rfl rfl rfl rfl rfl rfl rfl)) HpSub.nil))))))))
  · skip
    (try dsimp only at hx ⊢)
    let k1 := c
    refine srg fun N h5 => ?_
    refine st0 (hop_build (hs := [(8, 1, _)]) st_74 rfl rfl ⟨rfl, rfl, rfl, rfl, rfl, trivial⟩) rfl rfl ?_
    refine hm_1 8 (hop_alloc (id := 8) (sz := 9) zc_74 rfl rfl (nb rfl) (nb rfl)) rfl rfl pre0 rfl rfl (c' := c + 1) rfl ?_
    refine hm_s1 (hol_storeW ty_74 rfl rfl rfl rfl) rfl rfl (pre1 rfl) (c' := c + 2) rfl ?_
    refine snl h5 ?_
    refine srg fun N h6 => ?_
    refine sta rfl rfl rfl ?_
    refine snl h6 ?_
    refine hw_seq (fun Nh7 h7 => ?_)
    refine srg fun N h8 => ?_
    refine stm rfl rfl rfl ?_
    refine stm rfl rfl rfl ?_
    refine snl h8 ?_
    refine hw_block ?_
    refine hw_own 9 8009 9 74 ((pcsF [])) rfl (by decide) rfl (c' := c + 3) rfl ?_
    refine hw_loopc (α := Nat × Nat × List Bag × (Nat → Bag) × Pc × List Pc × Nat × Nat × Nat) (fun x c => ⟨71, [(2, .v (.fn (.func 67) 4 (fun i => [HV.pt 9011 g4 0 0, x1, x2, x3].getD i default))), (3, .v (.pt 3 k0 0 0)), (4, .v (.pt 4 (k0 + 1) 0 0)), (6, .v (.pt 6 (k0 + 2) 0 0)), (7, .v (intV (many : Int))), (8, .v (.pt 8 k1 0 0)), (9, .v (.os 8009 x.2.2.2.2.2.2.2.2 0 x.2.2.2.2.2.1.length)), (23, .v (intV (many : Int))), (24, .v (intV (x.1 : Int)))], [(9001, netO g1 (.os 9002 x.2.2.2.2.2.2.1 0 x.2.1) (.os 9003 x.2.2.2.2.2.2.2.1 0 x.2.1)), (9002, rowO x.2.2.2.2.2.2.1 x.2.1 (onF x.2.2.1)), (9003, rowO x.2.2.2.2.2.2.2.1 x.2.1 x.2.2.2.1), (9011, nbO g4 g1), (3, nbO k0 g1), (4, ⟨k0 + 1, 1, 5, 29, 0, fun _ => ptF p⟩), (6, pcO (k0 + 2) default), (8, pcO k1 x.2.2.2.2.1), (8009, pcsO x.2.2.2.2.2.2.2.2 x.2.2.2.2.2.1)], c⟩) (fun x => x.1 ≤ many ∧ x.2.1 = N0 + x.1 * w ∧ x.2.2.1 = on ++ (layA p.low p.high g many x.1).1 ∧ x.2.2.2.1 = links β (layA p.low p.high g many x.1).2.1 ∧ x.2.2.2.2.1 = (layA p.low p.high g many x.1).2.2.1 ∧ x.2.2.2.2.2.1 = (layA p.low p.high g many x.1).2.2.2) (fun x => many - x.1) ((0, N0, on, β, Pc.nil, [], g2, g3, c + 2)) (by exact ⟨Nat.zero_le _, by simp, by simp [layA], rfl, rfl, rfl⟩) (hsub_of rfl (Nat.le_refl _) (TmSub.cons rfl (Sb.refl _) (TmSub.cons rfl (Sb.refl _) (TmSub.cons rfl (Sb.refl _) (TmSub.cons rfl (Sb.refl _) (TmSub.cons rfl (Sb.refl _) (TmSub.cons rfl (Sb.refl _) (TmSub.cons rfl (Sb.refl _) (TmSub.cons rfl (Sb.refl _) (TmSub.cons rfl (Sb.refl _) TmSub.nil))))))))) (HpSub.cons rfl (OSub.refl _) (HpSub.cons rfl (OSub.refl _) (HpSub.cons rfl (OSub.refl _) (HpSub.cons rfl (OSub.refl _) (HpSub.cons rfl (OSub.refl _) (HpSub.cons rfl (OSub.refl _) (HpSub.cons rfl (OSub.refl _) (HpSub.cons rfl (osub_pc (by exact j9 rfl rfl rfl rfl rfl rfl rfl rfl rfl)) (HpSub.cons rfl (OSub.refl _) HpSub.nil)))))))))) (fun x c hx NhL9 hL9 => ?_)
    revert hx hL9; obtain ⟨kk, MM, on1, be1, ou1, rs1, y2, y3, gr⟩ := x; intro hx hL9; dsimp only at hx hL9 ⊢
    obtain ⟨hk, hMM, hon1, hbe1, hou1, hrs1⟩ := hx
    have hrl := (show rs1.length ≤ kk by rw [hrs1]; exact rest_len kk)
    refine srg fun N h10 => ?_
    refine st0 (hop_lss rfl rfl) rfl rfl ?_
    refine snl h10 ?_
    refine hw_seq (fun Nh11 h11 => ?_)
    refine hw_cond _ rfl (fun hc1 => ?_) (fun hc1 => ?_)
    · have hr1 := hc1; (try simp only [hcs, Int.reduceToNat] at hc1)
      have hkm : kk < many := (by omega); have hgk := hg kk hkm; obtain ⟨a1, a2, a3, a4, a5, a6⟩ := hok kk hk; have hkw : kk * w + w ≤ many * w := (by rw [← Nat.succ_mul]; exact Nat.mul_le_mul_right w hkm); have hMw : MM + w ≤ 256 := (by omega); have hine : InB (N0 + kk * w) (MM + w) (g kk).pc.ends := (by rw [hMM]; exact hgk.inB.2); have hbe2 : ∀ q, (links be1 (g kk).lk q).ok := links_ok hgk.lk (by rw [hbe1]; exact links_ok a3 hβ); have hou2 : ou1.ok := (by rw [hou1]; exact a4); have hino : InB N0 (MM + w) ou1.ends := (by rw [hou1, hMM]; exact a5.2.mono (Nat.le_refl _) (by omega))
      refine hw_skip ?_
      refine h11 _ ?_
      refine hw_seq (fun Nh12 h12 => ?_)
      refine hw_block ?_
      refine srg fun N h13 => ?_
      refine stm rfl rfl rfl ?_
      refine sta rfl rfl rfl ?_
      refine snl h13 ?_
      refine srg fun N h14 => ?_
      refine stm rfl rfl rfl ?_
      refine hf_callVR 28 (xs := []) (cs := [_, _, _, _]) (pre := [(9001, _), (9002, _), (9003, _), (9011, _)]) (hag kk hkm MM _ y2 y3 on1 be1 hMM (by rw [hon1, List.length_append, a1, hon, hMM]) (by rw [hbe1]; exact links_ok a3 hβ) (by rw [hbe1, hMM]; exact links_zero a3 (fun q hq hq2 => hz q (by omega) hq2))) rfl rfl (fun i hi => by first | rfl | (rcases i with _ | _ | _ | _ | i <;> first | rfl | (exact absurd hi (by omega)) | (simp at hi))) trivial (preC rfl (preC rfl (preC rfl (preC rfl pre0)))) rfl rfl (fun x1 c1 hzz => ?_)
      obtain ⟨z2, z3⟩ := x1
      (try dsimp only)
      refine hm_1 11 (hop_alloc (id := 11) (sz := 9) zc_74 rfl rfl (nb rfl) (nb rfl)) rfl rfl pre0 rfl rfl (c' := c1 + 1) rfl ?_
      refine hm_s1 (hol_storeW ty_74 rfl rfl rfl rfl) rfl rfl (pre1 rfl) (c' := c1 + 2) rfl ?_
      refine snl h14 ?_
      refine hw_joinc (α := Nat → Bag) (fun x c => ⟨71, [(2, .v (.fn (.func 67) 4 (fun i => [HV.pt 9011 g4 0 0, x1, x2, x3].getD i default))), (3, .v (.pt 3 k0 0 0)), (4, .v (.pt 4 (k0 + 1) 0 0)), (6, .v (.pt 6 (k0 + 2) 0 0)), (7, .v (intV (many : Int))), (8, .v (.pt 8 k1 0 0)), (9, .v (.os 8009 gr 0 rs1.length)), (10, .v (intV (kk : Int))), (11, .v (.pt 11 c1 0 0)), (23, .v (intV (many : Int))), (24, .v (intV (kk : Int)))], [(9001, netO g1 (.os 9002 z2 0 (MM + w)) (.os 9003 z3 0 (MM + w))), (9002, rowO z2 (MM + w) (onF (on1 ++ (g kk).on))), (9003, rowO z3 (MM + w) x), (9011, nbO g4 g1), (3, nbO k0 g1), (4, ⟨k0 + 1, 1, 5, 29, 0, fun _ => ptF p⟩), (6, pcO (k0 + 2) default), (8, pcO k1 ou1), (8009, pcsO gr rs1), (11, pcO c1 (g kk).pc)], c⟩) (fun x => x = links β (lkA p.low p.high g many kk)) (fun NhJ15 hJ15 => ?_) (fun be2 c hx => ?_)
      · skip
        refine srg fun N h16 => ?_
        refine st0 (hop_fa fd_29_2 rfl) rfl rfl ?_
        refine st1 (hol_load ty_3 rfl (nb rfl) (nb rfl) (fun h => (by rfl))) rfl rfl rfl ?_
        refine st0 (hop_lss rfl rfl) rfl rfl ?_
        refine stm rfl rfl rfl ?_
        refine stg 32 (fun hb => hop_move rfl) rfl rfl rfl rfl rfl ?_
        refine stg 32 (fun hb => hop_move rfl) rfl rfl rfl rfl rfl ?_
        refine stg 32 (fun hb => hop_subi rfl rfl rfl (by (simp at hb; first | omega | (dsimp only; omega) | (simp <;> omega))) (by (simp at hb; first | omega | (dsimp only; omega) | (simp <;> omega)))) rfl rfl rfl rfl rfl ?_
        refine stg 32 (fun hb => hop_eql rfl rfl) rfl rfl rfl rfl rfl ?_
        refine hq_p 37 (hstep_and _ _ rfl rfl rfl) rfl rfl rfl ?_
        refine hseq_nilU (by rfl) (by simp only [dropUn, slots]; exact rfl) ?_
        refine h16 _ ?_
        refine hw_cond _ rfl (fun hc2 => ?_) (fun hc2 => ?_)
        · have hr2 := hc2; (try simp only [hcs, Int.reduceToNat] at hc2)
          refine hw_region ?_
          refine st1 (hol_load ty_36 rfl (nb rfl) (nb rfl) (fun h => (by rfl))) rfl rfl rfl ?_
          refine st0 (hop_fa fd_74_1 rfl) rfl rfl ?_
          refine st1 (hol_load ty_33 rfl (nb rfl) (nb rfl) (fun h => (by cases h))) rfl rfl rfl ?_
          refine st0 (hop_fa fd_74_0 rfl) rfl rfl ?_
          refine st1 (hol_load ty_33 rfl (nb rfl) (nb rfl) (fun h => (by cases h))) rfl rfl rfl ?_
          refine (hsub_shr 40 [] rfl pre0 rfl ((show Fz [] _ (bagH (g kk).pc.ends) from fz_bg (by exact j4 rfl rfl rfl rfl)))).seq ?_
          refine (hsub_shr 42 [] rfl pre0 rfl ((show Fz [] _ (bagH (g kk).pc.first) from fz_bg (by exact j4 rfl rfl rfl rfl)))).seq ?_
          refine hm_ 43 (hop_funD (xs := [_, _, _]) (pre := [(9001, _), (9002, _), (9003, _)]) (link_h (g kk).pc.ends (g kk).pc.first hgk.pc.2 hgk.pc.1 (MM + w) g1 z2 z3 _ _ hbe2 hMw (inB_lt hine)) ((clk3 rfl)) ⟨rfl, ⟨rfl, ⟨rfl, trivial⟩⟩⟩) rfl rfl (preC rfl (preC rfl (preC rfl pre0))) rfl rfl (c' := c1 + 3) rfl ?_
          refine hseq_nil ?_
          exact hJ15 (linkF (links be1 (g kk).lk) ((g kk).pc.ends, (g kk).pc.first)) _ _ (by (try dsimp only); rw [hbe1]; unfold lkA; rw [if_pos (by omega), links_app, links_app]; rfl) (hsub_of rfl (Nat.le_refl _) (TmSub.cons rfl (Sb.refl _) (TmSub.cons rfl (Sb.refl _) (TmSub.cons rfl (Sb.refl _) (TmSub.cons rfl (Sb.refl _) (TmSub.cons rfl (Sb.refl _) (TmSub.cons rfl (Sb.refl _) (TmSub.cons rfl (Sb.refl _) (TmSub.cons rfl (Sb.refl _) (TmSub.cons rfl (Sb.refl _) (TmSub.cons rfl (Sb.refl _) (TmSub.cons rfl (Sb.refl _) TmSub.nil))))))))))) (HpSub.cons rfl (OSub.refl _) (HpSub.cons rfl (OSub.refl _) (HpSub.cons rfl (OSub.refl _) (HpSub.cons rfl (OSub.refl _) (HpSub.cons rfl (OSub.refl _) (HpSub.cons rfl (OSub.refl _) (HpSub.cons rfl (OSub.refl _) (HpSub.cons rfl (OSub.refl _) (HpSub.cons rfl (OSub.refl _) (HpSub.cons rfl (OSub.refl _) HpSub.nil)))))))))))
        have hr2 := hc2; (try simp only [hcs, Int.reduceToNat] at hc2)
        refine hw_skip ?_
        exact hJ15 (links be1 (g kk).lk) _ _ (by (try dsimp only); rw [hbe1]; unfold lkA; rw [if_neg (fun h => by simp [h.1] at hc2; omega), List.append_nil, links_app]) (hsub_of rfl (Nat.le_refl _) (TmSub.cons rfl (Sb.refl _) (TmSub.cons rfl (Sb.refl _) (TmSub.cons rfl (Sb.refl _) (TmSub.cons rfl (Sb.refl _) (TmSub.cons rfl (Sb.refl _) (TmSub.cons rfl (Sb.refl _) (TmSub.cons rfl (Sb.refl _) (TmSub.cons rfl (Sb.refl _) (TmSub.cons rfl (Sb.refl _) (TmSub.cons rfl (Sb.refl _) (TmSub.cons rfl (Sb.refl _) TmSub.nil))))))))))) (HpSub.cons rfl (OSub.refl _) (HpSub.cons rfl (OSub.refl _) (HpSub.cons rfl (OSub.refl _) (HpSub.cons rfl (OSub.refl _) (HpSub.cons rfl (OSub.refl _) (HpSub.cons rfl (OSub.refl _) (HpSub.cons rfl (OSub.refl _) (HpSub.cons rfl (OSub.refl _) (HpSub.cons rfl (OSub.refl _) (HpSub.cons rfl (OSub.refl _) HpSub.nil)))))))))))
      · skip
        (try dsimp only at hx ⊢)
        have hbe3 : ∀ q, (be2 q).ok := (by rw [hx]; exact links_ok (lkA_ok hg hkm) hβ)
        refine srg fun N h17 => ?_
        refine stm rfl rfl rfl ?_
        refine st0 (hop_fa fd_29_1 rfl) rfl rfl ?_
        refine st1 (hol_load ty_3 rfl (nb rfl) (nb rfl) (fun h => (by rfl))) rfl rfl rfl ?_
        refine st0 (hop_lss rfl rfl) rfl rfl ?_
        refine snl h17 ?_
        refine hw_cond _ rfl (fun hc3 => ?_) (fun hc3 => ?_)
        · have hr3 := hc3; (try simp only [hcs, Int.reduceToNat] at hc3)
          refine hw_region ?_
          refine st1 (hol_load ty_36 rfl (nb rfl) (nb rfl) (fun h => (by rfl))) rfl rfl rfl ?_
          refine st1 (hol_load ty_74 rfl (nb rfl) (nb rfl) (fun h => (by cases h))) rfl rfl rfl ?_
          refine st1 (hol_load ty_74 rfl (nb rfl) (nb rfl) (fun h => (by cases h))) rfl rfl rfl ?_
          refine hm_ 51 (hop_funD (xs := [_, _, _]) (pre := [(9001, _), (9002, _), (9003, _)]) (join_h ou1 (g kk).pc hou2 hgk.pc (MM + w) g1 z2 z3 _ _ hbe3 hMw (inB_lt hino)) ((clk3 rfl)) ⟨rfl, ⟨rfl, ⟨rfl, trivial⟩⟩⟩) rfl rfl (preC rfl (preC rfl (preC rfl pre0))) rfl rfl (c' := c + 1) rfl ?_
          refine hm_s1 (hol_storeW ty_74 rfl rfl rfl rfl) rfl rfl (pre1 rfl) (c' := c + 2) rfl ?_
          refine hseq_nil ?_
          refine hq_block ?_
          refine h12 _ ?_
          refine hw_region ?_
          refine st0 (hop_addi rfl rfl rfl (by omega) (by omega)) rfl rfl ?_
          refine stm rfl rfl rfl ?_
          refine hseq_nil ?_
          exact hL9 ((kk + 1, MM + w, on1 ++ (g kk).on, linkF be2 (ou1.ends, (g kk).pc.first), ou1.join (g kk).pc, rs1, z2, z3, gr)) _ _ (by (try dsimp only); have hA := layA_lt (hi := p.high) (g := g) (many := many) (show (kk : Int) < p.low by omega); exact ⟨by omega, by rw [hMM, Nat.succ_mul, Nat.add_assoc], by rw [hA, hon1, List.append_assoc], by rw [hA, hx, hou1]; simp only; rw [links_app]; rfl, by rw [hA, hou1], by rw [hA, hrs1]⟩) (by (try dsimp only); omega) (hsub_of rfl (Nat.le_refl _) (TmSub.cons rfl (Sb.refl _) (TmSub.cons rfl (Sb.refl _) (TmSub.cons rfl (Sb.refl _) (TmSub.cons rfl (Sb.refl _) (TmSub.cons rfl (Sb.refl _) (TmSub.cons rfl (Sb.refl _) (TmSub.cons rfl (Sb.refl _) (TmSub.cons rfl (Sb.refl _) (TmSub.cons rfl (Sb.refl _) TmSub.nil))))))))) (HpSub.cons rfl (OSub.refl _) (HpSub.cons rfl (OSub.refl _) (HpSub.cons rfl (OSub.refl _) (HpSub.cons rfl (OSub.refl _) (HpSub.cons rfl (OSub.refl _) (HpSub.cons rfl (OSub.refl _) (HpSub.cons rfl (OSub.refl _) (HpSub.cons rfl (osub_pc (by exact j9 rfl rfl rfl rfl rfl rfl rfl rfl rfl)) (HpSub.cons rfl (OSub.refl _) HpSub.nil))))))))))
        have hr3 := hc3; (try simp only [hcs, Int.reduceToNat] at hc3)
        refine hw_region ?_
        refine stm rfl rfl rfl ?_
        refine st1 (hol_load ty_74 rfl (nb rfl) (nb rfl) (fun h => (by cases h))) rfl rfl rfl ?_
        refine hm_1 54 (hop_buildSlice (id := 54) (hs := [_]) ei_146 (nb rfl) rfl (nb rfl) ⟨rfl, rfl, rfl, rfl, trivial⟩) rfl rfl pre0 rfl rfl (c' := c + 1) rfl ?_
        refine hm_1 55 (hol_append ei_146 (nb rfl) rfl (by omega) (nb rfl) (srl_os0 rfl (nb rfl)) (by omega) rfl) rfl rfl (preC rfl (pre1 rfl)) rfl rfl (c' := c + 2) rfl ?_
        refine sta rfl rfl rfl ?_
        refine hseq_nil ?_
        refine hq_block ?_
        refine h12 _ ?_
        refine hw_region ?_
        refine st0 (hop_addi rfl rfl rfl (by omega) (by omega)) rfl rfl ?_
        refine stm rfl rfl rfl ?_
        refine hseq_nil ?_
        exact hL9 ((kk + 1, MM + w, on1 ++ (g kk).on, be2, ou1, rs1 ++ [(g kk).pc], z2, z3, c + 1)) _ _ (by (try dsimp only); have hA := layA_ge (hi := p.high) (g := g) (many := many) (show ¬ (kk : Int) < p.low by omega); exact ⟨by omega, by rw [hMM, Nat.succ_mul, Nat.add_assoc], by rw [hA, hon1, List.append_assoc], by rw [hA, hx], by rw [hA, hou1], by rw [hA, hrs1]⟩) (by (try dsimp only); omega) (hsub_of rfl (Nat.le_refl _) (TmSub.cons rfl (Sb.refl _) (TmSub.cons rfl (Sb.refl _) (TmSub.cons rfl (Sb.refl _) (TmSub.cons rfl (Sb.refl _) (TmSub.cons rfl (Sb.refl _) (TmSub.cons rfl (Sb.refl _) (TmSub.cons rfl (sb_os (by simp)) (TmSub.cons rfl (Sb.refl _) (TmSub.cons rfl (Sb.refl _) TmSub.nil))))))))) (HpSub.cons rfl (OSub.refl _) (HpSub.cons rfl (OSub.refl _) (HpSub.cons rfl (OSub.refl _) (HpSub.cons rfl (OSub.refl _) (HpSub.cons rfl (OSub.refl _) (HpSub.cons rfl (OSub.refl _) (HpSub.cons rfl (OSub.refl _) (HpSub.cons rfl (OSub.refl _) (HpSub.cons rfl (by exact osub_snoc (enc := pcF) (d := default) rfl (fun i j _ _ => .refl _) (fun j hj => .refl _)) HpSub.nil))))))))))
    have hr1 := hc1; (try simp only [hcs, Int.reduceToNat] at hc1)
    have hkm : kk = many := (by omega); obtain ⟨a1, a2, a3, a4, a5, a6⟩ := hok kk hk; have hMm : MM = N0 + many * w := (by rw [hMM, hkm]); have hM256 : MM ≤ 256 := (by rw [hMm]; exact hN); have hrs : ∀ x ∈ rs1, x.ok ∧ x.inB N0 MM := (by rw [hrs1, hMM]; exact a6); have hou2 : ou1.ok := (by rw [hou1]; exact a4); have hino : InB N0 MM ou1.ends := (by rw [hou1, hMM]; exact a5.2); have hbe7 : ∀ q, (be1 q).ok := (by rw [hbe1]; exact links_ok a3 hβ)
    refine hw_exit ?_
    refine hq_then_exit ?_
    refine hq_then_exit ?_
    refine hq_block_here ?_
    refine h7 _ ?_
    refine srg fun N h18 => ?_
    refine st0 (hop_build (hs := [(8, 1, _)]) st_74 rfl rfl ⟨rfl, rfl, rfl, rfl, rfl, trivial⟩) rfl rfl ?_
    refine hm_1 12 (hop_alloc (id := 12) (sz := 9) zc_74 rfl rfl (nb rfl) (nb rfl)) rfl rfl pre0 rfl rfl (c' := c + 1) rfl ?_
    refine hm_s1 (hol_storeW ty_74 rfl rfl rfl rfl) rfl rfl (pre1 rfl) (c' := c + 2) rfl ?_
    refine snl h18 ?_
    refine hw_seq (fun Nh19 h19 => ?_)
    refine srg fun N h20 => ?_
    refine stm rfl rfl rfl ?_
    refine (hsub_shr 58 [(8009, _)] rfl (preC rfl pre0) rfl ((show Fz _ _ (pcsV rs1) from fz_row (l := rs1) (enc := pcF) (d := default) (List.mem_cons_self ..) rfl rfl (Nat.le_refl _) (fun i j hi hj => fz_pcF _ j)))).seq ?_
    refine st0 (hop_call0 (xs := [_]) (back_h rs1) ⟨rfl, trivial⟩ ⟨(Fz.eq rfl), trivial⟩) rfl rfl ?_
    refine snl h20 ?_
    refine hw_block ?_
    refine hw_range (α := Nat × (Nat → Bag) × Pc) ⟨rfl, rfl, rfl⟩ (back_it rs1 (by omega)) rfl (cs := [_]) rfl (fun i hi => by first | rfl | (cases i <;> first | rfl | (simp at hi))) ⟨(Fz.eq rfl), trivial⟩ rfl (fun _ => rfl) rfl (fun x => [(9001, netO g1 (.os 9002 y2 0 MM) (.os 9003 y3 0 MM)), (9002, rowO y2 MM (onF on1)), (9003, rowO y3 MM x.2.1), (9011, nbO g4 g1), (3, nbO k0 g1), (6, pcO (k0 + 2) default), (8, pcO k1 ou1), (12, pcO c x.2.2)]) (fun x => x.1) (fun x => x.1 ≤ rs1.length ∧ x.2.1 = links be1 (tailB (rs1.drop (rs1.length - x.1))).1 ∧ x.2.2 = (tailB (rs1.drop (rs1.length - x.1))).2) ((0, be1, Pc.nil)) (by exact ⟨Nat.zero_le _, by simp [tailB, links], by simp [tailB]⟩) (by first | rfl | omega) (HpSub.cons rfl (OSub.refl _) (HpSub.cons rfl (OSub.refl _) (HpSub.cons rfl (OSub.refl _) (HpSub.cons rfl (OSub.refl _) (HpSub.cons rfl (OSub.refl _) (HpSub.cons rfl (OSub.refl _) (HpSub.cons rfl (OSub.refl _) (HpSub.cons rfl (osub_pc (by exact j9 rfl rfl rfl rfl rfl rfl rfl rfl rfl)) HpSub.nil)))))))) rfl (fun x c hx hi C1 lr hC1 NhR21 hR21 => ?_) (fun x c hx hi => ?_)
    · skip
      revert hx hi hR21; obtain ⟨jj, be4, ta4⟩ := x; intro hx hi hR21; dsimp only at hx hi hR21 ⊢
      obtain ⟨hj, hbe4, hta4⟩ := hx
      have htt := tailB_ok (N := N0) (M := MM) (l := rs1.drop (rs1.length - jj)) (fun x hx => hrs x (List.mem_of_mem_drop hx)); have hto : ta4.ok := (by rw [hta4]; exact htt.2.1); have hbe5 : ∀ q, (be4 q).ok := (by rw [hbe4]; exact links_ok htt.1 hbe7); have hxm := hrs _ (getD_mem (l := rs1) (j := rs1.length - 1 - jj) (by omega)); have hxo := hxm.1; have hxin := hxm.2.2
      refine hw_region ?_
      refine hm_1 14 (hop_alloc (id := 14) (sz := 9) zc_74 rfl rfl (nb rfl) (nb rfl)) rfl rfl pre0 rfl rfl (c' := c + 1) rfl ?_
      refine hm_s1 (hol_storeW ty_74 rfl rfl rfl rfl) rfl rfl (pre1 rfl) (c' := c + 2) rfl ?_
      refine hseq_nil ?_
      refine hR21 _ (fun C2 hC22 => ?_)
      refine hw_block ?_
      refine srg fun N h23 => ?_
      refine st1 (hol_load ty_36 rfl (nb rfl) (nb rfl) (fun h => (by rfl))) rfl rfl rfl ?_
      refine st1 (hol_load ty_74 rfl (nb rfl) (nb rfl) (fun h => (by cases h))) rfl rfl rfl ?_
      refine st1 (hol_load ty_74 rfl (nb rfl) (nb rfl) (fun h => (by cases h))) rfl rfl rfl ?_
      refine hm_ 65 (hop_funD (xs := [_, _, _]) (pre := [(9001, _), (9002, _), (9003, _)]) (join_h (rs1.getD (rs1.length - 1 - jj) default) ta4 hxo hto MM g1 y2 y3 _ _ hbe5 hM256 (inB_lt hxin)) ((clk3 rfl)) ⟨rfl, ⟨rfl, ⟨rfl, trivial⟩⟩⟩) rfl rfl (preC rfl (preC rfl (preC rfl pre0))) rfl rfl (c' := c + 3) rfl ?_
      refine hm_s1 (hol_storeW ty_74 rfl rfl rfl rfl) rfl rfl (pre1 rfl) (c' := c + 4) rfl ?_
      refine snl h23 ?_
      refine hw_region ?_
      refine st0 (hop_fa fd_74_2 rfl) rfl rfl ?_
      refine hm_s1 (hol_store ty_4 rfl rfl rfl rfl (nb rfl) (nb rfl) (nb rfl)) rfl rfl (pre1 rfl) (c' := c + 5) rfl ?_
      refine hseq_nil ?_
      refine hq_block ?_
      exact rq_normal ⟨(jj + 1, linkF be4 ((rs1.getD (rs1.length - 1 - jj) default).ends, ta4.first), { (rs1.getD (rs1.length - 1 - jj) default).join ta4 with empty := true }), by (try dsimp only); exact ⟨by omega, by rw [drop_at hi, hbe4, hta4]; simp only [tailB]; rw [links_app]; rfl, by rw [drop_at hi, hta4]; rfl⟩, by first | rfl | omega, (HpSub.cons rfl (OSub.refl _) (HpSub.cons rfl (OSub.refl _) (HpSub.cons rfl (OSub.refl _) (HpSub.cons rfl (OSub.refl _) (HpSub.cons rfl (OSub.refl _) (HpSub.cons rfl (OSub.refl _) (HpSub.cons rfl (OSub.refl _) (HpSub.cons rfl (osub_pc (by exact j9 rfl rfl rfl rfl rfl rfl rfl rfl rfl)) HpSub.nil))))))))⟩
    · skip
      revert hx hi; obtain ⟨jj, be4, ta4⟩ := x; intro hx hi; dsimp only at hx hi ⊢
      obtain ⟨hj, hbe4, hta4⟩ := hx
      have htt := tailB_ok (N := N0) (M := MM) (l := rs1.drop (rs1.length - jj)) (fun x hx => hrs x (List.mem_of_mem_drop hx)); have hto : ta4.ok := (by rw [hta4]; exact htt.2.1); have hbe5 : ∀ q, (be4 q).ok := (by rw [hbe4]; exact links_ok htt.1 hbe7); have hta5 : ta4 = (tailB rs1).2 := (by rw [hta4, hi, Nat.sub_self, List.drop_zero]); have hbe6 : be4 = links be1 (tailB rs1).1 := (by rw [hbe4, hi, Nat.sub_self, List.drop_zero]); have hT : layT p.low p.high g = ⟨(layA p.low p.high g many kk).1, (layA p.low p.high g many kk).2.1 ++ (tailB rs1).1 ++ [(ou1.ends, ta4.first)], ou1.join ta4⟩ := (by rw [hta5, hou1, hrs1, hkm]; unfold layT; rw [← hmany])
      refine hq_block ?_
      refine h19 _ ?_
      refine srg fun N h24 => ?_
      refine st1 (hol_load ty_36 rfl (nb rfl) (nb rfl) (fun h => (by rfl))) rfl rfl rfl ?_
      refine st1 (hol_load ty_74 rfl (nb rfl) (nb rfl) (fun h => (by cases h))) rfl rfl rfl ?_
      refine st1 (hol_load ty_74 rfl (nb rfl) (nb rfl) (fun h => (by cases h))) rfl rfl rfl ?_
      refine hm_ 70 (hop_funD (xs := [_, _, _]) (pre := [(9001, _), (9002, _), (9003, _)]) (join_h ou1 ta4 hou2 hto MM g1 y2 y3 _ _ hbe5 hM256 (inB_lt hino)) ((clk3 rfl)) ⟨rfl, ⟨rfl, ⟨rfl, trivial⟩⟩⟩) rfl rfl (preC rfl (preC rfl (preC rfl pre0))) rfl rfl (c' := c + 1) rfl ?_
      refine hm_s1 (hol_storeW ty_74 rfl rfl rfl rfl) rfl rfl (pre1 rfl) (c' := c + 2) rfl ?_
      refine snl h24 ?_
      refine hw_ret ?_
      refine hq_retF hM ?_
      refine hf_retR1 ok hX RetS.one rfl (rvl_cell rfl rfl ty_74 (fun h => by first | rfl | cases h) rfl rfl) [] rfl pre0 ((y2, y3)) (trivial) (by rfl) (by rfl) ((by rw [hT]; exact kz_pc (by exact j9 rfl rfl rfl rfl rfl rfl rfl rfl rfl))) ?_
      exact ⟨⟨_, rfl, (by rw [← hMm]; exact okz_net rfl rfl rfl rfl)⟩, ⟨⟨_, rfl, (by rw [← hMm]; exact okz_row (fun q _ => by rw [hT, hon1]))⟩, ⟨⟨_, rfl, (by rw [← hMm]; exact okz_row (fun q _ => by rw [hT]; simp only; rw [links_app, links_app, ← hbe1, ← hbe6]; rfl))⟩, ⟨⟨_, rfl, okz1 (by first | exact .fz _ _ (.imm _) | exact .os _ _ _ _ _ rfl rfl | exact .pt _ _ _ _ _ rfl rfl | exact .nps _ _ _ rfl rfl | (dsimp only; exact .fz _ _ Frz.fz) | exact .fz _ _ (.tup 0 _ _ (fun i hi => absurd hi (Nat.not_lt_zero _))))⟩, trivial⟩⟩⟩⟩
end Go.Proofs.YtldjnmljnlhaaaaGreatDoor

namespace Go.Proofs.YtldjnmljnlhaaaaGreatDoor
set_option linter.unusedSimpArgs false
set_option linter.unusedVariables false
set_option maxRecDepth 100000
set_option maxHeartbeats 1000000
open Go.RowKit
theorem hsub_shrK {C : Ctx} {n clk : Nat} {tm : List (Nat × TV)} {hp : List (Nat × HObj)} (t : Nat) (sh kp : List (Nat × HObj)) (hd : dupfree (sh.map (·.1)) = true) (hsh : ∀ p ∈ sh, hget hp p.1 = some p.2) (hkp : ∀ p ∈ kp, hget hp p.1 = some p.2) {x y : HV} (ht : tget tm t = some (.v x)) (hz : Kz kp sh x y) :
    HSub C ⟨n, tm, hp, clk⟩ ⟨n, (t, .v y) :: tm, sh.map (fun p => (p.1, p.2.full)) ++ hp, clk⟩ := by
  intro a w ⟨E, e0, r, hG, hsz, hdf, htm⟩
  obtain ⟨E1, e1, hL, hG1, hs1, r1⟩ := r.shareAll sh hd hsh
  refine ⟨E1, e0.trans e1, by simp only [hget_append]; exact r1, fun g hg => hG g (by rw [← hG1]; exact hg), hsz, hdf.ext e1, fun t' z hz' => ?_⟩
  simp only [tget_cons] at hz'
  split at hz'
  · rename_i e; subst e; injection hz' with hz'; subst hz'
    exact hz.sound (E := E1) (E' := E1) (fun _ h => h) (fun _ _ _ => rfl) (fun id o ho => by
      obtain ⟨l, hl, b⟩ := r.obj id o (hkp (id, o) (hget_mem ho))
      rw [hG1]; exact b.G) hs1 ((htm t' _ ht).ext e1)
  · exact (htm t' z hz').ext e1
@[reducible] def LayN (mv : HV) (m : List UInt8 → Bag) (e : List Pt) (b : Nat) (t : T) : Prop := ∀ c g1 g2 g3 N on β, on.length = N → N + t.w ≤ 256 → (∀ p, (β p).ok) → (∀ p, N ≤ p → p < 256 → β p = Bag.zero) →
  HFun Tryz.prog 37 c [.pt 9001 g1 0 0, ptsV e, intV ((b + t.size - 1 : Nat) : Int), mv] (netL g1 g2 g3 N on β) (RetP (fun (y : Nat × Nat) _ => True) (fun _ => pcH (lay m t N).pc) (fun y => netL g1 y.1 y.2 (N + t.w) (on ++ (lay m t N).on) (links β (lay m t N).lk)))
theorem lay1_h (mv : HV) (m : List UInt8 → Bag) (e : List Pt) (he : e.length ≤ 100000) (b : Nat) (t : T) (hmv : ∀ sh, Fz sh mv mv) (hl : LayN mv m e b t) (p : Pt) (hp : p.kids = [((b + t.size - 1 : Nat) : Int)]) (c g1 g2 g3 g4 M : Nat) (on : List Bag) (β : Nat → Bag) (hon : on.length = M) (hM2 : M + t.w ≤ 256) (hβ : ∀ p, (β p).ok) (hz : ∀ p, M ≤ p → p < 256 → β p = Bag.zero) :
    HFun Tryz.prog 67 c ([] ++ [.pt 9011 g4 0 0, .fp 1 (fun _ => ptsV e), .fp 5 (ptF p), .fp 1 (fun _ => mv)]) (netL4 g1 g2 g3 g4 M on β) (RetP (fun (y : Nat × Nat) _ => True) (fun _ => pcH (lay m t M).pc) (fun y => netL4 g1 y.1 y.2 g4 (M + t.w) (on ++ (lay m t M).on) (links β (lay m t M).lk))) := by
  have hkl : p.kids.length = 1 := by rw [hp]; rfl
  refine hfun_of Tryz.func67 rfl (by kernel_rfl) _ _ _ _ rfl 13 rfl rfl (fun X ok hX => ?_)
  refine srg fun N h1 => ?_
  refine hm_1 4 (hop_alloc (id := 4) (sz := 9) zc_74 rfl rfl (nb rfl) (nb rfl)) rfl rfl pre0 rfl rfl (c' := c + 1) rfl ?_
  refine snl h1 ?_
  refine hw_seq (fun Nh2 h2 => ?_)
  refine hd_start ?_
  refine hd_q 5 (hol_load ty_36 rfl (nb rfl) (nb rfl) (fun h => (by rfl))) rfl rfl (pre1 rfl) rfl rfl (k' := 1) rfl ?_
  refine hd_q 6 (hop_load_fp ty_24 rfl (nb rfl) (fun h => (by rfl))) rfl rfl pre0 rfl rfl (k' := 2) rfl ?_
  refine hd_q 7 (hop_fa_fp fd_29_4 rfl (nb rfl)) rfl rfl pre0 rfl rfl (k' := 3) rfl ?_
  refine hd_q 8 (hop_load_fp ty_25 rfl (nb rfl) (fun h => (by rfl))) rfl rfl pre0 rfl rfl (k' := 4) rfl ?_
  refine hd_q 9 (hop_ia_sl el_25 rfl rfl (by omega) (by omega) (nb rfl)) rfl rfl pre0 rfl rfl (k' := 5) rfl ?_
  refine hd_q 10 (HOp.val (v' := intV ((b + t.size - 1 : Nat) : Int)) (hop_load_fp ty_3 rfl (nb rfl) (fun h => (by rfl))) ((by show intV (p.kids.getD 0 0) = _; rw [hp]; rfl))) rfl rfl pre0 rfl rfl (k' := 6) rfl ?_
  refine hd_q 11 (hop_load_fp ty_35 rfl (nb rfl) (fun h => (by rfl))) rfl rfl pre0 rfl rfl (k' := 7) rfl ?_
  refine hd_cut (by kernel_rfl) (by kernel_rfl) (by kernel_rfl) (by kernel_rfl) (c' := c + 8) rfl ?_ (by simp)
  refine hf_callR 12 (xs := [_, _, _, _]) (pre := [(9001, _), (9002, _), (9003, _)]) (hl _ g1 g2 g3 M on β hon hM2 hβ hz) ⟨rfl, ⟨rfl, ⟨rfl, ⟨rfl, trivial⟩⟩⟩⟩ (preC rfl (preC rfl (preC rfl pre0))) rfl rfl (fun x1 c1 hyy => ?_)
  obtain ⟨y2, y3⟩ := x1
  (try dsimp only)
  refine hm_s1 (hol_storeW ty_74 rfl rfl rfl rfl) rfl rfl (pre1 rfl) (c' := c1 + 1) rfl ?_
  refine snl h2 ?_
  refine hw_ret ?_
  refine hf_retR1 ok hX RetS.one rfl (rvl_cell rfl rfl ty_74 (fun h => by first | rfl | cases h) rfl rfl) [] rfl pre0 ((y2, y3)) (trivial) (by rfl) (by rfl) (kz_pc (by exact j9 rfl rfl rfl rfl rfl rfl rfl rfl rfl)) ?_
  exact ⟨⟨_, rfl, okz_net rfl rfl rfl rfl⟩, ⟨⟨_, rfl, okz_row (fun _ _ => rfl)⟩, ⟨⟨_, rfl, okz_row (fun _ _ => rfl)⟩, ⟨⟨_, rfl, okz1 (by first | exact .fz _ _ (.imm _) | exact .os _ _ _ _ _ rfl rfl | exact .pt _ _ _ _ _ rfl rfl | exact .nps _ _ _ rfl rfl | (dsimp only; exact .fz _ _ Frz.fz) | exact .fz _ _ (.tup 0 _ _ (fun i hi => absurd hi (Nat.not_lt_zero _))))⟩, trivial⟩⟩⟩⟩
end Go.Proofs.YtldjnmljnlhaaaaGreatDoor

namespace Go.Proofs.YtldjnmljnlhaaaaGreatDoor
set_option linter.unusedSimpArgs false
set_option linter.unusedVariables false
set_option maxRecDepth 100000
set_option maxHeartbeats 1000000
open Go.RowKit
/-- What bears only clocks that were known goes on if others get other names. -/
theorem Rep.ren {w w' : World} {E E' E'' : Env} (hF : ∀ a, E'.F a → E''.F a) (hL : ∀ k l, E''.L k = some l → E.G l.g → E'.L k = some l) (hG : ∀ g, E.G g → E''.G g) {v : Value} {x : HV} (h : Rep w' E' v x) : ∀ {v0 : Value}, Rep w E v0 x → Rep w' E'' v x := by
  induction h with
  | imm v => intro v0 _; exact .imm v
  | agg cs n f vs hn hv _ ih => intro v0 h0; cases h0 with | agg _ _ _ vs0 _ _ h0 => exact .agg cs n f vs hn hv (fun i hi => ih i hi (h0 i hi))
  | tup cs n f vs hn hv _ ih => intro v0 h0; cases h0 with | tup _ _ _ vs0 _ _ h0 => exact .tup cs n f vs hn hv (fun i hi => ih i hi (h0 i hi))
  | sl A n c sz f vs hc hm hA _ ih =>
    intro v0 h0
    cases h0 with
    | sl _ _ _ _ _ vs0 _ _ _ h0 =>
      exact .sl A n c sz f vs hc hm (fun hn => by
        obtain ⟨b, o, h1, h2, h3⟩ := hA hn
        exact ⟨b, o, h1, h2, fun i j hi hj => ⟨hF _ (h3 i j hi hj).1, (h3 i j hi hj).2⟩⟩) (fun i j hi hj => ih i j hi hj (h0 i j hi hj))
  | fp b o n f vs hA _ ih => intro v0 h0; cases h0 with | fp _ _ _ _ vs0 _ h0 => exact .fp b o n f vs (fun j hj => ⟨hF _ (hA j hj).1, (hA j hj).2⟩) (fun j hj => ih j hj (h0 j hj))
  | pt b k id g i off hg h => intro v0 h0; cases h0 with | pt _ _ _ _ _ _ hg0 _ => exact .pt b k id g i off (hG _ hg0) (fun l hl hlg => h l (hL id l hl (hlg ▸ hg0)) hlg)
  | os A n c id g lo hg hc hm hA h0 =>
    intro v0 hh
    cases hh with
    | os _ _ _ _ _ _ hg0 _ _ _ _ =>
      exact .os A n c id g lo (hG _ hg0) hc hm (fun hn => by
        obtain ⟨b, k, h1, h2⟩ := hA hn
        exact ⟨b, k, h1, fun l hl hlg => h2 l (hL id l hl (hlg ▸ hg0)) hlg⟩) (fun l hl hlg => h0 l (hL id l hl (hlg ▸ hg0)) hlg)
  | ifc t v x _ ih => intro v0 h0; cases h0 with | ifc _ _ _ h0 => exact .ifc t v x (ih h0)
  | fn f cs n x vs hn hv _ ih => intro v0 h0; cases h0 with | fn _ _ _ _ vs0 _ _ h0 => exact .fn f cs n x vs hn hv (fun i hi => ih i hi (h0 i hi))
  | bnd f v x _ ih => intro v0 h0; cases h0 with | bnd _ _ _ h0 => exact .bnd f v x (ih h0)
  | npn id g hg h =>
    intro v0 h0
    cases h0 with
    | npn _ _ hg0 _ => exact .npn id g (hG _ hg0) (fun l hl hlg => h l (hL id l hl (hlg ▸ hg0)) hlg)
    | npp _ _ _ hg0 _ _ => exact .npn id g (hG _ hg0) (fun l hl hlg => h l (hL id l hl (hlg ▸ hg0)) hlg)
  | npp v id g hg hc h ih =>
    intro v0 h0
    have hg0 : E.G g := by cases h0 with | npn _ _ hg0 _ => exact hg0 | npp _ _ _ hg0 _ _ => exact hg0
    refine .npp v id g (hG _ hg0) (fun l hl hlg => hc l (hL id l hl (hlg ▸ hg0)) hlg) ?_
    cases h with
    | pt b k _ _ _ _ _ hh => exact .pt b k id g 0 0 (hG _ hg0) (fun l hl hlg => hh l (hL id l hl (hlg ▸ hg0)) hlg)
/-- A value that bears no clock. -/
def NoClk (r : HV) : Prop := ∀ {w : World} {E E' : Env} {v : Value}, Rep w E v r → Rep w E' v r
theorem noClk_imm (u : Value) : NoClk (.imm u) := fun h => by have := h.imm_inv; subst this; exact .imm _
theorem noClk_agg {n : Nat} {f : Nat → HV} (hf : ∀ i, i < n → NoClk (f i)) : NoClk (.agg n f) := fun h => by
  cases h with | agg cs _ _ vs hn hv h => exact .agg cs n f vs hn hv (fun i hi => hf i hi (h i hi))
theorem noClk_pc (p : Pc) : NoClk (pcH p) := noClk_agg (by exact j9 (noClk_imm _) (noClk_imm _) (noClk_imm _) (noClk_imm _) (noClk_imm _) (noClk_imm _) (noClk_imm _) (noClk_imm _) (noClk_imm _))
section
variable {P : Program} {ov : Nat → Option HV} {g : Nat} {d : Option Tmp} {ty : TypeId} {pos : String} {af : Array Edge} {gd : Option (Nat × Bool)}
def renE (E E' : Env) (g : Nat) (l2 l3 : Loc) : Env := ⟨E'.F, fun k => if k = 9002 then some ⟨g, l2.A, l2.cap, l2.sz⟩ else if k = 9003 then some ⟨g, l3.A, l3.cap, l3.sz⟩ else E'.L k, fun k => E.G k ∨ k = g, E'.M⟩
theorem obj_row {w' : World} {E E' : Env} {K : Nat → Prop} {B g y n : Nat} {γ : Nat → Bag} {l2 l3 l : Loc} {l' : Loc} (hl : l' = ⟨g, l.A, l.cap, l.sz⟩) (o : ObjAt w' E' K B (rowO y n γ) l) : ObjAt w' (renE E E' g l2 l3) K B (rowO g n γ) l' := by
  subst hl
  refine ⟨rfl, .inr rfl, o.sz, o.pos, ?_⟩
  rcases o.at_ with h | ⟨b, cs, h1, h2, h3, h4, h5, h6, ⟨vs, hvs⟩, h8, h9⟩ | ⟨b, ob, h1, h2, h3, h4⟩
  · exact .inl h
  · exact .inr (.inl ⟨b, cs, h1, h2, h3, h4, h5, h6, ⟨vs, fun i j hi hj => ⟨(hvs i j hi hj).1, (hvs i j hi hj).2.1, noClk_imm _ (hvs i j hi hj).2.2⟩⟩, h8, h9⟩)
  · exact absurd h3.fl (by simp)
theorem obj_net {w' : World} {E E' : Env} {K : Nat → Prop} {B g g1 y2 y3 n : Nat} {l2 l3 l : Loc} (hg1 : E.G g1) (hl2 : E'.L 9002 = some l2) (e2 : l2.g = y2) (hl3 : E'.L 9003 = some l3) (e3 : l3.g = y3) (o : ObjAt w' E' K B (netO g1 (.os 9002 y2 0 n) (.os 9003 y3 0 n)) l) : ObjAt w' (renE E E' g l2 l3) K B (netO g1 (.os 9002 g 0 n) (.os 9003 g 0 n)) l := by
  have h9002 : (renE E E' g l2 l3).L 9002 = some ⟨g, l2.A, l2.cap, l2.sz⟩ := rfl
  have h9003 : (renE E E' g l2 l3).L 9003 = some ⟨g, l3.A, l3.cap, l3.sz⟩ := rfl
  refine ⟨o.g, .inl hg1, o.sz, o.pos, ?_⟩
  rcases o.at_ with h | ⟨b, cs, h1, h2, h3, h4, h5, h6, ⟨vs, hvs⟩, h8, h9⟩ | ⟨b, ob, h1, h2, h3, h4⟩
  · exact .inl h
  · refine .inr (.inl ⟨b, cs, h1, h2, h3, h4, h5, h6, ⟨vs, fun i j hi hj => ⟨(hvs i j hi hj).1, (hvs i j hi hj).2.1, ?_⟩⟩, h8, h9⟩)
    have hv := (hvs i j hi hj).2.2
    match j, hj with
    | 0, _ =>
      have hv : Rep w' E' (vs i 0) (.os 9002 y2 0 n) := hv
      show Rep w' _ (vs i 0) (.os 9002 g 0 n)
      generalize vs i 0 = u at hv
      cases hv with
      | os A n c _ _ _ _ hc hm hA h0 =>
        refine .os A n c 9002 g 0 (.inr rfl) hc hm (fun hn => ?_) (fun l hl _ => ?_)
        · obtain ⟨b, k, q1, q2⟩ := hA hn
          refine ⟨b, k, q1, fun l hl _ => ?_⟩
          rw [h9002] at hl; injection hl with hl; subst hl; exact q2 l2 hl2 e2
        · rw [h9002] at hl; injection hl with hl; subst hl; exact h0 l2 hl2 e2
    | 1, _ =>
      have hv : Rep w' E' (vs i 1) (.os 9003 y3 0 n) := hv
      show Rep w' _ (vs i 1) (.os 9003 g 0 n)
      generalize vs i 1 = u at hv
      cases hv with
      | os A n c _ _ _ _ hc hm hA h0 =>
        refine .os A n c 9003 g 0 (.inr rfl) hc hm (fun hn => ?_) (fun l hl _ => ?_)
        · obtain ⟨b, k, q1, q2⟩ := hA hn
          refine ⟨b, k, q1, fun l hl _ => ?_⟩
          rw [h9003] at hl; injection hl with hl; subst hl; exact q2 l3 hl3 e3
        · rw [h9003] at hl; injection hl with hl; subst hl; exact h0 l3 hl3 e3
    | 2, _ => exact noClk_imm _ hv
    | 3, _ => exact noClk_imm _ hv
    | 4, _ => exact noClk_imm _ hv
    | 5, _ => exact noClk_imm _ hv
    | 6, _ => exact noClk_imm _ hv
    | 7, _ => exact noClk_imm _ hv
    | 8, _ => exact noClk_imm _ hv
    | 9, _ => exact noClk_imm _ hv
    | 10, _ => exact noClk_imm _ hv
  · exact absurd h3.fl (by simp)
theorem obj_ren {w w' : World} {E E' : Env} {K : Nat → Prop} {B B0 g : Nat} {o : HObj} {l2 l3 l l0 : Loc} (hL : ∀ k l, (renE E E' g l2 l3).L k = some l → E.G l.g → E'.L k = some l) (o0 : ObjAt w E K B0 o l0) (oo : ObjAt w' E' K B o l) : ObjAt w' (renE E E' g l2 l3) K B o l := by
  refine ⟨oo.g, .inl o0.G, oo.sz, oo.pos, ?_⟩
  rcases oo.at_ with h | ⟨b, cs, h1, h2, h3, h4, h5, h6, ⟨vs, hvs⟩, h8, h9⟩ | h
  · exact .inl h
  · refine .inr (.inl ⟨b, cs, h1, h2, h3, h4, h5, h6, ⟨vs, fun i j hi hj => ⟨(hvs i j hi hj).1, (hvs i j hi hj).2.1, ?_⟩⟩, h8, h9⟩)
    rcases o0.at_ with q | ⟨_, _, _, _, _, _, _, _, ⟨vs0, hvs0⟩, _, _⟩ | ⟨_, _, _, _, q, _⟩
    · exact absurd hi (by omega)
    · exact Rep.ren (E := E) (E' := E') (E'' := renE E E' g l2 l3) (fun _ h => h) hL (fun _ h => Or.inl h) (hvs i j hi hj).2.2 (hvs0 i j hi hj).2.2
    · exact absurd hi (by rw [q.n]; omega)
  · exact .inr (.inr h)
theorem hop_net {f : FuncId} {args : List Operand} {at_ : Array TypeId} {xs : List HV} {r : HV} {g1 g2 g3 n n' : Nat} {on on' : List Bag} {β β' : Nat → Bag}
    (hc : ∀ c, HFun P f c xs (netL g1 g2 g3 n on β) (RetP (fun (y : Nat × Nat) _ => True) (fun _ => r) (fun y => netL g1 y.1 y.2 n' on' β'))) (hr : NoClk r) (hx : ovAll ov args xs) :
    HOp P ⟨d, .call ⟨.value (.func f), args.toArray, at_⟩, ty, pos, af, gd⟩ ov g (netL g1 g2 g3 n on β) r (netL g1 g g n' on' β') := by
  intro K w0 F0 E hh a w Q N rr ht hG hBd hpre hN
  obtain ⟨B, hB⟩ := hBd
  have hrep := hx.rep (w := w) (E := E) (ρ := a.eval) (fun x hv hx h => ht x hv (by simp [Op.operands, Call.operands]; exact .inr hx) h)
  unfold Oper.wp execOp
  have hargs : args.toArray.map a.eval = (args.map a.eval).toArray := by simp
  simp only [resolve, Act.eval, Deferred.ofValue, invoke, Sem.run_bind, Sem.run_pure, Result.andThen_ok, Array.empty_append, Array.append_empty]
  rw [run_callFunc (hc 0).1]
  simp only [Oper.upon]
  have h := (hc B).2 ⟨K, w0, F0, E, hh, w, netL g1 g2 g3 n on β⟩ (args.map a.eval) ⟨rr, fun id o ho => hpre (id, o) (hget_mem ho)⟩ rfl hrep hB
  rw [← hargs] at h
  refine Calls.mono h ?_
  rintro e w' ⟨x, kp, c', E', ⟨⟨y2, y3⟩, -, rfl, rfl⟩, e', r', hG', hGk, hv⟩
  cases e with
  | returned v =>
    obtain ⟨l1, hl1, o1⟩ := r'.obj 9001 _ rfl
    obtain ⟨l2, hl2, o2⟩ := r'.obj 9002 _ rfl
    obtain ⟨l3, hl3, o3⟩ := r'.obj 9003 _ rfl
    obtain ⟨l0, hl0, o0⟩ := rr.obj 9001 _ (hpre (9001, _) (List.mem_cons_self ..))
    have hL : ∀ k l, (renE E E' g l2 l3).L k = some l → E.G l.g → E'.L k = some l := by
      intro k l hl hg
      unfold renE at hl
      simp only at hl
      split at hl
      · injection hl with hl; subst hl; exact absurd hg hG
      · split at hl
        · injection hl with hl; subst hl; exact absurd hg hG
        · exact hl
    have hRL : ∀ k, k ≠ 9002 → k ≠ 9003 → (renE E E' g l2 l3).L k = E'.L k := fun k h2 h3 => by
      unfold renE; simp only; rw [if_neg h2, if_neg h3]
    have hext : Ext w E w' (renE E E' g l2 l3) := ⟨e'.sz, e'.F, fun k hk => .inl hk, fun k l hl hg => e'.L k l (hL k l hl hg) hg, e'.M⟩
    have hA : ∀ k o l, hupd hh (netL g1 g g n' on' β') k = some o → (renE E E' g l2 l3).L k = some l → ∃ o' l', hupd hh (netL g1 y2 y3 n' on' β') k = some o' ∧ E'.L k = some l' ∧ l'.A = l.A := by
      intro k o l ho hl
      by_cases h2 : k = 9002
      · subst h2; refine ⟨_, _, rfl, hl2, ?_⟩
        unfold renE at hl; simp only [if_pos] at hl; injection hl with hl; subst hl; rfl
      · by_cases h3 : k = 9003
        · subst h3; refine ⟨_, _, rfl, hl3, ?_⟩
          unfold renE at hl; simp at hl; subst hl; rfl
        · rw [hRL k h2 h3] at hl
          by_cases h1 : k = 9001
          · subst h1; exact ⟨_, _, rfl, hl, rfl⟩
          · refine ⟨o, l, ?_, hl, rfl⟩
            rw [← ho]
            simp [hupd, hset, h1, h2, h3]
    refine hN v w' (renE E E' g l2 l3) hext ⟨r'.os, r'.tape, r'.output, r'.size, r'.keep, r'.frz, r'.fnew, r'.klib, r'.lib, r'.bks, ?_, ?_⟩ (fun g' hg' => hg'.imp id fun e => ⟨by simp, e⟩) (hr hv)
    · intro k o ho
      by_cases h2 : k = 9002
      · subst h2
        have ho : rowO g n' (onF on') = o := Option.some.inj ho
        subst ho
        exact ⟨_, rfl, obj_row rfl o2⟩
      · by_cases h3 : k = 9003
        · subst h3
          have ho : rowO g n' β' = o := Option.some.inj ho
          subst ho
          exact ⟨_, rfl, obj_row rfl o3⟩
        · by_cases h1 : k = 9001
          · subst h1
            have ho : netO g1 (.os 9002 g 0 n') (.os 9003 g 0 n') = o := Option.some.inj ho
            subst ho
            exact ⟨l1, hl1, obj_net o0.G hl2 o2.g hl3 o3.g o1⟩
          · have ho : hh k = some o := by rw [← ho]; simp [hupd, hset, h1, h2, h3]
            obtain ⟨l, hl, oo⟩ := r'.obj k o (by rw [← ho]; simp [hupd, hset, h1, h2, h3])
            obtain ⟨l00, _, ob⟩ := rr.obj k o ho
            exact ⟨l, by rw [hRL k h2 h3]; exact hl, obj_ren hL ob oo⟩
    · intro k k' o o' l l' b ho ho' hl hl' hb hb'
      obtain ⟨p, q, h1, h2, h3⟩ := hA k o l ho hl
      obtain ⟨p', q', h1', h2', h3'⟩ := hA k' o' l' ho' hl'
      exact r'.inj k k' p p' q q' b h1 h1' h2 h2' (h3.trans hb) (h3'.trans hb')
  | _ => exact hv.elim
end
end Go.Proofs.YtldjnmljnlhaaaaGreatDoor

namespace Go.Proofs.YtldjnmljnlhaaaaGreatDoor
set_option linter.unusedSimpArgs false
set_option linter.unusedVariables false
set_option maxRecDepth 100000
set_option maxHeartbeats 1000000
open Go.RowKit
def stC (m : List UInt8 → Bag) (N : Nat) (a : Ly) (t : T) : Ly := ⟨a.on ++ (lay m t N).on, a.lk ++ (lay m t N).lk, ⟨bun a.pc.first (lay m t N).pc.first, bun a.pc.ends (lay m t N).pc.ends, a.pc.empty || (lay m t N).pc.empty⟩⟩
def stR (m : List UInt8 → Bag) (N : Nat) (a : Ly) (t : T) : Ly := ⟨a.on ++ (lay m t N).on, a.lk ++ (lay m t N).lk ++ [(a.pc.ends, (lay m t N).pc.first)], a.pc.join (lay m t N).pc⟩
theorem layC_snoc (m : List UInt8 → Bag) : ∀ (ts : List T) (N : Nat) (a : Ly) (t : T), layC m (ts ++ [t]) N a = stC m (N + T.wL ts) (layC m ts N a) t
  | [], N, a, t => by simp [layC, T.wL, stC]
  | x :: ts, N, a, t => by simp only [List.cons_append, layC]; rw [layC_snoc m ts]; simp only [T.wL, Nat.add_assoc]
theorem layR_snoc (m : List UInt8 → Bag) : ∀ (ts : List T) (N : Nat) (a : Ly) (t : T), layR m (ts ++ [t]) N a = stR m (N + T.wL ts) (layR m ts N a) t
  | [], N, a, t => by simp [layR, T.wL, stR]
  | x :: ts, N, a, t => by simp only [List.cons_append, layR]; rw [layR_snoc m ts]; simp only [T.wL, Nat.add_assoc]
theorem wL_le : ∀ (ts : List T) (i : Nat), T.wL (ts.take i) ≤ T.wL ts
  | [], i => by simp [T.wL]
  | t :: ts, 0 => by simp [T.wL]
  | t :: ts, i + 1 => by have := wL_le ts i; simp only [List.take_succ_cons, T.wL]; omega
theorem layC_pre {m : List UInt8 → Bag} (hm : ∀ s, (m s).ok) (ts : List T) (i N : Nat) (h : N + T.wL ts ≤ 256) : (layC m (ts.take i) N ⟨[], [], default⟩).Ok N (T.wL (ts.take i)) := by
  have hle := wL_le ts i
  have := layC_ok hm (ts.take i) N N ⟨[], [], default⟩ (by omega) (Nat.le_refl _) (by rw [Nat.sub_self]; exact ⟨rfl, (fun b hb => by simp at hb), (fun q hq => by simp at hq), default_ok, ⟨inB_zero _ _, inB_zero _ _⟩⟩)
  rwa [show N + T.wL (ts.take i) - N = T.wL (ts.take i) by omega] at this
theorem layR_pre {m : List UInt8 → Bag} (hm : ∀ s, (m s).ok) (ts : List T) (i N : Nat) (h : N + T.wL ts ≤ 256) : (layR m (ts.take i) N ⟨[], [], Pc.nil⟩).Ok N (T.wL (ts.take i)) := by
  have hle := wL_le ts i
  have := layR_ok hm (ts.take i) N N ⟨[], [], Pc.nil⟩ (by omega) (Nat.le_refl _) (by rw [Nat.sub_self]; exact ⟨rfl, (fun b hb => by simp at hb), (fun q hq => by simp at hq), Pc.nil_ok, Pc.inB_nil _ _⟩)
  rwa [show N + T.wL (ts.take i) - N = T.wL (ts.take i) by omega] at this
theorem w_choice {t : T} (h : t.kind = 3) (hok : t.ok = true) : ∃ ts, t = .many 3 ts := by
  cases t with
  | name s => simp [T.kind] at h
  | times lo hi t => simp [T.kind] at h
  | many k ts => simp [T.kind] at h; subst h; exact ⟨ts, rfl⟩
theorem w_row {t : T} (h1 : t.kind ≠ 1) (h4 : t.kind ≠ 4) (h3 : t.kind ≠ 3) (hok : t.ok = true) : ∃ k ts, t = .many k ts ∧ k ≠ 3 := by
  cases t with
  | name s => simp [T.kind] at h1
  | times lo hi t => simp [T.kind] at h4
  | many k ts => exact ⟨k, ts, rfl, h3⟩
theorem w_nm {t : T} (h : t.kind = 1) (hok : t.ok = true) : ∃ s, t = .name s := by
  cases t with
  | name s => exact ⟨s, rfl⟩
  | times lo hi t => simp [T.kind] at h
  | many k ts => simp [T.kind] at h; subst h; simp [T.ok] at hok
theorem osub_net {g1 : Nat} {f : Nat → Nat → HV} {a b : HV} (h : ∀ j, j < 11 → f 0 j = netF a b Bag.zero Bag.zero false 0 j) : OSub ⟨g1, 1, 11, 71, 0, f⟩ (netO g1 a b) := OSub.of fun i j hi hj => by
  obtain rfl : i = 0 := by omega
  rw [h j hj]; exact .refl _
theorem cat_row {n : Nat} {γ γ' : Nat → Bag} {L : List HV} (h1 : ∀ i, i < n → γ i = γ' i) (h2 : ∀ j, j < 4 → bsf L 0 j = bagF (γ' n) j) : ∀ i j, i < n + 1 → j < 4 → cat n (rowF γ) (bsf L) i j = bagF (γ' i) j := fun i j hi hj => by
  unfold cat
  by_cases h : i < n
  · have e : Nat.blt i n = true := by simpa [Nat.blt_eq] using h
    rw [e]; show bagF (γ i) j = _; rw [h1 i h]
  · obtain rfl : i = n := by omega
    have e : Nat.blt i i = false := by rw [Bool.eq_false_iff]; intro h'; simp [Nat.blt_eq] at h'
    rw [e]; show bsf L (i - i) j = _; rw [Nat.sub_self]; exact h2 j hj
theorem onF_snoc {on : List Bag} {n : Nat} (hn : on.length = n) (x : Bag) : (∀ i, i < n → onF on i = onF (on ++ [x]) i) ∧ onF (on ++ [x]) n = x := by
  subst hn
  exact ⟨fun i hi => (getD_app (d := Bag.zero) (k := [x]) hi).symm, getD_snoc _ _ _⟩
theorem lay_one (mf : FuncId) (mk : Nat) (mcaps : Nat → HV) (mcs : List HV) (hmk : mcs.length = mk) (hmi : ∀ i, i < mk → mcs[i]? = some (mcaps i)) (hmz : FzAll [] mcs mcs) (hmf : ∀ sh, Fz sh (.fn (.func mf) mk mcaps) (.fn (.func mf) mk mcaps)) (m : List UInt8 → Bag) (hm : ∀ s, nameV s = true → HPure Tryz.prog mf ([strV s] ++ mcs) (bagH (m s))) (hmo : ∀ s, (m s).ok)
    (e : List Pt) (he : e.length ≤ 100000) (b : Nat) (t : T) (hok : t.ok = true) (hat : AtP e b (T.flat b t)) (hkl : t.kidsT.length ≤ 100000)
    (ih : ∀ i, i < t.kidsT.length → LayN (.fn (.func mf) mk mcaps) m e (b + T.sizeL (t.kidsT.take i)) (t.kidsT.getD i default)) : LayN (.fn (.func mf) mk mcaps) m e b t := by
  intro c g1 g2 g3 N0 on β hon hw hβ hz
  have htop := at_top hat
  have hps := t.size_pos
  have hkid := top_kids b t
  have hrl := rootsL_len t.kidsT b
  generalize htp : t.top b = p at htop hkid
  have hpk : p.kind = t.kind := by rw [← htp]; exact top_kind b t
  let k0 := c
  refine hfun_of Tryz.func37 rfl (by kernel_rfl) _ _ _ _ rfl 116 rfl rfl (fun X ok hX => ?_)
  refine srg fun N h1 => ?_
  refine hm_1 4 (hop_box (id := 9011) (sz := 1) rfl rfl rfl (by decide) (by decide)) rfl rfl pre0 rfl rfl (c' := c + 1) rfl ?_
  refine hm_1 5 (hop_box (id := 5) (sz := 1) rfl rfl rfl (nb rfl) (nb rfl)) rfl rfl pre0 rfl rfl (c' := c + 2) rfl ?_
  refine hm_1 7 (hop_box (id := 7) (sz := 1) rfl rfl rfl (nb rfl) (nb rfl)) rfl rfl pre0 rfl rfl (c' := c + 3) rfl ?_
  refine hm_1 8 (hop_alloc (id := 8) (sz := 9) zc_74 rfl rfl (nb rfl) (nb rfl)) rfl rfl pre0 rfl rfl (c' := c + 4) rfl ?_
  refine snl h1 ?_
  refine srg fun N h2 => ?_
  refine st1 (hol_load ty_24 rfl (nb rfl) (nb rfl) (fun h => (by rfl))) rfl rfl rfl ?_
  refine stm rfl rfl rfl ?_
  refine st0 (hop_ia_sl el_24 rfl rfl (by omega) (by omega) (nb rfl)) rfl rfl ?_
  refine st0 (HOp.val (v' := ptH p) (hop_load_fp ty_29 rfl (nb rfl) (fun h => (by cases h))) (pt_at (by omega) htop.1)) rfl rfl ?_
  refine hm_1 9 (hop_alloc (id := 9) (sz := 5) zc_29 rfl rfl (nb rfl) (nb rfl)) rfl rfl pre0 rfl rfl (c' := c + 5) rfl ?_
  refine hm_s1 (hol_storeW ty_29 rfl rfl rfl rfl) rfl rfl (pre1 rfl) (c' := c + 6) rfl ?_
  refine snl h2 ?_
  refine hw_seq (fun Nh3 h3 => ?_)
  refine srg fun N h4 => ?_
  refine st0 (hop_fa fd_29_0 rfl) rfl rfl ?_
  refine st1 (hol_load ty_3 rfl (nb rfl) (nb rfl) (fun h => (by rfl))) rfl rfl rfl ?_
  refine snl h4 ?_
  refine hw_block ?_
  refine srg fun N h5 => ?_
  refine st0 (hop_eql rfl rfl) rfl rfl ?_
  refine sta rfl rfl rfl ?_
  refine snl h5 ?_
  refine hw_cond _ rfl (fun hc0 => ?_) (fun hc0 => ?_)
  · have hr0 := hc0; (try simp only [hcs, Int.reduceToNat] at hc0)
    obtain ⟨s, hts⟩ := w_nm (by rw [← hpk]; exact hc0) hok; have hpn : p.name = s := (by rw [← htp, hts]; rfl); have hnv : nameV p.name = true := (by rw [hpn]; rw [hts] at hok; simpa [T.ok] using hok); have hl1 : lay m t N0 = ⟨[m s], [], ⟨single N0, single N0, false⟩⟩ := (by rw [hts]; simp [lay]); have hw1 : t.w = 1 := (by rw [hts]; rfl)
    refine srg fun N h6 => ?_
    refine st1 (hol_load ty_36 rfl (nb rfl) (nb rfl) (fun h => (by rfl))) rfl rfl rfl ?_
    refine st0 (hop_nilcheck_pt rfl) rfl rfl ?_
    refine st0 (hop_fa fd_71_0 rfl) rfl rfl ?_
    refine st1 (hol_load ty_69 rfl (nb rfl) (nb rfl) (fun h => (by rfl))) rfl rfl rfl ?_
    refine st0 (hop_len_os (T := 69) rfl (elOf_spec el_69).1 rfl) rfl rfl ?_
    refine hm_1 31 (hop_buildSlice (id := 31) (hs := [_]) ei_25 (nb rfl) rfl (nb rfl) ⟨rfl, rfl, rfl, rfl, trivial⟩) rfl rfl pre0 rfl rfl (c' := c + 7) rfl ?_
    refine hm_ 32 (hop_call (xs := [_]) [(31, _)] (of_h [(N0 : Int)] (by simp)) ⟨rfl, trivial⟩ ⟨(show Fz _ _ (iListV [(N0 : Int)]) from fz_row (l := [(N0 : Int)]) (enc := fun x _ => intV x) (d := 0) (List.mem_cons_self ..) rfl rfl (Nat.le_refl _) (fun i j hi hj => by obtain rfl : i = 0 := (by simpa using hi); exact .imm _)), trivial⟩ rfl) rfl rfl (preC rfl pre0) rfl rfl (c' := c + 8) rfl ?_
    refine hm_1 10 (hop_alloc (id := 10) (sz := 4) zc_33 rfl rfl (nb rfl) (nb rfl)) rfl rfl pre0 rfl rfl (c' := c + 9) rfl ?_
    refine hm_s1 (hol_storeW ty_33 rfl rfl rfl rfl) rfl rfl (pre1 rfl) (c' := c + 10) rfl ?_
    refine snl h6 ?_
    refine hw_seq (fun Nh7 h7 => ?_)
    refine hd_start ?_
    refine hd_q 33 (hol_load ty_36 rfl (nb rfl) (nb rfl) (fun h => (by rfl))) rfl rfl (pre1 rfl) rfl rfl (k' := 1) rfl ?_
    refine hd_q 34 (hol_load ty_36 rfl (nb rfl) (nb rfl) (fun h => (by rfl))) rfl rfl (pre1 rfl) rfl rfl (k' := 2) rfl ?_
    refine hd_q 35 (hop_nilcheck_pt rfl) rfl rfl pre0 rfl rfl (k' := 3) rfl ?_
    refine hd_q 36 (hop_fa fd_71_0 rfl) rfl rfl pre0 rfl rfl (k' := 4) rfl ?_
    refine hd_q 37 (hol_load ty_69 rfl (nb rfl) (nb rfl) (fun h => (by rfl))) rfl rfl (pre1 rfl) rfl rfl (k' := 5) rfl ?_
    refine hd_q 38 (hol_load ty_35 rfl (nb rfl) (nb rfl) (fun h => (by rfl))) rfl rfl (pre1 rfl) rfl rfl (k' := 6) rfl ?_
    refine hd_q 39 (hop_fa fd_29_3 rfl) rfl rfl pre0 rfl rfl (k' := 7) rfl ?_
    refine hd_q 40 (hol_load ty_9 rfl (nb rfl) (nb rfl) (fun h => (by rfl))) rfl rfl (pre1 rfl) rfl rfl (k' := 8) rfl ?_
    refine hd_q 41 (hop_callv0 (xs := [_]) (cs := mcs) (hm p.name hnv) rfl hmk hmi ⟨rfl, trivial⟩ ⟨(show Fz [] (strV p.name) (strV p.name) from Frz.fz), hmz⟩) rfl rfl pre0 rfl rfl (k' := 9) rfl ?_
    refine hd_1 42 (hop_buildSlice (id := 42) (hs := [_]) ei_69 (nb rfl) rfl (nb rfl) ⟨rfl, rfl, rfl, rfl, trivial⟩) rfl rfl pre0 rfl rfl (k' := 10) rfl ?_
    refine hd_1 43 (hol_append ei_69 (nb rfl) rfl (by omega) (nb rfl) (srl_os0 rfl (nb rfl)) (by omega) rfl) rfl rfl (preC rfl (pre1 rfl)) rfl rfl (k' := 11) rfl ?_
    refine hd_q 44 (hop_nilcheck_pt rfl) rfl rfl pre0 rfl rfl (k' := 12) rfl ?_
    refine hd_q 45 (hop_fa fd_71_0 rfl) rfl rfl pre0 rfl rfl (k' := 13) rfl ?_
    refine hd_s1 (hol_store ty_69 rfl rfl rfl rfl (nb rfl) (nb rfl) (nb rfl)) rfl rfl (pre1 rfl) (k' := 14) rfl ?_
    refine hd_nil (by kernel_rfl) (by kernel_rfl) (c' := c + 24) rfl ?_
    refine h7 _ ?_
    refine hw_seq (fun Nh8 h8 => ?_)
    refine hd_start ?_
    refine hd_q 46 (hol_load ty_36 rfl (nb rfl) (nb rfl) (fun h => (by rfl))) rfl rfl (pre1 rfl) rfl rfl (k' := 1) rfl ?_
    refine hd_q 47 (hol_load ty_36 rfl (nb rfl) (nb rfl) (fun h => (by rfl))) rfl rfl (pre1 rfl) rfl rfl (k' := 2) rfl ?_
    refine hd_q 48 (hop_nilcheck_pt rfl) rfl rfl pre0 rfl rfl (k' := 3) rfl ?_
    refine hd_q 49 (hop_fa fd_71_1 rfl) rfl rfl pre0 rfl rfl (k' := 4) rfl ?_
    refine hd_q 50 (hol_load ty_69 rfl (nb rfl) (nb rfl) (fun h => (by rfl))) rfl rfl (pre1 rfl) rfl rfl (k' := 5) rfl ?_
    refine hd_q 51 (hop_build (hs := []) st_33 rfl rfl trivial) rfl rfl pre0 rfl rfl (k' := 6) rfl ?_
    refine hd_1 52 (hop_buildSlice (id := 52) (hs := [_]) ei_69 (nb rfl) rfl (nb rfl) ⟨rfl, rfl, rfl, rfl, trivial⟩) rfl rfl pre0 rfl rfl (k' := 7) rfl ?_
    refine hd_1 53 (hol_append ei_69 (nb rfl) rfl (by omega) (nb rfl) (srl_os0 rfl (nb rfl)) (by omega) rfl) rfl rfl (preC rfl (pre1 rfl)) rfl rfl (k' := 8) rfl ?_
    refine hd_q 54 (hop_nilcheck_pt rfl) rfl rfl pre0 rfl rfl (k' := 9) rfl ?_
    refine hd_q 55 (hop_fa fd_71_1 rfl) rfl rfl pre0 rfl rfl (k' := 10) rfl ?_
    refine hd_s1 (hol_store ty_69 rfl rfl rfl rfl (nb rfl) (nb rfl) (nb rfl)) rfl rfl (pre1 rfl) (k' := 11) rfl ?_
    refine hd_nil (by kernel_rfl) (by kernel_rfl) (c' := c + 35) rfl ?_
    refine h8 _ ?_
    refine hw_seq (fun Nh9 h9 => ?_)
    have hsn := onF_snoc hon (m p.name); refine (hsub_ob 9001 (netO g1 (.os 9002 (c + 10 + 10) 0 (N0 + 1)) (.os 9003 (c + 24 + 7) 0 (N0 + 1))) rfl (by exact osub_net (fun j hj => by match j, hj with | 0, _ => rfl | 1, _ => rfl | 2, _ => rfl | 3, _ => rfl | 4, _ => rfl | 5, _ => rfl | 6, _ => rfl | 7, _ => rfl | 8, _ => rfl | 9, _ => rfl | 10, _ => rfl))).wp ?_; refine (hsub_ob 9002 (rowO (c + 10 + 10) (N0 + 1) (onF (on ++ [m p.name]))) rfl (by exact osub_row (cat_row hsn.1 (fun j hj => by rw [hsn.2]; rfl)))).wp ?_; refine (hsub_ob 9003 (rowO (c + 24 + 7) (N0 + 1) β) rfl (by exact osub_row (cat_row (fun _ _ => rfl) (fun j hj => by rw [hz N0 (Nat.le_refl _) (by omega)]; exact j4 (f := bsf _ 0) (g := bagF Bag.zero) rfl rfl rfl rfl j hj)))).wp ?_
    refine hw_region ?_
    refine st1 (hol_load ty_33 rfl (nb rfl) (nb rfl) (fun h => (by cases h))) rfl rfl rfl ?_
    refine st1 (hol_load ty_33 rfl (nb rfl) (nb rfl) (fun h => (by cases h))) rfl rfl rfl ?_
    refine st0 (hop_build (hs := [(0, 4, _), (4, 4, _)]) st_74 rfl rfl ⟨rfl, rfl, rfl, rfl, rfl, ⟨rfl, rfl, rfl, rfl, rfl, trivial⟩⟩) rfl rfl ?_
    refine hm_s1 (hol_storeW ty_74 rfl rfl rfl rfl) rfl rfl (pre1 rfl) (c' := c + 36) rfl ?_
    refine snl h9 ?_
    refine hw_ret ?_
    refine hq_block_ret ?_
    refine hq_then_ret ?_
    refine hf_retR1 ok hX RetS.one rfl (rvl_cell rfl rfl ty_74 (fun h => by first | rfl | cases h) rfl rfl) [] rfl pre0 ((c + 10 + 10, c + 24 + 7)) (trivial) (by rfl) (by rfl) ((by rw [hl1]; exact kz_pc (by exact j9 rfl rfl rfl rfl rfl rfl rfl rfl rfl))) ?_
    exact ⟨⟨_, rfl, (by rw [hw1]; exact okz_net rfl rfl rfl rfl)⟩, ⟨⟨_, rfl, (by rw [hw1, hl1, ← hpn]; exact okz_row (fun _ _ => rfl))⟩, ⟨⟨_, rfl, (by rw [hw1, hl1]; exact okz_row (fun _ _ => rfl))⟩, trivial⟩⟩⟩
  have hr0 := hc0; (try simp only [hcs, Int.reduceToNat] at hc0)
  refine srg fun N h10 => ?_
  refine st0 (hop_eql rfl rfl) rfl rfl ?_
  refine sta rfl rfl rfl ?_
  refine snl h10 ?_
  refine hw_cond _ rfl (fun hc1 => ?_) (fun hc1 => ?_)
  · have hr1 := hc1; (try simp only [hcs, Int.reduceToNat] at hc1)
    have hkd4 : t.kind = 4 := (by rw [← hpk]; exact hc1); obtain ⟨lo, hi, u, htu⟩ := w_times hkd4 hok; have hct := w_count b hkd4 hok; rw [htp] at hct; have hpl : p.low = lo ∧ p.high = hi ∧ p.kids = [((b + u.size - 1 : Nat) : Int)] := (by have := u.size_pos; rw [← htp, htu]; refine ⟨rfl, rfl, ?_⟩; show [((b + u.size : Nat) : Int) - 1] = _; congr 1; omega); have hiu : LayN (.fn (.func mf) mk mcaps) m e b u := (by have h := ih 0 (by rw [htu]; exact Nat.zero_lt_one); rw [htu] at h; simpa [T.kidsT, T.sizeL] using h); have htw : t.w = manyOf p.low p.high * u.w := (by rw [hct.1, htu, Nat.mul_comm]; simp [T.kidsT, T.wL]); have hll : lay m t N0 = layT p.low p.high (fun k => lay m u (N0 + k * u.w)) := (by rw [htu, hpl.1, hpl.2.1]; simp [lay]); have hkb : ∀ k, k < manyOf p.low p.high → N0 + k * u.w + u.w ≤ 256 := (fun k hk => by have h := Nat.mul_le_mul_right u.w hk; rw [Nat.succ_mul] at h; omega)
    refine srg fun N h11 => ?_
    refine st1 (hol_load ty_36 rfl (nb rfl) (nb rfl) (fun h => (by rfl))) rfl rfl rfl ?_
    refine st1 (hol_load ty_29 rfl (nb rfl) (nb rfl) (fun h => (by cases h))) rfl rfl rfl ?_
    refine st0 (hop_makeFunc (hs := [_, _, _, _]) ⟨rfl, ⟨rfl, ⟨rfl, ⟨rfl, trivial⟩⟩⟩⟩) rfl rfl ?_
    refine (hsub_shrK 63 [(5, _), (9, _), (7, _)] [(9011, _)] rfl (preC rfl (preC rfl (preC rfl pre0))) (preC rfl pre0) rfl ((.fn _ _ _ (fun i => [HV.pt 9011 k0 0 0, .fp 1 (fun _ => ptsV e), .fp 5 (ptF p), .fp 1 (fun _ => (.fn (.func mf) mk mcaps))].getD i default) (fun i hi => by match i, hi with | 0, _ => exact .pt _ _ _ _ _ rfl rfl | 1, _ => exact .fz _ _ (.pt 5 _ 0 0 1 _ _ (.head _) rfl (Nat.lt_succ_self 0) (Nat.le_refl _) (fun j hj => show Fz _ (ptsV e) (ptsV e) from Frz.fz)) | 2, _ => exact .fz _ _ (.pt 9 _ 0 0 5 _ _ (.tail _ (.head _)) rfl (Nat.lt_succ_self 0) (Nat.le_refl _) (fun j hj => by show Fz _ (ptF p (0 + j)) (ptF p j); rw [Nat.zero_add]; exact pt_fz _ _)) | 3, _ => exact .fz _ _ (.pt 7 _ 0 0 1 _ _ (.tail _ (.tail _ (.head _))) rfl (Nat.lt_succ_self 0) (Nat.le_refl _) (fun j hj => hmf _)))))).seq ?_
    refine hf_callR 64 (xs := [_, _, _]) (pre := [(9001, _), (9002, _), (9003, _), (9011, _)]) (timesN_h _ g1 g2 g3 k0 N0 u.w on β hon hβ hz p (fun k => lay m u (N0 + k * u.w)) (.fp 1 (fun _ => ptsV e)) (.fp 5 (ptF p)) (.fp 1 (fun _ => (.fn (.func mf) mk mcaps))) hct.2.1 hct.2.2.1 hct.2.2.2.1 hct.2.2.2.2 (fun k hk => lay_ok hmo u _ (hkb k hk)) (by rw [← htw]; exact hw) (fun k hk M c g2 g3 on β hM hon hβ hz => by subst hM; exact lay1_h (.fn (.func mf) mk mcaps) m e he b u hmf hiu p hpl.2.2 c g1 g2 g3 k0 _ on β hon (hkb k hk) hβ hz)) ⟨rfl, ⟨rfl, ⟨rfl, trivial⟩⟩⟩ (preC rfl (preC rfl (preC rfl (preC rfl pre0)))) rfl rfl (fun x1 c1 hyy => ?_)
    obtain ⟨y2, y3⟩ := x1
    (try dsimp only)
    refine hm_s1 (hol_storeW ty_74 rfl rfl rfl rfl) rfl rfl (pre1 rfl) (c' := c1 + 1) rfl ?_
    refine snl h11 ?_
    refine hw_ret ?_
    refine hq_block_ret ?_
    refine hq_then_ret ?_
    refine hf_retR1 ok hX RetS.one rfl (rvl_cell rfl rfl ty_74 (fun h => by first | rfl | cases h) rfl rfl) [] rfl pre0 ((y2, y3)) (trivial) (by rfl) (by rfl) ((by rw [hll]; exact kz_pc (by exact j9 rfl rfl rfl rfl rfl rfl rfl rfl rfl))) ?_
    exact ⟨⟨_, rfl, (by rw [htw]; exact okz_net rfl rfl rfl rfl)⟩, ⟨⟨_, rfl, (by rw [htw, hll]; exact okz_row (fun _ _ => rfl))⟩, ⟨⟨_, rfl, (by rw [htw, hll]; exact okz_row (fun _ _ => rfl))⟩, trivial⟩⟩⟩
  have hr1 := hc1; (try simp only [hcs, Int.reduceToNat] at hc1)
  refine srg fun N h12 => ?_
  refine st0 (hop_eql rfl rfl) rfl rfl ?_
  refine sta rfl rfl rfl ?_
  refine snl h12 ?_
  refine hw_cond _ rfl (fun hc2 => ?_) (fun hc2 => ?_)
  · have hr2 := hc2; (try simp only [hcs, Int.reduceToNat] at hc2)
    let k1 := c + 6; have hkd3 : t.kind = 3 := (by rw [← hpk]; exact hc2); have hwm := w_many (t := t) (by rw [hkd3]; decide) (by rw [hkd3]; decide); have hll : lay m t N0 = layC m t.kidsT N0 ⟨[], [], default⟩ := (by obtain ⟨ts, hts⟩ := w_choice hkd3 hok; rw [hts]; simp [lay, T.kidsT])
    refine srg fun N h13 => ?_
    refine hm_1 11 (hop_alloc (id := 11) (sz := 9) zc_74 rfl rfl (nb rfl) (nb rfl)) rfl rfl pre0 rfl rfl (c' := c + 7) rfl ?_
    refine snl h13 ?_
    refine hw_seq (fun Nh14 h14 => ?_)
    refine srg fun N h15 => ?_
    refine st0 (hop_fa fd_29_4 rfl) rfl rfl ?_
    refine st1 (hol_load ty_25 rfl (nb rfl) (nb rfl) (fun h => (by rfl))) rfl rfl rfl ?_
    refine st0 (hop_len_sl (T := 25) rfl (elOf_spec el_25).1 rfl) rfl rfl ?_
    refine stm rfl rfl rfl ?_
    refine snl h15 ?_
    refine hw_block ?_
    refine hw_loopc (α := Nat × Nat × List Bag × (Nat → Bag) × Pc × Nat × Nat) (fun x c => ⟨116, [(4, .v (.pt 9011 k0 0 0)), (5, .v (.pt 5 (k0 + 1) 0 0)), (7, .v (.pt 7 (k0 + 2) 0 0)), (8, .v (.pt 8 (k0 + 3) 0 0)), (11, .v (.pt 11 k1 0 0)), (68, .v (kidsV p.kids)), (69, .v (intV p.kids.length)), (70, .v (intV (x.1 : Int)))], [(9001, netO g1 (.os 9002 x.2.2.2.2.2.1 0 x.2.1) (.os 9003 x.2.2.2.2.2.2 0 x.2.1)), (9002, rowO x.2.2.2.2.2.1 x.2.1 (onF x.2.2.1)), (9003, rowO x.2.2.2.2.2.2 x.2.1 x.2.2.2.1), (9011, nbO k0 g1), (5, ⟨k0 + 1, 1, 1, 24, 0, fun _ _ => ptsV e⟩), (7, ⟨k0 + 2, 1, 1, 35, 0, fun _ _ => (.fn (.func mf) mk mcaps)⟩), (8, pcO (k0 + 3) default), (11, pcO k1 x.2.2.2.2.1)], c⟩) (fun x => x.1 ≤ t.kidsT.length ∧ x.2.1 = N0 + T.wL (t.kidsT.take x.1) ∧ x.2.2.1 = on ++ (layC m (t.kidsT.take x.1) N0 ⟨[], [], default⟩).on ∧ x.2.2.2.1 = links β (layC m (t.kidsT.take x.1) N0 ⟨[], [], default⟩).lk ∧ x.2.2.2.2.1 = (layC m (t.kidsT.take x.1) N0 ⟨[], [], default⟩).pc) (fun x => t.kidsT.length - x.1) ((0, N0, on, β, default, g2, g3)) (by exact ⟨Nat.zero_le _, by simp [T.wL], by simp [layC], by simp [layC, links], by simp [layC]⟩) (hsub_of rfl (Nat.le_refl _) (TmSub.cons rfl (Sb.refl _) (TmSub.cons rfl (Sb.refl _) (TmSub.cons rfl (Sb.refl _) (TmSub.cons rfl (Sb.refl _) (TmSub.cons rfl (Sb.refl _) (TmSub.cons rfl (Sb.refl _) (TmSub.cons rfl (Sb.refl _) (TmSub.cons rfl (Sb.refl _) TmSub.nil)))))))) (HpSub.cons rfl (OSub.refl _) (HpSub.cons rfl (OSub.refl _) (HpSub.cons rfl (OSub.refl _) (HpSub.cons rfl (OSub.refl _) (HpSub.cons rfl (OSub.refl _) (HpSub.cons rfl (OSub.refl _) (HpSub.cons rfl (osub_pc (by exact j9 rfl rfl rfl rfl rfl rfl rfl rfl rfl)) (HpSub.cons rfl (osub_pc (by exact j9 rfl rfl rfl rfl rfl rfl rfl rfl rfl)) HpSub.nil))))))))) (fun x c hx NhL16 hL16 => ?_)
    revert hx hL16; obtain ⟨ii, MM, on1, be1, ou1, y2, y3⟩ := x; intro hx hL16; dsimp only at hx hL16 ⊢
    obtain ⟨hi, hMM, hon1, hbe1, hou1⟩ := hx
    have hA := layC_pre hmo t.kidsT ii N0 (by omega)
    refine srg fun N h17 => ?_
    refine st0 (hop_lss rfl rfl) rfl rfl ?_
    refine snl h17 ?_
    refine hw_seq (fun Nh18 h18 => ?_)
    refine hw_cond _ rfl (fun hc3 => ?_) (fun hc3 => ?_)
    · have hr3 := hc3; (try simp only [hcs, Int.reduceToNat] at hc3)
      have him : ii < t.kidsT.length := (by have h := hr3; simp [hkid, hrl] at h; omega); have hka := kids_at' hat him; have hkt := at_top hka; have hks := (t.kidsT.getD ii default).size_pos; have hroot := roots_get t.kidsT b ii him; have hwt := wL_take t.kidsT ii him; have hwl := wL_le t.kidsT (ii + 1); have hxw : MM + (t.kidsT.getD ii default).w ≤ 256 := (by omega); have hly := lay_ok hmo (t.kidsT.getD ii default) MM hxw; have hlen1 : on1.length = MM := (by rw [hon1, List.length_append, hA.len, hon, hMM]); have hbok : ∀ q, (be1 q).ok := (by rw [hbe1]; exact links_ok hA.lk hβ); have hbz : ∀ q, MM ≤ q → q < 256 → be1 q = Bag.zero := (by rw [hbe1, hMM]; exact links_zero hA.lk (fun q hq hq2 => hz q (by omega) hq2)); have hou2 : ou1.ok := (by rw [hou1]; exact hA.pc); have hino : InB N0 (MM + (t.kidsT.getD ii default).w) ou1.ends := (by rw [hou1, hMM]; exact hA.inB.2.mono (Nat.le_refl _) (by omega)); have hsn := layC_snoc m (t.kidsT.take ii) N0 ⟨[], [], default⟩ (t.kidsT.getD ii default); rw [← take_snoc him] at hsn
      refine hw_skip ?_
      refine h18 _ ?_
      refine hw_seq (fun Nh19 h19 => ?_)
      refine hw_block ?_
      refine srg fun N h20 => ?_
      refine st0 (hop_ia_sl el_25 rfl rfl (by omega) (by omega) (nb rfl)) rfl rfl ?_
      refine st0 (HOp.val (v' := intV ((b + T.sizeL (t.kidsT.take ii) + (t.kidsT.getD ii default).size - 1 : Nat) : Int)) (hop_load_fp ty_3 rfl (nb rfl) (fun h => (by rfl))) (by exact kids_at (i := ii) (by omega) (by rw [hkid, hroot]; unfold T.root; omega))) rfl rfl ?_
      refine sta rfl rfl rfl ?_
      refine snl h20 ?_
      refine srg fun N h21 => ?_
      refine st1 (hol_load ty_36 rfl (nb rfl) (nb rfl) (fun h => (by rfl))) rfl rfl rfl ?_
      refine st1 (hol_load ty_24 rfl (nb rfl) (nb rfl) (fun h => (by rfl))) rfl rfl rfl ?_
      refine stm rfl rfl rfl ?_
      refine st1 (hol_load ty_35 rfl (nb rfl) (nb rfl) (fun h => (by rfl))) rfl rfl rfl ?_
      refine hf_callR 78 (xs := [_, _, _, _]) (pre := [(9001, _), (9002, _), (9003, _)]) (ih ii him _ g1 y2 y3 MM on1 be1 hlen1 hxw hbok hbz) ⟨rfl, ⟨rfl, ⟨rfl, ⟨rfl, trivial⟩⟩⟩⟩ (preC rfl (preC rfl (preC rfl pre0))) rfl rfl (fun x2 c2 hzz => ?_)
      obtain ⟨z2, z3⟩ := x2
      (try dsimp only)
      refine hm_1 14 (hop_alloc (id := 14) (sz := 9) zc_74 rfl rfl (nb rfl) (nb rfl)) rfl rfl pre0 rfl rfl (c' := c2 + 1) rfl ?_
      refine hm_s1 (hol_storeW ty_74 rfl rfl rfl rfl) rfl rfl (pre1 rfl) (c' := c2 + 2) rfl ?_
      refine snl h21 ?_
      refine hd_start ?_
      refine hd_q 79 (hop_fa fd_74_0 rfl) rfl rfl pre0 rfl rfl (k' := 1) rfl ?_
      refine hd_q 80 (hol_load ty_33 rfl (nb rfl) (nb rfl) (fun h => (by cases h))) rfl rfl (pre1 rfl) rfl rfl (k' := 2) rfl ?_
      refine hd_q 81 (hop_fa fd_74_0 rfl) rfl rfl pre0 rfl rfl (k' := 3) rfl ?_
      refine hd_q 82 (hol_load ty_33 rfl (nb rfl) (nb rfl) (fun h => (by cases h))) rfl rfl (pre1 rfl) rfl rfl (k' := 4) rfl ?_
      refine hd_q 83 (hop_call0 (xs := [_, _]) (or_h ou1.first (lay m (t.kidsT.getD ii default) MM).pc.first hou2.1 hly.pc.1) ⟨rfl, ⟨rfl, trivial⟩⟩ ⟨(fz_bg (by exact j4 rfl rfl rfl rfl)), ⟨(fz_bg (by exact j4 rfl rfl rfl rfl)), trivial⟩⟩) rfl rfl pre0 rfl rfl (k' := 5) rfl ?_
      refine hd_q 84 (hop_fa fd_74_1 rfl) rfl rfl pre0 rfl rfl (k' := 6) rfl ?_
      refine hd_q 85 (hol_load ty_33 rfl (nb rfl) (nb rfl) (fun h => (by cases h))) rfl rfl (pre1 rfl) rfl rfl (k' := 7) rfl ?_
      refine hd_q 86 (hop_fa fd_74_1 rfl) rfl rfl pre0 rfl rfl (k' := 8) rfl ?_
      refine hd_q 87 (hol_load ty_33 rfl (nb rfl) (nb rfl) (fun h => (by cases h))) rfl rfl (pre1 rfl) rfl rfl (k' := 9) rfl ?_
      refine hd_q 88 (hop_call0 (xs := [_, _]) (or_h ou1.ends (lay m (t.kidsT.getD ii default) MM).pc.ends hou2.2 hly.pc.2) ⟨rfl, ⟨rfl, trivial⟩⟩ ⟨(fz_bg (by exact j4 rfl rfl rfl rfl)), ⟨(fz_bg (by exact j4 rfl rfl rfl rfl)), trivial⟩⟩) rfl rfl pre0 rfl rfl (k' := 10) rfl ?_
      refine hd_q 89 (hop_fa fd_74_2 rfl) rfl rfl pre0 rfl rfl (k' := 11) rfl ?_
      refine hd_q 90 (hol_load ty_4 rfl (nb rfl) (nb rfl) (fun h => (by rfl))) rfl rfl (pre1 rfl) rfl rfl (k' := 12) rfl ?_
      refine hd_q 91 (hop_move rfl) rfl rfl pre0 rfl rfl (k' := 13) rfl ?_
      refine hd_g 92 12 91 false _ (fun hb => hop_fa fd_74_2 rfl) rfl rfl rfl rfl pre0 rfl rfl rfl (k' := 14) rfl ?_
      refine hd_g 93 12 91 false _ (fun hb => hol_load ty_4 rfl (nb rfl) (nb rfl) (fun h => (by rfl))) rfl rfl rfl rfl (pre1 rfl) rfl rfl rfl (k' := 15) rfl ?_
      refine hd_p 94 (hstep_or _ _ rfl rfl rfl) rfl rfl rfl (k' := 16) rfl ?_
      refine hd_q 95 (hop_build (hs := [(0, 4, _), (4, 4, _), (8, 1, _)]) st_74 rfl rfl ⟨rfl, rfl, rfl, rfl, rfl, ⟨rfl, rfl, rfl, rfl, rfl, ⟨rfl, rfl, rfl, rfl, rfl, trivial⟩⟩⟩) rfl rfl pre0 rfl rfl (k' := 17) rfl ?_
      refine hd_s1 (hol_storeW ty_74 rfl rfl rfl rfl) rfl rfl (pre1 rfl) (k' := 18) rfl ?_
      refine hd_nil (by kernel_rfl) (by kernel_rfl) (c' := c2 + 20) rfl ?_
      refine hq_block ?_
      refine h19 _ ?_
      refine hw_region ?_
      refine st0 (hop_addi rfl rfl rfl (by omega) (by omega)) rfl rfl ?_
      refine stm rfl rfl rfl ?_
      refine hseq_nil ?_
      exact hL16 ((ii + 1, MM + (t.kidsT.getD ii default).w, on1 ++ (lay m (t.kidsT.getD ii default) MM).on, links be1 (lay m (t.kidsT.getD ii default) MM).lk, ⟨bun ou1.first (lay m (t.kidsT.getD ii default) MM).pc.first, bun ou1.ends (lay m (t.kidsT.getD ii default) MM).pc.ends, ou1.empty || (lay m (t.kidsT.getD ii default) MM).pc.empty⟩, z2, z3)) _ _ (by (try dsimp only); exact ⟨by omega, by rw [hMM, hwt, Nat.add_assoc], by rw [hsn, ← hMM, hon1]; simp only [stC, List.append_assoc], by rw [hsn, ← hMM, hbe1]; simp only [stC]; rw [links_app], by rw [hsn, ← hMM, hou1]; rfl⟩) (by (try dsimp only); omega) (hsub_of rfl (Nat.le_refl _) (TmSub.cons rfl (Sb.refl _) (TmSub.cons rfl (Sb.refl _) (TmSub.cons rfl (Sb.refl _) (TmSub.cons rfl (Sb.refl _) (TmSub.cons rfl (Sb.refl _) (TmSub.cons rfl (Sb.refl _) (TmSub.cons rfl (Sb.refl _) (TmSub.cons rfl (Sb.refl _) TmSub.nil)))))))) (HpSub.cons rfl (OSub.refl _) (HpSub.cons rfl (OSub.refl _) (HpSub.cons rfl (OSub.refl _) (HpSub.cons rfl (OSub.refl _) (HpSub.cons rfl (OSub.refl _) (HpSub.cons rfl (OSub.refl _) (HpSub.cons rfl (OSub.refl _) (HpSub.cons rfl (osub_pc (by exact j9 rfl rfl rfl rfl rfl rfl rfl rfl rfl)) HpSub.nil)))))))))
    have hr3 := hc3; (try simp only [hcs, Int.reduceToNat] at hc3)
    have hit : ii = t.kidsT.length := (by have h := hr3; simp [hkid, hrl] at h; omega); rw [hit, List.take_length] at hA hMM hon1 hbe1 hou1
    refine hw_exit ?_
    refine hq_then_exit ?_
    refine hq_then_exit ?_
    refine hq_block_here ?_
    refine h14 _ ?_
    refine srg fun N h22 => ?_
    refine st1 (hol_load ty_74 rfl (nb rfl) (nb rfl) (fun h => (by cases h))) rfl rfl rfl ?_
    refine hm_s1 (hol_storeW ty_74 rfl rfl rfl rfl) rfl rfl (pre1 rfl) (c' := c + 1) rfl ?_
    refine snl h22 ?_
    refine hw_ret ?_
    refine hq_block_ret ?_
    refine hq_then_ret ?_
    refine hf_retR1 ok hX RetS.one rfl (rvl_cell rfl rfl ty_74 (fun h => by first | rfl | cases h) rfl rfl) [] rfl pre0 ((y2, y3)) (trivial) (by rfl) (by rfl) ((by rw [hll, ← hou1]; exact kz_pc (by exact j9 rfl rfl rfl rfl rfl rfl rfl rfl rfl))) ?_
    exact ⟨⟨_, rfl, (by rw [hwm, ← hMM]; exact okz_net rfl rfl rfl rfl)⟩, ⟨⟨_, rfl, (by rw [hwm, ← hMM, hll, ← hon1]; exact okz_row (fun _ _ => rfl))⟩, ⟨⟨_, rfl, (by rw [hwm, ← hMM, hll, ← hbe1]; exact okz_row (fun _ _ => rfl))⟩, trivial⟩⟩⟩
  have hr2 := hc2; (try simp only [hcs, Int.reduceToNat] at hc2)
  let k1 := c + 6; have hwm := w_many (t := t) (by rw [← hpk]; exact hc0) (by rw [← hpk]; exact hc1); have hll : lay m t N0 = layR m t.kidsT N0 ⟨[], [], Pc.nil⟩ := (by obtain ⟨k, ts, hts, hk3⟩ := w_row (by rw [← hpk]; exact hc0) (by rw [← hpk]; exact hc1) (by rw [← hpk]; exact hc2) hok; rw [hts]; simp [lay, hk3, T.kidsT])
  refine hw_skip ?_
  refine hq_block ?_
  refine h3 _ ?_
  refine srg fun N h23 => ?_
  refine st0 (hop_build (hs := [(8, 1, _)]) st_74 rfl rfl ⟨rfl, rfl, rfl, rfl, rfl, trivial⟩) rfl rfl ?_
  refine hm_1 15 (hop_alloc (id := 15) (sz := 9) zc_74 rfl rfl (nb rfl) (nb rfl)) rfl rfl pre0 rfl rfl (c' := c + 7) rfl ?_
  refine hm_s1 (hol_storeW ty_74 rfl rfl rfl rfl) rfl rfl (pre1 rfl) (c' := c + 8) rfl ?_
  refine snl h23 ?_
  refine hw_seq (fun Nh24 h24 => ?_)
  refine srg fun N h25 => ?_
  refine st0 (hop_fa fd_29_4 rfl) rfl rfl ?_
  refine st1 (hol_load ty_25 rfl (nb rfl) (nb rfl) (fun h => (by rfl))) rfl rfl rfl ?_
  refine st0 (hop_len_sl (T := 25) rfl (elOf_spec el_25).1 rfl) rfl rfl ?_
  refine stm rfl rfl rfl ?_
  refine snl h25 ?_
  refine hw_block ?_
  refine hw_loopc (α := Nat × Nat × List Bag × (Nat → Bag) × Pc × Nat × Nat) (fun x c => ⟨116, [(4, .v (.pt 9011 k0 0 0)), (5, .v (.pt 5 (k0 + 1) 0 0)), (7, .v (.pt 7 (k0 + 2) 0 0)), (8, .v (.pt 8 (k0 + 3) 0 0)), (15, .v (.pt 15 k1 0 0)), (100, .v (kidsV p.kids)), (101, .v (intV p.kids.length)), (102, .v (intV (x.1 : Int)))], [(9001, netO g1 (.os 9002 x.2.2.2.2.2.1 0 x.2.1) (.os 9003 x.2.2.2.2.2.2 0 x.2.1)), (9002, rowO x.2.2.2.2.2.1 x.2.1 (onF x.2.2.1)), (9003, rowO x.2.2.2.2.2.2 x.2.1 x.2.2.2.1), (9011, nbO k0 g1), (5, ⟨k0 + 1, 1, 1, 24, 0, fun _ _ => ptsV e⟩), (7, ⟨k0 + 2, 1, 1, 35, 0, fun _ _ => (.fn (.func mf) mk mcaps)⟩), (8, pcO (k0 + 3) default), (15, pcO k1 x.2.2.2.2.1)], c⟩) (fun x => x.1 ≤ t.kidsT.length ∧ x.2.1 = N0 + T.wL (t.kidsT.take x.1) ∧ x.2.2.1 = on ++ (layR m (t.kidsT.take x.1) N0 ⟨[], [], Pc.nil⟩).on ∧ x.2.2.2.1 = links β (layR m (t.kidsT.take x.1) N0 ⟨[], [], Pc.nil⟩).lk ∧ x.2.2.2.2.1 = (layR m (t.kidsT.take x.1) N0 ⟨[], [], Pc.nil⟩).pc) (fun x => t.kidsT.length - x.1) ((0, N0, on, β, Pc.nil, g2, g3)) (by exact ⟨Nat.zero_le _, by simp [T.wL], by simp [layR], by simp [layR, links], by simp [layR]⟩) (hsub_of rfl (Nat.le_refl _) (TmSub.cons rfl (Sb.refl _) (TmSub.cons rfl (Sb.refl _) (TmSub.cons rfl (Sb.refl _) (TmSub.cons rfl (Sb.refl _) (TmSub.cons rfl (Sb.refl _) (TmSub.cons rfl (Sb.refl _) (TmSub.cons rfl (Sb.refl _) (TmSub.cons rfl (Sb.refl _) TmSub.nil)))))))) (HpSub.cons rfl (OSub.refl _) (HpSub.cons rfl (OSub.refl _) (HpSub.cons rfl (OSub.refl _) (HpSub.cons rfl (OSub.refl _) (HpSub.cons rfl (OSub.refl _) (HpSub.cons rfl (OSub.refl _) (HpSub.cons rfl (osub_pc (by exact j9 rfl rfl rfl rfl rfl rfl rfl rfl rfl)) (HpSub.cons rfl (osub_pc (by exact j9 rfl rfl rfl rfl rfl rfl rfl rfl rfl)) HpSub.nil))))))))) (fun x c hx NhL26 hL26 => ?_)
  revert hx hL26; obtain ⟨ii, MM, on1, be1, ou1, y2, y3⟩ := x; intro hx hL26; dsimp only at hx hL26 ⊢
  obtain ⟨hi, hMM, hon1, hbe1, hou1⟩ := hx
  have hA := layR_pre hmo t.kidsT ii N0 (by omega)
  refine srg fun N h27 => ?_
  refine st0 (hop_lss rfl rfl) rfl rfl ?_
  refine snl h27 ?_
  refine hw_seq (fun Nh28 h28 => ?_)
  refine hw_cond _ rfl (fun hc4 => ?_) (fun hc4 => ?_)
  · have hr4 := hc4; (try simp only [hcs, Int.reduceToNat] at hc4)
    have him : ii < t.kidsT.length := (by have h := hr4; simp [hkid, hrl] at h; omega); have hka := kids_at' hat him; have hkt := at_top hka; have hks := (t.kidsT.getD ii default).size_pos; have hroot := roots_get t.kidsT b ii him; have hwt := wL_take t.kidsT ii him; have hwl := wL_le t.kidsT (ii + 1); have hxw : MM + (t.kidsT.getD ii default).w ≤ 256 := (by omega); have hly := lay_ok hmo (t.kidsT.getD ii default) MM hxw; have hlen1 : on1.length = MM := (by rw [hon1, List.length_append, hA.len, hon, hMM]); have hbok : ∀ q, (be1 q).ok := (by rw [hbe1]; exact links_ok hA.lk hβ); have hbz : ∀ q, MM ≤ q → q < 256 → be1 q = Bag.zero := (by rw [hbe1, hMM]; exact links_zero hA.lk (fun q hq hq2 => hz q (by omega) hq2)); have hou2 : ou1.ok := (by rw [hou1]; exact hA.pc); have hino : InB N0 (MM + (t.kidsT.getD ii default).w) ou1.ends := (by rw [hou1, hMM]; exact hA.inB.2.mono (Nat.le_refl _) (by omega)); have hsn := layR_snoc m (t.kidsT.take ii) N0 ⟨[], [], Pc.nil⟩ (t.kidsT.getD ii default); rw [← take_snoc him] at hsn
    refine hw_skip ?_
    refine h28 _ ?_
    refine hw_seq (fun Nh29 h29 => ?_)
    refine hw_block ?_
    refine srg fun N h30 => ?_
    refine st0 (hop_ia_sl el_25 rfl rfl (by omega) (by omega) (nb rfl)) rfl rfl ?_
    refine st0 (HOp.val (v' := intV ((b + T.sizeL (t.kidsT.take ii) + (t.kidsT.getD ii default).size - 1 : Nat) : Int)) (hop_load_fp ty_3 rfl (nb rfl) (fun h => (by rfl))) (by exact kids_at (i := ii) (by omega) (by rw [hkid, hroot]; unfold T.root; omega))) rfl rfl ?_
    refine sta rfl rfl rfl ?_
    refine snl h30 ?_
    refine hd_start ?_
    refine hd_q 106 (hol_load ty_36 rfl (nb rfl) (nb rfl) (fun h => (by rfl))) rfl rfl (pre1 rfl) rfl rfl (k' := 1) rfl ?_
    refine hd_q 107 (hol_load ty_74 rfl (nb rfl) (nb rfl) (fun h => (by cases h))) rfl rfl (pre1 rfl) rfl rfl (k' := 2) rfl ?_
    refine hd_q 108 (hol_load ty_36 rfl (nb rfl) (nb rfl) (fun h => (by rfl))) rfl rfl (pre1 rfl) rfl rfl (k' := 3) rfl ?_
    refine hd_q 109 (hol_load ty_24 rfl (nb rfl) (nb rfl) (fun h => (by rfl))) rfl rfl (pre1 rfl) rfl rfl (k' := 4) rfl ?_
    refine hd_q 110 (hop_move rfl) rfl rfl pre0 rfl rfl (k' := 5) rfl ?_
    refine hd_q 111 (hol_load ty_35 rfl (nb rfl) (nb rfl) (fun h => (by rfl))) rfl rfl (pre1 rfl) rfl rfl (k' := 6) rfl ?_
    refine hd_m 112 (hop_net (xs := [_, _, _, _]) (fun c => ih ii him c g1 y2 y3 MM on1 be1 hlen1 hxw hbok hbz) (noClk_pc _) ⟨rfl, ⟨rfl, ⟨rfl, ⟨rfl, trivial⟩⟩⟩⟩) rfl rfl (preC rfl (preC rfl (preC rfl pre0))) rfl rfl (k' := 7) rfl ?_
    refine hd_m 113 (hop_funD (xs := [_, _, _]) (pre := [(9001, _), (9002, _), (9003, _)]) (join_h ou1 (lay m (t.kidsT.getD ii default) MM).pc hou2 hly.pc (MM + (t.kidsT.getD ii default).w) g1 _ _ _ _ (links_ok hly.lk hbok) hxw (inB_lt hino)) ((clk3 rfl)) ⟨rfl, ⟨rfl, ⟨rfl, trivial⟩⟩⟩) rfl rfl (preC rfl (preC rfl (preC rfl pre0))) rfl rfl (k' := 8) rfl ?_
    refine hd_s1 (hol_storeW ty_74 rfl rfl rfl rfl) rfl rfl (pre1 rfl) (k' := 9) rfl ?_
    refine hd_nil (by kernel_rfl) (by kernel_rfl) (c' := c + 9) rfl ?_
    refine hq_block ?_
    refine h29 _ ?_
    refine hw_region ?_
    refine st0 (hop_addi rfl rfl rfl (by omega) (by omega)) rfl rfl ?_
    refine stm rfl rfl rfl ?_
    refine hseq_nil ?_
    exact hL26 ((ii + 1, MM + (t.kidsT.getD ii default).w, on1 ++ (lay m (t.kidsT.getD ii default) MM).on, linkF (links be1 (lay m (t.kidsT.getD ii default) MM).lk) (ou1.ends, (lay m (t.kidsT.getD ii default) MM).pc.first), ou1.join (lay m (t.kidsT.getD ii default) MM).pc, c + 6, c + 6)) _ _ (by (try dsimp only); exact ⟨by omega, by rw [hMM, hwt, Nat.add_assoc], by rw [hsn, ← hMM, hon1]; simp only [stR, List.append_assoc], by rw [hsn, ← hMM, hbe1, hou1]; simp only [stR]; rw [links_app, links_app]; rfl, by rw [hsn, ← hMM, hou1]; rfl⟩) (by (try dsimp only); omega) (hsub_of rfl (Nat.le_refl _) (TmSub.cons rfl (Sb.refl _) (TmSub.cons rfl (Sb.refl _) (TmSub.cons rfl (Sb.refl _) (TmSub.cons rfl (Sb.refl _) (TmSub.cons rfl (Sb.refl _) (TmSub.cons rfl (Sb.refl _) (TmSub.cons rfl (Sb.refl _) (TmSub.cons rfl (Sb.refl _) TmSub.nil)))))))) (HpSub.cons rfl (OSub.refl _) (HpSub.cons rfl (OSub.refl _) (HpSub.cons rfl (OSub.refl _) (HpSub.cons rfl (OSub.refl _) (HpSub.cons rfl (OSub.refl _) (HpSub.cons rfl (OSub.refl _) (HpSub.cons rfl (OSub.refl _) (HpSub.cons rfl (osub_pc (by exact j9 rfl rfl rfl rfl rfl rfl rfl rfl rfl)) HpSub.nil)))))))))
  have hr4 := hc4; (try simp only [hcs, Int.reduceToNat] at hc4)
  have hit : ii = t.kidsT.length := (by have h := hr4; simp [hkid, hrl] at h; omega); rw [hit, List.take_length] at hA hMM hon1 hbe1 hou1
  refine hw_exit ?_
  refine hq_then_exit ?_
  refine hq_then_exit ?_
  refine hq_block_here ?_
  refine h24 _ ?_
  refine srg fun N h31 => ?_
  refine st1 (hol_load ty_74 rfl (nb rfl) (nb rfl) (fun h => (by cases h))) rfl rfl rfl ?_
  refine hm_s1 (hol_storeW ty_74 rfl rfl rfl rfl) rfl rfl (pre1 rfl) (c' := c + 1) rfl ?_
  refine snl h31 ?_
  refine hw_ret ?_
  refine hf_retR1 ok hX RetS.one rfl (rvl_cell rfl rfl ty_74 (fun h => by first | rfl | cases h) rfl rfl) [] rfl pre0 ((y2, y3)) (trivial) (by rfl) (by rfl) ((by rw [hll, ← hou1]; exact kz_pc (by exact j9 rfl rfl rfl rfl rfl rfl rfl rfl rfl))) ?_
  exact ⟨⟨_, rfl, (by rw [hwm, ← hMM]; exact okz_net rfl rfl rfl rfl)⟩, ⟨⟨_, rfl, (by rw [hwm, ← hMM, hll, ← hon1]; exact okz_row (fun _ _ => rfl))⟩, ⟨⟨_, rfl, (by rw [hwm, ← hMM, hll, ← hbe1]; exact okz_row (fun _ _ => rfl))⟩, trivial⟩⟩⟩
end Go.Proofs.YtldjnmljnlhaaaaGreatDoor

namespace Go.Proofs.YtldjnmljnlhaaaaGreatDoor
set_option linter.unusedSimpArgs false
set_option linter.unusedVariables false
set_option maxRecDepth 100000
set_option maxHeartbeats 1000000
open Go.RowKit

theorem whole_h (e : List Pt) (he : PtB e) : ∀ f en, en < f → en < e.length → HPure Tryz.prog 39 [ptsV e, intV en] (intV (wholeN e f en))
  | 0, en, h, _ => absurd h (Nat.not_lt_zero _)
  | f + 1, en, h, hen => by
    have ih := fun k (hk : k < en) => whole_h e he f k (by omega) (by omega)
    have hkb := he.2 en hen
    have hel := he.1
    have hR := whole_le e f
    refine hpure_of Tryz.func39 rfl (by kernel_rfl) _ _ _ rfl 40 rfl rfl (fun w F => ?_)
    refine srg fun N h1 => ?_
    refine sta rfl rfl rfl ?_
    refine snl h1 ?_
    refine srg fun N h2 => ?_
    refine stm rfl rfl rfl ?_
    refine stm rfl rfl rfl ?_
    first
    | refine hq_ 10 (hop_ia_sl el_22 rfl rfl (by first | exact Nat.le_of_ble_eq_true rfl | omega | (dsimp only; omega) | (simp <;> omega)) (by first | exact Nat.le_of_ble_eq_true rfl | omega | (dsimp only; omega) | (simp <;> omega)) (by first | exact Nat.le_of_ble_eq_true rfl | omega | (dsimp only; omega) | (simp <;> omega))) rfl rfl pre0 rfl rfl ?_
    | refine hq_ 10 (hol_ia_os el_22 rfl rfl (by first | exact Nat.le_of_ble_eq_true rfl | omega | (dsimp only; omega) | (simp <;> omega)) (by first | exact Nat.le_of_ble_eq_true rfl | omega | (dsimp only; omega) | (simp <;> omega))) rfl rfl (pre1 rfl) rfl rfl ?_
    first
    | refine hq_ 11 (HOp.val (v' := ptH (e.getD en default)) (hol_load ty_27 rfl (by first | exact Nat.le_of_ble_eq_true rfl | omega | (dsimp only; omega) | (simp <;> omega)) (by first | exact Nat.le_of_ble_eq_true rfl | omega | (dsimp only; omega) | (simp <;> omega)) (fun h => (by first | rfl | cases h))) (rfl)) rfl rfl (pre1 rfl) rfl rfl ?_
    | refine hq_ 11 (HOp.val (v' := ptH (e.getD en default)) (hop_load_fp ty_27 rfl (by first | exact Nat.le_of_ble_eq_true rfl | omega | (dsimp only; omega) | (simp <;> omega)) (fun h => (by first | rfl | cases h))) (rfl)) rfl rfl pre0 rfl rfl ?_
    refine hm_1 5 (hop_alloc (id := 5) (sz := 5) zc_27 rfl rfl (by first | exact Nat.le_of_ble_eq_true rfl | omega | (dsimp only; omega) | (simp <;> omega)) (by first | exact Nat.le_of_ble_eq_true rfl | omega | (dsimp only; omega) | (simp <;> omega))) rfl rfl pre0 rfl rfl (c' := 1) rfl ?_
    first
    | refine hm_s1 (hol_storeW ty_27 rfl rfl rfl rfl) rfl rfl (pre1 rfl) (c' := 2) rfl ?_
    | refine hm_s1 (hol_store ty_27 rfl rfl rfl rfl (by first | exact Nat.le_of_ble_eq_true rfl | omega | (dsimp only; omega) | (simp <;> omega)) (by first | exact Nat.le_of_ble_eq_true rfl | omega | (dsimp only; omega) | (simp <;> omega)) (by first | exact Nat.le_of_ble_eq_true rfl | omega | (dsimp only; omega) | (simp <;> omega))) rfl rfl (pre1 rfl) (c' := 2) rfl ?_
    refine snl h2 ?_
    refine srg fun N h3 => ?_
    refine stm rfl rfl rfl ?_
    refine sta rfl rfl rfl ?_
    refine snl h3 ?_
    refine hw_seq (fun Nh4 h4 => ?_)
    refine srg fun N h5 => ?_
    first
    | refine hq_ 13 (hop_fa fd_27_4 rfl) rfl rfl pre0 rfl rfl ?_
    | refine hq_ 13 (hop_fa_fp fd_27_4 rfl (by first | exact Nat.le_of_ble_eq_true rfl | omega | (dsimp only; omega) | (simp <;> omega))) rfl rfl pre0 rfl rfl ?_
    first
    | refine hq_ 14 (HOp.val (v' := kidsV (e.getD en default).kids) (hol_load ty_25 rfl (by first | exact Nat.le_of_ble_eq_true rfl | omega | (dsimp only; omega) | (simp <;> omega)) (by first | exact Nat.le_of_ble_eq_true rfl | omega | (dsimp only; omega) | (simp <;> omega)) (fun h => (by first | rfl | cases h))) (rfl)) rfl rfl (pre1 rfl) rfl rfl ?_
    | refine hq_ 14 (HOp.val (v' := kidsV (e.getD en default).kids) (hop_load_fp ty_25 rfl (by first | exact Nat.le_of_ble_eq_true rfl | omega | (dsimp only; omega) | (simp <;> omega)) (fun h => (by first | rfl | cases h))) (rfl)) rfl rfl pre0 rfl rfl ?_
    first
    | refine hq_ 15 (hop_len_sl (T := 25) rfl (elOf_spec el_25).1 rfl) rfl rfl pre0 rfl rfl ?_
    | refine hq_ 15 (hop_len_os (T := 25) rfl (elOf_spec el_25).1 rfl) rfl rfl pre0 rfl rfl ?_
    | refine hq_ 15 (hop_len_nil (T := 25) rfl (elOf_spec el_25).1 rfl) rfl rfl pre0 rfl rfl ?_
    first
    | refine hq_ 16 (hop_subi rfl rfl rfl (by first | exact Nat.le_of_ble_eq_true rfl | omega | (dsimp only; omega) | (simp <;> omega)) (by first | exact Nat.le_of_ble_eq_true rfl | omega | (dsimp only; omega) | (simp <;> omega))) rfl rfl pre0 rfl rfl ?_
    | refine hq_ 16 (hop_sub rfl rfl) rfl rfl pre0 rfl rfl ?_
    refine sta rfl rfl rfl ?_
    refine snl h5 ?_
    refine hw_block ?_
    refine hw_loopc (α := Nat × Nat) (fun x c => ⟨40, [(0, .v (ptsV e)), (1, .v (intV en)), (5, .v (.pt 5 0 0 0)), (6, .v (intV x.2)), (7, .v (intV ((x.1 : Int) - 1)))], [(5, ⟨0, 1, 5, 27, 0, fun _ => ptF (e.getD en default)⟩)], c⟩) (fun x => x.1 ≤ (e.getD en default).kids.length ∧ x.2 ≤ en ∧ wloop (wholeN e f) (e.getD en default).kids x.1 x.2 = wholeN e (f + 1) en) (fun x => x.1) (((e.getD en default).kids.length, en)) (by exact ⟨Nat.le_refl _, Nat.le_refl _, rfl⟩) (hsub_of rfl (Nat.le_refl _) (TmSub.cons rfl (Sb.refl _) (TmSub.cons rfl (Sb.refl _) (TmSub.cons rfl (Sb.refl _) (TmSub.cons rfl (Sb.refl _) (TmSub.cons rfl (Sb.refl _) TmSub.nil))))) (HpSub.cons rfl (by exact osub5 (.refl _) (.refl _) (.refl _) (.refl _) (.refl _)) HpSub.nil)) (fun x c hx NhL6 hL6 => ?_)
    revert hx hL6; obtain ⟨n, at_⟩ := x; intro hx hL6; dsimp only at hx hL6 ⊢
    obtain ⟨hn, ha, hW⟩ := hx
    refine hw_seq (fun Nh7 h7 => ?_)
    refine srg fun N h8 => ?_
    refine stm rfl rfl rfl ?_
    refine st0 (hop_geq rfl rfl) rfl rfl ?_
    refine snl h8 ?_
    refine hw_cond _ rfl (fun hc0 => ?_) (fun hc0 => ?_)
    · have hr0 := hc0; (try simp only [hcs, Int.reduceToNat] at hc0)
      obtain ⟨m, rfl⟩ : ∃ m, n = m + 1 := ⟨n - 1, by omega⟩
      refine hw_skip ?_
      refine h7 _ ?_
      refine hw_seq (fun Nh9 h9 => ?_)
      refine hw_block ?_
      refine hw_seq (fun Nh10 h10 => ?_)
      refine srg fun N h11 => ?_
      refine stm rfl rfl rfl ?_
      refine st0 (hop_lss rfl rfl) rfl rfl ?_
      refine stm rfl rfl rfl ?_
      first
      | refine stg 23 (fun hb => hop_fa fd_27_4 rfl) rfl rfl rfl rfl rfl ?_
      | refine sth 23 (fun hb => hop_fa fd_27_4 rfl) rfl rfl rfl rfl rfl ?_
      | refine stg 23 (fun hb => hop_fa_fp fd_27_4 rfl (by first | exact Nat.le_of_ble_eq_true rfl | (simp at hb; first | omega | (dsimp only; omega) | (simp <;> omega)))) rfl rfl rfl rfl rfl ?_
      | refine sth 23 (fun hb => hop_fa_fp fd_27_4 rfl (by first | exact Nat.le_of_ble_eq_true rfl | (simp at hb; first | omega | (dsimp only; omega) | (simp <;> omega)))) rfl rfl rfl rfl rfl ?_
      first
      | refine hq_g 25 2 23 false _ (fun hb => HOp.val (v' := kidsV (e.getD en default).kids) (hol_load ty_25 rfl (by first | exact Nat.le_of_ble_eq_true rfl | (simp at hb; first | omega | (dsimp only; omega) | (simp <;> omega))) (by first | exact Nat.le_of_ble_eq_true rfl | (simp at hb; first | omega | (dsimp only; omega) | (simp <;> omega))) (fun h => (by first | rfl | cases h))) (rfl)) rfl rfl rfl rfl (pre1 rfl) rfl rfl rfl ?_
      | refine hq_g2 25 2 23 _ _ false _ (fun hb => HOp.val (v' := kidsV (e.getD en default).kids) (hol_load ty_25 rfl (by first | exact Nat.le_of_ble_eq_true rfl | (simp at hb; first | omega | (dsimp only; omega) | (simp <;> omega))) (by first | exact Nat.le_of_ble_eq_true rfl | (simp at hb; first | omega | (dsimp only; omega) | (simp <;> omega))) (fun h => (by first | rfl | cases h))) (rfl)) rfl rfl rfl rfl (pre1 rfl) rfl rfl rfl ?_
      | refine stg 23 (fun hb => HOp.val (v' := kidsV (e.getD en default).kids) (hop_load_fp ty_25 rfl (by first | exact Nat.le_of_ble_eq_true rfl | (simp at hb; first | omega | (dsimp only; omega) | (simp <;> omega))) (fun h => (by first | rfl | cases h))) (rfl)) rfl rfl rfl rfl rfl ?_
      | refine sth 23 (fun hb => HOp.val (v' := kidsV (e.getD en default).kids) (hop_load_fp ty_25 rfl (by first | exact Nat.le_of_ble_eq_true rfl | (simp at hb; first | omega | (dsimp only; omega) | (simp <;> omega))) (fun h => (by first | rfl | cases h))) (rfl)) rfl rfl rfl rfl rfl ?_
      first
      | refine stg 23 (fun hb => hop_move rfl) rfl rfl rfl rfl rfl ?_
      | refine sth 23 (fun hb => hop_move rfl) rfl rfl rfl rfl rfl ?_
      first
      | refine stg 23 (fun hb => hop_ia_sl el_25 rfl rfl (by first | exact Nat.le_of_ble_eq_true rfl | (simp at hb; first | omega | (dsimp only; omega) | (simp <;> omega))) (by first | exact Nat.le_of_ble_eq_true rfl | (simp at hb; first | omega | (dsimp only; omega) | (simp <;> omega))) (by first | exact Nat.le_of_ble_eq_true rfl | (simp at hb; first | omega | (dsimp only; omega) | (simp <;> omega)))) rfl rfl rfl rfl rfl ?_
      | refine sth 23 (fun hb => hop_ia_sl el_25 rfl rfl (by first | exact Nat.le_of_ble_eq_true rfl | (simp at hb; first | omega | (dsimp only; omega) | (simp <;> omega))) (by first | exact Nat.le_of_ble_eq_true rfl | (simp at hb; first | omega | (dsimp only; omega) | (simp <;> omega))) (by first | exact Nat.le_of_ble_eq_true rfl | (simp at hb; first | omega | (dsimp only; omega) | (simp <;> omega)))) rfl rfl rfl rfl rfl ?_
      | refine hq_g 27 2 23 false _ (fun hb => hol_ia_os el_25 rfl rfl (by first | exact Nat.le_of_ble_eq_true rfl | (simp at hb; first | omega | (dsimp only; omega) | (simp <;> omega))) (by first | exact Nat.le_of_ble_eq_true rfl | (simp at hb; first | omega | (dsimp only; omega) | (simp <;> omega)))) rfl rfl rfl rfl (pre1 rfl) rfl rfl rfl ?_
      | refine hq_g2 27 2 23 _ _ false _ (fun hb => hol_ia_os el_25 rfl rfl (by first | exact Nat.le_of_ble_eq_true rfl | (simp at hb; first | omega | (dsimp only; omega) | (simp <;> omega))) (by first | exact Nat.le_of_ble_eq_true rfl | (simp at hb; first | omega | (dsimp only; omega) | (simp <;> omega)))) rfl rfl rfl rfl (pre1 rfl) rfl rfl rfl ?_
      first
      | refine hq_g 28 2 23 false _ (fun hb => HOp.val (v' := intV ((e.getD en default).kids.getD m 0)) (hol_load ty_3 rfl (by first | exact Nat.le_of_ble_eq_true rfl | (simp at hb; first | omega | (dsimp only; omega) | (simp <;> omega))) (by first | exact Nat.le_of_ble_eq_true rfl | (simp at hb; first | omega | (dsimp only; omega) | (simp <;> omega))) (fun h => (by first | rfl | cases h))) (by exact kids_at (i := m) (by omega) rfl)) rfl rfl rfl rfl (pre1 rfl) rfl rfl rfl ?_
      | refine hq_g2 28 2 23 _ _ false _ (fun hb => HOp.val (v' := intV ((e.getD en default).kids.getD m 0)) (hol_load ty_3 rfl (by first | exact Nat.le_of_ble_eq_true rfl | (simp at hb; first | omega | (dsimp only; omega) | (simp <;> omega))) (by first | exact Nat.le_of_ble_eq_true rfl | (simp at hb; first | omega | (dsimp only; omega) | (simp <;> omega))) (fun h => (by first | rfl | cases h))) (by exact kids_at (i := m) (by omega) rfl)) rfl rfl rfl rfl (pre1 rfl) rfl rfl rfl ?_
      | refine stg 23 (fun hb => HOp.val (v' := intV ((e.getD en default).kids.getD m 0)) (hop_load_fp ty_3 rfl (by first | exact Nat.le_of_ble_eq_true rfl | (simp at hb; first | omega | (dsimp only; omega) | (simp <;> omega))) (fun h => (by first | rfl | cases h))) (by exact kids_at (i := m) (by omega) rfl)) rfl rfl rfl rfl rfl ?_
      | refine sth 23 (fun hb => HOp.val (v' := intV ((e.getD en default).kids.getD m 0)) (hop_load_fp ty_3 rfl (by first | exact Nat.le_of_ble_eq_true rfl | (simp at hb; first | omega | (dsimp only; omega) | (simp <;> omega))) (fun h => (by first | rfl | cases h))) (by exact kids_at (i := m) (by omega) rfl)) rfl rfl rfl rfl rfl ?_
      first
      | refine stg 23 (fun hb => hop_move rfl) rfl rfl rfl rfl rfl ?_
      | refine sth 23 (fun hb => hop_move rfl) rfl rfl rfl rfl rfl ?_
      first
      | refine stg 23 (fun hb => hop_subi rfl rfl rfl (by first | exact Nat.le_of_ble_eq_true rfl | (simp at hb; first | omega | (dsimp only; omega) | (simp <;> omega))) (by first | exact Nat.le_of_ble_eq_true rfl | (simp at hb; first | omega | (dsimp only; omega) | (simp <;> omega)))) rfl rfl rfl rfl rfl ?_
      | refine sth 23 (fun hb => hop_subi rfl rfl rfl (by first | exact Nat.le_of_ble_eq_true rfl | (simp at hb; first | omega | (dsimp only; omega) | (simp <;> omega))) (by first | exact Nat.le_of_ble_eq_true rfl | (simp at hb; first | omega | (dsimp only; omega) | (simp <;> omega)))) rfl rfl rfl rfl rfl ?_
      | refine stg 23 (fun hb => hop_sub rfl rfl) rfl rfl rfl rfl rfl ?_
      | refine sth 23 (fun hb => hop_sub rfl rfl) rfl rfl rfl rfl rfl ?_
      first
      | refine stg 23 (fun hb => hop_neq rfl rfl) rfl rfl rfl rfl rfl ?_
      | refine sth 23 (fun hb => hop_neq rfl rfl) rfl rfl rfl rfl rfl ?_
      first
      | refine hq_p 32 (hstep_and _ _ rfl rfl rfl) rfl rfl rfl ?_
      | refine hq_p 32 (hstep_or _ _ rfl rfl rfl) rfl rfl rfl ?_
      | refine hq_p 32 (hstep_ite _ _ _ rfl rfl rfl) rfl rfl rfl ?_
      | refine hq_p 32 (hstep_pick _ _ _ _ rfl rfl rfl (fun _ => .refl _) (fun _ => .refl _)) rfl rfl rfl ?_
      refine hseq_nilU (by rfl) (by simp only [dropUn, slots]; exact rfl) ?_
      refine h11 _ ?_
      refine hw_cond _ rfl (fun hc1 => ?_) (fun hc1 => ?_)
      · have hr1 := hc1; (try simp only [hcs, Int.reduceToNat] at hc1)
        have hc : at_ < 1 ∨ (e.getD en default).kids.getD m 0 ≠ (at_ : Int) - 1 := (by have h := hr1; simp at h; omega)
        refine srg fun N h12 => ?_
        refine sta rfl rfl rfl ?_
        refine snl h12 ?_
        refine hw_ret ?_
        refine hq_then_ret ?_
        refine hq_block_ret ?_
        refine hq_then_ret ?_
        refine hq_then_ret ?_
        refine hq_block_ret ?_
        refine hq_then_ret ?_
        refine hq_ret1 rfl (rval_tmp rfl) [] rfl pre0 ?_
        rw [← hW, wloop, if_pos hc]; exact .imm _
      have hr1 := hc1; (try simp only [hcs, Int.reduceToNat] at hc1)
      have hc : ¬ (at_ < 1 ∨ (e.getD en default).kids.getD m 0 ≠ (at_ : Int) - 1) := (by have h := hr1; simp at h; omega)
      refine hw_skip ?_
      refine h10 _ ?_
      refine srg fun N h13 => ?_
      refine stm rfl rfl rfl ?_
      refine stm rfl rfl rfl ?_
      first
      | refine hq_ 35 (HOp.val (v' := intV ((at_ - 1 : Nat) : Int)) (hop_subi rfl rfl rfl (by first | exact Nat.le_of_ble_eq_true rfl | omega | (dsimp only; omega) | (simp <;> omega)) (by first | exact Nat.le_of_ble_eq_true rfl | omega | (dsimp only; omega) | (simp <;> omega))) (congrArg intV (show (at_ : Int) - 1 = ((at_ - 1 : Nat) : Int) by omega))) rfl rfl pre0 rfl rfl ?_
      | refine hq_ 35 (HOp.val (v' := intV ((at_ - 1 : Nat) : Int)) (hop_sub rfl rfl) (congrArg intV (show (at_ : Int) - 1 = ((at_ - 1 : Nat) : Int) by omega))) rfl rfl pre0 rfl rfl ?_
      refine st0 (hop_call0 (xs := [_, _]) (ih (at_ - 1) (by omega)) ⟨rfl, ⟨rfl, trivial⟩⟩ ⟨(Fz.eq rfl), ⟨(Fz.eq rfl), trivial⟩⟩) rfl rfl ?_
      refine sta rfl rfl rfl ?_
      refine snl h13 ?_
      refine srg fun N h14 => ?_
      refine stm rfl rfl rfl ?_
      refine st0 (hop_lss rfl rfl) rfl rfl ?_
      refine snl h14 ?_
      refine hw_cond _ rfl (fun hc2 => ?_) (fun hc2 => ?_)
      · have hr2 := hc2; (try simp only [hcs, Int.reduceToNat] at hc2)
        refine srg fun N h15 => ?_
        refine sta rfl rfl rfl ?_
        refine snl h15 ?_
        refine hw_ret ?_
        refine hq_block_ret ?_
        refine hq_then_ret ?_
        refine hq_then_ret ?_
        refine hq_block_ret ?_
        refine hq_then_ret ?_
        refine hq_ret1 rfl (rval_tmp rfl) [] rfl pre0 ?_
        rw [← hW, wloop, if_neg hc, if_pos hc2]; exact .imm _
      have hr2 := hc2; (try simp only [hcs, Int.reduceToNat] at hc2)
      have hW2 := hW; rw [wloop, if_neg hc, if_neg (show ¬ wholeN e f (at_ - 1) < 0 by omega)] at hW2
      refine hw_skip ?_
      refine hq_block ?_
      refine h9 _ ?_
      refine hw_region ?_
      refine stm rfl rfl rfl ?_
      first
      | refine hq_ 20 (hop_subi rfl rfl rfl (by first | exact Nat.le_of_ble_eq_true rfl | omega | (dsimp only; omega) | (simp <;> omega)) (by first | exact Nat.le_of_ble_eq_true rfl | omega | (dsimp only; omega) | (simp <;> omega))) rfl rfl pre0 rfl rfl ?_
      | refine hq_ 20 (hop_sub rfl rfl) rfl rfl pre0 rfl rfl ?_
      refine sta rfl rfl rfl ?_
      refine hseq_nil ?_
      exact hL6 ((m, (wholeN e f (at_ - 1)).toNat)) _ _ (by (try dsimp only); exact ⟨by omega, by have := hR (at_ - 1); omega, by rw [← hW2]⟩) (by (try dsimp only); omega) (hsub_of rfl (Nat.le_refl _) (TmSub.cons rfl (Sb.refl _) (TmSub.cons rfl (Sb.refl _) (TmSub.cons rfl (Sb.refl _) (TmSub.cons rfl (by dsimp only; exact sb_int (by omega)) (TmSub.cons rfl (by dsimp only; exact sb_int (by omega)) TmSub.nil))))) (HpSub.cons rfl (OSub.refl _) HpSub.nil))
    have hr0 := hc0; (try simp only [hcs, Int.reduceToNat] at hc0)
    refine hw_exit ?_
    refine hq_then_exit ?_
    refine hq_then_exit ?_
    refine hq_block_here ?_
    refine h4 _ ?_
    refine srg fun N h16 => ?_
    refine stm rfl rfl rfl ?_
    refine sta rfl rfl rfl ?_
    refine snl h16 ?_
    refine hw_ret ?_
    refine hq_ret1 rfl (rval_tmp rfl) [] rfl pre0 ?_
    obtain rfl : n = 0 := (by omega); rw [← hW]; exact .imm _
end Go.Proofs.YtldjnmljnlhaaaaGreatDoor

namespace Go.Proofs.YtldjnmljnlhaaaaGreatDoor
set_option linter.unusedSimpArgs false
set_option linter.unusedVariables false
set_option maxRecDepth 100000
set_option maxHeartbeats 1000000
open Go.RowKit

theorem name_ref (s : List UInt8) (hs : s.length ≤ 1000000) : ∃ r : List Sg × Int × Int, HPure Tryz.prog 38 [strV s] (lexH r) ∧ r.1.length ≤ 200 ∧ nameV s = (decide (r.2.2 = 0) && decide (r.1.length = 1) && decide ((r.1.getD 0 default).kind = 1) && decide ((r.1.getD 0 default).name = s)) := by
  refine ⟨lexO (lexV s), refLex_h s (by omega), lexO_len s, ?_⟩
  unfold nameV
  cases hv : lexV s with
  | error e =>
    have h := lexV_err hv
    have h2 : ¬ (e.2 = 0) := h
    show false = (decide (e.2 = 0) && _ && _ && _)
    rw [decide_eq_false h2]; rfl
  | ok l =>
    match l with
    | [] => rfl
    | [x] => rfl
    | x :: y :: l => simp [lexO]
theorem cnt_eq (lo hi : Int) : (decide (1 ≤ hi) && decide (hi ≤ 20) && decide (lo ≤ hi)) = (decide ((if 1 > lo then 1 else lo) ≤ hi) && decide (hi ≤ 20)) := by
  rw [Bool.eq_iff_iff]
  simp only [Bool.and_eq_true, decide_eq_true_eq]
  split <;> constructor <;> intro h <;> omega
theorem ref_big {x : Pt} {r : List Sg × Int × Int} (hN : nameV x.name = (decide (r.2.2 = 0) && decide (r.1.length = 1) && decide ((r.1.getD 0 default).kind = 1) && decide ((r.1.getD 0 default).name = x.name))) :
    (x.kind == 1 && (x.kids.length : Int) == 0 && (x.low == 0 && x.high == 0) && (r.2.2 == 0 && (r.1.length : Int) == 1 && (r.1.getD 0 default).kind == 1 && decide ((r.1.getD 0 default).name = x.name)) ||
      (x.kind == 2 || x.kind == 3) && decide (2 ≤ (x.kids.length : Int)) && (x.low == 0 && x.high == 0) && decide (x.name = []) ||
      x.kind == 4 && (x.kids.length : Int) == 1 && (decide (0 ≤ x.low) && decide (x.low ≤ 20) && (x.high == -1 || decide (1 ≤ x.high) && decide (x.high ≤ 20) && decide (x.low ≤ x.high))) && decide (x.name = [])) = aloneV x := by
  have h2l : decide (2 ≤ (x.kids.length : Int)) = decide (1 < x.kids.length) := decide_eq_decide.2 (by omega)
  simp only [beq_d, int_0, int_1]
  rw [← hN, h2l, cnt_eq]
  unfold aloneV
  by_cases h1 : x.kind = 1
  · rw [if_pos h1, decide_eq_true h1, decide_eq_false (show ¬ x.kind = 2 by omega), decide_eq_false (show ¬ x.kind = 3 by omega), decide_eq_false (show ¬ x.kind = 4 by omega)]
    simp [Bool.and_assoc]
  · rw [if_neg h1, decide_eq_false h1]
    by_cases h2 : x.kind = 2 ∨ x.kind = 3
    · rw [if_pos h2, decide_eq_false (show ¬ x.kind = 4 by omega)]
      have : (decide (x.kind = 2) || decide (x.kind = 3)) = true := by simpa using h2
      rw [this]
      simp [Bool.and_assoc]
    · rw [if_neg h2]
      have : (decide (x.kind = 2) || decide (x.kind = 3)) = false := by
        rw [Bool.or_eq_false_iff]; exact ⟨decide_eq_false (by omega), decide_eq_false (by omega)⟩
      rw [this]
      by_cases h4 : x.kind = 4
      · rw [if_pos h4, decide_eq_true h4]; simp [Bool.and_assoc]
      · rw [if_neg h4, decide_eq_false h4]; simp
theorem fine_no {e : List Pt} {i : Nat} (hi : i < e.length) (h : aloneV (e.getD i default) = false) : refRightV e = false := by
  have : fineV e = false := by
    cases hf : fineV e with
    | false => rfl
    | true =>
      have := List.all_eq_true.1 hf _ (getD_mem' hi)
      rw [h] at this; cases this
  unfold refRightV; rw [this]; rfl
theorem fine_yes {e : List Pt} (h : ∀ j, j < e.length → aloneV (e.getD j default) = true) : fineV e = true := by
  rw [fineV, List.all_eq_true]
  intro x hx
  obtain ⟨i, hi, rfl⟩ := List.mem_iff_getElem.1 hx
  have := h i hi
  rwa [List.getD_eq_getElem?_getD, List.getElem?_eq_getElem hi] at this
theorem len_sub {n : Nat} (h : ((n : Int) == 0) = false) : (n : Int) - 1 = ((n - 1 : Nat) : Int) := by simp at h; omega
theorem len_lt {n : Nat} (h : ((n : Int) == 0) = false) : n - 1 < n := by simp at h; omega
theorem refRight_h (e : List Pt) (he : PtB e) : HPure Tryz.prog 10 [ptsV e] (boolV (refRightV e)) := by
  have hel := he.1
  refine hpure_of Tryz.func10 rfl (by kernel_rfl) _ _ _ rfl 161 rfl rfl (fun w F => ?_)
  refine srg fun N h1 => ?_
  refine sta rfl rfl rfl ?_
  refine snl h1 ?_
  refine hw_seq (fun Nh2 h2 => ?_)
  refine srg fun N h3 => ?_
  refine sta rfl rfl rfl ?_
  refine snl h3 ?_
  refine hw_block ?_
  refine hw_loopc (α := Nat) (fun x c => ⟨161, [(0, .v (ptsV e)), (3, .v (intV x))], [], c⟩) (fun x => x ≤ e.length ∧ ∀ j, j < x → aloneV (e.getD j default) = true) (fun x => e.length - x) (0) (by exact ⟨Nat.zero_le _, fun j hj => absurd hj (Nat.not_lt_zero _)⟩) (hsub_of rfl (Nat.le_refl _) (TmSub.cons rfl (Sb.refl _) (TmSub.cons rfl (Sb.refl _) TmSub.nil)) HpSub.nil) (fun i c hx NhL4 hL4 => ?_)
  (try dsimp only at hx hL4 ⊢)
  obtain ⟨hi, hE⟩ := hx
  refine hw_seq (fun Nh5 h5 => ?_)
  refine srg fun N h6 => ?_
  refine stm rfl rfl rfl ?_
  refine stm rfl rfl rfl ?_
  refine st0 (hop_len_sl (T := 22) rfl (elOf_spec el_22).1 rfl) rfl rfl ?_
  refine st0 (hop_lss rfl rfl) rfl rfl ?_
  refine snl h6 ?_
  refine hw_cond _ rfl (fun hc0 => ?_) (fun hc0 => ?_)
  · have hr0 := hc0; (try simp only [hcs, Int.reduceToNat] at hc0)
    have hil : i < e.length := (by omega); have hkb := he.2 i hil; obtain ⟨r, hlx, hrl, hN⟩ := name_ref (e.getD i default).name (by omega)
    refine hw_skip ?_
    refine h5 _ ?_
    refine hw_seq (fun Nh7 h7 => ?_)
    refine hw_block ?_
    refine srg fun N h8 => ?_
    refine stm rfl rfl rfl ?_
    refine stm rfl rfl rfl ?_
    refine st0 (hop_ia_sl el_22 rfl rfl (by omega) (by omega) (nb rfl)) rfl rfl ?_
    refine st0 (HOp.val (v' := ptH (e.getD i default)) (hop_load_fp ty_27 rfl (nb rfl) (fun h => (by cases h))) (rfl)) rfl rfl ?_
    refine hm_1 4 (hop_alloc (id := 4) (sz := 5) zc_27 rfl rfl (nb rfl) (nb rfl)) rfl rfl pre0 rfl rfl (c' := c + 1) rfl ?_
    refine hm_s1 (hol_storeW ty_27 rfl rfl rfl rfl) rfl rfl (pre1 rfl) (c' := c + 2) rfl ?_
    refine snl h8 ?_
    refine srg fun N h9 => ?_
    refine st0 (hop_fa fd_27_4 rfl) rfl rfl ?_
    refine st1 (HOp.val (v' := kidsV (e.getD i default).kids) (hol_load ty_25 rfl (nb rfl) (nb rfl) (fun h => (by rfl))) (rfl)) rfl rfl rfl ?_
    refine st0 (hop_len_sl (T := 25) rfl (elOf_spec el_25).1 rfl) rfl rfl ?_
    refine sta rfl rfl rfl ?_
    refine snl h9 ?_
    refine srg fun N h10 => ?_
    refine st0 (hop_fa fd_27_3 rfl) rfl rfl ?_
    refine st1 (HOp.val (v' := strV (e.getD i default).name) (hol_load ty_9 rfl (nb rfl) (nb rfl) (fun h => (by rfl))) (rfl)) rfl rfl rfl ?_
    refine st0 (hop_call0 (xs := [_]) (hlx) ⟨rfl, trivial⟩ ⟨(Fz.eq rfl), trivial⟩) rfl rfl ?_
    refine stm rfl rfl rfl ?_
    refine st0 (hop_extract rfl rfl) rfl rfl ?_
    refine st0 (hop_extract rfl rfl) rfl rfl ?_
    refine st0 (hop_extract rfl rfl) rfl rfl ?_
    refine sta rfl rfl rfl ?_
    refine sta rfl rfl rfl ?_
    refine sta rfl rfl rfl ?_
    refine snl h10 ?_
    refine hw_seq (fun Nh11 h11 => ?_)
    refine hd_start ?_
    refine hd_q 33 (hop_move rfl) rfl rfl pre0 rfl rfl (k' := 1) rfl ?_
    refine hd_q 34 (hop_eql rfl rfl) rfl rfl pre0 rfl rfl (k' := 2) rfl ?_
    refine hd_q 35 (hop_move rfl) rfl rfl pre0 rfl rfl (k' := 3) rfl ?_
    refine hd_g 36 2 35 true _ (fun hb => hop_move rfl) rfl rfl rfl rfl pre0 rfl rfl rfl (k' := 4) rfl ?_
    refine hd_g 37 2 35 true _ (fun hb => hop_len_sl (T := 76) rfl (elOf_spec el_76).1 rfl) rfl rfl rfl rfl pre0 rfl rfl rfl (k' := 5) rfl ?_
    refine hd_g 38 2 35 true _ (fun hb => hop_eql rfl rfl) rfl rfl rfl rfl pre0 rfl rfl rfl (k' := 6) rfl ?_
    refine hd_p 39 (hstep_and _ _ rfl rfl rfl) rfl rfl rfl (k' := 7) rfl ?_
    refine hd_q 40 (hop_move rfl) rfl rfl pre0 rfl rfl (k' := 8) rfl ?_
    refine hd_g 41 7 40 true _ (fun hb => hop_move rfl) rfl rfl rfl rfl pre0 rfl rfl rfl (k' := 9) rfl ?_
    refine hd_g 42 7 40 true _ (fun hb => hop_ia_sl el_76 rfl rfl (by (simp at hb; first | omega | (dsimp only; omega) | (simp <;> omega))) (by (simp at hb; first | omega | (dsimp only; omega) | (simp <;> omega))) (nb rfl)) rfl rfl rfl rfl pre0 rfl rfl rfl (k' := 10) rfl ?_
    refine hd_g 43 7 40 true _ (fun hb => hop_fa_fp fd_80_0 rfl (nb rfl)) rfl rfl rfl rfl pre0 rfl rfl rfl (k' := 11) rfl ?_
    refine hd_g 44 7 40 true _ (fun hb => HOp.val (v' := intV (r.1.getD 0 default).kind) (hop_load_fp ty_3 rfl (nb rfl) (fun h => (by rfl))) (rfl)) rfl rfl rfl rfl pre0 rfl rfl rfl (k' := 12) rfl ?_
    refine hd_g 45 7 40 true _ (fun hb => hop_eql rfl rfl) rfl rfl rfl rfl pre0 rfl rfl rfl (k' := 13) rfl ?_
    refine hd_p 46 (hstep_and _ _ rfl rfl rfl) rfl rfl rfl (k' := 14) rfl ?_
    refine hd_q 47 (hop_move rfl) rfl rfl pre0 rfl rfl (k' := 15) rfl ?_
    refine hd_g 48 14 47 true _ (fun hb => hop_move rfl) rfl rfl rfl rfl pre0 rfl rfl rfl (k' := 16) rfl ?_
    refine hd_g 49 14 47 true _ (fun hb => hop_ia_sl el_76 rfl rfl (by (simp at hb; first | omega | (dsimp only; omega) | (simp <;> omega))) (by (simp at hb; first | omega | (dsimp only; omega) | (simp <;> omega))) (nb rfl)) rfl rfl rfl rfl pre0 rfl rfl rfl (k' := 17) rfl ?_
    refine hd_g 50 14 47 true _ (fun hb => hop_fa_fp fd_80_4 rfl (nb rfl)) rfl rfl rfl rfl pre0 rfl rfl rfl (k' := 18) rfl ?_
    refine hd_g 51 14 47 true _ (fun hb => HOp.val (v' := strV (r.1.getD 0 default).name) (hop_load_fp ty_9 rfl (nb rfl) (fun h => (by rfl))) (rfl)) rfl rfl rfl rfl pre0 rfl rfl rfl (k' := 19) rfl ?_
    refine hd_g 52 14 47 true _ (fun hb => hop_fa fd_27_3 rfl) rfl rfl rfl rfl pre0 rfl rfl rfl (k' := 20) rfl ?_
    refine hd_g 53 14 47 true _ (fun hb => HOp.val (v' := strV (e.getD i default).name) (hol_load ty_9 rfl (nb rfl) (nb rfl) (fun h => (by rfl))) (rfl)) rfl rfl rfl rfl (pre1 rfl) rfl rfl rfl (k' := 21) rfl ?_
    refine hd_g 54 14 47 true _ (fun hb => hop_seq_l rfl rfl) rfl rfl rfl rfl pre0 rfl rfl rfl (k' := 22) rfl ?_
    refine hd_p 55 (hstep_and _ _ rfl rfl rfl) rfl rfl rfl (k' := 23) rfl ?_
    refine hd_q 9 (hop_assign rfl) rfl rfl pre0 rfl rfl (k' := 24) rfl ?_
    refine hd_nil (by kernel_rfl) (by kernel_rfl) (c' := c + 26) rfl ?_
    refine h11 _ ?_
    refine srg fun N h12 => ?_
    refine st0 (hop_fa fd_27_1 rfl) rfl rfl ?_
    refine st1 (HOp.val (v' := intV (e.getD i default).low) (hol_load ty_3 rfl (nb rfl) (nb rfl) (fun h => (by rfl))) (rfl)) rfl rfl rfl ?_
    refine st0 (hop_eql rfl rfl) rfl rfl ?_
    refine stm rfl rfl rfl ?_
    refine stg 59 (fun hb => hop_fa fd_27_2 rfl) rfl rfl rfl rfl rfl ?_
    refine hq_g 61 3 59 true _ (fun hb => HOp.val (v' := intV (e.getD i default).high) (hol_load ty_3 rfl (nb rfl) (nb rfl) (fun h => (by rfl))) (rfl)) rfl rfl rfl rfl (pre1 rfl) rfl rfl rfl ?_
    refine stg 59 (fun hb => hop_eql rfl rfl) rfl rfl rfl rfl rfl ?_
    refine hq_p 63 (hstep_and _ _ rfl rfl rfl) rfl rfl rfl ?_
    refine sta rfl rfl rfl ?_
    refine hseq_nilU (by rfl) (by simp only [dropUn, slots]; exact rfl) ?_
    refine h12 _ ?_
    refine srg fun N h13 => ?_
    refine st0 (hop_fa fd_27_0 rfl) rfl rfl ?_
    refine st1 (HOp.val (v' := intV (e.getD i default).kind) (hol_load ty_3 rfl (nb rfl) (nb rfl) (fun h => (by rfl))) (rfl)) rfl rfl rfl ?_
    refine st0 (hop_eql rfl rfl) rfl rfl ?_
    refine stm rfl rfl rfl ?_
    refine stg 67 (fun hb => hop_move rfl) rfl rfl rfl rfl rfl ?_
    refine stg 67 (fun hb => hop_eql rfl rfl) rfl rfl rfl rfl rfl ?_
    refine hq_p 70 (hstep_and _ _ rfl rfl rfl) rfl rfl rfl ?_
    refine stm rfl rfl rfl ?_
    refine stg 71 (fun hb => hop_move rfl) rfl rfl rfl rfl rfl ?_
    refine hq_p 73 (hstep_and _ _ rfl rfl rfl) rfl rfl rfl ?_
    refine stm rfl rfl rfl ?_
    refine stg 74 (fun hb => hop_move rfl) rfl rfl rfl rfl rfl ?_
    refine hq_p 76 (hstep_and _ _ rfl rfl rfl) rfl rfl rfl ?_
    refine sta rfl rfl rfl ?_
    refine hseq_nilU (by rfl) (by simp only [dropUn, slots]; exact rfl) ?_
    refine h13 _ ?_
    refine srg fun N h14 => ?_
    refine stm rfl rfl rfl ?_
    refine stm rfl rfl rfl ?_
    refine stg 78 (fun hb => hop_fa fd_27_0 rfl) rfl rfl rfl rfl rfl ?_
    refine hq_g 80 1 78 false _ (fun hb => HOp.val (v' := intV (e.getD i default).kind) (hol_load ty_3 rfl (nb rfl) (nb rfl) (fun h => (by rfl))) (rfl)) rfl rfl rfl rfl (pre1 rfl) rfl rfl rfl ?_
    refine stg 78 (fun hb => hop_eql rfl rfl) rfl rfl rfl rfl rfl ?_
    refine stg 78 (fun hb => hop_move rfl) rfl rfl rfl rfl rfl ?_
    refine hq_g3 83 5 82 78 false false _ _ (fun hb hb2 => hop_fa fd_27_0 rfl) rfl rfl rfl rfl rfl pre0 rfl rfl rfl ?_
    refine hq_g3 84 5 82 78 false false _ _ (fun hb hb2 => HOp.val (v' := intV (e.getD i default).kind) (hol_load ty_3 rfl (nb rfl) (nb rfl) (fun h => (by rfl))) (rfl)) rfl rfl rfl rfl rfl (pre1 rfl) rfl rfl rfl ?_
    refine hq_g3 85 5 82 78 false false _ _ (fun hb hb2 => hop_eql rfl rfl) rfl rfl rfl rfl rfl pre0 rfl rfl rfl ?_
    refine hq_pg 86 (hstep_org (gi := 1) (j := 78) _ _ rfl rfl rfl rfl) rfl rfl rfl rfl ?_
    refine stg 78 (fun hb => hop_move rfl) rfl rfl rfl rfl rfl ?_
    refine hq_g3 88 10 87 78 false true _ _ (fun hb hb2 => hop_move rfl) rfl rfl rfl rfl rfl pre0 rfl rfl rfl ?_
    refine hq_g3 89 10 87 78 false true _ _ (fun hb hb2 => hop_geq rfl rfl) rfl rfl rfl rfl rfl pre0 rfl rfl rfl ?_
    refine hq_pg 90 (hstep_andg (gi := 1) (j := 78) _ _ rfl rfl rfl rfl) rfl rfl rfl rfl ?_
    refine stg 78 (fun hb => hop_move rfl) rfl rfl rfl rfl rfl ?_
    refine hq_g3 92 14 91 78 false true _ _ (fun hb hb2 => hop_move rfl) rfl rfl rfl rfl rfl pre0 rfl rfl rfl ?_
    refine hq_pg 93 (hstep_andg (gi := 1) (j := 78) _ _ rfl rfl rfl rfl) rfl rfl rfl rfl ?_
    refine stg 78 (fun hb => hop_move rfl) rfl rfl rfl rfl rfl ?_
    refine hq_g3 95 17 94 78 false true _ _ (fun hb hb2 => hop_fa fd_27_3 rfl) rfl rfl rfl rfl rfl pre0 rfl rfl rfl ?_
    refine hq_g3 96 17 94 78 false true _ _ (fun hb hb2 => HOp.val (v' := strV (e.getD i default).name) (hol_load ty_9 rfl (nb rfl) (nb rfl) (fun h => (by rfl))) (rfl)) rfl rfl rfl rfl rfl (pre1 rfl) rfl rfl rfl ?_
    refine hq_g3 97 17 94 78 false true _ _ (fun hb hb2 => hop_seq_l rfl rfl) rfl rfl rfl rfl rfl pre0 rfl rfl rfl ?_
    refine hq_pg 98 (hstep_andg (gi := 1) (j := 78) _ _ rfl rfl rfl rfl) rfl rfl rfl rfl ?_
    refine hq_p 99 (hstep_or _ _ rfl rfl rfl) rfl rfl rfl ?_
    refine sta rfl rfl rfl ?_
    refine hseq_nilU (by rfl) (by simp only [dropUn, slots]; exact rfl) ?_
    refine h14 _ ?_
    refine srg fun N h15 => ?_
    refine st0 (hop_fa fd_27_1 rfl) rfl rfl ?_
    refine st1 (HOp.val (v' := intV (e.getD i default).low) (hol_load ty_3 rfl (nb rfl) (nb rfl) (fun h => (by rfl))) (rfl)) rfl rfl rfl ?_
    refine st0 (hop_geq rfl rfl) rfl rfl ?_
    refine stm rfl rfl rfl ?_
    refine stg 103 (fun hb => hop_fa fd_27_1 rfl) rfl rfl rfl rfl rfl ?_
    refine hq_g 105 3 103 true _ (fun hb => HOp.val (v' := intV (e.getD i default).low) (hol_load ty_3 rfl (nb rfl) (nb rfl) (fun h => (by rfl))) (rfl)) rfl rfl rfl rfl (pre1 rfl) rfl rfl rfl ?_
    refine stg 103 (fun hb => hop_leq rfl rfl) rfl rfl rfl rfl rfl ?_
    refine hq_p 107 (hstep_and _ _ rfl rfl rfl) rfl rfl rfl ?_
    refine stm rfl rfl rfl ?_
    refine stg 108 (fun hb => hop_fa fd_27_2 rfl) rfl rfl rfl rfl rfl ?_
    refine hq_g 110 8 108 true _ (fun hb => HOp.val (v' := intV (e.getD i default).high) (hol_load ty_3 rfl (nb rfl) (nb rfl) (fun h => (by rfl))) (rfl)) rfl rfl rfl rfl (pre1 rfl) rfl rfl rfl ?_
    refine stg 108 (fun hb => hop_eql rfl rfl) rfl rfl rfl rfl rfl ?_
    refine stg 108 (fun hb => hop_move rfl) rfl rfl rfl rfl rfl ?_
    refine hq_g3 113 12 112 108 true false _ _ (fun hb hb2 => hop_fa fd_27_2 rfl) rfl rfl rfl rfl rfl pre0 rfl rfl rfl ?_
    refine hq_g3 114 12 112 108 true false _ _ (fun hb hb2 => HOp.val (v' := intV (e.getD i default).high) (hol_load ty_3 rfl (nb rfl) (nb rfl) (fun h => (by rfl))) (rfl)) rfl rfl rfl rfl rfl (pre1 rfl) rfl rfl rfl ?_
    refine hq_g3 115 12 112 108 true false _ _ (fun hb hb2 => hop_geq rfl rfl) rfl rfl rfl rfl rfl pre0 rfl rfl rfl ?_
    refine hq_g3 116 12 112 108 true false _ _ (fun hb hb2 => hop_move rfl) rfl rfl rfl rfl rfl pre0 rfl rfl rfl ?_
    refine sth 116 (fun hb => hop_fa fd_27_2 rfl) rfl rfl rfl rfl rfl ?_
    refine hq_g2 118 16 116 _ _ true _ (fun hb => HOp.val (v' := intV (e.getD i default).high) (hol_load ty_3 rfl (nb rfl) (nb rfl) (fun h => (by rfl))) (rfl)) rfl rfl rfl rfl (pre1 rfl) rfl rfl rfl ?_
    refine sth 116 (fun hb => hop_leq rfl rfl) rfl rfl rfl rfl rfl ?_
    refine hq_pg 120 (hstep_andg (gi := 12) (j := 112) _ _ rfl rfl rfl rfl) rfl rfl rfl rfl ?_
    refine hq_g3 121 12 112 108 true false _ _ (fun hb hb2 => hop_move rfl) rfl rfl rfl rfl rfl pre0 rfl rfl rfl ?_
    refine sth 121 (fun hb => hop_fa fd_27_2 rfl) rfl rfl rfl rfl rfl ?_
    refine hq_g2 123 21 121 _ _ true _ (fun hb => HOp.val (v' := intV (e.getD i default).high) (hol_load ty_3 rfl (nb rfl) (nb rfl) (fun h => (by rfl))) (rfl)) rfl rfl rfl rfl (pre1 rfl) rfl rfl rfl ?_
    refine sth 121 (fun hb => hop_fa fd_27_1 rfl) rfl rfl rfl rfl rfl ?_
    refine hq_g2 125 21 121 _ _ true _ (fun hb => HOp.val (v' := intV (e.getD i default).low) (hol_load ty_3 rfl (nb rfl) (nb rfl) (fun h => (by rfl))) (rfl)) rfl rfl rfl rfl (pre1 rfl) rfl rfl rfl ?_
    refine sth 121 (fun hb => hop_geq rfl rfl) rfl rfl rfl rfl rfl ?_
    refine hq_pg 127 (hstep_andg (gi := 12) (j := 112) _ _ rfl rfl rfl rfl) rfl rfl rfl rfl ?_
    refine hq_pg 128 (hstep_org (gi := 8) (j := 108) _ _ rfl rfl rfl rfl) rfl rfl rfl rfl ?_
    refine hq_p 129 (hstep_and _ _ rfl rfl rfl) rfl rfl rfl ?_
    refine sta rfl rfl rfl ?_
    refine hseq_nilU (by rfl) (by simp only [dropUn, slots]; exact rfl) ?_
    refine h15 _ ?_
    refine srg fun N h16 => ?_
    refine stm rfl rfl rfl ?_
    refine stm rfl rfl rfl ?_
    refine stg 131 (fun hb => hop_fa fd_27_0 rfl) rfl rfl rfl rfl rfl ?_
    refine hq_g 133 1 131 false _ (fun hb => HOp.val (v' := intV (e.getD i default).kind) (hol_load ty_3 rfl (nb rfl) (nb rfl) (fun h => (by rfl))) (rfl)) rfl rfl rfl rfl (pre1 rfl) rfl rfl rfl ?_
    refine stg 131 (fun hb => hop_eql rfl rfl) rfl rfl rfl rfl rfl ?_
    refine stg 131 (fun hb => hop_move rfl) rfl rfl rfl rfl rfl ?_
    refine hq_g3 136 5 135 131 false true _ _ (fun hb hb2 => hop_move rfl) rfl rfl rfl rfl rfl pre0 rfl rfl rfl ?_
    refine hq_g3 137 5 135 131 false true _ _ (fun hb hb2 => hop_eql rfl rfl) rfl rfl rfl rfl rfl pre0 rfl rfl rfl ?_
    refine hq_pg 138 (hstep_andg (gi := 1) (j := 131) _ _ rfl rfl rfl rfl) rfl rfl rfl rfl ?_
    refine stg 131 (fun hb => hop_move rfl) rfl rfl rfl rfl rfl ?_
    refine hq_g3 140 9 139 131 false true _ _ (fun hb hb2 => hop_move rfl) rfl rfl rfl rfl rfl pre0 rfl rfl rfl ?_
    refine hq_pg 141 (hstep_andg (gi := 1) (j := 131) _ _ rfl rfl rfl rfl) rfl rfl rfl rfl ?_
    refine stg 131 (fun hb => hop_move rfl) rfl rfl rfl rfl rfl ?_
    refine hq_g3 143 12 142 131 false true _ _ (fun hb hb2 => hop_fa fd_27_3 rfl) rfl rfl rfl rfl rfl pre0 rfl rfl rfl ?_
    refine hq_g3 144 12 142 131 false true _ _ (fun hb hb2 => HOp.val (v' := strV (e.getD i default).name) (hol_load ty_9 rfl (nb rfl) (nb rfl) (fun h => (by rfl))) (rfl)) rfl rfl rfl rfl rfl (pre1 rfl) rfl rfl rfl ?_
    refine hq_g3 145 12 142 131 false true _ _ (fun hb hb2 => hop_seq_l rfl rfl) rfl rfl rfl rfl rfl pre0 rfl rfl rfl ?_
    refine hq_pg 146 (hstep_andg (gi := 1) (j := 131) _ _ rfl rfl rfl rfl) rfl rfl rfl rfl ?_
    refine hq_p 147 (hstep_or _ _ rfl rfl rfl) rfl rfl rfl ?_
    refine sta rfl rfl rfl ?_
    refine hseq_nilU (by rfl) (by simp only [dropUn, slots]; exact rfl) ?_
    refine h16 _ ?_
    refine srg fun N h17 => ?_
    refine stm rfl rfl rfl ?_
    refine st0 (hop_not rfl) rfl rfl ?_
    refine snl h17 ?_
    refine hw_cond _ rfl (fun hc1 => ?_) (fun hc1 => ?_)
    · have hr1 := hc1; (try simp only [hcs, Int.reduceToNat] at hc1)
      have hal := hr1; rw [ref_big hN] at hal
      refine srg fun N h18 => ?_
      refine sta rfl rfl rfl ?_
      refine snl h18 ?_
      refine hw_ret ?_
      refine hq_block_ret ?_
      refine hq_then_ret ?_
      refine hq_then_ret ?_
      refine hq_block_ret ?_
      refine hq_then_ret ?_
      refine hq_ret1 rfl (rval_tmp rfl) [] rfl pre0 ?_
      rw [fine_no hil (by simpa using hal)]; exact .imm _
    have hr1 := hc1; (try simp only [hcs, Int.reduceToNat] at hc1)
    have hal := hr1; rw [ref_big hN] at hal; simp only [hcs] at hal
    refine hw_skip ?_
    refine hq_block ?_
    refine h7 _ ?_
    refine hw_region ?_
    refine stm rfl rfl rfl ?_
    refine st0 (hop_addi rfl rfl rfl (by omega) (by omega)) rfl rfl ?_
    refine sta rfl rfl rfl ?_
    refine hseq_nil ?_
    exact hL4 (i + 1) _ _ (by (try dsimp only); exact ⟨by omega, fun j hj => by by_cases e' : j = i; (· subst e'; exact hal); exact hE j (by omega)⟩) (by (try dsimp only); omega) (hsub_of rfl (Nat.le_refl _) (TmSub.cons rfl (Sb.refl _) (TmSub.cons rfl (Sb.refl _) TmSub.nil)) HpSub.nil)
  have hr0 := hc0; (try simp only [hcs, Int.reduceToNat] at hc0)
  refine hw_exit ?_
  refine hq_then_exit ?_
  refine hq_then_exit ?_
  refine hq_block_here ?_
  refine h2 _ ?_
  refine hw_seq (fun Nh19 h19 => ?_)
  have hall := fine_yes (fun j hj => hE j (by omega))
  refine hw_region ?_
  refine stm rfl rfl rfl ?_
  refine st0 (hop_len_sl (T := 22) rfl (elOf_spec el_22).1 rfl) rfl rfl ?_
  refine st0 (hop_eql rfl rfl) rfl rfl ?_
  refine stm rfl rfl rfl ?_
  refine stg 153 (fun hb => hop_move rfl) rfl rfl rfl rfl rfl ?_
  refine stg 153 (fun hb => hop_move rfl) rfl rfl rfl rfl rfl ?_
  refine stg 153 (fun hb => hop_len_sl (T := 22) rfl (elOf_spec el_22).1 rfl) rfl rfl rfl rfl rfl ?_
  refine stg 153 (fun hb => HOp.val (v' := intV ((e.length - 1 : Nat) : Int)) (hop_subi rfl rfl rfl (by (simp at hb; first | omega | (dsimp only; omega) | (simp <;> omega))) (by (simp at hb; first | omega | (dsimp only; omega) | (simp <;> omega)))) (congrArg intV (len_sub hb))) rfl rfl rfl rfl rfl ?_
  refine stg 153 (fun hb => hop_call0 (xs := [_, _]) (whole_h e he e.length (e.length - 1) (len_lt hb) (len_lt hb)) ⟨rfl, ⟨rfl, trivial⟩⟩ ⟨(Fz.eq rfl), ⟨(Fz.eq rfl), trivial⟩⟩) rfl rfl rfl rfl rfl ?_
  refine stg 153 (fun hb => hop_eql rfl rfl) rfl rfl rfl rfl rfl ?_
  refine hq_p 160 (hstep_or _ _ rfl rfl rfl) rfl rfl rfl ?_
  refine sta rfl rfl rfl ?_
  refine hseq_nilU (by rfl) (by simp only [dropUn, slots]; exact rfl) ?_
  refine h19 _ ?_
  refine hw_ret ?_
  refine hq_ret1 rfl (rval_tmp rfl) [] rfl pre0 ?_
  exact fz_bool (by unfold refRightV; rw [hall]; simp only [beq_d, int_0, Bool.true_and])
end Go.Proofs.YtldjnmljnlhaaaaGreatDoor

namespace Go.Proofs.YtldjnmljnlhaaaaGreatDoor
set_option linter.unusedSimpArgs false
set_option linter.unusedVariables false
set_option maxRecDepth 100000
set_option maxHeartbeats 1000000
open Go.RowKit

end Go.Proofs.YtldjnmljnlhaaaaGreatDoor

namespace Go.Proofs.YtldjnmljnlhaaaaGreatDoor
set_option linter.unusedSimpArgs false
set_option linter.unusedVariables false
set_option maxRecDepth 100000
set_option maxHeartbeats 1000000
open Go.RowKit

instance frz_fn0 (f : Fn) (c : Nat → HV) : Frz (.fn f 0 c) := ⟨.fn _ 0 _ _ (fun i hi => absurd hi (Nat.not_lt_zero _))⟩
end Go.Proofs.YtldjnmljnlhaaaaGreatDoor

namespace Go.Proofs.YtldjnmljnlhaaaaGreatDoor
set_option linter.unusedSimpArgs false
set_option linter.unusedVariables false
set_option maxRecDepth 100000
open Go.RowKit

end Go.Proofs.YtldjnmljnlhaaaaGreatDoor

namespace Go.Proofs.YtldjnmljnlhaaaaGreatDoor
set_option linter.unusedSimpArgs false
set_option linter.unusedVariables false
set_option maxRecDepth 100000
set_option maxHeartbeats 1000000
open Go.RowKit

end Go.Proofs.YtldjnmljnlhaaaaGreatDoor

namespace Go.Proofs.YtldjnmljnlhaaaaGreatDoor
set_option linter.unusedSimpArgs false
set_option linter.unusedVariables false
set_option maxRecDepth 100000
set_option maxHeartbeats 1000000
open Go.RowKit

@[reducible] def nmsF (ls : List (List UInt8)) : Nat → Nat → HV := fun i _ => strV (ls.getD i [])
@[reducible] def nmsV (ls : List (List UInt8)) : HV := .sl 1 ls.length (nmsF ls)
@[reducible] def nmsO (g : Nat) (ls : List (List UInt8)) : HObj := ⟨g, ls.length, 1, 9, 0, nmsF ls⟩
@[reducible] def boxS (g g2 n : Nat) : HObj := ⟨g, 1, 1, 66, 0, fun _ _ => .os 8001 g2 0 n⟩
instance frz_nmsV (l : List (List UInt8)) : Frz (nmsV l) := ⟨.sl _ _ _ _ fun i j _ _ => .imm _⟩
theorem okz_nms {kp sh : List (Nat × HObj)} {g : Nat} {l : List (List UInt8)} : OKz kp sh (nmsO g l) (nmsO g l) := .of fun i j _ _ => .fz _ _ (.imm _)
/-- The first place of a text. -/
def idxS (l : List (List UInt8)) (s : List UInt8) : Int := if s ∈ l then (l.idxOf s : Int) else -1
theorem idx_of {l : List (List UInt8)} {s : List UInt8} {k : Nat} (hk : k < l.length) (h : l.getD k [] = s) (hn : ∀ i, i < k → l.getD i [] ≠ s) : idxS l s = (k : Int) := by
  have hk' : l[k] = s := by rwa [List.getD_eq_getElem?_getD, List.getElem?_eq_getElem hk] at h
  have hm : s ∈ l := by rw [← hk']; exact List.getElem_mem hk
  unfold idxS
  rw [if_pos hm]
  congr 1
  have hi := List.idxOf_lt_length_of_mem hm
  have hgi : l[l.idxOf s] = s := List.getElem_idxOf hi
  rcases Nat.lt_trichotomy (l.idxOf s) k with h1 | h1 | h1
  · exact absurd (by rw [List.getD_eq_getElem?_getD, List.getElem?_eq_getElem hi]; exact hgi) (hn _ h1)
  · exact h1
  · have := List.not_of_lt_findIdx (p := (· == s)) (xs := l) (i := k) h1
    simp [hk'] at this
theorem idx_no {l : List (List UInt8)} {s : List UInt8} (hn : ∀ i, i < l.length → l.getD i [] ≠ s) : idxS l s = -1 := by
  unfold idxS
  rw [if_neg]
  intro hm
  obtain ⟨i, hi, h⟩ := List.mem_iff_getElem.1 hm
  exact hn i hi (by rw [List.getD_eq_getElem?_getD, List.getElem?_eq_getElem hi]; exact h)
theorem idx_mem (l : List (List UInt8)) (s : List UInt8) : decide (0 ≤ idxS l s) = decide (s ∈ l) := by
  unfold idxS
  by_cases h : s ∈ l
  · rw [if_pos h, decide_eq_true h, decide_eq_true (by omega)]
  · rw [if_neg h, decide_eq_false h]; rfl
theorem index_h (g : Nat) (l : List (List UInt8)) (s : List UInt8) (hl : l.length ≤ 1000000) : HFunD Tryz.prog 89 [.os 8001 g 0 l.length, strV s] [(8001, nmsO g l)] (intV (idxS l s)) [(8001, nmsO g l)] := by
  intro c
  refine hfun_of Tryz.func89 rfl (by kernel_rfl) _ _ _ _ rfl 19 rfl rfl (fun X ok hX => ?_)
  refine srg fun N h1 => ?_
  refine sta rfl rfl rfl ?_
  refine snl h1 ?_
  refine hw_seq (fun Nh2 h2 => ?_)
  refine srg fun N h3 => ?_
  refine stm rfl rfl rfl ?_
  first
  | refine hq_ 7 (hop_len_sl (T := 66) rfl (elOf_spec el_66).1 rfl) rfl rfl pre0 rfl rfl ?_
  | refine hq_ 7 (hop_len_os (T := 66) rfl (elOf_spec el_66).1 rfl) rfl rfl pre0 rfl rfl ?_
  | refine hq_ 7 (hop_len_nil (T := 66) rfl (elOf_spec el_66).1 rfl) rfl rfl pre0 rfl rfl ?_
  refine stm rfl rfl rfl ?_
  refine snl h3 ?_
  refine hw_block ?_
  refine hw_loopc (α := Nat) (fun x c => ⟨19, [(0, .v (.os 8001 g 0 l.length)), (1, .v (strV s)), (7, .v (intV l.length)), (8, .v (intV x))], [(8001, nmsO g l)], c⟩) (fun x => x ≤ l.length ∧ ∀ i, i < x → l.getD i [] ≠ s) (fun x => l.length - x) (0) (by exact ⟨Nat.zero_le _, fun i h => absurd h (Nat.not_lt_zero _)⟩) (hsub_of rfl (Nat.le_refl _) (TmSub.cons rfl (Sb.refl _) (TmSub.cons rfl (Sb.refl _) (TmSub.cons rfl (Sb.refl _) (TmSub.cons rfl (Sb.refl _) TmSub.nil)))) (HpSub.cons rfl (OSub.refl _) HpSub.nil)) (fun k c hx NhL4 hL4 => ?_)
  (try dsimp only at hx hL4 ⊢)
  obtain ⟨hk, hE⟩ := hx
  refine srg fun N h5 => ?_
  refine st0 (hop_lss rfl rfl) rfl rfl ?_
  refine snl h5 ?_
  refine hw_seq (fun Nh6 h6 => ?_)
  refine hw_cond _ rfl (fun hc0 => ?_) (fun hc0 => ?_)
  · have hr0 := hc0; (try simp only [hcs, Int.reduceToNat] at hc0)
    refine hw_skip ?_
    refine h6 _ ?_
    refine hw_seq (fun Nh7 h7 => ?_)
    refine hw_block ?_
    refine srg fun N h8 => ?_
    refine stm rfl rfl rfl ?_
    refine sta rfl rfl rfl ?_
    refine snl h8 ?_
    refine srg fun N h9 => ?_
    refine stm rfl rfl rfl ?_
    refine stm rfl rfl rfl ?_
    refine stm rfl rfl rfl ?_
    first
    | refine hq_ 14 (hop_ia_sl el_66 rfl rfl (by first | exact Nat.le_of_ble_eq_true rfl | omega | (dsimp only; omega) | (simp <;> omega)) (by first | exact Nat.le_of_ble_eq_true rfl | omega | (dsimp only; omega) | (simp <;> omega)) (by first | exact Nat.le_of_ble_eq_true rfl | omega | (dsimp only; omega) | (simp <;> omega))) rfl rfl pre0 rfl rfl ?_
    | refine hq_ 14 (hol_ia_os el_66 rfl rfl (by first | exact Nat.le_of_ble_eq_true rfl | omega | (dsimp only; omega) | (simp <;> omega)) (by first | exact Nat.le_of_ble_eq_true rfl | omega | (dsimp only; omega) | (simp <;> omega))) rfl rfl (pre1 rfl) rfl rfl ?_
    first
    | refine hq_ 15 (HOp.val (v' := strV (l.getD k [])) (hol_load ty_9 rfl (by first | exact Nat.le_of_ble_eq_true rfl | omega | (dsimp only; omega) | (simp <;> omega)) (by first | exact Nat.le_of_ble_eq_true rfl | omega | (dsimp only; omega) | (simp <;> omega)) (fun h => (by first | rfl | cases h))) (by simp only [Nat.zero_add]; rfl)) rfl rfl (pre1 rfl) rfl rfl ?_
    | refine hq_ 15 (HOp.val (v' := strV (l.getD k [])) (hop_load_fp ty_9 rfl (by first | exact Nat.le_of_ble_eq_true rfl | omega | (dsimp only; omega) | (simp <;> omega)) (fun h => (by first | rfl | cases h))) (by simp only [Nat.zero_add]; rfl)) rfl rfl pre0 rfl rfl ?_
    refine st0 (hop_seq_l rfl rfl) rfl rfl ?_
    refine snl h9 ?_
    refine hw_cond _ rfl (fun hc1 => ?_) (fun hc1 => ?_)
    · have hr1 := hc1; (try simp only [hcs, Int.reduceToNat] at hc1)
      have hks : l.getD k [] = s := (by have h := hr1; simpa [eq_comm] using h)
      refine srg fun N h10 => ?_
      refine stm rfl rfl rfl ?_
      refine sta rfl rfl rfl ?_
      refine snl h10 ?_
      refine hw_ret ?_
      refine hq_block_ret ?_
      refine hq_then_ret ?_
      refine hq_then_ret ?_
      refine hq_block_ret ?_
      refine hq_then_ret ?_
      refine hf_retR1 ok hX RetS.one rfl (rval_tmp rfl) [] rfl pre0 (()) (trivial) (by rfl) (by rfl) (by rw [idx_of (by omega) hks hE]; exact (by first | exact .fz _ _ (.imm _) | exact .os _ _ _ _ _ rfl rfl | exact .pt _ _ _ _ _ rfl rfl | exact .nps _ _ _ rfl rfl | (dsimp only; exact .fz _ _ Frz.fz) | exact .fz _ _ (.tup 0 _ _ (fun i hi => absurd hi (Nat.not_lt_zero _))))) ?_
      exact ⟨⟨_, rfl, okz_nms⟩, trivial⟩
    have hr1 := hc1; (try simp only [hcs, Int.reduceToNat] at hc1)
    refine hw_skip ?_
    refine hq_block ?_
    refine h7 _ ?_
    refine hw_region ?_
    first
    | refine hq_ 18 (hop_addi rfl rfl rfl (by first | exact Nat.le_of_ble_eq_true rfl | omega | (dsimp only; omega) | (simp <;> omega)) (by first | exact Nat.le_of_ble_eq_true rfl | omega | (dsimp only; omega) | (simp <;> omega))) rfl rfl pre0 rfl rfl ?_
    | refine hq_ 18 (hop_add rfl rfl) rfl rfl pre0 rfl rfl ?_
    refine stm rfl rfl rfl ?_
    refine hseq_nil ?_
    exact hL4 (k + 1) _ _ (by (try dsimp only); exact ⟨by omega, fun i hi => by by_cases e : i = k; (· subst e; exact fun h => by rw [h] at hr1; simp at hr1); exact hE i (by omega)⟩) (by (try dsimp only); omega) (hsub_of rfl (Nat.le_refl _) (TmSub.cons rfl (Sb.refl _) (TmSub.cons rfl (Sb.refl _) (TmSub.cons rfl (Sb.refl _) (TmSub.cons rfl (Sb.refl _) TmSub.nil)))) (HpSub.cons rfl (OSub.refl _) HpSub.nil))
  have hr0 := hc0; (try simp only [hcs, Int.reduceToNat] at hc0)
  refine hw_exit ?_
  refine hq_then_exit ?_
  refine hq_then_exit ?_
  refine hq_block_here ?_
  refine h2 _ ?_
  refine srg fun N h11 => ?_
  refine sta rfl rfl rfl ?_
  refine snl h11 ?_
  refine hw_ret ?_
  refine hf_retR1 ok hX RetS.one rfl (rval_tmp rfl) [] rfl pre0 (()) (trivial) (by rfl) (by rfl) (by rw [idx_no (fun i hi => hE i (by omega))]; exact (by first | exact .fz _ _ (.imm _) | exact .os _ _ _ _ _ rfl rfl | exact .pt _ _ _ _ _ rfl rfl | exact .nps _ _ _ rfl rfl | (dsimp only; exact .fz _ _ Frz.fz) | exact .fz _ _ (.tup 0 _ _ (fun i hi => absurd hi (Nat.not_lt_zero _))))) ?_
  exact ⟨⟨_, rfl, okz_nms⟩, trivial⟩
theorem contains_h (g : Nat) (l : List (List UInt8)) (s : List UInt8) (hl : l.length ≤ 1000000) : HFunD Tryz.prog 65 [.os 8001 g 0 l.length, strV s] [(8001, nmsO g l)] (boolV (decide (s ∈ l))) [(8001, nmsO g l)] := by
  intro c
  refine hfun_of Tryz.func65 rfl (by kernel_rfl) _ _ _ _ rfl 9 rfl rfl (fun X ok hX => ?_)
  refine srg fun N h1 => ?_
  refine sta rfl rfl rfl ?_
  refine snl h1 ?_
  refine srg fun N h2 => ?_
  refine stm rfl rfl rfl ?_
  refine stm rfl rfl rfl ?_
  refine hf_callR 7 (xs := [_, _]) (pre := [(8001, _)]) (index_h g l s hl _) ⟨rfl, ⟨rfl, trivial⟩⟩ (preC rfl pre0) rfl rfl (fun u c1 hx1 => ?_)
  (try dsimp only)
  refine st0 (hop_geq rfl rfl) rfl rfl ?_
  refine sta rfl rfl rfl ?_
  refine snl h2 ?_
  refine hw_ret ?_
  refine hf_retR1 ok hX RetS.one rfl (rval_tmp rfl) [] rfl pre0 (()) (trivial) (by rfl) (by rfl) (by rw [← idx_mem]; exact (by first | exact .fz _ _ (.imm _) | exact .os _ _ _ _ _ rfl rfl | exact .pt _ _ _ _ _ rfl rfl | exact .nps _ _ _ rfl rfl | (dsimp only; exact .fz _ _ Frz.fz) | exact .fz _ _ (.tup 0 _ _ (fun i hi => absurd hi (Nat.not_lt_zero _))))) ?_
  exact ⟨⟨_, rfl, okz_nms⟩, trivial⟩
theorem okz_nmsn {kp sh : List (Nat × HObj)} {l o' : List (List UInt8)} {x : List UInt8} {g n ty : Nat} {f : Nat → Nat → HV} (ho : l ++ [x] = o') (hn : n = l.length := by rfl) (h0 : f 0 0 = strV x := by rfl) : OKz kp sh ⟨g, n + 1, 1, ty, 0, cat n (nmsF l) f⟩ ⟨g, o'.length, 1, ty, 0, nmsF o'⟩ := by
  subst hn; subst ho
  refine ⟨rfl, by simp, rfl, rfl, Nat.le_refl _, fun i j hi hj => .fz _ _ ?_, fun h => absurd h (Nat.not_lt_zero _)⟩
  show Fz sh (cat l.length (nmsF l) f i j) (strV ((l ++ [x]).getD i []))
  by_cases h' : i < l.length
  · rw [cat_lt h', getD_app h']; exact .imm _
  · have hi' : i = l.length := by simp only at hi; omega
    subst hi'
    obtain rfl : j = 0 := by simp only at hj; omega
    rw [cat_ge (Nat.le_refl _), Nat.sub_self, getD_snoc, h0]; exact .imm _
theorem add_h (c g g2 : Nat) (l : List (List UInt8)) (s : List UInt8) (hl : l.length ≤ 100000) : HFun Tryz.prog 64 c [strV s, .pt 8002 g 0 0] [(8002, boxS g g2 l.length), (8001, nmsO g2 l)]
    (RetP (fun (_ : Nat) _ => True) (fun _ => .tup 0 fun _ => default) (fun g' => [(8002, boxS g g' (if s ∈ l then l else l ++ [s]).length), (8001, nmsO g' (if s ∈ l then l else l ++ [s]))])) := by
  refine hfun_of Tryz.func64 rfl (by kernel_rfl) _ _ _ _ rfl 11 rfl rfl (fun X ok hX => ?_)
  refine srg fun N h1 => ?_
  first
  | refine hq_ 3 (hol_load ty_66 rfl (by first | exact Nat.le_of_ble_eq_true rfl | omega | (dsimp only; omega) | (simp <;> omega)) (by first | exact Nat.le_of_ble_eq_true rfl | omega | (dsimp only; omega) | (simp <;> omega)) (fun h => (by first | rfl | cases h))) rfl rfl (pre1 rfl) rfl rfl ?_
  | refine hq_ 3 (hop_load_fp ty_66 rfl (by first | exact Nat.le_of_ble_eq_true rfl | omega | (dsimp only; omega) | (simp <;> omega)) (fun h => (by first | rfl | cases h))) rfl rfl pre0 rfl rfl ?_
  refine stm rfl rfl rfl ?_
  refine hq_ 5 (hop_funR (xs := [_, _]) (pre := [(8001, _)]) (contains_h g2 l s (by omega)) ⟨rfl, ⟨rfl, trivial⟩⟩) rfl rfl (preC rfl pre0) rfl rfl ?_
  refine st0 (hop_not rfl) rfl rfl ?_
  refine snl h1 ?_
  refine hw_cond _ rfl (fun hc0 => ?_) (fun hc0 => ?_)
  · have hr0 := hc0; (try simp only [hcs, Int.reduceToNat] at hc0)
    have hns : ¬ s ∈ l := (by have h := hr0; simpa using h)
    refine hw_region ?_
    first
    | refine hq_ 7 (hol_load ty_66 rfl (by first | exact Nat.le_of_ble_eq_true rfl | omega | (dsimp only; omega) | (simp <;> omega)) (by first | exact Nat.le_of_ble_eq_true rfl | omega | (dsimp only; omega) | (simp <;> omega)) (fun h => (by first | rfl | cases h))) rfl rfl (pre1 rfl) rfl rfl ?_
    | refine hq_ 7 (hop_load_fp ty_66 rfl (by first | exact Nat.le_of_ble_eq_true rfl | omega | (dsimp only; omega) | (simp <;> omega)) (fun h => (by first | rfl | cases h))) rfl rfl pre0 rfl rfl ?_
    refine stm rfl rfl rfl ?_
    refine hm_1 9 (hop_buildSlice (id := 9) (hs := [_]) ei_66 (by first | exact Nat.le_of_ble_eq_true rfl | omega | (dsimp only; omega) | (simp <;> omega)) rfl (by first | exact Nat.le_of_ble_eq_true rfl | omega | (dsimp only; omega) | (simp <;> omega)) ⟨rfl, rfl, rfl, rfl, trivial⟩) rfl rfl pre0 rfl rfl (c' := c + 1) rfl ?_
    first
    | refine hm_1 10 (hol_append ei_66 (by first | exact Nat.le_of_ble_eq_true rfl | omega | (dsimp only; omega) | (simp <;> omega)) rfl (by first | exact Nat.le_of_ble_eq_true rfl | omega | (dsimp only; omega) | (simp <;> omega)) (by first | exact Nat.le_of_ble_eq_true rfl | omega | (dsimp only; omega) | (simp <;> omega)) (srl_os0 rfl (by first | exact Nat.le_of_ble_eq_true rfl | omega | (dsimp only; omega) | (simp <;> omega))) (by first | exact Nat.le_of_ble_eq_true rfl | omega | (dsimp only; omega) | (simp <;> omega)) rfl) rfl rfl (preC rfl (pre1 rfl)) rfl rfl (c' := c + 2) rfl ?_
    | refine hm_1 10 (hol_append ei_66 (by first | exact Nat.le_of_ble_eq_true rfl | omega | (dsimp only; omega) | (simp <;> omega)) rfl (by first | exact Nat.le_of_ble_eq_true rfl | omega | (dsimp only; omega) | (simp <;> omega)) (by first | exact Nat.le_of_ble_eq_true rfl | omega | (dsimp only; omega) | (simp <;> omega)) (srl_os rfl (by first | exact Nat.le_of_ble_eq_true rfl | omega | (dsimp only; omega) | (simp <;> omega))) (by first | exact Nat.le_of_ble_eq_true rfl | omega | (dsimp only; omega) | (simp <;> omega)) rfl) rfl rfl (preC rfl (pre1 rfl)) rfl rfl (c' := c + 2) rfl ?_
    | refine hm_1 10 (hol_append ei_66 (by first | exact Nat.le_of_ble_eq_true rfl | omega | (dsimp only; omega) | (simp <;> omega)) rfl (by first | exact Nat.le_of_ble_eq_true rfl | omega | (dsimp only; omega) | (simp <;> omega)) (by first | exact Nat.le_of_ble_eq_true rfl | omega | (dsimp only; omega) | (simp <;> omega)) (src_sl rfl) (by first | exact Nat.le_of_ble_eq_true rfl | omega | (dsimp only; omega) | (simp <;> omega)) rfl) rfl rfl (preC rfl pre0) rfl rfl (c' := c + 2) rfl ?_
    | refine hm_1 10 (hol_append ei_66 (by first | exact Nat.le_of_ble_eq_true rfl | omega | (dsimp only; omega) | (simp <;> omega)) rfl (by first | exact Nat.le_of_ble_eq_true rfl | omega | (dsimp only; omega) | (simp <;> omega)) (by first | exact Nat.le_of_ble_eq_true rfl | omega | (dsimp only; omega) | (simp <;> omega)) (src_nil 1 (fun _ _ => default) rfl) (by first | exact Nat.le_of_ble_eq_true rfl | omega | (dsimp only; omega) | (simp <;> omega)) rfl) rfl rfl (preC rfl pre0) rfl rfl (c' := c + 2) rfl ?_
    first
    | refine hm_s1 (hol_storeW ty_66 rfl rfl rfl rfl) rfl rfl (pre1 rfl) (c' := c + 3) rfl ?_
    | refine hm_s1 (hol_store ty_66 rfl rfl rfl rfl (by first | exact Nat.le_of_ble_eq_true rfl | omega | (dsimp only; omega) | (simp <;> omega)) (by first | exact Nat.le_of_ble_eq_true rfl | omega | (dsimp only; omega) | (simp <;> omega)) (by first | exact Nat.le_of_ble_eq_true rfl | omega | (dsimp only; omega) | (simp <;> omega))) rfl rfl (pre1 rfl) (c' := c + 3) rfl ?_
    refine hseq_nil ?_
    refine hq_fall ?_
    refine hf_retR0 ok hX RetS.one rfl  [] rfl pre0 ((c + 1)) (trivial) (by rfl) (by rfl) ((by first | exact .fz _ _ (.imm _) | exact .os _ _ _ _ _ rfl rfl | exact .pt _ _ _ _ _ rfl rfl | exact .nps _ _ _ rfl rfl | (dsimp only; exact .fz _ _ Frz.fz) | exact .fz _ _ (.tup 0 _ _ (fun i hi => absurd hi (Nat.not_lt_zero _))))) ?_
    exact ⟨⟨_, rfl, (by exact okz1 (kz_os rfl rfl (by rw [if_neg hns]; simp)))⟩, ⟨⟨_, rfl, (by exact okz_nmsn (x := s) (by rw [if_neg hns]))⟩, trivial⟩⟩
  have hr0 := hc0; (try simp only [hcs, Int.reduceToNat] at hc0)
  have hns : s ∈ l := (by have h := hr0; simpa using h)
  refine hw_skip ?_
  refine hq_fall ?_
  refine hf_retR0 ok hX RetS.one rfl  [] rfl pre0 (g2) (trivial) (by rfl) (by rfl) ((by first | exact .fz _ _ (.imm _) | exact .os _ _ _ _ _ rfl rfl | exact .pt _ _ _ _ _ rfl rfl | exact .nps _ _ _ rfl rfl | (dsimp only; exact .fz _ _ Frz.fz) | exact .fz _ _ (.tup 0 _ _ (fun i hi => absurd hi (Nat.not_lt_zero _))))) ?_
  exact ⟨⟨_, rfl, (by exact okz1 (kz_os rfl rfl (by rw [if_pos hns])))⟩, ⟨⟨_, rfl, (by rw [if_pos hns]; exact okz_nms)⟩, trivial⟩⟩
theorem names_take_add {e : List Pt} {i : Nat} (h : i < e.length) (hk : (e.getD i default).kind = 1) : namesV (e.take (i + 1)) = if (e.getD i default).name ∈ namesV (e.take i) then namesV (e.take i) else namesV (e.take i) ++ [(e.getD i default).name] := by
  rw [names_take h]
  unfold addN
  by_cases hm : (e.getD i default).name ∈ namesV (e.take i)
  · rw [if_neg (fun h => h.2 hm), if_pos hm]
  · rw [if_pos ⟨hk, hm⟩, if_neg hm]
theorem names_take_not {e : List Pt} {i : Nat} (h : i < e.length) (hk : ¬ (e.getD i default).kind = 1) : namesV (e.take (i + 1)) = namesV (e.take i) := by
  rw [names_take h]
  unfold addN
  rw [if_neg (fun h => hk h.1)]
theorem names_h (e : List Pt) (he : e.length ≤ 100000) : HPure Tryz.prog 34 [ptsV e] (nmsV (namesV e)) := by
  have hnl := fun i => names_len (e := e) i
  refine hpure_of Tryz.func34 rfl (by kernel_rfl) _ _ _ rfl 23 rfl rfl (fun w F => ?_)
  refine srg fun N h1 => ?_
  refine sta rfl rfl rfl ?_
  refine snl h1 ?_
  refine srg fun N h2 => ?_
  refine hm_1 3 (hop_alloc (id := 8002) (sz := 1) zc_66 rfl rfl (by decide) (by decide)) rfl rfl pre0 rfl rfl (c' := 1) rfl ?_
  refine snl h2 ?_
  refine hw_seq (fun Nh3 h3 => ?_)
  refine (hsub_ownc 8002 0 8001 1 9 (nmsF []) (fun _ _ => .os 8001 1 0 0) rfl rfl (fun j hj => .inl ⟨by omega, rfl⟩) (by decide) (by decide) (c' := 2) rfl).wp ?_
  refine hw_region ?_
  refine st0 (hop_makeFunc (hs := [_]) ⟨rfl, trivial⟩) rfl rfl ?_
  refine sta rfl rfl rfl ?_
  refine snl h3 ?_
  refine hw_seq (fun Nh4 h4 => ?_)
  refine srg fun N h5 => ?_
  refine stm rfl rfl rfl ?_
  first
  | refine hq_ 9 (hop_len_sl (T := 24) rfl (elOf_spec el_24).1 rfl) rfl rfl pre0 rfl rfl ?_
  | refine hq_ 9 (hop_len_os (T := 24) rfl (elOf_spec el_24).1 rfl) rfl rfl pre0 rfl rfl ?_
  | refine hq_ 9 (hop_len_nil (T := 24) rfl (elOf_spec el_24).1 rfl) rfl rfl pre0 rfl rfl ?_
  refine stm rfl rfl rfl ?_
  refine snl h5 ?_
  refine hw_block ?_
  refine hw_loopc (α := Nat × Nat) (fun x c => ⟨23, [(3, .v (.pt 8002 0 0 0)), (4, .v (.fn (.func 64) 1 (fun q => [HV.pt 8002 0 0 0].getD q default))), (8, .v (ptsV e)), (9, .v (intV e.length)), (10, .v (intV x.1))], [(8002, boxS 0 x.2 (namesV (e.take x.1)).length), (8001, nmsO x.2 (namesV (e.take x.1)))], c⟩) (fun x => x.1 ≤ e.length) (fun x => e.length - x.1) ((0, 1)) (by exact Nat.zero_le _) (hsub_of rfl (Nat.le_refl _) (TmSub.cons rfl (Sb.refl _) (TmSub.cons rfl (Sb.refl _) (TmSub.cons rfl (Sb.refl _) (TmSub.cons rfl (Sb.refl _) (TmSub.cons rfl (Sb.refl _) TmSub.nil))))) (HpSub.cons rfl (OSub.refl _) (HpSub.cons rfl (OSub.refl _) HpSub.nil))) (fun x c hx NhL6 hL6 => ?_)
  revert hx hL6; obtain ⟨i, g⟩ := x; intro hx hL6; dsimp only at hx hL6 ⊢
  refine srg fun N h7 => ?_
  refine st0 (hop_lss rfl rfl) rfl rfl ?_
  refine snl h7 ?_
  refine hw_seq (fun Nh8 h8 => ?_)
  refine hw_cond _ rfl (fun hc0 => ?_) (fun hc0 => ?_)
  · have hr0 := hc0; (try simp only [hcs, Int.reduceToNat] at hc0)
    have hil : i < e.length := (by omega); have hnli := hnl i
    refine hw_skip ?_
    refine h8 _ ?_
    refine hw_seq (fun Nh9 h9 => ?_)
    refine hw_block ?_
    refine srg fun N h10 => ?_
    first
    | refine hq_ 12 (hop_ia_sl el_24 rfl rfl (by first | exact Nat.le_of_ble_eq_true rfl | omega | (dsimp only; omega) | (simp <;> omega)) (by first | exact Nat.le_of_ble_eq_true rfl | omega | (dsimp only; omega) | (simp <;> omega)) (by first | exact Nat.le_of_ble_eq_true rfl | omega | (dsimp only; omega) | (simp <;> omega))) rfl rfl pre0 rfl rfl ?_
    | refine hq_ 12 (hol_ia_os el_24 rfl rfl (by first | exact Nat.le_of_ble_eq_true rfl | omega | (dsimp only; omega) | (simp <;> omega)) (by first | exact Nat.le_of_ble_eq_true rfl | omega | (dsimp only; omega) | (simp <;> omega))) rfl rfl (pre1 rfl) rfl rfl ?_
    first
    | refine hq_ 13 (hol_load ty_29 rfl (by first | exact Nat.le_of_ble_eq_true rfl | omega | (dsimp only; omega) | (simp <;> omega)) (by first | exact Nat.le_of_ble_eq_true rfl | omega | (dsimp only; omega) | (simp <;> omega)) (fun h => (by first | rfl | cases h))) rfl rfl (pre1 rfl) rfl rfl ?_
    | refine hq_ 13 (hop_load_fp ty_29 rfl (by first | exact Nat.le_of_ble_eq_true rfl | omega | (dsimp only; omega) | (simp <;> omega)) (fun h => (by first | rfl | cases h))) rfl rfl pre0 rfl rfl ?_
    refine hm_1 6 (hop_alloc (id := 6) (sz := 5) zc_29 rfl rfl (by first | exact Nat.le_of_ble_eq_true rfl | omega | (dsimp only; omega) | (simp <;> omega)) (by first | exact Nat.le_of_ble_eq_true rfl | omega | (dsimp only; omega) | (simp <;> omega))) rfl rfl pre0 rfl rfl (c' := c + 1) rfl ?_
    first
    | refine hm_s1 (hol_storeW ty_29 rfl rfl rfl rfl) rfl rfl (pre1 rfl) (c' := c + 2) rfl ?_
    | refine hm_s1 (hol_store ty_29 rfl rfl rfl rfl (by first | exact Nat.le_of_ble_eq_true rfl | omega | (dsimp only; omega) | (simp <;> omega)) (by first | exact Nat.le_of_ble_eq_true rfl | omega | (dsimp only; omega) | (simp <;> omega)) (by first | exact Nat.le_of_ble_eq_true rfl | omega | (dsimp only; omega) | (simp <;> omega))) rfl rfl (pre1 rfl) (c' := c + 2) rfl ?_
    refine snl h10 ?_
    refine srg fun N h11 => ?_
    first
    | refine hq_ 14 (hop_fa fd_29_0 rfl) rfl rfl pre0 rfl rfl ?_
    | refine hq_ 14 (hop_fa_fp fd_29_0 rfl (by first | exact Nat.le_of_ble_eq_true rfl | omega | (dsimp only; omega) | (simp <;> omega))) rfl rfl pre0 rfl rfl ?_
    first
    | refine hq_ 15 (HOp.val (v' := intV (e.getD i default).kind) (hol_load ty_3 rfl (by first | exact Nat.le_of_ble_eq_true rfl | omega | (dsimp only; omega) | (simp <;> omega)) (by first | exact Nat.le_of_ble_eq_true rfl | omega | (dsimp only; omega) | (simp <;> omega)) (fun h => (by first | rfl | cases h))) (rfl)) rfl rfl (pre1 rfl) rfl rfl ?_
    | refine hq_ 15 (HOp.val (v' := intV (e.getD i default).kind) (hop_load_fp ty_3 rfl (by first | exact Nat.le_of_ble_eq_true rfl | omega | (dsimp only; omega) | (simp <;> omega)) (fun h => (by first | rfl | cases h))) (rfl)) rfl rfl pre0 rfl rfl ?_
    refine st0 (hop_eql rfl rfl) rfl rfl ?_
    refine snl h11 ?_
    refine hw_cond _ rfl (fun hc1 => ?_) (fun hc1 => ?_)
    · have hr1 := hc1; (try simp only [hcs, Int.reduceToNat] at hc1)
      refine hw_region ?_
      refine stm rfl rfl rfl ?_
      first
      | refine hq_ 18 (hop_fa fd_29_3 rfl) rfl rfl pre0 rfl rfl ?_
      | refine hq_ 18 (hop_fa_fp fd_29_3 rfl (by first | exact Nat.le_of_ble_eq_true rfl | omega | (dsimp only; omega) | (simp <;> omega))) rfl rfl pre0 rfl rfl ?_
      first
      | refine hq_ 19 (HOp.val (v' := strV (e.getD i default).name) (hol_load ty_9 rfl (by first | exact Nat.le_of_ble_eq_true rfl | omega | (dsimp only; omega) | (simp <;> omega)) (by first | exact Nat.le_of_ble_eq_true rfl | omega | (dsimp only; omega) | (simp <;> omega)) (fun h => (by first | rfl | cases h))) (rfl)) rfl rfl (pre1 rfl) rfl rfl ?_
      | refine hq_ 19 (HOp.val (v' := strV (e.getD i default).name) (hop_load_fp ty_9 rfl (by first | exact Nat.le_of_ble_eq_true rfl | omega | (dsimp only; omega) | (simp <;> omega)) (fun h => (by first | rfl | cases h))) (rfl)) rfl rfl pre0 rfl rfl ?_
      refine hf_callVR 20 (xs := [_]) (cs := [_]) (pre := [(8002, _), (8001, _)]) (add_h _ 0 g (namesV (e.take i)) (e.getD i default).name (by omega)) rfl rfl (fun i hi => by first | rfl | (rcases i with _ | i <;> first | rfl | (exact absurd hi (by omega)) | (simp at hi))) ⟨rfl, trivial⟩ (preC rfl (preC rfl pre0)) rfl rfl (fun g3 c1 hx1 => ?_)
      (try dsimp only)
      refine hseq_nil ?_
      refine hq_block ?_
      refine h9 _ ?_
      refine hw_region ?_
      first
      | refine hq_ 21 (hop_addi rfl rfl rfl (by first | exact Nat.le_of_ble_eq_true rfl | omega | (dsimp only; omega) | (simp <;> omega)) (by first | exact Nat.le_of_ble_eq_true rfl | omega | (dsimp only; omega) | (simp <;> omega))) rfl rfl pre0 rfl rfl ?_
      | refine hq_ 21 (hop_add rfl rfl) rfl rfl pre0 rfl rfl ?_
      refine stm rfl rfl rfl ?_
      refine hseq_nil ?_
      exact hL6 ((i + 1, g3)) _ _ (by (try dsimp only); omega) (by (try dsimp only); omega) (hsub_of rfl (Nat.le_refl _) (TmSub.cons rfl (Sb.refl _) (TmSub.cons rfl (Sb.refl _) (TmSub.cons rfl (Sb.refl _) (TmSub.cons rfl (Sb.refl _) (TmSub.cons rfl (Sb.refl _) TmSub.nil))))) (HpSub.cons rfl (by dsimp only; rw [names_take_add hil hc1]; exact .refl _) (HpSub.cons rfl (by dsimp only; rw [names_take_add hil hc1]; exact .refl _) HpSub.nil)))
    have hr1 := hc1; (try simp only [hcs, Int.reduceToNat] at hc1)
    refine hw_skip ?_
    refine hq_block ?_
    refine h9 _ ?_
    refine hw_region ?_
    first
    | refine hq_ 21 (hop_addi rfl rfl rfl (by first | exact Nat.le_of_ble_eq_true rfl | omega | (dsimp only; omega) | (simp <;> omega)) (by first | exact Nat.le_of_ble_eq_true rfl | omega | (dsimp only; omega) | (simp <;> omega))) rfl rfl pre0 rfl rfl ?_
    | refine hq_ 21 (hop_add rfl rfl) rfl rfl pre0 rfl rfl ?_
    refine stm rfl rfl rfl ?_
    refine hseq_nil ?_
    exact hL6 ((i + 1, g)) _ _ (by (try dsimp only); omega) (by (try dsimp only); omega) (hsub_of rfl (Nat.le_refl _) (TmSub.cons rfl (Sb.refl _) (TmSub.cons rfl (Sb.refl _) (TmSub.cons rfl (Sb.refl _) (TmSub.cons rfl (Sb.refl _) (TmSub.cons rfl (Sb.refl _) TmSub.nil))))) (HpSub.cons rfl (by dsimp only; rw [names_take_not hil hc1]; exact .refl _) (HpSub.cons rfl (by dsimp only; rw [names_take_not hil hc1]; exact .refl _) HpSub.nil)))
  have hr0 := hc0; (try simp only [hcs, Int.reduceToNat] at hc0)
  refine hw_exit ?_
  refine hq_then_exit ?_
  refine hq_then_exit ?_
  refine hq_block_here ?_
  refine h4 _ ?_
  refine hw_seq (fun Nh12 h12 => ?_)
  obtain rfl : i = e.length := (by omega)
  refine hw_region ?_
  first
  | refine hq_ 22 (hol_load ty_66 rfl (by first | exact Nat.le_of_ble_eq_true rfl | omega | (dsimp only; omega) | (simp <;> omega)) (by first | exact Nat.le_of_ble_eq_true rfl | omega | (dsimp only; omega) | (simp <;> omega)) (fun h => (by first | rfl | cases h))) rfl rfl (pre1 rfl) rfl rfl ?_
  | refine hq_ 22 (hop_load_fp ty_66 rfl (by first | exact Nat.le_of_ble_eq_true rfl | omega | (dsimp only; omega) | (simp <;> omega)) (fun h => (by first | rfl | cases h))) rfl rfl pre0 rfl rfl ?_
  refine sta rfl rfl rfl ?_
  refine snl h12 ?_
  refine hw_ret ?_
  refine hq_ret1 rfl (rval_tmp rfl) [(8001, _)] rfl (preC rfl pre0) ?_
  rw [List.take_length]; exact fz_row (l := namesV e) (enc := fun x _ => strV x) (d := []) (List.mem_cons_self ..) rfl rfl (Nat.le_refl _) (fun i j _ _ => .imm _)
end Go.Proofs.YtldjnmljnlhaaaaGreatDoor

namespace Go.Proofs.YtldjnmljnlhaaaaGreatDoor
set_option linter.unusedSimpArgs false
set_option linter.unusedVariables false
set_option maxRecDepth 100000
set_option maxHeartbeats 1000000
open Go.RowKit
/-- What a closure means. -/
structure MeanOk (mf : FuncId) (mk : Nat) (mcaps : Nat → HV) (mcs : List HV) (m : List UInt8 → Bag) : Prop where
  len : mcs.length = mk
  cap : ∀ i, i < mk → mcs[i]? = some (mcaps i)
  fz : FzAll [] mcs mcs
  ff : ∀ sh, Fz sh (.fn (.func mf) mk mcaps) (.fn (.func mf) mk mcaps)
  h : ∀ s, nameV s = true → HPure Tryz.prog mf ([strV s] ++ mcs) (bagH (m s))
  ok : ∀ s, (m s).ok
section
variable {mf : FuncId} {mk : Nat} {mcaps : Nat → HV} {mcs : List HV} {m : List UInt8 → Bag}
mutual
theorem layN_h (M : MeanOk mf mk mcaps mcs m) (e : List Pt) (he : e.length ≤ 100000) : ∀ (t : T) (b : Nat), t.ok = true → AtP e b (T.flat b t) → LayN (.fn (.func mf) mk mcaps) m e b t
  | .name s, b, hok, hat => lay_one mf mk mcaps mcs M.len M.cap M.fz M.ff m M.h M.ok e he b (.name s) hok hat (Nat.zero_le _) (fun i hi => absurd hi (Nat.not_lt_zero _))
  | .times lo hi t, b, hok, hat => by
    have hok' : t.ok = true := by simp only [T.ok, Bool.and_eq_true] at hok; exact hok.2
    refine lay_one mf mk mcaps mcs M.len M.cap M.fz M.ff m M.h M.ok e he b (.times lo hi t) hok hat (by simp [T.kidsT]) (fun i hi => ?_)
    obtain rfl : i = 0 := by simpa [T.kidsT] using hi
    have := layN_h M e he t b hok' (by simp only [T.flat] at hat; exact atP_left hat)
    simpa [T.kidsT, T.sizeL] using this
  | .many k ts, b, hok, hat => by
    have hok' : T.okL ts = true := by simp only [T.ok, Bool.and_eq_true] at hok; exact hok.2
    have hkl : (T.many k ts).kidsT.length ≤ 100000 := by
      have := kids_few2 (t := .many k ts); have := (at_top hat).2; omega
    exact lay_one mf mk mcaps mcs M.len M.cap M.fz M.ff m M.h M.ok e he b (.many k ts) hok hat hkl (fun i hi => layNL_h M e he ts hok' i hi _ (kids_at' hat hi))
theorem layNL_h (M : MeanOk mf mk mcaps mcs m) (e : List Pt) (he : e.length ≤ 100000) : ∀ ts : List T, T.okL ts = true → ∀ i, i < ts.length → ∀ b, AtP e b (T.flat b (ts.getD i default)) → LayN (.fn (.func mf) mk mcaps) m e b (ts.getD i default)
  | [], _, i, hi => absurd hi (Nat.not_lt_zero _)
  | t :: ts, hok, i, hi => fun b hat => by
    simp only [T.okL, Bool.and_eq_true] at hok
    cases i with
    | zero => exact layN_h M e he t b hok.1 hat
    | succ i => exact layNL_h M e he ts hok.2 i (by simpa using hi) b (by simpa using hat)
end
end
end Go.Proofs.YtldjnmljnlhaaaaGreatDoor

namespace Go.Proofs.YtldjnmljnlhaaaaGreatDoor
set_option linter.unusedSimpArgs false
set_option linter.unusedVariables false
set_option maxRecDepth 100000
set_option maxHeartbeats 1000000
open Go.RowKit
deriving instance DecidableEq for Bag
theorem run_eqarr (w : World) (a0 a1 a2 a3 b0 b1 b2 b3 : Nat) (d : Nat) : (Op.equalIn (d + 2) 31 (.agg #[.int .u64 a0, .int .u64 a1, .int .u64 a2, .int .u64 a3]) (.agg #[.int .u64 b0, .int .u64 b1, .int .u64 b2, .int .u64 b3])).run Tryz.prog w = .ok (decide (a0 = b0 ∧ a1 = b1 ∧ a2 = b2 ∧ a3 = b3)) w := by
  unfold Op.equalIn
  simp only [Sem.run_bind, run_underlying Tryz.underlying31, Result.andThen_ok]
  simp [List.range', part, go_sem]
  simp only [Int.natCast_inj]
  by_cases h0 : a0 = b0 <;> by_cases h1 : a1 = b1 <;> by_cases h2 : a2 = b2 <;> by_cases h3 : a3 = b3 <;> simp [h0, h1, h2, h3]
theorem run_eqbag (w : World) (s t : Bag) (d : Nat) : (Op.equalIn (d + 3) 33 (.agg s.cells.toArray) (.agg t.cells.toArray)).run Tryz.prog w = .ok (decide (s = t)) w := by
  simp [Bag.cells, go_sem]
  rw [run_eqarr]
  simp only [Result.andThen_ok]
  cases s; cases t
  simp only [Bag.mk.injEq]
  split <;> simp_all
theorem bag_inv4 {w : World} {E : Env} {v : Value} {x : Bag} {f : Nat → HV} (hf : ∀ j, j < 4 → f j = bagF x j) (h : Rep w E v (.agg 4 f)) : v = .agg x.cells.toArray := by
  refine bag_inv (w := w) (E := E) ?_
  cases h with
  | agg cs _ _ vs hn hv h => exact .agg cs 4 _ vs hn hv (fun i hi => by rw [← hf i hi]; exact h i hi)
section
variable {ov : Nat → Option HV} {g : Nat} {d : Option Tmp} {ty : TypeId} {pos : String} {af : Array Edge} {gd : Option (Nat × Bool)} {T yT : TypeId} {x y : Operand}
theorem hop_eql_bag (s t : Bag) {f1 f2 : Nat → HV} (hT : T = 33) (h1 : ovl ov x = some (.agg 4 f1)) (h2 : ovl ov y = some (.agg 4 f2)) (hf1 : ∀ j, j < 4 → f1 j = bagF s j) (hf2 : ∀ j, j < 4 → f2 j = bagF t j) :
    HOp Tryz.prog ⟨d, .binOp .eql T x y yT, ty, pos, af, gd⟩ ov g [] (.imm (.bool (decide (s = t)))) [] :=
  hop_pure fun w E ρ hr => by
    have hG : Tryz.prog.eqGuardType Tryz.prog.depth 33 = false := by kernel_rfl
    subst hT
    have e1 := bag_inv4 hf1 (hr x _ (by simp [Op.operands]) h1)
    have e2 := bag_inv4 hf2 (hr y _ (by simp [Op.operands]) h2)
    refine ⟨_, ?_, .imm _⟩
    have hg : (eqGuard .eql 33 x y (.agg s.cells.toArray) (.agg t.cells.toArray)).run Tryz.prog w = .ok () w := by
      simp [eqGuard, program, Sem.run, hG, Sem.run_bind]
    have hT : (binOp .eql 33 (.agg s.cells.toArray) (.agg t.cells.toArray)).run Tryz.prog w = .ok (.bool (decide (s = t))) w := by
      simp only [run_eql_struct, run_eqbag w s t 9997, Result.andThen_ok]
    simp only [execOp, e1, e2, Sem.run_bind, hg, Result.andThen_ok, hT, Sem.run_pure]
end
section
variable {mf : FuncId} {mk : Nat} {mcaps : Nat → HV} {mcs : List HV} {m : List UInt8 → Bag}
theorem new1_h (M : MeanOk mf mk mcaps mcs m) (s : List UInt8) (hs : nameV s = true) : HPure Tryz.prog 35 ([strV s] ++ [.fp 1 (fun _ => .fn (.func mf) mk mcaps)]) (boolV (decide (m s = Bag.zero))) := by
  show HPure _ _ [strV s, .fp 1 (fun _ => .fn (.func mf) mk mcaps)] _
  refine hpure_of Tryz.func35 rfl (by kernel_rfl) _ _ _ rfl 9 rfl rfl (fun w F => ?_)
  refine srg fun N h1 => ?_
  refine sta rfl rfl rfl ?_
  refine snl h1 ?_
  refine srg fun N h2 => ?_
  refine st0 (hop_load_fp ty_35 rfl (nb rfl) (fun h => (by rfl))) rfl rfl ?_
  refine stm rfl rfl rfl ?_
  refine st0 (hop_callv0 (xs := [_]) (cs := mcs) (M.h s hs) rfl M.len M.cap ⟨rfl, trivial⟩ ⟨(show Fz [] (strV s) (strV s) from Frz.fz), M.fz⟩) rfl rfl ?_
  refine st0 (hop_build (hs := []) st_33 rfl rfl trivial) rfl rfl ?_
  refine st0 (hop_eql_bag (m s) Bag.zero rfl rfl rfl (by exact j4 rfl rfl rfl rfl) (by exact j4 rfl rfl rfl rfl)) rfl rfl ?_
  refine sta rfl rfl rfl ?_
  refine snl h2 ?_
  refine hw_ret ?_
  refine hq_ret1 rfl (rval_tmp rfl) [] rfl pre0 ?_
  exact Frz.fz
theorem getD_i {l : List (List UInt8)} {i : Nat} (h : i < l.length) : l.getD i [] = l[i] := by rw [List.getD_eq_getElem?_getD, List.getElem?_eq_getElem h]; rfl
theorem fidx_some {q : List UInt8 → Bool} {l : List (List UInt8)} {i : Nat} (hi : i < l.length) (h : q (l.getD i []) = true) (hno : ∀ j, j < i → q (l.getD j []) = false) : l.findIdx? q = some i := by
  rw [List.findIdx?_eq_some_iff_getElem]
  refine ⟨hi, by rw [← getD_i hi]; exact h, fun j hj => ?_⟩
  rw [← getD_i (by omega : j < l.length), hno j hj]; simp
theorem fidx_none {q : List UInt8 → Bool} {l : List (List UInt8)} (hno : ∀ j, j < l.length → q (l.getD j []) = false) : l.findIdx? q = none := by
  rw [List.findIdx?_eq_none_iff]
  intro x hx
  obtain ⟨j, hj, rfl⟩ := List.mem_iff_getElem.1 hx
  rw [← getD_i hj]; exact hno j hj
theorem fidx_any (q : List UInt8 → Bool) (l : List (List UInt8)) : decide ((match l.findIdx? q with | some i => (i : Int) | none => -1) ≥ 0) = l.any q := by
  cases h : l.findIdx? q with
  | none =>
    rw [List.findIdx?_eq_none_iff] at h
    simp only
    have : l.any q = false := by rw [List.any_eq_false]; intro x hx; rw [h x hx]; simp
    rw [this]; rfl
  | some i =>
    rw [List.findIdx?_eq_some_iff_getElem] at h
    obtain ⟨hi, hq, _⟩ := h
    have : l.any q = true := List.any_eq_true.2 ⟨l[i], List.getElem_mem hi, hq⟩
    rw [this]
    simp
theorem indexf_h (f : FuncId) (k : Nat) (caps : Nat → HV) (cs : List HV) (q : List UInt8 → Bool) (hk : cs.length = k) (hi : ∀ i, i < k → cs[i]? = some (caps i)) (hz : FzAll [] cs cs) (l : List (List UInt8)) (hl : l.length ≤ 1000000) (hq : ∀ s ∈ l, HPure Tryz.prog f ([strV s] ++ cs) (boolV (q s))) :
    HPure Tryz.prog 63 [nmsV l, .fn (.func f) k caps] (intV (match l.findIdx? q with | some i => (i : Int) | none => -1)) := by
  refine hpure_of Tryz.func63 rfl (by kernel_rfl) _ _ _ rfl 19 rfl rfl (fun w F => ?_)
  refine srg fun N h1 => ?_
  refine sta rfl rfl rfl ?_
  refine snl h1 ?_
  refine hw_seq (fun Nh2 h2 => ?_)
  refine srg fun N h3 => ?_
  refine stm rfl rfl rfl ?_
  refine st0 (hop_len_sl (T := 66) rfl (elOf_spec el_66).1 rfl) rfl rfl ?_
  refine stm rfl rfl rfl ?_
  refine snl h3 ?_
  refine hw_block ?_
  refine hw_loopc (α := Nat) (fun x c => ⟨19, [(0, .v (nmsV l)), (1, .v (.fn (.func f) k caps)), (7, .v (intV l.length)), (8, .v (intV (x : Int)))], [], c⟩) (fun x => x ≤ l.length ∧ ∀ j, j < x → q (l.getD j []) = false) (fun x => l.length - x) (0) (by exact ⟨Nat.zero_le _, fun j hj => absurd hj (Nat.not_lt_zero _)⟩) (hsub_of rfl (Nat.le_refl _) (TmSub.cons rfl (Sb.refl _) (TmSub.cons rfl (Sb.refl _) (TmSub.cons rfl (Sb.refl _) (TmSub.cons rfl (Sb.refl _) TmSub.nil)))) HpSub.nil) (fun i c hx NhL4 hL4 => ?_)
  (try dsimp only at hx hL4 ⊢)
  obtain ⟨hil, hno⟩ := hx
  refine srg fun N h5 => ?_
  refine st0 (hop_lss rfl rfl) rfl rfl ?_
  refine snl h5 ?_
  refine hw_seq (fun Nh6 h6 => ?_)
  refine hw_cond _ rfl (fun hc0 => ?_) (fun hc0 => ?_)
  · have hr0 := hc0; (try simp only [hcs, Int.reduceToNat] at hc0)
    refine hw_skip ?_
    refine h6 _ ?_
    refine hw_seq (fun Nh7 h7 => ?_)
    refine hw_block ?_
    refine srg fun N h8 => ?_
    refine stm rfl rfl rfl ?_
    refine sta rfl rfl rfl ?_
    refine snl h8 ?_
    refine srg fun N h9 => ?_
    refine stm rfl rfl rfl ?_
    refine stm rfl rfl rfl ?_
    refine stm rfl rfl rfl ?_
    refine st0 (hop_ia_sl el_66 rfl rfl (by omega) (by omega) (nb rfl)) rfl rfl ?_
    refine st0 (hop_load_fp ty_9 rfl (nb rfl) (fun h => (by rfl))) rfl rfl ?_
    refine st0 (hop_callv0 (xs := [_]) (cs := cs) (hq (l.getD i []) (by rw [getD_i (by omega)]; exact List.getElem_mem _)) rfl hk hi ⟨rfl, trivial⟩ ⟨(show Fz [] (strV (l.getD i [])) (strV (l.getD i [])) from Frz.fz), hz⟩) rfl rfl ?_
    refine snl h9 ?_
    refine hw_cond _ rfl (fun hc1 => ?_) (fun hc1 => ?_)
    · have hr1 := hc1; (try simp only [hcs, Int.reduceToNat] at hc1)
      refine srg fun N h10 => ?_
      refine stm rfl rfl rfl ?_
      refine sta rfl rfl rfl ?_
      refine snl h10 ?_
      refine hw_ret ?_
      refine hq_block_ret ?_
      refine hq_then_ret ?_
      refine hq_then_ret ?_
      refine hq_block_ret ?_
      refine hq_then_ret ?_
      refine hq_ret1 rfl (rval_tmp rfl) [] rfl pre0 ?_
      rw [fidx_some (by omega) hc1 hno]; exact .imm _
    have hr1 := hc1; (try simp only [hcs, Int.reduceToNat] at hc1)
    refine hw_skip ?_
    refine hq_block ?_
    refine h7 _ ?_
    refine hw_region ?_
    refine st0 (hop_addi rfl rfl rfl (by omega) (by omega)) rfl rfl ?_
    refine stm rfl rfl rfl ?_
    refine hseq_nil ?_
    exact hL4 (i + 1) _ _ (by (try dsimp only); exact ⟨by omega, fun j hj => by rcases Nat.lt_or_ge j i with h | h; exact hno j h; obtain rfl : j = i := (by omega); exact hc1⟩) (by (try dsimp only); omega) (hsub_of rfl (Nat.le_refl _) (TmSub.cons rfl (Sb.refl _) (TmSub.cons rfl (Sb.refl _) (TmSub.cons rfl (Sb.refl _) (TmSub.cons rfl (Sb.refl _) TmSub.nil)))) HpSub.nil)
  have hr0 := hc0; (try simp only [hcs, Int.reduceToNat] at hc0)
  refine hw_exit ?_
  refine hq_then_exit ?_
  refine hq_then_exit ?_
  refine hq_block_here ?_
  refine h2 _ ?_
  refine srg fun N h11 => ?_
  refine sta rfl rfl rfl ?_
  refine snl h11 ?_
  refine hw_ret ?_
  refine hq_ret1 rfl (rval_tmp rfl) [] rfl pre0 ?_
  rw [fidx_none (fun j hj => hno j (by omega))]; exact .imm _
theorem containsf_h (f : FuncId) (k : Nat) (caps : Nat → HV) (cs : List HV) (q : List UInt8 → Bool) (hk : cs.length = k) (hi : ∀ i, i < k → cs[i]? = some (caps i)) (hz : FzAll [] cs cs) (hff : ∀ sh, Fz sh (.fn (.func f) k caps) (.fn (.func f) k caps)) (l : List (List UInt8)) (hl : l.length ≤ 1000000) (hq : ∀ s ∈ l, HPure Tryz.prog f ([strV s] ++ cs) (boolV (q s))) :
    HPure Tryz.prog 33 [nmsV l, .fn (.func f) k caps] (boolV (l.any q)) := by
  refine hpure_of Tryz.func33 rfl (by kernel_rfl) _ _ _ rfl 9 rfl rfl (fun w F => ?_)
  refine srg fun N h1 => ?_
  refine sta rfl rfl rfl ?_
  refine snl h1 ?_
  refine srg fun N h2 => ?_
  refine stm rfl rfl rfl ?_
  refine stm rfl rfl rfl ?_
  refine st0 (hop_call0 (xs := [_, _]) (indexf_h f k caps cs q hk hi hz l hl hq) ⟨rfl, ⟨rfl, trivial⟩⟩ ⟨(Fz.eq rfl), ⟨(hff _), trivial⟩⟩) rfl rfl ?_
  refine st0 (hop_geq rfl rfl) rfl rfl ?_
  refine sta rfl rfl rfl ?_
  refine snl h2 ?_
  refine hw_ret ?_
  refine hq_ret1 rfl (rval_tmp rfl) [] rfl pre0 ?_
  rw [← fidx_any]; exact .imm _
end
end Go.Proofs.YtldjnmljnlhaaaaGreatDoor

namespace Go.Proofs.YtldjnmljnlhaaaaGreatDoor
set_option linter.unusedSimpArgs false
set_option linter.unusedVariables false
set_option maxRecDepth 100000
set_option maxHeartbeats 1000000
open Go.RowKit
def netQ (w : Nat) (on : List Bag) (β : Nat → Bag) (p : Pc) : Nat → HV := fun j => match j with
  | 0 => .sl 4 w (rowF (onF on)) | 1 => .sl 4 w (rowF β)
  | 2 => bagF p.first 0 | 3 => bagF p.first 1 | 4 => bagF p.first 2 | 5 => bagF p.first 3
  | 6 => bagF p.ends 0 | 7 => bagF p.ends 1 | 8 => bagF p.ends 2 | 9 => bagF p.ends 3
  | _ => boolV p.empty
@[reducible] def netP (w : Nat) (on : List Bag) (β : Nat → Bag) (p : Pc) : HV := .fp 11 (netQ w on β p)
@[reducible] def noNet (e : Int) : HV := t2 (.imm (.pointer none)) (intV e)
@[reducible] def treeNet (m : List UInt8 → Bag) (t : T) : HV := netP (0 + t.w) (lay m t 0).on (links (fun _ => Bag.zero) (lay m t 0).lk) (lay m t 0).pc
theorem j11 {P : Nat → Prop} (h0 : P 0) (h1 : P 1) (h2 : P 2) (h3 : P 3) (h4 : P 4) (h5 : P 5) (h6 : P 6) (h7 : P 7) (h8 : P 8) (h9 : P 9) (h10 : P 10) : ∀ j, j < 11 → P j := fun j hj => by
  match j, hj with | 0, _ => exact h0 | 1, _ => exact h1 | 2, _ => exact h2 | 3, _ => exact h3 | 4, _ => exact h4 | 5, _ => exact h5 | 6, _ => exact h6 | 7, _ => exact h7 | 8, _ => exact h8 | 9, _ => exact h9 | 10, _ => exact h10
def noneV (m : List UInt8 → Bag) (e : List Pt) : Bool := (namesV e).any (fun s => decide (m s = Bag.zero))
/-- What New says. -/
inductive NewIs (m : List UInt8 → Bag) (e : List Pt) : HV → Prop
  | bad (h : rightV e = false) : NewIs m e (noNet 1)
  | none (h : rightV e = true) (h2 : noneV m e = true) : NewIs m e (noNet 6)
  | nil (h : e = []) : NewIs m e (t2 (netP 0 [] (fun _ => Bag.zero) ⟨Bag.zero, Bag.zero, true⟩) (intV 0))
  | full (t : T) (hok : t.ok = true) (h : e = T.flat 0 t) (h2 : noneV m e = false) (hw : 256 < t.w) : NewIs m e (noNet 7)
  | fine (t : T) (hok : t.ok = true) (h : e = T.flat 0 t) (h2 : noneV m e = false) (hw : t.w ≤ 256) : NewIs m e (t2 (treeNet m t) (intV 0))
theorem right_nil : rightV [] = true := by decide +kernel
theorem newIs_bad {m : List UInt8 → Bag} {e : List Pt} {r : HV} (hr : NewIs m e r) (h : rightV e = false) : r = noNet 1 := by
  cases hr with
  | bad => rfl
  | none h' _ => rw [h] at h'; cases h'
  | nil h' => subst h'; rw [right_nil] at h; cases h
  | full t hok h' => subst h'; rw [right_of_ok hok] at h; cases h
  | fine t hok h' => subst h'; rw [right_of_ok hok] at h; cases h
theorem newIs_none {m : List UInt8 → Bag} {e : List Pt} {r : HV} (hr : NewIs m e r) (h : rightV e = true) (h2 : noneV m e = true) : r = noNet 6 := by
  cases hr with
  | bad h' => rw [h] at h'; cases h'
  | none => rfl
  | nil h' => subst h'; cases h2
  | full t _ _ h' => rw [h2] at h'; cases h'
  | fine t _ _ h' => rw [h2] at h'; cases h'
theorem newIs_nil {m : List UInt8 → Bag} {r : HV} (hr : NewIs m [] r) : r = t2 (netP 0 [] (fun _ => Bag.zero) ⟨Bag.zero, Bag.zero, true⟩) (intV 0) := by
  generalize he : ([] : List Pt) = e at hr
  cases hr with
  | bad h' => subst he; rw [right_nil] at h'; cases h'
  | none _ h' => subst he; cases h'
  | nil => rfl
  | full t _ h' => subst he; have := congrArg List.length h'; rw [T.flat_len] at this; have := t.size_pos; simp at *; omega
  | fine t _ h' => subst he; have := congrArg List.length h'; rw [T.flat_len] at this; have := t.size_pos; simp at *; omega
theorem newIs_tree {m : List UInt8 → Bag} {e : List Pt} {r : HV} (hr : NewIs m e r) (h : rightV e = true) (h2 : noneV m e = false) (h3 : e.length ≠ 0) : ∃ t : T, t.ok = true ∧ e = T.flat 0 t ∧ ((256 < t.w ∧ r = noNet 7) ∨ (t.w ≤ 256 ∧ r = t2 (treeNet m t) (intV 0))) := by
  cases hr with
  | bad h' => rw [h] at h'; cases h'
  | none _ h' => rw [h2] at h'; cases h'
  | nil h' => subst h'; exact absurd rfl h3
  | full t hok h' _ hw => exact ⟨t, hok, h', .inl ⟨hw, rfl⟩⟩
  | fine t hok h' _ hw => exact ⟨t, hok, h', .inr ⟨hw, rfl⟩⟩
theorem fz_rowo {sh : List (Nat × HObj)} {id g n n' : Nat} {γ γ' : Nat → Bag} (ho : (id, rowO g n γ) ∈ sh) (hn : n' = n) (h : ∀ i, i < n → γ i = γ' i) : Fz sh (.os id g 0 n') (.sl 4 n' (rowF γ')) := by
  subst hn
  refine Fz.os id g 0 n' _ _ ho rfl (by show 0 + n' ≤ n'; omega) (fun i j hi hj => ?_)
  show Fz sh (bagF (γ (0 + i)) j) (bagF (γ' i) j)
  rw [Nat.zero_add, h i hi]; exact .imm _
theorem names_from : ∀ (l : List Pt) (o : List (List UInt8)) (s : List UInt8), s ∈ l.foldl addN o → s ∈ o ∨ ∃ x ∈ l, x.kind = 1 ∧ x.name = s
  | [], o, s, h => .inl h
  | x :: l, o, s, h => by
    rcases names_from l (addN o x) s h with h' | ⟨y, hy, h1, h2⟩
    · unfold addN at h'
      split at h'
      · rename_i hk
        rcases List.mem_append.1 h' with h'' | h''
        · exact .inl h''
        · rw [List.mem_singleton] at h''; exact .inr ⟨x, List.mem_cons_self .., hk.1, h''.symm⟩
      · exact .inl h'
    · exact .inr ⟨y, List.mem_cons_of_mem _ hy, h1, h2⟩
theorem names_ok {e : List Pt} (hR : rightV e = true) (s : List UInt8) (hs : s ∈ namesV e) : nameV s = true := by
  rcases names_from e [] s hs with h | ⟨x, hx, hk, rfl⟩
  · cases h
  · rcases rightV_tree hR with rfl | ⟨t, hok, rfl⟩
    · cases hx
    · have := flat_fine t 0 hok x hx
      unfold aloneV at this
      simp [hk] at this
      simp [this]
section
variable {ov : Nat → Option HV} {g : Nat} {d : Option Tmp} {ty : TypeId} {pos : String} {af : Array Edge} {gd : Option (Nat × Bool)} {T yT : TypeId} {x y : Operand}
theorem hop_eql_fnil {f : Fn} {n : Nat} {caps : Nat → HV} (hT : T = 35) (h1 : ovl ov x = some (.fn f n caps)) (h2 : ovl ov y = some (.imm .nilFunc)) :
    HOp Tryz.prog ⟨d, .binOp .eql T x y yT, ty, pos, af, gd⟩ ov g [] (.imm (.bool false)) [] :=
  hop_pure fun w E ρ hr => by
    subst hT
    have e1 := hr x _ (by simp [Op.operands]) h1
    have e2 := Rep.imm_inv (hr y _ (by simp [Op.operands]) h2)
    generalize hv : ρ x = v at e1
    cases e1 with
    | fn _ vcs _ _ vs hn hvv hrr =>
      refine ⟨_, ?_, .imm _⟩
      have hg : (eqGuard .eql 35 x y (.func f #[] vcs) .nilFunc).run Tryz.prog w = .ok () w := by kernel_rfl
      have hT : (binOp .eql 35 (.func f #[] vcs) .nilFunc).run Tryz.prog w = .ok (.bool false) w := by kernel_rfl
      simp only [execOp, hv, e2, Sem.run_bind, hg, Result.andThen_ok, hT, Sem.run_pure]
theorem hop_eql_nn (hT : T = 35) (h1 : ovl ov x = some (.imm .nilFunc)) (h2 : ovl ov y = some (.imm .nilFunc)) :
    HOp Tryz.prog ⟨d, .binOp .eql T x y yT, ty, pos, af, gd⟩ ov g [] (.imm (.bool true)) [] :=
  hop_pure fun w E ρ hr => by
    subst hT
    have e1 := Rep.imm_inv (hr x _ (by simp [Op.operands]) h1)
    have e2 := Rep.imm_inv (hr y _ (by simp [Op.operands]) h2)
    refine ⟨_, ?_, .imm _⟩
    have hg : (eqGuard .eql 35 x y .nilFunc .nilFunc).run Tryz.prog w = .ok () w := by kernel_rfl
    have hT : (binOp .eql 35 .nilFunc .nilFunc).run Tryz.prog w = .ok (.bool true) w := by kernel_rfl
    simp only [execOp, e1, e2, Sem.run_bind, hg, Result.andThen_ok, hT, Sem.run_pure]
end
section
variable {mf : FuncId} {mk : Nat} {mcaps : Nat → HV} {mcs : List HV} {m : List UInt8 → Bag}
theorem new_h (M : MeanOk mf mk mcaps mcs m) (e : List Pt) (he : PtB e) (r : HV) (hr : NewIs m e r) : HPure Tryz.prog 9 [ptsV e, .fn (.func mf) mk mcaps] r := by
  have hel := he.1
  refine hpure_of Tryz.func9 rfl (by kernel_rfl) _ _ _ rfl 55 rfl rfl (fun w F => ?_)
  refine srg fun N h1 => ?_
  refine hm_1 3 (hop_box (id := 3) (sz := 1) rfl rfl rfl (nb rfl) (nb rfl)) rfl rfl pre0 rfl rfl (c' := 1) rfl ?_
  refine sta rfl rfl rfl ?_
  refine sta rfl rfl rfl ?_
  refine snl h1 ?_
  refine hw_seq (fun Nh2 h2 => ?_)
  refine srg fun N h3 => ?_
  refine stm rfl rfl rfl ?_
  refine st0 (hop_call0 (xs := [_]) (right_h e he) ⟨rfl, trivial⟩ ⟨(Fz.eq rfl), trivial⟩) rfl rfl ?_
  refine st0 (hop_not rfl) rfl rfl ?_
  refine stm rfl rfl rfl ?_
  refine hq_g 12 3 11 false _ (fun hb => hol_load ty_35 rfl (nb rfl) (nb rfl) (fun h => (by rfl))) rfl rfl rfl rfl (pre1 rfl) rfl rfl rfl ?_
  refine stg 11 (fun hb => hop_eql_fnil rfl rfl rfl) rfl rfl rfl rfl rfl ?_
  refine hq_p 14 (hstep_and _ _ rfl rfl rfl) rfl rfl rfl ?_
  refine hseq_nilU (by rfl) (by simp only [dropUn, slots]; exact rfl) ?_
  refine h3 _ ?_
  refine hw_cond _ rfl (fun hc0 => ?_) (fun hc0 => ?_)
  · have hr0 := hc0; (try simp only [hcs, Int.reduceToNat] at hc0)
    have hR : rightV e = false := (by simpa using hr0)
    refine srg fun N h4 => ?_
    refine sta rfl rfl rfl ?_
    refine sta rfl rfl rfl ?_
    refine snl h4 ?_
    refine hw_ret ?_
    refine hq_then_ret ?_
    refine hq_ret2 rfl (rval_tmp rfl) (rval_tmp rfl) [] rfl pre0 ?_
    rw [newIs_bad hr hR]; exact .tup _ _ _ (fun i hi => by match i, hi with | 0, _ => exact .imm _ | 1, _ => exact .imm _)
  have hr0 := hc0; (try simp only [hcs, Int.reduceToNat] at hc0)
  have hR : rightV e = true := (by simpa using hr0)
  refine hw_skip ?_
  refine h2 _ ?_
  refine hw_seq (fun Nh5 h5 => ?_)
  refine srg fun N h6 => ?_
  refine stm rfl rfl rfl ?_
  refine st0 (hop_call0 (xs := [_]) (names_h e he.1) ⟨rfl, trivial⟩ ⟨(Fz.eq rfl), trivial⟩) rfl rfl ?_
  refine st0 (hop_makeFunc (hs := [_]) ⟨rfl, trivial⟩) rfl rfl ?_
  refine (hsub_shr 17 [(3, _)] rfl (preC rfl pre0) rfl ((show Fz _ _ (.fn (.func 35) 1 (fun i => [HV.fp 1 (fun _ => .fn (.func mf) mk mcaps)].getD i default)) from .fn _ _ _ _ (fun i hi => by obtain rfl : i = 0 := (by omega); exact .pt 3 _ 0 0 1 _ _ (.head _) rfl (Nat.lt_succ_self 0) (Nat.le_refl _) (fun j hj => M.ff _))))).seq ?_
  refine st0 (hop_call0 (xs := [_, _]) (containsf_h 35 1 (fun i => [HV.fp 1 (fun _ => .fn (.func mf) mk mcaps)].getD i default) [.fp 1 (fun _ => .fn (.func mf) mk mcaps)] (fun s => decide (m s = Bag.zero)) rfl (fun i hi => by obtain rfl : i = 0 := (by omega); rfl) ⟨.fp _ _ (Nat.le_refl _) _ _ (fun j hj => M.ff _), trivial⟩ (fun sh => .fn _ _ _ _ (fun i hi => by obtain rfl : i = 0 := (by omega); exact .fp _ _ (Nat.le_refl _) _ _ (fun j hj => M.ff _))) (namesV e) (by have := names_len (e := e) e.length; rw [List.take_length] at this; omega) (fun s hs => new1_h M s (names_ok hR s hs))) ⟨rfl, ⟨rfl, trivial⟩⟩ ⟨(Fz.eq rfl), ⟨(.fn _ _ _ _ (fun i hi => by obtain rfl : i = 0 := (by omega); exact .fp _ _ (Nat.le_refl _) _ _ (fun j hj => M.ff _))), trivial⟩⟩) rfl rfl ?_
  refine snl h6 ?_
  refine hw_cond _ rfl (fun hc1 => ?_) (fun hc1 => ?_)
  · have hr1 := hc1; (try simp only [hcs, Int.reduceToNat] at hc1)
    refine srg fun N h7 => ?_
    refine sta rfl rfl rfl ?_
    refine sta rfl rfl rfl ?_
    refine snl h7 ?_
    refine hw_ret ?_
    refine hq_then_ret ?_
    refine hq_ret2 rfl (rval_tmp rfl) (rval_tmp rfl) [] rfl pre0 ?_
    rw [newIs_none hr hR hr1]; exact .tup _ _ _ (fun i hi => by match i, hi with | 0, _ => exact .imm _ | 1, _ => exact .imm _)
  have hr1 := hc1; (try simp only [hcs, Int.reduceToNat] at hc1)
  refine hw_skip ?_
  refine h5 _ ?_
  refine hw_seq (fun Nh8 h8 => ?_)
  refine srg fun N h9 => ?_
  refine stm rfl rfl rfl ?_
  refine st0 (hop_len_sl (T := 24) rfl (elOf_spec el_24).1 rfl) rfl rfl ?_
  refine st0 (hop_eql rfl rfl) rfl rfl ?_
  refine snl h9 ?_
  refine hw_cond _ rfl (fun hc2 => ?_) (fun hc2 => ?_)
  · have hr2 := hc2; (try simp only [hcs, Int.reduceToNat] at hc2)
    obtain rfl : e = [] := (by apply List.length_eq_zero_iff.1; omega)
    refine srg fun N h10 => ?_
    refine st0 (hop_build (hs := [(10, 1, _)]) st_71 rfl rfl ⟨rfl, rfl, rfl, rfl, rfl, trivial⟩) rfl rfl ?_
    refine hm_1 23 (hop_box (id := 23) (sz := 11) rfl rfl rfl (nb rfl) (nb rfl)) rfl rfl pre0 rfl rfl (c' := 2) rfl ?_
    refine sta rfl rfl rfl ?_
    refine sta rfl rfl rfl ?_
    refine snl h10 ?_
    refine hw_ret ?_
    refine hq_then_ret ?_
    refine hq_ret2 rfl (rval_tmp rfl) (rval_tmp rfl) [(23, _)] rfl (preC rfl pre0) ?_
    rw [newIs_nil hr]; exact .tup _ _ _ (fun i hi => by match i, hi with | 0, _ => exact .pt 23 _ 0 0 11 _ _ (.head _) rfl (Nat.lt_succ_self 0) (Nat.le_refl _) (by exact j11 (.nil 0 4 _ (by decide) none) (.nil 0 4 _ (by decide) none) (.imm _) (.imm _) (.imm _) (.imm _) (.imm _) (.imm _) (.imm _) (.imm _) (.imm _)) | 1, _ => exact .imm _)
  have hr2 := hc2; (try simp only [hcs, Int.reduceToNat] at hc2)
  obtain ⟨t, hok, het, hw⟩ := newIs_tree hr hR hr1 (by omega); have hat : AtP e 0 (T.flat 0 t) := ⟨[], [], by simp [het], rfl⟩; have hsz : e.length = t.size := (by rw [het]; exact T.flat_len 0 t); have hps := t.size_pos
  refine hw_skip ?_
  refine h8 _ ?_
  refine hw_seq (fun Nh11 h11 => ?_)
  refine srg fun N h12 => ?_
  refine stm rfl rfl rfl ?_
  refine stm rfl rfl rfl ?_
  refine st0 (hop_len_sl (T := 24) rfl (elOf_spec el_24).1 rfl) rfl rfl ?_
  refine st0 (HOp.val (v' := intV ((0 + t.size - 1 : Nat) : Int)) (hop_subi rfl rfl rfl (by omega) (by omega)) (congrArg intV (by omega))) rfl rfl ?_
  refine st0 (hop_call0 (xs := [_, _]) (places_h e he.1 t 0 hok hat) ⟨rfl, ⟨rfl, trivial⟩⟩ ⟨(Fz.eq rfl), ⟨(Fz.eq rfl), trivial⟩⟩) rfl rfl ?_
  refine st0 (hop_gtr rfl rfl) rfl rfl ?_
  refine snl h12 ?_
  refine hw_cond _ rfl (fun hc3 => ?_) (fun hc3 => ?_)
  · have hr3 := hc3; (try simp only [hcs, Int.reduceToNat] at hc3)
    refine srg fun N h13 => ?_
    refine sta rfl rfl rfl ?_
    refine sta rfl rfl rfl ?_
    refine snl h13 ?_
    refine hw_ret ?_
    refine hq_then_ret ?_
    refine hq_ret2 rfl (rval_tmp rfl) (rval_tmp rfl) [] rfl pre0 ?_
    rcases hw with ⟨_, rfl⟩ | ⟨hw, _⟩; exact .tup _ _ _ (fun i hi => by match i, hi with | 0, _ => exact .imm _ | 1, _ => exact .imm _); (exfalso; unfold wMin at hc3; rw [if_pos (by omega)] at hc3; omega)
  have hr3 := hc3; (try simp only [hcs, Int.reduceToNat] at hc3)
  have hww : t.w ≤ 256 ∧ r = t2 (treeNet m t) (intV 0) := (by rcases hw with ⟨hw, _⟩ | hw; (exfalso; unfold wMin at hc3; split at hc3 <;> omega); exact hw); obtain ⟨hwl, rfl⟩ := hww
  refine hw_skip ?_
  refine h11 _ ?_
  refine srg fun N h14 => ?_
  refine st0 (hop_build (hs := []) st_71 rfl rfl trivial) rfl rfl ?_
  refine hm_1 31 (hop_box (id := 9001) (sz := 11) rfl rfl rfl (by decide) (by decide)) rfl rfl pre0 rfl rfl (c' := 2) rfl ?_
  refine sta rfl rfl rfl ?_
  refine snl h14 ?_
  refine hw_seq (fun Nh15 h15 => ?_)
  refine (hsub_ownc 9001 0 9002 4 33 (rowF (onF [])) (netF (.os 9002 2 0 0) (.imm (.slice none 0 0)) Bag.zero Bag.zero false) rfl rfl (by exact j11 (.inl ⟨rfl, rfl⟩) (.inr rfl) (.inr rfl) (.inr rfl) (.inr rfl) (.inr rfl) (.inr rfl) (.inr rfl) (.inr rfl) (.inr rfl) (.inr rfl)) (by decide) (by decide) (c' := 3) rfl).wp ?_; refine (hsub_ownc 9001 1 9003 4 33 (rowF (fun _ => Bag.zero)) (netF (.os 9002 2 0 0) (.os 9003 3 0 0) Bag.zero Bag.zero false) rfl rfl (by exact j11 (.inr rfl) (.inl ⟨rfl, rfl⟩) (.inr rfl) (.inr rfl) (.inr rfl) (.inr rfl) (.inr rfl) (.inr rfl) (.inr rfl) (.inr rfl) (.inr rfl)) (by decide) (by decide) (c' := 4) rfl).wp ?_
  refine hw_region ?_
  refine stm rfl rfl rfl ?_
  refine stm rfl rfl rfl ?_
  refine stm rfl rfl rfl ?_
  refine st0 (hop_len_sl (T := 24) rfl (elOf_spec el_24).1 rfl) rfl rfl ?_
  refine st0 (HOp.val (v' := intV ((0 + t.size - 1 : Nat) : Int)) (hop_subi rfl rfl rfl (by omega) (by omega)) (congrArg intV (by omega))) rfl rfl ?_
  refine st1 (hol_load ty_35 rfl (nb rfl) (nb rfl) (fun h => (by rfl))) rfl rfl rfl ?_
  refine hf_callR 38 (xs := [_, _, _, _]) (pre := [(9001, _), (9002, _), (9003, _)]) (layN_h M e he.1 t 0 hok hat _ 1 2 3 0 [] (fun _ => Bag.zero) rfl (by omega) (fun _ => Bag.zero_ok) (fun _ _ _ => rfl)) ⟨rfl, ⟨rfl, ⟨rfl, ⟨rfl, trivial⟩⟩⟩⟩ (preC rfl (preC rfl (preC rfl pre0))) rfl rfl (fun x1 c1 hyy => ?_)
  obtain ⟨y2, y3⟩ := x1
  (try dsimp only)
  refine hm_1 7 (hop_alloc (id := 7) (sz := 9) zc_74 rfl rfl (nb rfl) (nb rfl)) rfl rfl pre0 rfl rfl (c' := c1 + 1) rfl ?_
  refine hm_s1 (hol_storeW ty_74 rfl rfl rfl rfl) rfl rfl (pre1 rfl) (c' := c1 + 2) rfl ?_
  refine snl h15 ?_
  refine hw_seq (fun Nh16 h16 => ?_)
  refine hd_start ?_
  refine hd_q 39 (hop_move rfl) rfl rfl pre0 rfl rfl (k' := 1) rfl ?_
  refine hd_q 40 (hop_move rfl) rfl rfl pre0 rfl rfl (k' := 2) rfl ?_
  refine hd_q 41 (hop_move rfl) rfl rfl pre0 rfl rfl (k' := 3) rfl ?_
  refine hd_q 42 (hop_fa fd_74_0 rfl) rfl rfl pre0 rfl rfl (k' := 4) rfl ?_
  refine hd_q 43 (hol_load ty_33 rfl (nb rfl) (nb rfl) (fun h => (by cases h))) rfl rfl (pre1 rfl) rfl rfl (k' := 5) rfl ?_
  refine hd_q 44 (hop_fa fd_74_1 rfl) rfl rfl pre0 rfl rfl (k' := 6) rfl ?_
  refine hd_q 45 (hol_load ty_33 rfl (nb rfl) (nb rfl) (fun h => (by cases h))) rfl rfl (pre1 rfl) rfl rfl (k' := 7) rfl ?_
  refine hd_q 46 (hop_fa fd_74_2 rfl) rfl rfl pre0 rfl rfl (k' := 8) rfl ?_
  refine hd_q 47 (hol_load ty_4 rfl (nb rfl) (nb rfl) (fun h => (by rfl))) rfl rfl (pre1 rfl) rfl rfl (k' := 9) rfl ?_
  refine hd_q 48 (hop_nilcheck_pt rfl) rfl rfl pre0 rfl rfl (k' := 10) rfl ?_
  refine hd_q 49 (hop_fa fd_71_2 rfl) rfl rfl pre0 rfl rfl (k' := 11) rfl ?_
  refine hd_s1 (hol_store ty_33 rfl rfl rfl rfl (nb rfl) (nb rfl) (nb rfl)) rfl rfl (pre1 rfl) (k' := 12) rfl ?_
  refine hd_q 50 (hop_nilcheck_pt rfl) rfl rfl pre0 rfl rfl (k' := 13) rfl ?_
  refine hd_q 51 (hop_fa fd_71_3 rfl) rfl rfl pre0 rfl rfl (k' := 14) rfl ?_
  refine hd_s1 (hol_store ty_33 rfl rfl rfl rfl (nb rfl) (nb rfl) (nb rfl)) rfl rfl (pre1 rfl) (k' := 15) rfl ?_
  refine hd_q 52 (hop_nilcheck_pt rfl) rfl rfl pre0 rfl rfl (k' := 16) rfl ?_
  refine hd_q 53 (hop_fa fd_71_4 rfl) rfl rfl pre0 rfl rfl (k' := 17) rfl ?_
  refine hd_s1 (hol_store ty_4 rfl rfl rfl rfl (nb rfl) (nb rfl) (nb rfl)) rfl rfl (pre1 rfl) (k' := 18) rfl ?_
  refine hd_nil (by kernel_rfl) (by kernel_rfl) (c' := c1 + 20) rfl ?_
  refine h16 _ ?_
  refine hw_seq (fun Nh17 h17 => ?_)
  refine (hsub_ob 9001 ⟨1, 1, 11, 71, 0, netF (.os 9002 y2 0 (0 + t.w)) (.os 9003 y3 0 (0 + t.w)) (lay m t 0).pc.first (lay m t 0).pc.ends (lay m t 0).pc.empty⟩ rfl (by exact OSub.of (fun i j hi hj => by obtain rfl : i = 0 := (by omega); match j, hj with | 0, _ => exact .refl _ | 1, _ => exact .refl _ | 2, _ => exact .refl _ | 3, _ => exact .refl _ | 4, _ => exact .refl _ | 5, _ => exact .refl _ | 6, _ => exact .refl _ | 7, _ => exact .refl _ | 8, _ => exact .refl _ | 9, _ => exact .refl _ | 10, _ => exact .refl _))).wp ?_
  refine hw_region ?_
  refine stm rfl rfl rfl ?_
  refine sta rfl rfl rfl ?_
  refine sta rfl rfl rfl ?_
  refine snl h17 ?_
  refine hw_ret ?_
  refine hq_ret2 rfl (rval_tmp rfl) (rval_tmp rfl) [(9001, _), (9002, _), (9003, _)] rfl (preC rfl (preC rfl (preC rfl pre0))) ?_
  exact .tup _ _ _ (fun i hi => by match i, hi with | 0, _ => exact .pt 9001 _ 0 0 11 _ _ (.head _) rfl (Nat.lt_succ_self 0) (Nat.le_refl _) (by exact j11 (fz_rowo (γ' := onF (lay m t 0).on) (.tail _ (.head _)) rfl (fun _ _ => rfl)) (fz_rowo (γ' := links (fun _ => Bag.zero) (lay m t 0).lk) (.tail _ (.tail _ (.head _))) rfl (fun _ _ => rfl)) (.imm _) (.imm _) (.imm _) (.imm _) (.imm _) (.imm _) (.imm _) (.imm _) (.imm _)) | 1, _ => exact .imm _)
theorem newnil_h (e : List Pt) (he : PtB e) : HPure Tryz.prog 9 [ptsV e, .imm .nilFunc] (noNet 1) := by
  have hel := he.1
  refine hpure_of Tryz.func9 rfl (by kernel_rfl) _ _ _ rfl 55 rfl rfl (fun w F => ?_)
  refine srg fun N h1 => ?_
  refine hm_1 3 (hop_box (id := 3) (sz := 1) rfl rfl rfl (nb rfl) (nb rfl)) rfl rfl pre0 rfl rfl (c' := 1) rfl ?_
  refine sta rfl rfl rfl ?_
  refine sta rfl rfl rfl ?_
  refine snl h1 ?_
  refine hw_seq (fun Nh2 h2 => ?_)
  refine srg fun N h3 => ?_
  refine stm rfl rfl rfl ?_
  refine st0 (hop_call0 (xs := [_]) (right_h e he) ⟨rfl, trivial⟩ ⟨(Fz.eq rfl), trivial⟩) rfl rfl ?_
  refine st0 (hop_not rfl) rfl rfl ?_
  refine stm rfl rfl rfl ?_
  refine hq_g 12 3 11 false _ (fun hb => hol_load ty_35 rfl (nb rfl) (nb rfl) (fun h => (by rfl))) rfl rfl rfl rfl (pre1 rfl) rfl rfl rfl ?_
  refine stg 11 (fun hb => hop_eql_nn rfl rfl rfl) rfl rfl rfl rfl rfl ?_
  refine hq_p 14 (hstep_or _ _ rfl rfl rfl) rfl rfl rfl ?_
  refine hseq_nilU (by rfl) (by simp only [dropUn, slots]; exact rfl) ?_
  refine h3 _ ?_
  refine hw_cond _ rfl (fun hc0 => ?_) (fun hc0 => ?_)
  · have hr0 := hc0; (try simp only [hcs, Int.reduceToNat] at hc0)
    refine srg fun N h4 => ?_
    refine sta rfl rfl rfl ?_
    refine sta rfl rfl rfl ?_
    refine snl h4 ?_
    refine hw_ret ?_
    refine hq_then_ret ?_
    refine hq_ret2 rfl (rval_tmp rfl) (rval_tmp rfl) [] rfl pre0 ?_
    exact .tup _ _ _ (fun i hi => by match i, hi with | 0, _ => exact .imm _ | 1, _ => exact .imm _)
  have hr0 := hc0; (try simp only [hcs, Int.reduceToNat] at hc0)
  exfalso; simp at hr0
end
end Go.Proofs.YtldjnmljnlhaaaaGreatDoor

namespace Go.Proofs.YtldjnmljnlhaaaaGreatDoor
set_option linter.unusedSimpArgs false
set_option linter.unusedVariables false
set_option maxRecDepth 100000
set_option maxHeartbeats 1000000
open Go.RowKit
@[reducible] def MnC (e : List Pt) (b : Nat) (t : T) : Prop := HPure Tryz.prog 11 [ptsV e, intV ((b + t.size - 1 : Nat) : Int)] (intV (wMin t.w))
theorem wMin_id (n : Nat) : (if 257 < wMin n then (257 : Int) else wMin n) = wMin n := by unfold wMin; split <;> split <;> omega
theorem many_one (e : List Pt) (he : e.length ≤ 100000) (b : Nat) (t : T) (hok : t.ok = true) (hat : AtP e b (T.flat b t)) (hkl : t.kidsT.length ≤ 100000)
    (ih : ∀ i, i < t.kidsT.length → MnC e (b + T.sizeL (t.kidsT.take i)) (t.kidsT.getD i default)) : MnC e b t := by
  have htop := at_top hat
  have hps := t.size_pos
  have hkid := top_kids b t
  have hrl := rootsL_len t.kidsT b
  generalize htp : t.top b = p at htop hkid
  have hpk : p.kind = t.kind := by rw [← htp]; exact top_kind b t
  refine hpure_of Tryz.func11 rfl (by kernel_rfl) _ _ _ rfl 54 rfl rfl (fun w F => ?_)
  refine srg fun N h1 => ?_
  refine sta rfl rfl rfl ?_
  refine snl h1 ?_
  refine srg fun N h2 => ?_
  refine stm rfl rfl rfl ?_
  refine stm rfl rfl rfl ?_
  refine st0 (hop_ia_sl el_22 rfl rfl (by omega) (by omega) (nb rfl)) rfl rfl ?_
  refine st0 (HOp.val (v' := ptH p) (hop_load_fp ty_27 rfl (nb rfl) (fun h => (by cases h))) (pt_at (by omega) htop.1)) rfl rfl ?_
  refine hm_1 5 (hop_alloc (id := 5) (sz := 5) zc_27 rfl rfl (nb rfl) (nb rfl)) rfl rfl pre0 rfl rfl (c' := 1) rfl ?_
  refine hm_s1 (hol_storeW ty_27 rfl rfl rfl rfl) rfl rfl (pre1 rfl) (c' := 2) rfl ?_
  refine snl h2 ?_
  refine hw_seq (fun Nh3 h3 => ?_)
  refine srg fun N h4 => ?_
  refine st0 (hop_fa fd_27_0 rfl) rfl rfl ?_
  refine st1 (hol_load ty_3 rfl (nb rfl) (nb rfl) (fun h => (by rfl))) rfl rfl rfl ?_
  refine st0 (hop_eql rfl rfl) rfl rfl ?_
  refine snl h4 ?_
  refine hw_cond _ rfl (fun hc0 => ?_) (fun hc0 => ?_)
  · have hr0 := hc0; (try simp only [hcs, Int.reduceToNat] at hc0)
    refine srg fun N h5 => ?_
    refine sta rfl rfl rfl ?_
    refine snl h5 ?_
    refine hw_ret ?_
    refine hq_then_ret ?_
    refine hq_ret1 rfl (rval_tmp rfl) [] rfl pre0 ?_
    rw [w_name (by rw [← hpk]; exact hc0) hok]; exact .imm _
  have hr0 := hc0; (try simp only [hcs, Int.reduceToNat] at hc0)
  refine hw_skip ?_
  refine h3 _ ?_
  refine srg fun N h6 => ?_
  refine sta rfl rfl rfl ?_
  refine snl h6 ?_
  refine hw_seq (fun Nh7 h7 => ?_)
  refine srg fun N h8 => ?_
  refine sta rfl rfl rfl ?_
  refine snl h8 ?_
  refine hw_block ?_
  refine hw_loopc (α := Nat) (fun x c => ⟨54, [(0, .v (ptsV e)), (5, .v (.pt 5 0 0 0)), (6, .v (intV (wMin (T.wL (t.kidsT.take x))))), (7, .v (intV x))], [(5, ⟨0, 1, 5, 27, 0, fun _ => ptF p⟩)], c⟩) (fun x => x ≤ t.kidsT.length) (fun x => t.kidsT.length - x) (0) (by omega) (hsub_of rfl (Nat.le_refl _) (TmSub.cons rfl (Sb.refl _) (TmSub.cons rfl (Sb.refl _) (TmSub.cons rfl (Sb.refl _) (TmSub.cons rfl (Sb.refl _) TmSub.nil)))) (HpSub.cons rfl (OSub.refl _) HpSub.nil)) (fun i c hx NhL9 hL9 => ?_)
  (try dsimp only at hx hL9 ⊢)
  have hm1 := wMin_le (T.wL (t.kidsT.take i))
  refine hw_seq (fun Nh10 h10 => ?_)
  refine srg fun N h11 => ?_
  refine stm rfl rfl rfl ?_
  refine st0 (hop_fa fd_27_4 rfl) rfl rfl ?_
  refine st1 (HOp.val (v' := kidsV p.kids) (hol_load ty_25 rfl (nb rfl) (nb rfl) (fun h => (by rfl))) (rfl)) rfl rfl rfl ?_
  refine st0 (hop_len_sl (T := 25) rfl (elOf_spec el_25).1 rfl) rfl rfl ?_
  refine st0 (hop_lss rfl rfl) rfl rfl ?_
  refine snl h11 ?_
  refine hw_cond _ rfl (fun hc1 => ?_) (fun hc1 => ?_)
  · have hr1 := hc1; (try simp only [hcs, Int.reduceToNat] at hc1)
    have him : i < t.kidsT.length := (by have h := hr1; simp [hkid, hrl] at h; omega); have hka := kids_at' hat him; have hkt := at_top hka; have hks := (t.kidsT.getD i default).size_pos; have hroot := roots_get t.kidsT b i him; have hm2 := wMin_le (t.kidsT.getD i default).w; have hwt := wL_take t.kidsT i him; have hma := wMin_add (T.wL (t.kidsT.take i)) (t.kidsT.getD i default).w
    refine hw_skip ?_
    refine h10 _ ?_
    refine hw_seq (fun Nh12 h12 => ?_)
    refine hw_block ?_
    refine hw_region ?_
    refine stm rfl rfl rfl ?_
    refine stm rfl rfl rfl ?_
    refine st0 (hop_fa fd_27_4 rfl) rfl rfl ?_
    refine st1 (HOp.val (v' := kidsV p.kids) (hol_load ty_25 rfl (nb rfl) (nb rfl) (fun h => (by rfl))) (rfl)) rfl rfl rfl ?_
    refine stm rfl rfl rfl ?_
    refine st0 (hop_ia_sl el_25 rfl rfl (by omega) (by omega) (nb rfl)) rfl rfl ?_
    refine st0 (HOp.val (v' := intV ((b + T.sizeL (t.kidsT.take i) + (t.kidsT.getD i default).size - 1 : Nat) : Int)) (hop_load_fp ty_3 rfl (nb rfl) (fun h => (by rfl))) (by exact kids_at (i := i) (by omega) (by rw [hkid, hroot]; unfold T.root; omega))) rfl rfl ?_
    refine st0 (hop_call0 (xs := [_, _]) (ih i him) ⟨rfl, ⟨rfl, trivial⟩⟩ ⟨(Fz.eq rfl), ⟨(Fz.eq rfl), trivial⟩⟩) rfl rfl ?_
    refine st0 (hop_addi rfl rfl rfl (by omega) (by omega)) rfl rfl ?_
    refine st0 (HOp.val (v' := intV (wMin (T.wL (t.kidsT.take (i + 1))))) (hop_min rfl rfl) (by rw [hwt, ← hma])) rfl rfl ?_
    refine sta rfl rfl rfl ?_
    refine hseq_nil ?_
    refine hq_block ?_
    refine h12 _ ?_
    refine hw_region ?_
    refine stm rfl rfl rfl ?_
    refine st0 (hop_addi rfl rfl rfl (by omega) (by omega)) rfl rfl ?_
    refine sta rfl rfl rfl ?_
    refine hseq_nil ?_
    exact hL9 (i + 1) _ _ (by (try dsimp only); omega) (by (try dsimp only); omega) (hsub_of rfl (Nat.le_refl _) (TmSub.cons rfl (Sb.refl _) (TmSub.cons rfl (Sb.refl _) (TmSub.cons rfl (Sb.refl _) (TmSub.cons rfl (Sb.refl _) TmSub.nil)))) (HpSub.cons rfl (OSub.refl _) HpSub.nil))
  have hr1 := hc1; (try simp only [hcs, Int.reduceToNat] at hc1)
  have hit : i = t.kidsT.length := (by have h := hr1; simp [hkid, hrl] at h; omega); rw [hit, List.take_length] at hm1 ⊢
  refine hw_exit ?_
  refine hq_then_exit ?_
  refine hq_then_exit ?_
  refine hq_block_here ?_
  refine h7 _ ?_
  refine hw_seq (fun Nh13 h13 => ?_)
  refine srg fun N h14 => ?_
  refine st0 (hop_fa fd_27_0 rfl) rfl rfl ?_
  refine st1 (hol_load ty_3 rfl (nb rfl) (nb rfl) (fun h => (by rfl))) rfl rfl rfl ?_
  refine st0 (hop_eql rfl rfl) rfl rfl ?_
  refine stm rfl rfl rfl ?_
  refine stg 35 (fun hb => hop_fa fd_27_2 rfl) rfl rfl rfl rfl rfl ?_
  refine hq_g 37 3 35 true _ (fun hb => hol_load ty_3 rfl (nb rfl) (nb rfl) (fun h => (by rfl))) rfl rfl rfl rfl (pre1 rfl) rfl rfl rfl ?_
  refine stg 35 (fun hb => hop_lss rfl rfl) rfl rfl rfl rfl rfl ?_
  refine hq_p 39 (hstep_and _ _ rfl rfl rfl) rfl rfl rfl ?_
  refine hseq_nilU (by rfl) (by simp only [dropUn, slots]; exact rfl) ?_
  refine h14 _ ?_
  refine hw_cond _ rfl (fun hc2 => ?_) (fun hc2 => ?_)
  · have hr2 := hc2; (try simp only [hcs, Int.reduceToNat] at hc2)
    have hct := w_count b (by rw [← hpk]; exact hc2.1) hok; rw [htp] at hct; have hmi := many_int p.low p.high hct.2.1; have hmm := wMin_mul (T.wL t.kidsT) (manyOf p.low p.high) (by omega); have hmx : (if p.low < 1 then 1 else p.low) = ((manyOf p.low p.high : Nat) : Int) := (by rw [← hmi, if_pos hc2.2])
    refine hw_region ?_
    refine stm rfl rfl rfl ?_
    refine st0 (hop_fa fd_27_1 rfl) rfl rfl ?_
    refine st1 (hol_load ty_3 rfl (nb rfl) (nb rfl) (fun h => (by rfl))) rfl rfl rfl ?_
    refine st0 (HOp.val (v' := intV ((manyOf p.low p.high : Nat) : Int)) (hop_max rfl rfl) (by rw [← hmx])) rfl rfl ?_
    refine st0 (hop_muli rfl rfl rfl (by omega) (by omega)) rfl rfl ?_
    refine sta rfl rfl rfl ?_
    refine snl h13 ?_
    refine srg fun N h15 => ?_
    refine stm rfl rfl rfl ?_
    refine st0 (hop_min rfl rfl) rfl rfl ?_
    refine sta rfl rfl rfl ?_
    refine snl h15 ?_
    refine hw_ret ?_
    refine hq_ret1 rfl (rval_tmp rfl) [] rfl pre0 ?_
    rw [hct.1, ← hmm.1]; exact .imm _
  have hr2 := hc2; (try simp only [hcs, Int.reduceToNat] at hc2)
  refine srg fun N h16 => ?_
  refine st0 (hop_fa fd_27_0 rfl) rfl rfl ?_
  refine st1 (hol_load ty_3 rfl (nb rfl) (nb rfl) (fun h => (by rfl))) rfl rfl rfl ?_
  refine st0 (hop_eql rfl rfl) rfl rfl ?_
  refine snl h16 ?_
  refine hw_cond _ rfl (fun hc3 => ?_) (fun hc3 => ?_)
  · have hr3 := hc3; (try simp only [hcs, Int.reduceToNat] at hc3)
    have hct := w_count b (by rw [← hpk]; exact hc3) hok; rw [htp] at hct; have hmi := many_int p.low p.high hct.2.1; have hmm := wMin_mul (T.wL t.kidsT) (manyOf p.low p.high) (by omega); have hmx : p.high = ((manyOf p.low p.high : Nat) : Int) := (by rw [← hmi, if_neg (fun h => by have h2 := hr2; simp [hc3, h] at h2)])
    refine hw_region ?_
    refine stm rfl rfl rfl ?_
    refine st0 (hop_fa fd_27_2 rfl) rfl rfl ?_
    refine st1 (HOp.val (v' := intV ((manyOf p.low p.high : Nat) : Int)) (hol_load ty_3 rfl (nb rfl) (nb rfl) (fun h => (by rfl))) (by exact congrArg intV hmx)) rfl rfl rfl ?_
    refine st0 (hop_muli rfl rfl rfl (by omega) (by omega)) rfl rfl ?_
    refine sta rfl rfl rfl ?_
    refine snl h13 ?_
    refine srg fun N h17 => ?_
    refine stm rfl rfl rfl ?_
    refine st0 (hop_min rfl rfl) rfl rfl ?_
    refine sta rfl rfl rfl ?_
    refine snl h17 ?_
    refine hw_ret ?_
    refine hq_ret1 rfl (rval_tmp rfl) [] rfl pre0 ?_
    rw [hct.1, ← hmm.1]; exact .imm _
  have hr3 := hc3; (try simp only [hcs, Int.reduceToNat] at hc3)
  have hwm := w_many (by rw [← hpk]; exact hc0) (by rw [← hpk]; exact hc3); rw [← hwm] at hm1 ⊢
  refine hw_skip ?_
  refine h13 _ ?_
  refine srg fun N h18 => ?_
  refine stm rfl rfl rfl ?_
  refine st0 (hop_min rfl rfl) rfl rfl ?_
  refine sta rfl rfl rfl ?_
  refine snl h18 ?_
  refine hw_ret ?_
  refine hq_ret1 rfl (rval_tmp rfl) [] rfl pre0 ?_
  rw [wMin_id]; exact .imm _
mutual
theorem manyT_h (e : List Pt) (he : e.length ≤ 100000) : ∀ (t : T) (b : Nat), t.ok = true → AtP e b (T.flat b t) → MnC e b t
  | .name s, b, hok, hat => many_one e he b (.name s) hok hat (Nat.zero_le _) (fun i hi => absurd hi (Nat.not_lt_zero _))
  | .times lo hi t, b, hok, hat => by
    have hok' : t.ok = true := by simp only [T.ok, Bool.and_eq_true] at hok; exact hok.2
    refine many_one e he b (.times lo hi t) hok hat (by simp [T.kidsT]) (fun i hi => ?_)
    obtain rfl : i = 0 := by simpa [T.kidsT] using hi
    have := manyT_h e he t b hok' (by simp only [T.flat] at hat; exact atP_left hat)
    simpa [T.kidsT, T.sizeL] using this
  | .many k ts, b, hok, hat => by
    have hok' : T.okL ts = true := by simp only [T.ok, Bool.and_eq_true] at hok; exact hok.2
    have hkl : (T.many k ts).kidsT.length ≤ 100000 := by
      have := kids_few2 (t := .many k ts); have := (at_top hat).2; omega
    exact many_one e he b (.many k ts) hok hat hkl (fun i hi => manyL_h e he ts hok' i hi _ (kids_at' hat hi))
theorem manyL_h (e : List Pt) (he : e.length ≤ 100000) : ∀ ts : List T, T.okL ts = true → ∀ i, i < ts.length → ∀ b, AtP e b (T.flat b (ts.getD i default)) → MnC e b (ts.getD i default)
  | [], _, i, hi => absurd hi (Nat.not_lt_zero _)
  | t :: ts, hok, i, hi => fun b hat => by
    simp only [T.okL, Bool.and_eq_true] at hok
    cases i with
    | zero => exact manyT_h e he t b hok.1 hat
    | succ i => exact manyL_h e he ts hok.2 i (by simpa using hi) b (by simpa using hat)
end
end Go.Proofs.YtldjnmljnlhaaaaGreatDoor

namespace Go.Proofs.YtldjnmljnlhaaaaGreatDoor
set_option linter.unusedSimpArgs false
set_option linter.unusedVariables false
set_option maxRecDepth 100000
set_option maxHeartbeats 1000000
open Go.RowKit
section
variable {ov : Nat → Option HV} {g : Nat} {d : Option Tmp} {ty : TypeId} {pos : String} {af : Array Edge} {gd : Option (Nat × Bool)} {T yT : TypeId} {x y : Operand}
theorem hop_eql_fp {n : Nat} {f : Nat → HV} (hT : T = 36) (h1 : ovl ov x = some (.fp n f)) (h2 : ovl ov y = some (.imm (.pointer none))) :
    HOp Tryz.prog ⟨d, .binOp .eql T x y yT, ty, pos, af, gd⟩ ov g [] (.imm (.bool false)) [] :=
  hop_pure fun w E ρ hr => by
    subst hT
    have e2 := Rep.imm_inv (hr y _ (by simp [Op.operands]) h2)
    have e1 := hr x _ (by simp [Op.operands]) h1
    generalize hv : ρ x = v at e1
    cases e1 with
    | fp b o _ _ vs _ _ =>
      refine ⟨_, ?_, .imm _⟩
      have hg : (eqGuard .eql 36 x y (.pointer (some ⟨b, o, none⟩)) (.pointer none)).run Tryz.prog w = .ok () w := by kernel_rfl
      have hT : (binOp .eql 36 (.pointer (some ⟨b, o, none⟩)) (.pointer none)).run Tryz.prog w = .ok (.bool false) w := by kernel_rfl
      simp only [execOp, hv, e2, Sem.run_bind, hg, Result.andThen_ok, hT, Sem.run_pure]
theorem hop_eql_pn (hT : T = 36) (h1 : ovl ov x = some (.imm (.pointer none))) (h2 : ovl ov y = some (.imm (.pointer none))) :
    HOp Tryz.prog ⟨d, .binOp .eql T x y yT, ty, pos, af, gd⟩ ov g [] (.imm (.bool true)) [] :=
  hop_pure fun w E ρ hr => by
    subst hT
    have e2 := Rep.imm_inv (hr y _ (by simp [Op.operands]) h2)
    have e1 := Rep.imm_inv (hr x _ (by simp [Op.operands]) h1)
    refine ⟨_, ?_, .imm _⟩
    have hg : (eqGuard .eql 36 x y (.pointer none) (.pointer none)).run Tryz.prog w = .ok () w := by kernel_rfl
    have hT : (binOp .eql 36 (.pointer none) (.pointer none)).run Tryz.prog w = .ok (.bool true) w := by kernel_rfl
    simp only [execOp, e1, e2, Sem.run_bind, hg, Result.andThen_ok, hT, Sem.run_pure]
end
theorem nplaces_h (wd : Nat) (on : List Bag) (β : Nat → Bag) (p : Pc) (hw : wd ≤ 1000) : HPure Tryz.prog 16 [netP wd on β p] (intV (wd : Int)) := by
  refine hpure_of Tryz.func16 rfl (by kernel_rfl) _ _ _ rfl 10 rfl rfl (fun w F => ?_)
  refine srg fun N h1 => ?_
  refine sta rfl rfl rfl ?_
  refine snl h1 ?_
  refine hw_seq (fun Nh2 h2 => ?_)
  refine srg fun N h3 => ?_
  refine stm rfl rfl rfl ?_
  refine st0 (hop_eql_fp rfl rfl rfl) rfl rfl ?_
  refine snl h3 ?_
  refine hw_cond _ rfl (fun hc0 => ?_) (fun hc0 => ?_)
  · have hr0 := hc0; (try simp only [hcs, Int.reduceToNat] at hc0)
    exfalso; simp at hr0
  have hr0 := hc0; (try simp only [hcs, Int.reduceToNat] at hc0)
  refine hw_skip ?_
  refine h2 _ ?_
  refine srg fun N h4 => ?_
  refine stm rfl rfl rfl ?_
  refine st0 (hop_nilcheck_fp rfl) rfl rfl ?_
  refine st0 (hop_fa_fp fd_71_0 rfl (nb rfl)) rfl rfl ?_
  refine st0 (HOp.val (v' := (HV.sl 4 wd (rowF (onF on)))) (hop_load_fp ty_69 rfl (nb rfl) (fun h => (by rfl))) (rfl)) rfl rfl ?_
  refine st0 (hop_len_sl (T := 69) rfl (elOf_spec el_69).1 rfl) rfl rfl ?_
  refine sta rfl rfl rfl ?_
  refine snl h4 ?_
  refine hw_ret ?_
  refine hq_ret1 rfl (rval_tmp rfl) [] rfl pre0 ?_
  exact .imm _
theorem nfirst_h (wd : Nat) (on : List Bag) (β : Nat → Bag) (p : Pc) : HPure Tryz.prog 15 [netP wd on β p] (bagH p.first) := by
  refine hpure_of Tryz.func15 rfl (by kernel_rfl) _ _ _ rfl 10 rfl rfl (fun w F => ?_)
  refine srg fun N h1 => ?_
  refine hm_1 2 (hop_alloc (id := 2) (sz := 4) zc_33 rfl rfl (nb rfl) (nb rfl)) rfl rfl pre0 rfl rfl (c' := 1) rfl ?_
  refine snl h1 ?_
  refine hw_seq (fun Nh2 h2 => ?_)
  refine srg fun N h3 => ?_
  refine stm rfl rfl rfl ?_
  refine st0 (hop_eql_fp rfl rfl rfl) rfl rfl ?_
  refine snl h3 ?_
  refine hw_cond _ rfl (fun hc0 => ?_) (fun hc0 => ?_)
  · have hr0 := hc0; (try simp only [hcs, Int.reduceToNat] at hc0)
    exfalso; simp at hr0
  have hr0 := hc0; (try simp only [hcs, Int.reduceToNat] at hc0)
  refine hw_skip ?_
  refine h2 _ ?_
  refine srg fun N h4 => ?_
  refine stm rfl rfl rfl ?_
  refine st0 (hop_nilcheck_fp rfl) rfl rfl ?_
  refine st0 (hop_fa_fp fd_71_2 rfl (nb rfl)) rfl rfl ?_
  refine st0 (hop_load_fp ty_33 rfl (nb rfl) (fun h => (by cases h))) rfl rfl ?_
  refine hm_s1 (hol_storeW ty_33 rfl rfl rfl rfl) rfl rfl (pre1 rfl) (c' := 2) rfl ?_
  refine snl h4 ?_
  refine hw_ret ?_
  refine hq_ret1 rfl (rvl_cell rfl rfl ty_33 (fun h => by first | rfl | cases h) rfl rfl) [] rfl pre0 ?_
  exact fz_bg (by exact j4 rfl rfl rfl rfl)
theorem nends_h (wd : Nat) (on : List Bag) (β : Nat → Bag) (p : Pc) : HPure Tryz.prog 23 [netP wd on β p] (bagH p.ends) := by
  refine hpure_of Tryz.func23 rfl (by kernel_rfl) _ _ _ rfl 10 rfl rfl (fun w F => ?_)
  refine srg fun N h1 => ?_
  refine hm_1 2 (hop_alloc (id := 2) (sz := 4) zc_33 rfl rfl (nb rfl) (nb rfl)) rfl rfl pre0 rfl rfl (c' := 1) rfl ?_
  refine snl h1 ?_
  refine hw_seq (fun Nh2 h2 => ?_)
  refine srg fun N h3 => ?_
  refine stm rfl rfl rfl ?_
  refine st0 (hop_eql_fp rfl rfl rfl) rfl rfl ?_
  refine snl h3 ?_
  refine hw_cond _ rfl (fun hc0 => ?_) (fun hc0 => ?_)
  · have hr0 := hc0; (try simp only [hcs, Int.reduceToNat] at hc0)
    exfalso; simp at hr0
  have hr0 := hc0; (try simp only [hcs, Int.reduceToNat] at hc0)
  refine hw_skip ?_
  refine h2 _ ?_
  refine srg fun N h4 => ?_
  refine stm rfl rfl rfl ?_
  refine st0 (hop_nilcheck_fp rfl) rfl rfl ?_
  refine st0 (hop_fa_fp fd_71_3 rfl (nb rfl)) rfl rfl ?_
  refine st0 (hop_load_fp ty_33 rfl (nb rfl) (fun h => (by cases h))) rfl rfl ?_
  refine hm_s1 (hol_storeW ty_33 rfl rfl rfl rfl) rfl rfl (pre1 rfl) (c' := 2) rfl ?_
  refine snl h4 ?_
  refine hw_ret ?_
  refine hq_ret1 rfl (rvl_cell rfl rfl ty_33 (fun h => by first | rfl | cases h) rfl rfl) [] rfl pre0 ?_
  exact fz_bg (by exact j4 rfl rfl rfl rfl)
theorem nat_h (wd : Nat) (γ : Nat → Bag) (i : Int) (hw : wd ≤ 1000) : HPure Tryz.prog 45 [.sl 4 wd (rowF γ), intV i] (bagH (if 0 ≤ i ∧ i < (wd : Int) then γ i.toNat else Bag.zero)) := by
  refine hpure_of Tryz.func45 rfl (by kernel_rfl) _ _ _ rfl 18 rfl rfl (fun w F => ?_)
  refine srg fun N h1 => ?_
  refine hm_1 4 (hop_alloc (id := 4) (sz := 4) zc_33 rfl rfl (nb rfl) (nb rfl)) rfl rfl pre0 rfl rfl (c' := 1) rfl ?_
  refine snl h1 ?_
  refine hw_seq (fun Nh2 h2 => ?_)
  refine srg fun N h3 => ?_
  refine stm rfl rfl rfl ?_
  refine st0 (hop_lss rfl rfl) rfl rfl ?_
  refine stm rfl rfl rfl ?_
  refine stg 7 (fun hb => hop_move rfl) rfl rfl rfl rfl rfl ?_
  refine stg 7 (fun hb => hop_move rfl) rfl rfl rfl rfl rfl ?_
  refine stg 7 (fun hb => hop_len_sl (T := 69) rfl (elOf_spec el_69).1 rfl) rfl rfl rfl rfl rfl ?_
  refine stg 7 (fun hb => hop_geq rfl rfl) rfl rfl rfl rfl rfl ?_
  refine hq_p 12 (hstep_or _ _ rfl rfl rfl) rfl rfl rfl ?_
  refine hseq_nilU (by rfl) (by simp only [dropUn, slots]; exact rfl) ?_
  refine h3 _ ?_
  refine hw_cond _ rfl (fun hc0 => ?_) (fun hc0 => ?_)
  · have hr0 := hc0; (try simp only [hcs, Int.reduceToNat] at hc0)
    refine srg fun N h4 => ?_
    refine st0 (hop_build (hs := []) st_33 rfl rfl trivial) rfl rfl ?_
    refine hm_s1 (hol_storeW ty_33 rfl rfl rfl rfl) rfl rfl (pre1 rfl) (c' := 2) rfl ?_
    refine snl h4 ?_
    refine hw_ret ?_
    refine hq_then_ret ?_
    refine hq_ret1 rfl (rvl_cell rfl rfl ty_33 (fun h => by first | rfl | cases h) rfl rfl) [] rfl pre0 ?_
    rw [if_neg (by omega)]; exact fz_bg (by exact j4 rfl rfl rfl rfl)
  have hr0 := hc0; (try simp only [hcs, Int.reduceToNat] at hc0)
  have hin : 0 ≤ i ∧ i < (wd : Int) := (by simp at hr0; omega)
  refine hw_skip ?_
  refine h2 _ ?_
  refine srg fun N h5 => ?_
  refine stm rfl rfl rfl ?_
  refine stm rfl rfl rfl ?_
  refine st0 (hop_ia_sl el_69 rfl rfl (by omega) (by omega) (nb rfl)) rfl rfl ?_
  refine st0 (hop_load_fp ty_33 rfl (nb rfl) (fun h => (by cases h))) rfl rfl ?_
  refine hm_s1 (hol_storeW ty_33 rfl rfl rfl rfl) rfl rfl (pre1 rfl) (c' := 2) rfl ?_
  refine snl h5 ?_
  refine hw_ret ?_
  refine hq_ret1 rfl (rvl_cell rfl rfl ty_33 (fun h => by first | rfl | cases h) rfl rfl) [] rfl pre0 ?_
  rw [if_pos hin]; exact fz_bg (by exact j4 rfl rfl rfl rfl)
theorem nbehind_h (wd : Nat) (on : List Bag) (β : Nat → Bag) (p : Pc) (i : Int) (hw : wd ≤ 1000) : HPure Tryz.prog 21 [netP wd on β p, intV i] (bagH (if 0 ≤ i ∧ i < (wd : Int) then β i.toNat else Bag.zero)) := by
  refine hpure_of Tryz.func21 rfl (by kernel_rfl) _ _ _ rfl 14 rfl rfl (fun w F => ?_)
  refine srg fun N h1 => ?_
  refine hm_1 4 (hop_alloc (id := 4) (sz := 4) zc_33 rfl rfl (nb rfl) (nb rfl)) rfl rfl pre0 rfl rfl (c' := 1) rfl ?_
  refine snl h1 ?_
  refine hw_seq (fun Nh2 h2 => ?_)
  refine srg fun N h3 => ?_
  refine stm rfl rfl rfl ?_
  refine st0 (hop_eql_fp rfl rfl rfl) rfl rfl ?_
  refine snl h3 ?_
  refine hw_cond _ rfl (fun hc0 => ?_) (fun hc0 => ?_)
  · have hr0 := hc0; (try simp only [hcs, Int.reduceToNat] at hc0)
    exfalso; simp at hr0
  have hr0 := hc0; (try simp only [hcs, Int.reduceToNat] at hc0)
  refine hw_skip ?_
  refine h2 _ ?_
  refine srg fun N h4 => ?_
  refine stm rfl rfl rfl ?_
  refine st0 (hop_nilcheck_fp rfl) rfl rfl ?_
  refine st0 (hop_fa_fp fd_71_1 rfl (nb rfl)) rfl rfl ?_
  refine st0 (HOp.val (v' := (HV.sl 4 wd (rowF β))) (hop_load_fp ty_69 rfl (nb rfl) (fun h => (by rfl))) (rfl)) rfl rfl ?_
  refine stm rfl rfl rfl ?_
  refine st0 (hop_call0 (xs := [_, _]) (nat_h wd β i hw) ⟨rfl, ⟨rfl, trivial⟩⟩ ⟨(.sl _ _ _ _ fun _ _ _ _ => .imm _), ⟨(Fz.eq rfl), trivial⟩⟩) rfl rfl ?_
  refine hm_s1 (hol_storeW ty_33 rfl rfl rfl rfl) rfl rfl (pre1 rfl) (c' := 2) rfl ?_
  refine snl h4 ?_
  refine hw_ret ?_
  refine hq_ret1 rfl (rvl_cell rfl rfl ty_33 (fun h => by first | rfl | cases h) rfl rfl) [] rfl pre0 ?_
  exact fz_bg (by exact j4 rfl rfl rfl rfl)
theorem some_h (s : List UInt8) : HPure Tryz.prog 7 [strV s] (bagH (bagOf [1])) := by
  refine hpure_of Tryz.func7 rfl (by kernel_rfl) _ _ _ rfl 5 rfl rfl (fun w F => ?_)
  refine srg fun N h1 => ?_
  refine hm_1 2 (hop_alloc (id := 2) (sz := 4) zc_33 rfl rfl (nb rfl) (nb rfl)) rfl rfl pre0 rfl rfl (c' := 1) rfl ?_
  refine snl h1 ?_
  refine srg fun N h2 => ?_
  refine hm_1 3 (hop_buildSlice (id := 3) (hs := [_]) ei_25 (nb rfl) rfl (nb rfl) ⟨rfl, rfl, rfl, rfl, trivial⟩) rfl rfl pre0 rfl rfl (c' := 2) rfl ?_
  refine hm_ 4 (hop_call (xs := [_]) [(3, _)] (of_h [1] (by simp)) ⟨rfl, trivial⟩ ⟨(show Fz _ _ (iListV [1]) from fz_row (l := [(1 : Int)]) (enc := fun x _ => intV x) (d := 0) (List.mem_cons_self ..) rfl rfl (Nat.le_refl _) (fun i j hi hj => by obtain rfl : i = 0 := (by simpa using hi); exact .imm _)), trivial⟩ rfl) rfl rfl (preC rfl pre0) rfl rfl (c' := 3) rfl ?_
  refine hm_s1 (hol_storeW ty_33 rfl rfl rfl rfl) rfl rfl (pre1 rfl) (c' := 4) rfl ?_
  refine snl h2 ?_
  refine hw_ret ?_
  refine hq_ret1 rfl (rvl_cell rfl rfl ty_33 (fun h => by first | rfl | cases h) rfl rfl) [] rfl pre0 ?_
  exact fz_bg (by exact j4 rfl rfl rfl rfl)
theorem livef_h (s : List UInt8) (hs : s ≠ []) : HPure Tryz.prog 31 [strV s] (bagH (bagOf [(s.length : Int), bz s 0 - 97])) := by
  have hl : 0 < s.length := List.length_pos_iff.2 hs
  have hb8 : (s.getD 0 0).toNat < 256 := UInt8.toNat_lt _
  have hb9 : (s[0]?.getD 0).toNat < 256 := UInt8.toNat_lt _
  refine hpure_of Tryz.func31 rfl (by kernel_rfl) _ _ _ rfl 11 rfl rfl (fun w F => ?_)
  refine srg fun N h1 => ?_
  refine hm_1 2 (hop_alloc (id := 2) (sz := 4) zc_33 rfl rfl (nb rfl) (nb rfl)) rfl rfl pre0 rfl rfl (c' := 1) rfl ?_
  refine snl h1 ?_
  refine srg fun N h2 => ?_
  refine stm rfl rfl rfl ?_
  refine st0 (hop_len_strl (T := 9) rfl (by kernel_rfl) rfl) rfl rfl ?_
  refine stm rfl rfl rfl ?_
  refine st0 (hop_ix_strl (by kernel_rfl) rfl rfl (by omega) (by omega)) rfl rfl ?_
  refine st0 (hop_convk wok_i64 (by kernel_rfl) (by kernel_rfl) rfl (by omega) (by simp <;> omega)) rfl rfl ?_
  refine st0 (hop_subi rfl rfl rfl (by omega) (by simp <;> omega)) rfl rfl ?_
  refine hm_1 9 (hop_buildSlice (id := 9) (hs := [_, _]) ei_25 (nb rfl) rfl (nb rfl) ⟨rfl, rfl, rfl, rfl, ⟨rfl, rfl, rfl, rfl, trivial⟩⟩) rfl rfl pre0 rfl rfl (c' := 2) rfl ?_
  refine hm_ 10 (hop_call (xs := [_]) [(9, _)] (of_h [(s.length : Int), bz s 0 - 97] (by simp)) ⟨rfl, trivial⟩ ⟨(show Fz _ _ (iListV [(s.length : Int), bz s 0 - 97]) from fz_row (l := [(s.length : Int), bz s 0 - 97]) (enc := fun x _ => intV x) (d := 0) (List.mem_cons_self ..) rfl rfl (Nat.le_refl _) (fun i j hi hj => by match i, hi, j, hj with | 0, _, 0, _ => exact .imm _ | 1, _, 0, _ => exact fz_intB (by show _ = bz s 0 - 97; rw [bz_in hl]; rfl))), trivial⟩ rfl) rfl rfl (preC rfl pre0) rfl rfl (c' := 3) rfl ?_
  refine hm_s1 (hol_storeW ty_33 rfl rfl rfl rfl) rfl rfl (pre1 rfl) (c' := 4) rfl ?_
  refine snl h2 ?_
  refine hw_ret ?_
  refine hq_ret1 rfl (rvl_cell rfl rfl ty_33 (fun h => by first | rfl | cases h) rfl rfl) [] rfl pre0 ?_
  exact fz_bg (by exact j4 rfl rfl rfl rfl)
end Go.Proofs.YtldjnmljnlhaaaaGreatDoor

namespace Go.Proofs.YtldjnmljnlhaaaaGreatDoor
set_option linter.unusedSimpArgs false
set_option linter.unusedVariables false
set_option maxRecDepth 100000
set_option maxHeartbeats 1000000
open Go.RowKit
def exE7 : List UInt8 := [97, 123, 49, 44, 50, 125, 32, 98, 42]
def exG7 : List Sg := [⟨1, 0, 0, 0, [97]⟩, ⟨5, 1, 1, 2, []⟩, ⟨1, 7, 0, 0, [98]⟩, ⟨5, 8, 0, -1, []⟩]
def exT7 : T := .many 2 [.times 1 2 (.name [97]), .times 0 (-1) (.name [98])]
theorem exE7_lex0 : (match lexV exE7 with | .ok l => decide (l = exG7) | .error _ => false) = true := by decide +kernel
theorem exE7_lex : lexV exE7 = .ok exG7 := by
  have := exE7_lex0
  split at this
  · rename_i l hl; rw [hl, of_decide_eq_true this]
  · cases this
theorem exT7_ok : exT7.ok = true := by decide +kernel
theorem exT7_seg : Seg exG7 3 0 exG7.length exT7 := by
  refine .choice1 _ _ _ (.row 0 4 [.times 1 2 (.name [97]), .times 0 (-1) (.name [98])] (fun i => 2 * i) (by decide) rfl rfl (fun i hi => ?_))
  match i, hi with
  | 0, _ => exact .times 0 1 (.name [97]) (.name 0 (by decide)) (by decide)
  | 1, _ => exact .times 2 3 (.name [98]) (.name 2 (by decide)) (by decide)
theorem ex7_parse {r : List Pt × Int × Int} (h : ParseIs exE7 r) : r = (T.flat 0 exT7, 0, 0) := by
  have hne : exG7 ≠ [] := by decide
  have hc : chk exG7 0 0 true true = (-1, false) := all_good exT7_seg
  cases h with
  | err e hv => rw [exE7_lex] at hv; cases hv
  | none hv => rw [exE7_lex] at hv; injection hv with hv; exact absurd hv hne
  | odd l q hv _ _ hq => rw [exE7_lex] at hv; injection hv with hv; subst hv; rw [hc] at hq; injection hq with hq _; exact absurd hq (by omega)
  | end_ l hv _ hq => rw [exE7_lex] at hv; injection hv with hv; subst hv; rw [hc] at hq; injection hq with _ hq; cases hq
  | ok l t hv hs => rw [exE7_lex] at hv; injection hv with hv; subst hv; rw [seg_one hs exT7_seg]
def exM7 (s : List UInt8) : Bag := bagOf [(s.length : Int), bz s 0 - 97]
theorem nameV_ne {s : List UInt8} (h : nameV s = true) : s ≠ [] := by rintro rfl; revert h; decide +kernel
theorem exM7_ok : MeanOk 31 0 (fun _ => default) [] exM7 :=
  ⟨rfl, fun i hi => absurd hi (Nat.not_lt_zero _), trivial, fun sh => .fn _ _ _ _ (fun i hi => absurd hi (Nat.not_lt_zero _)), fun s hs => livef_h s (nameV_ne hs), fun s => (bagOf_ok_has _).1⟩
theorem ex7_none : noneV exM7 (T.flat 0 exT7) = false := by decide +kernel
theorem ex7_w : exT7.w = 3 := by decide +kernel
theorem ex7_net : (lay exM7 exT7 0).pc.first = bagOf [0] ∧ (lay exM7 exT7 0).pc.ends = bagOf [0, 1, 2] ∧ links (fun _ => Bag.zero) (lay exM7 exT7 0).lk 0 = bagOf [1, 2] ∧ links (fun _ => Bag.zero) (lay exM7 exT7 0).lk 2 = bagOf [2] := by decide +kernel
theorem some_ok : MeanOk 7 0 (fun _ => default) [] (fun _ => bagOf [1]) :=
  ⟨rfl, fun i hi => absurd hi (Nat.not_lt_zero _), trivial, fun sh => .fn _ _ _ _ (fun i hi => absurd hi (Nat.not_lt_zero _)), fun s hs => some_h s, fun s => (bagOf_ok_has _).1⟩
theorem some_none (e : List Pt) : noneV (fun _ => bagOf [1]) e = false := by
  unfold noneV
  rw [List.any_eq_false]
  intro x _
  have : bagOf [1] ≠ Bag.zero := by decide +kernel
  simp [this]
end Go.Proofs.YtldjnmljnlhaaaaGreatDoor

namespace Go.Proofs.YtldjnmljnlhaaaaGreatDoor
set_option linter.unusedSimpArgs false
set_option linter.unusedVariables false
set_option maxRecDepth 100000
set_option maxHeartbeats 1000000
open Go.RowKit
section
variable {P : Program} {ops : Array Oper} {g : Nat}
/-- Under a guard that is known to hold. -/
theorem hstep_known {o : Oper} {tm : Nat → Option TV} {pre post : List (Nat × HObj)} {v : HV} (gi j : Nat) (b : Bool) (hg : o.guard = some (gi, b)) (hgi : (ops[gi]?).bind (·.dst) = some j) (hc : tm j = some (.v (.imm (.bool b)))) (h : HOp P o (pview tm) g pre v post) : HStep P ops o tm g ⟨.v v, j :: ops_tmps o, pre, post⟩ := by
  intro K w0 F0 E hh a w Q N r ht hG hBd hp hN
  have hj : a.tmps.getD j undef = .bool b := Rep.imm_inv (ht j _ (List.mem_cons_self ..) hc)
  have hwant : Region.wanted o (yielded ops a.tmps) = true := by
    unfold Region.wanted yielded
    rw [hg]
    simp only [hgi, Option.bind_some]
    by_cases hjs : j < a.tmps.size
    · have e1 : a.tmps[j]? = some a.tmps[j] := Array.getElem?_eq_getElem hjs
      have e2 : a.tmps.getD j undef = a.tmps[j] := by simp [hjs]
      rw [e1, ← e2, hj]; simp
    · have e2 : a.tmps.getD j undef = undef := by simp [hjs]
      rw [e2] at hj; simp [undef] at hj
  rw [if_pos hwant]
  refine h K w0 F0 E hh a w Q N r (fun x hv hx ho => ?_) hG hBd hp hN
  cases x with
  | tmp t =>
    simp only [ovl, pview] at ho
    split at ho
    · rename_i y hy
      injection ho with ho
      subst ho
      exact ht t _ (List.mem_cons_of_mem _ (mem_tmps hx)) hy
    · cases ho
  | const v => exact rep_cst w E _ v hv (by exact ho)
  | global g => injection ho with ho; subst ho; exact .imm _
  | func f => injection ho with ho; subst ho; exact .fn _ _ 0 _ (fun _ => undef) rfl (fun i hi => absurd hi (Nat.not_lt_zero _)) (fun i hi => absurd hi (Nat.not_lt_zero _))
end
section
variable {C : Ctx} {P : Program} {ops : Array Oper} {Q : Exit → Act → World → Prop} {n clk : Nat} {tm : List (Nat × TV)} {hp : List (Nat × HObj)} {rest : List Oper} {o : Oper} {pre post : List (Nat × HObj)} {v : HV}
theorem hq_k (d j : Nat) (b : Bool) (hop : HOp P o (pview (tget tm)) clk pre v []) (hd : o.dst = some d) {gi : Nat} (hg : o.guard = some (gi, b)) (hgi : (ops[gi]?).bind (·.dst) = some j) (hc : tget tm j = some (.v (.imm (.bool b)))) (hpre : ∀ p ∈ pre, hget hp p.1 = some p.2) (hlt : Nat.blt d n = true) (hk : nokey tm d = true)
    (h : HSeq C P ops rest ⟨n, (d, .v v) :: tm, hp, clk⟩ Q) : HSeq C P ops (o :: rest) ⟨n, tm, hp, clk⟩ Q :=
  hseq_consq (s := ⟨n, tm, hp, clk⟩) d _ hd rfl (hstep_known gi j b hg hgi hc hop) hpre hlt hk h (fun j' b' x h => by cases h)
theorem hm_k (d j : Nat) (b : Bool) (hop : HOp P o (pview (tget tm)) clk pre v post) (hd : o.dst = some d) {gi : Nat} (hg : o.guard = some (gi, b)) (hgi : (ops[gi]?).bind (·.dst) = some j) (hc : tget tm j = some (.v (.imm (.bool b)))) (hpre : ∀ p ∈ pre, hget hp p.1 = some p.2) (hlt : Nat.blt d n = true) (hk : nokey tm d = true) {c' : Nat} (hcc : clk + 1 = c')
    (h : HSeq C P ops rest ⟨n, (d, .v v) :: tm, post ++ hp, c'⟩ Q) : HSeq C P ops (o :: rest) ⟨n, tm, hp, clk⟩ Q := by
  subst hcc; exact hseq_cons (s := ⟨n, tm, hp, clk⟩) d _ hd (hstep_known gi j b hg hgi hc hop) hpre hlt hk h (fun j b x h => by cases h)
end
section
variable {P : Program} {ov : Nat → Option HV} {g : Nat} {d : Option Tmp} {ty : TypeId} {pos : String} {af : Array Edge} {gd : Option (Nat × Bool)} {x y z : Operand} {hx : HV}
theorem hop_pick_t (h1 : ovl ov x = some (.imm (.bool true))) (h2 : ovl ov y = some hx) : HOp P ⟨d, .pick x y z, ty, pos, af, gd⟩ ov g [] hx [] :=
  hop_pure fun w E ρ hr => by
    have e1 := Rep.imm_inv (hr x _ (by simp [Op.operands]) h1)
    exact ⟨ρ y, by simp [execOp, e1, asBool], hr y _ (by simp [Op.operands]) h2⟩
end
instance (w : Nat) (on : List Bag) (β : Nat → Bag) (p : Pc) (j : Nat) : Frz (netQ w on β p j) := ⟨by unfold netQ; split <;> first | exact .imm _ | exact .sl _ _ _ _ fun _ _ _ _ => .imm _⟩
theorem hop_eqb_t {ov : Nat → Option HV} {g : Nat} {d : Option Tmp} {ty : TypeId} {pos : String} {af : Array Edge} {gd : Option (Nat × Bool)} {T yT : TypeId} {x y : Operand} (s : Bag) {f1 f2 : Nat → HV} (hT : T = 33) (h1 : ovl ov x = some (.agg 4 f1)) (h2 : ovl ov y = some (.agg 4 f2)) (hf1 : ∀ j, j < 4 → f1 j = bagF s j) (hf2 : ∀ j, j < 4 → f2 j = bagF s j) :
    HOp Tryz.prog ⟨d, .binOp .eql T x y yT, ty, pos, af, gd⟩ ov g [] (boolV true) [] := by
  have := hop_eql_bag (g := g) (d := d) (ty := ty) (pos := pos) (af := af) (gd := gd) (yT := yT) s s hT h1 h2 hf1 hf2
  simpa using this
theorem live7_h : HPure Tryz.prog 6 [] (boolV true) := by
  have hw := ex7_w
  have hB := ptB_flat exT7_ok (by decide +kernel)
  have hn := ex7_net
  refine hpure_of Tryz.func6 rfl (by kernel_rfl) _ _ _ rfl 51 rfl rfl (fun w F => ?_)
  refine srg fun N h1 => ?_
  refine sta rfl rfl rfl ?_
  refine snl h1 ?_
  refine srg fun N h2 => ?_
  refine hf_callR 7 (xs := [_]) (pre := []) (parse_h _ exE7 (by decide)) ⟨rfl, trivial⟩ pre0 rfl rfl (fun r c1 hr => ?_)
  (try dsimp only)
  refine stm rfl rfl rfl ?_
  refine st0 (hop_extract rfl rfl) rfl rfl ?_
  refine st0 (hop_extract rfl rfl) rfl rfl ?_
  refine st0 (hop_extract rfl rfl) rfl rfl ?_
  refine sta rfl rfl rfl ?_
  refine sta rfl rfl rfl ?_
  refine sta rfl rfl rfl ?_
  refine snl h2 ?_
  refine hw_seq (fun Nh3 h3 => ?_)
  obtain rfl := ex7_parse hr
  refine hw_region ?_
  refine stm rfl rfl rfl ?_
  refine st0 (hop_call0 (xs := [_, _]) (new_h exM7_ok (T.flat 0 exT7) hB _ (.fine exT7 exT7_ok rfl ex7_none (by rw [hw]; decide))) ⟨rfl, ⟨rfl, trivial⟩⟩ ⟨(Fz.eq rfl), ⟨(Fz.eq rfl), trivial⟩⟩) rfl rfl ?_
  refine stm rfl rfl rfl ?_
  refine st0 (hop_extract rfl rfl) rfl rfl ?_
  refine st0 (hop_extract rfl rfl) rfl rfl ?_
  refine sta rfl rfl rfl ?_
  refine sta rfl rfl rfl ?_
  refine snl h3 ?_
  refine srg fun N h4 => ?_
  refine stm rfl rfl rfl ?_
  refine st0 (hop_eql rfl rfl) rfl rfl ?_
  refine stm rfl rfl rfl ?_
  refine hq_k 19 18 true (hop_move rfl) rfl rfl rfl rfl pre0 rfl rfl ?_
  refine hq_k 20 18 true (hop_call0 (xs := [_]) (nplaces_h (0 + exT7.w) _ _ _ (by rw [hw]; decide)) ⟨rfl, trivial⟩ ⟨(Fz.eq rfl), trivial⟩) rfl rfl rfl rfl pre0 rfl rfl ?_
  refine hq_k 21 18 true (HOp.val (v' := boolV true) (hop_eql rfl rfl) ((by rw [hw]; rfl))) rfl rfl rfl rfl pre0 rfl rfl ?_
  refine st0 (hop_pick_t rfl rfl) rfl rfl ?_
  refine stm rfl rfl rfl ?_
  refine hq_k 24 23 true (hop_move rfl) rfl rfl rfl rfl pre0 rfl rfl ?_
  refine hq_k 25 23 true (hop_call0 (xs := [_]) (nfirst_h _ _ _ _) ⟨rfl, trivial⟩ ⟨(Fz.eq rfl), trivial⟩) rfl rfl rfl rfl pre0 rfl rfl ?_
  refine hm_k 26 23 true (hop_buildSlice (id := 26) (hs := [_]) ei_25 (nb rfl) rfl (nb rfl) ⟨rfl, rfl, rfl, rfl, trivial⟩) rfl rfl rfl rfl pre0 rfl rfl (c' := c1 + 1) rfl ?_
  refine hm_k 27 23 true (hop_call (xs := [_]) [(26, _)] (of_h [0] (by simp)) ⟨rfl, trivial⟩ ⟨(show Fz _ _ (iListV [0]) from fz_row (l := ([0] : List Int)) (enc := fun x _ => intV x) (d := 0) (List.mem_cons_self ..) rfl rfl (Nat.le_refl _) (fun i j hi hj => by match i, hi, j, hj with | 0, _, 0, _ => exact .imm _)), trivial⟩ rfl) rfl rfl rfl rfl (preC rfl pre0) rfl rfl (c' := c1 + 2) rfl ?_
  refine hq_k 28 23 true (hop_eqb_t (bagOf [0]) rfl rfl rfl (by rw [← hn.1]; exact fun _ _ => rfl) (fun _ _ => rfl)) rfl rfl rfl rfl pre0 rfl rfl ?_
  refine st0 (hop_pick_t rfl rfl) rfl rfl ?_
  refine stm rfl rfl rfl ?_
  refine hq_k 31 30 true (hop_move rfl) rfl rfl rfl rfl pre0 rfl rfl ?_
  refine hq_k 32 30 true (hop_call0 (xs := [_]) (nends_h _ _ _ _) ⟨rfl, trivial⟩ ⟨(Fz.eq rfl), trivial⟩) rfl rfl rfl rfl pre0 rfl rfl ?_
  refine hm_k 33 30 true (hop_buildSlice (id := 33) (hs := [_, _, _]) ei_25 (nb rfl) rfl (nb rfl) ⟨rfl, rfl, rfl, rfl, ⟨rfl, rfl, rfl, rfl, ⟨rfl, rfl, rfl, rfl, trivial⟩⟩⟩) rfl rfl rfl rfl pre0 rfl rfl (c' := c1 + 3) rfl ?_
  refine hm_k 34 30 true (hop_call (xs := [_]) [(33, _)] (of_h [0, 1, 2] (by simp)) ⟨rfl, trivial⟩ ⟨(show Fz _ _ (iListV [0, 1, 2]) from fz_row (l := ([0, 1, 2] : List Int)) (enc := fun x _ => intV x) (d := 0) (List.mem_cons_self ..) rfl rfl (Nat.le_refl _) (fun i j hi hj => by match i, hi, j, hj with | 0, _, 0, _ => exact .imm _ | 1, _, 0, _ => exact .imm _ | 2, _, 0, _ => exact .imm _)), trivial⟩ rfl) rfl rfl rfl rfl (preC rfl pre0) rfl rfl (c' := c1 + 4) rfl ?_
  refine hq_k 35 30 true (hop_eqb_t (bagOf [0, 1, 2]) rfl rfl rfl (by rw [← hn.2.1]; exact fun _ _ => rfl) (fun _ _ => rfl)) rfl rfl rfl rfl pre0 rfl rfl ?_
  refine st0 (hop_pick_t rfl rfl) rfl rfl ?_
  refine stm rfl rfl rfl ?_
  refine hq_k 38 37 true (hop_move rfl) rfl rfl rfl rfl pre0 rfl rfl ?_
  refine hq_k 39 37 true (hop_call0 (xs := [_, _]) (nbehind_h _ _ _ _ 0 (by rw [hw]; decide)) ⟨rfl, ⟨rfl, trivial⟩⟩ ⟨(Fz.eq rfl), ⟨(Fz.eq rfl), trivial⟩⟩) rfl rfl rfl rfl pre0 rfl rfl ?_
  refine hm_k 40 37 true (hop_buildSlice (id := 40) (hs := [_, _]) ei_25 (nb rfl) rfl (nb rfl) ⟨rfl, rfl, rfl, rfl, ⟨rfl, rfl, rfl, rfl, trivial⟩⟩) rfl rfl rfl rfl pre0 rfl rfl (c' := c1 + 5) rfl ?_
  refine hm_k 41 37 true (hop_call (xs := [_]) [(40, _)] (of_h [1, 2] (by simp)) ⟨rfl, trivial⟩ ⟨(show Fz _ _ (iListV [1, 2]) from fz_row (l := ([1, 2] : List Int)) (enc := fun x _ => intV x) (d := 0) (List.mem_cons_self ..) rfl rfl (Nat.le_refl _) (fun i j hi hj => by match i, hi, j, hj with | 0, _, 0, _ => exact .imm _ | 1, _, 0, _ => exact .imm _)), trivial⟩ rfl) rfl rfl rfl rfl (preC rfl pre0) rfl rfl (c' := c1 + 6) rfl ?_
  refine hq_k 42 37 true (hop_eqb_t (bagOf [1, 2]) rfl rfl rfl (by rw [if_pos (by rw [hw]; decide), ← hn.2.2.1]; exact fun _ _ => rfl) (fun _ _ => rfl)) rfl rfl rfl rfl pre0 rfl rfl ?_
  refine st0 (hop_pick_t rfl rfl) rfl rfl ?_
  refine stm rfl rfl rfl ?_
  refine hq_k 45 44 true (hop_move rfl) rfl rfl rfl rfl pre0 rfl rfl ?_
  refine hq_k 46 44 true (hop_call0 (xs := [_, _]) (nbehind_h _ _ _ _ 2 (by rw [hw]; decide)) ⟨rfl, ⟨rfl, trivial⟩⟩ ⟨(Fz.eq rfl), ⟨(Fz.eq rfl), trivial⟩⟩) rfl rfl rfl rfl pre0 rfl rfl ?_
  refine hm_k 47 44 true (hop_buildSlice (id := 47) (hs := [_]) ei_25 (nb rfl) rfl (nb rfl) ⟨rfl, rfl, rfl, rfl, trivial⟩) rfl rfl rfl rfl pre0 rfl rfl (c' := c1 + 7) rfl ?_
  refine hm_k 48 44 true (hop_call (xs := [_]) [(47, _)] (of_h [2] (by simp)) ⟨rfl, trivial⟩ ⟨(show Fz _ _ (iListV [2]) from fz_row (l := ([2] : List Int)) (enc := fun x _ => intV x) (d := 0) (List.mem_cons_self ..) rfl rfl (Nat.le_refl _) (fun i j hi hj => by match i, hi, j, hj with | 0, _, 0, _ => exact .imm _)), trivial⟩ rfl) rfl rfl rfl rfl (preC rfl pre0) rfl rfl (c' := c1 + 8) rfl ?_
  refine hq_k 49 44 true (hop_eqb_t (bagOf [2]) rfl rfl rfl (by rw [if_pos (by rw [hw]; decide), ← hn.2.2.2]; exact fun _ _ => rfl) (fun _ _ => rfl)) rfl rfl rfl rfl pre0 rfl rfl ?_
  refine st0 (hop_pick_t rfl rfl) rfl rfl ?_
  refine sta rfl rfl rfl ?_
  refine hseq_nilU (by rfl) (by simp only [dropUn, slots]; exact rfl) ?_
  refine h4 _ ?_
  refine hw_ret ?_
  refine hq_ret1 rfl (rval_tmp rfl) [] rfl pre0 ?_
  exact Frz.fz
end Go.Proofs.YtldjnmljnlhaaaaGreatDoor

namespace Go.Proofs.YtldjnmljnlhaaaaGreatDoor
set_option linter.unusedSimpArgs false
set_option linter.unusedVariables false
set_option maxRecDepth 100000
set_option maxHeartbeats 1000000
open Go.RowKit
theorem new_cases (e : List Pt) : rightV e = false ∨ (e = [] ∨ (∃ t : T, t.ok = true ∧ e = T.flat 0 t ∧ 256 < t.w) ∨ (∃ t : T, t.ok = true ∧ e = T.flat 0 t ∧ t.w ≤ 256)) := by
  cases h : rightV e with
  | false => exact .inl rfl
  | true =>
    rcases rightV_tree h with h | ⟨t, hok, ht⟩
    · exact .inr (.inl h)
    · rcases Nat.lt_or_ge 256 t.w with h | h
      · exact .inr (.inr (.inl ⟨t, hok, ht, h⟩))
      · exact .inr (.inr (.inr ⟨t, hok, ht, h⟩))
theorem take_pts {e : List Pt} {i : Nat} (h : i < e.length) : e.take (i + 1) = e.take i ++ [e.getD i default] := by
  rw [List.take_add_one, List.getD_eq_getElem?_getD, List.getElem?_eq_getElem h]; rfl
theorem nfaRefuses_h (e : List Pt) : HPure Tryz.prog 3 [ptsV e] (boolV true) := by
  refine hpure_of Tryz.func3 rfl (by kernel_rfl) _ _ _ rfl 91 rfl rfl (fun w F => ?_)
  refine srg fun N h1 => ?_
  refine sta rfl rfl rfl ?_
  refine snl h1 ?_
  refine srg fun N h2 => ?_
  refine sta rfl rfl rfl ?_
  refine snl h2 ?_
  refine hw_seq (fun Nh3 h3 => ?_)
  refine srg fun N h4 => ?_
  refine sta rfl rfl rfl ?_
  refine snl h4 ?_
  refine hw_block ?_
  refine hw_own 3 9003 5 29 ((ptsF [])) rfl (by decide) rfl (c' := 1) rfl ?_
  refine hw_loopc (α := Nat × Nat) (fun x c => ⟨91, [(0, .v (ptsV e)), (3, .v (.os 9003 x.2 0 (e.take x.1).length)), (4, .v (intV (x.1 : Int)))], [(9003, ptsO x.2 (e.take x.1))], c⟩) (fun x => x.1 ≤ e.length ∧ x.1 ≤ 40 ∧ ∀ j, j < x.1 → (e.getD j default).kids.length ≤ 40 ∧ (e.getD j default).name.length ≤ 100) (fun x => 40 - x.1) ((0, 0)) (by exact ⟨Nat.zero_le _, by omega, fun j hj => absurd hj (Nat.not_lt_zero _)⟩) (hsub_of rfl (Nat.le_refl _) (TmSub.cons rfl (Sb.refl _) (TmSub.cons rfl (Sb.refl _) (TmSub.cons rfl (Sb.refl _) TmSub.nil))) (HpSub.cons rfl (OSub.refl _) HpSub.nil)) (fun x c hx NhL5 hL5 => ?_)
  revert hx hL5; obtain ⟨i, gr⟩ := x; intro hx hL5; dsimp only at hx hL5 ⊢
  obtain ⟨hi, hi40, hall⟩ := hx
  have htl : (e.take i).length ≤ 40 := (by rw [List.length_take]; omega)
  refine hw_seq (fun Nh6 h6 => ?_)
  refine srg fun N h7 => ?_
  refine stm rfl rfl rfl ?_
  refine stm rfl rfl rfl ?_
  refine st0 (hop_len_sl (T := 22) rfl (elOf_spec el_22).1 rfl) rfl rfl ?_
  refine st0 (hop_lss rfl rfl) rfl rfl ?_
  refine stm rfl rfl rfl ?_
  refine stg 15 (fun hb => hop_move rfl) rfl rfl rfl rfl rfl ?_
  refine stg 15 (fun hb => hop_lss rfl rfl) rfl rfl rfl rfl rfl ?_
  refine hq_p 18 (hstep_and _ _ rfl rfl rfl) rfl rfl rfl ?_
  refine hseq_nilU (by rfl) (by simp only [dropUn, slots]; exact rfl) ?_
  refine h7 _ ?_
  refine hw_cond _ rfl (fun hc0 => ?_) (fun hc0 => ?_)
  · have hr0 := hc0; (try simp only [hcs, Int.reduceToNat] at hc0)
    have hie : i < e.length ∧ i < 40 := (by omega); have hie1 := hie.1
    refine hw_skip ?_
    refine h6 _ ?_
    refine hw_seq (fun Nh8 h8 => ?_)
    refine hw_block ?_
    refine hw_seq (fun Nh9 h9 => ?_)
    refine srg fun N h10 => ?_
    refine stm rfl rfl rfl ?_
    refine stm rfl rfl rfl ?_
    refine st0 (hop_ia_sl el_22 rfl rfl (by omega) (by omega) (nb rfl)) rfl rfl ?_
    refine st0 (hop_fa_fp fd_27_4 rfl (nb rfl)) rfl rfl ?_
    refine st0 (HOp.val (v' := kidsV (e.getD i default).kids) (hop_load_fp ty_25 rfl (nb rfl) (fun h => (by rfl))) (rfl)) rfl rfl ?_
    refine st0 (hop_len_sl (T := 25) rfl (elOf_spec el_25).1 rfl) rfl rfl ?_
    refine st0 (hop_gtr rfl rfl) rfl rfl ?_
    refine stm rfl rfl rfl ?_
    refine stg 28 (fun hb => hop_move rfl) rfl rfl rfl rfl rfl ?_
    refine stg 28 (fun hb => hop_move rfl) rfl rfl rfl rfl rfl ?_
    refine stg 28 (fun hb => hop_ia_sl el_22 rfl rfl (by (simp at hb; first | omega | (dsimp only; omega) | (simp <;> omega))) (by (simp at hb; first | omega | (dsimp only; omega) | (simp <;> omega))) (nb rfl)) rfl rfl rfl rfl rfl ?_
    refine stg 28 (fun hb => hop_fa_fp fd_27_3 rfl (nb rfl)) rfl rfl rfl rfl rfl ?_
    refine stg 28 (fun hb => hop_load_fp ty_9 rfl (nb rfl) (fun h => (by rfl))) rfl rfl rfl rfl rfl ?_
    refine stg 28 (fun hb => hop_len_strl (T := 9) rfl (by kernel_rfl) rfl) rfl rfl rfl rfl rfl ?_
    refine stg 28 (fun hb => hop_gtr rfl rfl) rfl rfl rfl rfl rfl ?_
    refine hq_p 36 (hstep_or _ _ rfl rfl rfl) rfl rfl rfl ?_
    refine hseq_nilU (by rfl) (by simp only [dropUn, slots]; exact rfl) ?_
    refine h10 _ ?_
    refine hw_cond _ rfl (fun hc1 => ?_) (fun hc1 => ?_)
    · have hr1 := hc1; (try simp only [hcs, Int.reduceToNat] at hc1)
      refine srg fun N h11 => ?_
      refine st0 (hop_call0 (xs := []) (live7_h) trivial trivial) rfl rfl ?_
      refine sta rfl rfl rfl ?_
      refine snl h11 ?_
      refine hw_ret ?_
      refine hq_then_ret ?_
      refine hq_block_ret ?_
      refine hq_then_ret ?_
      refine hq_then_ret ?_
      refine hq_block_ret ?_
      refine hq_then_ret ?_
      refine hq_ret1 rfl (rval_tmp rfl) [] rfl pre0 ?_
      exact .imm _
    have hr1 := hc1; (try simp only [hcs, Int.reduceToNat] at hc1)
    refine hw_skip ?_
    refine h9 _ ?_
    refine hw_region ?_
    refine stm rfl rfl rfl ?_
    refine stm rfl rfl rfl ?_
    refine stm rfl rfl rfl ?_
    refine st0 (hop_ia_sl el_22 rfl rfl (by omega) (by omega) (nb rfl)) rfl rfl ?_
    refine st0 (hop_load_fp ty_27 rfl (nb rfl) (fun h => (by cases h))) rfl rfl ?_
    refine hm_1 43 (hop_buildSlice (id := 43) (hs := [_]) ei_24 (nb rfl) rfl (nb rfl) ⟨rfl, rfl, rfl, rfl, trivial⟩) rfl rfl pre0 rfl rfl (c' := c + 1) rfl ?_
    refine hm_1 44 (hol_append ei_24 (nb rfl) rfl (by omega) (nb rfl) (srl_os0 rfl (nb rfl)) (by omega) rfl) rfl rfl (preC rfl (pre1 rfl)) rfl rfl (c' := c + 2) rfl ?_
    refine sta rfl rfl rfl ?_
    refine hseq_nil ?_
    refine hq_block ?_
    refine h8 _ ?_
    refine hw_region ?_
    refine stm rfl rfl rfl ?_
    refine st0 (hop_addi rfl rfl rfl (by omega) (by omega)) rfl rfl ?_
    refine sta rfl rfl rfl ?_
    refine hseq_nil ?_
    exact hL5 ((i + 1, c + 1)) _ _ (by (try dsimp only); exact ⟨by omega, by omega, fun j hj => by rcases Nat.lt_or_ge j i with h | h; exact hall j h; obtain rfl : j = i := (by omega); have h1 := hr1; simp at h1; omega⟩) (by (try dsimp only); omega) (hsub_of rfl (Nat.le_refl _) (TmSub.cons rfl (Sb.refl _) (TmSub.cons rfl (sb_os (by rw [take_pts hie1]; simp)) (TmSub.cons rfl (Sb.refl _) TmSub.nil))) (HpSub.cons rfl (by rw [take_pts hie1]; exact osub_snoc (enc := ptF) (d := default) rfl (fun i j _ _ => .refl _) (fun j hj => .refl _)) HpSub.nil))
  have hr0 := hc0; (try simp only [hcs, Int.reduceToNat] at hc0)
  have hie : i = e.length ∨ i = 40 := (by have h := hr0; simp at h; omega)
  refine hw_exit ?_
  refine hq_then_exit ?_
  refine hq_then_exit ?_
  refine hq_block_here ?_
  refine h3 _ ?_
  refine hw_seq (fun Nh12 h12 => ?_)
  refine srg fun N h13 => ?_
  refine stm rfl rfl rfl ?_
  refine st0 (hop_len_sl (T := 22) rfl (elOf_spec el_22).1 rfl) rfl rfl ?_
  refine st0 (hop_gtr rfl rfl) rfl rfl ?_
  refine snl h13 ?_
  refine hw_cond _ rfl (fun hc2 => ?_) (fun hc2 => ?_)
  · have hr2 := hc2; (try simp only [hcs, Int.reduceToNat] at hc2)
    refine srg fun N h14 => ?_
    refine st0 (hop_call0 (xs := []) (live7_h) trivial trivial) rfl rfl ?_
    refine sta rfl rfl rfl ?_
    refine snl h14 ?_
    refine hw_ret ?_
    refine hq_then_ret ?_
    refine hq_ret1 rfl (rval_tmp rfl) [] rfl pre0 ?_
    exact .imm _
  have hr2 := hc2; (try simp only [hcs, Int.reduceToNat] at hc2)
  have hel : e.length ≤ 40 := (by omega); have hit : i = e.length := (by omega); have hB : PtB e := ⟨by omega, fun j hj => by have := hall j (by omega); omega⟩; have hnw := new_cases e; have hrs := right_same e; rw [hit, List.take_length]
  refine hw_skip ?_
  refine h12 _ ?_
  refine hw_seq (fun Nh15 h15 => ?_)
  refine (hsub_shr 3 [(9003, _)] rfl (preC rfl pre0) rfl (show Fz _ _ (ptsV e) from fz_row (l := e) (enc := ptF) (d := default) (List.mem_cons_self ..) rfl rfl (Nat.le_refl _) (fun i j hi hj => pt_fz _ j))).wp ?_
  refine hw_region ?_
  refine sta rfl rfl rfl ?_
  refine snl h15 ?_
  refine hw_seq (fun Nh16 h16 => ?_)
  rcases hnw with hR | rfl | ⟨t, hok, het, hw⟩ | ⟨t, hok, het, hw⟩
  · skip
    refine hw_region ?_
    refine stm rfl rfl rfl ?_
    refine stm rfl rfl rfl ?_
    refine st0 (hop_call0 (xs := [_, _]) (new_h some_ok e hB _ (.bad hR)) ⟨rfl, ⟨rfl, trivial⟩⟩ ⟨(Fz.eq rfl), ⟨(Fz.eq rfl), trivial⟩⟩) rfl rfl ?_
    refine stm rfl rfl rfl ?_
    refine st0 (hop_extract rfl rfl) rfl rfl ?_
    refine st0 (hop_extract rfl rfl) rfl rfl ?_
    refine sta rfl rfl rfl ?_
    refine sta rfl rfl rfl ?_
    refine snl h16 ?_
    refine srg fun N h17 => ?_
    refine stm rfl rfl rfl ?_
    refine st0 (hop_call0 (xs := [_, _]) (newnil_h e hB) ⟨rfl, ⟨rfl, trivial⟩⟩ ⟨(Fz.eq rfl), ⟨(Fz.eq rfl), trivial⟩⟩) rfl rfl ?_
    refine stm rfl rfl rfl ?_
    refine st0 (hop_extract rfl rfl) rfl rfl ?_
    refine st0 (hop_extract rfl rfl) rfl rfl ?_
    refine sta rfl rfl rfl ?_
    refine sta rfl rfl rfl ?_
    refine snl h17 ?_
    refine srg fun N h18 => ?_
    refine sta rfl rfl rfl ?_
    refine snl h18 ?_
    refine hw_seq (fun Nh19 h19 => ?_)
    refine srg fun N h20 => ?_
    refine stm rfl rfl rfl ?_
    refine st0 (hop_call0 (xs := [_]) (refRight_h e hB) ⟨rfl, trivial⟩ ⟨(Fz.eq rfl), trivial⟩) rfl rfl ?_
    refine st0 (hop_not rfl) rfl rfl ?_
    refine snl h20 ?_
    refine hw_cond _ rfl (fun hc3 => ?_) (fun hc3 => ?_)
    · have hr3 := hc3; (try simp only [hcs, Int.reduceToNat] at hc3)
      refine hw_region ?_
      refine sta rfl rfl rfl ?_
      refine snl h19 ?_
      refine srg fun N h21 => ?_
      refine stm rfl rfl rfl ?_
      refine stm rfl rfl rfl ?_
      refine st0 (hop_eql rfl rfl) rfl rfl ?_
      refine stm rfl rfl rfl ?_
      refine hq_k 78 77 true (hop_move rfl) rfl rfl rfl rfl pre0 rfl rfl ?_
      refine hq_k 79 77 true (hop_eql_pn rfl rfl rfl) rfl rfl rfl rfl pre0 rfl rfl ?_
      refine hq_k 80 77 true (hop_move rfl) rfl rfl rfl rfl pre0 rfl rfl ?_
      refine hq_k 81 77 true (hop_neq rfl rfl) rfl rfl rfl rfl pre0 rfl rfl ?_
      refine hq_k 82 77 true (hop_beq (fun w => by kernel_rfl) rfl rfl) rfl rfl rfl rfl pre0 rfl rfl ?_
      refine st0 (hop_pick_t rfl rfl) rfl rfl ?_
      refine stm rfl rfl rfl ?_
      refine hq_k 85 84 true (hop_move rfl) rfl rfl rfl rfl pre0 rfl rfl ?_
      refine hq_k 86 84 true (hop_eql rfl rfl) rfl rfl rfl rfl pre0 rfl rfl ?_
      refine st0 (hop_pick_t rfl rfl) rfl rfl ?_
      refine stm rfl rfl rfl ?_
      refine hq_k 89 88 true (hop_call0 (xs := []) (live7_h) trivial trivial) rfl rfl rfl rfl pre0 rfl rfl ?_
      refine st0 (hop_pick_t rfl rfl) rfl rfl ?_
      refine sta rfl rfl rfl ?_
      refine hseq_nilU (by rfl) (by simp only [dropUn, slots]; exact rfl) ?_
      refine h21 _ ?_
      refine hw_ret ?_
      refine hq_ret1 rfl (rval_tmp rfl) [] rfl pre0 ?_
      exact .imm _
    have hr3 := hc3; (try simp only [hcs, Int.reduceToNat] at hc3)
    exfalso; rw [← hrs, hR] at hr3; simp at hr3
  · skip
    refine hw_region ?_
    refine stm rfl rfl rfl ?_
    refine stm rfl rfl rfl ?_
    refine st0 (hop_call0 (xs := [_, _]) (new_h some_ok [] hB _ (.nil rfl)) ⟨rfl, ⟨rfl, trivial⟩⟩ ⟨(Fz.eq rfl), ⟨(Fz.eq rfl), trivial⟩⟩) rfl rfl ?_
    refine stm rfl rfl rfl ?_
    refine st0 (hop_extract rfl rfl) rfl rfl ?_
    refine st0 (hop_extract rfl rfl) rfl rfl ?_
    refine sta rfl rfl rfl ?_
    refine sta rfl rfl rfl ?_
    refine snl h16 ?_
    refine srg fun N h22 => ?_
    refine stm rfl rfl rfl ?_
    refine st0 (hop_call0 (xs := [_, _]) (newnil_h [] hB) ⟨rfl, ⟨rfl, trivial⟩⟩ ⟨(Fz.eq rfl), ⟨(Fz.eq rfl), trivial⟩⟩) rfl rfl ?_
    refine stm rfl rfl rfl ?_
    refine st0 (hop_extract rfl rfl) rfl rfl ?_
    refine st0 (hop_extract rfl rfl) rfl rfl ?_
    refine sta rfl rfl rfl ?_
    refine sta rfl rfl rfl ?_
    refine snl h22 ?_
    refine srg fun N h23 => ?_
    refine sta rfl rfl rfl ?_
    refine snl h23 ?_
    refine hw_seq (fun Nh24 h24 => ?_)
    refine srg fun N h25 => ?_
    refine stm rfl rfl rfl ?_
    refine st0 (hop_call0 (xs := [_]) (refRight_h [] hB) ⟨rfl, trivial⟩ ⟨(Fz.eq rfl), trivial⟩) rfl rfl ?_
    refine st0 (hop_not rfl) rfl rfl ?_
    refine snl h25 ?_
    refine hw_cond _ rfl (fun hc3 => ?_) (fun hc3 => ?_)
    · have hr3 := hc3; (try simp only [hcs, Int.reduceToNat] at hc3)
      exfalso; rw [← hrs, right_nil] at hr3; simp at hr3
    have hr3 := hc3; (try simp only [hcs, Int.reduceToNat] at hc3)
    refine srg fun N h26 => ?_
    refine stm rfl rfl rfl ?_
    refine st0 (hop_len_sl (T := 22) rfl (elOf_spec el_22).1 rfl) rfl rfl ?_
    refine st0 (hop_gtr rfl rfl) rfl rfl ?_
    refine stm rfl rfl rfl ?_
    refine stg 66 (fun hb => hop_move rfl) rfl rfl rfl rfl rfl ?_
    refine stg 66 (fun hb => hop_move rfl) rfl rfl rfl rfl rfl ?_
    refine stg 66 (fun hb => hop_len_sl (T := 22) rfl (elOf_spec el_22).1 rfl) rfl rfl rfl rfl rfl ?_
    refine stg 66 (fun hb => hop_sub rfl rfl) rfl rfl rfl rfl rfl ?_
    refine stg (v := intV 0) 66 (fun hb => by simp at hb) rfl rfl rfl rfl rfl ?_
    refine stg 66 (fun hb => hop_gtr rfl rfl) rfl rfl rfl rfl rfl ?_
    refine hq_p 73 (hstep_and _ _ rfl rfl rfl) rfl rfl rfl ?_
    refine hseq_nilU (by rfl) (by simp only [dropUn, slots]; exact rfl) ?_
    refine h26 _ ?_
    refine hw_cond _ rfl (fun hc4 => ?_) (fun hc4 => ?_)
    · have hr4 := hc4; (try simp only [hcs, Int.reduceToNat] at hc4)
      exfalso; simp at hr4
    have hr4 := hc4; (try simp only [hcs, Int.reduceToNat] at hc4)
    refine hw_skip ?_
    refine h24 _ ?_
    refine srg fun N h27 => ?_
    refine stm rfl rfl rfl ?_
    refine stm rfl rfl rfl ?_
    refine st0 (hop_eql rfl rfl) rfl rfl ?_
    refine stm rfl rfl rfl ?_
    refine hq_k 78 77 true (hop_move rfl) rfl rfl rfl rfl pre0 rfl rfl ?_
    refine hq_k 79 77 true (hop_eql_fp rfl rfl rfl) rfl rfl rfl rfl pre0 rfl rfl ?_
    refine hq_k 80 77 true (hop_move rfl) rfl rfl rfl rfl pre0 rfl rfl ?_
    refine hq_k 81 77 true (hop_neq rfl rfl) rfl rfl rfl rfl pre0 rfl rfl ?_
    refine hq_k 82 77 true (hop_beq (fun w => by kernel_rfl) rfl rfl) rfl rfl rfl rfl pre0 rfl rfl ?_
    refine st0 (hop_pick_t rfl rfl) rfl rfl ?_
    refine stm rfl rfl rfl ?_
    refine hq_k 85 84 true (hop_move rfl) rfl rfl rfl rfl pre0 rfl rfl ?_
    refine hq_k 86 84 true (hop_eql rfl rfl) rfl rfl rfl rfl pre0 rfl rfl ?_
    refine st0 (hop_pick_t rfl rfl) rfl rfl ?_
    refine stm rfl rfl rfl ?_
    refine hq_k 89 88 true (hop_call0 (xs := []) (live7_h) trivial trivial) rfl rfl rfl rfl pre0 rfl rfl ?_
    refine st0 (hop_pick_t rfl rfl) rfl rfl ?_
    refine sta rfl rfl rfl ?_
    refine hseq_nilU (by rfl) (by simp only [dropUn, slots]; exact rfl) ?_
    refine h27 _ ?_
    refine hw_ret ?_
    refine hq_ret1 rfl (rval_tmp rfl) [] rfl pre0 ?_
    exact .imm _
  · skip
    refine hw_region ?_
    refine stm rfl rfl rfl ?_
    refine stm rfl rfl rfl ?_
    refine st0 (hop_call0 (xs := [_, _]) (new_h some_ok e hB _ (.full t hok het (some_none e) hw)) ⟨rfl, ⟨rfl, trivial⟩⟩ ⟨(Fz.eq rfl), ⟨(Fz.eq rfl), trivial⟩⟩) rfl rfl ?_
    refine stm rfl rfl rfl ?_
    refine st0 (hop_extract rfl rfl) rfl rfl ?_
    refine st0 (hop_extract rfl rfl) rfl rfl ?_
    refine sta rfl rfl rfl ?_
    refine sta rfl rfl rfl ?_
    refine snl h16 ?_
    refine srg fun N h28 => ?_
    refine stm rfl rfl rfl ?_
    refine st0 (hop_call0 (xs := [_, _]) (newnil_h e hB) ⟨rfl, ⟨rfl, trivial⟩⟩ ⟨(Fz.eq rfl), ⟨(Fz.eq rfl), trivial⟩⟩) rfl rfl ?_
    refine stm rfl rfl rfl ?_
    refine st0 (hop_extract rfl rfl) rfl rfl ?_
    refine st0 (hop_extract rfl rfl) rfl rfl ?_
    refine sta rfl rfl rfl ?_
    refine sta rfl rfl rfl ?_
    refine snl h28 ?_
    refine srg fun N h29 => ?_
    refine sta rfl rfl rfl ?_
    refine snl h29 ?_
    refine hw_seq (fun Nh30 h30 => ?_)
    refine srg fun N h31 => ?_
    refine stm rfl rfl rfl ?_
    refine st0 (hop_call0 (xs := [_]) (refRight_h e hB) ⟨rfl, trivial⟩ ⟨(Fz.eq rfl), trivial⟩) rfl rfl ?_
    refine st0 (hop_not rfl) rfl rfl ?_
    refine snl h31 ?_
    refine hw_cond _ rfl (fun hc3 => ?_) (fun hc3 => ?_)
    · have hr3 := hc3; (try simp only [hcs, Int.reduceToNat] at hc3)
      exfalso; rw [← hrs, het, right_of_ok hok] at hr3; simp at hr3
    have hr3 := hc3; (try simp only [hcs, Int.reduceToNat] at hc3)
    have hat : AtP e 0 (T.flat 0 t) := ⟨[], [], by simp [het], rfl⟩; have hsz : e.length = t.size := (by rw [het]; exact T.flat_len 0 t); have hps := t.size_pos
    refine srg fun N h32 => ?_
    refine stm rfl rfl rfl ?_
    refine st0 (hop_len_sl (T := 22) rfl (elOf_spec el_22).1 rfl) rfl rfl ?_
    refine st0 (hop_gtr rfl rfl) rfl rfl ?_
    refine stm rfl rfl rfl ?_
    refine stg 66 (fun hb => hop_move rfl) rfl rfl rfl rfl rfl ?_
    refine stg 66 (fun hb => hop_move rfl) rfl rfl rfl rfl rfl ?_
    refine stg 66 (fun hb => hop_len_sl (T := 22) rfl (elOf_spec el_22).1 rfl) rfl rfl rfl rfl rfl ?_
    refine stg 66 (fun hb => HOp.val (v' := intV ((0 + t.size - 1 : Nat) : Int)) (hop_subi rfl rfl rfl (by (simp at hb; first | omega | (dsimp only; omega) | (simp <;> omega))) (by (simp at hb; first | omega | (dsimp only; omega) | (simp <;> omega)))) (congrArg intV (by omega))) rfl rfl rfl rfl rfl ?_
    refine stg 66 (fun hb => hop_call0 (xs := [_, _]) (manyT_h e hB.1 t 0 hok hat) ⟨rfl, ⟨rfl, trivial⟩⟩ ⟨(Fz.eq rfl), ⟨(Fz.eq rfl), trivial⟩⟩) rfl rfl rfl rfl rfl ?_
    refine stg 66 (fun hb => hop_gtr rfl rfl) rfl rfl rfl rfl rfl ?_
    refine hq_p 73 (hstep_and _ _ rfl rfl rfl) rfl rfl rfl ?_
    refine hseq_nilU (by rfl) (by simp only [dropUn, slots]; exact rfl) ?_
    refine h32 _ ?_
    refine hw_cond _ rfl (fun hc4 => ?_) (fun hc4 => ?_)
    · have hr4 := hc4; (try simp only [hcs, Int.reduceToNat] at hc4)
      refine hw_region ?_
      refine sta rfl rfl rfl ?_
      refine snl h30 ?_
      refine srg fun N h33 => ?_
      refine stm rfl rfl rfl ?_
      refine stm rfl rfl rfl ?_
      refine st0 (hop_eql rfl rfl) rfl rfl ?_
      refine stm rfl rfl rfl ?_
      refine hq_k 78 77 true (hop_move rfl) rfl rfl rfl rfl pre0 rfl rfl ?_
      refine hq_k 79 77 true (hop_eql_pn rfl rfl rfl) rfl rfl rfl rfl pre0 rfl rfl ?_
      refine hq_k 80 77 true (hop_move rfl) rfl rfl rfl rfl pre0 rfl rfl ?_
      refine hq_k 81 77 true (hop_neq rfl rfl) rfl rfl rfl rfl pre0 rfl rfl ?_
      refine hq_k 82 77 true (hop_beq (fun w => by kernel_rfl) rfl rfl) rfl rfl rfl rfl pre0 rfl rfl ?_
      refine st0 (hop_pick_t rfl rfl) rfl rfl ?_
      refine stm rfl rfl rfl ?_
      refine hq_k 85 84 true (hop_move rfl) rfl rfl rfl rfl pre0 rfl rfl ?_
      refine hq_k 86 84 true (hop_eql rfl rfl) rfl rfl rfl rfl pre0 rfl rfl ?_
      refine st0 (hop_pick_t rfl rfl) rfl rfl ?_
      refine stm rfl rfl rfl ?_
      refine hq_k 89 88 true (hop_call0 (xs := []) (live7_h) trivial trivial) rfl rfl rfl rfl pre0 rfl rfl ?_
      refine st0 (hop_pick_t rfl rfl) rfl rfl ?_
      refine sta rfl rfl rfl ?_
      refine hseq_nilU (by rfl) (by simp only [dropUn, slots]; exact rfl) ?_
      refine h33 _ ?_
      refine hw_ret ?_
      refine hq_ret1 rfl (rval_tmp rfl) [] rfl pre0 ?_
      exact .imm _
    have hr4 := hc4; (try simp only [hcs, Int.reduceToNat] at hc4)
    exfalso; have h := hr4; unfold wMin at h; simp at h; split at h <;> omega
  · skip
    refine hw_region ?_
    refine stm rfl rfl rfl ?_
    refine stm rfl rfl rfl ?_
    refine st0 (hop_call0 (xs := [_, _]) (new_h some_ok e hB _ (.fine t hok het (some_none e) hw)) ⟨rfl, ⟨rfl, trivial⟩⟩ ⟨(Fz.eq rfl), ⟨(Fz.eq rfl), trivial⟩⟩) rfl rfl ?_
    refine stm rfl rfl rfl ?_
    refine st0 (hop_extract rfl rfl) rfl rfl ?_
    refine st0 (hop_extract rfl rfl) rfl rfl ?_
    refine sta rfl rfl rfl ?_
    refine sta rfl rfl rfl ?_
    refine snl h16 ?_
    refine srg fun N h34 => ?_
    refine stm rfl rfl rfl ?_
    refine st0 (hop_call0 (xs := [_, _]) (newnil_h e hB) ⟨rfl, ⟨rfl, trivial⟩⟩ ⟨(Fz.eq rfl), ⟨(Fz.eq rfl), trivial⟩⟩) rfl rfl ?_
    refine stm rfl rfl rfl ?_
    refine st0 (hop_extract rfl rfl) rfl rfl ?_
    refine st0 (hop_extract rfl rfl) rfl rfl ?_
    refine sta rfl rfl rfl ?_
    refine sta rfl rfl rfl ?_
    refine snl h34 ?_
    refine srg fun N h35 => ?_
    refine sta rfl rfl rfl ?_
    refine snl h35 ?_
    refine hw_seq (fun Nh36 h36 => ?_)
    refine srg fun N h37 => ?_
    refine stm rfl rfl rfl ?_
    refine st0 (hop_call0 (xs := [_]) (refRight_h e hB) ⟨rfl, trivial⟩ ⟨(Fz.eq rfl), trivial⟩) rfl rfl ?_
    refine st0 (hop_not rfl) rfl rfl ?_
    refine snl h37 ?_
    refine hw_cond _ rfl (fun hc3 => ?_) (fun hc3 => ?_)
    · have hr3 := hc3; (try simp only [hcs, Int.reduceToNat] at hc3)
      exfalso; rw [← hrs, het, right_of_ok hok] at hr3; simp at hr3
    have hr3 := hc3; (try simp only [hcs, Int.reduceToNat] at hc3)
    have hat : AtP e 0 (T.flat 0 t) := ⟨[], [], by simp [het], rfl⟩; have hsz : e.length = t.size := (by rw [het]; exact T.flat_len 0 t); have hps := t.size_pos
    refine srg fun N h38 => ?_
    refine stm rfl rfl rfl ?_
    refine st0 (hop_len_sl (T := 22) rfl (elOf_spec el_22).1 rfl) rfl rfl ?_
    refine st0 (hop_gtr rfl rfl) rfl rfl ?_
    refine stm rfl rfl rfl ?_
    refine stg 66 (fun hb => hop_move rfl) rfl rfl rfl rfl rfl ?_
    refine stg 66 (fun hb => hop_move rfl) rfl rfl rfl rfl rfl ?_
    refine stg 66 (fun hb => hop_len_sl (T := 22) rfl (elOf_spec el_22).1 rfl) rfl rfl rfl rfl rfl ?_
    refine stg 66 (fun hb => HOp.val (v' := intV ((0 + t.size - 1 : Nat) : Int)) (hop_subi rfl rfl rfl (by (simp at hb; first | omega | (dsimp only; omega) | (simp <;> omega))) (by (simp at hb; first | omega | (dsimp only; omega) | (simp <;> omega)))) (congrArg intV (by omega))) rfl rfl rfl rfl rfl ?_
    refine stg 66 (fun hb => hop_call0 (xs := [_, _]) (manyT_h e hB.1 t 0 hok hat) ⟨rfl, ⟨rfl, trivial⟩⟩ ⟨(Fz.eq rfl), ⟨(Fz.eq rfl), trivial⟩⟩) rfl rfl rfl rfl rfl ?_
    refine stg 66 (fun hb => hop_gtr rfl rfl) rfl rfl rfl rfl rfl ?_
    refine hq_p 73 (hstep_and _ _ rfl rfl rfl) rfl rfl rfl ?_
    refine hseq_nilU (by rfl) (by simp only [dropUn, slots]; exact rfl) ?_
    refine h38 _ ?_
    refine hw_cond _ rfl (fun hc4 => ?_) (fun hc4 => ?_)
    · have hr4 := hc4; (try simp only [hcs, Int.reduceToNat] at hc4)
      exfalso; have h := hr4; unfold wMin at h; simp at h; split at h <;> omega
    have hr4 := hc4; (try simp only [hcs, Int.reduceToNat] at hc4)
    refine hw_skip ?_
    refine h36 _ ?_
    refine srg fun N h39 => ?_
    refine stm rfl rfl rfl ?_
    refine stm rfl rfl rfl ?_
    refine st0 (hop_eql rfl rfl) rfl rfl ?_
    refine stm rfl rfl rfl ?_
    refine hq_k 78 77 true (hop_move rfl) rfl rfl rfl rfl pre0 rfl rfl ?_
    refine hq_k 79 77 true (hop_eql_fp rfl rfl rfl) rfl rfl rfl rfl pre0 rfl rfl ?_
    refine hq_k 80 77 true (hop_move rfl) rfl rfl rfl rfl pre0 rfl rfl ?_
    refine hq_k 81 77 true (hop_neq rfl rfl) rfl rfl rfl rfl pre0 rfl rfl ?_
    refine hq_k 82 77 true (hop_beq (fun w => by kernel_rfl) rfl rfl) rfl rfl rfl rfl pre0 rfl rfl ?_
    refine st0 (hop_pick_t rfl rfl) rfl rfl ?_
    refine stm rfl rfl rfl ?_
    refine hq_k 85 84 true (hop_move rfl) rfl rfl rfl rfl pre0 rfl rfl ?_
    refine hq_k 86 84 true (hop_eql rfl rfl) rfl rfl rfl rfl pre0 rfl rfl ?_
    refine st0 (hop_pick_t rfl rfl) rfl rfl ?_
    refine stm rfl rfl rfl ?_
    refine hq_k 89 88 true (hop_call0 (xs := []) (live7_h) trivial trivial) rfl rfl rfl rfl pre0 rfl rfl ?_
    refine st0 (hop_pick_t rfl rfl) rfl rfl ?_
    refine sta rfl rfl rfl ?_
    refine hseq_nilU (by rfl) (by simp only [dropUn, slots]; exact rfl) ?_
    refine h39 _ ?_
    refine hw_ret ?_
    refine hq_ret1 rfl (rval_tmp rfl) [] rfl pre0 ?_
    exact .imm _
end Go.Proofs.YtldjnmljnlhaaaaGreatDoor

namespace Go.Proofs.YtldjnmljnlhaaaaGreatDoor
set_option linter.unusedSimpArgs false
set_option linter.unusedVariables false
open Go.ChangeShapes Go.WideShapes Go.ChangeAt Go.RowKit Go.Deep

section
variable {H : Type} {encH : TypeId × Value → H} {P : Program} {w : World} {base : Nat} {spare : Nat → Bool} {held : Bool}

/-- A slice that came in, element by element. -/
theorem open_sl {α : Type} {t e : TypeId} {fuel : Nat} {A : Option Addr} {n c : Nat} {x : DataW H × List MemPlace} (ht : P.underlying t = some (.slice e)) (size : Nat) (hC : P.cellsOf e = size) (hpos : 0 < size)
    (enc : α → List Value) (henc : ∀ a, (enc a).length = size) (ok : α → Prop)
    (hel : ∀ (m : Nat) (cs : List Value) (y : DataW H × List MemPlace), DataW.trod encH P w base spare held m e cs = some y → ∃ a : α, cs = enc a ∧ ok a)
    (hf : DataW.trod encH P w base spare held fuel t [.slice A n c] = some x) :
    ∃ l : List α, l.length = n ∧ Sl w w.heap.size size enc A l ∧ n ≤ c ∧ c ≤ 9223372036854775807 ∧ ∀ a ∈ l, ok a := by
  rcases open_slice ht hf with ⟨h0, _⟩ | ⟨a, len, cap, m, k, D, Pl, hcs, hb, hl, hm, hmm, hx, hi⟩
  · injection h0 with h0 _
    injection h0 with h1 h2 h3
    subst h1; subst h2; subst h3
    exact ⟨[], rfl, ⟨henc, Reads.none_⟩, by omega, by omega, by simp⟩
  · injection hcs with h0 _
    injection h0 with h1 h2 h3
    subst h1; subst h2; subst h3
    have hnm : n ≤ m := by rw [hmm]; split <;> omega
    have each : ∀ k, k ≤ n → ∃ l : List α, l.length = k ∧ (∀ i (hi : i < l.length), w.cells? base (a.add (i * size)) size = some (enc l[i])) ∧ ∀ y ∈ l, ok y := by
      intro k
      induction k with
      | zero => intro _; exact ⟨[], rfl, fun i hi => by simp at hi, by simp⟩
      | succ k ih =>
        intro hk
        obtain ⟨l, hl1, hl2, hl3⟩ := ih (by omega)
        obtain ⟨cs', h1, h2⟩ := hi k (by omega)
        rw [hC] at h1
        obtain ⟨a', rfl, hok⟩ := hel _ _ _ h2
        refine ⟨l ++ [a'], by simp [hl1], fun i hi => ?_, fun y hy => ?_⟩
        · by_cases hik : i < l.length
          · rw [List.getElem_append_left hik]; exact hl2 i hik
          · have : i = k := by simp at hi; omega
            subst this
            simp [hl1, h1]
        · rcases List.mem_append.1 hy with hy | hy
          · exact hl3 y hy
          · simp at hy; subst hy; exact hok
    obtain ⟨l, hl1, hl2, hl3⟩ := each n (Nat.le_refl _)
    refine ⟨l, hl1, ⟨henc, ?_, fun hn => ?_⟩, hl, by unfold maxLen at hm; omega, hl3⟩
    · have : ∀ m : List α, (m.flatMap enc).length = m.length * size := by
        intro m
        induction m with
        | nil => simp
        | cons x m ih => simp [List.flatMap_cons, ih, henc, Nat.add_mul, Nat.add_comm]
      exact this l
    · refine ⟨a, rfl, ?_, fun j u hu => ?_⟩
      · have h0 := hl2 0 hn
        have := World.cells?_block h0 hpos
        rwa [block_of_add] at this
      · have hfl : (l.flatMap enc).length = l.length * size := by
          have : ∀ m : List α, (m.flatMap enc).length = m.length * size := by
            intro m
            induction m with
            | nil => simp
            | cons x m ih => simp [List.flatMap_cons, ih, henc, Nat.add_mul, Nat.add_comm]
          exact this l
        have hj : j < l.length * size := by
          rcases Nat.lt_or_ge j (l.flatMap enc).length with hlt | hge
          · rw [hfl] at hlt; exact hlt
          · rw [List.getElem?_eq_none hge] at hu; cases hu
        have hjd : j / size < l.length := (Nat.div_lt_iff_lt_mul hpos).2 hj
        have hjm : j % size < size := Nat.mod_lt _ hpos
        have e1 : j = j / size * size + j % size := by rw [Nat.mul_comm]; exact (Nat.div_add_mod j size).symm
        rw [e1] at hu ⊢
        rw [flatMap_at henc _ _ _ hjd hjm] at hu
        have := (World.cells?_some (hl2 _ hjd)).2.2 (j % size) hjm
        rw [add_of_add] at this
        rw [this, hu]

def okInt (x : Int) : Prop := (Lit.int .i64 x).wf = true
theorem el_int {e : TypeId} (he : P.underlying e = some (.int .i64)) (m : Nat) (cs : List Value) (y : DataW H × List MemPlace) (h : DataW.trod encH P w base spare held m e cs = some y) : ∃ a : Int, cs = intC a ∧ okInt a := by
  obtain ⟨b, rfl, _, hw⟩ := DataW.trod_int he h
  exact ⟨b, rfl, hw⟩
end
end Go.Proofs.YtldjnmljnlhaaaaGreatDoor

namespace Go.Proofs.YtldjnmljnlhaaaaGreatDoor
set_option linter.unusedSimpArgs false
set_option linter.unusedVariables false
open Go.ChangeShapes Go.WideShapes Go.ChangeAt Go.RowKit Go.Deep
/-- A part, as it comes in: what it says, and where its kids lie. -/
structure PtI where
  v : Pt
  A : Option Addr
  n : Nat
  c : Nat
def PtI.cells (x : PtI) : List Value := [.int .i64 x.v.kind, .int .i64 x.v.low, .int .i64 x.v.high, .string ⟨x.v.name.toArray⟩, .slice x.A x.n x.c]
def PtI.none : PtI := ⟨default, .none, 0, 0⟩
theorem PtI.cells_length (x : PtI) : x.cells.length = 5 := by simp [PtI.cells]
def PtI.inOk (w : World) (x : PtI) : Prop := x.v.kids.length = x.n ∧ Sl w w.heap.size 1 intC x.A x.v.kids ∧ x.n ≤ x.c ∧ x.c ≤ 9223372036854775807
theorem pti_one (x : PtI) : ∀ u ∈ x.cells, u.oneCell' = true := by
  intro u hu
  simp only [PtI.cells, List.mem_cons, List.not_mem_nil, or_false] at hu
  rcases hu with rfl | rfl | rfl | rfl | rfl <;> rfl
section
variable {H : Type} {encH : TypeId × Value → H} {w : World} {base : Nat} {spare : Nat → Bool} {held : Bool}
theorem slice_form {P : Program} {t e : TypeId} (ht : P.underlying t = some (.slice e)) {fuel : Nat} {v : Value} {x : DataW H × List MemPlace} (hf : DataW.trod encH P w base spare held fuel t [v] = some x) : ∃ A n c, v = .slice A n c := by
  rcases open_slice ht hf with ⟨h0, _⟩ | ⟨a, len, cap, m, k, D, Pl, hcs, _⟩
  · injection h0 with h0 _; exact ⟨_, _, _, h0⟩
  · injection hcs with h0 _; exact ⟨_, _, _, h0⟩
set_option maxRecDepth 100000 in
theorem el_pt (m : Nat) (cs : List Value) (y : DataW H × List MemPlace) (h : DataW.trod encH Tryz.prog w base spare held m 27 cs = some y) : ∃ t : PtI, cs = t.cells ∧ t.inOk w := by
  obtain ⟨xs, k, _, _, hlen, hxl, hx⟩ := DataW.trod_struct Tryz.underlying27 h
  have hC : Tryz.prog.cellsOf 27 = 5 := by kernel_rfl
  have hI : Tryz.prog.cellsOf 3 = 1 := by kernel_rfl
  have hS : Tryz.prog.cellsOf 9 = 1 := by kernel_rfl
  have hK : Tryz.prog.cellsOf 25 = 1 := by kernel_rfl
  rw [hC] at hlen
  match cs, hlen, xs, hxl with
  | [c0, c1, c2, c3, c4], _, [x0, x1, x2, x3, x4], _ =>
    have f0 : DataW.trod encH Tryz.prog w base spare held k 3 (([c0, c1, c2, c3, c4].drop 0).take (Tryz.prog.cellsOf 3)) = [x0, x1, x2, x3, x4][0]? := hx 0 _ rfl
    have f1 : DataW.trod encH Tryz.prog w base spare held k 3 (([c0, c1, c2, c3, c4].drop 1).take (Tryz.prog.cellsOf 3)) = [x0, x1, x2, x3, x4][1]? := hx 1 _ rfl
    have f2 : DataW.trod encH Tryz.prog w base spare held k 3 (([c0, c1, c2, c3, c4].drop 2).take (Tryz.prog.cellsOf 3)) = [x0, x1, x2, x3, x4][2]? := hx 2 _ rfl
    have f3 : DataW.trod encH Tryz.prog w base spare held k 9 (([c0, c1, c2, c3, c4].drop 3).take (Tryz.prog.cellsOf 9)) = [x0, x1, x2, x3, x4][3]? := hx 3 _ rfl
    have f4 : DataW.trod encH Tryz.prog w base spare held k 25 (([c0, c1, c2, c3, c4].drop 4).take (Tryz.prog.cellsOf 25)) = [x0, x1, x2, x3, x4][4]? := hx 4 _ rfl
    rw [hI] at f0 f1 f2
    rw [hS] at f3
    rw [hK] at f4
    obtain ⟨a0, h0, _, _⟩ := DataW.trod_int Tryz.underlying3 f0
    obtain ⟨a1, h1, _, _⟩ := DataW.trod_int Tryz.underlying3 f1
    obtain ⟨a2, h2, _, _⟩ := DataW.trod_int Tryz.underlying3 f2
    obtain ⟨b3, h3, _, _⟩ := DataW.trod_string Tryz.underlying9 f3
    simp at h0 h1 h2 h3
    subst h0; subst h1; subst h2; subst h3
    simp only [List.drop_succ_cons, List.drop_zero, List.take_succ_cons, List.take_zero] at f4
    obtain ⟨A, n, c, rfl⟩ := slice_form Tryz.underlying25 f4
    obtain ⟨l, e, s, o, m', _⟩ := open_sl Tryz.underlying25 1 (by kernel_rfl) (by omega) intC (fun a => by simp [intC]) okInt (el_int Tryz.underlying3) f4
    exact ⟨⟨⟨a0, a1, a2, b3.data.toList, l⟩, A, n, c⟩, rfl, e, s, o, m'⟩
end
theorem intC_one (x : Int) : ∀ u ∈ intC x, u.oneCell' = true := by
  intro u hu
  simp only [intC, List.mem_cons, List.not_mem_nil, or_false] at hu
  subst hu; rfl
theorem rep_kids {w : World} {B : Nat} {A : Option Addr} {c : Nat} {l : List Int} (h : Sl w B 1 intC A l) (hc : l.length ≤ c) (hm : c ≤ maxLen) : Rep w (Env.just (allF w)) (.slice A l.length c) (kidsV l) :=
  rep_sl 1 (by omega) intC intC_one (fun x _ => intV x) 0 l hc hm h (fun i j _ hj => by
    match j, hj with
    | 0, _ => exact .imm _)
theorem rep_pts {w : World} {B : Nat} {A : Option Addr} {c : Nat} {l : List PtI} (h : Sl w B 5 PtI.cells A l) (hc : l.length ≤ c) (hm : c ≤ maxLen) (hok : ∀ x ∈ l, x.inOk w) : Rep w (Env.just (allF w)) (.slice A l.length c) (ptsV (l.map (·.v))) := by
  have key := rep_sl (w := w) 5 (by omega) PtI.cells pti_one (fun x => ptF x.v) PtI.none l hc hm h (fun i j hi hj => by
    have hg : l.getD i PtI.none = l[i] := by rw [List.getD_eq_getElem?_getD, List.getElem?_eq_getElem hi]; rfl
    rw [hg]
    obtain ⟨e, s, o, m⟩ := hok _ (List.getElem_mem hi)
    generalize l[i] = x at e s o m
    obtain ⟨v, A', n', c'⟩ := x
    simp only at e s o m
    subst e
    match j, hj with
    | 0, _ => exact .imm _
    | 1, _ => exact .imm _
    | 2, _ => exact .imm _
    | 3, _ => exact .imm _
    | 4, _ => exact rep_kids s o (by unfold maxLen; omega))
  have e : ptsV (l.map (·.v)) = .sl 5 l.length (fun i => ptF (l.getD i PtI.none).v) := by
    show HV.sl 5 (l.map (·.v)).length (ptsF (l.map (·.v))) = _
    rw [List.length_map]
    congr 1
    funext i
    show ptF ((l.map (·.v)).getD i default) = _
    congr 1
    rw [List.getD_eq_getElem?_getD, List.getD_eq_getElem?_getD, List.getElem?_map]
    cases l[i]? <;> rfl
  rw [e]; exact key
end Go.Proofs.YtldjnmljnlhaaaaGreatDoor

namespace Go.Proofs.YtldjnmljnlhaaaaGreatDoor
set_option linter.unusedSimpArgs false
set_option linter.unusedVariables false
open Go.RowKit
theorem NfaRefuses_walk (W : World) (hL : LibW W) (a : Option Addr) (n c : Nat) (l : List PtI) (hn : l.length = n) (sl : Sl W W.heap.size 5 PtI.cells a l) (hc : n ≤ c) (hm : c ≤ 9223372036854775807) (hok : ∀ x ∈ l, x.inOk W) :
    Calls Tryz.prog 3 #[.slice a n c] W fun e w' => e = .returned (.bool true) ∧ Below W.heap.size W w' := by
  subst hn
  exact law_walk (nfaRefuses_h (l.map (·.v))) W [.slice a l.length c] ⟨rep_pts sl hc (by unfold maxLen; omega) hok, trivial⟩ hL
end Go.Proofs.YtldjnmljnlhaaaaGreatDoor

