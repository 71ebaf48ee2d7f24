/-
  From the world's words to the reader's: what was shown of slices in memory, as contracts of the second kind.
-/
import Derived.Test.YtkeeipfglmpgjaaHt
import Derived.Test.YtkeeipfglmpgjaaHbu
namespace Go.Proofs.Ytkeeipfglmpgjaa
set_option linter.unusedSimpArgs false
set_option linter.unusedVariables false
open Go.RowKit

theorem tokF_imm (t : Tok) (j : Nat) (h : j < 12) : tokF t j = .imm (t.cells.getD j undef) := by
  match j, h with
  | 0, _ => rfl | 1, _ => rfl | 2, _ => rfl | 3, _ => rfl | 4, _ => rfl | 5, _ => rfl | 6, _ => rfl | 7, _ => rfl | 8, _ => rfl | 9, _ => rfl | 10, _ => rfl | 11, _ => rfl
theorem mksF_imm (t : Mks) (j : Nat) (h : j < 8) : mksF t j = .imm (t.cells.getD j undef) := by
  match j, h with
  | 0, _ => rfl | 1, _ => rfl | 2, _ => rfl | 3, _ => rfl | 4, _ => rfl | 5, _ => rfl | 6, _ => rfl | 7, _ => rfl
theorem toks_of {w : World} {E : Env} {v : Value} {l : List Tok} (h : Rep w E v (toksV l)) : ∃ A c, v = .slice A l.length c ∧ l.length ≤ c ∧ c ≤ maxLen ∧ Sl w w.heap.size 12 Tok.cells A l := sl_of 12 Tok.cells Tok.cells_length tokF tokF_imm tok0 l h
theorem mkss_of {w : World} {E : Env} {v : Value} {l : List Mks} (h : Rep w E v (mkssV l)) : ∃ A c, v = .slice A l.length c ∧ l.length ≤ c ∧ c ≤ maxLen ∧ Sl w w.heap.size 8 Mks.cells A l := sl_of 8 Mks.cells Mks.cells_length mksF mksF_imm mks0 l h
theorem stp_of {w : World} {E : Env} {v : Value} {s : St} (h : Rep w E v (stV s)) : ∃ a : Stp, a.v = s ∧ v = .agg a.cells.toArray ∧ a.Ok w w.heap.size := by
  cases h with
  | agg cs _ _ vs hn hv h =>
    have e := arr10 hn vs (fun i hi => (hv i hi).1)
    have i0 := (h 0 (by omega)).imm_inv
    have i1 := (h 1 (by omega)).imm_inv
    have i2 := (h 2 (by omega)).imm_inv
    have i3 := (h 3 (by omega)).imm_inv
    have i4 := (h 4 (by omega)).imm_inv
    have i5 := (h 5 (by omega)).imm_inv
    have i6 := (h 6 (by omega)).imm_inv
    have i7 := (h 7 (by omega)).imm_inv
    obtain ⟨A1, c1, i8, o1, _, s1⟩ := toks_of (h 8 (by omega))
    obtain ⟨A2, c2, i9, o2, _, s2⟩ := mkss_of (h 9 (by omega))
    rw [i0, i1, i2, i3, i4, i5, i6, i7, i8, i9] at e
    subst e
    exact ⟨⟨s, A1, s.sl.length, c1, A2, s.sets.length, c2⟩, rfl, rfl, rfl, rfl, s1, s2, o1, o2⟩
theorem rep_toks {w : World} {B : Nat} {A : Option Addr} {c : Nat} {l : List Tok} (h : Sl w B 12 Tok.cells A l) (hc : l.length ≤ c) (hm : c ≤ maxLen) : Rep w (Env.just (allF w)) (.slice A l.length c) (toksV l) :=
  rep_sl 12 (by omega) Tok.cells tok_one tokF tok0 l hc hm h (fun i j _ hj => by rw [tokF_imm _ _ hj]; exact .imm _)
theorem rep_mkss {w : World} {B : Nat} {A : Option Addr} {c : Nat} {l : List Mks} (h : Sl w B 8 Mks.cells A l) (hc : l.length ≤ c) (hm : c ≤ maxLen) : Rep w (Env.just (allF w)) (.slice A l.length c) (mkssV l) :=
  rep_sl 8 (by omega) Mks.cells mks_one mksF mks0 l hc hm h (fun i j _ hj => by rw [mksF_imm _ _ hj]; exact .imm _)
theorem rep_sts {w : World} {B : Nat} {A : Option Addr} {c : Nat} {l : List Stp} (h : Sl w B 10 Stp.cells A l) (hc : l.length ≤ c) (hm : c ≤ maxLen) (hok : ∀ x ∈ l, x.inOk w) : Rep w (Env.just (allF w)) (.slice A l.length c) (stsV (l.map (·.v))) := by
  have key := rep_sl (w := w) 10 (by omega) Stp.cells stp_one (fun x => stF x.v) Stp.none l hc hm h (fun i j hi hj => by
    have hg : l.getD i Stp.none = l[i] := by rw [List.getD_eq_getElem?_getD, List.getElem?_eq_getElem hi]; rfl
    rw [hg]
    obtain ⟨⟨e1, e2, s1, s2, o1, o2⟩, m1, m2, _⟩ := hok _ (List.getElem_mem hi)
    generalize l[i] = x at e1 e2 s1 s2 o1 o2 m1 m2
    obtain ⟨v, a1, n1, c1, a2, n2, c2⟩ := x
    simp only at e1 e2 s1 s2 o1 o2 m1 m2
    subst e1; subst e2
    match j, hj with
    | 0, _ => exact .imm _ | 1, _ => exact .imm _ | 2, _ => exact .imm _ | 3, _ => exact .imm _ | 4, _ => exact .imm _ | 5, _ => exact .imm _ | 6, _ => exact .imm _ | 7, _ => exact .imm _
    | 8, _ => exact rep_toks s1 o1 (by unfold maxLen; omega)
    | 9, _ => exact rep_mkss s2 o2 (by unfold maxLen; omega))
  have e : (HV.sl 10 (l.map (·.v)).length (fun i => stF ((l.map (·.v)).getD i St.none))) = .sl 10 l.length (fun i => stF (l.getD i Stp.none).v) := by
    congr 1
    · rw [List.length_map]
    · funext i; congr 1
      rw [List.getD_eq_getElem?_getD, List.getElem?_map, List.getD_eq_getElem?_getD]
      cases l[i]? <;> rfl
  show Rep w _ _ (HV.sl 10 (l.map (·.v)).length (fun i => stF ((l.map (·.v)).getD i St.none)))
  rw [e]; exact key
end Go.Proofs.Ytkeeipfglmpgjaa
