/-
  The law DiffKept: how many tokens the old parts of any parts have is as the document says.
-/
import Derived.Test.YtkeeipfglmpgjaaOne
import Derived.Test.YtkeeipfglmpgjaaKept
import Derived.Test.YtkeeipfglmpgjaaArgs
namespace Go.Proofs.Ytkeeipfglmpgjaa
open Go.RowKit

attribute [local go_sem ↓] run_store_step
attribute [local go_sem] rd_drewN rd_drew aggStore_row rowSz_new World.setRow_alloc_new one_int one_bool one_slice

def tA : List Tok := [97, 98, 99, 100].map chr
def tB : List Tok := [97, 98, 120, 100].map chr
theorem t_F : oneF tA tB = 2 := by decide
theorem t_T : oneT tA tB = 3 := by decide
theorem t_E : oneE tA tB = 3 := by decide
theorem t_S : (tB.take 3).drop 2 = [chr 120] := by decide
theorem t_ne : ¬ tA = tB := by decide

set_option maxHeartbeats 1000000 in
set_option maxRecDepth 100000 in
theorem live30 (w : World) : Calls Try.prog 9 #[] w fun e w' => e = .returned (.bool true) ∧ Below w.heap.size w w' := by
  have henc : ∀ x, (runeC x).length = 1 := fun _ => rfl
  go_enter Try.func9, Try.ntmps9
  go_wp2_with fail
  refine (Text_any _ _ _ [97, 98, 99, 100] _ (Sl.newl w runeC 1 henc 21 [97, 98, 99, 100] #[.int .i32 97, .int .i32 98, .int .i32 99, .int .i32 100] rfl) (by simp) (by simp)).mono ?_
  rintro e w1 ⟨A1, c1, rfl, ho1, hb1⟩
  go_wp2_with fail
  refine (Text_any _ _ _ [97, 98, 120, 100] _ (Sl.newl w1 runeC 1 henc 21 [97, 98, 120, 100] #[.int .i32 97, .int .i32 98, .int .i32 120, .int .i32 100] rfl) (by simp) (by simp)).mono ?_
  rintro e w2 ⟨A2, c2, rfl, ho2, hb2⟩
  have hs2 : w1.heap.size < w2.heap.size := by have := hb2.size; simp at this; omega
  have ho1' : Own w2 w.heap.size 43 12 Tok.cells (.slice A1 4 c1) tA := (((ho1.alloc _).below hb2 (Nat.le_refl _)).base_le (by simp))
  have ho2' : Own w2 w.heap.size 43 12 Tok.cells (.slice A2 4 c2) tB := (ho2.base_le (by have := hb1.size; simp at this ⊢; omega))
  have hB : Below w.heap.size w w2 := ((Below.refl _ _).alloc (Nat.le_refl _) _).trans ((hb1.mono (by simp)).trans (((Below.refl _ _).alloc (by have := hb1.size; simp at this ⊢; omega) _).trans (hb2.mono (by have := hb1.size; simp at this ⊢; omega))))
  clear ho1 ho2 hb1 hb2 hs2
  go_wp2_with fail
  refine (One_differ A1 A2 c1 c2 _ _ tA tB w2 ho1'.sl' ho2'.sl' (Nat.le_refl _) (Nat.le_refl _) (by decide) (by decide) ho2'.cap.1 t_ne).mono ?_
  rintro e w3 ⟨A3, c3, rfl, ho3, hb3⟩
  have ho3' : Own w3 w2.heap.size 43 12 Tok.cells (.slice A3 1 c3) [chr 120] := by
    have h := ho3
    rw [t_F, t_E, t_S] at h
    exact h
  rw [t_F, t_T, t_E]
  obtain ⟨b, o, rfl, hb⟩ := ho3'.sl'.addr (by decide) (by decide)
  have hr : ∀ ob, (w3.alloc ob).cell? ⟨b, o + 3, none⟩ = some (.int .i32 120) := fun ob => by
    rw [World.cell?_alloc_lt _ _ _ hb]
    have := ho3'.sl'.cell_ (k := 0) (by decide) 3 (by decide)
    simpa [chr, Tok.cells] using this
  have HB := Lib.hid (hB.trans (hb3.mono hB.size))
  clear ho3 ho3' hb3 ho1' ho2' hB
  go_wp2
  go_ret
  exact ⟨rfl, HB.out.alloc HB.out.size _⟩

/-! The law's own loop. -/
def partOf (old : List Bool) (i : Nat) (p : Int × Int) : Part := ⟨if i < old.length then old.getD i false else true, p.1.tmod 1000000, p.2.tmod 1000000, none, 0, 0⟩
def partsOf (l : List (Int × Int)) (old : List Bool) (k : Nat) : List Part := (List.range k).map fun i => partOf old i (l.getD i (0, 0))
theorem partElem : Elem Try.prog 24 28 4 48 :=
  ⟨Try.underlying24, info_some (z := .agg #[.bool false, .int .i64 0, .int .i64 0, .slice none 0 0]) (by kernel_rfl) rfl, by omega, by omega⟩

theorem part_len (t : Part) : t.cells.length = 4 := rfl
theorem part_one (t : Part) : ∀ u ∈ t.cells, u.oneCell' = true := by
  intro u hu
  simp only [Part.cells, List.mem_cons, List.not_mem_nil, or_false] at hu
  rcases hu with rfl | rfl | rfl | rfl <;> rfl
theorem tmod_bd (x : Int) : -1000000 < x.tmod 1000000 ∧ x.tmod 1000000 < 1000000 := by
  rcases Int.le_total 0 x with h | h
  · rw [Int.tmod_eq_emod_of_nonneg h]; omega
  · have := Int.neg_tmod x 1000000
    rw [Int.tmod_eq_emod_of_nonneg (a := -x) (by omega)] at this
    omega
theorem partsOf_snoc (l : List (Int × Int)) (old : List Bool) (k : Nat) : partsOf l old (k + 1) = partsOf l old k ++ [partOf old k (l.getD k (0, 0))] := by
  simp [partsOf, List.range_succ]
theorem partsOf_length (l : List (Int × Int)) (old : List Bool) (k : Nat) : (partsOf l old k).length = k := by simp [partsOf]
theorem partsOf_small (l : List (Int × Int)) (old : List Bool) (k : Nat) : ∀ p ∈ partsOf l old k, p.small := by
  intro p hp
  obtain ⟨i, _, rfl⟩ := List.mem_map.1 hp
  have h1 := tmod_bd (l.getD i (0, 0)).1
  have h2 := tmod_bd (l.getD i (0, 0)).2
  exact ⟨h1.1, h1.2, h2.1, h2.2⟩

theorem kept_step {l : List (Int × Int)} {old : List Bool} {k : Nat} {z : Bool} {x y : Int} (h : partOf old k (l.getD k (0, 0)) = ⟨z, x, y, none, 0, 0⟩) :
    partsOf l old (k + 1) = partsOf l old k ++ [⟨z, x, y, none, 0, 0⟩] ∧ keptSum (partsOf l old (k + 1)) = keptSum (partsOf l old k) + if z then (if y - x < 0 then 0 else y - x) else 0 := by
  rw [partsOf_snoc, h, keptSum_snoc]
  exact ⟨rfl, rfl⟩

set_option maxHeartbeats 1000000 in
set_option maxRecDepth 100000 in
theorem DiffKept_any (A1 A2 : Option Addr) (c1 c2 B : Nat) (l : List (Int × Int)) (old : List Bool) (w : World) (h1 : Sl w B 2 pairC A1 l) (h2 : Sl w B 1 boolC A2 old) (hB : B ≤ w.heap.size) (hl1 : l.length ≤ 9223372036854775807) (hl2 : old.length ≤ 9223372036854775807) :
    Calls Try.prog 3 #[.slice A1 l.length c1, .slice A2 old.length c2] w fun e w' => e = .returned (.bool true) ∧ Below w.heap.size w w' := by
  go_enter Try.func3, Try.ntmps3
  go_upto_block 0 with fail
  go_cut [5, 6] (fun v n wx => ∃ k A c, k ≤ 50 ∧ k ≤ l.length ∧ v = .slice A k c ∧ n = .int .i64 (keptSum (partsOf l old k)) ∧ Own wx w.heap.size 28 4 Part.cells (.slice A k c) (partsOf l old k) ∧ Below w.heap.size w wx)
  case first =>
    go_wp2_with fail
    go_loopw [5, 6, 7] (fun v n i wr => ∃ k A c, k ≤ 50 ∧ k ≤ l.length ∧ i = .int .i64 (k : Nat) ∧ v = .slice A k c ∧ n = .int .i64 (keptSum (partsOf l old k)) ∧ Own wr w.heap.size 28 4 Part.cells (.slice A k c) (partsOf l old k) ∧ Below w.heap.size w wr) (fun _ _ i _ => 50 - (intOf i).toNat)
    case atStart => exact ⟨0, none, 0, by omega, by omega, rfl, rfl, rfl, Own.nil _ _ _ part_len, Below.refl _ _⟩
    case round =>
      obtain ⟨k, A, c, hk1, hk2, rfl, rfl, rfl, hown, hb⟩ := hrel
      by_cases hlt : k < 50 ∧ k < l.length
      · obtain ⟨hlt1, hlt2⟩ := hlt
        obtain ⟨b1, o1, rfl, _⟩ := h1.addr (by omega) (by omega)
        have r0 : wr.cell? ⟨b1, o1 + k * 2, none⟩ = some (.int .i64 l[k].1) := by
          have := (h1.below (hb.mono hB)).cell_ hlt2 0 (by omega)
          simpa [pairC] using this
        have r1 : wr.cell? ⟨b1, o1 + k * 2 + 1, none⟩ = some (.int .i64 l[k].2) := by
          have := (h1.below (hb.mono hB)).cell_ hlt2 1 (by omega)
          simpa [pairC] using this
        have hkb := keptSum_bd (partsOf l old k) (partsOf_small l old k)
        rw [partsOf_length] at hkb
        have t1 := tmod_bd l[k].1
        have t2 := tmod_bd l[k].2
        have hlk : l.getD k (0, 0) = l[k] := by simp [List.getD, List.getElem?_eq_getElem hlt2]
        have hpl := partsOf_length l old k
        have HPL := Lib.hid hpl; clear hpl
        by_cases ho : k < old.length
        · obtain ⟨b2, o2, rfl, _⟩ := h2.addr (by omega) (by omega)
          have r2 : wr.cell? ⟨b2, o2 + k, none⟩ = some (.bool old[k]) := by
            have := (h2.below (hb.mono hB)).cell1 ho
            simpa [boolC] using this
          have hp : partOf old k (l.getD k (0, 0)) = ⟨old[k], l[k].1.tmod 1000000, l[k].2.tmod 1000000, none, 0, 0⟩ := by
            rw [hlk]; simp [partOf, ho, List.getD]
          obtain ⟨z, hz⟩ : ∃ z, z = old[k] := ⟨_, rfl⟩
          rw [← hz] at r2 hp
          have HZ := Lib.hid hz; have HP := Lib.hid (kept_step hp)
          clear hz hp hlk
          have hd : decide (old.length ≤ k) = false := by simp; omega
          cases z
          · go_wp2_with (at_builtin; refine wpList_append_sl rfl _ _ _ rfl partElem w.heap.size Part.cells part_one _ (partsOf l old k) k HPL.out rfl (hown.alloc _) _ _ 1 _ [⟨false, l[k].1.tmod 1000000, l[k].2.tmod 1000000, none, 0, 0⟩] rfl rfl (Sl.new _ Part.cells 4 part_len _ _) (by omega) (le_alloc hb.size _) ?_; intro A2 c2 w2 hown2 hg2 hat2)
            go_roundw
            case rel => exact ⟨k + 1, _, _, by omega, by omega, by go_num, rfl, by rw [HP.out.2]; first | (go_num; done) | (simp; done) | (simp; omega), by rw [HP.out.1]; exact hown2, (hown.alloc _).below_grown (hb.alloc hb.size _) hg2 (Nat.le_refl _) (le_alloc hb.size _)⟩
            case measure => simp [intOf]; omega
          · by_cases hgt : l[k].1.tmod 1000000 < l[k].2.tmod 1000000
            · have hd2 : decide (l[k].1.tmod 1000000 < l[k].2.tmod 1000000) = true := by simp [hgt]
              go_wp2_with (at_builtin; refine wpList_append_sl rfl _ _ _ rfl partElem w.heap.size Part.cells part_one _ (partsOf l old k) k HPL.out rfl (hown.alloc _) _ _ 1 _ [⟨true, l[k].1.tmod 1000000, l[k].2.tmod 1000000, none, 0, 0⟩] rfl rfl (Sl.new _ Part.cells 4 part_len _ _) (by omega) (le_alloc hb.size _) ?_; intro A2 c2 w2 hown2 hg2 hat2)
              go_roundw
              case rel => exact ⟨k + 1, _, _, by omega, by omega, by go_num, rfl, by rw [HP.out.2]; first | (go_num; done) | (simp; done) | (simp; omega), by rw [HP.out.1]; exact hown2, (hown.alloc _).below_grown (hb.alloc hb.size _) hg2 (Nat.le_refl _) (le_alloc hb.size _)⟩
              case measure => simp [intOf]; omega
            · have hd2 : decide (l[k].1.tmod 1000000 < l[k].2.tmod 1000000) = false := by simp [hgt]
              go_wp2_with (at_builtin; refine wpList_append_sl rfl _ _ _ rfl partElem w.heap.size Part.cells part_one _ (partsOf l old k) k HPL.out rfl (hown.alloc _) _ _ 1 _ [⟨true, l[k].1.tmod 1000000, l[k].2.tmod 1000000, none, 0, 0⟩] rfl rfl (Sl.new _ Part.cells 4 part_len _ _) (by omega) (le_alloc hb.size _) ?_; intro A2 c2 w2 hown2 hg2 hat2)
              go_roundw
              case rel => exact ⟨k + 1, _, _, by omega, by omega, by go_num, rfl, by rw [HP.out.2]; first | (go_num; done) | (simp; done) | (simp; omega), by rw [HP.out.1]; exact hown2, (hown.alloc _).below_grown (hb.alloc hb.size _) hg2 (Nat.le_refl _) (le_alloc hb.size _)⟩
              case measure => simp [intOf]; omega
        · have hd : decide (old.length ≤ k) = true := by simp; omega
          have hp : partOf old k (l.getD k (0, 0)) = ⟨true, l[k].1.tmod 1000000, l[k].2.tmod 1000000, none, 0, 0⟩ := by
            rw [hlk]; simp [partOf, ho]
          have HP := Lib.hid (kept_step hp)
          clear hp hlk
          by_cases hgt : l[k].1.tmod 1000000 < l[k].2.tmod 1000000
          · have hd2 : decide (l[k].1.tmod 1000000 < l[k].2.tmod 1000000) = true := by simp [hgt]
            go_wp2_with (at_builtin; refine wpList_append_sl rfl _ _ _ rfl partElem w.heap.size Part.cells part_one _ (partsOf l old k) k HPL.out rfl (hown.alloc _) _ _ 1 _ [⟨true, l[k].1.tmod 1000000, l[k].2.tmod 1000000, none, 0, 0⟩] rfl rfl (Sl.new _ Part.cells 4 part_len _ _) (by omega) (le_alloc hb.size _) ?_; intro A2 c2 w2 hown2 hg2 hat2)
            go_roundw
            case rel => exact ⟨k + 1, _, _, by omega, by omega, by go_num, rfl, by rw [HP.out.2]; first | (go_num; done) | (simp; done) | (simp; omega), by rw [HP.out.1]; exact hown2, (hown.alloc _).below_grown (hb.alloc hb.size _) hg2 (Nat.le_refl _) (le_alloc hb.size _)⟩
            case measure => simp [intOf]; omega
          · have hd2 : decide (l[k].1.tmod 1000000 < l[k].2.tmod 1000000) = false := by simp [hgt]
            go_wp2_with (at_builtin; refine wpList_append_sl rfl _ _ _ rfl partElem w.heap.size Part.cells part_one _ (partsOf l old k) k HPL.out rfl (hown.alloc _) _ _ 1 _ [⟨true, l[k].1.tmod 1000000, l[k].2.tmod 1000000, none, 0, 0⟩] rfl rfl (Sl.new _ Part.cells 4 part_len _ _) (by omega) (le_alloc hb.size _) ?_; intro A2 c2 w2 hown2 hg2 hat2)
            go_roundw
            case rel => exact ⟨k + 1, _, _, by omega, by omega, by go_num, rfl, by rw [HP.out.2]; first | (go_num; done) | (simp; done) | (simp; omega), by rw [HP.out.1]; exact hown2, (hown.alloc _).below_grown (hb.alloc hb.size _) hg2 (Nat.le_refl _) (le_alloc hb.size _)⟩
            case measure => simp [intOf]; omega
      · by_cases h3 : k < l.length
        · have hd : decide (k < l.length) = true := by simp [h3]
          have hd2 : decide ((k : Int) < 50) = false := by simp; omega
          go_wp2
          go_meet
          case rel => exact ⟨k, A, c, hk1, hk2, rfl, rfl, hown, hb⟩
        · have hd : decide (k < l.length) = false := by simp [h3]
          go_wp2
          go_meet
          case rel => exact ⟨k, A, c, hk1, hk2, rfl, rfl, hown, hb⟩
  case rest =>
    obtain ⟨k, A, c, hk1, hk2, rfl, rfl, hown, hb⟩ := hcut
    have hpl := hown.cap.2
    have hbs := partsOf_small l old k
    go_wp2_with fail
    refine (Kept_any A k c _ (partsOf l old k) wc hpl hown.sl' (Nat.le_refl _) (by omega) hbs).mono ?_
    rintro e w2 ⟨rfl, hb2⟩
    clear hpl hbs hown
    go_wp2_with fail
    refine (live30 w2).mono ?_
    rintro e w3 ⟨rfl, hb3⟩
    have HB := Lib.hid (hb.trans ((hb2.mono hb.size).trans (hb3.mono (Nat.le_trans hb.size hb2.size))))
    clear hb hb2 hb3
    go_wp2
    go_ret
    exact ⟨rfl, HB.out⟩

/-- The same, as the row's step asks it. -/
theorem DiffKept_walk (W : World) (A0 : Option Addr) (n0 c0 : Nat) (l0 : List (Int × Int)) (hn0 : l0.length = n0) (s0 : Sl W W.heap.size 2 pairC A0 l0) (hc0 : n0 ≤ c0) (hm0 : c0 ≤ 9223372036854775807) (_ok0 : ∀ a ∈ l0, okPair a)
    (A1 : Option Addr) (n1 c1 : Nat) (l1 : List Bool) (hn1 : l1.length = n1) (s1 : Sl W W.heap.size 1 boolC A1 l1) (hc1 : n1 ≤ c1) (hm1 : c1 ≤ 9223372036854775807) (_ok1 : ∀ a ∈ l1, (fun _ => True) a) :
    Calls Try.prog 3 #[.slice A0 n0 c0, .slice A1 n1 c1] W fun e w' => e = .returned (.bool true) ∧ Below W.heap.size W w' := by
  subst hn0; subst hn1
  exact DiffKept_any A0 A1 c0 c1 _ l0 l1 W s0 s1 (Nat.le_refl _) (by omega) (by omega)
end Go.Proofs.Ytkeeipfglmpgjaa
