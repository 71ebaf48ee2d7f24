/-
  diff.Kept: how many tokens the old parts have.
-/
import Derived.Test.YtkeeipfglmpgjaaTok
namespace Go.Proofs.Ytkeeipfglmpgjaa
open Go.RowKit

structure Part where
  old : Bool
  from_ : Int
  to_ : Int
  na : Option Addr
  nl : Nat
  nc : Nat
def Part.cells (p : Part) : List Value := [.bool p.old, .int .i64 p.from_, .int .i64 p.to_, .slice p.na p.nl p.nc]
theorem part_agg : ∀ w, (isAgg 28).run Try.prog w = .ok true w := fun w => by kernel_rfl
theorem part_size : ∀ w, (sizeOf 28).run Try.prog w = .ok 4 w := fun w => by kernel_rfl
theorem run_load_part (w : World) (ρ : Operand → Value) (x : Operand) (d : Option Tmp) (ty : TypeId) (pos : String) (af : Array _) (g : Option _) :
    (execOp ρ ⟨d, .load 28 x, ty, pos, af, g⟩).run Try.prog w = aggLoad Try.prog 28 4 w (ρ x) := run_load_agg _ part_agg 4 part_size w ρ x d ty pos af g

attribute [local go_sem ↓] run_load_part
attribute [local go_sem] rd_drewN rd_drew aggLoad_ptr aggRes_some

/-- What the old parts of a list hold, together. -/
def Part.kept (p : Part) : Int := if p.old then (if p.to_ - p.from_ < 0 then 0 else p.to_ - p.from_) else 0
def keptSum (l : List Part) : Int := (l.map Part.kept).sum
theorem keptSum_snoc (l : List Part) (p : Part) : keptSum (l ++ [p]) = keptSum l + p.kept := by simp [keptSum]

def Part.small (p : Part) : Prop := -1000000 < p.from_ ∧ p.from_ < 1000000 ∧ -1000000 < p.to_ ∧ p.to_ < 1000000

theorem keptSum_bd (l : List Part) (h : ∀ p ∈ l, p.small) : 0 ≤ keptSum l ∧ keptSum l ≤ 2000000 * l.length := by
  induction l with
  | nil => simp [keptSum]
  | cons p l ih =>
    have h1 := ih (fun q hq => h q (by simp [hq]))
    obtain ⟨a, b, c, d⟩ := h p (by simp)
    unfold keptSum at *
    simp only [List.map_cons, List.sum_cons, List.length_cons]
    have : 0 ≤ p.kept ∧ p.kept ≤ 2000000 := by unfold Part.kept; split <;> (try split) <;> omega
    omega

set_option maxHeartbeats 400000 in
theorem Kept_any (A : Option Addr) (n c B : Nat) (l : List Part) (w : World) (hn : l.length = n) (h : Sl w B 4 Part.cells A l) (hB : B ≤ w.heap.size) (hl : l.length ≤ 1000) (hs : ∀ p ∈ l, p.small) :
    Calls Try.prog 8 #[.slice A n c] w fun e w' => e = .returned (.int .i64 (keptSum l)) ∧ Below w.heap.size w w' := by
  subst hn
  have HS := Lib.hid hs; clear hs
  go_enter Try.func8, Try.ntmps8
  go_wp2
  go_loopw [3, 8] (fun n i wr => ∃ k : Nat, k ≤ l.length ∧ i = .int .i64 k ∧ n = .int .i64 (keptSum (l.take k)) ∧ Below w.heap.size w wr) (fun _ i _ => l.length - (intOf i).toNat)
  case atStart => exact ⟨0, Nat.zero_le _, rfl, rfl, Below.refl _ _⟩
  case round =>
    obtain ⟨k, hk, rfl, rfl, hb⟩ := hrel
    by_cases hlt : k < l.length
    · obtain ⟨b, o, rfl, hbB⟩ := h.addr (by omega) (by omega)
      have r := (h.below (hb.mono hB)).rd_ hlt
      have hbd := keptSum_bd (l.take k) (fun p hp => HS.out p (List.mem_of_mem_take hp))
      have hsm := HS.out l[k] (List.getElem_mem _)
      have hsn := keptSum_snoc (l.take k) l[k]
      have hlen : (l.take k).length ≤ k := List.length_take_le _ _
      rw [← List.take_succ_eq_append_getElem hlt] at hsn
      have HN := Lib.hid hsn; clear hsn
      obtain ⟨p, hp⟩ : ∃ p, p = l[k] := ⟨_, rfl⟩
      rw [← hp] at r hsm HN
      have HP := Lib.hid hp; clear hp
      obtain ⟨old, fr, tt, na, nl, nc⟩ := p
      obtain ⟨s1, s2, s3, s4⟩ := hsm
      simp only [Part.cells] at r s1 s2 s3 s4
      simp only [Part.kept] at HN
      cases old
      · go_wp2
        go_roundw
        case rel => exact ⟨k + 1, by omega, by go_num, by rw [HN.out]; simp, hb.alloc hb.size _⟩
        case measure => simp [intOf]; omega
      · go_wp2
        go_roundw
        case rel => exact ⟨k + 1, by omega, by go_num, by rw [HN.out]; simp, hb.alloc hb.size _⟩
        case measure => simp [intOf]; omega
    · go_wp2
      go_ret
      exact ⟨ret_int (by rw [List.take_of_length_le (by omega)]), hb⟩
end Go.Proofs.Ytkeeipfglmpgjaa
