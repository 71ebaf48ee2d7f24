/-
  Bytes as a word's piece: words.Hide. The library's builder by its contracts.
-/
import Derived.Test.YtijpdbjcmnpobaaDoorStr
import Derived.Test.YtijpdbjcmnpobaaDoorBld
import Derived.Test.YtijpdbjcmnpobaaDoorNum
import Derived.Lib.OthersKept
import Derived.Deep.WholeRow
import Derived.Laws.Tables
namespace Go.Proofs.YtijpdbjcmnpobaaDoor
set_option linter.unusedSimpArgs false
set_option linter.unusedVariables false
open Go.RowKit
open Go.Lib hiding intOf

def byteC (c : UInt8) : List Value := [.int .u8 c.toNat]
theorem byteC_length (c : UInt8) : (byteC c).length = 1 := by simp [byteC]
def hexD (n : Nat) : UInt8 := if n < 10 then UInt8.ofNat (48 + n) else UInt8.ofNat (87 + n)
def plainB (c : UInt8) : Bool := decide (32 < c.toNat) && !decide (c.toNat = 127)
def hideB (c : UInt8) : List UInt8 :=
  if c.toNat = 92 then [92, 92] else if c.toNat = 32 then [92, 115] else if c.toNat = 10 then [92, 110] else if plainB c then [c] else [92, 120, hexD (c.toNat / 16), hexD (c.toNat % 16)]
def hideL (l : List UInt8) : List UInt8 := l.flatMap hideB
theorem hideB_le (c : UInt8) : (hideB c).length ≤ 4 := by
  unfold hideB; repeat' split
  all_goals simp
theorem hideL_le (l : List UInt8) : (hideL l).length ≤ 4 * l.length := by
  induction l with
  | nil => simp [hideL]
  | cons c r ih =>
    have := hideB_le c
    simp only [hideL, List.flatMap_cons, List.length_append, List.length_cons] at *
    omega

/-- The short table. -/
noncomputable def shortV : List Value := ((Tryd.zeroCells77.toList.set 32 (.int .u8 115)).set 10 (.int .u8 110)).set 92 (.int .u8 92)
def shortN (c : Nat) : Int := if c = 92 then 92 else if c = 32 then 115 else if c = 10 then 110 else 0
def u8Of : Value → Option Int
  | .int .u8 n => some n
  | _ => none
theorem u8Of_some {v : Value} {n : Int} (h : u8Of v = some n) : v = .int .u8 n := by
  unfold u8Of at h
  split at h
  · injection h with h; rw [h]
  · cases h
theorem short_map : shortV.map u8Of = (List.range 128).map (fun c => some (shortN c)) := by kernel_rfl
theorem short_len : shortV.length = 128 := by
  have := congrArg List.length short_map
  simpa using this
theorem short_get (c : Nat) (hc : c < 128) : shortV[c]? = some (.int .u8 (shortN c)) := by
  have h := congrArg (fun l => l[c]?) short_map
  simp only [List.getElem?_map, List.getElem?_range hc, Option.map_some] at h
  cases hv : shortV[c]? with
  | none => rw [hv] at h; cases h
  | some v =>
    rw [hv] at h
    simp only [Option.map_some] at h
    injection h with h
    rw [u8Of_some h]
theorem short_one : ∀ v ∈ shortV, v.oneCell' = true := by
  intro v hv
  obtain ⟨c, hc, rfl⟩ := List.getElem_of_mem hv
  have h := short_get c (by rw [short_len] at hc; exact hc)
  rw [List.getElem?_eq_getElem hc] at h
  injection h with h
  rw [h]; rfl
theorem zero_size : Tryd.zeroCells77.size = 128 := by kernel_rfl
theorem short_store (w : World) : Sem.run Tryd.prog (storeCells ⟨w.heap.size, 0, none⟩ shortV) (w.alloc (.cells Tryd.zeroCells77 77)) = .ok () (w.alloc (.cells shortV.toArray 77)) := by
  have h := run_storeCells_from (P := Tryd.prog) w.heap.size 77 shortV 0 Tryd.zeroCells77 (w.alloc (.cells Tryd.zeroCells77 77)) (Blk.new w _ _) (by rw [short_len, zero_size]) short_one
  rw [h]
  congr 1
  show (w.alloc (.cells _ _)).setRow w.heap.size shortV.toArray = _
  rw [World.setRow_alloc_new]

/-- The builder, with what it holds as bytes. -/
def Bld (B : Nat) (l : List UInt8) (w : World) : Prop := Lib.IsBuilderF 76 5 B B (Lib.byteCells l) w
def Keeps (B : Nat) (w w' : World) : Prop := Below B w w' ∧ Lib.OthersKept 5 (some B) w w'
theorem Keeps.blk {B k : Nat} {w w' : World} {cs : Array Value} {t : TypeId} (h : Keeps B w w') (hk : k ≠ B) (ht : t ≠ 5) (hb : Blk w k t cs) : Blk w' k t cs :=
  h.2 k _ hb (fun e => hk (Option.some.inj e)) (fun c fz e => by injection e with _ e; exact ht e)
theorem wb_w (B : Nat) (l : List UInt8) (c : UInt8) (i : Int) (hi : i = (c.toNat : Int)) (w : World) (h : Bld B l w) (hlen : l.length + 1 ≤ 140737488355328) (hB : B ≤ w.heap.size) :
    Calls Tryd.prog 45 #[.pointer (some ⟨B, 0, none⟩), .int .u8 i] w fun e w' => e = .returned .nilIface ∧ Bld B (l ++ [c]) w' ∧ Keeps B w w' := by
  subst hi
  refine (Any.Builder_WriteByte_k Tryd.bld167 Tryd.bldX167 B B (Lib.byteCells l) c.toNat w h (by rw [Lib.byteCells_length]; exact hlen) hB).mono ?_
  rintro e w' ⟨rfl, h1, h2, h3⟩
  refine ⟨rfl, .inr ?_, h2, h3⟩
  have e1 : Lib.byteCells (l ++ [c]) = Lib.byteCells l ++ [.int .u8 (c.toNat : Int)] := by simp [Lib.byteCells]
  rw [e1]; exact h1
theorem ws_w (B : Nat) (l : List UInt8) (m : List UInt8) (w : World) (h : Bld B l w) (hlen : l.length + m.length ≤ 140737488355328) (hB : B ≤ w.heap.size) :
    Calls Tryd.prog 47 #[.pointer (some ⟨B, 0, none⟩), .string ⟨m.toArray⟩] w fun e w' => (∃ v, e = .returned v) ∧ Bld B (l ++ m) w' ∧ Keeps B w w' := by
  refine (Any.Builder_WriteString_k Tryd.bld166 Tryd.bldX166 B B (Lib.byteCells l) ⟨m.toArray⟩ w h (by rw [Lib.byteCells_length]; exact hlen) hB).mono ?_
  rintro e w' ⟨rfl, h1, h2, h3⟩
  refine ⟨⟨_, rfl⟩, .inr ?_, h2, h3⟩
  have e1 : Lib.byteCells (l ++ m) = Lib.byteCells l ++ Lib.strCells ⟨m.toArray⟩ := by simp [Lib.byteCells, Lib.strCells]
  rw [e1]; exact h1
theorem bstr_w (B : Nat) (l : List UInt8) (w : World) (h : Bld B l w) (hB : B ≤ w.heap.size) :
    Calls Tryd.prog 48 #[.pointer (some ⟨B, 0, none⟩)] w fun e w' => e = .returned (.string ⟨l.toArray⟩) ∧ Bld B l w' ∧ Keeps B w w' :=
  (Any.Builder_String_any_k Tryd.lays169 Tryd.Builder_Extra_169 B B l w h hB).mono fun e w' h => ⟨h.1, h.2.1, h.2.2.1, h.2.2.2⟩
theorem plain_w (c : UInt8) (w : World) : Calls Tryd.prog 46 #[.int .u8 (c.toNat : Int)] w fun e w' => e = .returned (.bool (plainB c)) ∧ w' = w := by
  by_cases h1 : 32 < c.toNat
  · by_cases h2 : c.toNat = 127
    · have hp : plainB c = false := by simp [plainB, h2]
      rw [hp, h2]
      go_enter Tryd.func46, Tryd.ntmps46
      go_wp2
      go_ret
      exact ⟨rfl, rfl⟩
    · have hp : plainB c = true := by simp [plainB, h1, h2]
      rw [hp]
      have h3 : (32 : Int) < c.toNat := by omega
      have h4 : ((c.toNat : Int) != 127) = true := by simp; omega
      go_enter Tryd.func46, Tryd.ntmps46
      go_wp2
      go_ret
      exact ⟨rfl, rfl⟩
  · have hp : plainB c = false := by simp [plainB, h1]
    rw [hp]
    have h3 : ¬ (32 : Int) < c.toNat := by omega
    go_enter Tryd.func46, Tryd.ntmps46
    go_wp2
    go_ret
    exact ⟨rfl, rfl⟩

theorem hex_all : ∀ q : Fin 16, (#[48, 49, 50, 51, 52, 53, 54, 55, 56, 57, 97, 98, 99, 100, 101, 102] : Array UInt8)[q.val]! = hexD q.val := by decide +kernel
theorem hex_at (q : Nat) (hq : q < 16) (h : q < (⟨#[48, 49, 50, 51, 52, 53, 54, 55, 56, 57, 97, 98, 99, 100, 101, 102]⟩ : ByteArray).size) : (((⟨#[48, 49, 50, 51, 52, 53, 54, 55, 56, 57, 97, 98, 99, 100, 101, 102]⟩ : ByteArray)[q]'h).toNat : Int) = ((hexD q).toNat : Int) := by
  have h2 := hex_all ⟨q, hq⟩
  have h3 : q < (#[48, 49, 50, 51, 52, 53, 54, 55, 56, 57, 97, 98, 99, 100, 101, 102] : Array UInt8).size := h
  have h4 := getElem!_pos (#[48, 49, 50, 51, 52, 53, 54, 55, 56, 57, 97, 98, 99, 100, 101, 102] : Array UInt8) q h3
  have h5 : (#[48, 49, 50, 51, 52, 53, 54, 55, 56, 57, 97, 98, 99, 100, 101, 102] : Array UInt8)[q]'h3 = hexD q := h4.symm.trans h2
  exact congrArg (fun c : UInt8 => (c.toNat : Int)) h5

set_option maxRecDepth 100000 in
theorem hide_w (w : World) (A : Option Addr) (n c : Nat) (l : List UInt8) (hn : l.length = n) (h : Sl w w.heap.size 1 byteC A l) (hl : n ≤ 2000) :
    Calls Tryd.prog 17 #[.slice A n c] w fun e w' => e = .returned (.string ⟨(hideL l).toArray⟩) ∧ Below w.heap.size w w' := by
  have hst := short_store (w.alloc (Obj.cells #[Value.pointer none, Value.slice none 0 0] 76))
  rw [World.size_alloc] at hst
  unfold shortV at hst
  go_enter Tryd.func17, Tryd.ntmps17
  go_wp2
  go_loopw [10] (fun iv wr => ∃ k, iv = .int .i64 ((k : Nat) : Int) ∧ k ≤ n ∧ Bld w.heap.size (hideL (l.take k)) wr ∧ Blk wr (w.heap.size + 1) 77 shortV.toArray ∧ Below w.heap.size w wr) (fun iv _ => n - (RowKit.intOf iv).toNat)
  case atStart =>
    refine ⟨0, rfl, by omega, ?_, ?_, ?_⟩
    · exact (Lib.IsBuilderF.of (Lib.fresh_isBuilder 76 5 w)).alloc _
    · have := Blk.new (w.alloc (Obj.cells #[Value.pointer none, Value.slice none 0 0] 76)) 77 shortV.toArray
      rw [World.size_alloc] at this
      exact this
    · exact ((Below.refl _ _).alloc (Nat.le_refl _) _).alloc (by simp) _
  case round =>
    obtain ⟨k, rfl, hk, hI, hS, hb⟩ := hrel
    have hle := hideL_le (l.take k)
    have htk : (l.take k).length ≤ n := by rw [List.length_take]; omega
    have hB : w.heap.size ≤ wr.heap.size := hb.size
    by_cases hlt : k < n
    · obtain ⟨b, o, rfl, hbB⟩ := h.addr (by omega) (by omega)
      have r : wr.cell? ⟨b, o + k, none⟩ = some (.int .u8 l[k].toNat) := (h.below hb).cell1 (by omega)
      have htake : hideL (l.take (k + 1)) = hideL (l.take k) ++ hideB l[k] := by
        rw [List.take_add_one, List.getElem?_eq_getElem (by omega), hideL, List.flatMap_append]
        simp only [hideL, Option.toList, List.flatMap_cons, List.flatMap_nil, List.append_nil]
      have hklt : decide ((k : Int) < (n : Int)) = true := by simp; omega
      have hk1 : IntKind.i64.wrap ((k : Int) + 1) = (k : Int) + 1 := by rw [IntKind.wrap_i64]; omega
      obtain ⟨c0, hc0⟩ : ∃ c0, l[k] = c0 := ⟨_, rfl⟩
      rw [hc0] at r htake
      have hc256 : c0.toNat < 256 := c0.toNat_lt
      have carry : ∀ W V : World, (Blk W (w.heap.size + 1) 77 shortV.toArray ∧ Below w.heap.size w W) → Keeps w.heap.size W V → (Blk V (w.heap.size + 1) 77 shortV.toArray ∧ Below w.heap.size w V) := fun W V h hk => ⟨hk.blk (by omega) (by decide) h.1, h.2.trans hk.1⟩
      have hend : ∀ (V : World) (j : Int), j = (k : Int) + 1 → Bld w.heap.size (hideL (l.take k) ++ hideB c0) V → (Blk V (w.heap.size + 1) 77 shortV.toArray ∧ Below w.heap.size w V) → (∃ k, Value.int IntKind.i64 j = Value.int IntKind.i64 ((k : Nat) : Int) ∧ k ≤ n ∧ Bld w.heap.size (hideL (l.take k)) V ∧ Blk V (w.heap.size + 1) 77 shortV.toArray ∧ Below w.heap.size w V) ∧ n - (RowKit.intOf (Value.int IntKind.i64 j)).toNat < n - (RowKit.intOf (Value.int IntKind.i64 (k : Int))).toNat := by
        rintro V j rfl h1 h2
        refine ⟨⟨k + 1, rfl, by omega, by rw [htake]; exact h1, h2.1, h2.2⟩, ?_⟩
        simp only [RowKit.intOf]; omega
      have h8k : (hideL (l.take k)).length ≤ 8000 := by omega
      clear hle
      have HE := Lib.hid hend
      have HC := Lib.hid (And.intro hS hb)
      have HK := Lib.hid carry
      clear hend carry htake htk hn h hst hc0 hb
      have hget : ∀ V, Blk V (w.heap.size + 1) 77 shortV.toArray → ∀ q : Nat, q < 128 → V.cell? ⟨w.heap.size + 1, q, none⟩ = some (.int .u8 (shortN q)) := by
        intro V hV q hq
        rw [hV.cell, List.getElem?_toArray]; exact short_get q hq
      have HG := Lib.hid hget
      clear hget hS
      by_cases hsp : c0.toNat < 128 ∧ shortN c0.toNat ≠ 0
      · obtain ⟨m, hm, hbb⟩ : ∃ m : UInt8, shortN c0.toNat = (m.toNat : Int) ∧ hideB c0 = [92, m] := by
          have h2 := hsp.2
          unfold shortN at h2 ⊢
          unfold hideB
          by_cases e1 : c0.toNat = 92
          · exact ⟨92, by rw [if_pos e1]; rfl, by rw [if_pos e1]⟩
          · by_cases e2 : c0.toNat = 32
            · exact ⟨115, by rw [if_neg e1, if_pos e2]; rfl, by rw [if_neg e1, if_pos e2]⟩
            · by_cases e3 : c0.toNat = 10
              · exact ⟨110, by rw [if_neg e1, if_neg e2, if_pos e3]; rfl, by rw [if_neg e1, if_neg e2, if_pos e3]⟩
              · rw [if_neg e1, if_neg e2, if_neg e3] at h2; exact absurd rfl h2
        have hs := HG.out wr HC.out.1 c0.toNat hsp.1
        rw [hm] at hs
        have hm0 : ((m.toNat : Int) != 0) = true := by rw [← hm]; simpa using hsp.2
        have hc128 : (c0.toNat : Int) < 128 := by omega
        go_wp2_with (go_at_call 45; fail)
        refine (wb_w w.heap.size _ 92 92 rfl _ hI (by omega) hB).mono ?_
        rintro e W1 ⟨rfl, hI1, k1⟩
        have HC1 := Lib.hid (HK.out _ _ HC.out k1)
        have hs1 := HG.out W1 HC1.out.1 c0.toNat hsp.1
        rw [hm] at hs1
        have hB1 : w.heap.size ≤ W1.heap.size := HC1.out.2.size
        clear hs k1
        go_wp2_with (go_at_call 45; fail)
        refine (wb_w w.heap.size _ m _ rfl _ hI1 (by rw [List.length_append]; simp only [List.length_singleton]; omega) hB1).mono ?_
        rintro e W2 ⟨rfl, hI2, k2⟩
        have HC2 := Lib.hid (HK.out _ _ HC1.out k2)
        clear k2
        go_wp2
        exact HE.out W2 _ rfl (by rw [hbb]; simpa using hI2) HC2.out
      · have hshort : c0.toNat < 128 → shortN c0.toNat = 0 := by
          intro h1
          rcases Int.lt_trichotomy (shortN c0.toNat) 0 with h2 | h2 | h2
          · exact absurd ⟨h1, by omega⟩ hsp
          · exact h2
          · exact absurd ⟨h1, by omega⟩ hsp
        have hne : ¬ c0.toNat = 92 ∧ ¬ c0.toNat = 32 ∧ ¬ c0.toNat = 10 := by
          refine ⟨fun e => hsp ⟨by omega, ?_⟩, fun e => hsp ⟨by omega, ?_⟩, fun e => hsp ⟨by omega, ?_⟩⟩ <;> (rw [e]; decide)
        clear hsp
        cases hp : plainB c0 with
        | true =>
          have hbb : hideB c0 = [c0] := by unfold hideB; rw [if_neg hne.1, if_neg hne.2.1, if_neg hne.2.2, if_pos hp]
          have hP := plain_w c0
          rw [hp] at hP
          clear hne
          by_cases h128 : c0.toNat < 128
          · have hs := HG.out wr HC.out.1 c0.toNat h128
            rw [hshort h128] at hs
            have hc128 : (c0.toNat : Int) < 128 := by omega
            clear hshort
            go_wp2_with (first | (go_at_call 46; refine (hP _).mono ?_; rintro e w1 ⟨rfl, rfl⟩) | (go_at_call 45; fail))
            refine (wb_w w.heap.size _ c0 _ rfl _ hI (by omega) hB).mono ?_
            rintro e W1 ⟨rfl, hI1, k1⟩
            have HC1 := Lib.hid (HK.out _ _ HC.out k1)
            clear k1
            go_wp2
            exact HE.out W1 _ rfl (by rw [hbb]; exact hI1) HC1.out
          · have hc128 : ¬ (c0.toNat : Int) < 128 := by omega
            clear hshort
            go_wp2_with (first | (go_at_call 46; refine (hP _).mono ?_; rintro e w1 ⟨rfl, rfl⟩) | (go_at_call 45; fail))
            refine (wb_w w.heap.size _ c0 _ rfl _ hI (by omega) hB).mono ?_
            rintro e W1 ⟨rfl, hI1, k1⟩
            have HC1 := Lib.hid (HK.out _ _ HC.out k1)
            clear k1
            go_wp2
            exact HE.out W1 _ rfl (by rw [hbb]; exact hI1) HC1.out
        | false =>
          have hbb : hideB c0 = [92, 120, hexD (c0.toNat / 16), hexD (c0.toNat % 16)] := by unfold hideB; rw [if_neg hne.1, if_neg hne.2.1, if_neg hne.2.2, if_neg (by rw [hp]; decide)]
          have hP := plain_w c0
          rw [hp] at hP
          clear hne
          by_cases h128 : c0.toNat < 128
          · have hs := HG.out wr HC.out.1 c0.toNat h128
            rw [hshort h128] at hs
            have hc128 : (c0.toNat : Int) < 128 := by omega
            clear hshort
            go_wp2_with (first | (go_at_call 46; refine (hP _).mono ?_; rintro e w1 ⟨rfl, rfl⟩) | (go_at_call 47; fail))
            refine (ws_w w.heap.size _ [92, 120] _ hI (by simp only [List.length_cons, List.length_nil]; omega) hB).mono ?_
            rintro e W1 ⟨⟨v1, rfl⟩, hI1, k1⟩
            have HC1 := Lib.hid (HK.out _ _ HC.out k1)
            have hB1 : w.heap.size ≤ W1.heap.size := HC1.out.2.size
            clear k1
            go_wp2_with (go_at_call 45; fail)
            refine (wb_w w.heap.size _ (hexD (c0.toNat / 16)) _ (hex_at (c0.toNat / 16) (by omega) _) _ hI1 (by simp only [List.length_append, List.length_cons, List.length_nil]; omega) hB1).mono ?_
            rintro e W2 ⟨rfl, hI2, k2⟩
            have HC2 := Lib.hid (HK.out _ _ HC1.out k2)
            have hB2 : w.heap.size ≤ W2.heap.size := HC2.out.2.size
            clear k2
            go_wp2_with (go_at_call 45; fail)
            refine (wb_w w.heap.size _ (hexD (c0.toNat % 16)) _ (hex_at (c0.toNat % 16) (by omega) _) _ hI2 (by simp only [List.length_append, List.length_cons, List.length_nil]; omega) hB2).mono ?_
            rintro e W3 ⟨rfl, hI3, k3⟩
            have HC3 := Lib.hid (HK.out _ _ HC2.out k3)
            clear k3
            go_wp2
            exact HE.out W3 _ rfl (by rw [hbb]; simpa using hI3) HC3.out
          · have hc128 : ¬ (c0.toNat : Int) < 128 := by omega
            clear hshort
            go_wp2_with (first | (go_at_call 46; refine (hP _).mono ?_; rintro e w1 ⟨rfl, rfl⟩) | (go_at_call 47; fail))
            refine (ws_w w.heap.size _ [92, 120] _ hI (by simp only [List.length_cons, List.length_nil]; omega) hB).mono ?_
            rintro e W1 ⟨⟨v1, rfl⟩, hI1, k1⟩
            have HC1 := Lib.hid (HK.out _ _ HC.out k1)
            have hB1 : w.heap.size ≤ W1.heap.size := HC1.out.2.size
            clear k1
            go_wp2_with (go_at_call 45; fail)
            refine (wb_w w.heap.size _ (hexD (c0.toNat / 16)) _ (hex_at (c0.toNat / 16) (by omega) _) _ hI1 (by simp only [List.length_append, List.length_cons, List.length_nil]; omega) hB1).mono ?_
            rintro e W2 ⟨rfl, hI2, k2⟩
            have HC2 := Lib.hid (HK.out _ _ HC1.out k2)
            have hB2 : w.heap.size ≤ W2.heap.size := HC2.out.2.size
            clear k2
            go_wp2_with (go_at_call 45; fail)
            refine (wb_w w.heap.size _ (hexD (c0.toNat % 16)) _ (hex_at (c0.toNat % 16) (by omega) _) _ hI2 (by simp only [List.length_append, List.length_cons, List.length_nil]; omega) hB2).mono ?_
            rintro e W3 ⟨rfl, hI3, k3⟩
            have HC3 := Lib.hid (HK.out _ _ HC2.out k3)
            clear k3
            go_wp2
            exact HE.out W3 _ rfl (by rw [hbb]; simpa using hI3) HC3.out
    · have hkn : k = n := by omega
      subst hkn
      rw [List.take_of_length_le (by omega)] at hI
      clear hst h hle htk
      go_wp2_with (go_at_call 48; refine (bstr_w w.heap.size _ _ hI hB).mono ?_; rintro e W1 ⟨rfl, hI1, k1⟩)
      go_ret
      exact ⟨rfl, hb.trans k1.1⟩
end Go.Proofs.YtijpdbjcmnpobaaDoor
