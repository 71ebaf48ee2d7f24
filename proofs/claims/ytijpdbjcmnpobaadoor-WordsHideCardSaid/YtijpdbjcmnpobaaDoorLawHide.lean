/-
  WordsHide: the walk, at what comes in.
-/
import Derived.Test.YtijpdbjcmnpobaaDoorWd3
import Derived.Test.YtijpdbjcmnpobaaDoorLawNumbers
namespace Go.Proofs.YtijpdbjcmnpobaaDoor
set_option linter.unusedSimpArgs false
set_option linter.unusedVariables false
open Go.ChangeShapes Go.WideShapes Go.ChangeAt Go.RowKit Go.Deep
section
variable {H : Type} {encH : TypeId × Value → H} {P : Program} {w : World} {base : Nat} {spare : Nat → Bool} {held : Bool}
theorem el_u8 {e : TypeId} (he : P.underlying e = some (.int .u8)) (m : Nat) (cs : List Value) (y : DataW H × List MemPlace) (h : DataW.trod encH P w base spare held m e cs = some y) : ∃ a : UInt8, cs = byteC a ∧ True := by
  obtain ⟨b, rfl, _, hw⟩ := DataW.trod_int he h
  have hb : 0 ≤ b ∧ b ≤ 255 := by
    simp [Lit.wf] at hw
    exact hw
  refine ⟨UInt8.ofNat b.toNat, ?_, trivial⟩
  unfold byteC
  rw [u8_nat _ (by omega), Int.toNat_of_nonneg hb.1]
end
theorem byte_one (x : UInt8) : ∀ u ∈ byteC x, u.oneCell' = true := by
  intro u hu
  simp [byteC] at hu
  subst hu; rfl
theorem rep_bytes {w : World} {B : Nat} {A : Option Addr} {c : Nat} {l : List UInt8} (h : Sl w B 1 byteC A l) (hc : l.length ≤ c) (hm : c ≤ maxLen) : Rep w (Env.just (allF w)) (.slice A l.length c) (bytesV l) :=
  rep_sl 1 (by omega) byteC byte_one (fun c _ => u8V c) 0 l hc hm h (fun i j _ hj => by rw [byteF_imm _ _ hj]; exact .imm _)
theorem Hide_walk (W : World) (hL : LibW W) (a : Option Addr) (n c : Nat) (l : List UInt8) (hn : l.length = n) (sl : Sl W W.heap.size 1 byteC a l) (hc : n ≤ c) (hm : c ≤ 9223372036854775807) (_ : ∀ x ∈ l, True) (s : ByteArray) (hs : s.size ≤ maxLen) :
    Calls Tryd.prog 4 #[.slice a n c, .string s] W fun e w' => e = .returned (.bool true) ∧ Below W.heap.size W w' := by
  subst hn
  exact law_walk (hidePair_h l s.data.toList) W [.slice a l.length c, .string s] ⟨rep_bytes sl hc (by unfold maxLen; omega), .imm _, trivial⟩ hL
end Go.Proofs.YtijpdbjcmnpobaaDoor
