/-
  What the rows' conditions on the library's variables give the walks.
-/
import Derived.Test.YtijpdbjcmnpobaaDoorHg
import Derived.Test.YtijpdbjcmnpobaaDoorRows
import Derived.LaidLaws
import Derived.LaidMore
import Derived.LaidSub
import Derived.Stop.Joined
namespace Go.Proofs.YtijpdbjcmnpobaaDoor
set_option linter.unusedSimpArgs false
set_option linter.unusedVariables false
set_option maxRecDepth 100000
open Go.RowKit

theorem laid_one {W : World} {l : List (String × DataW Unit)} (h : laidMetH Tryd.prog l W) (hl : (l.all fun x => x.2.handleName?.isNone) = true) (n : String) (d : DataW Unit) (hf : l.filter (fun x => x.1 == n) = [(n, d)]) : laidMet Tryd.prog [(n, d)] W := by
  rw [MakeChecks.laidMetH_plain _ _ _ hl] at h
  have := laidMet.filter (fun x => x.1 == n) h
  rwa [hf] at this
theorem iface_one {W : World} {n : String} {name : String} {d : DataW Unit} {g : Nat} {t : TypeId} {ms : Array (String × TypeId)} (hg : Tryd.prog.globalNamed n = some g) (hty : (Tryd.prog.globals[g]?).map (·.type) = some t) (ht : Tryd.prog.underlying t = some (.interface ms))
    (h : laidMet Tryd.prog [(n, .iface name d)] W) : ∃ tp p, W.var? Tryd.prog n = some #[.iface tp p] := by
  obtain ⟨ps, ⟨g', t', cs, fuel, p, q, hg', ht', hvar, hd, _, _⟩, _⟩ := h
  obtain rfl := Option.some.inj (hg.symm.trans hg')
  obtain rfl := Option.some.inj (hty.symm.trans ht')
  obtain ⟨f1, u, v, hc, _⟩ := iface_of_trod ht hd
  refine ⟨u, v, ?_⟩
  rw [hvar]
  congr 1
  apply Array.ext'
  exact hc
theorem libW_of {W : World} {l : List (String × DataW Unit)} (h : laidMetH Tryd.prog l W) (hl : (l.all fun x => x.2.handleName?.isNone) = true)
    (h1 : l.filter (fun x => x.1 == "internal/strconv.uint64pow10") = [("internal/strconv.uint64pow10", Rows.laid_internal_strconv_uint64pow10)])
    (h2 : l.filter (fun x => x.1 == "strconv.ErrSyntax") = [("strconv.ErrSyntax", Rows.laid_strconv_ErrSyntax)])
    (h3 : l.filter (fun x => x.1 == "strconv.ErrRange") = [("strconv.ErrRange", Rows.laid_strconv_ErrRange)]) : LibW W := by
  have t := laid_one h hl _ _ h1
  have a := laid_one h hl _ _ h2
  have b := laid_one h hl _ _ h3
  have t' : Lib.TabIs Tryd.prog W "internal/strconv.uint64pow10" .u64 Lib.pow10Tab :=
    Lib.tabIs_of_head (zs := Lib.pow10Tab) (k := .u64) (g := 3) (t := 162) (e := 72) (n := 20) (by kernel_rfl) (by kernel_rfl) Tryd.underlying162 Tryd.underlying72 (by kernel_rfl) (by kernel_rfl) t
  have a' := iface_one (g := 0) (t := 69) (by kernel_rfl) (by kernel_rfl) Tryd.underlying69 a
  have b' := iface_one (g := 1) (t := 69) (by kernel_rfl) (by kernel_rfl) Tryd.underlying69 b
  have lt : ∀ {n : String} {g : Nat} {x : Array Value}, Tryd.prog.globalNamed n = some g → W.var? Tryd.prog n = some x → g < W.heap.size := by
    intro n g x hg hv
    unfold World.var? at hv
    rw [hg] at hv
    simp only [Option.bind_some] at hv
    rcases Nat.lt_or_ge g W.heap.size with h | h
    · exact h
    · rw [Array.getElem?_eq_none h] at hv; cases hv
  refine ⟨fun k hk => ?_, fun _ => t', fun _ => a', fun _ => b'⟩
  obtain ⟨n, hn, hg⟩ := hk
  simp only [libNames, List.mem_cons, List.not_mem_nil, or_false] at hn
  rcases hn with rfl | rfl | rfl
  · exact lt hg t'
  · obtain ⟨_, _, a'⟩ := a'; exact lt hg a'
  · obtain ⟨_, _, b'⟩ := b'; exact lt hg b'
theorem libW_a {W : World} (h : laidMetH Tryd.prog Rows.wordsNumbersRow.laid W) : LibW W := libW_of h (by kernel_rfl) (by kernel_rfl) (by kernel_rfl) (by kernel_rfl)
end Go.Proofs.YtijpdbjcmnpobaaDoor
