/- Bytes as an argument: where they lie. No conditions. -/
import Derived.Test.YtkpopjpmjcgbfaaArg
namespace Go.Proofs.Ytkpopjpmjcgbfaa
open Go.ChangeShapes Go.WideShapes Go.ChangeAt Go.RowKit Go.Deep
theorem far_of_ok {w : World} {j : Nat} {A : Option Addr} {n c : Nat} (hv : Value.okWide Try.prog w .any j 23 (.slice A n c)) : ∀ ad, A = some ad → ad.block < w.heap.size := by
  intro ad e
  subst e
  simp only [Value.okWide, Try.underlying23, Cell.okWide, Cell.ok] at hv
  obtain ⟨_, _, _, _, row, cells, hs, _⟩ := hv
  rcases Nat.lt_or_ge ad.block w.heap.size with h | h
  · exact h
  · unfold World.shape? at hs
    rw [Array.getElem?_eq_none h] at hs
    cases hs
end Go.Proofs.Ytkpopjpmjcgbfaa
