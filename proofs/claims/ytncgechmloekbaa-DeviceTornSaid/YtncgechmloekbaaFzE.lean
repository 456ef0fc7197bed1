/- Fuses: Valid of both packages. -/
import Derived.Test.YtncgechmloekbaaFzD
namespace Go.Proofs.Ytncgechmloekbaa
open Go.RowKit

namespace Fz
theorem valid_bad {f : List (List Nat)} {k : Nat} (hk : k < f.length) (h : fitRow (nthRow f k) = false) : valid f = false := by
  unfold valid
  rw [Bool.and_eq_false_iff]
  right
  rw [List.all_eq_false]
  refine ⟨nthRow f k, ?_, by simp [h]⟩
  simp only [nthRow, List.getD_eq_getElem?_getD, List.getElem?_eq_getElem hk]
  exact List.getElem_mem hk
theorem valid_all {f : List (List Nat)} (h : ∀ j, j < f.length → fitRow (nthRow f j) = true) : valid f = decide (f.length ≤ 4) := by
  unfold valid
  have : f.all fitRow = true := by
    rw [List.all_eq_true]
    intro x hx
    obtain ⟨j, hj, rfl⟩ := List.getElem_of_mem hx
    have := h j hj
    simpa [nthRow, List.getElem?_eq_getElem hj] using this
  rw [this, Bool.and_true]
theorem fitRow_of {xs : List Nat} (h1 : xs.length % 3 = 0) (h2 : xs.length ≤ 48) (h3 : anyBad xs = false) : fitRow xs = true := by simp [fitRow, h1, h2, h3]
theorem unfit1 {xs : List Nat} (h1 : ¬ xs.length % 3 = 0) : fitRow xs = false := by simp [fitRow, h1]
theorem unfit2 {xs : List Nat} (h1 : ¬ xs.length ≤ 48) : fitRow xs = false := by simp [fitRow, h1]
theorem unfit3 {xs : List Nat} (h1 : anyBad xs = true) : fitRow xs = false := by simp [fitRow, h1]
theorem all_succ {f : List (List Nat)} {k : Nat} (h : ∀ j, j < k → fitRow (nthRow f j) = true) (hk : fitRow (nthRow f k) = true) : ∀ j, j < k + 1 → fitRow (nthRow f j) = true := by
  intro j hj
  rcases Nat.lt_succ_iff_lt_or_eq.1 hj with g | g
  · exact h j g
  · subst g; exact hk
end Fz

end Go.Proofs.Ytncgechmloekbaa
