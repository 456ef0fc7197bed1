/- Fuses: Same of the reference. -/
import Derived.Test.YtncgechmloekbaaFzI
namespace Go.Proofs.Ytncgechmloekbaa
open Go.RowKit

theorem below_drewN {B : Nat} {a w : World} (h : Below B a w) (n : Nat) : Below B a (w.drewN n) := ⟨h.os, h.tape, h.output, h.size, h.block⟩

namespace Fz
def same (f g : List (List Nat)) : Bool := decide (f = g)
theorem same_len {f g : List (List Nat)} (h : f.length ≠ g.length) : same f g = false := by
  simp only [same, decide_eq_false_iff_not]; rintro rfl; exact h rfl
theorem same_row {f g : List (List Nat)} {k : Nat} (h : (nthRow f k).length ≠ (nthRow g k).length) : same f g = false := by
  simp only [same, decide_eq_false_iff_not]; rintro rfl; exact h rfl
theorem same_cell {f g : List (List Nat)} {k i : Nat} (h : nth (nthRow f k) i ≠ nth (nthRow g k) i) : same f g = false := by
  simp only [same, decide_eq_false_iff_not]; rintro rfl; exact h rfl
theorem row_ext {xs ys : List Nat} (h : xs.length = ys.length) (hc : ∀ i, i < xs.length → nth xs i = nth ys i) : xs = ys := by
  refine List.ext_getElem h fun i h1 h2 => ?_
  have := hc i h1
  simpa [nth, h1, h2] using this
theorem rows_ext {f g : List (List Nat)} (h : f.length = g.length) (hc : ∀ i, i < f.length → nthRow f i = nthRow g i) : f = g := by
  refine List.ext_getElem h fun i h1 h2 => ?_
  have := hc i h1
  simpa [nthRow, h1, h2] using this
theorem same_all {f g : List (List Nat)} (h : f.length = g.length) (hc : ∀ i, i < f.length → nthRow f i = nthRow g i) : same f g = true := by
  simp [same, rows_ext h hc]
end Fz

end Go.Proofs.Ytncgechmloekbaa
