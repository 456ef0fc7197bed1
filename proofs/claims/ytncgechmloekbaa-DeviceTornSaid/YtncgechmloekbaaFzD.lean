/- Fuses: validity: IndexFunc, ContainsFunc at Valid's closure, Valid of both packages. -/
import Derived.Test.YtncgechmloekbaaFzC
namespace Go.Proofs.Ytncgechmloekbaa
open Go.RowKit

namespace Fz
def firstBad (xs : List Nat) : Int := match xs.findIdx? (fun x => decide (3 < x)) with | some i => (i : Int) | none => -1
def anyBad (xs : List Nat) : Bool := xs.any fun x => decide (3 < x)
/-- one bank is fit -/
def fitRow (xs : List Nat) : Bool := decide (xs.length % 3 = 0) && decide (xs.length ≤ 48) && !anyBad xs
def valid (f : List (List Nat)) : Bool := decide (f.length ≤ 4) && f.all fitRow

theorem firstBad_hit {xs : List Nat} {k : Nat} (hk : k < xs.length) (h : ∀ j, j < k → nth xs j ≤ 3) (hb : 3 < nth xs k) : firstBad xs = k := by
  unfold firstBad
  have : xs.findIdx? (fun x => decide (3 < x)) = some k := by
    rw [List.findIdx?_eq_some_iff_getElem]
    refine ⟨hk, by simpa [nth, hk] using hb, fun j hj => ?_⟩
    have := h j hj
    simpa [nth, show j < xs.length by omega] using this
  rw [this]
theorem firstBad_none {xs : List Nat} (h : ∀ j, j < xs.length → nth xs j ≤ 3) : firstBad xs = -1 := by
  unfold firstBad
  have : xs.findIdx? (fun x => decide (3 < x)) = none := by
    rw [List.findIdx?_eq_none_iff]
    intro x hx
    obtain ⟨j, hj, rfl⟩ := List.getElem_of_mem hx
    have := h j hj
    simpa [nth, hj] using this
  rw [this]
theorem anyBad_eq (xs : List Nat) : anyBad xs = decide (0 ≤ firstBad xs) := by
  unfold anyBad firstBad
  cases h : xs.findIdx? (fun x => decide (3 < x)) with
  | none =>
    rw [List.findIdx?_eq_none_iff] at h
    simpa using h
  | some i =>
    rw [List.findIdx?_eq_some_iff_getElem] at h
    obtain ⟨hi, hp, _⟩ := h
    simp only [Int.natCast_nonneg, decide_true, List.any_eq_true]
    exact ⟨_, List.getElem_mem hi, hp⟩
end Fz

end Go.Proofs.Ytncgechmloekbaa
