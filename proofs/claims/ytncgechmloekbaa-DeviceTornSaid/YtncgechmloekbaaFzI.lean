/- Fuses: the reference's Least, Most, Sound. -/
import Derived.Test.YtncgechmloekbaaFzH
namespace Go.Proofs.Ytncgechmloekbaa
open Go.RowKit

namespace Fz
/-- stuck cells among the first m of logical bit i -/
def ssum (xs : List Nat) (i : Nat) : Nat → Int
  | 0 => 0
  | m + 1 => ssum xs i m + if nth xs (i * 3 + m) = 3 then 1 else 0
def soundRow (xs : List Nat) : Bool := (List.range (xs.length / 3)).all fun i => decide (ssum xs i 3 ≤ 1)
def sound (f : List (List Nat)) : Bool := f.all soundRow
theorem ssum_bd (xs : List Nat) (i : Nat) : ∀ m, 0 ≤ ssum xs i m ∧ ssum xs i m ≤ m
  | 0 => by simp [ssum]
  | m + 1 => by
    have h1 := ssum_bd xs i m
    simp only [ssum]
    split <;> omega
theorem ssum_hit {xs : List Nat} {i m : Nat} (h : nth xs (i * 3 + m) = 3) : ssum xs i (m + 1) = ssum xs i m + 1 := by simp [ssum, h]
theorem ssum_miss {xs : List Nat} {i m : Nat} (h : ¬ nth xs (i * 3 + m) = 3) : ssum xs i (m + 1) = ssum xs i m := by simp [ssum, h]
theorem soundRow_bad {xs : List Nat} {i : Nat} (hi : i < xs.length / 3) (h : 1 < ssum xs i 3) : soundRow xs = false := by
  unfold soundRow
  rw [List.all_eq_false]
  exact ⟨i, by simpa using hi, by simp; omega⟩
theorem soundRow_all {xs : List Nat} (h : ∀ i, i < xs.length / 3 → ssum xs i 3 ≤ 1) : soundRow xs = true := by
  unfold soundRow
  rw [List.all_eq_true]
  intro i hi
  have := h i (by simpa using hi)
  simpa using this
theorem nthRow_mem {f : List (List Nat)} {k : Nat} (hk : k < f.length) : nthRow f k ∈ f := by
  simp only [nthRow, List.getD_eq_getElem?_getD, List.getElem?_eq_getElem hk]
  exact List.getElem_mem hk
theorem sound_bad {f : List (List Nat)} {k : Nat} (hk : k < f.length) (h : soundRow (nthRow f k) = false) : sound f = false := by
  unfold sound
  rw [List.all_eq_false]
  exact ⟨nthRow f k, nthRow_mem hk, by simp [h]⟩
theorem sound_all {f : List (List Nat)} (h : ∀ j, j < f.length → soundRow (nthRow f j) = true) : sound f = true := by
  unfold sound
  rw [List.all_eq_true]
  intro x hx
  obtain ⟨j, hj, rfl⟩ := List.getElem_of_mem hx
  have := h j hj
  simpa [nthRow, List.getElem?_eq_getElem hj] using this
theorem below_succ {P : Nat → Prop} {k : Nat} (h : ∀ j, j < k → P j) (hk : P k) : ∀ j, j < k + 1 → P j := by
  intro j hj
  rcases Nat.lt_succ_iff_lt_or_eq.1 hj with g | g
  · exact h j g
  · subst g; exact hk
end Fz

end Go.Proofs.Ytncgechmloekbaa
