/- Flash: Small, Valid, Same of the reference. -/
import Derived.Test.YtncgechmloekbaaFlA
namespace Go.Proofs.Ytncgechmloekbaa.Fm
open Go.RowKit

theorem toList_data (a : ByteArray) : a.toList = a.data.toList := by
  have := ByteArray.toList_mk a.data.toList
  simpa using this
theorem str_ne {a b : ByteArray} (h : a ≠ b) : (a.toList == b.toList) = false := by
  rw [beq_eq_false_iff_ne, toList_data, toList_data]
  intro e
  apply h
  cases a; cases b
  simp only [ByteArray.mk.injEq]
  exact Array.toList_inj.1 e

theorem below_drewN {B : Nat} {a w : World} (h : Below B a w) (n : Nat) : Below B a (w.drewN n) := ⟨h.os, h.tape, h.output, h.size, h.block⟩

end Go.Proofs.Ytncgechmloekbaa.Fm
