/- Fuses: the plain functions, and the walks of the small functions: exists, reading, Read, Width of both packages. -/
import Derived.Test.YtncgechmloekbaaMem
namespace Go.Proofs.Ytncgechmloekbaa
open Go.RowKit

namespace Fz
/-- what a cell reads as -/
def rd (c : Nat) (noise : Bool) : Int := if c = 2 ∨ (c = 1 ∧ noise = true) then 1 else 0
def row (f : List (List Nat)) (bank : Int) : List Nat := nthRow f bank.toNat
def ex (f : List (List Nat)) (bank cell : Int) : Bool := decide (0 ≤ bank ∧ bank < f.length ∧ 0 ≤ cell ∧ cell < (row f bank).length)
def cellOf (f : List (List Nat)) (bank cell : Int) : Nat := nth (row f bank) cell.toNat
def width (f : List (List Nat)) (bank : Int) : Int := if 0 ≤ bank ∧ bank < f.length then (((row f bank).length / 3 : Nat) : Int) else -1
def readV (f : List (List Nat)) (bank cell : Int) (noise : Bool) : Int := if ex f bank cell then rd (cellOf f bank cell) noise else 0
def readE (f : List (List Nat)) (bank cell : Int) : Int := if ex f bank cell then 0 else 1
end Fz

theorem ret_int {k : IntKind} {a b : Int} (h : a = b) : Ending.returned (.int k a) = .returned (.int k b) := by rw [h]
theorem ret_bool {a b : Bool} (h : a = b) : Ending.returned (.bool a) = .returned (.bool b) := by rw [h]

theorem ret_two {k k' : IntKind} {a b c d : Int} (h : a = b) (h' : c = d) : Ending.returned (.tuple #[.int k a, .int k' c]) = .returned (.tuple #[.int k b, .int k' d]) := by rw [h, h']

set_option maxRecDepth 100000 in
theorem reading_any (c : Nat) (noise : Bool) (w : World) :
    Calls Try.prog 37 #[.int .u8 c, .bool noise] w fun e w' => e = .returned (.int .i64 (Fz.rd c noise)) ∧ w = w' := by
  by_cases h2 : c = 2
  · subst h2
    have H := Lib.hid (show Fz.rd 2 noise = 1 by simp [Fz.rd])
    go_enter Try.func37, Try.ntmps37
    go_wp2
    go_ret
    exact ⟨ret_int H.out.symm, rfl⟩
  · by_cases h1 : c = 1
    · subst h1
      cases noise
      · have H := Lib.hid (show Fz.rd 1 false = 0 by simp [Fz.rd])
        go_enter Try.func37, Try.ntmps37
        go_wp2
        go_ret
        exact ⟨ret_int H.out.symm, rfl⟩
      · have H := Lib.hid (show Fz.rd 1 true = 1 by simp [Fz.rd])
        go_enter Try.func37, Try.ntmps37
        go_wp2
        go_ret
        exact ⟨ret_int H.out.symm, rfl⟩
    · have H := Lib.hid (show Fz.rd c noise = 0 by simp [Fz.rd, h1, h2])
      have e2 : ((c : Int) == 2) = false := by simp; omega
      have e1 : ((c : Int) == 1) = false := by simp; omega
      go_enter Try.func37, Try.ntmps37
      go_wp2
      go_ret
      exact ⟨ret_int H.out.symm, rfl⟩

set_option maxRecDepth 100000 in
theorem width_any (v : Value) (f : List (List Nat)) (bank : Int) (w : World) (hf : RRows w w.heap.size v f) :
    Calls Try.prog 54 #[.agg #[v], .int .i64 bank] w fun e w' => e = .returned (.int .i64 (Fz.width f bank)) ∧ Below w.heap.size w w' := by
  have hf' := hf
  obtain ⟨A, c, vs, rfl, hn, hc, -, -⟩ := hf
  unfold maxLen at hc
  by_cases h0 : 0 ≤ bank
  · by_cases h1 : bank < f.length
    · obtain ⟨k, rfl⟩ := Int.eq_ofNat_of_zero_le h0
      obtain ⟨b, o, A', c', rfl, hb, hcell, hl, hc', -, -⟩ := hf'.row k (by omega)
      have H := Lib.hid (show Fz.width f k = (((nthRow f k).length / 3 : Nat) : Int) by simp [Fz.width, Fz.row, h1])
      unfold maxLen at hc'
      go_enter Try.func54, Try.ntmps54
      go_wp2
      go_ret
      exact ⟨ret_int H.out.symm, (Below.refl _ _).alloc (Nat.le_refl _) _⟩
    · have H := Lib.hid (show Fz.width f bank = -1 by simp [Fz.width, h1])
      clear hf'
      go_enter Try.func54, Try.ntmps54
      go_wp2
      go_ret
      exact ⟨ret_int H.out.symm, (Below.refl _ _).alloc (Nat.le_refl _) _⟩
  · have H := Lib.hid (show Fz.width f bank = -1 by simp [Fz.width, h0])
    clear hf'
    go_enter Try.func54, Try.ntmps54
    go_wp2
    go_ret
    exact ⟨ret_int H.out.symm, (Below.refl _ _).alloc (Nat.le_refl _) _⟩

end Go.Proofs.Ytncgechmloekbaa
