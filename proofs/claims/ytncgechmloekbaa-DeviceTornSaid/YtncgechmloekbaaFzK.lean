/- Fuses: New of both packages. -/
import Derived.Test.YtncgechmloekbaaFzJ
import Derived.Deep.RegionHeld3
import Derived.Deep.AppendLies
import Derived.Lib.OthersKept
import Derived.Deep.RegionLaw
namespace Go.Proofs.Ytncgechmloekbaa
open Go.RowKit

/-- A slice of ints. -/
def nthI (xs : List Int) (k : Nat) : Int := xs.getD k 0
def RInts (w : World) (B : Nat) (v : Value) (xs : List Int) : Prop :=
  ∃ A c, v = .slice A xs.length c ∧ xs.length ≤ c ∧ c ≤ maxLen ∧ Cells w B A xs.length (fun i => .int .i64 (nthI xs i))
theorem RInts.below {w w' : World} {B : Nat} {v : Value} {xs : List Int} (h : RInts w B v xs) (hb : Below B w w') : RInts w' B v xs := by
  obtain ⟨A, c, h1, h2, h3, h5⟩ := h
  exact ⟨A, c, h1, h2, h3, h5.below hb⟩
theorem RInts.more {w : World} {B B' : Nat} {v : Value} {xs : List Int} (h : RInts w B v xs) (hB : B ≤ B') : RInts w B' v xs := by
  obtain ⟨A, c, h1, h2, h3, h5⟩ := h
  exact ⟨A, c, h1, h2, h3, h5.more hB⟩

namespace Fz
def badW (n : Int) : Bool := decide (n < 0) || decide (16 < n)
def firstBadW (xs : List Int) : Int := match xs.findIdx? badW with | some i => (i : Int) | none => -1
def anyBadW (xs : List Int) : Bool := xs.any badW
def newOK (bits : List Int) : Bool := decide (bits.length ≤ 4) && !anyBadW bits
def zeros (n : Int) : List Nat := List.replicate (3 * n.toNat) 0
def newF (bits : List Int) : List (List Nat) := if newOK bits then bits.map zeros else []
def newE (bits : List Int) : Int := if newOK bits then 0 else 1

theorem firstBadW_hit {xs : List Int} {k : Nat} (hk : k < xs.length) (h : ∀ j, j < k → badW (nthI xs j) = false) (hb : badW (nthI xs k) = true) : firstBadW xs = k := by
  unfold firstBadW
  have : xs.findIdx? badW = some k := by
    rw [List.findIdx?_eq_some_iff_getElem]
    refine ⟨hk, by simpa [nthI, hk] using hb, fun j hj => ?_⟩
    have := h j hj
    simpa [nthI, show j < xs.length by omega] using this
  rw [this]
theorem firstBadW_none {xs : List Int} (h : ∀ j, j < xs.length → badW (nthI xs j) = false) : firstBadW xs = -1 := by
  unfold firstBadW
  have : xs.findIdx? badW = none := by
    rw [List.findIdx?_eq_none_iff]
    intro x hx
    obtain ⟨j, hj, rfl⟩ := List.getElem_of_mem hx
    have := h j hj
    simpa [nthI, hj] using this
  rw [this]
theorem anyBadW_eq (xs : List Int) : anyBadW xs = decide (0 ≤ firstBadW xs) := by
  unfold anyBadW firstBadW
  cases h : xs.findIdx? badW with
  | none =>
    rw [List.findIdx?_eq_none_iff] at h
    simpa using h
  | some i =>
    rw [List.findIdx?_eq_some_iff_getElem] at h
    obtain ⟨hi, hp, _⟩ := h
    simp only [Int.natCast_nonneg, decide_true, List.any_eq_true]
    exact ⟨_, List.getElem_mem hi, hp⟩
theorem anyBadW_hit {xs : List Int} {k : Nat} (hk : k < xs.length) (hb : badW (nthI xs k) = true) : anyBadW xs = true := by
  unfold anyBadW
  rw [List.any_eq_true]
  exact ⟨xs[k], List.getElem_mem hk, by simpa [nthI, hk] using hb⟩
theorem anyBadW_none {xs : List Int} (h : ∀ j, j < xs.length → badW (nthI xs j) = false) : anyBadW xs = false := by
  rw [anyBadW_eq, firstBadW_none h]; rfl
theorem good_at {xs : List Int} (h : anyBadW xs = false) {k : Nat} (hk : k < xs.length) : badW (nthI xs k) = false := by
  unfold anyBadW at h
  rw [List.any_eq_false] at h
  have := h xs[k] (List.getElem_mem hk)
  simpa [nthI, hk] using this
theorem badW_false {n : Int} : badW n = false ↔ 0 ≤ n ∧ n ≤ 16 := by simp [badW]
end Fz

set_option maxRecDepth 100000 in
theorem badW_any (n : Int) (w : World) : Calls Try.prog 51 #[.int .i64 n] w fun e w' => e = .returned (.bool (Fz.badW n)) ∧ w = w' := by
  by_cases h0 : n < 0
  · have H := Lib.hid (show Fz.badW n = true by simp [Fz.badW, h0])
    go_enter Try.func51, Try.ntmps51
    go_wp2
    go_ret
    exact ⟨ret_bool H.out.symm, rfl⟩
  · have H := Lib.hid (show Fz.badW n = decide (16 < n) by simp [Fz.badW, h0])
    go_enter Try.func51, Try.ntmps51
    go_wp2
    go_ret
    exact ⟨ret_bool H.out.symm, rfl⟩

set_option maxRecDepth 100000 in
theorem indexFuncI_any (v : Value) (xs : List Int) (w : World) (hv : RInts w w.heap.size v xs) :
    Calls Try.prog 60 #[v, .func (.func 51) #[] #[]] w fun e w' => e = .returned (.int .i64 (Fz.firstBadW xs)) ∧ w = w' := by
  obtain ⟨A, c, rfl, hn, hc, hcs⟩ := hv
  unfold maxLen at hc
  go_enter Try.func60, Try.ntmps60
  go_wp2
  go_loop [8] (fun i => ∃ k : Nat, k ≤ xs.length ∧ Hid (∀ j, j < k → Fz.badW (nthI xs j) = false) ∧ i = .int .i64 k) (fun i => xs.length - (intOf i).toNat)
  case atStart => exact ⟨0, Nat.zero_le _, fun j hj => absurd hj (by omega), rfl⟩
  case round =>
    obtain ⟨k, hk, HJ, rfl⟩ := hrel
    by_cases hlt : k < xs.length
    · obtain ⟨b, o, rfl, hb, hg⟩ := hcs (by omega)
      have hcell := hg k hlt
      clear hg
      cases h3 : Fz.badW (nthI xs k)
      · have H := Lib.hid (Fz.below_succ HJ.out h3)
        have H3 := Lib.hid h3
        clear h3
        go_wp2_with (go_at_call 51; with_reducible refine (badW_any _ _).mono ?_; rintro e w1 ⟨rfl, rfl⟩; rw [H3.out])
        go_round
        case rel => exact ⟨k + 1, by omega, H.out, by go_num⟩
        case measure => simp [intOf]; omega
      · have H := Lib.hid (Fz.firstBadW_hit hlt HJ.out h3)
        have H3 := Lib.hid h3
        clear h3
        go_wp2_with (go_at_call 51; with_reducible refine (badW_any _ _).mono ?_; rintro e w1 ⟨rfl, rfl⟩; rw [H3.out])
        go_ret
        exact ⟨ret_int H.out.symm, rfl⟩
    · have H := Lib.hid (Fz.firstBadW_none (xs := xs) (fun j hj => HJ.out j (by omega)))
      clear hcs
      go_wp2
      go_ret
      exact ⟨ret_int H.out.symm, rfl⟩

set_option maxRecDepth 100000 in
theorem containsFuncI_any (v : Value) (xs : List Int) (w : World) (hv : RInts w w.heap.size v xs) :
    Calls Try.prog 50 #[v, .func (.func 51) #[] #[]] w fun e w' => e = .returned (.bool (Fz.anyBadW xs)) ∧ w = w' := by
  have H := Lib.hid (Fz.anyBadW_eq xs)
  go_enter Try.func50, Try.ntmps50
  go_wp2_with (go_at_call 60; with_reducible refine (indexFuncI_any _ xs _ hv).mono ?_; rintro e w1 ⟨rfl, rfl⟩)
  go_ret
  exact ⟨ret_bool H.out.symm, rfl⟩

end Go.Proofs.Ytncgechmloekbaa
