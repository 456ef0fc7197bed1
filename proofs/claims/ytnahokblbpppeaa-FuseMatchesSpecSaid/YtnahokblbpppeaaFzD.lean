/- Fuses: validity: IndexFunc, ContainsFunc at Valid's closure, Valid of both packages. -/
import Derived.Test.YtnahokblbpppeaaFzC
namespace Go.Proofs.Ytnahokblbpppeaa
open Go.RowKit

namespace Fz
def firstBad (xs : List Nat) : Int := match xs.findIdx? (fun x => decide (3 < x)) with | some i => (i : Int) | none => -1
def anyBad (xs : List Nat) : Bool := xs.any fun x => decide (3 < x)
/-- one bank is fit -/
def fitRow (xs : List Nat) : Bool := decide (xs.length % 3 = 0) && decide (xs.length ≤ 48) && !anyBad xs
def valid (f : List (List Nat)) : Bool := decide (f.length ≤ 4) && f.all fitRow

theorem firstBad_hit {xs : List Nat} {k : Nat} (hk : k < xs.length) (h : ∀ j, j < k → nth xs j ≤ 3) (hb : 3 < nth xs k) : firstBad xs = k := by
  unfold firstBad
  have : xs.findIdx? (fun x => decide (3 < x)) = some k := by
    rw [List.findIdx?_eq_some_iff_getElem]
    refine ⟨hk, by simpa [nth, hk] using hb, fun j hj => ?_⟩
    have := h j hj
    simpa [nth, show j < xs.length by omega] using this
  rw [this]
theorem firstBad_none {xs : List Nat} (h : ∀ j, j < xs.length → nth xs j ≤ 3) : firstBad xs = -1 := by
  unfold firstBad
  have : xs.findIdx? (fun x => decide (3 < x)) = none := by
    rw [List.findIdx?_eq_none_iff]
    intro x hx
    obtain ⟨j, hj, rfl⟩ := List.getElem_of_mem hx
    have := h j hj
    simpa [nth, hj] using this
  rw [this]
theorem anyBad_eq (xs : List Nat) : anyBad xs = decide (0 ≤ firstBad xs) := by
  unfold anyBad firstBad
  cases h : xs.findIdx? (fun x => decide (3 < x)) with
  | none =>
    rw [List.findIdx?_eq_none_iff] at h
    simpa using h
  | some i =>
    rw [List.findIdx?_eq_some_iff_getElem] at h
    obtain ⟨hi, hp, _⟩ := h
    simp only [Int.natCast_nonneg, decide_true, List.any_eq_true]
    exact ⟨_, List.getElem_mem hi, hp⟩
end Fz

theorem bad_any (c : Nat) (w : World) : Calls Try.prog 31 #[.int .u8 c] w fun e w' => e = .returned (.bool (decide (3 < c))) ∧ w = w' := by
  go_enter Try.func31, Try.ntmps31
  go_wp2
  go_ret
  exact ⟨ret_bool (by simp; omega), rfl⟩

theorem indexFunc_any (v : Value) (xs : List Nat) (w : World) (hv : RBytes w w.heap.size v xs) :
    Calls Try.prog 43 #[v, .func (.func 31) #[] #[]] w fun e w' => e = .returned (.int .i64 (Fz.firstBad xs)) ∧ w = w' := by
  obtain ⟨A, c, rfl, hn, hc, hx, hcs⟩ := hv
  unfold maxLen at hc
  go_enter Try.func43, Try.ntmps43
  go_wp2
  go_loop [8] (fun i => ∃ k : Nat, k ≤ xs.length ∧ Hid (∀ j, j < k → nth xs j ≤ 3) ∧ i = .int .i64 k) (fun i => xs.length - (intOf i).toNat)
  case atStart => exact ⟨0, Nat.zero_le _, fun j hj => absurd hj (by omega), rfl⟩
  case round =>
    obtain ⟨k, hk, HJ, rfl⟩ := hrel
    by_cases hlt : k < xs.length
    · obtain ⟨b, o, rfl, hb, hg⟩ := hcs (by omega)
      have hcell := hg k hlt
      by_cases h3 : 3 < nth xs k
      · have e3 : decide (3 < nth xs k) = true := by simp [h3]
        have H := Lib.hid (Fz.firstBad_hit hlt HJ.out h3)
        clear h3 hg hx
        go_wp2_with (go_at_call 31; with_reducible refine (bad_any _ _).mono ?_; rintro e w1 ⟨rfl, rfl⟩; rw [e3])
        go_ret
        exact ⟨ret_int H.out.symm, rfl⟩
      · have e3 : decide (3 < nth xs k) = false := by simp [h3]
        clear hg hx
        go_wp2_with (go_at_call 31; with_reducible refine (bad_any _ _).mono ?_; rintro e w1 ⟨rfl, rfl⟩; rw [e3])
        go_round
        case rel => exact ⟨k + 1, by omega, fun j hj => by rcases Nat.lt_succ_iff_lt_or_eq.1 hj with h | h; exact HJ.out j h; subst h; omega, by go_num⟩
        case measure => simp [intOf]; omega
    · have H := Lib.hid (Fz.firstBad_none (xs := xs) (fun j hj => HJ.out j (by omega)))
      clear hx hcs
      go_wp2
      go_ret
      exact ⟨ret_int H.out.symm, rfl⟩

end Go.Proofs.Ytnahokblbpppeaa
