/- Fuses: Valid of both packages. -/
import Derived.Test.YtnahokblbpppeaaFzD
namespace Go.Proofs.Ytnahokblbpppeaa
open Go.RowKit

theorem containsFunc_any (v : Value) (xs : List Nat) (w : World) (hv : RBytes w w.heap.size v xs) :
    Calls Try.prog 30 #[v, .func (.func 31) #[] #[]] w fun e w' => e = .returned (.bool (Fz.anyBad xs)) ∧ w = w' := by
  have H := Lib.hid (Fz.anyBad_eq xs)
  go_enter Try.func30, Try.ntmps30
  go_wp2_with (go_at_call 43; with_reducible refine (indexFunc_any _ xs _ hv).mono ?_; rintro e w1 ⟨rfl, rfl⟩)
  go_ret
  exact ⟨ret_bool H.out.symm, rfl⟩

namespace Fz
theorem valid_bad {f : List (List Nat)} {k : Nat} (hk : k < f.length) (h : fitRow (nthRow f k) = false) : valid f = false := by
  unfold valid
  rw [Bool.and_eq_false_iff]
  right
  rw [List.all_eq_false]
  refine ⟨nthRow f k, ?_, by simp [h]⟩
  simp only [nthRow, List.getD_eq_getElem?_getD, List.getElem?_eq_getElem hk]
  exact List.getElem_mem hk
theorem valid_all {f : List (List Nat)} (h : ∀ j, j < f.length → fitRow (nthRow f j) = true) : valid f = decide (f.length ≤ 4) := by
  unfold valid
  have : f.all fitRow = true := by
    rw [List.all_eq_true]
    intro x hx
    obtain ⟨j, hj, rfl⟩ := List.getElem_of_mem hx
    have := h j hj
    simpa [nthRow, List.getElem?_eq_getElem hj] using this
  rw [this, Bool.and_true]
theorem fitRow_of {xs : List Nat} (h1 : xs.length % 3 = 0) (h2 : xs.length ≤ 48) (h3 : anyBad xs = false) : fitRow xs = true := by simp [fitRow, h1, h2, h3]
theorem unfit1 {xs : List Nat} (h1 : ¬ xs.length % 3 = 0) : fitRow xs = false := by simp [fitRow, h1]
theorem unfit2 {xs : List Nat} (h1 : ¬ xs.length ≤ 48) : fitRow xs = false := by simp [fitRow, h1]
theorem unfit3 {xs : List Nat} (h1 : anyBad xs = true) : fitRow xs = false := by simp [fitRow, h1]
theorem all_succ {f : List (List Nat)} {k : Nat} (h : ∀ j, j < k → fitRow (nthRow f j) = true) (hk : fitRow (nthRow f k) = true) : ∀ j, j < k + 1 → fitRow (nthRow f j) = true := by
  intro j hj
  rcases Nat.lt_succ_iff_lt_or_eq.1 hj with g | g
  · exact h j g
  · subst g; exact hk
end Fz

theorem valid_any (v : Value) (f : List (List Nat)) (w : World) (hf : RRows w w.heap.size v f) :
    Calls Try.prog 11 #[.agg #[v]] w fun e w' => e = .returned (.bool (Fz.valid f)) ∧ Below w.heap.size w w' := by
  have hf' := hf
  obtain ⟨A, c, vs, rfl, hn, hc, hcs, hrows⟩ := hf
  unfold maxLen at hc
  go_enter Try.func11, Try.ntmps11
  go_wp2
  go_loop [8] (fun i => ∃ k : Nat, k ≤ f.length ∧ Hid (∀ j, j < k → Fz.fitRow (nthRow f j) = true) ∧ i = .int .i64 k) (fun i => f.length - (intOf i).toNat)
  case atStart => exact ⟨0, Nat.zero_le _, fun j hj => absurd hj (by omega), rfl⟩
  case round =>
    obtain ⟨k, hk, HJ, rfl⟩ := hrel
    by_cases hlt : k < f.length
    · obtain ⟨b, o, A', c', rfl, hb, hcell, hl, hc', hbd, hg⟩ := hf'.row k hlt
      have hrow : RBytes w w.heap.size (.slice A' (nthRow f k).length c') (nthRow f k) := ⟨A', c', rfl, hl, hc', hbd, hg⟩
      unfold maxLen at hc'
      clear hcs hrows hbd hg
      by_cases h3 : (nthRow f k).length % 3 = 0
      · by_cases h4 : (nthRow f k).length ≤ 48
        · cases h5 : Fz.anyBad (nthRow f k)
          · have H := Lib.hid (Fz.all_succ HJ.out (Fz.fitRow_of h3 h4 h5))
            have H5 := Lib.hid h5
            clear h5
            go_wp2_with (go_at_call 30; with_reducible refine (containsFunc_any _ (nthRow f k) _ ((hrow.below (Below.new _)).more (by simp))).mono ?_; rintro e w1 ⟨rfl, rfl⟩; rw [H5.out])
            go_round
            case rel => exact ⟨k + 1, by omega, H.out, by go_num⟩
            case measure => simp [intOf]; omega
          · have H := Lib.hid (Fz.valid_bad hlt (Fz.unfit3 h5))
            have H5 := Lib.hid h5
            clear h5
            go_wp2_with (go_at_call 30; with_reducible refine (containsFunc_any _ (nthRow f k) _ ((hrow.below (Below.new _)).more (by simp))).mono ?_; rintro e w1 ⟨rfl, rfl⟩; rw [H5.out])
            go_ret
            exact ⟨ret_bool H.out.symm, Below.new _⟩
        · have H := Lib.hid (Fz.valid_bad hlt (Fz.unfit2 h4))
          go_wp2
          go_ret
          exact ⟨ret_bool H.out.symm, Below.new _⟩
      · have H := Lib.hid (Fz.valid_bad hlt (Fz.unfit1 h3))
        go_wp2
        go_ret
        exact ⟨ret_bool H.out.symm, Below.new _⟩
    · have H := Lib.hid (Fz.valid_all (f := f) (fun j hj => HJ.out j (by omega)))
      clear hcs hrows
      go_wp2
      go_ret
      exact ⟨ret_bool (by rw [H.out]; simp; try omega), Below.new _⟩

end Go.Proofs.Ytnahokblbpppeaa
