/- Device: plain words for the laws. -/
import Derived.Test.YtncgechmloekbaaDvR
import Derived.Test.YtncgechmloekbaaDvOpen
import Derived.Test.YtncgechmloekbaaFzLaw
namespace Go.Proofs.Ytncgechmloekbaa
open Go.RowKit

theorem three_in {w : World} {cs acc flt : Array Value} {f : List (List Nat)} {m : List ByteArray} {r : Nat → Int} (hh : HwB w cs f m r) :
    Dev (((w.alloc (.cells cs 31)).alloc (.cells acc 33)).alloc (.cells flt 35)) w.heap.size cs f m r ∧
    (((w.alloc (.cells cs 31)).alloc (.cells acc 33)).alloc (.cells flt 35)).heap[w.heap.size + 1]? = some (.cells acc 33 (0, 0)) ∧
    (((w.alloc (.cells cs 31)).alloc (.cells acc 33)).alloc (.cells flt 35)).heap[w.heap.size + 1 + 1]? = some (.cells flt 35 (0, 0)) ∧
    Below w.heap.size w (((w.alloc (.cells cs 31)).alloc (.cells acc 33)).alloc (.cells flt 35)) :=
  ⟨((Dev.new hh).below (Below.new _)).below (Below.new _), blk_old (heap_two _ _ _), Fm_heap_third _ _ _ _, (((Below.refl _ _).alloc (Nat.le_refl _) _).alloc (by simp) _).alloc (by simp; omega) _⟩
section
variable {w : World} {cs cs2 : Array Value} {f g : List (List Nat)} {m n : List ByteArray} {r s : Nat → Int}
theorem sameB (h : HwB w cs f m r) (h2 : HwB w cs2 g n s) : Calls Try.prog 15 #[.agg cs, .agg cs2] w fun e w' => e = .returned (.bool (hwSame f g m n r s)) ∧ Below w.heap.size w w' := sameC h h2
theorem rsameB (h : HwB w cs f m r) (h2 : HwB w cs2 g n s) : Calls Try.prog 14 #[.agg cs, .agg cs2] w fun e w' => e = .returned (.bool (hwSame f g m n r s)) ∧ Below w.heap.size w w' := rsameC h h2
end
theorem smallHw_out {f : List (List Nat)} {m : List ByteArray} (h : smallHw f m = true) : Fz.valid f = true ∧ f.length ≤ 6 ∧ m.length ≤ 200 := by
  simp only [smallHw, Bool.and_eq_true, decide_eq_true_eq] at h
  exact ⟨h.1.1.1.1, h.1.1.1.2, h.1.1.2⟩
theorem doneB_no {f : List (List Nat)} {m : List ByteArray} {k b c : Int} {s : ByteArray} (h : doE f m k b c s ≠ 0) : doneB f m k b c s = false := by
  unfold doE at h
  unfold doneB
  cases hk : kindOK k b s
  · rfl
  · rw [hk, if_pos rfl] at h; simp [h]
theorem doneB_yes {f : List (List Nat)} {m : List ByteArray} {k b c : Int} {s : ByteArray} (h : doE f m k b c s = 0) : doneB f m k b c s = true ∧ kindOK k b s = true ∧ runE k f m b c s = 0 := by
  unfold doE at h
  unfold doneB
  cases hk : kindOK k b s
  · rw [hk] at h; simp at h
  · rw [hk, if_pos rfl] at h; simp [h]
theorem kind_cases {k b : Int} {s : ByteArray} (h : kindOK k b s = true) : k = 1 ∨ k = 2 ∨ k = 3 ∨ k = 4 := by
  by_cases h1 : k = 1; · exact .inl h1
  by_cases h2 : k = 2; · exact .inr (.inl h2)
  by_cases h3 : k = 3; · exact .inr (.inr (.inl h3))
  by_cases h4 : k = 4; · exact .inr (.inr (.inr h4))
  simp [kindOK, h1, h2, h3, h4] at h

end Go.Proofs.Ytncgechmloekbaa
