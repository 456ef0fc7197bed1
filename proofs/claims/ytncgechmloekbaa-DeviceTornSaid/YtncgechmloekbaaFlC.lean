/- Flash: Valid and Same of package flash. -/
import Derived.Test.YtncgechmloekbaaFlB
namespace Go.Proofs.Ytncgechmloekbaa.Fm
open Go.RowKit

namespace Fl
def bad (s : ByteArray) : Bool := decide (s.size ≠ 256)
def firstBad (f : List ByteArray) : Int := match f.findIdx? bad with | some i => (i : Int) | none => -1
theorem firstBad_hit {f : List ByteArray} {k : Nat} (hk : k < f.length) (h : ∀ j, j < k → bad (nthS f j) = false) (hb : bad (nthS f k) = true) : firstBad f = k := by
  unfold firstBad
  have : f.findIdx? bad = some k := by
    rw [List.findIdx?_eq_some_iff_getElem]
    refine ⟨hk, by simpa [nthS, hk] using hb, fun j hj => ?_⟩
    have := h j hj
    simpa [nthS, show j < f.length by omega] using this
  rw [this]
theorem firstBad_none {f : List ByteArray} (h : ∀ j, j < f.length → bad (nthS f j) = false) : firstBad f = -1 := by
  unfold firstBad
  have : f.findIdx? bad = none := by
    rw [List.findIdx?_eq_none_iff]
    intro x hx
    obtain ⟨j, hj, rfl⟩ := List.getElem_of_mem hx
    have := h j hj
    simpa [nthS, hj] using this
  rw [this]
theorem all_firstBad (f : List ByteArray) : (f.all fun s => decide (s.size = 256)) = !decide (0 ≤ firstBad f) := by
  unfold firstBad
  cases h : f.findIdx? bad with
  | none =>
    rw [List.findIdx?_eq_none_iff] at h
    simp only [bad] at h
    simp only [show decide ((0 : Int) ≤ -1) = false by decide, Bool.not_false, List.all_eq_true]
    intro x hx
    have := h x hx
    simpa using this
  | some i =>
    rw [List.findIdx?_eq_some_iff_getElem] at h
    obtain ⟨hi, hp, _⟩ := h
    simp only [Int.natCast_nonneg, decide_true, Bool.not_true, List.all_eq_false]
    exact ⟨_, List.getElem_mem hi, by simpa [bad] using hp⟩
end Fl

set_option maxRecDepth 100000 in
theorem equal_any (v u : Value) (f g : List ByteArray) (w : World) (hf : RStrs w w.heap.size v f) (hg : RStrs w w.heap.size u g) :
    Calls Try.prog 53 #[v, u] w fun e w' => e = .returned (.bool (Fl.same f g)) ∧ Below w.heap.size w w' := by
  obtain ⟨A, c, rfl, hn, hc⟩ := hf.form
  obtain ⟨A2, c2, rfl, hn2, hc2⟩ := hg.form
  unfold maxLen at hc hc2
  by_cases hl : f.length = g.length
  · have HL := Lib.hid hl
    have eL : ((f.length : Int) == (g.length : Int)) = true := by simp; omega
    have eL' : ((f.length : Int) != (g.length : Int)) = false := by simp; omega
    have hl1 : f.length ≤ g.length := by omega
    clear hl
    go_enter Try.func53, Try.ntmps53
    go_wp2
    go_loopw [13] (fun i wr => ∃ k : Nat, k ≤ f.length ∧ Hid (∀ j, j < k → nthS f j = nthS g j) ∧ i = .int .i64 k ∧ Below w.heap.size w wr) (fun i _ => f.length - (intOf i).toNat)
    case atStart => exact ⟨0, Nat.zero_le _, fun j hj => absurd hj (by omega), rfl, Below.refl _ _⟩
    case round =>
      obtain ⟨k, hk, HJ, rfl, hbw⟩ := hrel
      obtain ⟨hk1, hk2⟩ := bcell hbw
      by_cases hlt : k < f.length
      · obtain ⟨b, o, rfl, hb, hcell, hsz⟩ := hf.at_ hlt
        obtain ⟨b2, o2, rfl, hb2, hcell2, hsz2⟩ := hg.at_ (show k < g.length by omega)
        by_cases hne : nthS f k = nthS g k
        · have H := Lib.hid (Fl.upto_succ (p := fun j => nthS f j = nthS g j) HJ.out hne)
          have eN : ((nthS f k).toList == (nthS g k).toList) = true := by rw [hne]; simp
          clear hne
          go_wp2
          go_quiet (fail)
          go_wp2
          go_roundw
          case rel => exact ⟨k + 1, by omega, H.out, by go_num, below_drewN hbw _⟩
          case measure => simp [intOf]; omega
        · have H := Lib.hid (Fl.same_bad hne)
          have eN : ((nthS f k).toList == (nthS g k).toList) = false := str_ne hne
          clear hne
          go_wp2
          go_quiet (fail)
          go_wp2
          go_ret
          exact ⟨ret_bool H.out.symm, below_drewN hbw _⟩
      · have H := Lib.hid (Fl.same_yes HL.out (fun j hj => HJ.out j (by omega)))
        go_wp2
        go_ret
        exact ⟨ret_bool H.out.symm, hbw⟩
  · have H := Lib.hid (Fl.same_len hl)
    have eL : ((f.length : Int) == (g.length : Int)) = false := by simp; omega
    have eL' : ((f.length : Int) != (g.length : Int)) = true := by simp; omega
    clear hl
    go_enter Try.func53, Try.ntmps53
    go_wp2
    go_ret
    exact ⟨ret_bool H.out.symm, Below.refl _ _⟩

set_option maxRecDepth 100000 in
theorem same_any (v u : Value) (f g : List ByteArray) (w : World) (hf : RStrs w w.heap.size v f) (hg : RStrs w w.heap.size u g) :
    Calls Try.prog 32 #[.agg #[v], .agg #[u]] w fun e w' => e = .returned (.bool (Fl.same f g)) ∧ Below w.heap.size w w' := by
  obtain ⟨A, c, rfl, hn, hc⟩ := hf.form
  obtain ⟨A2, c2, rfl, hn2, hc2⟩ := hg.form
  have hB1 : Below w.heap.size w ((w.alloc (Obj.cells #[Value.slice A f.length c] 27)).alloc (Obj.cells #[Value.slice A2 g.length c2] 27)) := ((Below.refl _ _).alloc (Nat.le_refl _) _).alloc (by simp) _
  go_enter Try.func32, Try.ntmps32
  go_wp2_with (go_at_call 53; with_reducible refine (equal_any _ _ f g _ ((hf.below hB1).more hB1.size) ((hg.below hB1).more hB1.size)).mono ?_; rintro e w1 ⟨rfl, hb1⟩)
  go_ret
  exact ⟨rfl, hB1.trans (hb1.mono hB1.size)⟩

end Go.Proofs.Ytncgechmloekbaa.Fm
