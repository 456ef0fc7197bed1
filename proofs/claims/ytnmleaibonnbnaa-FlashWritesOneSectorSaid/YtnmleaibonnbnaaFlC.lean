/- Flash: Valid and Same of package flash. -/
import Derived.Test.YtnmleaibonnbnaaFlB
namespace Go.Proofs.Ytnmleaibonnbnaa
open Go.RowKit

namespace Fl
def bad (s : ByteArray) : Bool := decide (s.size ≠ 256)
def firstBad (f : List ByteArray) : Int := match f.findIdx? bad with | some i => (i : Int) | none => -1
theorem firstBad_hit {f : List ByteArray} {k : Nat} (hk : k < f.length) (h : ∀ j, j < k → bad (nthS f j) = false) (hb : bad (nthS f k) = true) : firstBad f = k := by
  unfold firstBad
  have : f.findIdx? bad = some k := by
    rw [List.findIdx?_eq_some_iff_getElem]
    refine ⟨hk, by simpa [nthS, hk] using hb, fun j hj => ?_⟩
    have := h j hj
    simpa [nthS, show j < f.length by omega] using this
  rw [this]
theorem firstBad_none {f : List ByteArray} (h : ∀ j, j < f.length → bad (nthS f j) = false) : firstBad f = -1 := by
  unfold firstBad
  have : f.findIdx? bad = none := by
    rw [List.findIdx?_eq_none_iff]
    intro x hx
    obtain ⟨j, hj, rfl⟩ := List.getElem_of_mem hx
    have := h j hj
    simpa [nthS, hj] using this
  rw [this]
theorem all_firstBad (f : List ByteArray) : (f.all fun s => decide (s.size = 256)) = !decide (0 ≤ firstBad f) := by
  unfold firstBad
  cases h : f.findIdx? bad with
  | none =>
    rw [List.findIdx?_eq_none_iff] at h
    simp only [bad] at h
    simp only [show decide ((0 : Int) ≤ -1) = false by decide, Bool.not_false, List.all_eq_true]
    intro x hx
    have := h x hx
    simpa using this
  | some i =>
    rw [List.findIdx?_eq_some_iff_getElem] at h
    obtain ⟨hi, hp, _⟩ := h
    simp only [Int.natCast_nonneg, decide_true, Bool.not_true, List.all_eq_false]
    exact ⟨_, List.getElem_mem hi, by simpa [bad] using hp⟩
end Fl

theorem bad_any (s : ByteArray) (_hs : s.size ≤ maxLen) (w : World) : Calls Try.prog 25 #[.string s] w fun e w' => e = .returned (.bool (Fl.bad s)) ∧ w = w' := by

  by_cases h : s.size = 256
  · have H := Lib.hid (show Fl.bad s = false by simp [Fl.bad, h])
    have e1 : ((s.size : Int) != 256) = false := by simp; omega
    go_enter Try.func25, Try.ntmps25
    go_wp2
    go_ret
    exact ⟨ret_bool H.out.symm, rfl⟩
  · have H := Lib.hid (show Fl.bad s = true by simp [Fl.bad, h])
    have e1 : ((s.size : Int) != 256) = true := by simp; omega
    go_enter Try.func25, Try.ntmps25
    go_wp2
    go_ret
    exact ⟨ret_bool H.out.symm, rfl⟩

theorem indexFunc_any (v : Value) (f : List ByteArray) (w : World) (hf : RStrs w w.heap.size v f) :
    Calls Try.prog 34 #[v, .func (.func 25) #[] #[]] w fun e w' => e = .returned (.int .i64 (Fl.firstBad f)) ∧ w = w' := by
  obtain ⟨A, c, rfl, hn, hc⟩ := hf.form
  unfold maxLen at hc
  go_enter Try.func34, Try.ntmps34
  go_wp2
  go_loop [8] (fun i => ∃ k : Nat, k ≤ f.length ∧ Hid (∀ j, j < k → Fl.bad (nthS f j) = false) ∧ i = .int .i64 k) (fun i => f.length - (intOf i).toNat)
  case atStart => exact ⟨0, Nat.zero_le _, fun j hj => absurd hj (by omega), rfl⟩
  case round =>
    obtain ⟨k, hk, HJ, rfl⟩ := hrel
    by_cases hlt : k < f.length
    · obtain ⟨b, o, rfl, hb, hcell, hsz⟩ := hf.at_ hlt
      cases h3 : Fl.bad (nthS f k)
      · have e3 := Lib.hid h3
        have HN := Lib.hid (Fl.upto_succ (p := fun j => Fl.bad (nthS f j) = false) HJ.out h3)
        clear h3
        go_wp2_with (go_at_call 25; with_reducible refine (bad_any _ hsz _).mono ?_; rintro e w1 ⟨rfl, rfl⟩; rw [e3.out])
        go_round
        case rel => exact ⟨k + 1, by omega, HN.out, by go_num⟩
        case measure => simp [intOf]; omega
      · have e3 := Lib.hid h3
        have H := Lib.hid (Fl.firstBad_hit hlt HJ.out h3)
        clear h3
        go_wp2_with (go_at_call 25; with_reducible refine (bad_any _ hsz _).mono ?_; rintro e w1 ⟨rfl, rfl⟩; rw [e3.out])
        go_ret
        exact ⟨ret_int H.out.symm, rfl⟩
    · have H := Lib.hid (Fl.firstBad_none (f := f) (fun j hj => HJ.out j (by omega)))
      go_wp2
      go_ret
      exact ⟨ret_int H.out.symm, rfl⟩

theorem containsFunc_any (v : Value) (f : List ByteArray) (w : World) (hf : RStrs w w.heap.size v f) :
    Calls Try.prog 26 #[v, .func (.func 25) #[] #[]] w fun e w' => e = .returned (.bool (decide (0 ≤ Fl.firstBad f))) ∧ w = w' := by
  go_enter Try.func26, Try.ntmps26
  go_wp2_with (go_at_call 34; with_reducible refine (indexFunc_any _ f _ hf).mono ?_; rintro e w1 ⟨rfl, rfl⟩)
  go_ret
  exact ⟨rfl, rfl⟩

theorem valid_any (v : Value) (f : List ByteArray) (w : World) (hf : RStrs w w.heap.size v f) :
    Calls Try.prog 18 #[.agg #[v]] w fun e w' => e = .returned (.bool (Fl.valid f)) ∧ Below w.heap.size w w' := by
  obtain ⟨A, c, rfl, hn, hc⟩ := hf.form
  unfold maxLen at hc
  by_cases h4 : f.length ≤ 128
  · have e4 : decide ((f.length : Int) ≤ 128) = true := by simp; omega
    have H := Lib.hid (show Fl.valid f = !decide (0 ≤ Fl.firstBad f) by rw [← Fl.all_firstBad]; simp [Fl.valid, h4])
    cases hd : decide (0 ≤ Fl.firstBad f)
    all_goals
      have HD := Lib.hid hd
      rw [hd] at H
      clear hd
      go_enter Try.func18, Try.ntmps18
      go_wp2_with (go_at_call 26; with_reducible refine (containsFunc_any _ f _ ((hf.below (Below.new _)).more (by simp))).mono ?_; rintro e w1 ⟨rfl, rfl⟩; rw [HD.out])
      go_ret
      exact ⟨ret_bool H.out.symm, Below.new _⟩
  · have e4 : decide ((f.length : Int) ≤ 128) = false := by simp; omega
    have H := Lib.hid (Fl.valid_long h4)
    clear hf
    go_enter Try.func18, Try.ntmps18
    go_wp2
    go_ret
    exact ⟨ret_bool H.out.symm, Below.new _⟩

theorem equal_any (v u : Value) (f g : List ByteArray) (w : World) (hf : RStrs w w.heap.size v f) (hg : RStrs w w.heap.size u g) :
    Calls Try.prog 27 #[v, u] w fun e w' => e = .returned (.bool (Fl.same f g)) ∧ Below w.heap.size w w' := by
  obtain ⟨A, c, rfl, hn, hc⟩ := hf.form
  obtain ⟨A2, c2, rfl, hn2, hc2⟩ := hg.form
  unfold maxLen at hc hc2
  by_cases hl : f.length = g.length
  · have HL := Lib.hid hl
    have eL : ((f.length : Int) == (g.length : Int)) = true := by simp; omega
    have eL' : ((f.length : Int) != (g.length : Int)) = false := by simp; omega
    have hl1 : f.length ≤ g.length := by omega
    clear hl
    go_enter Try.func27, Try.ntmps27
    go_wp2
    go_loopw [13] (fun i wr => ∃ k : Nat, k ≤ f.length ∧ Hid (∀ j, j < k → nthS f j = nthS g j) ∧ i = .int .i64 k ∧ Below w.heap.size w wr) (fun i _ => f.length - (intOf i).toNat)
    case atStart => exact ⟨0, Nat.zero_le _, fun j hj => absurd hj (by omega), rfl, Below.refl _ _⟩
    case round =>
      obtain ⟨k, hk, HJ, rfl, hbw⟩ := hrel
      obtain ⟨hk1, hk2⟩ := bcell hbw
      by_cases hlt : k < f.length
      · obtain ⟨b, o, rfl, hb, hcell, hsz⟩ := hf.at_ hlt
        obtain ⟨b2, o2, rfl, hb2, hcell2, hsz2⟩ := hg.at_ (show k < g.length by omega)
        by_cases hne : nthS f k = nthS g k
        · have H := Lib.hid (Fl.upto_succ (p := fun j => nthS f j = nthS g j) HJ.out hne)
          have eN : ((nthS f k).toList == (nthS g k).toList) = true := by rw [hne]; simp
          clear hne
          go_wp2
          go_quiet (fail)
          go_wp2
          go_roundw
          case rel => exact ⟨k + 1, by omega, H.out, by go_num, below_drewN hbw _⟩
          case measure => simp [intOf]; omega
        · have H := Lib.hid (Fl.same_bad hne)
          have eN : ((nthS f k).toList == (nthS g k).toList) = false := str_ne hne
          clear hne
          go_wp2
          go_quiet (fail)
          go_wp2
          go_ret
          exact ⟨ret_bool H.out.symm, below_drewN hbw _⟩
      · have H := Lib.hid (Fl.same_yes HL.out (fun j hj => HJ.out j (by omega)))
        go_wp2
        go_ret
        exact ⟨ret_bool H.out.symm, hbw⟩
  · have H := Lib.hid (Fl.same_len hl)
    have eL : ((f.length : Int) == (g.length : Int)) = false := by simp; omega
    have eL' : ((f.length : Int) != (g.length : Int)) = true := by simp; omega
    clear hl
    go_enter Try.func27, Try.ntmps27
    go_wp2
    go_ret
    exact ⟨ret_bool H.out.symm, Below.refl _ _⟩

theorem same_any (v u : Value) (f g : List ByteArray) (w : World) (hf : RStrs w w.heap.size v f) (hg : RStrs w w.heap.size u g) :
    Calls Try.prog 20 #[.agg #[v], .agg #[u]] w fun e w' => e = .returned (.bool (Fl.same f g)) ∧ Below w.heap.size w w' := by
  obtain ⟨A, c, rfl, hn, hc⟩ := hf.form
  obtain ⟨A2, c2, rfl, hn2, hc2⟩ := hg.form
  have hB1 : Below w.heap.size w ((w.alloc (Obj.cells #[Value.slice A f.length c] 24)).alloc (Obj.cells #[Value.slice A2 g.length c2] 24)) := ((Below.refl _ _).alloc (Nat.le_refl _) _).alloc (by simp) _
  go_enter Try.func20, Try.ntmps20
  go_wp2_with (go_at_call 27; with_reducible refine (equal_any _ _ f g _ ((hf.below hB1).more hB1.size) ((hg.below hB1).more hB1.size)).mono ?_; rintro e w1 ⟨rfl, hb1⟩)
  go_ret
  exact ⟨rfl, hB1.trans (hb1.mono hB1.size)⟩

end Go.Proofs.Ytnmleaibonnbnaa
