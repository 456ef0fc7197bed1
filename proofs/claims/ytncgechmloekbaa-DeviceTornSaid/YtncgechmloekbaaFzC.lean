/- Fuses: Exists, Read, Width of the reference. -/
import Derived.Test.YtncgechmloekbaaFzB
namespace Go.Proofs.Ytncgechmloekbaa
open Go.RowKit

set_option maxRecDepth 100000 in
theorem rexists_any (v : Value) (f : List (List Nat)) (bank cell : Int) (w : World) (hf : RRows w w.heap.size v f) :
    Calls Try.prog 49 #[.agg #[v], .int .i64 bank, .int .i64 cell] w fun e w' => e = .returned (.bool (Fz.ex f bank cell)) ∧ Below w.heap.size w w' := by
  have hf' := hf
  obtain ⟨A, c, vs, rfl, hn, hc, -, -⟩ := hf
  unfold maxLen at hc
  by_cases h0 : 0 ≤ bank
  · by_cases h1 : bank < f.length
    · by_cases h2 : 0 ≤ cell
      · obtain ⟨k, rfl⟩ := Int.eq_ofNat_of_zero_le h0
        obtain ⟨b, o, A', c', rfl, hb, hcell, hl, hc', -, -⟩ := hf'.row k (by omega)
        have H := Lib.hid (show Fz.ex f k cell = decide (cell < (nthRow f k).length) by simp [Fz.ex, Fz.row, h1, h2])
        unfold maxLen at hc'
        go_enter Try.func49, Try.ntmps49
        go_wp2
        go_ret
        exact ⟨ret_bool H.out.symm, (Below.refl _ _).alloc (Nat.le_refl _) _⟩
      · obtain ⟨k, rfl⟩ := Int.eq_ofNat_of_zero_le h0
        have H := Lib.hid (show Fz.ex f k cell = false by simp [Fz.ex, h2])
        clear hf'
        go_enter Try.func49, Try.ntmps49
        go_wp2
        go_ret
        exact ⟨ret_bool H.out.symm, (Below.refl _ _).alloc (Nat.le_refl _) _⟩
    · have H := Lib.hid (show Fz.ex f bank cell = false by simp [Fz.ex, h1])
      clear hf'
      go_enter Try.func49, Try.ntmps49
      go_wp2
      go_ret
      exact ⟨ret_bool H.out.symm, (Below.refl _ _).alloc (Nat.le_refl _) _⟩
  · have H := Lib.hid (show Fz.ex f bank cell = false by simp [Fz.ex, h0])
    clear hf'
    go_enter Try.func49, Try.ntmps49
    go_wp2
    go_ret
    exact ⟨ret_bool H.out.symm, (Below.refl _ _).alloc (Nat.le_refl _) _⟩

set_option maxRecDepth 100000 in
theorem rread_no (v : Value) (f : List (List Nat)) (bank cell : Int) (noise : Bool) (w : World) (hf : RRows w w.heap.size v f) (hx : Fz.ex f bank cell = false) :
    Calls Try.prog 23 #[.agg #[v], .int .i64 bank, .int .i64 cell, .bool noise] w fun e w' =>
      e = .returned (.tuple #[.int .i64 (Fz.readV f bank cell noise), .int .i64 (Fz.readE f bank cell)]) ∧ Below w.heap.size w w' := by
  have hf' := hf
  obtain ⟨A, c, vs, rfl, hn, hc, -, -⟩ := hf
  unfold maxLen at hc
  have H := Lib.hid hx
  clear hx
  have H1 := Lib.hid (show Fz.readV f bank cell noise = 0 by simp [Fz.readV, H.out])
  have H2 := Lib.hid (show Fz.readE f bank cell = 1 by simp [Fz.readE, H.out])
  go_enter Try.func23, Try.ntmps23
  go_wp2_with (go_at_call 49; with_reducible refine (rexists_any _ f _ _ _ ((hf'.below (Below.new _)).more (by simp))).mono ?_; rintro e w1 ⟨rfl, hb1⟩; rw [H.out])
  go_ret2
  exact ⟨ret_two H1.out.symm H2.out.symm, (Below.new _).trans (hb1.mono (by simp))⟩

set_option maxRecDepth 100000 in
theorem rread_any (v : Value) (f : List (List Nat)) (bank cell : Int) (noise : Bool) (w : World) (hf : RRows w w.heap.size v f) :
    Calls Try.prog 23 #[.agg #[v], .int .i64 bank, .int .i64 cell, .bool noise] w fun e w' =>
      e = .returned (.tuple #[.int .i64 (Fz.readV f bank cell noise), .int .i64 (Fz.readE f bank cell)]) ∧ Below w.heap.size w w' := by
  cases hx : Fz.ex f bank cell
  · exact rread_no v f bank cell noise w hf hx
  · have hf' := hf
    obtain ⟨A, c, vs, rfl, hn, hc, -, -⟩ := hf
    unfold maxLen at hc
    obtain ⟨i, j, b, o, b', o', c', rfl, rfl, hi, hj, rfl, hb, hb', hc1, hl, hc', hc2, hlt, hcell⟩ := hf'.at_ hx
    have H := Lib.hid hx
    have H1 := Lib.hid (show Fz.readV f i j noise = Fz.rd (nth (nthRow f i) j) noise by simp [Fz.readV, H.out, hcell])
    have H2 := Lib.hid (show Fz.readE f i j = 0 by simp [Fz.readE, H.out])
    unfold maxLen at hc'
    clear hx hcell
    by_cases h2 : nth (nthRow f i) j = 2
    · have e2 : ((nth (nthRow f i) j : Int) == 2) = true := by simp; omega
      have H3 := Lib.hid (show Fz.rd (nth (nthRow f i) j) noise = 1 by simp [Fz.rd, h2])
      clear h2
      go_enter Try.func23, Try.ntmps23
      go_wp2_with (go_at_call 49; with_reducible refine (rexists_any _ f _ _ _ ((hf'.below (Below.new _)).more (by simp))).mono ?_; rintro e w1 ⟨rfl, hb1⟩; rw [H.out]; obtain ⟨hk1, hk2⟩ := bcell hb1)
      go_ret2
      exact ⟨ret_two (H1.out.trans H3.out).symm H2.out.symm, (Below.new _).trans (hb1.mono (by simp))⟩
    · have e2 : ((nth (nthRow f i) j : Int) == 2) = false := by simp; omega
      by_cases h1 : nth (nthRow f i) j = 1
      · have e1 : ((nth (nthRow f i) j : Int) == 1) = true := by simp; omega
        have H3 := Lib.hid (show Fz.rd (nth (nthRow f i) j) noise = (if noise = true then 1 else 0) by simp [Fz.rd, h1])
        clear h1 h2
        cases noise
        all_goals
          go_enter Try.func23, Try.ntmps23
          go_wp2_with (go_at_call 49; with_reducible refine (rexists_any _ f _ _ _ ((hf'.below (Below.new _)).more (by simp))).mono ?_; rintro e w1 ⟨rfl, hb1⟩; rw [H.out]; obtain ⟨hk1, hk2⟩ := bcell hb1)
          go_ret2
          exact ⟨ret_two (H1.out.trans H3.out).symm H2.out.symm, (Below.new _).trans (hb1.mono (by simp))⟩
      · have e1 : ((nth (nthRow f i) j : Int) == 1) = false := by simp; omega
        have H3 := Lib.hid (show Fz.rd (nth (nthRow f i) j) noise = 0 by simp [Fz.rd, h1, h2])
        clear h1 h2
        go_enter Try.func23, Try.ntmps23
        go_wp2_with (go_at_call 49; with_reducible refine (rexists_any _ f _ _ _ ((hf'.below (Below.new _)).more (by simp))).mono ?_; rintro e w1 ⟨rfl, hb1⟩; rw [H.out]; obtain ⟨hk1, hk2⟩ := bcell hb1)
        go_ret2
        exact ⟨ret_two (H1.out.trans H3.out).symm H2.out.symm, (Below.new _).trans (hb1.mono (by simp))⟩

end Go.Proofs.Ytncgechmloekbaa
