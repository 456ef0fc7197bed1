/- Fuses: exists, Read, Width of both packages. -/
import Derived.Test.YtncgechmloekbaaFzA
namespace Go.Proofs.Ytncgechmloekbaa
open Go.RowKit

set_option maxRecDepth 100000 in
theorem exists_any (v : Value) (f : List (List Nat)) (bank cell : Int) (w : World) (hf : RRows w w.heap.size v f) :
    Calls Try.prog 55 #[.agg #[v], .int .i64 bank, .int .i64 cell] w fun e w' => e = .returned (.bool (Fz.ex f bank cell)) ∧ Below w.heap.size w w' := by
  have hf' := hf
  obtain ⟨A, c, vs, rfl, hn, hc, -, -⟩ := hf
  unfold maxLen at hc
  by_cases h0 : 0 ≤ bank
  · by_cases h1 : bank < f.length
    · by_cases h2 : 0 ≤ cell
      · obtain ⟨k, rfl⟩ := Int.eq_ofNat_of_zero_le h0
        obtain ⟨b, o, A', c', rfl, hb, hcell, hl, hc', -, -⟩ := hf'.row k (by omega)
        have H := Lib.hid (show Fz.ex f k cell = decide (cell < (nthRow f k).length) by simp [Fz.ex, Fz.row, h1, h2])
        unfold maxLen at hc'
        go_enter Try.func55, Try.ntmps55
        go_wp2
        go_ret
        exact ⟨ret_bool H.out.symm, (Below.refl _ _).alloc (Nat.le_refl _) _⟩
      · have H := Lib.hid (show Fz.ex f bank cell = false by simp [Fz.ex, h2])
        clear hf'
        go_enter Try.func55, Try.ntmps55
        go_wp2
        go_ret
        exact ⟨ret_bool H.out.symm, (Below.refl _ _).alloc (Nat.le_refl _) _⟩
    · have H := Lib.hid (show Fz.ex f bank cell = false by simp [Fz.ex, h1])
      clear hf'
      go_enter Try.func55, Try.ntmps55
      go_wp2
      go_ret
      exact ⟨ret_bool H.out.symm, (Below.refl _ _).alloc (Nat.le_refl _) _⟩
  · have H := Lib.hid (show Fz.ex f bank cell = false by simp [Fz.ex, h0])
    clear hf'
    go_enter Try.func55, Try.ntmps55
    go_wp2
    go_ret
    exact ⟨ret_bool H.out.symm, (Below.refl _ _).alloc (Nat.le_refl _) _⟩

/-- The cell that exists, as the walk meets it. -/
theorem RRows.at_ {w : World} {B : Nat} {A : Option Addr} {n c : Nat} {f : List (List Nat)} (h : RRows w B (.slice A n c) f) {bank cell : Int} (hx : Fz.ex f bank cell = true) :
    ∃ (i j : Nat) (b o b' o' c' : Nat), bank = i ∧ cell = j ∧ i < f.length ∧ j < (nthRow f i).length ∧ A = some ⟨b, o, none⟩ ∧ b < B ∧ b' < B ∧ w.cell? ⟨b, o + i, none⟩ = some (.slice (some ⟨b', o', none⟩) (nthRow f i).length c') ∧
      (nthRow f i).length ≤ c' ∧ c' ≤ maxLen ∧ w.cell? ⟨b', o' + j, none⟩ = some (.int .u8 (nth (nthRow f i) j : Nat)) ∧ nth (nthRow f i) j < 256 ∧ Fz.cellOf f bank cell = nth (nthRow f i) j := by
  simp only [Fz.ex, decide_eq_true_eq] at hx
  obtain ⟨h0, h1, h2, h3⟩ := hx
  obtain ⟨i, rfl⟩ := Int.eq_ofNat_of_zero_le h0
  obtain ⟨j, rfl⟩ := Int.eq_ofNat_of_zero_le h2
  simp only [Fz.row, Int.toNat_natCast] at h3
  obtain ⟨b, o, A', c', hA, hb, hcell, hl, hc', hx, hcs⟩ := h.row i (by omega)
  obtain ⟨b', o', rfl, hb', hg⟩ := hcs (by omega)
  refine ⟨i, j, b, o, b', o', c', rfl, rfl, by omega, by omega, hA, hb, hb', hcell, hl, hc', hg j (by omega), ?_, rfl⟩
  apply hx
  simp only [nth, List.getD_eq_getElem?_getD]
  rw [List.getElem?_eq_getElem (by omega)]
  simp

set_option maxRecDepth 100000 in
theorem read_any (v : Value) (f : List (List Nat)) (bank cell : Int) (noise : Bool) (w : World) (hf : RRows w w.heap.size v f) :
    Calls Try.prog 40 #[.agg #[v], .int .i64 bank, .int .i64 cell, .bool noise] w fun e w' =>
      e = .returned (.tuple #[.int .i64 (Fz.readV f bank cell noise), .int .i64 (Fz.readE f bank cell)]) ∧ Below w.heap.size w w' := by
  have hf' := hf
  obtain ⟨A, c, vs, rfl, hn, hc, -, -⟩ := hf
  unfold maxLen at hc
  cases hx : Fz.ex f bank cell
  · have H := Lib.hid hx
    clear hx
    have H1 := Lib.hid (show Fz.readV f bank cell noise = 0 by simp [Fz.readV, H.out])
    have H2 := Lib.hid (show Fz.readE f bank cell = 1 by simp [Fz.readE, H.out])
    go_enter Try.func40, Try.ntmps40
    go_wp2_with (go_at_call 55; with_reducible refine (exists_any _ f _ _ _ ((hf'.below (Below.new _)).more (by simp))).mono ?_; rintro e w1 ⟨rfl, hb1⟩; rw [H.out])
    go_ret2
    exact ⟨ret_two H1.out.symm H2.out.symm, (Below.new _).trans (hb1.mono (by simp))⟩
  · obtain ⟨i, j, b, o, b', o', c', rfl, rfl, hi, hj, rfl, hb, hb', hc1, hl, hc', hc2, hlt, hcell⟩ := hf'.at_ hx
    have H := Lib.hid hx
    have H1 := Lib.hid (show Fz.readV f i j noise = Fz.rd (nth (nthRow f i) j) noise by simp [Fz.readV, H.out, hcell])
    have H2 := Lib.hid (show Fz.readE f i j = 0 by simp [Fz.readE, H.out])
    unfold maxLen at hc'
    clear hx hcell
    go_enter Try.func40, Try.ntmps40
    go_wp2_with (first
      | (go_at_call 55; with_reducible refine (exists_any _ f _ _ _ ((hf'.below (Below.new _)).more (by simp))).mono ?_; rintro e w1 ⟨rfl, hb1⟩; rw [H.out]; obtain ⟨hk1, hk2⟩ := bcell hb1)
      | (go_at_call 37; with_reducible refine (reading_any _ _ _).mono ?_; rintro e w2 ⟨rfl, rfl⟩))
    go_ret2
    exact ⟨ret_two H1.out.symm H2.out.symm, (Below.new _).trans (hb1.mono (by simp))⟩

end Go.Proofs.Ytncgechmloekbaa
