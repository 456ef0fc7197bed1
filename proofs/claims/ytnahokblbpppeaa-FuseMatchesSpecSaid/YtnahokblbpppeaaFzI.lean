/- Fuses: the reference's Least, Most, Sound. -/
import Derived.Test.YtnahokblbpppeaaFzH
namespace Go.Proofs.Ytnahokblbpppeaa
open Go.RowKit

theorem rleast_any (v : Value) (f : List (List Nat)) (bank : Int) (w : World) (hf : RRows w w.heap.size v f) :
    Calls Try.prog 21 #[.agg #[v], .int .i64 bank] w fun e w' => e = .returned (.int .i64 (Fz.level f bank false)) ∧ Below w.heap.size w w' := by
  have hf' := hf
  obtain ⟨A, c, vs, rfl, hn, hc, hcs, hrows⟩ := hf
  clear hcs hrows
  go_enter Try.func21, Try.ntmps21
  go_wp2_with (go_at_call 38; with_reducible refine (rlevel_any _ f _ _ _ ((hf'.below (Below.new _)).more (by simp))).mono ?_; rintro e w1 ⟨rfl, hb1⟩)
  go_ret
  exact ⟨rfl, (Below.new _).trans (hb1.mono (by simp))⟩

theorem rmost_any (v : Value) (f : List (List Nat)) (bank : Int) (w : World) (hf : RRows w w.heap.size v f) :
    Calls Try.prog 23 #[.agg #[v], .int .i64 bank] w fun e w' => e = .returned (.int .i64 (Fz.level f bank true)) ∧ Below w.heap.size w w' := by
  have hf' := hf
  obtain ⟨A, c, vs, rfl, hn, hc, hcs, hrows⟩ := hf
  clear hcs hrows
  go_enter Try.func23, Try.ntmps23
  go_wp2_with (go_at_call 38; with_reducible refine (rlevel_any _ f _ _ _ ((hf'.below (Below.new _)).more (by simp))).mono ?_; rintro e w1 ⟨rfl, hb1⟩)
  go_ret
  exact ⟨rfl, (Below.new _).trans (hb1.mono (by simp))⟩

namespace Fz
/-- stuck cells among the first m of logical bit i -/
def ssum (xs : List Nat) (i : Nat) : Nat → Int
  | 0 => 0
  | m + 1 => ssum xs i m + if nth xs (i * 3 + m) = 3 then 1 else 0
def soundRow (xs : List Nat) : Bool := (List.range (xs.length / 3)).all fun i => decide (ssum xs i 3 ≤ 1)
def sound (f : List (List Nat)) : Bool := f.all soundRow
theorem ssum_bd (xs : List Nat) (i : Nat) : ∀ m, 0 ≤ ssum xs i m ∧ ssum xs i m ≤ m
  | 0 => by simp [ssum]
  | m + 1 => by
    have h1 := ssum_bd xs i m
    simp only [ssum]
    split <;> omega
theorem ssum_hit {xs : List Nat} {i m : Nat} (h : nth xs (i * 3 + m) = 3) : ssum xs i (m + 1) = ssum xs i m + 1 := by simp [ssum, h]
theorem ssum_miss {xs : List Nat} {i m : Nat} (h : ¬ nth xs (i * 3 + m) = 3) : ssum xs i (m + 1) = ssum xs i m := by simp [ssum, h]
theorem soundRow_bad {xs : List Nat} {i : Nat} (hi : i < xs.length / 3) (h : 1 < ssum xs i 3) : soundRow xs = false := by
  unfold soundRow
  rw [List.all_eq_false]
  exact ⟨i, by simpa using hi, by simp; omega⟩
theorem soundRow_all {xs : List Nat} (h : ∀ i, i < xs.length / 3 → ssum xs i 3 ≤ 1) : soundRow xs = true := by
  unfold soundRow
  rw [List.all_eq_true]
  intro i hi
  have := h i (by simpa using hi)
  simpa using this
theorem nthRow_mem {f : List (List Nat)} {k : Nat} (hk : k < f.length) : nthRow f k ∈ f := by
  simp only [nthRow, List.getD_eq_getElem?_getD, List.getElem?_eq_getElem hk]
  exact List.getElem_mem hk
theorem sound_bad {f : List (List Nat)} {k : Nat} (hk : k < f.length) (h : soundRow (nthRow f k) = false) : sound f = false := by
  unfold sound
  rw [List.all_eq_false]
  exact ⟨nthRow f k, nthRow_mem hk, by simp [h]⟩
theorem sound_all {f : List (List Nat)} (h : ∀ j, j < f.length → soundRow (nthRow f j) = true) : sound f = true := by
  unfold sound
  rw [List.all_eq_true]
  intro x hx
  obtain ⟨j, hj, rfl⟩ := List.getElem_of_mem hx
  have := h j hj
  simpa [nthRow, List.getElem?_eq_getElem hj] using this
theorem below_succ {P : Nat → Prop} {k : Nat} (h : ∀ j, j < k → P j) (hk : P k) : ∀ j, j < k + 1 → P j := by
  intro j hj
  rcases Nat.lt_succ_iff_lt_or_eq.1 hj with g | g
  · exact h j g
  · subst g; exact hk
end Fz

theorem rsound_any (v : Value) (f : List (List Nat)) (w : World) (hf : RRows w w.heap.size v f) (hS : Hid (∀ i, i < f.length → (nthRow f i).length ≤ 1000)) :
    Calls Try.prog 25 #[.agg #[v]] w fun e w' => e = .returned (.bool (Fz.sound f)) ∧ Below w.heap.size w w' := by
  have hf' := hf
  obtain ⟨A, c, vs, rfl, hn, hc, hcs, hrows⟩ := hf
  unfold maxLen at hc
  clear hcs hrows
  go_enter Try.func25, Try.ntmps25
  go_wp2
  go_loop [3] (fun i => ∃ k : Nat, k ≤ f.length ∧ Hid (∀ j, j < k → Fz.soundRow (nthRow f j) = true) ∧ i = .int .i64 k) (fun i => f.length - (intOf i).toNat)
  case atStart => exact ⟨0, Nat.zero_le _, fun j hj => absurd hj (by omega), rfl⟩
  case round =>
    obtain ⟨k, hk, HJ, rfl⟩ := hrel
    by_cases hlt : k < f.length
    · obtain ⟨b, o, A', c', rfl, hb, hcell, hl, hc', hbd, hg⟩ := hf'.row k hlt
      have HG := Lib.hid hg
      have hlen := hS.out k hlt
      unfold maxLen at hc'
      clear hbd hg hf'
      go_wp2
      go_loop [4] (fun i => ∃ i0 : Nat, i0 ≤ (nthRow f k).length / 3 ∧ Hid (∀ j, j < i0 → Fz.ssum (nthRow f k) j 3 ≤ 1) ∧ i = .int .i64 ((i0 : Int) * 3)) (fun i => (nthRow f k).length - (intOf i).toNat)
      case atStart => exact ⟨0, Nat.zero_le _, fun j hj => absurd hj (by omega), rfl⟩
      case round =>
        obtain ⟨i, hi, HI, rfl⟩ := hrel
        have hi3 : (i : Int) * 3 ≤ 1000 := by omega
        have hi0 : 0 ≤ (i : Int) * 3 := by omega
        by_cases hli : i < (nthRow f k).length / 3
        · obtain ⟨b', o', rfl, hb', hgg⟩ := HG.out (by omega)
          have HGG := Lib.hid hgg
          clear hgg
          go_wp2
          go_loop [5, 6] (fun s m => ∃ m0 : Nat, m0 ≤ 3 ∧ m = .int .i64 m0 ∧ s = .int .i64 (Fz.ssum (nthRow f k) i m0)) (fun _ m => 3 - (intOf m).toNat)
          case atStart => exact ⟨0, Nat.zero_le _, rfl, rfl⟩
          case round =>
            obtain ⟨m, hm, rfl, rfl⟩ := hrel
            obtain ⟨hp1, hp2⟩ := Fz.ssum_bd (nthRow f k) i m
            by_cases hlm : m < 3
            · have hcell2 := HGG.out (i * 3 + m) (by omega)
              by_cases h3 : nth (nthRow f k) (i * 3 + m) = 3
              · have H := Lib.hid (Fz.ssum_hit h3)
                have e3 : ((nth (nthRow f k) (i * 3 + m) : Int) == 3) = true := by simp; omega
                clear h3
                go_wp2
                go_round
                case rel => exact ⟨m + 1, by omega, by go_num, by rw [H.out]⟩
                case measure => simp [intOf]; omega
              · have H := Lib.hid (Fz.ssum_miss h3)
                have e3 : ((nth (nthRow f k) (i * 3 + m) : Int) == 3) = false := by simp; omega
                clear h3
                go_wp2
                go_round
                case rel => exact ⟨m + 1, by omega, by go_num, by rw [H.out]⟩
                case measure => simp [intOf]; omega
            · obtain rfl : m = 3 := by omega
              by_cases h2 : 1 < Fz.ssum (nthRow f k) i 3
              · have H := Lib.hid (Fz.sound_bad hlt (Fz.soundRow_bad hli h2))
                go_wp2
                go_ret
                exact ⟨ret_bool H.out.symm, Below.new _⟩
              · have H := Lib.hid (Fz.below_succ HI.out (show Fz.ssum (nthRow f k) i 3 ≤ 1 by omega))
                go_wp2
                go_round
                case rel => exact ⟨i + 1, by omega, H.out, by go_num⟩
                case measure => simp [intOf]; omega
        · have H := Lib.hid (Fz.below_succ HJ.out (Fz.soundRow_all (fun j hj => HI.out j (by omega))))
          go_wp2
          go_round
          case rel => exact ⟨k + 1, by omega, H.out, by go_num⟩
          case measure => simp [intOf]; omega
    · have H := Lib.hid (Fz.sound_all (f := f) (fun j hj => HJ.out j (by omega)))
      clear hf'
      go_wp2
      go_ret
      exact ⟨ret_bool H.out.symm, Below.new _⟩

end Go.Proofs.Ytnahokblbpppeaa
