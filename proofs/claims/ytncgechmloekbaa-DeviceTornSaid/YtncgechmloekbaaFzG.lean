/- Fuses: levels. -/
import Derived.Test.YtncgechmloekbaaFzF
namespace Go.Proofs.Ytncgechmloekbaa
open Go.RowKit

namespace Fz
/-- the sum of the first m readings of logical bit i -/
def psum (xs : List Nat) (noise : Bool) (i : Nat) : Nat → Int
  | 0 => 0
  | m + 1 => psum xs noise i m + rd (nth xs (i * 3 + m)) noise
def tri (xs : List Nat) (noise : Bool) (i : Nat) : Int := psum xs noise i 3
def lev (xs : List Nat) (noise : Bool) (n : Nat) : Nat := ((List.range n).find? (fun i => decide (tri xs noise i < 2))).getD n
def level (f : List (List Nat)) (bank : Int) (noise : Bool) : Int := if 0 ≤ bank ∧ bank < f.length then (lev (row f bank) noise ((row f bank).length / 3) : Nat) else -1

theorem rd_01 (c : Nat) (noise : Bool) : 0 ≤ rd c noise ∧ rd c noise ≤ 1 := by unfold rd; split <;> omega
theorem psum_bd (xs : List Nat) (noise : Bool) (i : Nat) : ∀ m, 0 ≤ psum xs noise i m ∧ psum xs noise i m ≤ m
  | 0 => by simp [psum]
  | m + 1 => by
    have h1 := psum_bd xs noise i m
    have h2 := rd_01 (nth xs (i * 3 + m)) noise
    simp only [psum]
    omega
theorem find_range {n i : Nat} {p : Nat → Bool} (hi : i < n) (h : ∀ j, j < i → p j = false) (hp : p i = true) : (List.range n).find? p = some i := by
  rw [List.find?_range_eq_some]
  exact ⟨hp, by simpa using hi, by intro j hj; simp [h j hj]⟩
theorem lev_hit {xs : List Nat} {noise : Bool} {n i : Nat} (hi : i < n) (h : ∀ j, j < i → 2 ≤ tri xs noise j) (hp : tri xs noise i < 2) : lev xs noise n = i := by
  unfold lev
  rw [find_range hi (fun j hj => by have := h j hj; simp; omega) (by simpa using hp)]
  rfl
theorem lev_none {xs : List Nat} {noise : Bool} {n : Nat} (h : ∀ j, j < n → 2 ≤ tri xs noise j) : lev xs noise n = n := by
  unfold lev
  have : (List.range n).find? (fun i => decide (tri xs noise i < 2)) = none := by
    rw [List.find?_eq_none]
    intro j hj
    have := h j (by simpa using hj)
    simp; omega
  rw [this]; rfl
end Fz

set_option maxRecDepth 100000 in
theorem least1_any (c : Nat) (w : World) : Calls Try.prog 36 #[.int .u8 c] w fun e w' => e = .returned (.int .i64 (Fz.rd c false)) ∧ w = w' := by
  go_enter Try.func36, Try.ntmps36
  go_wp2_with (go_at_call 37; with_reducible refine (reading_any _ _ _).mono ?_; rintro e w2 ⟨rfl, rfl⟩)
  go_ret
  exact ⟨rfl, rfl⟩
set_option maxRecDepth 100000 in
theorem level_least (v : Value) (f : List (List Nat)) (bank : Int) (w : World) (hf : RRows w w.heap.size v f) :
    Calls Try.prog 35 #[.agg #[v], .int .i64 bank, .func (.func 36) #[] #[]] w fun e w' => e = .returned (.int .i64 (Fz.level f bank false)) ∧ Below w.heap.size w w' := by
  have hf' := hf
  obtain ⟨A, c, vs, rfl, hn, hc, hcs, hrows⟩ := hf
  unfold maxLen at hc
  by_cases hbk : 0 ≤ bank ∧ bank < f.length
  · obtain ⟨k, rfl⟩ := Int.eq_ofNat_of_zero_le hbk.1
    have hk : k < f.length := by omega
    obtain ⟨b, o, A', c', rfl, hb, hcell, hl, hc', hbd, hg⟩ := hf'.row k hk
    have HG := Lib.hid hg
    have HW := Lib.hid (show Fz.width f k = (((nthRow f k).length / 3 : Nat) : Int) by simp [Fz.width, Fz.row, hbk.2])
    have HL := Lib.hid (show Fz.level f k false = (Fz.lev (nthRow f k) false ((nthRow f k).length / 3) : Nat) by simp [Fz.level, Fz.row, hbk.2])
    unfold maxLen at hc'
    clear hcs hrows hbd hg hbk
    go_enter Try.func35, Try.ntmps35
    go_wp2_with (go_at_call 54; with_reducible refine (width_any _ f _ _ ((hf'.below (Below.new _)).more (by simp))).mono ?_; rintro e w1 ⟨rfl, hb1⟩; rw [HW.out]; obtain ⟨hk1, hk2⟩ := bcell hb1)
    go_loop [16] (fun i => ∃ i0 : Nat, i0 ≤ (nthRow f k).length / 3 ∧ Hid (∀ j, j < i0 → 2 ≤ Fz.tri (nthRow f k) false j) ∧ i = .int .i64 i0) (fun i => (nthRow f k).length / 3 - (intOf i).toNat)
    case atStart => exact ⟨0, Nat.zero_le _, fun j hj => absurd hj (by omega), rfl⟩
    case round =>
      obtain ⟨i, hi, HJ, rfl⟩ := hrel
      by_cases hlt : i < (nthRow f k).length / 3
      · obtain ⟨b', o', rfl, hb', hgg⟩ := HG.out (by omega)
        have HGG := Lib.hid hgg
        clear hgg
        have e3 : (i + 1) * 3 - i * 3 = 3 := by omega
        go_wp2
        go_loop [9, 31] (fun s m => ∃ m0 : Nat, m0 ≤ 3 ∧ m = .int .i64 m0 ∧ s = .int .i64 (Fz.psum (nthRow f k) false i m0)) (fun _ m => 3 - (intOf m).toNat)
        case atStart => exact ⟨0, Nat.zero_le _, rfl, rfl⟩
        case round =>
          obtain ⟨m, hm, rfl, rfl⟩ := hrel
          have hp := Fz.psum_bd (nthRow f k) false i m
          have hr := Fz.rd_01 (nth (nthRow f k) (i * 3 + m)) false
          obtain ⟨hp1, hp2⟩ := hp
          obtain ⟨hr1, hr2⟩ := hr
          by_cases hlm : m < 3
          · have hcell2 : w.cell? ⟨b', o' + i * 3 + m, none⟩ = some (.int .u8 (nth (nthRow f k) (i * 3 + m) : Nat)) := by
              have := HGG.out (i * 3 + m) (by omega)
              rwa [← Nat.add_assoc] at this
            go_wp2_with (go_at_call 36; with_reducible refine (least1_any _ _).mono ?_; rintro e w2 ⟨rfl, rfl⟩)
            go_round
            case rel => exact ⟨m + 1, by omega, by go_num, by simp [Fz.psum]⟩
            case measure => simp [intOf]; omega
          · obtain rfl : m = 3 := by omega
            by_cases h2 : 2 * Fz.psum (nthRow f k) false i 3 ≤ 3
            · have H := Lib.hid (Fz.lev_hit (n := (nthRow f k).length / 3) hlt HJ.out (show Fz.psum (nthRow f k) false i 3 < 2 by omega))
              go_wp2
              go_ret
              exact ⟨ret_int (by rw [HL.out, H.out]), (Below.new _).trans (hb1.mono (by simp))⟩
            · have H := Lib.hid (show ∀ j, j < i + 1 → 2 ≤ Fz.tri (nthRow f k) false j by
                intro j hj
                rcases Nat.lt_succ_iff_lt_or_eq.1 hj with g | g
                · exact HJ.out j g
                · subst g; show 2 ≤ Fz.psum (nthRow f k) false j 3; omega)
              go_wp2
              go_round
              case rel => exact ⟨i + 1, by omega, H.out, by go_num⟩
              case measure => simp [intOf]; omega
      · have H := Lib.hid (Fz.lev_none (xs := nthRow f k) (noise := false) (n := (nthRow f k).length / 3) (fun j hj => HJ.out j (by omega)))
        go_wp2
        go_ret
        exact ⟨ret_int (by rw [HL.out, H.out]; simp), (Below.new _).trans (hb1.mono (by simp))⟩
  · have HW := Lib.hid (show Fz.width f bank = -1 by simp [Fz.width, hbk])
    have HL := Lib.hid (show Fz.level f bank false = -1 by simp [Fz.level, hbk])
    clear hcs hrows hbk
    go_enter Try.func35, Try.ntmps35
    go_wp2_with (go_at_call 54; with_reducible refine (width_any _ f _ _ ((hf'.below (Below.new _)).more (by simp))).mono ?_; rintro e w1 ⟨rfl, hb1⟩; rw [HW.out])
    refine wp_loop_rounds 1 ?_
    rw [rounds_succ]
    go_wp2
    go_ret
    exact ⟨ret_int HL.out.symm, (Below.new _).trans (hb1.mono (by simp))⟩

end Go.Proofs.Ytncgechmloekbaa
