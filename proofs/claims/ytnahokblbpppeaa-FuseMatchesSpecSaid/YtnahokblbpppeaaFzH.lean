/- Fuses: Least, Most, the reference's levels. -/
import Derived.Test.YtnahokblbpppeaaFzG
namespace Go.Proofs.Ytnahokblbpppeaa
open Go.RowKit

theorem least_any (v : Value) (f : List (List Nat)) (bank : Int) (w : World) (hf : RRows w w.heap.size v f) :
    Calls Try.prog 20 #[.agg #[v], .int .i64 bank] w fun e w' => e = .returned (.int .i64 (Fz.level f bank false)) ∧ Below w.heap.size w w' := by
  have hf' := hf
  obtain ⟨A, c, vs, rfl, hn, hc, hcs, hrows⟩ := hf
  clear hcs hrows
  go_enter Try.func20, Try.ntmps20
  go_wp2_with (go_at_call 36; with_reducible refine (level_least _ f _ _ ((hf'.below (Below.new _)).more (by simp))).mono ?_; rintro e w1 ⟨rfl, hb1⟩)
  go_ret
  exact ⟨rfl, (Below.new _).trans (hb1.mono (by simp))⟩

theorem most_any (v : Value) (f : List (List Nat)) (bank : Int) (w : World) (hf : RRows w w.heap.size v f) :
    Calls Try.prog 22 #[.agg #[v], .int .i64 bank] w fun e w' => e = .returned (.int .i64 (Fz.level f bank true)) ∧ Below w.heap.size w w' := by
  have hf' := hf
  obtain ⟨A, c, vs, rfl, hn, hc, hcs, hrows⟩ := hf
  clear hcs hrows
  go_enter Try.func22, Try.ntmps22
  go_wp2_with (go_at_call 36; with_reducible refine (level_most _ f _ _ ((hf'.below (Below.new _)).more (by simp))).mono ?_; rintro e w1 ⟨rfl, hb1⟩)
  go_ret
  exact ⟨rfl, (Below.new _).trans (hb1.mono (by simp))⟩

namespace Fz
theorem readV_at {f : List (List Nat)} {k i : Nat} (m : Nat) (hk : k < f.length) (hi : i < (nthRow f k).length / 3) (hm : m < 3) (noise : Bool) : readV f k (3 * (i : Int) + m) noise = rd (nth (nthRow f k) (i * 3 + m)) noise := by
  have h1 : ex f k (3 * (i : Int) + m) = true := by simp [ex, row, hk]; omega
  have h2 : (3 * (i : Int) + m).toNat = i * 3 + m := by omega
  simp [readV, h1, cellOf, row, h2]
theorem readV_0 {f : List (List Nat)} {k i : Nat} (hk : k < f.length) (hi : i < (nthRow f k).length / 3) (noise : Bool) : readV f k (3 * (i : Int)) noise = rd (nth (nthRow f k) (i * 3)) noise := by
  simpa using readV_at 0 hk hi (by omega) noise
theorem tri_eq (xs : List Nat) (noise : Bool) (i : Nat) : tri xs noise i = rd (nth xs (i * 3)) noise + rd (nth xs (i * 3 + 1)) noise + rd (nth xs (i * 3 + 2)) noise := by simp [tri, psum]
end Fz

theorem rlevel_any (v : Value) (f : List (List Nat)) (bank : Int) (noise : Bool) (w : World) (hf : RRows w w.heap.size v f) :
    Calls Try.prog 38 #[.agg #[v], .int .i64 bank, .bool noise] w fun e w' => e = .returned (.int .i64 (Fz.level f bank noise)) ∧ Below w.heap.size w w' := by
  have hf' := hf
  obtain ⟨A, c, vs, rfl, hn, hc, hcs, hrows⟩ := hf
  unfold maxLen at hc
  by_cases hbk : 0 ≤ bank ∧ bank < f.length
  · obtain ⟨k, rfl⟩ := Int.eq_ofNat_of_zero_le hbk.1
    have hk : k < f.length := by omega
    obtain ⟨b, o, A', c', rfl, hb, hcell, hl, hc', hbd, hg⟩ := hf'.row k hk
    have HW := Lib.hid (show Fz.width f k = (((nthRow f k).length / 3 : Nat) : Int) by simp [Fz.width, Fz.row, hbk.2])
    have HL := Lib.hid (show Fz.level f k noise = (Fz.lev (nthRow f k) noise ((nthRow f k).length / 3) : Nat) by simp [Fz.level, Fz.row, hbk.2])
    unfold maxLen at hc'
    clear hcs hrows hbd hg hbk
    go_enter Try.func38, Try.ntmps38
    go_wp2_with (go_at_call 19; with_reducible refine (rwidth_any _ f _ _ ((hf'.below (Below.new _)).more (by simp))).mono ?_; rintro e w1 ⟨rfl, hb1⟩; rw [HW.out])
    have HB1 : Below (w.heap.size + 1) (w.alloc (Obj.cells #[Value.slice (some ⟨b, o, none⟩) f.length c] 24)) w1 := hb1.mono (by simp)
    clear hb1
    go_loopw [8] (fun i wr => ∃ i0 : Nat, i0 ≤ (nthRow f k).length / 3 ∧ Hid (∀ j, j < i0 → 2 ≤ Fz.tri (nthRow f k) noise j) ∧ i = .int .i64 i0 ∧ Below (w.heap.size + 1) (w.alloc (Obj.cells #[Value.slice (some ⟨b, o, none⟩) f.length c] 24)) wr) (fun i _ => (nthRow f k).length / 3 - (intOf i).toNat)
    case atStart => exact ⟨0, Nat.zero_le _, fun j hj => absurd hj (by omega), rfl, HB1⟩
    case round =>
      clear HB1
      obtain ⟨i, hi, HJ, rfl, hbw⟩ := hrel
      obtain ⟨hk1, hk2⟩ := bcell hbw
      by_cases hlt : i < (nthRow f k).length / 3
      · have R0 := Lib.hid (Fz.readV_0 hk hlt noise)
        have R1 := Lib.hid (show Fz.readV f k (3 * (i : Int) + 1) noise = Fz.rd (nth (nthRow f k) (i * 3 + 1)) noise from Fz.readV_at 1 hk hlt (by omega) noise)
        have R2 := Lib.hid (show Fz.readV f k (3 * (i : Int) + 2) noise = Fz.rd (nth (nthRow f k) (i * 3 + 2)) noise from Fz.readV_at 2 hk hlt (by omega) noise)
        obtain ⟨a1, a2⟩ := Fz.rd_01 (nth (nthRow f k) (i * 3)) noise
        obtain ⟨b1, b2⟩ := Fz.rd_01 (nth (nthRow f k) (i * 3 + 1)) noise
        obtain ⟨c1, c2⟩ := Fz.rd_01 (nth (nthRow f k) (i * 3 + 2)) noise
        have HT := Lib.hid (Fz.tri_eq (nthRow f k) noise i)
        have HFR := Lib.hid (fun (W : World) (h : Below (w.heap.size + 1) (w.alloc (Obj.cells #[Value.slice (some ⟨b, o, none⟩) f.length c] 24)) W) =>
          (((hf'.below (Below.new _)).more (Nat.le_succ _)).below h).more (by simpa using h.size : w.heap.size + 1 ≤ W.heap.size))
        go_wp2_with (go_at_call 14; with_reducible refine (rread_any _ f _ _ _ _ (HFR.out _ hbw)).mono ?_; rintro e w2 ⟨rfl, hb2⟩; (first | rw [R0.out] | rw [R1.out] | rw [R2.out]); have hbw := hbw.trans (hb2.mono (by simpa using hbw.size)); obtain ⟨hk1, hk2⟩ := bcell hbw)
        · have H := Lib.hid (Fz.lev_hit (n := (nthRow f k).length / 3) hlt HJ.out (by rw [HT.out]; assumption))
          go_ret
          exact ⟨ret_int (by rw [HL.out, H.out]), (Below.new _).trans (hbw.mono (by simp))⟩
        · have H := Lib.hid (show ∀ j, j < i + 1 → 2 ≤ Fz.tri (nthRow f k) noise j by
            intro j hj
            rcases Nat.lt_succ_iff_lt_or_eq.1 hj with g | g
            · exact HJ.out j g
            · subst g; rw [HT.out]; assumption)
          go_roundw
          case rel => exact ⟨i + 1, by omega, H.out, by go_num, hbw⟩
          case measure => simp [intOf]; omega
      · have H := Lib.hid (Fz.lev_none (xs := nthRow f k) (noise := noise) (n := (nthRow f k).length / 3) (fun j hj => HJ.out j (by omega)))
        go_wp2
        go_ret
        exact ⟨ret_int (by rw [HL.out, H.out]; simp), (Below.new _).trans (hbw.mono (by simp))⟩
  · have HW := Lib.hid (show Fz.width f bank = -1 by simp [Fz.width, hbk])
    have HL := Lib.hid (show Fz.level f bank noise = -1 by simp [Fz.level, hbk])
    clear hcs hrows hbk
    go_enter Try.func38, Try.ntmps38
    go_wp2_with (go_at_call 19; with_reducible refine (rwidth_any _ f _ _ ((hf'.below (Below.new _)).more (by simp))).mono ?_; rintro e w1 ⟨rfl, hb1⟩; rw [HW.out])
    refine wp_loop_rounds 1 ?_
    rw [rounds_succ]
    go_wp2
    go_ret
    exact ⟨ret_int HL.out.symm, (Below.new _).trans (hb1.mono (by simp))⟩

end Go.Proofs.Ytnahokblbpppeaa
