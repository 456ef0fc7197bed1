/- Fuses: Same of the reference. -/
import Derived.Test.YtnahokblbpppeaaFzI
namespace Go.Proofs.Ytnahokblbpppeaa
open Go.RowKit

theorem below_drewN {B : Nat} {a w : World} (h : Below B a w) (n : Nat) : Below B a (w.drewN n) := ⟨h.os, h.tape, h.output, h.size, h.block⟩

namespace Fz
def same (f g : List (List Nat)) : Bool := decide (f = g)
theorem same_len {f g : List (List Nat)} (h : f.length ≠ g.length) : same f g = false := by
  simp only [same, decide_eq_false_iff_not]; rintro rfl; exact h rfl
theorem same_row {f g : List (List Nat)} {k : Nat} (h : (nthRow f k).length ≠ (nthRow g k).length) : same f g = false := by
  simp only [same, decide_eq_false_iff_not]; rintro rfl; exact h rfl
theorem same_cell {f g : List (List Nat)} {k i : Nat} (h : nth (nthRow f k) i ≠ nth (nthRow g k) i) : same f g = false := by
  simp only [same, decide_eq_false_iff_not]; rintro rfl; exact h rfl
theorem row_ext {xs ys : List Nat} (h : xs.length = ys.length) (hc : ∀ i, i < xs.length → nth xs i = nth ys i) : xs = ys := by
  refine List.ext_getElem h fun i h1 h2 => ?_
  have := hc i h1
  simpa [nth, h1, h2] using this
theorem rows_ext {f g : List (List Nat)} (h : f.length = g.length) (hc : ∀ i, i < f.length → nthRow f i = nthRow g i) : f = g := by
  refine List.ext_getElem h fun i h1 h2 => ?_
  have := hc i h1
  simpa [nthRow, h1, h2] using this
theorem same_all {f g : List (List Nat)} (h : f.length = g.length) (hc : ∀ i, i < f.length → nthRow f i = nthRow g i) : same f g = true := by
  simp [same, rows_ext h hc]
end Fz

theorem same_any (v u : Value) (f g : List (List Nat)) (w : World) (hf : RRows w w.heap.size v f) (hg : RRows w w.heap.size u g) :
    Calls Try.prog 17 #[.agg #[v], .agg #[u]] w fun e w' => e = .returned (.bool (Fz.same f g)) ∧ Below w.heap.size w w' := by
  have hf' := hf
  have hg' := hg
  obtain ⟨A, c, vs, rfl, hn, hc, hcs, hrows⟩ := hf
  obtain ⟨A2, c2, vs2, rfl, hn2, hc2, hcs2, hrows2⟩ := hg
  unfold maxLen at hc hc2
  clear hcs hrows hcs2 hrows2
  by_cases hl : f.length = g.length
  · have HL := Lib.hid hl
    have hl1 : f.length ≤ g.length := by omega
    have hl2 : g.length ≤ f.length := by omega
    have eL : ((f.length : Int) == (g.length : Int)) = true := by simp; omega
    have eL' : ((f.length : Int) != (g.length : Int)) = false := by simp; omega
    clear hl
    go_enter Try.func17, Try.ntmps17
    go_wp2
    obtain ⟨W1, hW1⟩ : ∃ W1, W1 = (w.alloc (Obj.cells #[Value.slice A f.length c] 24)).alloc (Obj.cells #[Value.slice A2 g.length c2] 24) := ⟨_, rfl⟩
    rw [← hW1]
    have hB1 : Below w.heap.size w W1 := by rw [hW1]; exact ((Below.refl _ _).alloc (Nat.le_refl _) _).alloc (by simp) _
    have q1 : W1.cell? ⟨w.heap.size, 0, none⟩ = some (Value.slice A f.length c) := by rw [hW1]; simp
    have q2 : W1.cell? ⟨w.heap.size + 1, 0, none⟩ = some (Value.slice A2 g.length c2) := by rw [hW1]; simp [go_sem]
    clear hW1
    go_loopw [5] (fun i wr => ∃ k : Nat, k ≤ f.length ∧ Hid (∀ j, j < k → nthRow f j = nthRow g j) ∧ i = .int .i64 k ∧ Below (w.heap.size + 2) W1 wr) (fun i _ => f.length - (intOf i).toNat)
    case atStart => exact ⟨0, Nat.zero_le _, fun j hj => absurd hj (by omega), rfl, Below.refl _ _⟩
    case round =>
      obtain ⟨k, hk, HJ, rfl, hbw⟩ := hrel
      obtain ⟨hk1, hk2⟩ := bcell hbw
      by_cases hlt : k < f.length
      · obtain ⟨b, o, A', c', rfl, hb, hcell, hl, hc', hbd, hg⟩ := (hf'.below hB1).row k hlt
        obtain ⟨b2, o2, A2', c2', rfl, hb2, hcell2, hl2, hc2', hbd2, hg2⟩ := (hg'.below hB1).row k (by omega)
        have HG := Lib.hid hg
        have HG2 := Lib.hid hg2
        unfold maxLen at hc' hc2'
        have hb_ : b < w.heap.size + 2 := by omega
        have hb2_ : b2 < w.heap.size + 2 := by omega
        clear hbd hg hbd2 hg2
        by_cases hrl : (nthRow f k).length = (nthRow g k).length
        · have hr1 : (nthRow f k).length ≤ (nthRow g k).length := by omega
          have hr2 : (nthRow g k).length ≤ (nthRow f k).length := by omega
          have eR : (((nthRow f k).length : Int) == ((nthRow g k).length : Int)) = true := by simp; omega
          have eR' : (((nthRow f k).length : Int) != ((nthRow g k).length : Int)) = false := by simp; omega
          have HR := Lib.hid hrl
          clear hrl
          go_wp2
          go_quiet (fail)
          go_wp2
          go_loopw [6] (fun i wr2 => ∃ m : Nat, m ≤ (nthRow f k).length ∧ Hid (∀ j, j < m → nth (nthRow f k) j = nth (nthRow g k) j) ∧ i = .int .i64 m ∧ Below (w.heap.size + 2) W1 wr2) (fun i _ => (nthRow f k).length - (intOf i).toNat)
          case atStart => exact ⟨0, Nat.zero_le _, fun j hj => absurd hj (by omega), rfl, below_drewN hbw _⟩
          case round =>
            clear hk1 hk2 hbw
            obtain ⟨m, hm, HM, rfl, hbw⟩ := hrel
            obtain ⟨hk1, hk2⟩ := bcell hbw
            by_cases hlm : m < (nthRow f k).length
            · obtain ⟨b', o', rfl, hb', hgg⟩ := HG.out (by omega)
              obtain ⟨b2', o2', rfl, hb2', hgg2⟩ := HG2.out (by omega)
              have hx := hgg m hlm
              have hx2 := hgg2 m (by omega)
              have hb'_ : b' < w.heap.size + 2 := by omega
              have hb2'_ : b2' < w.heap.size + 2 := by omega
              have hlm2 : m < (nthRow g k).length := by omega
              clear hgg hgg2
              by_cases hne : nth (nthRow f k) m = nth (nthRow g k) m
              · have H := Lib.hid (Fz.below_succ HM.out hne)
                have eN : ((nth (nthRow f k) m : Int) != (nth (nthRow g k) m : Int)) = false := by simp; omega
                clear hne
                go_wp2
                go_quiet (fail)
                go_wp2
                go_roundw
                case rel => exact ⟨m + 1, by omega, H.out, by go_num, below_drewN hbw _⟩
                case measure => simp [intOf]; omega
              · have H := Lib.hid (Fz.same_cell hne)
                have eN : ((nth (nthRow f k) m : Int) != (nth (nthRow g k) m : Int)) = true := by simp; omega
                clear hne
                go_wp2
                go_quiet (fail)
                go_wp2
                go_ret
                exact ⟨ret_bool H.out.symm, hB1.trans ((below_drewN hbw _).mono (by omega))⟩
            · have H := Lib.hid (Fz.below_succ HJ.out (Fz.row_ext HR.out (fun j hj => HM.out j (by omega))))
              go_wp2
              go_roundw
              case rel => exact ⟨k + 1, by omega, H.out, by go_num, hbw⟩
              case measure => simp [intOf]; omega
        · have H := Lib.hid (Fz.same_row hrl)
          have eR : (((nthRow f k).length : Int) == ((nthRow g k).length : Int)) = false := by simp; omega
          have eR' : (((nthRow f k).length : Int) != ((nthRow g k).length : Int)) = true := by simp; omega
          clear hrl
          go_wp2
          go_quiet (fail)
          go_wp2
          go_ret
          exact ⟨ret_bool H.out.symm, hB1.trans ((below_drewN hbw _).mono (by omega))⟩
      · have H := Lib.hid (Fz.same_all HL.out (fun j hj => HJ.out j (by omega)))
        go_wp2
        go_ret
        exact ⟨ret_bool H.out.symm, hB1.trans (hbw.mono (by omega))⟩
  · have H := Lib.hid (Fz.same_len hl)
    have eL : ((f.length : Int) == (g.length : Int)) = false := by simp; omega
    have eL' : ((f.length : Int) != (g.length : Int)) = true := by simp; omega
    clear hl
    go_enter Try.func17, Try.ntmps17
    go_wp2
    go_ret
    exact ⟨ret_bool H.out.symm, ((Below.refl _ _).alloc (Nat.le_refl _) _).alloc (by simp) _⟩

end Go.Proofs.Ytnahokblbpppeaa
