/- Device: equality of fuse states. -/
import Derived.Test.YtncgechmloekbaaFzN
import Derived.Test.YtncgechmloekbaaFlLaw
import Derived.Test.YtncgechmloekbaaFlC
namespace Go.Proofs.Ytncgechmloekbaa
open Go.RowKit

set_option maxRecDepth 100000 in
theorem fuses_any (v u : Value) (f g : List (List Nat)) (w : World) (hf : RRows w w.heap.size v f) (hg : RRows w w.heap.size u g) :
    Calls Try.prog 31 #[.agg #[v], .agg #[u]] w fun e w' => e = .returned (.bool (Fz.same f g)) ∧ Below w.heap.size w w' := by
  have hf' := hf
  have hg' := hg
  obtain ⟨A, c, vs, rfl, hn, hc, hcs, hrows⟩ := hf
  obtain ⟨A2, c2, vs2, rfl, hn2, hc2, hcs2, hrows2⟩ := hg
  unfold maxLen at hc hc2
  clear hcs hrows hcs2 hrows2
  by_cases hl : f.length = g.length
  · have HL := Lib.hid hl
    have hl1 : f.length ≤ g.length := by omega
    have hl2 : g.length ≤ f.length := by omega
    have eL : ((f.length : Int) == (g.length : Int)) = true := by simp; omega
    have eL' : ((f.length : Int) != (g.length : Int)) = false := by simp; omega
    clear hl
    go_enter Try.func31, Try.ntmps31
    go_wp2
    obtain ⟨W1, hW1⟩ : ∃ W1, W1 = (w.alloc (Obj.cells #[Value.slice A f.length c] 24)).alloc (Obj.cells #[Value.slice A2 g.length c2] 24) := ⟨_, rfl⟩
    rw [← hW1]
    have hB1 : Below w.heap.size w W1 := by rw [hW1]; exact ((Below.refl _ _).alloc (Nat.le_refl _) _).alloc (by simp) _
    have q1 : W1.cell? ⟨w.heap.size, 0, none⟩ = some (Value.slice A f.length c) := by rw [hW1]; simp
    have q2 : W1.cell? ⟨w.heap.size + 1, 0, none⟩ = some (Value.slice A2 g.length c2) := by rw [hW1]; simp [go_sem]
    clear hW1
    go_loopw [5] (fun i wr => ∃ k : Nat, k ≤ f.length ∧ Hid (∀ j, j < k → nthRow f j = nthRow g j) ∧ i = .int .i64 k ∧ Below (w.heap.size + 2) W1 wr) (fun i _ => f.length - (intOf i).toNat)
    case atStart => exact ⟨0, Nat.zero_le _, fun j hj => absurd hj (by omega), rfl, Below.refl _ _⟩
    case round =>
      obtain ⟨k, hk, HJ, rfl, hbw⟩ := hrel
      obtain ⟨hk1, hk2⟩ := bcell hbw
      by_cases hlt : k < f.length
      · obtain ⟨b, o, A', c', rfl, hb, hcell, hl, hc', hbd, hg⟩ := (hf'.below hB1).row k hlt
        obtain ⟨b2, o2, A2', c2', rfl, hb2, hcell2, hl2, hc2', hbd2, hg2⟩ := (hg'.below hB1).row k (by omega)
        have HG := Lib.hid hg
        have HG2 := Lib.hid hg2
        unfold maxLen at hc' hc2'
        have hb_ : b < w.heap.size + 2 := by omega
        have hb2_ : b2 < w.heap.size + 2 := by omega
        clear hbd hg hbd2 hg2
        by_cases hrl : (nthRow f k).length = (nthRow g k).length
        · have hr1 : (nthRow f k).length ≤ (nthRow g k).length := by omega
          have hr2 : (nthRow g k).length ≤ (nthRow f k).length := by omega
          have eR : (((nthRow f k).length : Int) == ((nthRow g k).length : Int)) = true := by simp; omega
          have eR' : (((nthRow f k).length : Int) != ((nthRow g k).length : Int)) = false := by simp; omega
          have HR := Lib.hid hrl
          clear hrl
          go_wp2
          go_quiet (fail)
          go_wp2
          go_loopw [6] (fun i wr2 => ∃ m : Nat, m ≤ (nthRow f k).length ∧ Hid (∀ j, j < m → nth (nthRow f k) j = nth (nthRow g k) j) ∧ i = .int .i64 m ∧ Below (w.heap.size + 2) W1 wr2) (fun i _ => (nthRow f k).length - (intOf i).toNat)
          case atStart => exact ⟨0, Nat.zero_le _, fun j hj => absurd hj (by omega), rfl, below_drewN hbw _⟩
          case round =>
            clear hk1 hk2 hbw
            obtain ⟨m, hm, HM, rfl, hbw⟩ := hrel
            obtain ⟨hk1, hk2⟩ := bcell hbw
            by_cases hlm : m < (nthRow f k).length
            · obtain ⟨b', o', rfl, hb', hgg⟩ := HG.out (by omega)
              obtain ⟨b2', o2', rfl, hb2', hgg2⟩ := HG2.out (by omega)
              have hx := hgg m hlm
              have hx2 := hgg2 m (by omega)
              have hb'_ : b' < w.heap.size + 2 := by omega
              have hb2'_ : b2' < w.heap.size + 2 := by omega
              have hlm2 : m < (nthRow g k).length := by omega
              clear hgg hgg2
              by_cases hne : nth (nthRow f k) m = nth (nthRow g k) m
              · have H := Lib.hid (Fz.below_succ HM.out hne)
                have eN : ((nth (nthRow f k) m : Int) != (nth (nthRow g k) m : Int)) = false := by simp; omega
                clear hne
                go_wp2
                go_quiet (fail)
                go_wp2
                go_roundw
                case rel => exact ⟨m + 1, by omega, H.out, by go_num, below_drewN hbw _⟩
                case measure => simp [intOf]; omega
              · have H := Lib.hid (Fz.same_cell hne)
                have eN : ((nth (nthRow f k) m : Int) != (nth (nthRow g k) m : Int)) = true := by simp; omega
                clear hne
                go_wp2
                go_quiet (fail)
                go_wp2
                go_ret
                exact ⟨ret_bool H.out.symm, hB1.trans ((below_drewN hbw _).mono (by omega))⟩
            · have H := Lib.hid (Fz.below_succ HJ.out (Fz.row_ext HR.out (fun j hj => HM.out j (by omega))))
              go_wp2
              go_roundw
              case rel => exact ⟨k + 1, by omega, H.out, by go_num, hbw⟩
              case measure => simp [intOf]; omega
        · have H := Lib.hid (Fz.same_row hrl)
          have eR : (((nthRow f k).length : Int) == ((nthRow g k).length : Int)) = false := by simp; omega
          have eR' : (((nthRow f k).length : Int) != ((nthRow g k).length : Int)) = true := by simp; omega
          clear hrl
          go_wp2
          go_quiet (fail)
          go_wp2
          go_ret
          exact ⟨ret_bool H.out.symm, hB1.trans ((below_drewN hbw _).mono (by omega))⟩
      · have H := Lib.hid (Fz.same_all HL.out (fun j hj => HJ.out j (by omega)))
        go_wp2
        go_ret
        exact ⟨ret_bool H.out.symm, hB1.trans (hbw.mono (by omega))⟩
  · have H := Lib.hid (Fz.same_len hl)
    have eL : ((f.length : Int) == (g.length : Int)) = false := by simp; omega
    have eL' : ((f.length : Int) != (g.length : Int)) = true := by simp; omega
    clear hl
    go_enter Try.func31, Try.ntmps31
    go_wp2
    go_ret
    exact ⟨ret_bool H.out.symm, ((Below.refl _ _).alloc (Nat.le_refl _) _).alloc (by simp) _⟩


def eqB (xs ys : List Nat) : Bool := decide (xs = ys)
theorem eqB_len {xs ys : List Nat} (h : xs.length ≠ ys.length) : eqB xs ys = false := by simp only [eqB, decide_eq_false_iff_not]; rintro rfl; exact h rfl
theorem eqB_cell {xs ys : List Nat} {k : Nat} (h : nth xs k ≠ nth ys k) : eqB xs ys = false := by simp only [eqB, decide_eq_false_iff_not]; rintro rfl; exact h rfl
theorem eqB_yes {xs ys : List Nat} (hl : xs.length = ys.length) (h : ∀ j, j < xs.length → nth xs j = nth ys j) : eqB xs ys = true := by simp only [eqB, decide_eq_true_eq]; exact Fz.row_ext hl h
theorem RBytes.form' {w : World} {B : Nat} {v : Value} {xs : List Nat} (h : RBytes w B v xs) : ∃ A c, v = .slice A xs.length c ∧ xs.length ≤ c ∧ c ≤ maxLen := by
  obtain ⟨A, c, h1, h2, h3, _⟩ := h
  exact ⟨A, c, h1, h2, h3⟩
theorem RBytes.at_ {w : World} {B n c : Nat} {A : Option Addr} {xs : List Nat} (h : RBytes w B (.slice A n c) xs) {k : Nat} (hk : k < xs.length) : ∃ b o, A = some ⟨b, o, none⟩ ∧ b < B ∧ w.cell? ⟨b, o + k, none⟩ = some (.int .u8 (nth xs k : Nat)) := by
  obtain ⟨A', c', h1, h2, h3, h4, h5⟩ := h
  cases h1
  obtain ⟨b, o, hA, hb, hc⟩ := h5 (by omega)
  exact ⟨b, o, hA, hb, hc k hk⟩

set_option maxRecDepth 100000 in
theorem equal8_any (v u : Value) (f g : List Nat) (w : World) (hf : RBytes w w.heap.size v f) (hg : RBytes w w.heap.size u g) :
    Calls Try.prog 34 #[v, u] w fun e w' => e = .returned (.bool (eqB f g)) ∧ Below w.heap.size w w' := by
  obtain ⟨A, c, rfl, hn, hc⟩ := hf.form'
  obtain ⟨A2, c2, rfl, hn2, hc2⟩ := hg.form'
  unfold maxLen at hc hc2
  by_cases hl : f.length = g.length
  · have HL := Lib.hid hl
    have eL : ((f.length : Int) == (g.length : Int)) = true := by simp; omega
    have eL' : ((f.length : Int) != (g.length : Int)) = false := by simp; omega
    have hl1 : f.length ≤ g.length := by omega
    clear hl
    go_enter Try.func34, Try.ntmps34
    go_wp2
    go_loopw [13] (fun i wr => ∃ k : Nat, k ≤ f.length ∧ Hid (∀ j, j < k → nth f j = nth g j) ∧ i = .int .i64 k ∧ Below w.heap.size w wr) (fun i _ => f.length - (intOf i).toNat)
    case atStart => exact ⟨0, Nat.zero_le _, fun j hj => absurd hj (by omega), rfl, Below.refl _ _⟩
    case round =>
      obtain ⟨k, hk, HJ, rfl, hbw⟩ := hrel
      obtain ⟨hk1, hk2⟩ := bcell hbw
      by_cases hlt : k < f.length
      · obtain ⟨b, o, rfl, hb, hcell⟩ := hf.at_ hlt
        obtain ⟨b2, o2, rfl, hb2, hcell2⟩ := hg.at_ (show k < g.length by omega)
        by_cases hne : nth f k = nth g k
        · have H := Lib.hid (Fm.Fl.upto_succ (p := fun j => nth f j = nth g j) HJ.out hne)
          have eN : ((nth f k : Int) != (nth g k : Int)) = false := by simp; omega
          clear hne
          go_wp2
          go_quiet (fail)
          go_wp2
          go_roundw
          case rel => exact ⟨k + 1, by omega, H.out, by go_num, below_drewN hbw _⟩
          case measure => simp [intOf]; omega
        · have H := Lib.hid (eqB_cell hne)
          have eN : ((nth f k : Int) != (nth g k : Int)) = true := by simp; omega
          clear hne
          go_wp2
          go_quiet (fail)
          go_wp2
          go_ret
          exact ⟨ret_bool H.out.symm, below_drewN hbw _⟩
      · have H := Lib.hid (eqB_yes HL.out (fun j hj => HJ.out j (by omega)))
        go_wp2
        go_ret
        exact ⟨ret_bool H.out.symm, hbw⟩
  · have H := Lib.hid (eqB_len hl)
    have eL : ((f.length : Int) == (g.length : Int)) = false := by simp; omega
    have eL' : ((f.length : Int) != (g.length : Int)) = true := by simp; omega
    clear hl
    go_enter Try.func34, Try.ntmps34
    go_wp2
    go_ret
    exact ⟨ret_bool H.out.symm, Below.refl _ _⟩

theorem RRows.rowAt {w : World} {B n c : Nat} {A : Option Addr} {f : List (List Nat)} (h : RRows w B (.slice A n c) f) {k : Nat} (hk : k < f.length) :
    ∃ b o v, A = some ⟨b, o, none⟩ ∧ b < B ∧ w.cell? ⟨b, o + k, none⟩ = some v ∧ RBytes w B v (nthRow f k) := by
  obtain ⟨A0, c0, vs, h1, h2, h3, h4, h5⟩ := h
  cases h1
  obtain ⟨b, o, hA, hlt, hc⟩ := h4 (by omega)
  exact ⟨b, o, vs k, hA, hlt, hc k hk, h5 k hk⟩
theorem Fz.same_rowne {f g : List (List Nat)} {k : Nat} (h : eqB (nthRow f k) (nthRow g k) = false) : Fz.same f g = false := by
  simp only [Fz.same, decide_eq_false_iff_not]; rintro rfl; simp [eqB] at h

set_option maxRecDepth 100000 in
theorem equalFunc_any (v u : Value) (f g : List (List Nat)) (w : World) (hf : RRows w w.heap.size v f) (hg : RRows w w.heap.size u g) :
    Calls Try.prog 33 #[v, u, .func (.func 34) #[] #[]] w fun e w' => e = .returned (.bool (Fz.same f g)) ∧ Below w.heap.size w w' := by
  have hf' := hf
  have hg' := hg
  obtain ⟨A, c, vs, rfl, hn, hc, -, -⟩ := hf
  obtain ⟨A2, c2, vs2, rfl, hn2, hc2, -, -⟩ := hg
  unfold maxLen at hc hc2
  by_cases hl : f.length = g.length
  · have HL := Lib.hid hl
    have eL : ((f.length : Int) == (g.length : Int)) = true := by simp; omega
    have eL' : ((f.length : Int) != (g.length : Int)) = false := by simp; omega
    have hl1 : f.length ≤ g.length := by omega
    clear hl
    go_enter Try.func33, Try.ntmps33
    go_wp2
    go_loopw [17] (fun i wr => ∃ k : Nat, k ≤ f.length ∧ Hid (∀ j, j < k → nthRow f j = nthRow g j) ∧ i = .int .i64 k ∧ Below w.heap.size w wr) (fun i _ => f.length - (intOf i).toNat)
    case atStart => exact ⟨0, Nat.zero_le _, fun j hj => absurd hj (by omega), rfl, Below.refl _ _⟩
    case round =>
      obtain ⟨k, hk, HJ, rfl, hbw⟩ := hrel
      by_cases hlt : k < f.length
      · obtain ⟨b, o, x, rfl, hb, hcell, hr⟩ := hf'.rowAt hlt
        obtain ⟨b2, o2, y, rfl, hb2, hcell2, hr2⟩ := hg'.rowAt (show k < g.length by omega)
        have q1 := (hbw.cell (p := ⟨b, o + k, none⟩) hb).trans hcell
        have q2 := (hbw.cell (p := ⟨b2, o2 + k, none⟩) hb2).trans hcell2
        have R1 := (hr.below hbw).more hbw.size
        have R2 := (hr2.below hbw).more hbw.size
        obtain ⟨A', c', rfl, -, -⟩ := hr.form'
        obtain ⟨A2', c2', rfl, -, -⟩ := hr2.form'
        clear hcell hcell2 hr hr2
        cases hne : eqB (nthRow f k) (nthRow g k)
        · have H := Lib.hid (Fz.same_rowne hne)
          have HE := Lib.hid hne
          clear hne
          go_wp2_with (go_at_call 34; (with_reducible refine (equal8_any _ _ _ _ _ R1 R2).mono ?_); rintro e w6 ⟨rfl, hb6⟩; rw [HE.out]; have hbw := hbw.trans (hb6.mono hbw.size))
          go_ret
          exact ⟨ret_bool H.out.symm, hbw⟩
        · have H := Lib.hid (Fm.Fl.upto_succ (p := fun j => nthRow f j = nthRow g j) HJ.out (of_decide_eq_true hne))
          have HE := Lib.hid hne
          clear hne
          go_wp2_with (go_at_call 34; (with_reducible refine (equal8_any _ _ _ _ _ R1 R2).mono ?_); rintro e w6 ⟨rfl, hb6⟩; rw [HE.out]; have hbw := hbw.trans (hb6.mono hbw.size))
          go_roundw
          case rel => exact ⟨k + 1, by omega, H.out, by go_num, hbw⟩
          case measure => simp [intOf]; omega
      · have H := Lib.hid (Fz.same_all HL.out (fun j hj => HJ.out j (by omega)))
        go_wp2
        go_ret
        exact ⟨ret_bool H.out.symm, hbw⟩
  · have H := Lib.hid (Fz.same_len hl)
    have eL : ((f.length : Int) == (g.length : Int)) = false := by simp; omega
    have eL' : ((f.length : Int) != (g.length : Int)) = true := by simp; omega
    clear hl
    go_enter Try.func33, Try.ntmps33
    go_wp2
    go_ret
    exact ⟨ret_bool H.out.symm, Below.refl _ _⟩

end Go.Proofs.Ytncgechmloekbaa
