/- Fuses: Pulse of package fuse. -/
import Derived.Test.YtncgechmloekbaaFzN
import Derived.Deep.RegionWith
namespace Go.Proofs.Ytncgechmloekbaa
open Go.RowKit

namespace Fz
def next (c : Nat) (cut : Bool) : Nat := if c = 2 ∨ c = 3 then c else if cut then 1 else 2
def pulse (f : List (List Nat)) (bank cell : Int) (cut : Bool) : List (List Nat) :=
  if ex f bank cell then f.set bank.toNat ((row f bank).set cell.toNat (next (cellOf f bank cell) cut)) else f
def small (f : List (List Nat)) : Prop := f.length ≤ 1000 ∧ ∀ i, i < f.length → (nthRow f i).length ≤ 1000
theorem pulse_no {f : List (List Nat)} {bank cell : Int} (cut : Bool) (h : ex f bank cell = false) : pulse f bank cell cut = f := by simp [pulse, h]
theorem pulse_yes {f : List (List Nat)} {i j : Nat} {cut : Bool} {x : Nat} (h : ex f i j = true) (hx : next (nth (nthRow f i) j) cut = x) : pulse f i j cut = f.set i ((nthRow f i).set j x) := by
  have : cellOf f i j = nth (nthRow f i) j := rfl
  simp [pulse, h, row, this, hx]
end Fz

theorem ret_pulse {v : Value} {a b : Int} (h : a = b) : Ending.returned (.tuple #[.agg #[v], .int .i64 a]) = .returned (.tuple #[.agg #[v], .int .i64 b]) := by rw [h]

set_option maxRecDepth 100000 in
theorem pulse_no (v : Value) (f : List (List Nat)) (bank cell : Int) (cut : Bool) (w : World) (ok : Nat → Prop) (hok : ∀ b, ok b → b < w.heap.size) (hK : RRowsK w ok v f) (hx : Fz.ex f bank cell = false) :
    Calls Try.prog 42 #[.agg #[v], .int .i64 bank, .int .i64 cell, .bool cut] w fun e w' =>
      ∃ v', e = .returned (.tuple #[.agg #[v'], .int .i64 (Fz.readE f bank cell)]) ∧ RRowsK w' (fun b => ok b ∨ w.heap.size ≤ b) v' (Fz.pulse f bank cell cut) ∧ Below w.heap.size w w' := by
  have hf := hK.plain
  have hf' := hf
  have HK := Lib.hid hK
  have HOK := Lib.hid hok
  clear hK hok
  obtain ⟨A, c, vs, rfl, hn, hc, -, -⟩ := hf
  unfold maxLen at hc
  have H := Lib.hid hx
  clear hx
  have H2 := Lib.hid (show Fz.readE f bank cell = 1 by simp [Fz.readE, H.out])
  have hfA := ((hf'.below (Below.new (Obj.cells #[Value.slice A f.length c] 24))).below ((Below.new (Obj.cells #[Value.slice none 0 0] 24)).mono (by simp))).more (show w.heap.size ≤ w.heap.size + 2 by omega)
  go_enter Try.func42, Try.ntmps42
  go_wp2_with (go_at_call 55; with_reducible refine (exists_any _ f _ _ _ (by simpa using hfA)).mono ?_; rintro e w1 ⟨rfl, hb1⟩; rw [H.out]; obtain ⟨hk1, hk2⟩ := bcell hb1)
  have HB : Below w.heap.size w w1 := (((Below.refl _ _).alloc (Nat.le_refl _) _).alloc (by simp) _).trans (hb1.mono (by simp; omega))
  have hs1 : w.heap.size ≤ w1.heap.size := HB.size
  refine bodyPost_ret (v := .tuple #[.agg #[.slice A f.length c], .int .i64 1]) (by simp [results, Try.results42, go_sem, hk1]) rfl ⟨_, ret_pulse H2.out.symm, ?_, ?_⟩
  · rw [Fz.pulse_no _ H.out]
    exact HK.out.keep (fun b hb => (HB.setCell (p := ⟨w.heap.size + 1, 0, none⟩) (by simp) _).block b (HOK.out b hb)) (fun b hb => .inl hb)
  · exact HB.setCell (by simp) _

theorem u8s_range (xs : List Nat) : (List.range xs.length).map (fun t => Value.int .u8 (nth xs t : Nat)) = u8s xs := by
  refine List.ext_getElem (by simp [u8s]) fun i h1 h2 => ?_
  simp at h1
  simp [u8s, nth, h1]
theorem u8s_set (xs : List Nat) (j x : Nat) : (u8s xs).set j (.int .u8 (x : Nat)) = u8s (xs.set j x) := by
  simp [u8s, List.map_set]
theorem nthRow_set_eq {f : List (List Nat)} {i : Nat} (r : List Nat) (hi : i < f.length) : nthRow (f.set i r) i = r := by simp [nthRow, hi]
theorem nthRow_set_ne {f : List (List Nat)} {i k : Nat} (r : List Nat) (h : k ≠ i) : nthRow (f.set i r) k = nthRow f k := by
  simp only [nthRow, List.getD_eq_getElem?_getD]
  rw [List.getElem?_set_ne (Ne.symm h)]

theorem row_cell {w : World} {B b o n i : Nat} {vs : Nat → Value} {x : Value} (h : Cells w B (some ⟨b, o, none⟩) n vs) (hc : w.cell? ⟨b, o + i, none⟩ = some x) (hi : i < n) : vs i = x := by
  obtain ⟨b1, o1, e, _, hh⟩ := h (by omega)
  cases e
  have := hh i hi
  rw [hc] at this
  exact (Option.some.inj this).symm

theorem cells_of_row {w : World} {B n c : Nat} {A : Option Addr} {x : Value} {xs : List Nat} (h : x = .slice A n c) (hr : RBytes w B x xs) : Cells w B A xs.length (fun t => .int .u8 (nth xs t : Nat)) := by
  obtain ⟨A', c', e, _, _, _, hc⟩ := hr
  subst h
  cases e
  exact hc

theorem pulse_rows {w W3 W4 : World} {f : List (List Nat)} {vs : Nat → Value} {base g cap g2 cap2 i j x : Nat} {p : Addr} {y : Value} (hB3 : Below w.heap.size w W3)
    (ok : Nat → Prop) (hok : ∀ b, ok b → b < w.heap.size) (hrows : ∀ k, k < f.length → RBytesK w ok (vs k) (nthRow f k))
    (hown : W3.ownsRow base 56 1 (.slice (some ⟨g, 0, none⟩) f.length cap) f.length ((List.range f.length).map vs)) (hbase : w.heap.size + 2 ≤ base) (hB4 : Below W3.heap.size W3 W4)
    (hown2 : W4.ownsRow W3.heap.size 5 1 (.slice (some ⟨g2, 0, none⟩) (nthRow f i).length cap2) (nthRow f i).length ((List.range (nthRow f i).length).map fun t => .int .u8 (nth (nthRow f i) t : Nat)))
    (hi : i < f.length) (hx : x < 256) (hp : w.heap.size ≤ p.block) (hp2 : p.block < w.heap.size + 2) :
    RRowsK (((W4.setCell ⟨g, i, none⟩ (.slice (some ⟨g2, 0, none⟩) (nthRow f i).length cap2)).setCell ⟨g2, j, none⟩ (.int .u8 (x : Nat))).setCell p y) (fun b => ok b ∨ w.heap.size ≤ b)
        (.slice (some ⟨g, 0, none⟩) f.length cap) (f.set i ((nthRow f i).set j x)) ∧
      Below w.heap.size w (((W4.setCell ⟨g, i, none⟩ (.slice (some ⟨g2, 0, none⟩) (nthRow f i).length cap2)).setCell ⟨g2, j, none⟩ (.int .u8 (x : Nat))).setCell p y) := by
  have a1 := hown.lt g rfl
  have a2 := hown2.lt g2 rfl
  have hB5 : Below w.heap.size w (((W4.setCell ⟨g, i, none⟩ (.slice (some ⟨g2, 0, none⟩) (nthRow f i).length cap2)).setCell ⟨g2, j, none⟩ (.int .u8 (x : Nat))).setCell p y) :=
    (((hB3.trans (hB4.mono hB3.size)).setCell (p := ⟨g, i, none⟩) (by simp; omega) _).setCell (p := ⟨g2, j, none⟩) (by simp; omega) _).setCell (p := p) hp _
  refine ⟨?_, hB5⟩
  have o1 := ((own_below hown hB4).stored i (.slice (some ⟨g2, 0, none⟩) (nthRow f i).length cap2)).1
  have o2 := ownsRow_setCell_other (a := ⟨g2, j, none⟩) o1 (by simp [Value.ownBlock]; omega) (.int .u8 (x : Nat))
  have o3 := ownsRow_setCell_other (a := p) o2 (by simp [Value.ownBlock]; omega) y
  have q1 := ownsRow_setCell_other (a := ⟨g, i, none⟩) hown2 (by simp [Value.ownBlock]; omega) (.slice (some ⟨g2, 0, none⟩) (nthRow f i).length cap2)
  have q2 := (q1.stored j (.int .u8 (x : Nat))).1
  have q3 := ownsRow_setCell_other (a := p) q2 (by simp [Value.ownBlock]; omega) y
  rw [u8s_range, u8s_set] at q3
  have hri : RBytesK w ok (vs i) (nthRow f i) := hrows i hi
  have h256 : ∀ z ∈ (nthRow f i).set j x, z < 256 := by
    intro z hz
    rcases List.mem_or_eq_of_mem_set hz with h | h
    · obtain ⟨_, _, _, _, _, h5, _⟩ := hri
      exact h5 z h
    · subst h; exact hx
  refine rowsK_of_own o3 (by simp) (fun b hb => .inr (by omega)) ?_
  intro k u hu
  by_cases hk : k = i
  · subst hk
    rw [nthRow_set_eq _ hi]
    have : u = .slice (some ⟨g2, 0, none⟩) (nthRow f k).length cap2 := by
      rw [List.getElem?_set_self (by simpa using hi)] at hu
      exact (Option.some.inj hu).symm
    subst this
    exact bytesK_of_own q3 h256 (fun b hb => .inr (by have := hB3.size; omega))
  · rw [nthRow_set_ne _ hk]
    rw [List.getElem?_set_ne (Ne.symm hk)] at hu
    have hkl : k < f.length := by
      rcases Nat.lt_or_ge k f.length with h | h
      · exact h
      · rw [List.getElem?_eq_none (by simpa using h)] at hu; cases hu
    have : u = vs k := by simpa [hkl] using hu.symm
    subst this
    exact (hrows k hkl).keep (fun b hb => hB5.block b (hok b hb)) (fun b hb => .inl hb)

set_option maxHeartbeats 4000000 in
set_option maxRecDepth 100000 in
theorem pulse_yes (v : Value) (f : List (List Nat)) (bank cell : Int) (cut : Bool) (w : World) (ok : Nat → Prop) (hok : ∀ b, ok b → b < w.heap.size) (hK : RRowsK w ok v f) (hS : Fz.small f) (hx : Fz.ex f bank cell = true) :
    Calls Try.prog 42 #[.agg #[v], .int .i64 bank, .int .i64 cell, .bool cut] w fun e w' =>
      ∃ v', e = .returned (.tuple #[.agg #[v'], .int .i64 (Fz.readE f bank cell)]) ∧ RRowsK w' (fun b => ok b ∨ w.heap.size ≤ b) v' (Fz.pulse f bank cell cut) ∧ Below w.heap.size w w' := by
  have hf := hK.plain
  have hf' := hf
  have HK := Lib.hid hK
  have HOK := Lib.hid hok
  clear hK hok
  obtain ⟨A, c, vs, rfl, hn, hc, hcs, hrows⟩ := HK.out
  obtain ⟨hS1, hS2⟩ := hS
  have HRK := Lib.hid hrows
  have hcs := hcs.plain
  have hrows := fun k hk => (HRK.out k hk).plain
  unfold maxLen at hc
  obtain ⟨i, j, b, o, b', o', c', rfl, rfl, hi, hj, rfl, hb, hb', hc1, hl, hc', hc2, hlt, hcell⟩ := hf'.at_ hx
  have hS3 := hS2 i hi
  have HX := Lib.hid hx
  have HR := Lib.hid hrows
  have HCS := Lib.hid hcs
  have HO := Lib.hid (show ∀ k, k < f.length → (vs k).oneCell' = true by intro k hk; obtain ⟨A, c, hv, _⟩ := HR.out k hk; rw [hv]; rfl)
  have H2 := Lib.hid (show Fz.readE f i j = 0 by simp [Fz.readE, HX.out])
  have HV := Lib.hid (row_cell hcs hc1 hi)
  have HCI := Lib.hid (cells_of_row HV.out (hrows i hi))
  unfold maxLen at hc'
  clear hx hcell hS2 hrows hcs
  obtain ⟨W0, hW0⟩ : ∃ W0, W0 = (w.alloc (Obj.cells #[Value.slice (some ⟨b, o, none⟩) f.length c] 24)).alloc (Obj.cells #[Value.slice none 0 0] 24) := ⟨_, rfl⟩
  have hB0 : Below w.heap.size w W0 := by rw [hW0]; exact ((Below.refl _ _).alloc (Nat.le_refl _) _).alloc (by simp) _
  have z0 : W0.heap.size = w.heap.size + 2 := by rw [hW0]; simp
  have F0 := Lib.hid (show W0.heap[w.heap.size]? = some (.cells #[Value.slice (some ⟨b, o, none⟩) f.length c] 24 (0, 0)) by rw [hW0]; exact (Below.heap_alloc _ _ _ (by simp)).trans (heap_alloc_new w _))
  have R0 := Lib.hid (show W0.heap[w.heap.size + 1]? = some (.cells #[Value.slice none 0 0] 24 (0, 0)) by rw [hW0]; simpa using heap_alloc_new (w.alloc _) _)
  have Z0 := Lib.hid z0
  clear z0
  go_enter Try.func42, Try.ntmps42
  cases cut
  all_goals
    go_wp2_with fail
    rw [← hW0]
    clear hW0
    refine (exists_any _ f _ _ _ ((hf'.below hB0).more (hB0.size))).mono ?_
    rintro e w1 ⟨rfl, hb1⟩
    rw [HX.out]
    have hB1 : Below w.heap.size w w1 := hB0.trans (hb1.mono hB0.size)
    have F1 := Lib.hid ((hb1.block w.heap.size (by rw [Z0.out]; omega)).trans F0.out)
    have R1 := Lib.hid ((hb1.block (w.heap.size + 1) (by rw [Z0.out]; omega)).trans R0.out)
    have z1 : w.heap.size + 2 ≤ w1.heap.size := by have := hb1.size; rw [Z0.out] at this; exact this
    clear F0 R0 Z0 hb1
    have g1 := cell_of_one F1.out
    have g2 := (hB1.cell (p := ⟨b, o + i, none⟩) hb).trans hc1
    have g3 := (hB1.cell (p := ⟨b', o' + j, none⟩) hb').trans hc2
    have hcase : (((nth (nthRow f i) j : Int) == 2) = true ∧ Hid (∀ cut, Fz.next (nth (nthRow f i) j) cut = nth (nthRow f i) j)) ∨
        (((nth (nthRow f i) j : Int) == 2) = false ∧ ((nth (nthRow f i) j : Int) == 3) = true ∧ Hid (∀ cut, Fz.next (nth (nthRow f i) j) cut = nth (nthRow f i) j)) ∨
        (((nth (nthRow f i) j : Int) == 2) = false ∧ ((nth (nthRow f i) j : Int) == 3) = false ∧ Hid (∀ cut, Fz.next (nth (nthRow f i) j) cut = if cut then 1 else 2)) := by
      by_cases h2 : nth (nthRow f i) j = 2
      · exact .inl ⟨by simp; omega, fun cut => by simp [Fz.next, h2]⟩
      · by_cases h3 : nth (nthRow f i) j = 3
        · exact .inr (.inl ⟨by simp; omega, by simp; omega, fun cut => by simp [Fz.next, h3]⟩)
        · exact .inr (.inr ⟨by simp; omega, by simp; omega, fun cut => by simp [Fz.next, h2, h3]⟩)
    rcases hcase with ⟨e2, HN⟩ | ⟨e2, e3, HN⟩ | ⟨e2, e3, HN⟩
    all_goals
      go_wp2_with fail
      refine (cloneR_any _ _ _ vs w1 ((HCS.out.below hB1).more hB1.size) HO.out (by omega)).mono ?_
      rintro e w2 ⟨v1, rfl, hown, hb2⟩
      obtain ⟨g, cap, rfl, hg1, hg2⟩ := hown.form (by omega)
      have F2 := Lib.hid ((hb2.block w.heap.size (by omega)).trans F1.out)
      have R2 := Lib.hid ((hb2.block (w.heap.size + 1) (by omega)).trans R1.out)
      have f2 := cell_of_one F2.out
      have f2' := free_of_one F2.out
      go_wp2_with fail
      obtain ⟨W3, hW3⟩ : ∃ W3, W3 = w2.setCell ⟨w.heap.size, 0, none⟩ (Value.slice (some ⟨g, 0, none⟩) f.length cap) := ⟨_, rfl⟩
      have F3 := cell_of_one (one_setCell (u := Value.slice (some ⟨g, 0, none⟩) f.length cap) F2.out)
      have F3' := free_of_one (one_setCell (u := Value.slice (some ⟨g, 0, none⟩) f.length cap) F2.out)
      have R3 := Lib.hid ((Below.heap_setCell w2 ⟨w.heap.size, 0, none⟩ (Value.slice (some ⟨g, 0, none⟩) f.length cap) (w.heap.size + 1) (by simp)).trans R2.out)
      have hB3 := (hB1.trans (hb2.mono hB1.size)).setCell (p := ⟨w.heap.size, 0, none⟩) (Nat.le_refl _) (Value.slice (some ⟨g, 0, none⟩) f.length cap)
      have own3 := ownsRow_setCell_other (a := ⟨w.heap.size, 0, none⟩) hown (by simp [Value.ownBlock]; omega) (Value.slice (some ⟨g, 0, none⟩) f.length cap)
      rw [← hW3] at F3 F3' R3 hB3 own3 ⊢
      have z3 : g < W3.heap.size := (own3.lt g rfl).2
      clear hW3 hown hg2 F1 R1 F2 R2 f2 f2' g1 g2 g3
      have c3 : W3.cell? ⟨g, i, none⟩ = some (.slice (some ⟨b', o', none⟩) (nthRow f i).length c') := by
        rw [own3.cellAt i (by omega)]
        simp [hi, HV.out]
      have c3' : W3.frozen? ⟨g, i, none⟩ = false := own3.frozenAt i
      go_region_with ((go_at_call 57; refine (clone8_any _ _ _ (fun t => .int .u8 (nth (nthRow f i) t : Nat)) _ (by exact (HCI.out.below hB3).more hB3.size) (fun _ _ => rfl) hS3).mono ?_; rintro e w4 ⟨v2, rfl, own4, hb4⟩; obtain ⟨g2, cap2, rfl, hg3, hg4⟩ := own4.form (by omega); have F4 := (hb4.cell (p := ⟨w.heap.size, 0, none⟩) (by simp; omega)).trans F3; have hg3 : W3.heap.size ≤ g2 := hg3; have c4 := (hb4.cell (p := ⟨g, i, none⟩) z3).trans c3; have c4' := (hb4.frozen (p := ⟨g, i, none⟩) z3).trans c3'))
      all_goals
        clear F3 F3' c3 c3'
        have Fn1 : w.heap.size ≠ g := by omega
        have Fn2 : w.heap.size ≠ g2 := by omega
        have Fn3 : w.heap.size + 1 ≠ g := by omega
        have Fn4 : w.heap.size + 1 ≠ g2 := by omega
        have hgne : g ≠ g2 := by omega
        have c5 := (World.cell?_setCell_other w4 ⟨g, i, none⟩ ⟨g2, j, none⟩ (.slice (some ⟨g2, 0, none⟩) (nthRow f i).length cap2) (by simp)).trans (own4.cellAt j (by omega))
        have c5' := own4.frozenAt j
        have R4 := (hb4.cell (p := ⟨w.heap.size + 1, 0, none⟩) (by simp; omega)).trans (cell_of_one R3.out)
        have R4' := (hb4.frozen (p := ⟨w.heap.size + 1, 0, none⟩) (by simp; omega)).trans (free_of_one R3.out)
        have HD := Lib.hid (fun x y (hx : x < 256) => pulse_rows (x := x) (y := y) (p := ⟨w.heap.size + 1, 0, none⟩) (j := j) hB3 ok HOK.out HRK.out own3 (by omega) ⟨hb4.os, hb4.tape, hb4.output, hb4.size, hb4.block⟩ own4 hi hx (by simp) (by simp))
        have H3 := Lib.hid (fun (cut : Bool) (x : Nat) (hx : Fz.next (nth (nthRow f i) j) cut = x) => Fz.pulse_yes HX.out hx)
        go_wp2
        refine bodyPost_ret (v := .tuple #[.agg #[.slice (some ⟨g, 0, none⟩) f.length cap], .int .i64 0]) (by simp [results, Try.results42, go_sem, *]) rfl ⟨_, ret_pulse H2.out.symm, ?_, ?_⟩
        · rw [H3.out _ _ (HN.out _)]
          first | exact (HD.out _ _ hlt).1 | (simp only [Bool.false_eq_true, if_true, if_false]; exact (HD.out _ _ (by decide)).1)
        · first | exact (HD.out _ _ hlt).2 | exact (HD.out 1 _ (by decide)).2 | exact (HD.out 2 _ (by decide)).2

end Go.Proofs.Ytncgechmloekbaa
