/- Fuses: the laws' sanity. -/
import Derived.Test.YtnahokblbpppeaaFzT
namespace Go.Proofs.Ytnahokblbpppeaa
open Go.RowKit

/-- A variable of type Fuses: its block, and what it reads as. -/
structure VarAt (W : World) (p : Nat) (v : Value) (f : List (List Nat)) : Prop where
  blk : W.heap[p]? = some (.cells #[v] 24 (0, 0))
  rows : RRows W W.heap.size v f
theorem VarAt.below {W W' : World} {p : Nat} {v : Value} {f : List (List Nat)} (h : VarAt W p v f) (hb : Below W.heap.size W W') : VarAt W' p v f :=
  ⟨(hb.block p (lt_of_block h.blk)).trans h.blk, (h.rows.below hb).more hb.size⟩
theorem VarAt.new {W : World} {v : Value} {f : List (List Nat)} (h : RRows W W.heap.size v f) : VarAt (W.alloc (.cells #[v] 24)) W.heap.size v f :=
  ⟨heap_alloc_new _ _, (h.below (Below.new _)).more (by simp)⟩
theorem VarAt.cell {W : World} {p : Nat} {v : Value} {f : List (List Nat)} (h : VarAt W p v f) : W.cell? ⟨p, 0, none⟩ = some v := cell_of_one h.blk

namespace Fz
def F0 : List (List Nat) := newF [2, 0]
def hitsA : List Hit := [⟨0, 0, false⟩, ⟨0, 1, true⟩, ⟨0, 1, true⟩]
def hitsB : List Hit := [⟨0, 2, false⟩]
def G0 : List (List Nat) := hits F0 hitsA
def H0 : List (List Nat) := hits G0 hitsB
theorem newE20 : newE [2, 0] = 0 := by decide
theorem newE17 : newE [17] = 1 := by decide
theorem s1 : width F0 0 = 2 := by decide
theorem s2 : width F0 2 = -1 := by decide
theorem s3 : level F0 0 false = 0 := by decide
theorem s4 : level F0 0 true = 0 := by decide
theorem s5 : level G0 0 false = 0 := by decide
theorem s6 : level G0 0 true = 1 := by decide
theorem s7 : level H0 0 false = 1 := by decide
theorem r1 : readV G0 0 1 true = 1 := by decide
theorem r2 : readE G0 0 1 = 0 := by decide
theorem r3 : readV G0 0 1 false = 0 := by decide
theorem r4 : readE G0 1 0 = 1 := by decide
theorem v1 : valid H0 = true := by decide
theorem v2 : sound H0 = true := by decide
theorem v3 : sound [[3, 3, 0]] = false := by decide
theorem v4 : valid [[4, 0, 0]] = false := by decide
theorem smallF0 : small F0 := ⟨by decide, by decide⟩
theorem smallG0 : small G0 := small_hits smallF0 _
theorem thirdsH0 : Hid (∀ i, i < H0.length → (nthRow H0 i).length % 3 = 0 ∧ (nthRow H0 i).length ≤ 1000) := by unfold Hid; decide
theorem thirds330 : Hid (∀ i, i < [[3, 3, 0]].length → (nthRow [[3, 3, 0]] i).length % 3 = 0 ∧ (nthRow [[3, 3, 0]] i).length ≤ 1000) := by unfold Hid; decide
end Fz

theorem heap_two (w : World) (o1 o2 : Obj) : ((w.alloc o1).alloc o2).heap[w.heap.size + 1]? = some o2 := by
  have h := heap_alloc_new (w.alloc o1) o2
  rwa [World.size_alloc] at h

/-- a literal slice of ints in a block of its own -/
theorem ints_lit {W : World} {g : Nat} {cs : Array Value} {t : TypeId} {fr : Nat × Nat} {xs : List Int} (h : W.heap[g]? = some (.cells cs t fr)) (hx : xs.length ≤ 1000) (hc : cs = (xs.map fun x => Value.int .i64 x).toArray) :
    RInts W W.heap.size (.slice (some ⟨g, 0, none⟩) xs.length xs.length) xs :=
  ⟨_, _, rfl, Nat.le_refl _, by unfold maxLen; omega, fun _ => ⟨g, 0, rfl, lt_of_block h, fun i hi => by rw [Nat.zero_add, cell_of_row W g i _ _ _ h, hc]; simp [nthI, hi]⟩⟩
theorem bytes_lit {W : World} {g : Nat} {cs : Array Value} {t : TypeId} {fr : Nat × Nat} {xs : List Nat} (h : W.heap[g]? = some (.cells cs t fr)) (hx : xs.length ≤ 1000) (h256 : ∀ x ∈ xs, x < 256) (hc : cs = (xs.map fun x => Value.int .u8 (x : Nat)).toArray) :
    RBytes W W.heap.size (.slice (some ⟨g, 0, none⟩) xs.length xs.length) xs :=
  ⟨_, _, rfl, Nat.le_refl _, by unfold maxLen; omega, h256, fun _ => ⟨g, 0, rfl, lt_of_block h, fun i hi => by rw [Nat.zero_add, cell_of_row W g i _ _ _ h, hc]; simp [nth, hi]⟩⟩
theorem rows_lit1 {W : World} {g : Nat} {v : Value} {t : TypeId} {fr : Nat × Nat} {xs : List Nat} (h : W.heap[g]? = some (.cells #[v] t fr)) (hb : RBytes W W.heap.size v xs) :
    RRows W W.heap.size (.slice (some ⟨g, 0, none⟩) 1 1) [xs] := by
  refine ⟨_, _, fun _ => v, rfl, by simp, by simp [maxLen], fun _ => ⟨g, 0, rfl, lt_of_block h, fun i hi => ?_⟩, fun i hi => ?_⟩
  · have : i = 0 := by simpa using hi
    subst this
    rw [cell_of_row W g _ _ _ _ h]; rfl
  · have : i = 0 := by simpa using hi
    subst this
    exact hb

def hitCells (l : List Fz.Hit) : List Value := l.flatMap fun x => [.int .i64 x.bank, .int .i64 x.cell, .bool x.cut]
theorem hitCells_at (l : List Fz.Hit) (i : Nat) (hi : i < l.length) : (hitCells l)[i * 3]? = some (.int .i64 (Fz.nthH l i).bank) ∧ (hitCells l)[i * 3 + 1]? = some (.int .i64 (Fz.nthH l i).cell) ∧ (hitCells l)[i * 3 + 2]? = some (.bool (Fz.nthH l i).cut) := by
  induction l generalizing i with
  | nil => simp at hi
  | cons x l ih =>
    cases i with
    | zero => simp [hitCells, Fz.nthH]
    | succ i =>
      have hi' : i < l.length := by simpa using hi
      obtain ⟨h1, h2, h3⟩ := ih i hi'
      have e : hitCells (x :: l) = [.int .i64 x.bank, .int .i64 x.cell, .bool x.cut] ++ hitCells l := by simp [hitCells]
      rw [e]
      refine ⟨?_, ?_, ?_⟩
      · rw [List.getElem?_append_right (by simp; omega), show (i + 1) * 3 - [Value.int .i64 x.bank, .int .i64 x.cell, .bool x.cut].length = i * 3 by simp; omega, h1]; simp [Fz.nthH]
      · rw [List.getElem?_append_right (by simp; omega), show (i + 1) * 3 + 1 - [Value.int .i64 x.bank, .int .i64 x.cell, .bool x.cut].length = i * 3 + 1 by simp; omega, h2]; simp [Fz.nthH]
      · rw [List.getElem?_append_right (by simp; omega), show (i + 1) * 3 + 2 - [Value.int .i64 x.bank, .int .i64 x.cell, .bool x.cut].length = i * 3 + 2 by simp; omega, h3]; simp [Fz.nthH]
theorem hits_lit {W : World} {g : Nat} {cs : Array Value} {t : TypeId} {fr : Nat × Nat} {l : List Fz.Hit} (h : W.heap[g]? = some (.cells cs t fr)) (hx : l.length ≤ 1000) (hc : cs = (hitCells l).toArray) :
    RHits W W.heap.size (.slice (some ⟨g, 0, none⟩) l.length l.length) l :=
  ⟨_, _, rfl, Nat.le_refl _, by unfold maxLen; omega, fun _ => ⟨g, 0, rfl, lt_of_block h, fun i hi => by
    obtain ⟨h1, h2, h3⟩ := hitCells_at l i hi
    refine ⟨?_, ?_, ?_⟩
    · rw [Nat.zero_add, cell_of_row W g _ _ _ _ h, hc]; simpa using h1
    · rw [Nat.zero_add, cell_of_row W g _ _ _ _ h, hc]; simpa using h2
    · rw [Nat.zero_add, cell_of_row W g _ _ _ _ h, hc]; simpa using h3⟩⟩

set_option maxRecDepth 100000 in
set_option maxHeartbeats 4000000 in
theorem sanity_any (w : World) : Calls Try.prog 10 #[] w fun e w' => e = .returned (.bool true) ∧ Below w.heap.size w w' := by
  go_enter Try.func10, Try.ntmps10
  have E1 := Fz.s1
  have E2 := Fz.s2
  have E3 := Fz.s3
  have E4 := Fz.s4
  have E5 := Fz.s5
  have E6 := Fz.s6
  have E7 := Fz.s7
  have E8 := Fz.r1
  have E9 := Fz.r2
  have E10 := Fz.r3
  have E11 := Fz.r4
  have E12 := Fz.v1
  have E13 := Fz.v2
  have E14 := Fz.v3
  have E15 := Fz.v4
  go_wp2_with fail
  refine (new_any _ [2, 0] _ (ints_lit (xs := [2, 0]) (heap_alloc_new _ _) (by decide) rfl)).mono ?_
  rintro e w1 ⟨vf, rfl, hf, hb1⟩
  rw [Fz.newE20]
  have hf : RRows w1 w1.heap.size vf Fz.F0 := hf
  obtain ⟨A1, c1, rfl⟩ := rows_form hf
  have VF := VarAt.new hf
  have HB : Below w.heap.size w (w1.alloc (.cells #[.slice A1 Fz.F0.length c1] 24)) := ((Below.new _).trans (hb1.mono (by simp))).alloc (by have := hb1.size; simp at this; omega) _
  clear hb1 hf
  go_wp2_with fail
  refine (new_any _ [17] _ (ints_lit (xs := [17]) (heap_two _ _ _) (by decide) rfl)).mono ?_
  rintro e w2 ⟨vn, rfl, hn, hb2⟩
  rw [Fz.newE17]
  obtain ⟨A2, c2, rfl⟩ := rows_form hn
  have hb2 := (Below.new _).trans (hb2.mono (by simp))
  have VF := (VF.below hb2).below (Below.new (.cells #[.slice A2 (Fz.newF [17]).length c2] 24))
  have HB := (HB.trans (hb2.mono HB.size)).alloc (HB.trans (hb2.mono HB.size)).size (.cells #[.slice A2 (Fz.newF [17]).length c2] 24)
  have cF := VF.cell
  clear hb2 hn
  go_wp2_with fail
  refine (hits_any _ _ Fz.F0 Fz.hitsA _ ((VF.below (Below.new _)).rows) Fz.smallF0 (hits_lit (l := Fz.hitsA) (heap_two _ _ _) (by decide) rfl)).mono ?_
  rintro e w3 ⟨vg, rfl, hg, hb3⟩
  have hg : RRows w3 w3.heap.size vg Fz.G0 := hg
  obtain ⟨A3, c3, rfl⟩ := rows_form hg
  have hb3 := (Below.new _).trans (hb3.mono (by simp))
  have VF := (VF.below hb3).below (Below.new (.cells #[.slice A3 Fz.G0.length c3] 24))
  have VG := VarAt.new hg
  have HB := (HB.trans (hb3.mono HB.size)).alloc (HB.trans (hb3.mono HB.size)).size (.cells #[.slice A3 Fz.G0.length c3] 24)
  have cG := VG.cell
  clear hb3 hg cF
  go_wp2_with fail
  refine (hits_any _ _ Fz.G0 Fz.hitsB _ ((VG.below (Below.new _)).rows) Fz.smallG0 (hits_lit (l := Fz.hitsB) (heap_two _ _ _) (by decide) rfl)).mono ?_
  rintro e w4 ⟨vh, rfl, hh, hb4⟩
  have hh : RRows w4 w4.heap.size vh Fz.H0 := hh
  obtain ⟨A4, c4, rfl⟩ := rows_form hh
  have hb4 := (Below.new _).trans (hb4.mono (by simp))
  have VF := (VF.below hb4).below (Below.new (.cells #[.slice A4 Fz.H0.length c4] 24))
  have VG := (VG.below hb4).below (Below.new (.cells #[.slice A4 Fz.H0.length c4] 24))
  have VH := VarAt.new hh
  have HB := (HB.trans (hb4.mono HB.size)).alloc (HB.trans (hb4.mono HB.size)).size (.cells #[.slice A4 Fz.H0.length c4] 24)
  have cG := VG.cell
  have cF := VF.cell
  have cH := VH.cell
  clear hb4 hh
  go_wp2_with (first
    | (go_at_call 13; with_reducible refine (read_any _ Fz.G0 _ _ _ _ VG.rows).mono ?_; rintro e w6 ⟨rfl, hb6⟩; have VF := VF.below hb6; have VG := VG.below hb6; have VH := VH.below hb6; have HB := HB.trans (hb6.mono HB.size); have cF := VF.cell; have cG := VG.cell; have cH := VH.cell; clear hb6)
    | (go_at_call 18; with_reducible refine (width_any _ Fz.F0 _ _ VF.rows).mono ?_; rintro e w6 ⟨rfl, hb6⟩; have VF := VF.below hb6; have VG := VG.below hb6; have VH := VH.below hb6; have HB := HB.trans (hb6.mono HB.size); have cF := VF.cell; have cG := VG.cell; have cH := VH.cell; clear hb6)
    | (go_at_call 20; (first | with_reducible refine (least_any _ Fz.F0 _ _ VF.rows).mono ?_ | with_reducible refine (least_any _ Fz.G0 _ _ VG.rows).mono ?_ | with_reducible refine (least_any _ Fz.H0 _ _ VH.rows).mono ?_); rintro e w6 ⟨rfl, hb6⟩; have VF := VF.below hb6; have VG := VG.below hb6; have VH := VH.below hb6; have HB := HB.trans (hb6.mono HB.size); have cF := VF.cell; have cG := VG.cell; have cH := VH.cell; clear hb6)
    | (go_at_call 22; (first | with_reducible refine (most_any _ Fz.F0 _ _ VF.rows).mono ?_ | with_reducible refine (most_any _ Fz.G0 _ _ VG.rows).mono ?_); rintro e w6 ⟨rfl, hb6⟩; have VF := VF.below hb6; have VG := VG.below hb6; have VH := VH.below hb6; have HB := HB.trans (hb6.mono HB.size); have cF := VF.cell; have cG := VG.cell; have cH := VH.cell; clear hb6))
  refine (valid_any _ Fz.H0 _ VH.rows).mono ?_
  rintro e w7 ⟨rfl, hb7⟩
  rw [Fz.v1]
  have VH := VH.below hb7
  have HB := HB.trans (hb7.mono HB.size)
  have cH := VH.cell
  clear hb7 VF VG cF cG
  go_wp2_with fail
  refine (sound_any _ Fz.H0 _ VH.rows Fz.thirdsH0).mono ?_
  rintro e w8 ⟨rfl, hb8⟩
  rw [Fz.v2]
  have HB := HB.trans (hb8.mono HB.size)
  clear hb8 VH cH
  go_wp2_with fail
  refine (sound_any _ [[3, 3, 0]] _ (rows_lit1 (heap_two _ _ _) (((bytes_lit (xs := [3, 3, 0]) (heap_alloc_new _ _) (by decide) (by decide) rfl).below (Below.new _)).more (by simp))) Fz.thirds330).mono ?_
  rintro e w9 ⟨rfl, hb9⟩
  rw [Fz.v3]
  have HB := (HB.trans (((Below.refl _ _).alloc (Nat.le_refl _) _).mono HB.size)).alloc (by have := HB.size; simp; omega) _ |>.trans (hb9.mono (by have := HB.size; simp; omega))
  clear hb9
  go_wp2_with fail
  refine (valid_any _ [[4, 0, 0]] _ (rows_lit1 (heap_two _ _ _) (((bytes_lit (xs := [4, 0, 0]) (heap_alloc_new _ _) (by decide) (by decide) rfl).below (Below.new _)).more (by simp)))).mono ?_
  rintro e w10 ⟨rfl, hb10⟩
  rw [Fz.v4]
  have HB := (HB.trans (((Below.refl _ _).alloc (Nat.le_refl _) _).mono HB.size)).alloc (by have := HB.size; simp; omega) _ |>.trans (hb10.mono (by have := HB.size; simp; omega))
  clear hb10
  go_wp2
  go_ret
  exact ⟨rfl, HB⟩

end Go.Proofs.Ytnahokblbpppeaa
