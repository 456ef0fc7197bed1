/- Chapter 29, the walk: the evaluators; Eval of a policy. -/
import Derived.Test.YtdeccekeknlnoaaGreatDoorJPoTreeW
import Derived.Test.YtdeccekeknlnoaaGreatDoorJPoPl
import Derived.Deep.RegionHeld3
import Derived.Deep.QuietTactic
import Derived.BigQuiet
import Derived.Deep.MidRow
import Derived.OwnWalk
import Derived.Shelf.Abstract
import Derived.Deep.LoopGhost
import Derived.Outline
namespace Go.Proofs.YtdeccekeknlnoaaGreatDoor
open Go.RowKit
theorem ev_truth (b : Bool) (w : World) : Calls Tryz.prog 300 #[.bool b] w fun e w' => e = .returned (.int .i64 (Po.truth b)) ∧ w' = w := by
  cases b
  · go_enter Tryz.func300, Tryz.ntmps300
    go_wp2_with fail
    go_ret
    exact ⟨rfl, rfl⟩
  · go_enter Tryz.func300, Tryz.ntmps300
    go_wp2_with fail
    go_ret
    exact ⟨rfl, rfl⟩
theorem ev_not (a : Int) (h : -1 ≤ a ∧ a ≤ 1) (w : World) : Calls Tryz.prog 308 #[.int .i64 a] w fun e w' => e = .returned (.int .i64 (Po.neg a)) ∧ w' = w := by
  have h3 : a = -1 ∨ a = 0 ∨ a = 1 := by omega
  rcases h3 with rfl | rfl | rfl <;>
  · go_enter Tryz.func308, Tryz.ntmps308
    go_wp2_with fail
    go_ret
    exact ⟨rfl, rfl⟩
theorem ev_and (a b : Int) (h : -1 ≤ a ∧ a ≤ 1) (h2 : -1 ≤ b ∧ b ≤ 1) (w : World) : Calls Tryz.prog 310 #[.int .i64 a, .int .i64 b] w fun e w' => e = .returned (.int .i64 (Po.conj a b)) ∧ w' = w := by
  have h3 : a = -1 ∨ a = 0 ∨ a = 1 := by omega
  have h4 : b = -1 ∨ b = 0 ∨ b = 1 := by omega
  rcases h3 with rfl | rfl | rfl <;> rcases h4 with rfl | rfl | rfl <;>
  · go_enter Tryz.func310, Tryz.ntmps310
    go_wp2_with fail
    go_ret
    exact ⟨rfl, rfl⟩
/-- what a node's cells say -/
theorem nd_cells (x : Po.Nd) (u : Value) (hx : x.dg.length = 16) : (ndVals x u).toArray[0]? = some (.int .i64 x.k) ∧ (ndVals x u).toArray[1]? = some (.int .i64 x.n) ∧ (ndVals x u).toArray[2]? = some (.int .i64 x.m) ∧ (ndVals x u).toArray[3]? = some (.int .i64 x.side) ∧ (ndVals x u).toArray[20]? = some u ∧ ∀ j b, x.dg[j]? = some b → (ndVals x u).toArray[4 + j]? = some (.int .u8 (b : Nat)) := by
  refine ⟨rfl, rfl, rfl, rfl, ?_, fun j b hb => ?_⟩
  · simp only [ndVals, List.getElem?_toArray]
    rw [List.getElem?_append_right (by simp [hx])]
    simp [hx]
  · have hj : j < x.dg.length := (List.getElem?_eq_some_iff.1 hb).1
    simp only [ndVals, List.getElem?_toArray]
    rw [List.append_assoc, List.getElem?_append_right (by simp)]
    rw [List.getElem?_append_left (by simp; omega)]
    simp [hb]

set_option maxRecDepth 1000000 in
theorem ev_1 (x : Po.Nd) (u : Value) (hx : x.dg.length = 16) (fv fe : Int) (v1 v2 r : Value) (w : World) :
    Calls Tryz.prog 298 #[.agg (ndVals x u).toArray, .agg #[.int .i64 fv, .int .i64 fe, v1, v2], r] w fun e w' => e = .returned (.int .i64 (1)) ∧ Below w.heap.size w w' := by
  obtain ⟨c0, c1, c2, c3, c20, -⟩ := nd_cells x u hx
  obtain ⟨cs, hcs⟩ : ∃ cs, (ndVals x u).toArray = cs := ⟨_, rfl⟩
  rw [hcs] at c0 c1 c2 c3 c20 ⊢
  have HB : ∀ o1 o2, Below w.heap.size w ((w.alloc o1).alloc o2) := fun o1 o2 => ((Below.refl _ _).alloc (Nat.le_refl _) _).alloc (by simp) _
  clear hcs c0 c2 c3 c20
  go_enter Tryz.func298, Tryz.ntmps298
  go_wp2_with (go_at_call 300; refine (ev_truth _ _).mono ?_; rintro e w' ⟨rfl, hw⟩; subst hw)
  all_goals go_ret
  all_goals (refine ⟨?_, HB _ _⟩)
  all_goals first | rfl | (refine ret_int ?_; congr 1; simp [Bool.eq_iff_iff]) | (refine ret_int ?_; congr 1; rw [Bool.eq_iff_iff]; simp)

set_option maxRecDepth 1000000 in
theorem ev_2 (x : Po.Nd) (u : Value) (hx : x.dg.length = 16) (fv fe : Int) (v1 v2 r : Value) (w : World) :
    Calls Tryz.prog 299 #[.agg (ndVals x u).toArray, .agg #[.int .i64 fv, .int .i64 fe, v1, v2], r] w fun e w' => e = .returned (.int .i64 (Po.truth (decide (fv = x.n)))) ∧ Below w.heap.size w w' := by
  obtain ⟨c0, c1, c2, c3, c20, -⟩ := nd_cells x u hx
  obtain ⟨cs, hcs⟩ : ∃ cs, (ndVals x u).toArray = cs := ⟨_, rfl⟩
  rw [hcs] at c0 c1 c2 c3 c20 ⊢
  have HB : ∀ o1 o2, Below w.heap.size w ((w.alloc o1).alloc o2) := fun o1 o2 => ((Below.refl _ _).alloc (Nat.le_refl _) _).alloc (by simp) _
  clear hcs c0 c2 c3 c20
  go_enter Tryz.func299, Tryz.ntmps299
  go_wp2_with (go_at_call 300; refine (ev_truth _ _).mono ?_; rintro e w' ⟨rfl, hw⟩; subst hw)
  all_goals go_ret
  all_goals (refine ⟨?_, HB _ _⟩)
  all_goals first | rfl | (refine ret_int ?_; congr 1; simp [Bool.eq_iff_iff]) | (refine ret_int ?_; congr 1; rw [Bool.eq_iff_iff]; simp)

set_option maxRecDepth 1000000 in
theorem ev_3 (x : Po.Nd) (u : Value) (hx : x.dg.length = 16) (fv fe : Int) (v1 v2 r : Value) (w : World) :
    Calls Tryz.prog 301 #[.agg (ndVals x u).toArray, .agg #[.int .i64 fv, .int .i64 fe, v1, v2], r] w fun e w' => e = .returned (.int .i64 (Po.truth (decide ((x.n : Int) ≤ fv)))) ∧ Below w.heap.size w w' := by
  obtain ⟨c0, c1, c2, c3, c20, -⟩ := nd_cells x u hx
  obtain ⟨cs, hcs⟩ : ∃ cs, (ndVals x u).toArray = cs := ⟨_, rfl⟩
  rw [hcs] at c0 c1 c2 c3 c20 ⊢
  have HB : ∀ o1 o2, Below w.heap.size w ((w.alloc o1).alloc o2) := fun o1 o2 => ((Below.refl _ _).alloc (Nat.le_refl _) _).alloc (by simp) _
  clear hcs c0 c2 c3 c20
  go_enter Tryz.func301, Tryz.ntmps301
  go_wp2_with (go_at_call 300; refine (ev_truth _ _).mono ?_; rintro e w' ⟨rfl, hw⟩; subst hw)
  all_goals go_ret
  all_goals (refine ⟨?_, HB _ _⟩)
  all_goals first | rfl | (refine ret_int ?_; congr 1; simp [Bool.eq_iff_iff]) | (refine ret_int ?_; congr 1; rw [Bool.eq_iff_iff]; simp)

set_option maxRecDepth 1000000 in
theorem ev_4 (x : Po.Nd) (u : Value) (hx : x.dg.length = 16) (fv fe : Int) (v1 v2 r : Value) (w : World) :
    Calls Tryz.prog 302 #[.agg (ndVals x u).toArray, .agg #[.int .i64 fv, .int .i64 fe, v1, v2], r] w fun e w' => e = .returned (.int .i64 (Po.truth (decide (fe = x.n)))) ∧ Below w.heap.size w w' := by
  obtain ⟨c0, c1, c2, c3, c20, -⟩ := nd_cells x u hx
  obtain ⟨cs, hcs⟩ : ∃ cs, (ndVals x u).toArray = cs := ⟨_, rfl⟩
  rw [hcs] at c0 c1 c2 c3 c20 ⊢
  have HB : ∀ o1 o2, Below w.heap.size w ((w.alloc o1).alloc o2) := fun o1 o2 => ((Below.refl _ _).alloc (Nat.le_refl _) _).alloc (by simp) _
  clear hcs c0 c2 c3 c20
  go_enter Tryz.func302, Tryz.ntmps302
  go_wp2_with (go_at_call 300; refine (ev_truth _ _).mono ?_; rintro e w' ⟨rfl, hw⟩; subst hw)
  all_goals go_ret
  all_goals (refine ⟨?_, HB _ _⟩)
  all_goals first | rfl | (refine ret_int ?_; congr 1; simp [Bool.eq_iff_iff]) | (refine ret_int ?_; congr 1; rw [Bool.eq_iff_iff]; simp)

set_option maxRecDepth 1000000 in
theorem ev_5 (x : Po.Nd) (u : Value) (hx : x.dg.length = 16) (fv fe : Int) (v1 v2 r : Value) (w : World) :
    Calls Tryz.prog 303 #[.agg (ndVals x u).toArray, .agg #[.int .i64 fv, .int .i64 fe, v1, v2], r] w fun e w' => e = .returned (.int .i64 (Po.truth (decide ((x.n : Int) ≤ fe)))) ∧ Below w.heap.size w w' := by
  obtain ⟨c0, c1, c2, c3, c20, -⟩ := nd_cells x u hx
  obtain ⟨cs, hcs⟩ : ∃ cs, (ndVals x u).toArray = cs := ⟨_, rfl⟩
  rw [hcs] at c0 c1 c2 c3 c20 ⊢
  have HB : ∀ o1 o2, Below w.heap.size w ((w.alloc o1).alloc o2) := fun o1 o2 => ((Below.refl _ _).alloc (Nat.le_refl _) _).alloc (by simp) _
  clear hcs c0 c2 c3 c20
  go_enter Tryz.func303, Tryz.ntmps303
  go_wp2_with (go_at_call 300; refine (ev_truth _ _).mono ?_; rintro e w' ⟨rfl, hw⟩; subst hw)
  all_goals go_ret
  all_goals (refine ⟨?_, HB _ _⟩)
  all_goals first | rfl | (refine ret_int ?_; congr 1; simp [Bool.eq_iff_iff]) | (refine ret_int ?_; congr 1; rw [Bool.eq_iff_iff]; simp)
end Go.Proofs.YtdeccekeknlnoaaGreatDoor

namespace Go.Proofs.YtdeccekeknlnoaaGreatDoor
open Go.RowKit
theorem OfAt.one {w : World} {L B : Nat} {u : Value} {a : Nat} (h : OfAt w L B u [a]) : ∃ b cap, u = .slice (some ⟨b, 0, none⟩) 1 cap ∧ b < B ∧ w.cell? ⟨b, 0, none⟩ = some (.int .i64 a) := by
  rcases h with ⟨h, _⟩ | ⟨b, cap, h1, _, h2, _, _, h3⟩
  · cases h
  · exact ⟨b, cap, h1, h2, h3 0 a rfl⟩
theorem OfAt.two {w : World} {L B : Nat} {u : Value} {a c : Nat} (h : OfAt w L B u [a, c]) : ∃ b cap, u = .slice (some ⟨b, 0, none⟩) 2 cap ∧ b < B ∧ w.cell? ⟨b, 0, none⟩ = some (.int .i64 a) ∧ w.cell? ⟨b, 1, none⟩ = some (.int .i64 c) := by
  rcases h with ⟨h, _⟩ | ⟨b, cap, h1, _, h2, _, _, h3⟩
  · cases h
  · exact ⟨b, cap, h1, h2, h3 0 a rfl, h3 1 c rfl⟩
set_option maxRecDepth 1000000 in
theorem ev_8 (x : Po.Nd) (u : Value) (hx : x.dg.length = 16) (a n rb L : Nat) (v : Int) (hv : Po.Val v) (f0 f1 f2 f3 : Value) (w : World) (hof : OfAt w L w.heap.size u [a]) (ha : a < n) (hr : w.cell? ⟨rb, a, none⟩ = some (.int .i64 v)) :
    Calls Tryz.prog 307 #[.agg (ndVals x u).toArray, .agg #[f0, f1, f2, f3], .slice (some ⟨rb, 0, none⟩) n n] w fun e w' => e = .returned (.int .i64 (Po.neg v)) ∧ Below w.heap.size w w' := by
  obtain ⟨-, -, -, -, c20, -⟩ := nd_cells x u hx
  obtain ⟨cs, hcs⟩ : ∃ cs, (ndVals x u).toArray = cs := ⟨_, rfl⟩
  rw [hcs] at c20 ⊢
  obtain ⟨b, cap, rfl, hb, q0⟩ := hof.one
  have HB : ∀ o1 o2, Below w.heap.size w ((w.alloc o1).alloc o2) := fun o1 o2 => ((Below.refl _ _).alloc (Nat.le_refl _) _).alloc (by simp) _
  have hrb := World.block_lt_of_cell? w _ hr
  simp only at hrb
  have hv1 : -1 ≤ v ∧ v ≤ 1 := by rcases hv with rfl | rfl | rfl <;> omega
  have h1 : 0 ≤ (a : Int) ∧ (a : Int) < n := by omega
  have h1' : (a : Int) < n := by omega
  have h0 : 0 ≤ (0 : Int) ∧ (0 : Int) < 1 := by omega
  have HV := Lib.hid hv1
  clear hcs hof hv hv1
  go_enter Tryz.func307, Tryz.ntmps307
  go_wp2_with (go_at_call 308; refine (ev_not _ HV.out _).mono ?_; rintro e w' ⟨rfl, hw⟩; subst hw)
  go_ret
  exact ⟨rfl, HB _ _⟩
theorem val_le {a : Int} (h : Po.Val a) : -1 ≤ a ∧ a ≤ 1 := by rcases h with rfl | rfl | rfl <;> omega

set_option maxRecDepth 1000000 in
set_option maxHeartbeats 1000000 in
theorem ev_9 (x : Po.Nd) (u : Value) (hx : x.dg.length = 16) (a c n rb L : Nat) (v1 v2 : Int) (hv1 : Po.Val v1) (hv2 : Po.Val v2) (f0 f1 f2 f3 : Value) (w : World) (hof : OfAt w L w.heap.size u [a, c]) (ha : a < n) (hc : c < n) (hr : w.cell? ⟨rb, a, none⟩ = some (.int .i64 v1)) (hr2 : w.cell? ⟨rb, c, none⟩ = some (.int .i64 v2)) :
    Calls Tryz.prog 309 #[.agg (ndVals x u).toArray, .agg #[f0, f1, f2, f3], .slice (some ⟨rb, 0, none⟩) n n] w fun e w' => e = .returned (.int .i64 (Po.conj v1 v2)) ∧ Below w.heap.size w w' := by
  obtain ⟨-, -, -, -, c20, -⟩ := nd_cells x u hx
  obtain ⟨cs, hcs⟩ : ∃ cs, (ndVals x u).toArray = cs := ⟨_, rfl⟩
  rw [hcs] at c20 ⊢
  obtain ⟨b, cap, rfl, hb, q0, q1⟩ := hof.two
  have hrb := World.block_lt_of_cell? w _ hr
  simp only at hrb
  have k1 := hv1.neg
  have k2 := hv2.neg
  have HV := Lib.hid (And.intro (val_le hv1) (And.intro (val_le hv2) (And.intro (val_le k1) (And.intro (val_le k2) (val_le (k1.conj k2))))))
  have h1 : 0 ≤ (a : Int) ∧ (a : Int) < n := by omega
  have h1' : (a : Int) < n := by omega
  have h2 : 0 ≤ (c : Int) ∧ (c : Int) < n := by omega
  have h2' : (c : Int) < n := by omega
  obtain ⟨W, hW⟩ : ∃ W, (w.alloc (.cells cs 155)).alloc (.cells #[f0, f1, f2, f3] 103) = W := ⟨_, rfl⟩
  have e20 : W.cell? ⟨w.heap.size, 20, none⟩ = some (.slice (some ⟨b, 0, none⟩) 2 cap) := by
    rw [← hW, World.cell?_alloc_lt _ _ _ (by simp)]
    exact (cell_of_row _ _ 20 cs _ _ (heap_alloc_new w _)).trans c20
  have hB : Below w.heap.size w W := by rw [← hW]; exact ((Below.refl _ _).alloc (Nat.le_refl _) _).alloc (by simp) _
  have q0 := (hB.cell (p := ⟨b, 0, none⟩) hb).trans q0
  have q1 := (hB.cell (p := ⟨b, 1, none⟩) hb).trans q1
  have hr := (hB.cell (p := ⟨rb, a, none⟩) hrb).trans hr
  have hr2 := (hB.cell (p := ⟨rb, c, none⟩) hrb).trans hr2
  have HB := Lib.hid hB
  clear hcs hof hv1 hv2 k1 k2 c20 hB
  go_enter Tryz.func309, Tryz.ntmps309
  go_upto_region 1 with fail
  clear hW
  go_region_held3 (fun W' => W'.cell? ⟨w.heap.size, 20, none⟩ = some (.slice (some ⟨b, 0, none⟩) 2 cap) ∧ W'.cell? ⟨b, 0, none⟩ = some (.int .i64 a) ∧ W'.cell? ⟨b, 1, none⟩ = some (.int .i64 c) ∧ W'.cell? ⟨rb, a, none⟩ = some (.int .i64 v1) ∧ W'.cell? ⟨rb, c, none⟩ = some (.int .i64 v2)) (first | assumption | exact ⟨e20, q0, q1, hr, hr2⟩) (first
    | (go_at_call 310; (with_reducible refine (ev_and _ _ HV.out.1 HV.out.2.1 _).mono ?_); rintro e w' ⟨rfl, hw⟩; subst hw))
  all_goals (go_wp2_with fail; try go_ret)
  all_goals exact ⟨rfl, HB.out.drew⟩

set_option maxRecDepth 1000000 in
set_option maxHeartbeats 1000000 in
theorem ev_10 (x : Po.Nd) (u : Value) (hx : x.dg.length = 16) (a c n rb L : Nat) (v1 v2 : Int) (hv1 : Po.Val v1) (hv2 : Po.Val v2) (f0 f1 f2 f3 : Value) (w : World) (hof : OfAt w L w.heap.size u [a, c]) (ha : a < n) (hc : c < n) (hr : w.cell? ⟨rb, a, none⟩ = some (.int .i64 v1)) (hr2 : w.cell? ⟨rb, c, none⟩ = some (.int .i64 v2)) :
    Calls Tryz.prog 311 #[.agg (ndVals x u).toArray, .agg #[f0, f1, f2, f3], .slice (some ⟨rb, 0, none⟩) n n] w fun e w' => e = .returned (.int .i64 (Po.neg (Po.conj (Po.neg v1) (Po.neg v2)))) ∧ Below w.heap.size w w' := by
  obtain ⟨-, -, -, -, c20, -⟩ := nd_cells x u hx
  obtain ⟨cs, hcs⟩ : ∃ cs, (ndVals x u).toArray = cs := ⟨_, rfl⟩
  rw [hcs] at c20 ⊢
  obtain ⟨b, cap, rfl, hb, q0, q1⟩ := hof.two
  have hrb := World.block_lt_of_cell? w _ hr
  simp only at hrb
  have k1 := hv1.neg
  have k2 := hv2.neg
  have HV := Lib.hid (And.intro (val_le hv1) (And.intro (val_le hv2) (And.intro (val_le k1) (And.intro (val_le k2) (val_le (k1.conj k2))))))
  have h1 : 0 ≤ (a : Int) ∧ (a : Int) < n := by omega
  have h1' : (a : Int) < n := by omega
  have h2 : 0 ≤ (c : Int) ∧ (c : Int) < n := by omega
  have h2' : (c : Int) < n := by omega
  obtain ⟨W, hW⟩ : ∃ W, (w.alloc (.cells cs 155)).alloc (.cells #[f0, f1, f2, f3] 103) = W := ⟨_, rfl⟩
  have e20 : W.cell? ⟨w.heap.size, 20, none⟩ = some (.slice (some ⟨b, 0, none⟩) 2 cap) := by
    rw [← hW, World.cell?_alloc_lt _ _ _ (by simp)]
    exact (cell_of_row _ _ 20 cs _ _ (heap_alloc_new w _)).trans c20
  have hB : Below w.heap.size w W := by rw [← hW]; exact ((Below.refl _ _).alloc (Nat.le_refl _) _).alloc (by simp) _
  have q0 := (hB.cell (p := ⟨b, 0, none⟩) hb).trans q0
  have q1 := (hB.cell (p := ⟨b, 1, none⟩) hb).trans q1
  have hr := (hB.cell (p := ⟨rb, a, none⟩) hrb).trans hr
  have hr2 := (hB.cell (p := ⟨rb, c, none⟩) hrb).trans hr2
  have HB := Lib.hid hB
  clear hcs hof hv1 hv2 k1 k2 c20 hB
  go_enter Tryz.func311, Tryz.ntmps311
  go_upto_region 1 with fail
  clear hW
  go_region_held3 (fun W' => W'.cell? ⟨w.heap.size, 20, none⟩ = some (.slice (some ⟨b, 0, none⟩) 2 cap) ∧ W'.cell? ⟨b, 0, none⟩ = some (.int .i64 a) ∧ W'.cell? ⟨b, 1, none⟩ = some (.int .i64 c) ∧ W'.cell? ⟨rb, a, none⟩ = some (.int .i64 v1) ∧ W'.cell? ⟨rb, c, none⟩ = some (.int .i64 v2)) (first | assumption | exact ⟨e20, q0, q1, hr, hr2⟩) (first
    | (go_at_call 308; (with_reducible refine (ev_not _ HV.out.1 _).mono ?_); rintro e w' ⟨rfl, hw⟩; subst hw)
    | (go_at_call 308; (with_reducible refine (ev_not _ HV.out.2.1 _).mono ?_); rintro e w' ⟨rfl, hw⟩; subst hw)
    | (go_at_call 308; (with_reducible refine (ev_not _ HV.out.2.2.2.2 _).mono ?_); rintro e w' ⟨rfl, hw⟩; subst hw)
    | (go_at_call 310; (with_reducible refine (ev_and _ _ HV.out.2.2.1 HV.out.2.2.2.1 _).mono ?_); rintro e w' ⟨rfl, hw⟩; subst hw))
  all_goals (go_wp2_with fail; try go_ret)
  all_goals exact ⟨rfl, HB.out.drew⟩
end Go.Proofs.YtdeccekeknlnoaaGreatDoor

namespace Go.Proofs.YtdeccekeknlnoaaGreatDoor
open Go.RowKit
/-- a slice of ints, read; blocks below B -/
def RInt1 (w : World) (B : Nat) (v : Value) (xs : List Int) : Prop :=
  ∃ A c, v = .slice A xs.length c ∧ xs.length ≤ c ∧ c ≤ maxLen ∧ (0 < xs.length → ∃ b o, A = some ⟨b, o, none⟩ ∧ b < B ∧ ∀ (i : Nat) (x : Int), xs[i]? = some x → w.cell? ⟨b, o + i, none⟩ = some (.int .i64 x))
/-- a slice of such slices -/
def RInt2 (w : World) (B : Nat) (v : Value) (rs : List (List Int)) : Prop :=
  ∃ A c, v = .slice A rs.length c ∧ rs.length ≤ c ∧ c ≤ maxLen ∧ (0 < rs.length → ∃ b o, A = some ⟨b, o, none⟩ ∧ b < B ∧ ∀ (i : Nat) (r : List Int), rs[i]? = some r → ∃ u, w.cell? ⟨b, o + i, none⟩ = some u ∧ RInt1 w B u r)
theorem RInt1.below {w w' : World} {B : Nat} {v : Value} {xs : List Int} (h : RInt1 w B v xs) (hb : Below B w w') : RInt1 w' B v xs := by
  obtain ⟨A, c, h1, h2, h3, h4⟩ := h
  refine ⟨A, c, h1, h2, h3, fun hn => ?_⟩
  obtain ⟨b, o, hA, hlt, hc⟩ := h4 hn
  exact ⟨b, o, hA, hlt, fun i x hx => (hb.cell (p := ⟨b, _, none⟩) hlt).trans (hc i x hx)⟩
theorem RInt2.below {w w' : World} {B : Nat} {v : Value} {rs : List (List Int)} (h : RInt2 w B v rs) (hb : Below B w w') : RInt2 w' B v rs := by
  obtain ⟨A, c, h1, h2, h3, h4⟩ := h
  refine ⟨A, c, h1, h2, h3, fun hn => ?_⟩
  obtain ⟨b, o, hA, hlt, hc⟩ := h4 hn
  refine ⟨b, o, hA, hlt, fun i r hr => ?_⟩
  obtain ⟨u, h5, h6⟩ := hc i r hr
  exact ⟨u, (hb.cell (p := ⟨b, _, none⟩) hlt).trans h5, h6.below hb⟩
theorem RInt2.at {w : World} {B : Nat} {A : Option Addr} {n c : Nat} {rs : List (List Int)} (h : RInt2 w B (.slice A n c) rs) {i : Nat} {r : List Int} (hi : rs[i]? = some r) :
    ∃ b o A2 c2, A = some ⟨b, o, none⟩ ∧ b < B ∧ n = rs.length ∧ w.cell? ⟨b, o + i, none⟩ = some (.slice A2 r.length c2) ∧ RInt1 w B (.slice A2 r.length c2) r := by
  obtain ⟨A', c', h1, h2, h3, h4⟩ := h
  cases h1
  obtain ⟨b, o, hA, hlt, hc⟩ := h4 (by have := (List.getElem?_eq_some_iff.1 hi).1; omega)
  obtain ⟨u, h5, A2, c2, rfl, h6⟩ := hc i r hi
  exact ⟨b, o, A2, c2, hA, hlt, rfl, h5, A2, c2, rfl, h6⟩
theorem RInt1.at {w : World} {B : Nat} {A : Option Addr} {n c : Nat} {xs : List Int} (h : RInt1 w B (.slice A n c) xs) {i : Nat} {x : Int} (hi : xs[i]? = some x) :
    ∃ b o, A = some ⟨b, o, none⟩ ∧ b < B ∧ w.cell? ⟨b, o + i, none⟩ = some (.int .i64 x) := by
  obtain ⟨A', c', h1, h2, h3, h4⟩ := h
  cases h1
  obtain ⟨b, o, hA, hlt, hc⟩ := h4 (by have := (List.getElem?_eq_some_iff.1 hi).1; omega)
  exact ⟨b, o, hA, hlt, hc i x hi⟩
theorem side_all : ∀ o : Fin 4, ∀ s : Fin 3, (bits BinOp.and IntKind.i64 (o.val : Int) (s.val : Int) != 0) = ((o.val : Int).toNat &&& s.val != 0) := by decide +kernel
/-- the cells of a node and of facts, boxed -/
theorem boxed {w : World} {cs : Array Value} {f0 f1 f2 f3 : Value} : ∀ W, (w.alloc (.cells cs 155)).alloc (.cells #[f0, f1, f2, f3] 103) = W →
    (∀ (j : Nat) (v : Value), cs[j]? = some v → W.cell? ⟨w.heap.size, j, none⟩ = some v) ∧ W.cell? ⟨w.heap.size + 1, 2, none⟩ = some f2 ∧ W.cell? ⟨w.heap.size + 1, 3, none⟩ = some f3 ∧ Below w.heap.size w W := by
  rintro W rfl
  refine ⟨fun j v hv => ?_, ?_, ?_, ((Below.refl _ _).alloc (Nat.le_refl _) _).alloc (by simp) _⟩
  · rw [World.cell?_alloc_lt _ _ _ (by simp)]
    exact (cell_of_row _ _ j cs _ _ (heap_alloc_new w _)).trans hv
  · have e := heap_alloc_new (w.alloc (.cells cs 155)) (.cells #[f0, f1, f2, f3] 103)
    rw [World.size_alloc] at e
    exact cell_of_row _ _ 2 _ _ _ e
  · have e := heap_alloc_new (w.alloc (.cells cs 155)) (.cells #[f0, f1, f2, f3] 103)
    rw [World.size_alloc] at e
    exact cell_of_row _ _ 3 _ _ _ e
set_option maxRecDepth 1000000 in
set_option maxHeartbeats 1000000 in
theorem ev_took (x : Po.Nd) (u : Value) (hx : x.dg.length = 16) (hs : x.side ≤ 2) (f : Po.Facts) (f0 f1 f2 vp : Value) (w : World) (hp : RInt2 w w.heap.size vp f.points) (hval : ∀ r ∈ f.points, ∀ y ∈ r, -1 ≤ y ∧ y ≤ 3) :
    Calls Tryz.prog 306 #[.agg (ndVals x u).toArray, .agg #[f0, f1, f2, vp]] w fun e w' => e = .returned (.int .i64 (Po.took x f)) ∧ Below w.heap.size w w' := by
  obtain ⟨-, c1, c2, c3, -, -⟩ := nd_cells x u hx
  obtain ⟨cs, hcs⟩ : ∃ cs, (ndVals x u).toArray = cs := ⟨_, rfl⟩
  rw [hcs] at c1 c2 c3 ⊢
  obtain ⟨W, hW⟩ : ∃ W, (w.alloc (.cells cs 155)).alloc (.cells #[f0, f1, f2, vp] 103) = W := ⟨_, rfl⟩
  obtain ⟨hbx, -, e3, hB⟩ := boxed W hW
  have e1 := hbx 1 _ c1
  have e2 := hbx 2 _ c2
  have es := hbx 3 _ c3
  have hpW := hp.below hB
  have HB := Lib.hid hB
  obtain ⟨A, c, hvp, hpn, hpc⟩ : ∃ A c, vp = .slice A f.points.length c ∧ f.points.length ≤ c ∧ c ≤ maxLen := by
    obtain ⟨A, c, h1, h2, h3, _⟩ := hp
    exact ⟨A, c, h1, h2, h3⟩
  subst hvp
  clear hcs c1 c2 c3 hbx hp hB hpn hpc
  by_cases hn : f.points.length ≤ x.n
  · have HX := Lib.hid (show Po.took x f = 0 by rw [Po.took, if_pos hn])
    have hn' : (f.points.length : Int) ≤ x.n := by omega
    clear hpW hn
    go_enter Tryz.func306, Tryz.ntmps306
    go_upto_region 1 with fail
    clear hW
    go_quiet (fail)
    all_goals (go_wp2_with fail; try go_ret)
    all_goals exact ⟨by rw [HX.out]; rfl, below_drewN HB.out _⟩
  · obtain ⟨r, hr⟩ : ∃ r, f.points[x.n]? = some r := ⟨_, List.getElem?_eq_getElem (by omega)⟩
    have hgd : f.points.getD x.n [] = r := by rw [List.getD_eq_getElem?_getD, hr]; rfl
    obtain ⟨b, o, A2, c2, rfl, hbB, -, g0, hr1⟩ := hpW.at hr
    have hn' : ¬ (f.points.length : Int) ≤ x.n := by omega
    have i1 : 0 ≤ (x.n : Int) ∧ (x.n : Int) < f.points.length := by omega
    have i1' := i1.2
    by_cases hm : r.length ≤ x.m
    · have HX := Lib.hid (show Po.took x f = 0 by rw [Po.took, if_neg hn, hgd, if_pos hm])
      have hm' : (r.length : Int) ≤ x.m := by omega
      clear hpW hn hm hr1
      go_enter Tryz.func306, Tryz.ntmps306
      go_upto_region 1 with fail
      clear hW
      go_quiet (fail)
      all_goals (go_wp2_with fail; try go_ret)
      all_goals exact ⟨by rw [HX.out]; rfl, below_drewN HB.out _⟩
    · obtain ⟨y, hy⟩ : ∃ y, r[x.m]? = some y := ⟨_, List.getElem?_eq_getElem (by omega)⟩
      have hyd : Po.at_ r x.m = y := by rw [Po.at_, List.getD_eq_getElem?_getD, hy]; rfl
      obtain ⟨b3, o3, rfl, hb3, g3⟩ := hr1.at hy
      have hm' : ¬ (r.length : Int) ≤ x.m := by omega
      have i2 : 0 ≤ (x.m : Int) ∧ (x.m : Int) < r.length := by omega
      have i2' := i2.2
      have hyv := hval r (List.mem_of_getElem? hr) y (List.mem_of_getElem? hy)
      by_cases h1 : y = -1
      · subst h1
        have HX := Lib.hid (show Po.took x f = -1 by rw [Po.took, if_neg hn, hgd, if_neg hm, hyd, if_pos rfl])
        clear hpW hn hm hr1 hyd hyv hval hy hr hgd
        go_enter Tryz.func306, Tryz.ntmps306
        go_upto_region 1 with fail
        clear hW
        go_quiet (fail)
        all_goals (go_upto_region 3 with fail)
        all_goals (go_quiet (fail))
        all_goals (go_wp2_with fail; try go_ret)
        all_goals exact ⟨by rw [HX.out]; rfl, below_drewN HB.out _⟩
      · have HX := Lib.hid (show Po.took x f = Po.truth (Po.hasSide y x.side) by rw [Po.took, if_neg hn, hgd, if_neg hm, hyd, if_neg h1])
        have HS := Lib.hid (show (bits BinOp.and IntKind.i64 y (x.side : Int) != 0) = Po.hasSide y x.side by
          obtain ⟨k, hk, rfl⟩ : ∃ k : Nat, k < 4 ∧ y = k := ⟨y.toNat, by omega, by omega⟩
          exact side_all ⟨k, hk⟩ ⟨x.side, by omega⟩)
        clear hpW hn hm hr1 hyd hyv hval hy hr hgd hs
        go_enter Tryz.func306, Tryz.ntmps306
        go_upto_region 1 with fail
        clear hW
        go_quiet (fail)
        all_goals (go_upto_region 3 with fail)
        all_goals (go_quiet (fail))
        all_goals (go_wp2_with (go_at_call 300; refine (ev_truth _ _).mono ?_; rintro e w' ⟨rfl, hw⟩; subst hw); try go_ret)
        all_goals exact ⟨by rw [HX.out, ← HS.out]; rfl, below_drewN HB.out _⟩
end Go.Proofs.YtdeccekeknlnoaaGreatDoor

namespace Go.Proofs.YtdeccekeknlnoaaGreatDoor
open Go.RowKit
/-- a slice of digests, read; blocks below B -/
def RDigs (w : World) (B : Nat) (v : Value) (ds : List (List Nat)) : Prop :=
  ∃ A c, v = .slice A ds.length c ∧ ds.length ≤ c ∧ c ≤ maxLen ∧ (0 < ds.length → ∃ b o, A = some ⟨b, o, none⟩ ∧ b < B ∧ ∀ (i : Nat) (d : List Nat), ds[i]? = some d → d.length = 16 ∧ ∀ (j x : Nat), d[j]? = some x → w.cell? ⟨b, o + i * 16 + j, none⟩ = some (.int .u8 x))
theorem RDigs.below {w w' : World} {B : Nat} {v : Value} {ds : List (List Nat)} (h : RDigs w B v ds) (hb : Below B w w') : RDigs w' B v ds := by
  obtain ⟨A, c, h1, h2, h3, h4⟩ := h
  refine ⟨A, c, h1, h2, h3, fun hn => ?_⟩
  obtain ⟨b, o, hA, hlt, hc⟩ := h4 hn
  exact ⟨b, o, hA, hlt, fun i d hd => ⟨(hc i d hd).1, fun j x hx => (hb.cell (p := ⟨b, _, none⟩) hlt).trans ((hc i d hd).2 j x hx)⟩⟩
def dgVals (d : List Nat) : List Value := d.map fun (x : Nat) => Value.int .u8 (x : Int)
theorem RInt1.mono {w : World} {B C : Nat} {v : Value} {xs : List Int} (h : RInt1 w B v xs) (hB : B ≤ C) : RInt1 w C v xs := by
  obtain ⟨A, c, h1, h2, h3, h4⟩ := h
  refine ⟨A, c, h1, h2, h3, fun hn => ?_⟩
  obtain ⟨b, o, hA, hlt, hc⟩ := h4 hn
  exact ⟨b, o, hA, Nat.lt_of_lt_of_le hlt hB, hc⟩
theorem RInt2.mono {w : World} {B C : Nat} {v : Value} {rs : List (List Int)} (h : RInt2 w B v rs) (hB : B ≤ C) : RInt2 w C v rs := by
  obtain ⟨A, c, h1, h2, h3, h4⟩ := h
  refine ⟨A, c, h1, h2, h3, fun hn => ?_⟩
  obtain ⟨b, o, hA, hlt, hc⟩ := h4 hn
  refine ⟨b, o, hA, Nat.lt_of_lt_of_le hlt hB, fun i r hr => ?_⟩
  obtain ⟨u, h5, h6⟩ := hc i r hr
  exact ⟨u, h5, h6.mono hB⟩
theorem RDigs.mono {w : World} {B C : Nat} {v : Value} {ds : List (List Nat)} (h : RDigs w B v ds) (hB : B ≤ C) : RDigs w C v ds := by
  obtain ⟨A, c, h1, h2, h3, h4⟩ := h
  refine ⟨A, c, h1, h2, h3, fun hn => ?_⟩
  obtain ⟨b, o, hA, hlt, hc⟩ := h4 hn
  exact ⟨b, o, hA, Nat.lt_of_lt_of_le hlt hB, hc⟩
theorem RDigs.at {w : World} {B : Nat} {A : Option Addr} {n c : Nat} {ds : List (List Nat)} (h : RDigs w B (.slice A n c) ds) {i : Nat} {d : List Nat} (hi : ds[i]? = some d) :
    ∃ b o, A = some ⟨b, o, none⟩ ∧ b < B ∧ n = ds.length ∧ d.length = 16 ∧ w.rangeAt b (o + i * 16) (dgVals d) := by
  obtain ⟨A', c', h1, h2, h3, h4⟩ := h
  cases h1
  obtain ⟨b, o, hA, hlt, hc⟩ := h4 (by have := (List.getElem?_eq_some_iff.1 hi).1; omega)
  obtain ⟨h5, h6⟩ := hc i d hi
  refine ⟨b, o, hA, hlt, rfl, h5, fun j v hv => ?_⟩
  rw [dgVals, List.getElem?_map] at hv
  obtain ⟨x, hx, rfl⟩ : ∃ x, d[j]? = some x ∧ Value.int .u8 (x : Int) = v := by
    cases hj : d[j]? with
    | none => rw [hj] at hv; cases hv
    | some x => rw [hj] at hv; exact ⟨x, rfl, by simpa using hv⟩
  exact h6 j x hx
theorem eqItems_dig (d e : Array Value) (w : World) (ne : Nat → Bool) (hp : ∀ j, j < 16 → ∃ x y : Nat, d[j]? = some (.int .u8 x) ∧ e[j]? = some (.int .u8 y) ∧ ((x : Int) == y) = ne j) : ∀ is : List Nat, (∀ i ∈ is, i < 16) → (Op.eqItems 9999 5 1 d e is).run Tryz.prog w = .ok (is.all ne) w := by
  intro is
  have he : Tryz.prog.plainKey 5 = true := by kernel_rfl
  induction is with
  | nil => intro _; simp [Op.eqItems]
  | cons j is ih =>
    intro h
    have hj := h j (List.mem_cons_self ..)
    obtain ⟨x, y, hx, hy, hn⟩ := hp j hj
    have e1 := run_part_plain (P := Tryz.prog) (w := w) he (off := j * 1) (by rw [Nat.mul_one]; exact hx)
    have e2 := run_part_plain (P := Tryz.prog) (w := w) he (off := j * 1) (by rw [Nat.mul_one]; exact hy)
    have e3 := run_equalIn_int (P := Tryz.prog) w 9998 5 .u8 .u8 (x : Int) (y : Int) Tryz.underlying5
    simp only [Op.eqItems, Sem.run_bind, e1, e2, e3, Result.andThen_ok, hn]
    cases hrs : ne j
    · simp [hrs]
    · simp only [Bool.not_true, Bool.false_eq_true, if_false, ih (fun i hi => h i (List.mem_cons_of_mem _ hi)), List.all_cons, hrs, Bool.true_and]
theorem run_dig {d e : List Nat} (hd : d.length = 16) (he : e.length = 16) (w : World) : Sem.run Tryz.prog (Op.equalIn 10000 39 (.agg (dgVals d).toArray) (.agg (dgVals e).toArray)) w = .ok (d == e) w := by
  have hi : ∃ i, Tryz.prog.info? 5 = some i := Option.isSome_iff_exists.1 (by kernel_rfl)
  obtain ⟨i, hi⟩ := hi
  have h := run_equalIn_array (P := Tryz.prog) (w := w) 9999 (dgVals d).toArray (dgVals e).toArray Tryz.underlying39 hi
  refine h.trans ?_
  have hc : Tryz.prog.cellsOf 5 = 1 := by kernel_rfl
  rw [hc]
  rw [eqItems_dig _ _ w (fun j => d.getD j 0 == e.getD j 0) (fun j hj => ?_) _ (fun i hi => List.mem_range.1 hi)]
  · have hb : ((List.range 16).all fun j => d.getD j 0 == e.getD j 0) = (d == e) := ?_
    · exact congrArg (fun b => Result.ok b w) hb
    generalize 16 = n at hd he
    rw [Bool.eq_iff_iff]
    simp only [List.all_eq_true, List.mem_range, beq_iff_eq]
    constructor
    · intro hh
      apply List.ext_getElem (by omega)
      intro j h1 h2
      have := hh j (by omega)
      rw [List.getD_eq_getElem?_getD, List.getD_eq_getElem?_getD, List.getElem?_eq_getElem h1, List.getElem?_eq_getElem h2] at this
      simpa using this
    · rintro rfl j _; rfl
  · have h1 : d[j]? = some d[j] := List.getElem?_eq_getElem (by omega)
    have h2 : e[j]? = some e[j] := List.getElem?_eq_getElem (by omega)
    refine ⟨d[j], e[j], by simp [dgVals, h1], by simp [dgVals, h2], ?_⟩
    rw [List.getD_eq_getElem?_getD, List.getD_eq_getElem?_getD, h1, h2]
    simp only [Option.getD_some]
    rw [Bool.eq_iff_iff]; simp [Int.ofNat_inj]
/-- the blocks of a node and of facts, boxed -/
theorem boxed4 {w : World} {cs fs : Array Value} : ∀ W, (w.alloc (.cells cs 155)).alloc (.cells fs 103) = W →
    W.heap[w.heap.size]? = some (.cells cs 155 (0, 0)) ∧ W.heap[w.heap.size + 1]? = some (.cells fs 103 (0, 0)) := by
  rintro W rfl
  refine ⟨?_, ?_⟩
  · have e := heap_alloc_new w (.cells cs 155)
    rw [Below.heap_alloc _ _ _ (by simp)]
    exact e
  · have e := heap_alloc_new (w.alloc (.cells cs 155)) (.cells fs 103)
    rw [World.size_alloc] at e
    exact e

set_option maxRecDepth 1000000 in
set_option maxHeartbeats 1000000 in
theorem ev_7 (x : Po.Nd) (u : Value) (hx : x.dg.length = 16) (hs : x.side ≤ 2) (f : Po.Facts) (f0 f1 f2 vp rv : Value) (w : World) (hp : RInt2 w w.heap.size vp f.points) (hval : ∀ r ∈ f.points, ∀ y ∈ r, -1 ≤ y ∧ y ≤ 3) :
    Calls Tryz.prog 305 #[.agg (ndVals x u).toArray, .agg #[f0, f1, f2, vp], rv] w fun e w' => e = .returned (.int .i64 (Po.took x f)) ∧ Below w.heap.size w w' := by
  obtain ⟨T, N, R, K, L⟩ := letters
  obtain ⟨cs, hcs⟩ : ∃ cs, (ndVals x u).toArray = cs := ⟨_, rfl⟩
  have hcz : cs.size = 21 := by rw [← hcs]; exact nd_size hx
  have hcall : ∀ W, Below w.heap.size w W → Calls Tryz.prog 306 #[.agg cs, .agg #[f0, f1, f2, vp]] W fun e w' => e = .returned (.int .i64 (Po.took x f)) ∧ Below w.heap.size w w' := fun W hW => by
    rw [← hcs]
    refine (ev_took x u hx hs f f0 f1 f2 vp W ?_ hval).mono fun e w' h => ⟨h.1, hW.trans (h.2.mono hW.size)⟩
    exact (hp.below hW).mono hW.size
  rw [hcs]
  clear hcs hp hval
  obtain ⟨W, hW⟩ : ∃ W, (w.alloc (.cells cs 155)).alloc (.cells #[f0, f1, f2, vp] 103) = W := ⟨_, rfl⟩
  obtain ⟨hbx, e2, e3, hB⟩ := boxed W hW
  have HC := Lib.hid (hcall W hB)
  obtain ⟨k1, k2⟩ := boxed4 W hW
  have e0 : W.cell? ⟨w.heap.size + 1, 0, none⟩ = some f0 := cell_of_row _ _ 0 _ _ _ k2
  have e1 : W.cell? ⟨w.heap.size + 1, 1, none⟩ = some f1 := cell_of_row _ _ 1 _ _ _ k2
  have hld := L.ld k1 hcz
  have la := L.agg
  have lz := L.size
  clear hcall hB hbx k1 k2
  go_enter Tryz.func305, Tryz.ntmps305
  simp only [L.load]
  go_upto_region 1 with fail
  clear hW L
  go_wp2_with (go_at_call 306; refine HC.out.mono ?_; rintro e w' ⟨rfl, hw⟩)
  go_ret
  exact ⟨rfl, hw⟩
theorem wrap_pred {n k : Nat} (h : n < 9223372036854775808) (h2 : ¬ n ≤ k) : wrap64 ((n : Int) - 1) = (n : Int) - 1 := by unfold wrap64; omega
theorem nd_dig (x : Po.Nd) (u : Value) : ∀ (j : Nat) (v : Value), (dgVals x.dg)[j]? = some v → (ndVals x u).toArray[4 + j]? = some v := by
  intro j v hv
  have hj : j < x.dg.length := by have := (List.getElem?_eq_some_iff.1 hv).1; simpa [dgVals] using this
  simp only [ndVals, List.getElem?_toArray]
  rw [List.append_assoc, List.getElem?_append_right (by simp)]
  rw [List.getElem?_append_left (by simp; omega)]
  simpa [dgVals] using hv
theorem Letters.ldR {T N R K : Nat} (L : Letters T N R K) {w : World} {b o : Nat} {d : List Nat} (h : w.rangeAt b o (dgVals d)) (hs : d.length = 16) : Sem.run Tryz.prog (loadCellsFrom ⟨b, o, none⟩ 0 K #[]) w = .ok (dgVals d).toArray w := by
  have hl := run_loadCells_list (P := Tryz.prog) w ⟨b, o, none⟩ (dgVals d) (fun j v hv => by rw [Addr.add_mid]; exact h j v hv)
  rw [L.szR, ← hs, show d.length = (dgVals d).length by simp [dgVals]]
  exact hl
set_option maxRecDepth 1000000 in
set_option maxHeartbeats 400000 in
theorem ev_6 (x : Po.Nd) (u : Value) (hx : x.dg.length = 16) (ds : List (List Nat)) (f0 f1 f3 vs rv : Value) (w : World) (hp : RDigs w w.heap.size vs ds) :
    Calls Tryz.prog 304 #[.agg (ndVals x u).toArray, .agg #[f0, f1, vs, f3], rv] w fun e w' => e = .returned (.int .i64 (Po.truth (x.n < ds.length && ds.getD x.n [] == x.dg))) ∧ Below w.heap.size w w' := by
  obtain ⟨T, N, R, K, L⟩ := letters
  obtain ⟨-, c1, -⟩ := nd_cells x u hx
  have cd := nd_dig x u
  obtain ⟨cs, hcs⟩ : ∃ cs, (ndVals x u).toArray = cs := ⟨_, rfl⟩
  rw [hcs] at c1 cd ⊢
  obtain ⟨W, hW⟩ : ∃ W, (w.alloc (.cells cs 155)).alloc (.cells #[f0, f1, vs, f3] 103) = W := ⟨_, rfl⟩
  obtain ⟨hbx, e2, -, hB⟩ := boxed W hW
  obtain ⟨k1, -⟩ := boxed4 W hW
  have e1 := hbx 1 _ c1
  have hpW := hp.below hB
  have HB := Lib.hid hB
  have rD : W.rangeAt w.heap.size 4 (dgVals x.dg) := fun j v hv => hbx (4 + j) v (cd j v hv)
  obtain ⟨A, c, hvs, hpn, hpc⟩ : ∃ A c, vs = .slice A ds.length c ∧ ds.length ≤ c ∧ c ≤ maxLen := by
    obtain ⟨A, c, h1, h2, h3, _⟩ := hp
    exact ⟨A, c, h1, h2, h3⟩
  subst hvs
  have hpm : ds.length < 9223372036854775808 := by unfold maxLen at hpc; omega
  clear hcs c1 hbx hp hB hpn hpc cd k1
  obtain ⟨X, hX⟩ : ∃ X, Po.truth (x.n < ds.length && ds.getD x.n [] == x.dg) = X := ⟨_, rfl⟩
  rw [hX]
  by_cases hn : ds.length ≤ x.n
  · have HX := Lib.hid (show X = 0 by rw [← hX]; simp [Po.truth, show ¬ x.n < ds.length by omega])
    have hn' : ¬ (x.n : Int) < ds.length := by omega
    have hnd : decide ((x.n : Int) < ds.length) = false := by simp only [decide_eq_false_iff_not]; exact hn'
    clear hX hpW hn rD hpm
    go_enter Tryz.func304, Tryz.ntmps304
    simp only [L.loadR]
    go_upto_region 1 with fail
    clear hW L
    go_big_quiet (exact Calls.quiet_of_same (ev_truth _ _))
    all_goals (go_wp2_with fail; try go_ret)
    all_goals exact ⟨by rw [HX.out]; rfl, below_drewN HB.out _⟩
  · obtain ⟨d, hd⟩ : ∃ d, ds[x.n]? = some d := ⟨_, List.getElem?_eq_getElem (by omega)⟩
    have hgd : ds.getD x.n [] = d := by rw [List.getD_eq_getElem?_getD, hd]; rfl
    obtain ⟨b, o, rfl, hbB, -, hdl, hr⟩ := hpW.at hd
    have HX := Lib.hid (show X = Po.truth (d == x.dg) by rw [← hX, hgd]; simp [show x.n < ds.length by omega])
    have hn' : (x.n : Int) < ds.length := by omega
    have hw2 : wrap64 ((ds.length : Int) - 1) = (ds.length : Int) - 1 := wrap_pred hpm hn
    have hw1 : IntKind.i64.wrap ((ds.length : Int) - 1) = (ds.length : Int) - 1 := (raw_wrap _).trans hw2
    have hmn : (x.n : Int) ≤ (ds.length : Int) - 1 := by omega
    have hmin : min (x.n : Int) ((ds.length : Int) - 1) = x.n := by omega
    have hl1 := fun n => L.ldR (w := W.drewN n) hr hdl
    have hl2 := fun n => L.ldR (w := W.drewN n) rD hx
    have hE := fun w => run_dig hdl hx w
    have la := L.aggR
    have lz := L.sizeR
    have i1 : 0 ≤ (x.n : Int) ∧ (x.n : Int) < ds.length := by omega
    have hnd : decide ((x.n : Int) < ds.length) = true := by simp only [decide_eq_true_iff]; exact hn'
    clear hX hpW hn rD hpm hr hd hgd
    have hG : ∀ w, Sem.run Tryz.prog (eqGuard BinOp.eql 39 (.tmp 24) (.tmp 26) (.agg (dgVals d).toArray) (.agg (dgVals x.dg).toArray)) w = .ok () w := fun w => by kernel_rfl
    rw [← L.tyR] at hE hG
    go_enter Tryz.func304, Tryz.ntmps304
    simp only [L.loadR]
    have hop : ∀ a b, Op.binOp BinOp.eql 39 a b 39 = Op.binOp BinOp.eql R a b R := fun a b => by rw [L.tyR]
    simp only [hop]
    clear hop
    go_upto_region 1 with fail
    clear hW L
    go_big_quiet (exact Calls.quiet_of_same (ev_truth _ _))
    all_goals (go_wp2_with fail; try go_ret)
    all_goals exact ⟨by rw [HX.out]; rfl, below_drewN HB.out _⟩
end Go.Proofs.YtdeccekeknlnoaaGreatDoor

namespace Go.Proofs.YtdeccekeknlnoaaGreatDoor
open Go.RowKit
/-- facts, read; blocks below B -/
def RFacts (w : World) (B : Nat) (v : Value) (f : Po.Facts) : Prop :=
  ∃ vs vp, v = .agg #[.int .i64 f.version, .int .i64 f.epoch, vs, vp] ∧ RDigs w B vs f.stages ∧ RInt2 w B vp f.points
theorem RFacts.below {w w' : World} {B : Nat} {v : Value} {f : Po.Facts} (h : RFacts w B v f) (hb : Below B w w') : RFacts w' B v f := by
  obtain ⟨vs, vp, h1, h2, h3⟩ := h
  exact ⟨vs, vp, h1, h2.below hb, h3.below hb⟩
theorem RFacts.mono {w : World} {B C : Nat} {v : Value} {f : Po.Facts} (h : RFacts w B v f) (hB : B ≤ C) : RFacts w C v f := by
  obtain ⟨vs, vp, h1, h2, h3⟩ := h
  exact ⟨vs, vp, h1, h2.mono hB, h3.mono hB⟩
def ValidF (f : Po.Facts) : Prop := ∀ r ∈ f.points, ∀ y ∈ r, -1 ≤ y ∧ y ≤ 3
theorem ev_node (x : Po.Nd) (u vf : Value) (k n rb L : Nat) (hx : Po.OkNd k x) (f : Po.Facts) (hv : ValidF f) (r : List Int) (w : World) (hf : RFacts w w.heap.size vf f) (hof : OfAt w L w.heap.size u x.of)
    (hr : ∀ j, j < k → w.cell? ⟨rb, j, none⟩ = some (.int .i64 (Po.at_ r j))) (hval : ∀ j, Po.Val (Po.at_ r j)) (hk : k ≤ n) :
    ∃ fn, evalFns[x.k - 1]? = some fn ∧ Calls Tryz.prog fn #[.agg (ndVals x u).toArray, vf, .slice (some ⟨rb, 0, none⟩) n n] w fun e w' => e = .returned (.int .i64 (Po.evalNd x f r)) ∧ Below w.heap.size w w' := by
  obtain ⟨vs, vp, rfl, h1, h2⟩ := hf
  have hlo := hx.lo
  have hhi := hx.hi
  have hc : x.k = 1 ∨ x.k = 2 ∨ x.k = 3 ∨ x.k = 4 ∨ x.k = 5 ∨ x.k = 6 ∨ x.k = 7 ∨ x.k = 8 ∨ x.k = 9 ∨ x.k = 10 := by omega
  rcases hc with e | e | e | e | e | e | e | e | e | e
  · refine ⟨_, by rw [e]; rfl, ?_⟩
    have : Po.evalNd x f r = 1 := by unfold Po.evalNd; rw [e]; rfl
    rw [this]
    exact ev_1 x u hx.dg _ _ _ _ _ w
  · refine ⟨_, by rw [e]; rfl, ?_⟩
    have : Po.evalNd x f r = Po.truth (decide (f.version = x.n)) := by unfold Po.evalNd; rw [e]; rfl
    rw [this]
    exact ev_2 x u hx.dg _ _ _ _ _ w
  · refine ⟨_, by rw [e]; rfl, ?_⟩
    have : Po.evalNd x f r = Po.truth (decide ((x.n : Int) ≤ f.version)) := by unfold Po.evalNd; rw [e]; rfl
    rw [this]
    exact ev_3 x u hx.dg _ _ _ _ _ w
  · refine ⟨_, by rw [e]; rfl, ?_⟩
    have : Po.evalNd x f r = Po.truth (decide (f.epoch = x.n)) := by unfold Po.evalNd; rw [e]; rfl
    rw [this]
    exact ev_4 x u hx.dg _ _ _ _ _ w
  · refine ⟨_, by rw [e]; rfl, ?_⟩
    have : Po.evalNd x f r = Po.truth (decide ((x.n : Int) ≤ f.epoch)) := by unfold Po.evalNd; rw [e]; rfl
    rw [this]
    exact ev_5 x u hx.dg _ _ _ _ _ w
  · refine ⟨_, by rw [e]; rfl, ?_⟩
    have : Po.evalNd x f r = Po.truth (x.n < f.stages.length && f.stages.getD x.n [] == x.dg) := by unfold Po.evalNd; rw [e]; rfl
    rw [this]
    exact ev_6 x u hx.dg f.stages _ _ _ _ _ w h1
  · refine ⟨_, by rw [e]; rfl, ?_⟩
    have : Po.evalNd x f r = Po.took x f := by unfold Po.evalNd; rw [e]; rfl
    rw [this]
    exact ev_7 x u hx.dg hx.side0 f _ _ _ _ _ w h2 hv
  · obtain ⟨a, ha, hak⟩ := hx.one e
    refine ⟨_, by rw [e]; rfl, ?_⟩
    have : Po.evalNd x f r = Po.neg (Po.at_ r a) := by unfold Po.evalNd; rw [e, ha]; rfl
    rw [this]
    rw [ha] at hof
    exact ev_8 x u hx.dg a n rb L _ (hval a) _ _ _ _ w hof (by omega) (hr a hak)
  · obtain ⟨a, b, ha, hak, hbk⟩ := hx.two (by omega)
    refine ⟨_, by rw [e]; rfl, ?_⟩
    have : Po.evalNd x f r = Po.conj (Po.at_ r a) (Po.at_ r b) := by unfold Po.evalNd; rw [e, ha]; rfl
    rw [this]
    rw [ha] at hof
    exact ev_9 x u hx.dg a b n rb L _ _ (hval a) (hval b) _ _ _ _ w hof (by omega) (by omega) (hr a hak) (hr b hbk)
  · obtain ⟨a, b, ha, hak, hbk⟩ := hx.two (by omega)
    refine ⟨_, by rw [e]; rfl, ?_⟩
    have : Po.evalNd x f r = Po.neg (Po.conj (Po.neg (Po.at_ r a)) (Po.neg (Po.at_ r b))) := by unfold Po.evalNd; rw [e, ha]; rfl
    rw [this]
    rw [ha] at hof
    exact ev_10 x u hx.dg a b n rb L _ _ (hval a) (hval b) _ _ _ _ w hof (by omega) (by omega) (hr a hak) (hr b hbk)
end Go.Proofs.YtdeccekeknlnoaaGreatDoor

namespace Go.Proofs.YtdeccekeknlnoaaGreatDoor
open Go.RowKit
theorem ev_enters : ∀ (k fn : Nat), evalFns[k]? = some fn → ∀ args w, (callFunc fn args).run Tryz.prog w = .ok (.enter fn args) w := by
  intro k fn h args w
  match k, h with
  | 0, h => simp only [evalFns, List.getElem?_cons_zero, Option.some.injEq] at h; rw [← h]; exact Go.Proofs.enters_of Tryz.func298 (by kernel_rfl) rfl args w
  | 1, h => simp only [evalFns, List.getElem?_cons_zero, List.getElem?_cons_succ, Option.some.injEq] at h; rw [← h]; exact Go.Proofs.enters_of Tryz.func299 (by kernel_rfl) rfl args w
  | 2, h => simp only [evalFns, List.getElem?_cons_zero, List.getElem?_cons_succ, Option.some.injEq] at h; rw [← h]; exact Go.Proofs.enters_of Tryz.func301 (by kernel_rfl) rfl args w
  | 3, h => simp only [evalFns, List.getElem?_cons_zero, List.getElem?_cons_succ, Option.some.injEq] at h; rw [← h]; exact Go.Proofs.enters_of Tryz.func302 (by kernel_rfl) rfl args w
  | 4, h => simp only [evalFns, List.getElem?_cons_zero, List.getElem?_cons_succ, Option.some.injEq] at h; rw [← h]; exact Go.Proofs.enters_of Tryz.func303 (by kernel_rfl) rfl args w
  | 5, h => simp only [evalFns, List.getElem?_cons_zero, List.getElem?_cons_succ, Option.some.injEq] at h; rw [← h]; exact Go.Proofs.enters_of Tryz.func304 (by kernel_rfl) rfl args w
  | 6, h => simp only [evalFns, List.getElem?_cons_zero, List.getElem?_cons_succ, Option.some.injEq] at h; rw [← h]; exact Go.Proofs.enters_of Tryz.func305 (by kernel_rfl) rfl args w
  | 7, h => simp only [evalFns, List.getElem?_cons_zero, List.getElem?_cons_succ, Option.some.injEq] at h; rw [← h]; exact Go.Proofs.enters_of Tryz.func307 (by kernel_rfl) rfl args w
  | 8, h => simp only [evalFns, List.getElem?_cons_zero, List.getElem?_cons_succ, Option.some.injEq] at h; rw [← h]; exact Go.Proofs.enters_of Tryz.func309 (by kernel_rfl) rfl args w
  | 9, h => simp only [evalFns, List.getElem?_cons_zero, List.getElem?_cons_succ, Option.some.injEq] at h; rw [← h]; exact Go.Proofs.enters_of Tryz.func311 (by kernel_rfl) rfl args w
  | k + 10, h => simp [evalFns] at h
theorem int_info : (Tryz.prog.info? 3).map (fun i => (i.zero, i.size, i.bytes)) = some (some (.int .i64 0), 1, 8) := by kernel_rfl
theorem two_boxes {w : World} {o1 o2 : Obj} : ∀ W, (w.alloc o1).alloc o2 = W → W.heap[w.heap.size]? = some o1 ∧ W.heap[w.heap.size + 1]? = some o2 ∧ Below w.heap.size w W ∧ W.heap.size = w.heap.size + 1 + 1 := by
  rintro W rfl
  refine ⟨?_, ?_, ((Below.refl _ _).alloc (Nat.le_refl _) _).alloc (by simp) _, by simp⟩
  · have e := heap_alloc_new w o1
    rw [Below.heap_alloc _ _ _ (by simp)]
    exact e
  · have e := heap_alloc_new (w.alloc o1) o2
    rw [World.size_alloc] at e
    exact e
/-- a row of ints that the call made, read through the values r -/
structure RowI (w : World) (g n : Nat) (r : List Int) : Prop where
  at_ : ∀ j, j < n → w.cell? ⟨g, j, none⟩ = some (.int .i64 (Po.at_ r j))
  fr : ∀ o, w.frozen? ⟨g, o, none⟩ = false
  lt : g < w.heap.size
theorem RNds.at {w : World} {L B : Nat} {A : Option Addr} {n c : Nat} {o : List Po.Nd} (h : RNds w L B (.slice A n c) o) {i : Nat} {x : Po.Nd} (hi : o[i]? = some x) :
    ∃ b off u, A = some ⟨b, off, none⟩ ∧ b < B ∧ w.rangeAt b (off + i * 21) (ndVals x u) ∧ OfAt w L B u x.of := by
  obtain ⟨A', c', h1, _, _, h4⟩ := h
  cases h1
  obtain ⟨b, off, hA, _, hlt, hc⟩ := h4 (by have := (List.getElem?_eq_some_iff.1 hi).1; omega)
  obtain ⟨u, hu, ho⟩ := hc i x hi
  exact ⟨b, off, u, hA, hlt, fun j z hz => hu j z hz, ho⟩
theorem Letters.ldN {T N R K : Nat} (LT : Letters T N R K) {w : World} {b o : Nat} {d : List Value} (h : w.rangeAt b o d) (hs : d.length = 21) : Sem.run Tryz.prog (loadCellsFrom ⟨b, o, none⟩ 0 N #[]) w = .ok d.toArray w := by
  have hl := run_loadCells_list (P := Tryz.prog) w ⟨b, o, none⟩ d (fun j v hv => by rw [Addr.add_mid]; exact h j v hv)
  rw [LT.sz, ← hs]
  exact hl
theorem OfAt.one' {w : World} {L B : Nat} {u : Value} {xs : List Nat} (h : OfAt w L B u xs) : u.oneCell' = true := by
  rcases h with ⟨_, rfl⟩ | ⟨b, cap, rfl, _⟩ <;> rfl
theorem store_new {x : Po.Nd} {u : Value} (hx : x.dg.length = 16) (hu : u.oneCell' = true) (w : World) : Sem.run Tryz.prog (storeCells ⟨w.heap.size, 0, none⟩ (ndVals x u).toArray.toList) (w.alloc (.cells #[.int .i64 0, .int .i64 0, .int .i64 0, .int .i64 0, .int .u8 0, .int .u8 0, .int .u8 0, .int .u8 0, .int .u8 0, .int .u8 0, .int .u8 0, .int .u8 0, .int .u8 0, .int .u8 0, .int .u8 0, .int .u8 0, .int .u8 0, .int .u8 0, .int .u8 0, .int .u8 0, .slice none 0 0] 155)) = .ok () (w.alloc (.cells (ndVals x u).toArray 155)) := by
  rw [cells_row (heap_alloc_new w _) (by rw [nd_size hx]; decide) (nd_one hu), put_new (by rw [nd_size hx]; rfl)]
theorem RowI.below {w w' : World} {g n : Nat} {r : List Int} (h : RowI w g n r) (hb : Below w.heap.size w w') : RowI w' g n r :=
  ⟨fun j hj => (hb.cell (p := ⟨g, j, none⟩) h.lt).trans (h.at_ j hj), fun o => (hb.frozen (p := ⟨g, o, none⟩) h.lt).trans (h.fr o), Nat.lt_of_lt_of_le h.lt hb.size⟩
theorem RowI.set {w : World} {g n k : Nat} {r r' : List Int} {v : Int} (h : RowI w g n r) (hk : k < n) (hv : Po.at_ r' k = v) (ho : ∀ j, j < n → j ≠ k → Po.at_ r' j = Po.at_ r j) : RowI (w.setCell ⟨g, k, none⟩ (.int .i64 v)) g n r' := by
  refine ⟨fun j hj => ?_, fun o => by rw [World.frozen?_setCell]; exact h.fr o, by simpa using h.lt⟩
  by_cases e : j = k
  · subst e
    rw [World.cell?_setCell_same _ _ _ (h.at_ j hj), hv]
  · rw [World.cell?_setCell_other _ _ _ _ (fun q => e (Addr.mk.inj q).2.1.symm), h.at_ j hj, ho j hj e]
theorem at_ge {r : List Int} {j : Nat} (h : r.length ≤ j) : Po.at_ r j = 0 := by
  unfold Po.at_; rw [List.getD_eq_getElem?_getD, List.getElem?_eq_none h]; rfl
/-- the state of the loop at round k -/
structure EvAt (W wr : World) (g n : Nat) (o : List Po.Nd) (f : Po.Facts) (k : Nat) : Prop where
  below : Below g W wr
  row : RowI wr g n (Po.evalAll (o.take k) f)
theorem EvAt.next {W wr W5 w6 : World} {n k : Nat} {o : List Po.Nd} {f : Po.Facts} {x : Po.Nd} (h : EvAt W wr W.heap.size n o f k) (hb5 : Below wr.heap.size wr W5) (hb6 : Below W5.heap.size W5.drew w6) (hx : o[k]? = some x) (hk : k < n) (hn : o.length = n) :
    EvAt W (w6.setCell ⟨W.heap.size, k, none⟩ (.int .i64 (Po.evalNd x f (Po.evalAll (o.take k) f)))) W.heap.size n o f (k + 1) := by
  have hb : Below wr.heap.size wr w6 := hb5.trans (((Below.refl _ _).drew).trans (hb6.mono hb5.size))
  have hs := h.below.size
  have hkl : k < o.length := by omega
  have ht : o.take (k + 1) = o.take k ++ [x] := by
    rw [List.take_succ_eq_append_getElem hkl]
    rw [List.getElem?_eq_getElem hkl] at hx
    simp at hx
    rw [hx]
  have hl : (Po.evalAll (o.take k) f).length = k := by rw [Po.evalAll_len, List.length_take]; omega
  refine ⟨(h.below.trans (hb.mono hs)).setCell (p := ⟨W.heap.size, k, none⟩) (Nat.le_refl _) _, (h.row.below hb).set hk ?_ fun j hj hjk => ?_⟩
  · rw [ht, Po.evalAll_snoc, Po.at_snoc, hl, if_neg (by omega), if_pos rfl]
  · rw [ht, Po.evalAll_snoc, Po.at_snoc, hl]
    by_cases c : j < k
    · rw [if_pos c]
    · rw [if_neg c, if_neg hjk, at_ge (by omega)]
theorem made_row {W w3 : World} {n : Nat} (hn : 0 < n) (hown : w3.ownsRow W.heap.size 3 1 (.slice (some ⟨W.heap.size, 0, none⟩) n n) n (madeCells #[.int .i64 0] n).toList) : RowI w3 W.heap.size n [] := by
  obtain ⟨g, cap, hv, hg, hlt, hc, hm, hx⟩ := own_cells hown hn
  simp only [Value.slice.injEq, Option.some.injEq, Addr.mk.injEq, and_true] at hv
  obtain ⟨rfl, -, -⟩ := hv
  have hf : ∀ o, w3.frozen? ⟨W.heap.size, o, none⟩ = false := by
    obtain ⟨-, ⟨hz, -⟩ | ⟨g, cap, cur, h1, h2, h3, -⟩⟩ := hown
    · cases hz
    · simp only [Value.slice.injEq, Option.some.injEq, Addr.mk.injEq, and_true] at h1
      obtain ⟨rfl, -⟩ := h1
      intro o
      simp [World.frozen?, h3]
  refine ⟨fun j hj => ?_, hf, hlt⟩
  rw [at_ge (by simp)]
  exact hx j _ (by simp [madeCells, hj, Nat.mod_one])
theorem round_facts {T N R K : Nat} {LT : Letters T N R K} {w W wr W5 : World} {f : Po.Facts} {vs vp : Value} {n k : Nat} {o : List Po.Nd} {x : Po.Nd} {cs : Array Value} (hg : Gl w) (hp : W.heap[w.heap.size + 1]? = some (.cells #[.int .i64 f.version, .int .i64 f.epoch, vs, vp] 103 (0, 0))) (hz : W.heap.size = w.heap.size + 1 + 1)
    (hB : Below w.heap.size w W) (hE : EvAt W wr W.heap.size n o f k) (hb5 : Below wr.heap.size wr W5) (hx : Po.OkNd k x) (hcn : cs.size = N) (n5 : W5.heap[wr.heap.size]? = some (.cells cs 155 (0, 0))) :
    ∃ fn, evalFns[x.k - 1]? = some fn ∧ Sem.run Tryz.prog (loadCellsFrom ⟨wr.heap.size, 0, none⟩ 0 N #[]) W5.drew = .ok cs W5.drew ∧ W5.cell? ⟨0, x.k, none⟩ = some (.func (.func fn) #[] #[]) ∧ W5.cell? ⟨wr.heap.size, 0, none⟩ = cs[0]? ∧
      W5.cell? ⟨w.heap.size + 1, 0, none⟩ = some (.int .i64 f.version) ∧ W5.cell? ⟨w.heap.size + 1, 1, none⟩ = some (.int .i64 f.epoch) ∧ W5.cell? ⟨w.heap.size + 1, 2, none⟩ = some vs ∧ W5.cell? ⟨w.heap.size + 1, 3, none⟩ = some vp := by
  obtain ⟨fn, hfn⟩ : ∃ fn, evalFns[x.k - 1]? = some fn := ⟨_, List.getElem?_eq_getElem (by have := hx.lo; have := hx.hi; simp [evalFns]; omega)⟩
  have hs := hE.below.size
  have hbl : ∀ j, j < W.heap.size → W5.heap[j]? = W.heap[j]? := fun j hj => (hb5.block j (by omega)).trans (hE.below.block j hj)
  have q := (hbl (w.heap.size + 1) (by omega)).trans hp
  have hgs := hg.size
  refine ⟨fn, hfn, LT.ld (b := wr.heap.size) (t := 155) n5 (by rw [hcn, LT.sz]), ?_, cell_of_row _ _ 0 _ _ _ n5, cell_of_row _ _ 0 _ _ _ q, cell_of_row _ _ 1 _ _ _ q, cell_of_row _ _ 2 _ _ _ q, cell_of_row _ _ 3 _ _ _ q⟩
  have h1 := hg.ev _ _ hfn
  rw [show x.k - 1 + 1 = x.k by have := hx.lo; omega] at h1
  rw [← h1]
  have e : W5.heap[0]? = w.heap[0]? := (hbl _ (by omega)).trans (hB.block _ (by omega))
  exact World.cell?_of_block (a := ⟨0, x.k, none⟩) e
set_option maxRecDepth 1000000 in
set_option maxHeartbeats 1000000 in
theorem po_eval (v vf : Value) (o : List Po.Nd) (f : Po.Facts) (w : World) (L : Nat) (hg : Gl w) (hn : RNds w L w.heap.size v o) (hok : Po.OkAll o) (hl : o.length ≤ 100000) (hf : RFacts w w.heap.size vf f) (hv : ValidF f) :
    Calls Tryz.prog 41 #[.agg #[v], vf] w fun e w' => e = .returned (.int .i64 (Po.eval o f)) ∧ Below w.heap.size w w' := by
  obtain ⟨T, N, R, K, LT⟩ := letters
  obtain ⟨A, c, rfl, hnc, hcm⟩ := hn.form
  obtain ⟨vs, vp, rfl, hs, hp⟩ := hf
  obtain ⟨n, hn0⟩ : ∃ n, o.length = n := ⟨_, rfl⟩
  have HN := Lib.hid hn0
  rw [hn0] at hl
  rw [HN.out]
  obtain ⟨i0, hi, hz0, hz1, hz2⟩ := info_parts int_info
  obtain ⟨W, hW⟩ : ∃ W, (w.alloc (.cells #[.slice A n c] 89)).alloc (.cells #[.int .i64 f.version, .int .i64 f.epoch, vs, vp] 103) = W := ⟨_, rfl⟩
  obtain ⟨b1, b2, hB, hsz⟩ := two_boxes W hW
  have p0 := cell_of_row _ _ 0 _ _ _ b1
  simp only [List.getElem?_toArray, List.getElem?_cons_zero] at p0
  have HP := Lib.hid (And.intro b1 b2)
  have HBW := Lib.hid hB
  have HSZ := Lib.hid hsz
  have HD := Lib.hid (And.intro hg (And.intro hn (And.intro hok (And.intro hv (And.intro hs hp)))))
  clear b1 b2 hB hsz hg hn hok hv hs hp hn0 hnc hcm
  go_enter Tryz.func41, Tryz.ntmps41
  simp only [LT.load, LT.store]
  go_wp2_with (at_make; refine wpList_make_full _ rfl _ _ 41 rfl W.heap.size 3 i0 (.int .i64 0) 1 Tryz.underlying41 hi hz0 hz1 _ _ _ _ n rfl rfl rfl rfl (by rw [hz2]; omega) (by unfold maxLen; omega) (Nat.le_refl _) ?_)
  intro w3 hown hgr
  clear hi hz0 hz1 hz2
  have hb3 : Below W.heap.size W w3 := (Below.refl _ _).grown hgr (Nat.le_refl _) (fun k hk => by cases hk)
  have hp3 : w3.cell? ⟨w.heap.size, 0, none⟩ = some (.slice A n c) := (hb3.cell (p := ⟨w.heap.size, 0, none⟩) (show w.heap.size < W.heap.size by rw [HSZ.out]; omega)).trans p0
  have HE3 : Hid (0 < n → EvAt W w3 W.heap.size n o f 0) := Lib.hid fun hn => EvAt.mk hb3 (made_row hn hown)
  have HB3 := Lib.hid hb3
  clear hb3 hown hgr p0 hW
  rcases Nat.eq_zero_or_pos n with hz | hpos
  · subst hz
    obtain rfl : o = [] := List.eq_nil_of_length_eq_zero HN.out
    go_wp2_with fail
    go_loopg [15] 0 (fun g s15 wr => s15 = .int .i64 0 ∧ wr = w3)
    case atStart => exact ⟨rfl, rfl⟩
    case round =>
      obtain ⟨rfl, rfl⟩ := hrel
      go_wp2_with fail
      go_ret
      exact ⟨rfl, HBW.out.trans (HB3.out.mono HBW.out.size)⟩
  go_wp2_with fail
  clear hp3
  go_loopg [15] n (fun g s15 wr => ∃ k : Nat, k + g = n ∧ s15 = .int .i64 k ∧ Hid (EvAt W wr W.heap.size n o f k))
  case atStart => exact ⟨0, by omega, rfl, Lib.hid (HE3.out hpos)⟩
  case round =>
    obtain ⟨k, hkg, rfl, HE⟩ := hrel
    clear HE3
    cases gk with
    | zero =>
      obtain rfl : k = n := by omega
      have hk : ¬ (k : Int) < k := by omega
      have hq := HE.out.row.at_ (k - 1) (by omega)
      rw [show Po.evalAll (o.take k) f = Po.evalAll o f by rw [List.take_of_length_le (by rw [HN.out]; exact Nat.le_refl _)], ← HN.out, ← Po.eval_at] at hq
      rw [HN.out] at hq
      have HEV := Lib.hid (show Below w.heap.size w wr from HBW.out.trans (HE.out.below.mono HBW.out.size))
      have hne : ((k : Int) == 0) = false := by simp; omega
      have hin : 1 ≤ (k : Int) ∧ (k : Int) - 1 < k := by omega
      go_wp2_with fail
      go_ret
      exact ⟨rfl, HEV.out⟩
    | succ g =>
      have hk : (k : Int) < n := by omega
      have hk2 : 0 ≤ (k : Int) ∧ (k : Int) < n := by omega
      obtain ⟨x, hx⟩ : ∃ x, o[k]? = some x := ⟨_, List.getElem?_eq_getElem (by rw [HN.out]; omega)⟩
      obtain ⟨b, off, u, rfl, hbB, hrw, hof⟩ := HD.out.2.1.at hx
      have hbW : Below w.heap.size w wr := HBW.out.trans (HE.out.below.mono HBW.out.size)
      have hrr : wr.rangeAt b (off + k * 21) (ndVals x u) := fun j v hv => (hbW.cell (p := ⟨b, _, none⟩) hbB).trans (hrw j v hv)
      have hok := HD.out.2.2.1 k x hx
      have hld := LT.ldN hrr (ndVals_len hok.dg)
      have la := LT.agg
      have lz := LT.size
      obtain ⟨cs, hcs⟩ : ∃ cs, (ndVals x u).toArray = cs := ⟨_, rfl⟩
      have hst := store_new hok.dg hof.one' wr
      have hcn : cs.size = N := by rw [← hcs, LT.sz]; exact nd_size hok.dg
      have hcl := (nd_cells x u hok.dg).1
      rw [hcs] at hld hst hcl
      have q0 : (wr.alloc (.cells cs 155)).cell? ⟨wr.heap.size, 0, none⟩ = some (.int .i64 x.k) := (cell_of_row _ _ 0 cs _ _ (heap_alloc_new wr _)).trans hcl
      have hlo := hok.lo
      have hhi := hok.hi
      have hk3 : (0 : Int) < x.k := by omega
      have hk4 : (x.k : Int) < 11 := by omega
      have HC := Lib.hid hcs
      have HCL := Lib.hid hcl
      have HX := Lib.hid (And.intro hx (And.intro hof hok))
      clear hrr hrw hbW hbB hcs hx hof hok hcl hlo hhi
      go_upto_region 6 with fail
      clear hst hld q0
      have hk5 : 0 ≤ (x.k : Int) ∧ (x.k : Int) < 11 := by omega
      obtain ⟨W5, hW5⟩ : ∃ W5, wr.alloc (.cells cs 155) = W5 := ⟨_, rfl⟩
      rw [hW5]
      have hb5 : Below wr.heap.size wr W5 := by rw [← hW5]; exact Below.new _
      have n5 : W5.heap[wr.heap.size]? = some (.cells cs 155 (0, 0)) := by rw [← hW5]; exact heap_alloc_new _ _
      have hs5 : W5.heap.size = wr.heap.size + 1 := by rw [← hW5]; simp
      have F := round_facts (LT := LT) HD.out.1 HP.out.2 HSZ.out HBW.out HE.out hb5 HX.out.2.2 hcn n5
      obtain ⟨fn, hfn, f0, f1, f2, f3, f4, f5, f6⟩ := F
      have eg := ev_enters _ _ hfn
      have HS : Hid (∀ W', (∀ j, j < W.heap.size ∨ j = wr.heap.size → W'.heap[j]? = W5.heap[j]?) → (W'.cell? ⟨wr.heap.size, 0, none⟩ = some (.int .i64 x.k) ∧ W'.cell? ⟨0, x.k, none⟩ = some (.func (.func fn) #[] #[]) ∧ W'.cell? ⟨w.heap.size + 1, 0, none⟩ = some (.int .i64 f.version) ∧ W'.cell? ⟨w.heap.size + 1, 1, none⟩ = some (.int .i64 f.epoch) ∧ W'.cell? ⟨w.heap.size + 1, 2, none⟩ = some vs ∧ W'.cell? ⟨w.heap.size + 1, 3, none⟩ = some vp ∧ Sem.run Tryz.prog (loadCellsFrom ⟨wr.heap.size, 0, none⟩ 0 N #[]) W' = .ok cs W')) := Lib.hid fun W' hW' => by
        have c1 : ∀ j p, j < W.heap.size ∨ j = wr.heap.size → W'.cell? ⟨j, p, none⟩ = W5.cell? ⟨j, p, none⟩ := fun j p hj => World.cell?_of_block (a := ⟨j, p, none⟩) (hW' j hj)
        have hz := HSZ.out
        have n5' := (hW' _ (.inr rfl)).trans n5
        have hgs := HD.out.1.size
        exact ⟨(c1 _ _ (.inr rfl)).trans (f2.trans HCL.out), (c1 _ _ (.inl (by have := HBW.out.size; omega))).trans f1, (c1 _ _ (.inl (by omega))).trans f3, (c1 _ _ (.inl (by omega))).trans f4, (c1 _ _ (.inl (by omega))).trans f5, (c1 _ _ (.inl (by omega))).trans f6, LT.ld (b := wr.heap.size) (t := 155) n5' (by rw [hcn, LT.sz])⟩
      have HCALL : Hid (∀ Wc, Below W5.heap.size W5 Wc → Calls Tryz.prog fn #[.agg cs, .agg #[.int .i64 f.version, .int .i64 f.epoch, vs, vp], .slice (some ⟨W.heap.size, 0, none⟩) n n] Wc fun e w' => e = .returned (.int .i64 (Po.evalNd x f (Po.evalAll (o.take k) f))) ∧ Below Wc.heap.size Wc w') := Lib.hid fun Wc hWc => by
        obtain ⟨hx, hof, hok⟩ := HX.out
        have hw : Below w.heap.size w Wc := HBW.out.trans ((HE.out.below.mono HBW.out.size).trans ((hb5.mono (Nat.le_trans HBW.out.size HE.out.below.size)).trans (hWc.mono (Nat.le_trans HBW.out.size (Nat.le_trans HE.out.below.size hb5.size)))))
        have hrow := (HE.out.row.below hb5).below hWc
        obtain ⟨fn', hfn', hc⟩ := ev_node x u (.agg #[.int .i64 f.version, .int .i64 f.epoch, vs, vp]) k n W.heap.size L hok f HD.out.2.2.2.1 (Po.evalAll (o.take k) f) Wc
          ⟨vs, vp, rfl, (HD.out.2.2.2.2.1.below hw).mono hw.size, (HD.out.2.2.2.2.2.below hw).mono hw.size⟩ ((hof.frame fun j _ hj => hw.block j hj).more (Nat.le_refl _) hw.size) (fun j hj => hrow.at_ j (by omega)) (Po.evalAll_val _ _) (by omega)
        rw [hfn] at hfn'
        simp only [Option.some.injEq] at hfn'
        rw [← hfn', HC.out] at hc
        exact hc
      have hBD : Below W5.heap.size W5 W5.drew := (Below.refl _ _).drew
      have HB5 := Lib.hid (And.intro hb5 hs5)
      have HRW := Lib.hid (HE.out.row.below hb5)
      have HKC := Lib.hid (HRW.out.at_ k (by omega))
      have HK : Hid (∀ w6, Below W5.heap.size W5.drew w6 → ∀ j, j < W.heap.size ∨ j = wr.heap.size → w6.heap[j]? = W5.heap[j]?) := Lib.hid fun w6 h j hj => h.block j (by have := HE.out.below.size; have := HB5.out.2; omega)
      have HK2 : Hid (∀ w6, Below W5.heap.size W5.drew w6 → ∀ v, ∀ j, j < W.heap.size ∨ j = wr.heap.size → (w6.setCell ⟨W.heap.size, k, none⟩ v).heap[j]? = W5.heap[j]?) := Lib.hid fun w6 h v j hj => (set_other _ _ _ _ _ (by have := HE.out.row.lt; omega)).trans (HK.out w6 h j hj)
      clear hW5 hb5 n5 hs5
      clear f0 f1 f2 f3 f4 f5 f6
      go_region_held3 (fun W' => W'.cell? ⟨wr.heap.size, 0, none⟩ = some (.int .i64 x.k) ∧ W'.cell? ⟨0, x.k, none⟩ = some (.func (.func fn) #[] #[]) ∧ W'.cell? ⟨w.heap.size + 1, 0, none⟩ = some (.int .i64 f.version) ∧ W'.cell? ⟨w.heap.size + 1, 1, none⟩ = some (.int .i64 f.epoch) ∧ W'.cell? ⟨w.heap.size + 1, 2, none⟩ = some vs ∧ W'.cell? ⟨w.heap.size + 1, 3, none⟩ = some vp ∧ Sem.run Tryz.prog (loadCellsFrom ⟨wr.heap.size, 0, none⟩ 0 N #[]) W' = .ok cs W') (first | assumption | exact HS.out _ (fun _ _ => rfl) | exact HS.out _ hk6 | exact HS.out _ (hk7 _)) (first
        | (go_at_fn fn; (with_reducible refine (HCALL.out _ hBD).mono ?_); rintro e w6 ⟨rfl, hb6⟩; have hk6 : ∀ j, j < W.heap.size ∨ j = wr.heap.size → w6.heap[j]? = W5.heap[j]? := HK.out _ hb6; have hc6 := (hb6.cell (p := ⟨W.heap.size, k, none⟩) HRW.out.lt).trans HKC.out; have hf6 := (hb6.frozen (p := ⟨W.heap.size, k, none⟩) HRW.out.lt).trans (HRW.out.fr k); have hk7 : ∀ v, ∀ j, j < W.heap.size ∨ j = wr.heap.size → (w6.setCell ⟨W.heap.size, k, none⟩ v).heap[j]? = W5.heap[j]? := HK2.out _ hb6))
      go_wp2_with fail
      go_roundg g
      case measure => omega
      case rel => exact ⟨k + 1, by omega, by go_num, Lib.hid (HE.out.next HB5.out.1 hb6 HX.out.1 (by omega) HN.out)⟩
end Go.Proofs.YtdeccekeknlnoaaGreatDoor
