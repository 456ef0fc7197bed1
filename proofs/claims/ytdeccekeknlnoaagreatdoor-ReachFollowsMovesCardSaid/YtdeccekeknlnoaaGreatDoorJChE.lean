/- Chapter 38: package check: ranges. | Chapter 38: package check: named. | Chapter 38: package check: limit. | Chapter 38: package check: typed, Cost, fits, Of. -/
import Derived.Test.YtdeccekeknlnoaaGreatDoorJChA
namespace Go.Proofs.YtdeccekeknlnoaaGreatDoor
open Go.RowKit
/-- the cells of the program in its box, in every world that has come since -/
theorem ProgV.box {w : World} {v : Value} (hp : ProgV w v) : ∃ g c h c', v = .agg #[.slice none 0 0, .slice (some ⟨g, 0, none⟩) 2 c, .int .i64 1, .int .i64 0] ∧ PBox (w.alloc (.cells #[.slice none 0 0, .slice (some ⟨g, 0, none⟩) 2 c, .int .i64 1, .int .i64 0] 217)) w.heap.size g c h c' := by
  obtain ⟨g, c, h, c', rfl, hg, hh, hr, hc⟩ := hp
  have hb0 := Below.new (w := w) (.cells #[.slice none 0 0, .slice (some ⟨g, 0, none⟩) 2 c, .int .i64 1, .int .i64 0] 217)
  exact ⟨g, c, h, c', rfl, heap_alloc_new _ _, by simp; omega, by simp; omega, fun j u hu => (hb0.cell (p := ⟨g, 0 + j, none⟩) hg).trans (hr j u hu), (hb0.cell (p := ⟨h, 0, none⟩) hh).trans hc⟩
set_option maxRecDepth 1000000 in
set_option maxHeartbeats 600000 in
theorem ch_ranges (v : Value) (w : World) (hp : ProgV w v) : Calls Tryz.prog 227 #[v] w fun e w' => e = .returned (.bool true) ∧ Below w.heap.size w w' := by
  obtain ⟨S, hS⟩ : ∃ S : Ending → World → Prop, (fun e w' => e = .returned (.bool true) ∧ Below w.heap.size w w') = S := ⟨_, rfl⟩
  rw [hS]
  have HSS := Lib.hid hS
  obtain ⟨g, c, h, c', rfl, hb⟩ := hp.box
  obtain ⟨m0, m1, -, -, n0, n1, n2, n3, n4, n5, n6, n7, -⟩ := hb.nodes
  have p4 := fun X => al_cell X n4
  have p5 := fun X => al_cell X n5
  have p6 := fun X => al_cell X n6
  have p7 := fun X => al_cell X n7
  have p0 := fun X Y => al_cell Y (al_cell X m0)
  clear hS hp hb
  go_enter Tryz.func227, Tryz.ntmps227
  go_wp2_with fail
  refine wp_loop_rounds 3 ?_
  rw [rounds_succ]
  go_wp2_with fail
  rw [rounds_succ]
  go_wp2_with fail
  rw [rounds_succ]
  go_wp2_with fail
  refine wp_loop_rounds 1 ?_
  rw [rounds_succ]
  go_wp2_with fail
  rw [← HSS.out]
  exact ⟨rfl, ((((Below.refl _ _).alloc (Nat.le_refl _) _).alloc (by simp) _).alloc (by simp; omega) _)⟩
set_option maxRecDepth 1000000 in
set_option maxHeartbeats 600000 in
theorem ch_sizes (v : Value) (w : World) (hp : ProgV w v) : Calls Tryz.prog 261 #[v] w fun e w' => e = .returned (.slice none 0 0) ∧ Below w.heap.size w w' := by
  obtain ⟨S, hS⟩ : ∃ S : Ending → World → Prop, (fun e w' => e = .returned (.slice none 0 0) ∧ Below w.heap.size w w') = S := ⟨_, rfl⟩
  rw [hS]
  have HSS := Lib.hid hS
  obtain ⟨g, c, h, c', rfl, hb⟩ := hp.box
  obtain ⟨m0, -⟩ := hb.nodes
  clear hS hp hb
  go_enter Tryz.func261, Tryz.ntmps261
  go_wp2_with fail
  refine wp_loop_rounds 1 ?_
  rw [rounds_succ]
  go_wp2_with fail
  rw [← HSS.out]
  exact ⟨rfl, (Below.refl _ _).alloc (Nat.le_refl _) _⟩
end Go.Proofs.YtdeccekeknlnoaaGreatDoor

namespace Go.Proofs.YtdeccekeknlnoaaGreatDoor
open Go.RowKit
set_option maxRecDepth 1000000 in
set_option maxHeartbeats 600000 in
theorem ch_named (v : Value) (w : World) (hp : ProgV w v) : Calls Tryz.prog 225 #[v] w fun e w' => e = .returned (.bool true) ∧ Below w.heap.size w w' := by
  obtain ⟨S, hS⟩ : ∃ S : Ending → World → Prop, (fun e w' => e = .returned (.bool true) ∧ Below w.heap.size w w') = S := ⟨_, rfl⟩
  rw [hS]
  have HSS := Lib.hid hS
  obtain ⟨g, c, h, c', rfl, hb⟩ := hp.box
  obtain ⟨m0, m1, -, -, n0, n1, n2, n3, n4, n5, n6, n7, -⟩ := hb.nodes
  have hmk : ∀ w, (Instr.makeMap 383 none).run Tryz.prog w = .ok (.map (some w.heap.size)) (w.alloc (.map #[] 0)) := fun _ => rfl
  have q0 := fun X Y => al_cell Y (al_cell X m0)
  have q1 := fun X Y => al_cell Y (al_cell X m1)
  have r0 := fun X Y => al_cell Y (al_cell X n0)
  have r1 := fun X Y => al_cell Y (al_cell X n1)
  have r2 := fun X Y => al_cell Y (al_cell X n2)
  have r3 := fun X Y => al_cell Y (al_cell X n3)
  have r4 := fun X Y Z => al_cell Z (al_cell Y (al_cell X n4))
  have r5 := fun X Y Z => al_cell Z (al_cell Y (al_cell X n5))
  have r6 := fun X Y Z => al_cell Z (al_cell Y (al_cell X n6))
  have r7 := fun X Y Z => al_cell Z (al_cell Y (al_cell X n7))
  clear hS hp hb
  go_enter Tryz.func225, Tryz.ntmps225
  go_wp2_with fail
  refine wp_loop_rounds 1 ?_
  rw [rounds_succ]
  go_wp2_with fail
  refine wp_loop_rounds 3 ?_
  rw [rounds_succ]
  go_wp2_with fail
  rw [rounds_succ]
  go_wp2_with fail
  rw [rounds_succ]
  go_wp2_with fail
  rw [← HSS.out]
  exact ⟨rfl, (((((Below.refl _ _).alloc (Nat.le_refl _) _).alloc (by simp) _).alloc (by simp; omega) _).alloc (by simp; omega) _).alloc (by simp; omega) _⟩
end Go.Proofs.YtdeccekeknlnoaaGreatDoor

namespace Go.Proofs.YtdeccekeknlnoaaGreatDoor
open Go.RowKit
set_option maxRecDepth 1000000 in
set_option maxHeartbeats 600000 in
theorem ch_limit1 (b c : Nat) (w : World) (h0 : w.cell? ⟨b, 0, none⟩ = some (.int .i64 1)) : Calls Tryz.prog 272 #[.slice (some ⟨b, 0, none⟩) 1 c] w fun e w' => e = .returned (.int .i64 1) ∧ w' = w := by
  go_enter Tryz.func272, Tryz.ntmps272
  go_wp2_with fail
  refine wp_loop_rounds 2 ?_
  rw [rounds_succ]
  go_wp2_with fail
  rw [rounds_succ]
  go_wp2_with fail
  go_ret
  exact ⟨rfl, rfl⟩
set_option maxRecDepth 1000000 in
set_option maxHeartbeats 600000 in
theorem ch_limit2 (b c : Nat) (w : World) (h0 : w.cell? ⟨b, 0, none⟩ = some (.int .i64 1)) (h1 : w.cell? ⟨b, 1, none⟩ = some (.int .i64 1)) : Calls Tryz.prog 272 #[.slice (some ⟨b, 0, none⟩) 2 c] w fun e w' => e = .returned (.int .i64 2) ∧ w' = w := by
  go_enter Tryz.func272, Tryz.ntmps272
  go_wp2_with fail
  refine wp_loop_rounds 3 ?_
  rw [rounds_succ]
  go_wp2_with fail
  rw [rounds_succ]
  go_wp2_with fail
  rw [rounds_succ]
  go_wp2_with fail
  go_ret
  exact ⟨rfl, rfl⟩
end Go.Proofs.YtdeccekeknlnoaaGreatDoor

namespace Go.Proofs.YtdeccekeknlnoaaGreatDoor
open Go.RowKit
theorem made_two (x : Value) : madeCells #[x] 2 = #[x, x] := by
  apply Array.ext
  · simp [madeCells]
  · intro i h1 h2
    have h : i = 0 ∨ i = 1 := by simp [madeCells] at h1; omega
    rcases h with h | h <;> subst h <;> simp [madeCells]
theorem made_zero (x : Value) : madeCells #[x] 0 = #[] := by
  apply Array.ext
  · simp [madeCells]
  · intro i h1 h2
    simp at h2
set_option maxRecDepth 1000000 in
set_option maxHeartbeats 600000 in
theorem ch_typed (v : Value) (w : World) (hp : ProgV w v) : Calls Tryz.prog 226 #[v] w fun e w' => e = .returned (.bool true) ∧ Below w.heap.size w w' := by
  obtain ⟨S, hS⟩ : ∃ S : Ending → World → Prop, (fun e w' => e = .returned (.bool true) ∧ Below w.heap.size w w') = S := ⟨_, rfl⟩
  rw [hS]
  have HSS := Lib.hid hS
  obtain ⟨g, c, h, c', rfl, hb⟩ := hp.box
  have hb0 := Below.new (w := w) (.cells #[.slice none 0 0, .slice (some ⟨g, 0, none⟩) 2 c, .int .i64 1, .int .i64 0] 217)
  obtain ⟨W0, hW0⟩ : ∃ X, w.alloc (.cells #[.slice none 0 0, .slice (some ⟨g, 0, none⟩) 2 c, .int .i64 1, .int .i64 0] 217) = X := ⟨_, rfl⟩
  rw [hW0] at hb hb0
  have hmk : ∀ w, (Instr.makeMap 384 none).run Tryz.prog w = .ok (.map (some w.heap.size)) (w.alloc (.map #[] 0)) := fun _ => rfl
  have hmf : ∀ (fn : Fn) (first cap : Array Value) (w : World), (Instr.makeFunc fn first cap).run Tryz.prog w = .ok (.func fn first cap) w := fun _ _ _ _ => rfl
  have hb1 := hb0.trans ((Below.new (w := W0) (.map #[] 0)).mono hb0.size)
  have hp1 := hb.below (Below.new (.map #[] 0))
  obtain ⟨W1, hW1⟩ : ∃ X, W0.alloc (.map #[] 0) = X := ⟨_, rfl⟩
  rw [hW1] at hb1 hp1
  obtain ⟨m0, m1, -, -, n0, n1, n2, n3, n4, n5, n6, n7, -⟩ := hp1.nodes
  have q0 := fun X => al_cell X m0
  have q1 := fun X Y Z => al_cell Z (al_cell Y (al_cell X m1))
  have r0 := fun X Y Z => al_cell Z (al_cell Y (al_cell X n0))
  have r1 := fun X Y Z => al_cell Z (al_cell Y (al_cell X n1))
  have r2 := fun X Y Z => al_cell Z (al_cell Y (al_cell X n2))
  have r3 := fun X Y Z => al_cell Z (al_cell Y (al_cell X n3))
  have r4 := fun X Y Z U => al_cell U (al_cell Z (al_cell Y (al_cell X n4)))
  have r5 := fun X Y Z U => al_cell U (al_cell Z (al_cell Y (al_cell X n5)))
  have r6 := fun X Y Z U => al_cell U (al_cell Z (al_cell Y (al_cell X n6)))
  have r7 := fun X Y Z U => al_cell U (al_cell Z (al_cell Y (al_cell X n7)))
  have hi0 : (Tryz.prog.info? 3).map (fun i => (i.zero, i.size, i.bytes)) = some (some (.int .i64 0), 1, 8) := by kernel_rfl
  obtain ⟨i0, hi, hz0, hz1, hz2⟩ := info_parts hi0
  have H0 := Lib.hid hb1
  clear hS hp hb hb0 hb1 hp1
  go_enter Tryz.func226, Tryz.ntmps226
  go_wp2_with fail
  refine wp_loop_rounds 1 ?_
  rw [rounds_succ]
  go_upto_region 8 with (at_make; refine wpList_make_row _ rfl _ _ 41 rfl 3 i0 (.int .i64 0) Tryz.underlying41 hi hz0 hz1 rfl _ _ 2 rfl rfl (by rw [hz2]; decide) (by decide) ?_; simp only [made_two])
  go_wp2_with fail
  refine wp_loop_rounds 3 ?_
  rw [rounds_succ]
  go_wp2_with fail
  rw [rounds_succ]
  go_wp2_with fail
  rw [rounds_succ]
  go_wp2_with fail
  rw [← HSS.out]
  exact ⟨rfl, (((((H0.out.alloc H0.out.size _).alloc (by have := H0.out.size; simp; omega) _).alloc (by have := H0.out.size; simp; omega) _).alloc (by have := H0.out.size; simp; omega) _).alloc (by have := H0.out.size; simp; omega) _)⟩
theorem five_boxes {w : World} {o1 o2 o3 o4 o5 : Obj} : ∀ W, (((((w.alloc o1).alloc o2).alloc o3).alloc o4).alloc o5).drew = W → W.heap[w.heap.size]? = some o1 ∧ W.heap[w.heap.size + 1 + 1 + 1 + 1]? = some o5 ∧ Below w.heap.size w W ∧ W.heap.size = w.heap.size + 5 := by
  rintro W rfl
  refine ⟨?_, ?_, ?_, by simp⟩
  · exact (Below.heap_alloc _ _ _ (by simp; omega)).trans ((Below.heap_alloc _ _ _ (by simp; omega)).trans ((Below.heap_alloc _ _ _ (by simp; omega)).trans ((Below.heap_alloc _ _ _ (by simp)).trans (heap_alloc_new _ _))))
  · have := heap_alloc_new ((((w.alloc o1).alloc o2).alloc o3).alloc o4) o5
    rwa [World.size_alloc, World.size_alloc, World.size_alloc, World.size_alloc] at this
  · exact (((((Below.refl _ _).alloc (Nat.le_refl _) _).alloc (by simp) _).alloc (by simp; omega) _).alloc (by simp; omega) _).alloc (by simp; omega) _ |>.drew
theorem two_boxesC {w : World} {o1 o2 : Obj} : ∀ W, (w.alloc o1).alloc o2 = W → W.heap[w.heap.size + 1]? = some o2 ∧ Below w.heap.size w W ∧ W.heap.size = w.heap.size + 2 := by
  rintro W rfl
  refine ⟨?_, ?_, by simp⟩
  · have := heap_alloc_new (w.alloc o1) o2
    rwa [World.size_alloc] at this
  · exact ((Below.refl _ _).alloc (Nat.le_refl _) _).alloc (by simp) _
theorem two_cellsC {w : World} {p : Nat} {x y : Value} {t : TypeId} (h : w.heap[p]? = some (.cells #[x, y] t (0, 0))) : w.cell? ⟨p, 0, none⟩ = some x ∧ w.cell? ⟨p, 1, none⟩ = some y ∧ ∀ o, w.frozen? ⟨p, o, none⟩ = false := by
  refine ⟨?_, ?_, fun o => ?_⟩ <;> simp [World.cell?, World.frozen?, h]
theorem head_cell {w : World} {p : Nat} {x : Value} {r : Array Value} {t : TypeId} (h : w.heap[p]? = some (.cells (#[x] ++ r) t (0, 0))) : w.cell? ⟨p, 0, none⟩ = some x := by
  simp [World.cell?, h, Array.getElem?_append]
set_option maxRecDepth 1000000 in
set_option maxHeartbeats 600000 in
theorem ch_cost (v : Value) (w : World) (hp : ProgV w v) : Calls Tryz.prog 260 #[v] w fun e w' => e = .returned (.int .i64 2) ∧ Below w.heap.size w w' := by
  obtain ⟨S, hS⟩ : ∃ S : Ending → World → Prop, (fun e w' => e = .returned (.int .i64 2) ∧ Below w.heap.size w w') = S := ⟨_, rfl⟩
  rw [hS]
  have HSS := Lib.hid hS
  have hb0 : ∀ o, Below w.heap.size w (w.alloc o) := fun o => Below.new _
  have hpp := hp.below (hb0 (.cells #[.slice none 0 0] 0))
  obtain ⟨g, c, h, c', rfl, hb⟩ := hp.box
  obtain ⟨W0, hW0⟩ : ∃ X, w.alloc (.cells #[.slice none 0 0, .slice (some ⟨g, 0, none⟩) 2 c, .int .i64 1, .int .i64 0] 217) = X := ⟨_, rfl⟩
  have hbw : Below w.heap.size w W0 := by rw [← hW0]; exact Below.new _
  have HF := Lib.hid (ch_formed _ W0 (hp.below hbw))
  rw [hW0] at hb
  obtain ⟨m0, m1, m2, m3, -⟩ := hb.nodes
  have hi0 : (Tryz.prog.info? 3).map (fun i => (i.zero, i.size, i.bytes)) = some (some (.int .i64 0), 1, 8) := by kernel_rfl
  obtain ⟨i0, hi, hz0, hz1, hz2⟩ := info_parts hi0
  have H0 := Lib.hid (And.intro hb hbw)
  clear hS hp hpp hb hb0 hi0 hbw
  go_enter Tryz.func260, Tryz.ntmps260
  go_wp2_with (first
    | (go_at_call 224; refine HF.out.mono ?_; rintro e W1 ⟨rfl, hb1⟩; obtain ⟨hb, hbw⟩ := H0.out; have hp1 := hb.below hb1; have hbw1 := hbw.trans (hb1.mono hbw.size); obtain ⟨m0, m1, m2, m3, n0, n1, n2, n3, n4, n5, n6, n7, -⟩ := hp1.nodes; have q1 := fun X => al_cell X m1; have r0 := fun X => al_cell X n0; have r1 := fun X => al_cell X n1; have r2 := fun X => al_cell X n2; have r3 := fun X => al_cell X n3; have H1 := Lib.hid (And.intro hp1 hbw1); clear hb hbw hp1 hbw1 hb1)
    | (at_make; refine wpList_make_row _ rfl _ _ 41 rfl 3 i0 (.int .i64 0) Tryz.underlying41 hi hz0 hz1 rfl _ _ 2 rfl rfl (by rw [hz2]; decide) (by decide) ?_; simp only [made_two]))
  refine wp_loop_rounds 3 ?_
  rw [rounds_succ]
  go_upto_region 14 with (first
    | (at_make; refine wpList_make_row _ rfl _ _ 41 rfl 3 i0 (.int .i64 0) Tryz.underlying41 hi hz0 hz1 rfl _ _ 0 rfl rfl (by rw [hz2]; decide) (by decide) ?_; simp only [made_zero]))
  refine wp_loop_rounds 1 ?_
  rw [rounds_succ]
  go_wp2_with (go_at_call 272; generalize hX : (World.alloc _ _).drew = X; obtain ⟨b0, b4, hbX, hsX⟩ := five_boxes X hX; refine (ch_limit1 _ _ X (head_cell b4)).mono ?_; rintro e w2 ⟨rfl, hq⟩; have hq' := hq.symm; subst hq'; obtain ⟨x0, x1, xf⟩ := two_cellsC b0; clear hX)
  have hY0 := heap_set b0 0 (.int .i64 1)
  simp only [List.setIfInBounds_toArray, List.set_cons_zero] at hY0
  have hYb : Below W1.heap.size W1 (X.setCell ⟨W1.heap.size, 0, none⟩ (.int .i64 1)) := hbX.setCell (p := ⟨W1.heap.size, 0, none⟩) (Nat.le_refl _) _
  obtain ⟨Y, hY⟩ : ∃ Y, X.setCell ⟨W1.heap.size, 0, none⟩ (.int .i64 1) = Y := ⟨_, rfl⟩
  have hYs : Y.heap.size = W1.heap.size + 5 := by rw [← hY]; simp [World.setCell, hsX]
  rw [hY] at hY0 hYb ⊢
  obtain ⟨hp1, hbw1⟩ := H1.out
  have hp2 := hp1.below hYb
  have hbw2 := hbw1.trans (hYb.mono hbw1.size)
  clear hY b0 b4 hbX hsX x0 x1 xf m0 m1 m2 m3 n0 n1 n2 n3 n4 n5 n6 n7 q1 r0 r1 r2 r3 hp1 hbw1
  obtain ⟨m0, m1, m2, m3, n0, n1, n2, n3, n4, n5, n6, n7, n8⟩ := hp2.nodes
  obtain ⟨y0, y1, yf⟩ := two_cellsC hY0
  have H2 := Lib.hid (And.intro hYb (And.intro hY0 hYs))
  have u0 := fun X => al_cell X n8
  have u1 := fun X Z => al_cell Z (al_cell X n8)
  have v1 := fun X Z => al_cell Z (al_cell X y0)
  clear hp2 hbw2 hY0 hYb hYs
  rw [rounds_succ]
  go_wp2_with (first
    | (at_make; refine wpList_make_row _ rfl _ _ 41 rfl 3 i0 (.int .i64 0) Tryz.underlying41 hi hz0 hz1 rfl _ _ 1 rfl rfl (by rw [hz2]; decide) (by decide) ?_; simp only [made_one]))
  refine wp_loop_rounds 2 ?_
  rw [rounds_succ]
  go_wp2_with fail
  rw [rounds_succ]
  go_wp2_with (go_at_call 272; generalize hX : World.alloc _ _ = X; obtain ⟨b1, hbX, hsX⟩ := two_boxesC X hX; refine (ch_limit1 _ _ X (one_cell b1).1).mono ?_; rintro e w2 ⟨rfl, hq⟩; have hq' := hq.symm; subst hq'; obtain ⟨x0, x1, xf⟩ := two_cellsC ((hbX.block _ (by rw [H2.out.2.2]; omega)).trans H2.out.2.1); clear hX)
  obtain ⟨hYb, hY0, hYs⟩ := H2.out
  obtain ⟨hp1, hbw1⟩ := H1.out
  have hV0 := heap_set ((hbX.block _ (by omega)).trans hY0) 1 (.int .i64 1)
  simp only [List.setIfInBounds_toArray, List.set_cons_zero, List.set_cons_succ] at hV0
  have hVb : Below W1.heap.size Y (X.setCell ⟨W1.heap.size, 1, none⟩ (.int .i64 1)) := by
    have h : Below W1.heap.size Y X := hbX.mono (by omega)
    exact h.setCell (p := ⟨W1.heap.size, 1, none⟩) (Nat.le_refl _) _
  obtain ⟨V, hV⟩ : ∃ V, X.setCell ⟨W1.heap.size, 1, none⟩ (.int .i64 1) = V := ⟨_, rfl⟩
  rw [hV] at hV0 hVb ⊢
  have hWV := hYb.trans hVb
  have hp3 := hp1.below hWV
  have hbw3 := hbw1.trans (hWV.mono hbw1.size)
  clear hV b1 hbX hsX x0 x1 xf m0 m1 m2 m3 n0 n1 n2 n3 n4 n5 n6 n7 n8 u0 u1 v1 y0 y1 yf hp1 hbw1 hYb hY0 hYs H2 H1
  obtain ⟨m0, m1, m2, m3, -⟩ := hp3.nodes
  obtain ⟨y0, y1, yf⟩ := two_cellsC hV0
  have H3 := Lib.hid hbw3
  clear hp3 hWV hVb hV0 hbw3
  rw [rounds_succ]
  go_wp2_with (go_at_call 272; refine (ch_limit2 _ _ _ (two_cellsC (heap_alloc_new _ _)).1 (two_cellsC (heap_alloc_new _ _)).2.1).mono ?_; rintro e w2 ⟨rfl, hq⟩; have hq' := hq.symm; subst hq')
  rw [← HSS.out]
  exact ⟨rfl, H3.out.alloc H3.out.size _⟩
set_option maxRecDepth 1000000 in
set_option maxHeartbeats 600000 in
theorem ch_fits (v : Value) (w : World) (hp : ProgV w v) : Calls Tryz.prog 228 #[v] w fun e w' => e = .returned (.bool true) ∧ Below w.heap.size w w' := by
  obtain ⟨S, hS⟩ : ∃ S : Ending → World → Prop, (fun e w' => e = .returned (.bool true) ∧ Below w.heap.size w w') = S := ⟨_, rfl⟩
  rw [hS]
  have HSS := Lib.hid hS
  obtain ⟨g, c, h, c', rfl, hb⟩ := hp.box
  obtain ⟨W0, hW0⟩ : ∃ X, w.alloc (.cells #[.slice none 0 0, .slice (some ⟨g, 0, none⟩) 2 c, .int .i64 1, .int .i64 0] 217) = X := ⟨_, rfl⟩
  have hbw : Below w.heap.size w W0 := by rw [← hW0]; exact Below.new _
  have hp0 := hp.below hbw
  have HF := Lib.hid (ch_cost _ W0 hp0)
  rw [hW0] at hb
  obtain ⟨m0, m1, m2, m3, -⟩ := hb.nodes
  have H0 := Lib.hid (And.intro hb (And.intro hbw hp0))
  clear hS hp hb hbw hp0
  go_enter Tryz.func228, Tryz.ntmps228
  go_wp2_with (first
    | (go_at_call 260; refine HF.out.mono ?_; rintro e W1 ⟨rfl, hb1⟩; obtain ⟨hb, hbw, hp0⟩ := H0.out; have hp1 := hb.below hb1; have hpv := hp0.below hb1; have hbw1 := hbw.trans (hb1.mono hbw.size); obtain ⟨m0, m1, m2, m3, -⟩ := hp1.nodes; have H1 := Lib.hid (And.intro hpv hbw1); clear hb hbw hp1 hbw1 hb1 hpv hp0)
    | (go_at_call 261; refine (ch_sizes _ _ H1.out.1).mono ?_; rintro e W2 ⟨rfl, hb2⟩; have H2 := Lib.hid (H1.out.2.trans (hb2.mono H1.out.2.size)); clear hb2))
  refine wp_loop_rounds 1 ?_
  rw [rounds_succ]
  go_wp2_with fail
  rw [← HSS.out]
  exact ⟨rfl, H2.out⟩
set_option maxRecDepth 1000000 in
set_option maxHeartbeats 600000 in
theorem ch_of (v : Value) (w : World) (hp : ProgV w v) : Calls Tryz.prog 194 #[v] w fun e w' => e = .returned (.int .i64 0) ∧ Below w.heap.size w w' := by
  obtain ⟨S, hS⟩ : ∃ S : Ending → World → Prop, (fun e w' => e = .returned (.int .i64 0) ∧ Below w.heap.size w w') = S := ⟨_, rfl⟩
  rw [hS]
  have HSS := Lib.hid hS
  obtain ⟨g, c, h, c', rfl, hb⟩ := hp.box
  obtain ⟨W0, hW0⟩ : ∃ X, w.alloc (.cells #[.slice none 0 0, .slice (some ⟨g, 0, none⟩) 2 c, .int .i64 1, .int .i64 0] 217) = X := ⟨_, rfl⟩
  have hbw : Below w.heap.size w W0 := by rw [← hW0]; exact Below.new _
  have hp0 := hp.below hbw
  rw [hW0] at hb
  obtain ⟨m0, m1, m2, m3, -⟩ := hb.nodes
  obtain ⟨pv, hpv⟩ : ∃ pv, Value.agg #[.slice none 0 0, .slice (some ⟨g, 0, none⟩) 2 c, .int .i64 1, .int .i64 0] = pv := ⟨_, rfl⟩
  have HK := Lib.hid (show ∀ W, Below W0.heap.size W0 W → Below w.heap.size w W ∧ ProgV W (.agg #[.slice none 0 0, .slice (some ⟨g, 0, none⟩) 2 c, .int .i64 1, .int .i64 0]) ∧ PBox W w.heap.size g c h c' from fun W hW => ⟨hbw.trans (hW.mono hbw.size), hp0.below hW, hb.below hW⟩)
  have B0 := Lib.hid (Below.refl W0.heap.size W0)
  clear hS hp hb hbw hp0 hpv
  go_enter Tryz.func194, Tryz.ntmps194
  go_wp2_with (first
    | (go_at_call 224; refine (ch_formed _ _ (HK.out _ B0.out).2.1).mono ?_; rintro e W1 ⟨rfl, hb1⟩; have B1 := Lib.hid (B0.out.trans (hb1.mono B0.out.size)); obtain ⟨m0, m1, m2, m3, -⟩ := (HK.out _ B1.out).2.2.nodes; clear hb1)
    | (go_at_call 225; refine (ch_named _ _ (HK.out _ B1.out).2.1).mono ?_; rintro e W2 ⟨rfl, hb1⟩; have B2 := Lib.hid (B1.out.trans (hb1.mono B1.out.size)); obtain ⟨m0, m1, m2, m3, -⟩ := (HK.out _ B2.out).2.2.nodes; clear hb1)
    | (go_at_call 226; refine (ch_typed _ _ (HK.out _ B2.out).2.1).mono ?_; rintro e W3 ⟨rfl, hb1⟩; have B3 := Lib.hid (B2.out.trans (hb1.mono B2.out.size)); obtain ⟨m0, m1, m2, m3, -⟩ := (HK.out _ B3.out).2.2.nodes; clear hb1)
    | (go_at_call 227; refine (ch_ranges _ _ (HK.out _ B3.out).2.1).mono ?_; rintro e W4 ⟨rfl, hb1⟩; have B4 := Lib.hid (B3.out.trans (hb1.mono B3.out.size)); obtain ⟨m0, m1, m2, m3, -⟩ := (HK.out _ B4.out).2.2.nodes; clear hb1)
    | (go_at_call 228; refine (ch_fits _ _ (HK.out _ B4.out).2.1).mono ?_; rintro e W5 ⟨rfl, hb1⟩; have B5 := Lib.hid (B4.out.trans (hb1.mono B4.out.size)); clear hb1))
  rw [← HSS.out]
  exact ⟨rfl, (HK.out _ B5.out).1⟩
end Go.Proofs.YtdeccekeknlnoaaGreatDoor
