/- Chapter 38: package compile: an instruction emitted; the variables. | Chapter 38: package compile: the variables, the nodes. -/
import Derived.Test.YtdeccekeknlnoaaGreatDoorJPrA
import Derived.Test.YtdeccekeknlnoaaGreatDoorJChE
namespace Go.Proofs.YtdeccekeknlnoaaGreatDoor
open Go.RowKit
/-- the generator at its block -/
def GenAt (w : World) (gb g c r : Nat) (vi : Value) : Prop := w.heap[gb]? = some (.cells #[.slice none 0 0, .slice (some ⟨g, 0, none⟩) 2 c, .int .i64 1, .int .i64 0, .slice none 0 0, .map (some r), vi] 312 (0, 0))
theorem GenAt.cells {w : World} {gb g c r : Nat} {vi : Value} (h : GenAt w gb g c r vi) :
    w.cell? ⟨gb, 0, none⟩ = some (.slice none 0 0) ∧ w.cell? ⟨gb, 1, none⟩ = some (.slice (some ⟨g, 0, none⟩) 2 c) ∧ w.cell? ⟨gb, 2, none⟩ = some (.int .i64 1) ∧ w.cell? ⟨gb, 3, none⟩ = some (.int .i64 0) ∧ w.cell? ⟨gb, 4, none⟩ = some (.slice none 0 0) ∧ w.cell? ⟨gb, 5, none⟩ = some (.map (some r)) ∧ w.cell? ⟨gb, 6, none⟩ = some vi ∧ ∀ o, w.frozen? ⟨gb, o, none⟩ = false := by
  unfold GenAt at h
  refine ⟨?_, ?_, ?_, ?_, ?_, ?_, ?_, fun o => ?_⟩ <;> simp [World.cell?, World.frozen?, h]
theorem GenAt.below {w w' : World} {gb g c r : Nat} {vi : Value} (h : GenAt w gb g c r vi) (hb : Below w.heap.size w w') : GenAt w' gb g c r vi := (hb.block gb (lt_of_block h)).trans h
/-- what emitting an instruction leaves -/
def EmitSaid (gb g c r n : Nat) (vi : Value) (xs : List Value) (w : World) (e : Ending) (w' : World) : Prop :=
  ∃ f vi', e = .returned f ∧ GenAt w' gb g c r vi' ∧ w'.ownsRow (gb + 1) 352 3 vi' (n + 1) (xs ++ [.int .i64 16, .int .i64 0, .int .i64 0]) ∧ (w'.os = w.os ∧ w'.tape = w.tape ∧ w'.output = w.output ∧ w.heap.size ≤ w'.heap.size) ∧ ∀ k, k < w.heap.size → k ≠ gb → some k ≠ vi.ownBlock → w'.heap[k]? = w.heap[k]?
theorem emit_done {gb g c r n : Nat} {vi : Value} {xs : List Value} {w Wp w1 w2 : World} {g1 cap : Nat} {f : Value} (hW : Below w.heap.size w Wp) (hP : GenAt w1 gb g c r vi) (hO : w1.ownsRow (gb + 1) 352 3 (.slice (some ⟨g1, 0, none⟩) (n + 1) cap) (n + 1) (xs ++ [.int .i64 16, .int .i64 0, .int .i64 0])) (hG : Wp.grownBy w1 vi.ownBlock)
    (h2 : Below w1.heap.size (w1.setCell ⟨gb, 6, none⟩ (.slice (some ⟨g1, 0, none⟩) (n + 1) cap)) w2) : EmitSaid gb g c r n vi xs w (.returned f) w2 := by
  have hgb : gb + 1 ≤ g1 := by
    obtain ⟨-, h2 | ⟨g', cap', cur, h2, h3, -⟩⟩ := hO
    · cases h2.1
    · cases h2
      exact h3
  have hgl : g1 < w1.heap.size := by
    obtain ⟨-, h2 | ⟨g', cap', cur, h2, h3, h4, -⟩⟩ := hO
    · cases h2.1
    · cases h2
      exact lt_of_block h4
  have hsz : (w1.setCell ⟨gb, 6, none⟩ (.slice (some ⟨g1, 0, none⟩) (n + 1) cap)).heap.size = w1.heap.size := by simp [World.setCell]
  refine ⟨f, _, rfl, ?_, own_frame hO (fun k hk => ?_), ⟨h2.os.trans (hG.os.trans hW.os), h2.tape.trans (hG.tape.trans hW.tape), h2.output.trans (hG.output.trans hW.output), ?_⟩, fun k hk hkp hko => ?_⟩
  · have := heap_set hP 6 (.slice (some ⟨g1, 0, none⟩) (n + 1) cap)
    exact (h2.block gb (lt_of_block hP)).trans (by simpa using this)
  · simp only [Value.ownBlock, Option.some.injEq] at hk
    subst hk
    exact (h2.block _ hgl).trans (set_other _ _ _ _ _ (by omega))
  · have := hG.size; have := hW.size; have := h2.size; omega
  · have hk1 := hG.size
    have hk2 := hW.size
    rw [h2.block k (by omega), set_other _ _ _ _ _ hkp, hG.block k (by omega) hko]
    exact hW.block k hk
set_option maxRecDepth 1000000 in
set_option maxHeartbeats 1000000 in
theorem co_emit {gb g c r : Nat} {vi : Value} (n : Nat) (hn : n ≤ 1) (xs : List Value) (w : World) (h : GenAt w gb g c r vi) (hr : w.ownsRow (gb + 1) 352 3 vi n xs) :
    Calls Tryz.prog 197 #[.pointer (some ⟨gb, 0, none⟩), .int .i64 16, .int .i64 0, .int .i64 0] w (EmitSaid gb g c r n vi xs w) := by
  have hp : gb < w.heap.size := lt_of_block h
  have hi0 : (Tryz.prog.info? 352).map (fun i => (i.zero, i.size, i.bytes)) = some (some (.agg #[.int .i64 0, .int .i64 0, .int .i64 0]), 3, 24) := by kernel_rfl
  obtain ⟨i0, hi, hz0, hz1, hz2⟩ := info_parts hi0
  obtain ⟨S, hS⟩ : ∃ S, EmitSaid gb g c r n vi xs w = S := ⟨_, rfl⟩
  rw [hS]
  have HSS := Lib.hid hS
  have hmf : ∀ (fn : Fn) (first cap : Array Value) (w : World), (Instr.makeFunc fn first cap).run Tryz.prog w = .ok (.func fn first cap) w := fun _ _ _ _ => rfl
  obtain ⟨W, hW⟩ : ∃ X, w.alloc (.cells #[.pointer (some ⟨gb, 0, none⟩)] 308) = X := ⟨_, rfl⟩
  have hbW : Below w.heap.size w W := by rw [← hW]; exact Below.new _
  have hsW : W.heap.size = w.heap.size + 1 := by rw [← hW]; simp
  have e0 : W.heap[w.heap.size]? = some (.cells #[.pointer (some ⟨gb, 0, none⟩)] 308 (0, 0)) := by rw [← hW]; exact heap_alloc_new _ _
  have h1 : GenAt W gb g c r vi := h.below hbW
  obtain ⟨-, -, -, -, -, -, c6, cf⟩ := h1.cells
  obtain ⟨x0, -⟩ := one_cell e0
  have hrow : W.drew.ownsRow (gb + 1) 352 3 vi n xs := by rw [← hW]; exact hr.alloc _
  have HROW := Lib.hid hrow
  have hb2 : (W.drew.alloc (.cells #[.int .i64 16, .int .i64 0, .int .i64 0] 352)).heap[W.heap.size]? = some (.cells #[.int .i64 16, .int .i64 0, .int .i64 0] 352 (0, 0)) := heap_alloc_new W.drew (.cells #[.int .i64 16, .int .i64 0, .int .i64 0] 352)
  have HNEW := Lib.hid (World.news_of_block hb2)
  have HONE := Lib.hid (show ∀ u ∈ (([.int .i64 16, .int .i64 0, .int .i64 0] : List Value) : List Value), u.oneCell' = true from fun u hu => by
    simp only [List.mem_cons, List.mem_nil_iff, or_false] at hu
    rcases hu with rfl | rfl | rfl <;> rfl)
  have HPP := Lib.hid (show GenAt (W.drew.alloc (.cells #[.int .i64 16, .int .i64 0, .int .i64 0] 352)) gb g c r vi from (Below.heap_alloc _ _ _ (show gb < W.heap.size by omega)).trans h1)
  have HXX := Lib.hid (show (W.drew.alloc (.cells #[.int .i64 16, .int .i64 0, .int .i64 0] 352)).heap[w.heap.size]? = _ from (Below.heap_alloc _ _ _ (show w.heap.size < W.heap.size by omega)).trans e0)
  have hown : ∀ k, vi.ownBlock = some k → gb < k ∧ k < w.heap.size := by
    intro k e
    obtain ⟨-, h2 | ⟨g, cap, cur, h2, h3, h4, -⟩⟩ := hr
    · rw [h2.1] at e
      cases e
    · rw [h2] at e
      simp only [Value.ownBlock, Option.some.injEq] at e
      subst e
      exact ⟨h3, lt_of_block h4⟩
  have c6b : (W.alloc (.cells #[.int .i64 16, .int .i64 0, .int .i64 0] 352)).cell? ⟨gb, 6, none⟩ = some vi := al_cell _ c6
  have x0b : (W.alloc (.cells #[.int .i64 16, .int .i64 0, .int .i64 0] 352)).cell? ⟨w.heap.size, 0, none⟩ = some (.pointer (some ⟨gb, 0, none⟩)) := al_cell _ x0
  have HNE := Lib.hid (show some gb ≠ vi.ownBlock from fun e => by have := hown gb e.symm; omega)
  have HNE2 := Lib.hid (show some w.heap.size ≠ vi.ownBlock from fun e => by have := hown _ e.symm; omega)
  have HN := Lib.hid (And.intro hn hp)
  have HPL := Lib.hid (show gb < (W.drew.alloc (.cells #[.int .i64 16, .int .i64 0, .int .i64 0] 352)).heap.size by simp; omega)
  have HPL2 := Lib.hid (show w.heap.size < (W.drew.alloc (.cells #[.int .i64 16, .int .i64 0, .int .i64 0] 352)).heap.size by simp; omega)
  have HLEN := Lib.hid (show n + 1 ≤ maxLen by unfold maxLen; omega)
  have HBY := Lib.hid (show (n + 1) * 24 ≤ 140737488355328 by omega)
  have HBA := Lib.hid (show gb + 1 ≤ (W.drew.alloc (.cells #[.int .i64 16, .int .i64 0, .int .i64 0] 352)).heap.size by simp; omega)
  have HSI := Lib.hid (show (W.drew.alloc (.cells #[.int .i64 16, .int .i64 0, .int .i64 0] 352)).heap.size = w.heap.size + 2 by simp; omega)
  have HB2 := Lib.hid (show Below w.heap.size w (W.drew.alloc (.cells #[.int .i64 16, .int .i64 0, .int .i64 0] 352)) from (hbW.drew).trans ((Below.new _).mono (show w.heap.size ≤ W.heap.size by omega)))
  have HGP := Lib.hid (show gb ≠ w.heap.size by omega)
  clear h h1 hr hb2 hn hp hS hi0 hrow hown hbW e0
  go_enter Tryz.func197, Tryz.ntmps197
  go_upto_region 1 with fail
  have HWW := Lib.hid hW
  have HSW := Lib.hid hsW
  clear hW hsW
  go_region_law (refine step_append_lies _ rfl (.tmp 14) (.tmp 19) 272 rfl (gb + 1) 352 i0 _ 3 24 Tryz.underlying272 hi hz0 hz1 hz2 rfl (by decide) vi n xs rfl (HROW.out.alloc _) ⟨W.heap.size, 0, none⟩ 1 1 ([.int .i64 16, .int .i64 0, .int .i64 0] : List Value) rfl rfl HNEW.out HONE.out (by decide) HLEN.out HBY.out HBA.out (w.heap.size + 2) HSI.out ?_; intro g1 cap w1 hown1 hgrow hat hlt; have hp1 := (hgrow.block gb HPL.out HNE.out).trans HPP.out; have hx1 := (hgrow.block w.heap.size HPL2.out HNE2.out).trans HXX.out; obtain ⟨-, -, -, -, -, -, d6, df⟩ := GenAt.cells hp1; obtain ⟨z0, -⟩ := one_cell hx1; have HP1 := Lib.hid hp1; have HO1 := Lib.hid hown1; have HG1 := Lib.hid hgrow; have HX1 := Lib.hid hx1; clear hp1 hown1 hgrow hat hx1)
  all_goals
    have w1l : wrap64 ((n : Int) + 1 - 1) = n := by have := HN.out.1; unfold wrap64; omega
    have w2l : wrap64 (n : Int) = n := by have := HN.out.1; unfold wrap64; omega
    go_wp2_with fail
  all_goals
    rw [← HSS.out]
    exact emit_done HB2.out HP1.out HO1.out HG1.out ((Below.new _).mono (by simp [World.setCell]))
end Go.Proofs.YtdeccekeknlnoaaGreatDoor

namespace Go.Proofs.YtdeccekeknlnoaaGreatDoor
open Go.RowKit
set_option maxRecDepth 1000000 in
set_option maxHeartbeats 600000 in
theorem co_vars (v : Value) (w : World) (hp : ProgV w v) : Calls Tryz.prog 195 #[v] w fun e w' => e = .returned (.slice none 0 0) ∧ Below w.heap.size w w' := by
  obtain ⟨S, hS⟩ : ∃ S : Ending → World → Prop, (fun e w' => e = .returned (.slice none 0 0) ∧ Below w.heap.size w w') = S := ⟨_, rfl⟩
  rw [hS]
  have HSS := Lib.hid hS
  obtain ⟨g, c, h, c', rfl, hb⟩ := hp.box
  have hmf : ∀ (fn : Fn) (first cap : Array Value) (w : World), (Instr.makeFunc fn first cap).run Tryz.prog w = .ok (.func fn first cap) w := fun _ _ _ _ => rfl
  obtain ⟨m0, m1, -, -, n0, n1, n2, n3, n4, n5, n6, n7, -⟩ := hb.nodes
  have q0 := fun X => al_cell X m0
  have q1 := fun X => al_cell X m1
  have r0 := fun X => al_cell X n0
  have r1 := fun X => al_cell X n1
  have r2 := fun X => al_cell X n2
  have r3 := fun X => al_cell X n3
  have r4 := fun X Y => al_cell Y (al_cell X n4)
  have r5 := fun X Y => al_cell Y (al_cell X n5)
  have r6 := fun X Y => al_cell Y (al_cell X n6)
  have r7 := fun X Y => al_cell Y (al_cell X n7)
  clear hS hp hb
  go_enter Tryz.func195, Tryz.ntmps195
  go_wp2_with fail
  refine wp_loop_rounds 1 ?_
  rw [rounds_succ]
  go_wp2_with fail
  refine wp_loop_rounds 3 ?_
  rw [rounds_succ]
  go_wp2_with fail
  rw [rounds_succ]
  go_wp2_with fail
  rw [rounds_succ]
  go_wp2_with fail
  rw [← HSS.out]
  exact ⟨rfl, (((((Below.refl _ _).alloc (Nat.le_refl _) _).alloc (by simp) _).alloc (by simp; omega) _).alloc (by simp; omega) _)⟩
/-- the nodes in memory -/
def NodesAt (w : World) (g h c' : Nat) : Prop := w.rangeAt g 0 [.int .i64 16, .int .i64 0, .string ⟨#[]⟩, .slice none 0 0, .int .i64 17, .int .i64 0, .string ⟨#[]⟩, .slice (some ⟨h, 0, none⟩) 1 c'] ∧ w.cell? ⟨h, 0, none⟩ = some (.int .i64 0)
theorem NodesAt.cells {w : World} {g h c' : Nat} (hp : NodesAt w g h c') : w.cell? ⟨g, 0, none⟩ = some (.int .i64 16) ∧ w.cell? ⟨g, 1, none⟩ = some (.int .i64 0) ∧ w.cell? ⟨g, 2, none⟩ = some (.string ⟨#[]⟩) ∧ w.cell? ⟨g, 3, none⟩ = some (.slice none 0 0) ∧
    w.cell? ⟨g, 4, none⟩ = some (.int .i64 17) ∧ w.cell? ⟨g, 5, none⟩ = some (.int .i64 0) ∧ w.cell? ⟨g, 6, none⟩ = some (.string ⟨#[]⟩) ∧ w.cell? ⟨g, 7, none⟩ = some (.slice (some ⟨h, 0, none⟩) 1 c') ∧ w.cell? ⟨h, 0, none⟩ = some (.int .i64 0) := by
  obtain ⟨h4, h5⟩ := hp
  have hh := fun j u hu => (show w.cell? ⟨g, j, none⟩ = some u by have := h4 j u hu; rwa [Nat.zero_add] at this)
  exact ⟨hh 0 _ rfl, hh 1 _ rfl, hh 2 _ rfl, hh 3 _ rfl, hh 4 _ rfl, hh 5 _ rfl, hh 6 _ rfl, hh 7 _ rfl, h5⟩
theorem NodesAt.keep {w w' : World} {g h c' : Nat} (hp : NodesAt w g h c') (hg : w'.heap[g]? = w.heap[g]?) (hh : w'.heap[h]? = w.heap[h]?) : NodesAt w' g h c' :=
  ⟨fun j u hu => (World.cell?_of_block (a := ⟨g, 0 + j, none⟩) hg).trans (hp.1 j u hu), (World.cell?_of_block (a := ⟨h, 0, none⟩) hh).trans hp.2⟩
/-- what generating a node leaves -/
def GSaid (gb g c r n : Nat) (vi : Value) (xs : List Value) (w : World) (e : Ending) (w' : World) : Prop :=
  e = .returned (.tuple #[]) ∧ ∃ vi', GenAt w' gb g c r vi' ∧ w'.ownsRow (gb + 1) 352 3 vi' (n + 1) (xs ++ [.int .i64 16, .int .i64 0, .int .i64 0]) ∧ (w'.os = w.os ∧ w'.tape = w.tape ∧ w'.output = w.output ∧ w.heap.size ≤ w'.heap.size) ∧ ∀ k, k < w.heap.size → k ≠ gb → some k ≠ vi.ownBlock → w'.heap[k]? = w.heap[k]?
theorem own_between {w : World} {gb n : Nat} {vi : Value} {xs : List Value} (hr : w.ownsRow (gb + 1) 352 3 vi n xs) : ∀ k, vi.ownBlock = some k → gb < k ∧ k < w.heap.size := by
  intro k e
  obtain ⟨-, h2 | ⟨g, cap, cur, h2, h3, h4, -⟩⟩ := hr
  · rw [h2.1] at e
    cases e
  · rw [h2] at e
    simp only [Value.ownBlock, Option.some.injEq] at e
    subst e
    exact ⟨h3, lt_of_block h4⟩
set_option maxRecDepth 1000000 in
set_option maxHeartbeats 1000000 in
theorem co_node0 {gb g c r h c' : Nat} {vi : Value} (n : Nat) (hn : n ≤ 1) (xs : List Value) (w : World) (hG : GenAt w gb g c r vi) (hr : w.ownsRow (gb + 1) 352 3 vi n xs) (hN : NodesAt w g h c') :
    Calls Tryz.prog 196 #[.pointer (some ⟨gb, 0, none⟩), .int .i64 0] w (GSaid gb g c r n vi xs w) := by
  obtain ⟨S, hS⟩ : ∃ S, GSaid gb g c r n vi xs w = S := ⟨_, rfl⟩
  rw [hS]
  have HSS := Lib.hid hS
  obtain ⟨n0, n1, n2, n3, -⟩ := hN.cells
  obtain ⟨-, d1, -⟩ := hG.cells
  have hb0 := Below.new (w := w) (.cells #[.int .i64 16, .int .i64 0, .string ⟨#[]⟩, .slice none 0 0] 271)
  have HE := Lib.hid (co_emit n hn xs _ (hG.below hb0) (hr.alloc (.cells #[.int .i64 16, .int .i64 0, .string ⟨#[]⟩, .slice none 0 0] 271)))
  clear hS hN hG hr
  go_enter Tryz.func196, Tryz.ntmps196
  go_wp2_with (go_at_call 197; refine HE.out.mono ?_; rintro e W ⟨f, vi', rfl, h1, h2, h3, h4⟩)
  go_end0
  rw [← HSS.out]
  exact ⟨rfl, vi', h1, h2, ⟨h3.1.trans hb0.os, h3.2.1.trans hb0.tape, h3.2.2.1.trans hb0.output, Nat.le_trans hb0.size h3.2.2.2⟩, fun k hk hk1 hk2 => (h4 k (Nat.lt_of_lt_of_le hk hb0.size) hk1 hk2).trans (hb0.block k hk)⟩
set_option maxRecDepth 1000000 in
set_option maxHeartbeats 1000000 in
theorem co_node1 {gb g c r h c' : Nat} {vi : Value} (n : Nat) (hn : n ≤ 1) (xs : List Value) (w : World) (hG : GenAt w gb g c r vi) (hr : w.ownsRow (gb + 1) 352 3 vi n xs) (hN : NodesAt w g h c') :
    Calls Tryz.prog 196 #[.pointer (some ⟨gb, 0, none⟩), .int .i64 1] w (GSaid gb g c r n vi xs w) := by
  obtain ⟨S, hS⟩ : ∃ S, GSaid gb g c r n vi xs w = S := ⟨_, rfl⟩
  rw [hS]
  have HSS := Lib.hid hS
  obtain ⟨n0, n1, n2, n3, n4, n5, n6, n7, n8⟩ := hN.cells
  obtain ⟨-, d1, -⟩ := hG.cells
  have hb0 := Below.new (w := w) (.cells #[.int .i64 17, .int .i64 0, .string ⟨#[]⟩, .slice (some ⟨h, 0, none⟩) 1 c'] 271)
  have hN0 : NodesAt (w.alloc (.cells #[.int .i64 17, .int .i64 0, .string ⟨#[]⟩, .slice (some ⟨h, 0, none⟩) 1 c'] 271)) g h c' := ⟨fun j u hu => al_cell _ (hN.1 j u hu), al_cell _ hN.2⟩
  have HE := Lib.hid (co_node0 n hn xs _ (hG.below hb0) (hr.alloc (.cells #[.int .i64 17, .int .i64 0, .string ⟨#[]⟩, .slice (some ⟨h, 0, none⟩) 1 c'] 271)) hN0)
  have HB := Lib.hid (And.intro (own_between hr) (And.intro (lt_of_block hG) (heap_alloc_new w (.cells #[.int .i64 17, .int .i64 0, .string ⟨#[]⟩, .slice (some ⟨h, 0, none⟩) 1 c'] 271))))
  have u8 := fun X => al_cell X n8
  clear hS hN hG hr hN0
  go_enter Tryz.func196, Tryz.ntmps196
  go_wp2_with fail
  refine wp_loop_rounds 2 ?_
  rw [rounds_succ]
  go_wp2_with (go_at_call 196; refine HE.out.mono ?_; rintro e W ⟨rfl, vi', h1, h2, h3, h4⟩; have z := (h4 w.heap.size (by simp) (by have := HB.out.2.1; omega) (fun e => by have := HB.out.1 _ e.symm; omega)).trans HB.out.2.2; obtain ⟨z0, -⟩ := four_cells z; have HX := Lib.hid (And.intro h1 (And.intro h2 (And.intro h3 h4))); clear h1 h2 h3 h4 z)
  rw [rounds_succ]
  go_wp2_with fail
  go_end0
  rw [← HSS.out]
  obtain ⟨h1, h2, h3, h4⟩ := HX.out
  exact ⟨rfl, vi', h1, h2, ⟨h3.1.trans hb0.os, h3.2.1.trans hb0.tape, h3.2.2.1.trans hb0.output, Nat.le_trans hb0.size h3.2.2.2⟩, fun k hk hk1 hk2 => (h4 k (Nat.lt_of_lt_of_le hk hb0.size) hk1 hk2).trans (hb0.block k hk)⟩
end Go.Proofs.YtdeccekeknlnoaaGreatDoor
