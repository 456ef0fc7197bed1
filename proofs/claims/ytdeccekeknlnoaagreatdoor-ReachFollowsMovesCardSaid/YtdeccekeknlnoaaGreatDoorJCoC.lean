/- Chapter 38: package compile: Of. -/
import Derived.Test.YtdeccekeknlnoaaGreatDoorJCoA
import Derived.BigRegion
namespace Go.Proofs.YtdeccekeknlnoaaGreatDoor
open Go.RowKit
/-- the code of "accept;" -/
def CodeV (w : World) (v : Value) : Prop := ∃ g c, v = .agg #[.slice (some ⟨g, 0, none⟩) 2 c, .int .i64 0, .int .i64 0] ∧ g < w.heap.size ∧ w.rangeAt g 0 [.int .i64 16, .int .i64 0, .int .i64 0, .int .i64 16, .int .i64 0, .int .i64 0]
theorem CodeV.below {w w' : World} {v : Value} (h : CodeV w v) (hb : Below w.heap.size w w') : CodeV w' v := by
  obtain ⟨g, c, h1, h2, h3⟩ := h
  exact ⟨g, c, h1, Nat.lt_of_lt_of_le h2 hb.size, fun j u hu => (hb.cell (p := ⟨g, 0 + j, none⟩) h2).trans (h3 j u hu)⟩
theorem ProgV.box2 {w : World} {v : Value} (hp : ProgV w v) : ∃ g c h c', v = .agg #[.slice none 0 0, .slice (some ⟨g, 0, none⟩) 2 c, .int .i64 1, .int .i64 0] ∧ g < w.heap.size ∧ h < w.heap.size ∧ PBox (w.alloc (.cells #[.slice none 0 0, .slice (some ⟨g, 0, none⟩) 2 c, .int .i64 1, .int .i64 0] 217)) w.heap.size g c h c' := by
  obtain ⟨g, c, h, c', rfl, hg, hh, hr, hc⟩ := hp
  have hb0 := Below.new (w := w) (.cells #[.slice none 0 0, .slice (some ⟨g, 0, none⟩) 2 c, .int .i64 1, .int .i64 0] 217)
  exact ⟨g, c, h, c', rfl, hg, hh, heap_alloc_new _ _, by simp; omega, by simp; omega, fun j u hu => (hb0.cell (p := ⟨g, 0 + j, none⟩) hg).trans (hr j u hu), (hb0.cell (p := ⟨h, 0, none⟩) hh).trans hc⟩
theorem un_dr {W A : World} (h : Un W A) : Un W A.drew := Below.drew h
/-- a generator just made -/
def GenNew (W1 wc : World) (gb g c r : Nat) : Prop := GenAt wc gb g c r (.slice none 0 0) ∧ W1.heap.size ≤ gb ∧ wc.heap[r]? = some (.map #[] 0) ∧ r < gb ∧ Un W1 wc
theorem gen_new1 {W1 W3 : World} {g c : Nat} (h3 : Un W1 W3) : GenNew W1 ((W3.alloc (.map #[] 0)).alloc (.cells #[.slice none 0 0, .slice (some ⟨g, 0, none⟩) 2 c, .int .i64 1, .int .i64 0, .slice none 0 0, .map (some W3.heap.size), .slice none 0 0] 312)) (W3.heap.size + 1) g c W3.heap.size := by
  have hs := h3.size
  refine ⟨?_, by omega, (Below.heap_alloc _ _ _ (by simp)).trans (heap_alloc_new _ _), by omega, un_alloc (un_alloc h3 _) _⟩
  have := heap_alloc_new (W3.alloc (.map #[] 0)) (.cells #[.slice none 0 0, .slice (some ⟨g, 0, none⟩) 2 c, .int .i64 1, .int .i64 0, .slice none 0 0, .map (some W3.heap.size), .slice none 0 0] 312)
  rwa [World.size_alloc] at this
theorem gen_new2 {W1 W3 : World} {g c : Nat} (hb : Below (W1.alloc (.map #[] 0)).heap.size ((W1.alloc (.map #[] 0)).drew) W3) : GenNew W1 (W3.alloc (.cells #[.slice none 0 0, .slice (some ⟨g, 0, none⟩) 2 c, .int .i64 1, .int .i64 0, .slice none 0 0, .map (some W1.heap.size), .slice none 0 0] 312)) W3.heap.size g c W1.heap.size := by
  have hs := hb.size
  simp only [World.size_alloc, World.size_drew] at hs
  exact ⟨heap_alloc_new _ _, by omega, (Below.heap_alloc _ _ _ (by omega)).trans ((hb.block _ (by simp)).trans (heap_alloc_new _ _)), by omega, un_alloc (un_step (un_dr (un_alloc (un_refl W1) _)) hb) _⟩
theorem three_cellsC {w : World} {p : Nat} {x y z : Value} {t : TypeId} (h : w.heap[p]? = some (.cells #[x, y, z] t (0, 0))) : w.cell? ⟨p, 0, none⟩ = some x ∧ w.cell? ⟨p, 1, none⟩ = some y ∧ w.cell? ⟨p, 2, none⟩ = some z ∧ ∀ o, w.frozen? ⟨p, o, none⟩ = false := by
  refine ⟨?_, ?_, ?_, fun o => ?_⟩ <;> simp [World.cell?, World.frozen?, h]
def CodeSaid (w : World) (e : Ending) (w' : World) : Prop := ∃ v, e = .returned (.tuple #[v, .int .i64 0]) ∧ CodeV w' v ∧ Below w.heap.size w w'
set_option maxRecDepth 1000000 in
set_option maxHeartbeats 4000000 in
theorem co_of (v : Value) (w : World) (hp : ProgV w v) : Calls Tryz.prog 162 #[v] w (CodeSaid w) := by
  obtain ⟨S, hS⟩ : ∃ S : Ending → World → Prop, CodeSaid w = S := ⟨_, rfl⟩
  rw [hS]
  have HSS := Lib.hid hS
  obtain ⟨g, c, h, c', rfl, hg, hh, hb⟩ := hp.box2
  have hbx := Below.new (w := w) (.cells #[.slice none 0 0, .slice (some ⟨g, 0, none⟩) 2 c, .int .i64 1, .int .i64 0] 217)
  have hb2 := Below.new (w := w.alloc (.cells #[.slice none 0 0, .slice (some ⟨g, 0, none⟩) 2 c, .int .i64 1, .int .i64 0] 217)) (.cells #[.slice none 0 0, .int .i64 0, .int .i64 0] 274)
  have e1 := heap_alloc_new (w.alloc (.cells #[.slice none 0 0, .slice (some ⟨g, 0, none⟩) 2 c, .int .i64 1, .int .i64 0] 217)) (.cells #[.slice none 0 0, .int .i64 0, .int .i64 0] 274)
  rw [World.size_alloc] at e1
  have hb' := hb.below hb2
  obtain ⟨W0, hW0⟩ : ∃ X, (w.alloc (.cells #[.slice none 0 0, .slice (some ⟨g, 0, none⟩) 2 c, .int .i64 1, .int .i64 0] 217)).alloc (.cells #[.slice none 0 0, .int .i64 0, .int .i64 0] 274) = X := ⟨_, rfl⟩
  have hs0 : W0.heap.size = w.heap.size + 2 := by rw [← hW0]; simp
  have hbw : Below w.heap.size w W0 := by rw [← hW0]; exact hbx.trans (hb2.mono hbx.size)
  rw [hW0] at hb' e1
  have hp0 := hp.below hbw
  have hgh := And.intro hg hh
  obtain ⟨m0, m1, m2, m3, -⟩ := hb'.nodes
  have HK := Lib.hid (show ∀ W, Below W0.heap.size W0 W → Below w.heap.size w W ∧ ProgV W (.agg #[.slice none 0 0, .slice (some ⟨g, 0, none⟩) 2 c, .int .i64 1, .int .i64 0]) ∧ PBox W w.heap.size g c h c' ∧ W.heap[w.heap.size + 1]? = some (.cells #[.slice none 0 0, .int .i64 0, .int .i64 0] 274 (0, 0)) from fun W hW => ⟨hbw.trans (hW.mono hbw.size), hp0.below hW, hb'.below hW, (hW.block _ (lt_of_block e1)).trans e1⟩)
  have B0 := Lib.hid (And.intro (Below.refl W0.heap.size W0) (And.intro hs0 hgh))
  clear hS hp hb hbw hp0 hbx hb2 e1 hb' hs0 hg hh hgh
  go_enter Tryz.func162, Tryz.ntmps162
  go_upto_region 4 with (first
    | (go_at_call 194; refine (ch_of _ _ (HK.out _ B0.out.1).2.1).mono ?_; rintro e W1 ⟨rfl, hb1⟩; have B1 := Lib.hid (B0.out.1.trans (hb1.mono B0.out.1.size)); obtain ⟨m0, m1, m2, m3, -⟩ := (HK.out _ B1.out).2.2.1.nodes; clear hb1))
  have hmk : ∀ w, (Instr.makeMap 310 none).run Tryz.prog w = .ok (.map (some w.heap.size)) (w.alloc (.map #[] 0)) := fun _ => rfl
  have HP := Lib.hid (show ∀ W, Un W1 W → ProgV W (.agg #[.slice none 0 0, .slice (some ⟨g, 0, none⟩) 2 c, .int .i64 1, .int .i64 0]) from fun W hW => (HK.out _ B1.out).2.1.below hW)
  have HM := Lib.hid (show ∀ W, Un W1 W → W.cell? ⟨w.heap.size, 0, none⟩ = some (.slice none 0 0) ∧ W.cell? ⟨w.heap.size, 1, none⟩ = some (.slice (some ⟨g, 0, none⟩) 2 c) ∧ W.cell? ⟨w.heap.size, 2, none⟩ = some (.int .i64 1) ∧ W.cell? ⟨w.heap.size, 3, none⟩ = some (.int .i64 0) from fun W hW => by
    obtain ⟨a0, a1, a2, a3, -⟩ := ((HK.out _ B1.out).2.2.1.below hW).nodes
    exact ⟨a0, a1, a2, a3⟩)
  have q0 := fun X => al_cell X m0
  have q1 := fun X => al_cell X m1
  have q2 := fun X => al_cell X m2
  have q3 := fun X => al_cell X m3
  go_cut [5] (fun s5 wc => ∃ gb r, s5 = .pointer (some ⟨gb, 0, none⟩) ∧ GenNew W1 wc gb g c r)
  case first =>
    go_region_with (go_at_call 195; ((first | (with_reducible refine (co_vars _ _ (HP.out _ (un_dr (un_refl W1)))).mono ?_) | (with_reducible refine (co_vars _ _ (HP.out _ (un_dr (un_alloc (un_refl W1) (.map #[] 0))))).mono ?_)); rintro e W3 ⟨rfl, hb3⟩; (have hw3 := (by first | exact un_step (un_dr (un_refl W1)) hb3 | exact un_step (un_dr (un_alloc (un_refl W1) _)) hb3 : Un W1 W3)); obtain ⟨s0, s1, s2, s3⟩ := HM.out W3 hw3; (have t0 := fun X => al_cell X s0); (have t1 := fun X => al_cell X s1); (have t2 := fun X => al_cell X s2); (have t3 := fun X => al_cell X s3)))
    all_goals
      go_wp2_with fail
      go_meet
      first
        | exact ⟨_, _, rfl, gen_new1 hw3⟩
        | exact ⟨_, _, rfl, gen_new2 hb3⟩
  case rest =>
    obtain ⟨gb, r, rfl, hgn⟩ := hcut
    clear m0 m1 m2 m3 q0 q1 q2 q3
    have hG0 := hgn.1
    have hun := hgn.2.2.2.2
    have hw0 := HK.out _ (B1.out.trans (hun.mono B1.out.size))
    obtain ⟨m0, m1, m2, m3, n0, n1, n2, n3, n4, n5, n6, n7, n8⟩ := hw0.2.2.1.nodes
    have hNd : NodesAt wc g h c' := ⟨hw0.2.2.1.2.2.2.1, hw0.2.2.1.2.2.2.2⟩
    have HND := Lib.hid (show ∀ X, Below wc.heap.size wc X → Calls Tryz.prog 196 #[.pointer (some ⟨gb, 0, none⟩), .int .i64 1] X (GSaid gb g c r 0 (.slice none 0 0) [] X) from fun X hX => co_node1 0 (by decide) [] X (hG0.below hX) (World.ownsRow_nil _ _ _ _) (hNd.keep (hX.block _ (by have := lt_of_block hG0; have := B0.out.2.2.1; have := B0.out.2.1; have := B1.out.size; have := hgn.2.1; omega)) (hX.block _ (by have := lt_of_block hG0; have := B0.out.2.2.2; have := B0.out.2.1; have := B1.out.size; have := hgn.2.1; omega))))
    have q2 := fun X Y => al_cell Y (al_cell X m2)
    have r4 := fun X => al_cell X n4
    have r5 := fun X => al_cell X n5
    have r6 := fun X => al_cell X n6
    have r7 := fun X => al_cell X n7
    have HGN := Lib.hid (And.intro hgn hw0)
    clear hgn hG0 hun hw0 hNd
    go_wp2_with fail
    refine wp_loop_rounds 3 ?_
    rw [rounds_succ]
    go_wp2_with fail
    rw [rounds_succ]
    go_wp2_with fail
    rw [rounds_succ]
    go_upto_region 13 with (first
      | (go_at_call 196; generalize hX : World.alloc (World.alloc _ _) _ = X; (have hbX : Below wc.heap.size wc X := by rw [← hX]; exact ((Below.refl _ _).alloc (Nat.le_refl _) _).alloc (by simp) _); refine (HND.out X hbX).mono ?_; clear hX; rintro e Wn ⟨rfl, vi1, h1, h2, h3, h4⟩)
      | (go_at_call 197; refine (co_emit 1 (by decide) _ Wn h1 h2).mono ?_; rintro e We ⟨f, vi2, rfl, k1, k2, k3, k4⟩))
    obtain ⟨hgn, hw0⟩ := HGN.out
    have hz0 := B0.out.2.1
    have hz1 := B1.out.size
    have hz2 := hgn.2.1
    have hz3 := hbX.size
    have hz4 := h3.2.2.2
    have hgl := lt_of_block hgn.1
    have hrg := hgn.2.2.2.1
    have o1 := own_between h2
    have keep : ∀ k, k < gb → We.heap[k]? = wc.heap[k]? := fun k hk => by
      rw [k4 k (by omega) (by omega) (by intro e; have := o1 k e.symm; omega), h4 k (by omega) (by omega) (by intro e; cases e), hbX.block k (by omega)]
    have e0 := (keep _ (by omega)).trans hw0.2.2.1.1
    have e1 := (keep (w.heap.size + 1) (by omega)).trans hw0.2.2.2
    have e2 := (keep _ hrg).trans hgn.2.2.1
    obtain ⟨g2, c2, hv2, hg2⟩ := own_two k2
    subst hv2
    have hR := own_range (n := 2) k2
    have hgg := (own_between k2 g2 rfl).1
    have hbe : Below w.heap.size w We := ⟨k3.1.trans (h3.1.trans (hbX.os.trans hw0.1.os)), k3.2.1.trans (h3.2.1.trans (hbX.tape.trans hw0.1.tape)), k3.2.2.1.trans (h3.2.2.1.trans (hbX.output.trans hw0.1.output)), by have := k3.2.2.2; omega, fun k hk => (keep k (by omega)).trans (hw0.1.block k hk)⟩
    obtain ⟨-, -, -, p3, -⟩ := four_cells e0
    obtain ⟨d0, d1, d2, df⟩ := three_cellsC e1
    obtain ⟨-, -, -, -, x4, x5, x6, -⟩ := k1.cells
    have hfin : S (.returned (.tuple #[.agg #[.slice (some ⟨g2, 0, none⟩) 2 c2, .int .i64 0, .int .i64 0], .int .i64 0])) (((We.drew.setCell ⟨w.heap.size + 1, 0, none⟩ (.slice (some ⟨g2, 0, none⟩) 2 c2)).setCell ⟨w.heap.size + 1, 1, none⟩ (.int .i64 0)).setCell ⟨w.heap.size + 1, 2, none⟩ (.int .i64 0)) := by
      rw [← HSS.out]
      have hne : g2 ≠ w.heap.size + 1 := by omega
      refine ⟨_, rfl, ⟨g2, c2, rfl, by simp [World.setCell]; omega, fun j u hu => ?_⟩, ?_⟩
      · refine (World.cell?_of_block (a := ⟨g2, 0 + j, none⟩) ?_).trans (hR j u hu)
        show (((We.drew.setCell _ _).setCell _ _).setCell _ _).heap[g2]? = We.heap[g2]?
        rw [set_other _ _ _ _ _ hne, set_other _ _ _ _ _ hne, set_other _ _ _ _ _ hne]
        rfl
      · exact ((hbe.drew.setCell (p := ⟨w.heap.size + 1, 0, none⟩) (Nat.le_succ _) _).setCell (p := ⟨w.heap.size + 1, 1, none⟩) (Nat.le_succ _) _).setCell (p := ⟨w.heap.size + 1, 2, none⟩) (Nat.le_succ _) _
    have hY0 : (((We.setCell ⟨w.heap.size + 1, 0, none⟩ (.slice (some ⟨g2, 0, none⟩) 2 c2)).setCell ⟨w.heap.size + 1, 1, none⟩ (.int .i64 0)).setCell ⟨w.heap.size + 1, 2, none⟩ (.int .i64 0)).drew.heap[w.heap.size + 1]? = some (.cells #[.slice (some ⟨g2, 0, none⟩) 2 c2, .int .i64 0, .int .i64 0] 274 (0, 0)) := by
      have := heap_set (heap_set (heap_set e1 0 (.slice (some ⟨g2, 0, none⟩) 2 c2)) 1 (.int .i64 0)) 2 (.int .i64 0)
      have h2 : (((We.setCell ⟨w.heap.size + 1, 0, none⟩ (.slice (some ⟨g2, 0, none⟩) 2 c2)).setCell ⟨w.heap.size + 1, 1, none⟩ (.int .i64 0)).setCell ⟨w.heap.size + 1, 2, none⟩ (.int .i64 0)).heap[w.heap.size + 1]? = some (.cells #[.slice (some ⟨g2, 0, none⟩) 2 c2, .int .i64 0, .int .i64 0] 274 (0, 0)) := by simpa using this
      exact h2
    have HFIN := Lib.hid hfin
    have HY0 := Lib.hid hY0
    clear hY0
    have hlen : ∀ ty, Sem.run Tryz.prog (Builtin.len_ #[310] ty #[.map (some r)]) We.drew = .ok (.int .i64 0) We.drew := fun ty => by
      have e3 : We.drew.heap[r]? = some (.map #[] 0) := e2
      rw [run_len_map _ _ _ _ _ _ (by kernel_rfl) e3]
      rfl
    clear hfin hbe hgg hR hg2 e0 e1 keep o1 hgl hz0 hz1 hz2 hz3 hz4 hgn hw0 k1 k2 k3 k4 h1 h2 h3 h4 hbX hrg HGN HND
    go_region
    go_wp2_with fail
    obtain ⟨Y, hY⟩ : ∃ Y, (((We.setCell ⟨w.heap.size + 1, 0, none⟩ (.slice (some ⟨g2, 0, none⟩) 2 c2)).setCell ⟨w.heap.size + 1, 1, none⟩ (.int .i64 0)).setCell ⟨w.heap.size + 1, 2, none⟩ (.int .i64 0)).drew = Y := ⟨_, rfl⟩
    have hS := HFIN.out
    change S _ (((We.setCell ⟨w.heap.size + 1, 0, none⟩ (.slice (some ⟨g2, 0, none⟩) 2 c2)).setCell ⟨w.heap.size + 1, 1, none⟩ (.int .i64 0)).setCell ⟨w.heap.size + 1, 2, none⟩ (.int .i64 0)).drew at hS
    rw [hY] at HY0 hS ⊢
    clear hY
    refine bodyPost_ret (v := .tuple #[.agg #[.slice (some ⟨g2, 0, none⟩) 2 c2, .int .i64 0, .int .i64 0], .int .i64 0]) ?_ rfl hS
    exact results_row_tmp Tryz.underlying274 rfl (n := 3) (by kernel_rfl) Tryz.results162 (r := w.heap.size + 1) rfl rfl HY0.out rfl
end Go.Proofs.YtdeccekeknlnoaaGreatDoor
