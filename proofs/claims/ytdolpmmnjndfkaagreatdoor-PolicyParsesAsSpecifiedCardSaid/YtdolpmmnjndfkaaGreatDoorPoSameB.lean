/- Chapter 29, the walk: Same of the reference. -/
import Derived.Test.YtdolpmmnjndfkaaGreatDoorPoSame
import Derived.Outline
namespace Go.Proofs.YtdolpmmnjndfkaaGreatDoor
open Go.RowKit
theorem nd_ne {x y : Po.Nd} (h : x ≠ y) : ¬ x.of = y.of ∨ (x.of = y.of ∧ ¬ x.k = y.k) ∨ (x.of = y.of ∧ x.k = y.k ∧ ¬ x.n = y.n) ∨ (x.of = y.of ∧ x.k = y.k ∧ x.n = y.n ∧ ¬ x.m = y.m) ∨ (x.of = y.of ∧ x.k = y.k ∧ x.n = y.n ∧ x.m = y.m ∧ ¬ x.side = y.side) ∨ (x.of = y.of ∧ x.k = y.k ∧ x.n = y.n ∧ x.m = y.m ∧ x.side = y.side ∧ ¬ x.dg = y.dg) := by
  by_cases h1 : x.of = y.of
  · by_cases h2 : x.k = y.k
    · by_cases h3 : x.n = y.n
      · by_cases h4 : x.m = y.m
        · by_cases h5 : x.side = y.side
          · by_cases h6 : x.dg = y.dg
            · exact absurd (by obtain ⟨a, b, c, d, e, f⟩ := x; obtain ⟨a', b', c', d', e', f'⟩ := y; simp only at h1 h2 h3 h4 h5 h6; subst h1; subst h2; subst h3; subst h4; subst h5; subst h6; rfl) h
            · exact .inr (.inr (.inr (.inr (.inr ⟨h1, h2, h3, h4, h5, h6⟩))))
          · exact .inr (.inr (.inr (.inr (.inl ⟨h1, h2, h3, h4, h5⟩))))
        · exact .inr (.inr (.inr (.inl ⟨h1, h2, h3, h4⟩)))
      · exact .inr (.inr (.inl ⟨h1, h2, h3⟩))
    · exact .inr (.inl ⟨h1, h2⟩)
  · exact .inl h1
set_option maxRecDepth 1000000 in
set_option maxHeartbeats 4000000 in
theorem ref_same (v1 v2 : Value) (o1 o2 : List Po.Nd) (w : World) (L1 L2 : Nat) (h1 : RNds w L1 w.heap.size v1 o1) (h2 : RNds w L2 w.heap.size v2 o2) (k1 : Po.OkAll o1) (k2 : Po.OkAll o2) (hl1 : o1.length ≤ 100000) :
    Calls Tryz.prog 13 #[.agg #[v1], .agg #[v2]] w fun e w' => e = .returned (.bool (decide (o1 = o2))) ∧ Below w.heap.size w w' := by
  obtain ⟨T, N, R, K, LT⟩ := letters
  obtain ⟨A1, c1, rfl, -, -⟩ := h1.form
  obtain ⟨A2, c2, rfl, -, -⟩ := h2.form
  obtain ⟨n, hn⟩ : ∃ n, o1.length = n := ⟨_, rfl⟩
  obtain ⟨m, hm⟩ : ∃ m, o2.length = m := ⟨_, rfl⟩
  have HN := Lib.hid (And.intro hn hm)
  rw [hn] at hl1
  rw [HN.out.1, HN.out.2]
  obtain ⟨W, hW⟩ : ∃ W, (w.alloc (.cells #[.slice A1 n c1] 25)).alloc (.cells #[.slice A2 m c2] 25) = W := ⟨_, rfl⟩
  obtain ⟨b1, b2, hB, hsz⟩ := two_boxes W hW
  have p1 := cell_of_row _ _ 0 _ _ _ b1
  have p2 := cell_of_row _ _ 0 _ _ _ b2
  simp only [List.getElem?_toArray, List.getElem?_cons_zero] at p1 p2
  have HBW := Lib.hid hB
  have HSZ := Lib.hid hsz
  have HP := Lib.hid (And.intro p1 p2)
  have HD := Lib.hid (And.intro h1 (And.intro h2 (And.intro k1 k2)))
  clear b1 b2 hB hsz h1 h2 k1 k2 hn hm
  by_cases hnm : (n : Int) = m
  · obtain rfl : n = m := by omega
    clear hnm
    go_enter Tryz.func13, Tryz.ntmps13
    have hop : ∀ a b, Op.binOp BinOp.neq 65 a b 65 = Op.binOp BinOp.neq R a b R := fun a b => by rw [LT.tyR]
    simp only [LT.load, LT.store, LT.loadR, hop]
    clear hop
    go_wp2_with fail
    clear hW p1 p2
    go_loopg [5] n (fun g s5 wr => ∃ i : Nat, i + g = n ∧ s5 = .int .i64 i ∧ Hid (Below W.heap.size W wr ∧ ∀ j, j < i → o1[j]? = o2[j]?))
    case atStart => exact ⟨0, by omega, rfl, Lib.hid ⟨Below.refl _ _, fun j hj => by omega⟩⟩
    case round =>
      obtain ⟨i, hig, rfl, HE⟩ := hrel
      have r1 := (HE.out.1.cell (p := ⟨w.heap.size, 0, none⟩) (show w.heap.size < W.heap.size by rw [HSZ.out]; omega)).trans HP.out.1
      have r2 := (HE.out.1.cell (p := ⟨w.heap.size + 1, 0, none⟩) (show w.heap.size + 1 < W.heap.size by rw [HSZ.out]; omega)).trans HP.out.2
      have HBB := Lib.hid (HBW.out.trans (HE.out.1.mono HBW.out.size))
      cases gk with
      | zero =>
        obtain rfl : i = n := by omega
        have hi : ¬ (i : Int) < i := by omega
        have hX := Lib.hid (show decide (o1 = o2) = true by
          rw [decide_eq_true_iff]
          apply List.ext_getElem?
          intro j
          by_cases hj : j < i
          · exact HE.out.2 j hj
          · rw [List.getElem?_eq_none (by have := HN.out.1; omega), List.getElem?_eq_none (by have := HN.out.2; omega)])
        go_wp2_with fail
        go_ret
        exact ⟨ret_bool hX.out.symm, HBB.out⟩
      | succ g =>
        have hi : (i : Int) < n := by omega
        have hi2 : 0 ≤ (i : Int) ∧ (i : Int) < n := by omega
        obtain ⟨x, hx⟩ : ∃ x, o1[i]? = some x := ⟨_, List.getElem?_eq_getElem (by have := HN.out.1; omega)⟩
        obtain ⟨y, hy⟩ : ∃ y, o2[i]? = some y := ⟨_, List.getElem?_eq_getElem (by have := HN.out.2; omega)⟩
        obtain ⟨g1, f1, u1, rfl, hgb1, hrw1, hof1⟩ := HD.out.1.at hx
        obtain ⟨g2, f2, u2, rfl, hgb2, hrw2, hof2⟩ := HD.out.2.1.at hy
        have ok1 := HD.out.2.2.1 i x hx
        have ok2 := HD.out.2.2.2 i y hy
        have hrr1 : wr.rangeAt g1 (f1 + i * 21) (ndVals x u1) := fun j v hv => (HBB.out.cell (p := ⟨g1, _, none⟩) hgb1).trans (hrw1 j v hv)
        have hrr2 : wr.rangeAt g2 (f2 + i * 21) (ndVals y u2) := fun j v hv => (HBB.out.cell (p := ⟨g2, _, none⟩) hgb2).trans (hrw2 j v hv)
        have la := LT.agg
        have lz := LT.size
        have laR := LT.aggR
        have lzR := LT.sizeR
        obtain ⟨cs1, hcs1⟩ : ∃ cs, (ndVals x u1).toArray = cs := ⟨_, rfl⟩
        obtain ⟨cs2, hcs2⟩ : ∃ cs, (ndVals y u2).toArray = cs := ⟨_, rfl⟩
        obtain ⟨x0, x1, x2, x3, x20, -⟩ := nd_cells x u1 ok1.dg
        obtain ⟨y0, y1, y2, y3, y20, -⟩ := nd_cells y u2 ok2.dg
        have dx := nd_dig x u1
        have dy := nd_dig y u2
        rw [hcs1] at x0 x1 x2 x3 x20 dx
        rw [hcs2] at y0 y1 y2 y3 y20 dy
        have hld1 := LT.ldN hrr1 (ndVals_len ok1.dg)
        have hld2 := LT.ldN (World.rangeAt_alloc hrr2 (.cells cs1 67)) (ndVals_len ok2.dg)
        have hst1 := store_new ok1.dg hof1.one' wr
        have hst2 := store_new ok2.dg hof2.one' (wr.alloc (.cells cs1 67))
        have hcn1 : cs1.size = N := by rw [← hcs1, LT.sz]; exact nd_size ok1.dg
        have hcn2 : cs2.size = N := by rw [← hcs2, LT.sz]; exact nd_size ok2.dg
        rw [hcs1] at hld1 hst1
        rw [hcs2] at hld2 hst2
        have hwsz : (wr.alloc (.cells cs1 67)).heap.size = wr.heap.size + 1 := by simp
        rw [hwsz] at hst2
        have r2' : (wr.alloc (.cells cs1 67)).cell? ⟨w.heap.size + 1, 0, none⟩ = some (.slice (some ⟨g2, f2, none⟩) n c2) := (World.cell?_alloc_lt _ _ _ (World.block_lt_of_cell? wr _ r2)).trans r2
        obtain ⟨W2, hW2⟩ : ∃ W2, (wr.alloc (.cells cs1 67)).alloc (.cells cs2 67) = W2 := ⟨_, rfl⟩
        obtain ⟨z1, z2, hB2, hs2⟩ := two_boxes W2 hW2
        have q0 := (cell_of_row _ _ 0 _ _ _ z1).trans x0
        have q1 := (cell_of_row _ _ 1 _ _ _ z1).trans x1
        have q2 := (cell_of_row _ _ 2 _ _ _ z1).trans x2
        have q3 := (cell_of_row _ _ 3 _ _ _ z1).trans x3
        have q20 := (cell_of_row _ _ 20 _ _ _ z1).trans x20
        have t0 := (cell_of_row _ _ 0 _ _ _ z2).trans y0
        have t1 := (cell_of_row _ _ 1 _ _ _ z2).trans y1
        have t2 := (cell_of_row _ _ 2 _ _ _ z2).trans y2
        have t3 := (cell_of_row _ _ 3 _ _ _ z2).trans y3
        have t20 := (cell_of_row _ _ 20 _ _ _ z2).trans y20
        have rD1 : W2.rangeAt wr.heap.size 4 (dgVals x.dg) := fun j v hv => (cell_of_row _ _ _ _ _ _ z1).trans (dx j v hv)
        have rD2 : W2.rangeAt (wr.heap.size + 1) 4 (dgVals y.dg) := fun j v hv => (cell_of_row _ _ _ _ _ _ z2).trans (dy j v hv)
        have hl1' := fun n => LT.ldR (w := W2.drewN n) rD1 ok1.dg
        have hl2' := fun n => LT.ldR (w := W2.drewN n) rD2 ok2.dg
        have hE := fun w => run_dig ok1.dg ok2.dg w
        have hbb2 : Below w.heap.size w W2 := HBB.out.trans (hB2.mono HBB.out.size)
        have HI := Lib.hid (ref_ints u1 u2 _ _ W2 ((hof1.ints.below hbb2).mono hbb2.size) ((hof2.ints.below hbb2).mono hbb2.size))
        rw [ints_inj] at HI
        have HXY := Lib.hid (And.intro hx hy)
        have HB2 := Lib.hid (And.intro hbb2 (HE.out.1.trans (hB2.mono HE.out.1.size)))
        clear hrw1 hrw2 hof1 hof2 ok1 ok2 hrr1 hrr2 hcs1 hcs2 x0 x1 x2 x3 x20 y0 y1 y2 y3 y20 dx dy hwsz z1 z2 rD1 rD2 hbb2 hx hy hgb1 hgb2 hB2 hs2
        go_upto_region 8 with fail
        by_cases e : x = y
        · subst e
          rw [show decide (x.of = x.of) = true by simp] at HI
          rw [show (x.dg == x.dg) = true by simp] at hE
          have hG : ∀ w, Sem.run Tryz.prog (eqGuard BinOp.neq 65 (.tmp 70) (.tmp 72) (.agg (dgVals x.dg).toArray) (.agg (dgVals x.dg).toArray)) w = .ok () w := fun w => by kernel_rfl
          rw [← LT.tyR] at hE hG
          go_wp2_with (go_at_call 31; refine HI.out.mono ?_; rintro e w' ⟨rfl, q, rfl⟩)
          go_roundg g
          case measure => omega
          case rel => exact ⟨i + 1, by omega, by first | rfl | go_num, Lib.hid ⟨below_drewN HB2.out.2 _, fun j hj => by
            by_cases ej : j = i
            · subst ej; rw [HXY.out.1, HXY.out.2]
            · exact HE.out.2 j (by omega)⟩⟩
        · have HX := Lib.hid (list_ne HXY.out.1 HXY.out.2 e)
          have hc := nd_ne e
          clear e
          rcases hc with h | ⟨h0, h⟩ | ⟨h0, h1, h⟩ | ⟨h0, h1, h2, h⟩ | ⟨h0, h1, h2, h3, h⟩ | ⟨h0, h1, h2, h3, h4, h⟩
          · rw [show decide (x.of = y.of) = false by simpa using h] at HI
            go_wp2_with (go_at_call 31; refine HI.out.mono ?_; rintro e w' ⟨rfl, q, rfl⟩)
            go_ret
            exact ⟨ret_bool HX.out.symm, below_drewN HB2.out.1 _⟩
          · rw [show decide (x.of = y.of) = true by simpa using h0] at HI
            have hne : ((x.k : Int) != y.k) = true := by simp; omega
            go_wp2_with (go_at_call 31; refine HI.out.mono ?_; rintro e w' ⟨rfl, q, rfl⟩)
            go_ret
            exact ⟨ret_bool HX.out.symm, below_drewN HB2.out.1 _⟩
          · rw [show decide (x.of = y.of) = true by simpa using h0] at HI
            rw [← h1] at t0
            have hne : ((x.n : Int) != y.n) = true := by simp; omega
            go_wp2_with (go_at_call 31; refine HI.out.mono ?_; rintro e w' ⟨rfl, q, rfl⟩)
            go_ret
            exact ⟨ret_bool HX.out.symm, below_drewN HB2.out.1 _⟩
          · rw [show decide (x.of = y.of) = true by simpa using h0] at HI
            rw [← h1] at t0
            rw [← h2] at t1
            have hne : ((x.m : Int) != y.m) = true := by simp; omega
            go_wp2_with (go_at_call 31; refine HI.out.mono ?_; rintro e w' ⟨rfl, q, rfl⟩)
            go_ret
            exact ⟨ret_bool HX.out.symm, below_drewN HB2.out.1 _⟩
          · rw [show decide (x.of = y.of) = true by simpa using h0] at HI
            rw [← h1] at t0
            rw [← h2] at t1
            rw [← h3] at t2
            have hne : ((x.side : Int) != y.side) = true := by simp; omega
            go_wp2_with (go_at_call 31; refine HI.out.mono ?_; rintro e w' ⟨rfl, q, rfl⟩)
            go_ret
            exact ⟨ret_bool HX.out.symm, below_drewN HB2.out.1 _⟩
          · rw [show decide (x.of = y.of) = true by simpa using h0] at HI
            rw [← h1] at t0
            rw [← h2] at t1
            rw [← h3] at t2
            rw [← h4] at t3
            rw [show (x.dg == y.dg) = false by simpa using h] at hE
            have hG : ∀ w, Sem.run Tryz.prog (eqGuard BinOp.neq 65 (.tmp 70) (.tmp 72) (.agg (dgVals x.dg).toArray) (.agg (dgVals y.dg).toArray)) w = .ok () w := fun w => by kernel_rfl
            rw [← LT.tyR] at hE hG
            go_wp2_with (go_at_call 31; refine HI.out.mono ?_; rintro e w' ⟨rfl, q, rfl⟩)
            go_ret
            exact ⟨ret_bool HX.out.symm, below_drewN HB2.out.1 _⟩
  · have HX := Lib.hid (show decide (o1 = o2) = false by
      rw [decide_eq_false_iff_not]
      rintro rfl
      exact hnm (by have := HN.out; omega))
    go_enter Tryz.func13, Tryz.ntmps13
    go_wp2_with fail
    go_ret
    exact ⟨ret_bool HX.out.symm, HBW.out⟩
end Go.Proofs.YtdolpmmnjndfkaaGreatDoor
