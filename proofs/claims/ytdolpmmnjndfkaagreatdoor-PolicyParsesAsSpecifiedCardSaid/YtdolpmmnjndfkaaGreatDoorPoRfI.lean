/- Chapter 29, the walk: truth, eval and Eval of the reference. -/
import Derived.Test.YtdolpmmnjndfkaaGreatDoorPoEv
import Derived.Deep.RegionHeld3
namespace Go.Proofs.YtdolpmmnjndfkaaGreatDoor
open Go.RowKit
theorem rf_truth (b : Bool) (w : World) : Calls Tryz.prog 64 #[.bool b] w fun e w' => e = .returned (.int .i64 (Po.truth b)) ∧ w' = w := by
  cases b
  · go_enter Tryz.func64, Tryz.ntmps64
    go_wp2_with fail
    go_ret
    exact ⟨rfl, rfl⟩
  · go_enter Tryz.func64, Tryz.ntmps64
    go_wp2_with fail
    go_ret
    exact ⟨rfl, rfl⟩
theorem three_boxes {w : World} {o1 o2 o3 : Obj} : ∀ W, ((w.alloc o1).alloc o2).alloc o3 = W → W.heap[w.heap.size]? = some o1 ∧ W.heap[w.heap.size + 1]? = some o2 ∧ W.heap[w.heap.size + 1 + 1]? = some o3 ∧ Below w.heap.size w W ∧ W.heap.size = w.heap.size + 3 := by
  rintro W rfl
  have e1 := heap_alloc_new (w.alloc o1) o2
  rw [World.size_alloc] at e1
  have e2 := heap_alloc_new ((w.alloc o1).alloc o2) o3
  rw [World.size_alloc, World.size_alloc] at e2
  exact ⟨(Below.heap_alloc _ _ _ (by simp; omega)).trans ((Below.heap_alloc _ _ _ (by simp)).trans (heap_alloc_new _ _)), (Below.heap_alloc _ _ _ (by simp)).trans e1, e2, (((Below.refl _ _).alloc (Nat.le_refl _) _).alloc (by simp) _).alloc (by simp; omega) _, by simp⟩
/-- what eval answers for node k -/
def EvC (o : List Po.Nd) (f : Po.Facts) (k : Nat) : Prop := ∀ (v vf : Value) (w : World) (L : Nat), RNds w L w.heap.size v o → RFacts w w.heap.size vf f →
  Calls Tryz.prog 41 #[.agg #[v], .int .i64 k, vf] w fun e w' => e = .returned (.int .i64 (Po.at_ (Po.evalAll o f) k)) ∧ Below w.heap.size w w'
section
variable {x : Po.Nd} {f : Po.Facts} {r : List Int}
theorem nd_1 (e : x.k = 1) : Po.evalNd x f r = 1 := by unfold Po.evalNd; rw [e]; rfl
theorem nd_2 (e : x.k = 2) : Po.evalNd x f r = Po.truth (f.version == x.n) := by unfold Po.evalNd; rw [e]; rfl
theorem nd_3 (e : x.k = 3) : Po.evalNd x f r = Po.truth (decide ((x.n : Int) ≤ f.version)) := by unfold Po.evalNd; rw [e]; rfl
theorem nd_4 (e : x.k = 4) : Po.evalNd x f r = Po.truth (f.epoch == x.n) := by unfold Po.evalNd; rw [e]; rfl
theorem nd_5 (e : x.k = 5) : Po.evalNd x f r = Po.truth (decide ((x.n : Int) ≤ f.epoch)) := by unfold Po.evalNd; rw [e]; rfl
theorem nd_6 (e : x.k = 6) : Po.evalNd x f r = Po.truth (x.n < f.stages.length && f.stages.getD x.n [] == x.dg) := by unfold Po.evalNd; rw [e]; rfl
theorem nd_7 (e : x.k = 7) : Po.evalNd x f r = Po.took x f := by unfold Po.evalNd; rw [e]; rfl
theorem nd_8 {a : Nat} (e : x.k = 8) (h : x.of = [a]) : Po.evalNd x f r = Po.neg (Po.at_ r a) := by unfold Po.evalNd; rw [e, h]; rfl
theorem nd_9 {a c : Nat} (e : x.k = 9) (h : x.of = [a, c]) (ha : Po.Val (Po.at_ r a)) (hc : Po.Val (Po.at_ r c)) : Po.evalNd x f r = if Po.at_ r a = 0 ∨ Po.at_ r c = 0 then 0 else if Po.at_ r a < 0 ∨ Po.at_ r c < 0 then -1 else 1 := by
  rw [← Po.conj_words ha hc]; unfold Po.evalNd; rw [e, h]; rfl
theorem nd_10 {a c : Nat} (e : x.k = 10) (h : x.of = [a, c]) (ha : Po.Val (Po.at_ r a)) (hc : Po.Val (Po.at_ r c)) : Po.evalNd x f r = if Po.at_ r a = 1 ∨ Po.at_ r c = 1 then 1 else if Po.at_ r a < 0 ∨ Po.at_ r c < 0 then -1 else 0 := by
  rw [← Po.disj_words ha hc]; unfold Po.evalNd; rw [e, h]; rfl
end
/-- the memory that eval works in, at W3 and ever after -/
structure EvMem (w W : World) (v : Value) (fs cs : Array Value) (b2 : Nat) : Prop where
  pol : W.cell? ⟨w.heap.size, 0, none⟩ = some v
  fac : ∀ (j : Nat) (z : Value), fs[j]? = some z → W.cell? ⟨w.heap.size + 1, j, none⟩ = some z
  nod : ∀ (j : Nat) (z : Value), cs[j]? = some z → W.cell? ⟨b2, j, none⟩ = some z
theorem rev_mem {w W : World} {v : Value} {fs cs : Array Value} (b1 : W.heap[w.heap.size]? = some (.cells #[v] 25 (0, 0))) (b2 : W.heap[w.heap.size + 1]? = some (.cells fs 42 (0, 0))) (hs : W.heap.size = w.heap.size + 1 + 1) :
    ∀ W3, W.alloc (.cells cs 67) = W3 → ∀ W', Und W3 W' → EvMem w W' v fs cs W.heap.size := by
  rintro W3 rfl W' h
  have n3 : (W.alloc (.cells cs 67)).heap[W.heap.size]? = some (.cells cs 67 (0, 0)) := heap_alloc_new _ _
  have hb := Below.new (w := W) (.cells cs 67)
  have x1 := (h.mono (Nat.le_refl _)).block w.heap.size (by simp; omega) |>.trans ((hb.block _ (by omega)).trans b1)
  have x2 := (h.mono (Nat.le_refl _)).block (w.heap.size + 1) (by simp; omega) |>.trans ((hb.block _ (by omega)).trans b2)
  have x3 := (h.mono (Nat.le_refl _)).block W.heap.size (by simp) |>.trans n3
  exact ⟨(cell_of_row _ _ 0 _ _ _ x1), fun j z hz => (cell_of_row _ _ j _ _ _ x2).trans hz, fun j z hz => (cell_of_row _ _ j _ _ _ x3).trans hz⟩
set_option maxRecDepth 1000000 in
set_option maxHeartbeats 4000000 in
theorem rf_eval_step {o : List Po.Nd} {f : Po.Facts} (hok : Po.OkAll o) (hv : ValidF f) (hl : o.length ≤ 100000) {k : Nat} {x : Po.Nd} (hx : o[k]? = some x) (IH : ∀ j, j < k → EvC o f j) : EvC o f k := by
  intro v vf w L hn hf
  obtain ⟨T, N, R, K, LT⟩ := letters
  obtain ⟨A, c, rfl, -, -⟩ := hn.form
  obtain ⟨vs, vp, rfl, hs, hp⟩ := hf
  have hk1 : k < o.length := (List.getElem?_eq_some_iff.1 hx).1
  obtain ⟨n, hn0⟩ : ∃ n, o.length = n := ⟨_, rfl⟩
  rw [hn0] at hn hk1 hl ⊢
  obtain ⟨b, off, u, rfl, hbB, hrw, hof⟩ := hn.at hx
  have hkx := hok k x hx
  have hk : 0 ≤ (k : Int) ∧ (k : Int) < n := by omega
  have hk2 := hk.2
  obtain ⟨X, hX⟩ : ∃ X, Po.at_ (Po.evalAll o f) k = X := ⟨_, rfl⟩
  have hXe : X = Po.evalNd x f (Po.evalAll o f) := by rw [← hX, Po.evalAll_at o hok k x hx]
  rw [hX]
  obtain ⟨W, hW⟩ : ∃ W, (w.alloc (.cells #[.slice (some ⟨b, off, none⟩) n c] 25)).alloc (.cells #[.int .i64 f.version, .int .i64 f.epoch, vs, vp] 42) = W := ⟨_, rfl⟩
  obtain ⟨b1, b2, hB, hsz⟩ := two_boxes W hW
  have p0 : W.cell? ⟨w.heap.size, 0, none⟩ = some (.slice (some ⟨b, off, none⟩) n c) := cell_of_row _ _ 0 _ _ _ b1
  have hrr : W.rangeAt b (off + k * 21) (ndVals x u) := fun j v hv => (hB.cell (p := ⟨b, _, none⟩) hbB).trans (hrw j v hv)
  have hld := LT.ldN hrr (ndVals_len hkx.dg)
  have la := LT.agg
  have lz := LT.size
  have hst := store_new hkx.dg hof.one' W
  obtain ⟨q0, q1, q2, q3, q20, -⟩ := nd_cells x u hkx.dg
  have cd := nd_dig x u
  obtain ⟨cs, hcs⟩ : ∃ cs, (ndVals x u).toArray = cs := ⟨_, rfl⟩
  have hcn : cs.size = N := by rw [← hcs, LT.sz]; exact nd_size hkx.dg
  rw [hcs] at hld hst q0 q1 q2 q3 q20 cd
  have HM := Lib.hid (rev_mem (cs := cs) b1 b2 hsz)
  have HB := Lib.hid (And.intro hB hsz)
  have HD := Lib.hid (And.intro hn (And.intro hs hp))
  have HK := Lib.hid (And.intro hkx (And.intro hof (And.intro hrw hbB)))
  have HC := Lib.hid (And.intro q0 (And.intro q1 (And.intro q2 (And.intro q3 (And.intro q20 cd)))))
  have HE := Lib.hid hXe
  have HHL := Lib.hid (And.intro hn0 hl)
  clear b1 b2 hB hsz hn hs hp hkx hof hrw hbB hrr q0 q1 q2 q3 q20 cd hXe hX hcs hn0 hl hk1
  go_enter Tryz.func41, Tryz.ntmps41
  simp only [LT.load, LT.store, LT.loadR]
  have hop : ∀ a b, Op.binOp BinOp.eql 65 a b 65 = Op.binOp BinOp.eql R a b R := fun a b => by rw [LT.tyR]
  simp only [hop]
  clear hop
  go_upto_region 2 with fail
  clear hW hst hld p0
  obtain ⟨W3, hW3⟩ : ∃ W3, W.alloc (.cells cs 67) = W3 := ⟨_, rfl⟩
  rw [hW3]
  have HM3 := Lib.hid (HM.out W3 hW3)
  have HB3 : Hid (Below w.heap.size w W3 ∧ W3.heap.size = W.heap.size + 1) := Lib.hid (by
    rw [← hW3]
    exact ⟨HB.out.1.trans ((Below.new _).mono HB.out.1.size), by simp⟩)
  clear hW3 HM
  have HU : Hid (Und W3 W3) := Lib.hid (Below.refl _ _)
  have hlo := HK.out.1.lo
  have hhi := HK.out.1.hi
  have hc : x.k = 1 ∨ x.k = 2 ∨ x.k = 3 ∨ x.k = 4 ∨ x.k = 5 ∨ x.k = 6 ∨ x.k = 7 ∨ x.k = 8 ∨ x.k = 9 ∨ x.k = 10 := by omega
  clear hlo hhi
  have d0 := (HM3.out W3 HU.out).nod 0 _ HC.out.1
  have d1 := (HM3.out W3 HU.out).nod 1 _ HC.out.2.1
  have f0 := (HM3.out W3 HU.out).fac 0 _ rfl
  have f1 := (HM3.out W3 HU.out).fac 1 _ rfl
  rcases hc with e | e | e | e | e | e | e | e | e | e
  · have HX := Lib.hid (HE.out.trans (nd_1 e))
    rw [e] at d0
    clear e
    go_wp2_with fail
    go_ret
    exact ⟨ret_int HX.out.symm, HB3.out.1⟩
  · have HX := Lib.hid (HE.out.trans (nd_2 e))
    rw [e] at d0
    clear e
    go_wp2_with (go_at_call 64; refine (rf_truth _ _).mono ?_; rintro e w' ⟨rfl, hw⟩; subst hw)
    go_ret
    exact ⟨ret_int HX.out.symm, HB3.out.1⟩
  · have HX := Lib.hid (HE.out.trans (nd_3 e))
    rw [e] at d0
    clear e
    go_wp2_with (go_at_call 64; refine (rf_truth _ _).mono ?_; rintro e w' ⟨rfl, hw⟩; subst hw)
    go_ret
    exact ⟨ret_int HX.out.symm, HB3.out.1⟩
  · have HX := Lib.hid (HE.out.trans (nd_4 e))
    rw [e] at d0
    clear e
    go_wp2_with (go_at_call 64; refine (rf_truth _ _).mono ?_; rintro e w' ⟨rfl, hw⟩; subst hw)
    go_ret
    exact ⟨ret_int HX.out.symm, HB3.out.1⟩
  · have HX := Lib.hid (HE.out.trans (nd_5 e))
    rw [e] at d0
    clear e
    go_wp2_with (go_at_call 64; refine (rf_truth _ _).mono ?_; rintro e w' ⟨rfl, hw⟩; subst hw)
    go_ret
    exact ⟨ret_int HX.out.symm, HB3.out.1⟩
  · have hXX := HE.out.trans (nd_6 e)
    rw [e] at d0
    clear e
    have hds := HD.out.2.1.below HB3.out.1
    obtain ⟨A5, c5, hvs, hpn, hpc⟩ : ∃ A c, vs = .slice A f.stages.length c ∧ f.stages.length ≤ c ∧ c ≤ maxLen := by
      obtain ⟨A, c, h1, h2, h3, _⟩ := hds
      exact ⟨A, c, h1, h2, h3⟩
    subst hvs
    have f2 := (HM3.out W3 HU.out).fac 2 _ rfl
    clear hpn hpc
    by_cases hn6 : f.stages.length ≤ x.n
    · have HX := Lib.hid (show X = 0 by rw [hXX]; simp [Po.truth, show ¬ x.n < f.stages.length by omega])
      have hn' : (f.stages.length : Int) ≤ x.n := by omega
      clear hXX hds hn6
      go_wp2_with fail
      go_ret
      exact ⟨ret_int HX.out.symm, HB3.out.1⟩
    · obtain ⟨d, hd⟩ : ∃ d, f.stages[x.n]? = some d := ⟨_, List.getElem?_eq_getElem (by omega)⟩
      have hgd : f.stages.getD x.n [] = d := by rw [List.getD_eq_getElem?_getD, hd]; rfl
      have HX := Lib.hid (show X = Po.truth (d == x.dg) by rw [hXX, hgd]; simp [show x.n < f.stages.length by omega])
      obtain ⟨b6, o6, rfl, hb6, -, hdl, hr⟩ := hds.at hd
      have hn' : ¬ (f.stages.length : Int) ≤ x.n := by omega
      have rD : W3.rangeAt W.heap.size 4 (dgVals x.dg) := fun j v hv => (HM3.out W3 HU.out).nod (4 + j) v (HC.out.2.2.2.2.2 j v hv)
      have hx16 := HK.out.1.dg
      have hl1 := fun n => LT.ldR (w := W3.drewN n) hr hdl
      have hl2 := fun n => LT.ldR (w := W3.drewN n) rD hx16
      have hE := fun w => run_dig hdl hx16 w
      have la := LT.aggR
      have lz := LT.sizeR
      have i1 : 0 ≤ (x.n : Int) ∧ (x.n : Int) < f.stages.length := by omega
      have i2 := i1.2
      have hG : ∀ w, Sem.run Tryz.prog (eqGuard BinOp.eql 65 (.tmp 66) (.tmp 68) (.agg (dgVals d).toArray) (.agg (dgVals x.dg).toArray)) w = .ok () w := fun w => by kernel_rfl
      rw [← LT.tyR] at hE hG
      clear hXX hds hn6 hgd hd hr rD hx16 hdl hb6 LT
      go_upto_region 16 with fail
      go_big_quiet (exact Calls.quiet_of_same (rf_truth _ _))
      all_goals (go_wp2_with fail; try go_ret)
      all_goals exact ⟨ret_int HX.out.symm, below_drewN HB3.out.1 _⟩
  · have HX := Lib.hid (HE.out.trans (nd_7 e))
    have hx3 := HK.out.1.side0
    rw [e] at d0
    clear e
    have d2 := (HM3.out W3 HU.out).nod 2 _ HC.out.2.2.1
    have d3 := (HM3.out W3 HU.out).nod 3 _ HC.out.2.2.2.1
    have hpW := HD.out.2.2.below HB3.out.1
    obtain ⟨A5, c5, hvp, hpn, hpc⟩ : ∃ A c, vp = .slice A f.points.length c ∧ f.points.length ≤ c ∧ c ≤ maxLen := by
      obtain ⟨A, c, h1, h2, h3, _⟩ := hpW
      exact ⟨A, c, h1, h2, h3⟩
    subst hvp
    have f3 := (HM3.out W3 HU.out).fac 3 _ rfl
    clear hpn hpc
    by_cases hn7 : f.points.length ≤ x.n
    · have HY := Lib.hid (show X = 0 by rw [HX.out, Po.took, if_pos hn7])
      have hn' : (f.points.length : Int) ≤ x.n := by omega
      clear hpW hn7 hx3
      go_wp2_with fail
      go_ret
      exact ⟨ret_int HY.out.symm, HB3.out.1⟩
    · obtain ⟨r, hr⟩ : ∃ r, f.points[x.n]? = some r := ⟨_, List.getElem?_eq_getElem (by omega)⟩
      have hgd : f.points.getD x.n [] = r := by rw [List.getD_eq_getElem?_getD, hr]; rfl
      obtain ⟨b7, o7, A2, c2, rfl, hbB, -, g0, hr1⟩ := hpW.at hr
      have hn' : ¬ (f.points.length : Int) ≤ x.n := by omega
      have i1 : 0 ≤ (x.n : Int) ∧ (x.n : Int) < f.points.length := by omega
      have i1' := i1.2
      by_cases hm : r.length ≤ x.m
      · have HY := Lib.hid (show X = 0 by rw [HX.out, Po.took, if_neg hn7, hgd, if_pos hm])
        have hm' : (r.length : Int) ≤ x.m := by omega
        clear hpW hn7 hm hr1 hx3 hgd
        go_upto_region 20 with fail
        go_quiet (fail)
        all_goals (go_wp2_with fail; try go_ret)
        all_goals exact ⟨ret_int HY.out.symm, below_drewN HB3.out.1 _⟩
      · obtain ⟨y, hy⟩ : ∃ y, r[x.m]? = some y := ⟨_, List.getElem?_eq_getElem (by omega)⟩
        have hyd : Po.at_ r x.m = y := by rw [Po.at_, List.getD_eq_getElem?_getD, hy]; rfl
        obtain ⟨b8, o8, rfl, hb8, g3⟩ := hr1.at hy
        have hm' : ¬ (r.length : Int) ≤ x.m := by omega
        have i2 : 0 ≤ (x.m : Int) ∧ (x.m : Int) < r.length := by omega
        have i2' := i2.2
        have hyv := hv r (List.mem_of_getElem? hr) y (List.mem_of_getElem? hy)
        by_cases h1 : y = -1
        · subst h1
          have HY := Lib.hid (show X = -1 by rw [HX.out, Po.took, if_neg hn7, hgd, if_neg hm, hyd, if_pos rfl])
          clear hpW hn7 hm hr1 hyd hyv hy hr hgd hx3
          go_upto_region 20 with fail
          go_quiet (fail)
          all_goals (go_upto_region 22 with fail)
          all_goals (go_quiet (fail))
          all_goals (go_wp2_with fail; try go_ret)
          all_goals exact ⟨ret_int HY.out.symm, below_drewN HB3.out.1 _⟩
        · have HY := Lib.hid (show X = Po.truth (Po.hasSide y x.side) by rw [HX.out, Po.took, if_neg hn7, hgd, if_neg hm, hyd, if_neg h1])
          have HS := Lib.hid (show (bits BinOp.and IntKind.i64 y (x.side : Int) != 0) = Po.hasSide y x.side by
            obtain ⟨k, hk, rfl⟩ : ∃ k : Nat, k < 4 ∧ y = k := ⟨y.toNat, by omega, by omega⟩
            exact side_all ⟨k, hk⟩ ⟨x.side, by omega⟩)
          clear hpW hn7 hm hr1 hyd hyv hy hr hgd hx3
          go_upto_region 20 with fail
          go_quiet (fail)
          all_goals (go_upto_region 22 with fail)
          all_goals (go_quiet (fail))
          all_goals (go_wp2_with (go_at_call 64; refine (rf_truth _ _).mono ?_; rintro e w' ⟨rfl, hw⟩; subst hw); try go_ret)
          all_goals exact ⟨by rw [HY.out, ← HS.out]; rfl, below_drewN HB3.out.1 _⟩
  · obtain ⟨a, hof, hak⟩ := HK.out.1.one e
    obtain ⟨ob, oc, rfl, hob, ho0⟩ := (show OfAt w L w.heap.size u [a] by rw [← hof]; exact HK.out.2.1).one
    have HX := HE.out.trans (nd_8 e hof)
    have hval := Po.evalAll_val o f a
    have d0' := HC.out.1
    rw [e] at d0 d0'
    clear e
    have HD0 := Lib.hid d0'
    clear d0'
    have HS : Hid (∀ W', Und W3 W' → W'.cell? ⟨w.heap.size, 0, none⟩ = some (.slice (some ⟨b, off, none⟩) n c) ∧ W'.cell? ⟨W.heap.size, 0, none⟩ = some (.int .i64 8) ∧ W'.cell? ⟨W.heap.size, 20, none⟩ = some (.slice (some ⟨ob, 0, none⟩) 1 oc) ∧ W'.cell? ⟨ob, 0, none⟩ = some (.int .i64 a) ∧ W'.cell? ⟨w.heap.size + 1, 0, none⟩ = some (.int .i64 f.version) ∧ W'.cell? ⟨w.heap.size + 1, 1, none⟩ = some (.int .i64 f.epoch) ∧ W'.cell? ⟨w.heap.size + 1, 2, none⟩ = some vs ∧ W'.cell? ⟨w.heap.size + 1, 3, none⟩ = some vp) := Lib.hid fun W' h => by
      have q := HM3.out W' h
      have hw := HB3.out.1.trans (h.mono HB3.out.1.size)
      exact ⟨q.pol, q.nod 0 _ HD0.out, q.nod 20 _ HC.out.2.2.2.2.1, (hw.cell (p := ⟨ob, 0, none⟩) hob).trans ho0, q.fac 0 _ rfl, q.fac 1 _ rfl, q.fac 2 _ rfl, q.fac 3 _ rfl⟩
    have HC1 : Hid (∀ Wc, Und W3 Wc → Calls Tryz.prog 41 #[.agg #[.slice (some ⟨b, off, none⟩) n c], .int .i64 a, .agg #[.int .i64 f.version, .int .i64 f.epoch, vs, vp]] Wc fun e w' => e = .returned (.int .i64 (Po.at_ (Po.evalAll o f) a)) ∧ Below Wc.heap.size Wc w') := Lib.hid fun Wc h => by
      have hw := HB3.out.1.trans (h.mono HB3.out.1.size)
      exact IH a hak _ _ Wc L ((HD.out.1.below hw).more (Nat.le_refl _) hw.size) ⟨vs, vp, rfl, (HD.out.2.1.below hw).mono hw.size, (HD.out.2.2.below hw).mono hw.size⟩
    obtain ⟨va, hva⟩ : ∃ y, Po.at_ (Po.evalAll o f) a = y := ⟨_, rfl⟩
    rw [hva] at HX HC1 hval
    have HX := Lib.hid HX
    have HUD : Hid (Und W3 W3.drew) := Lib.hid (Below.drew HU.out)
    clear hva hof hob ho0 hak 
    go_upto_region 26 with fail
    go_region_held3 (fun W' => W'.cell? ⟨w.heap.size, 0, none⟩ = some (.slice (some ⟨b, off, none⟩) n c) ∧ W'.cell? ⟨W.heap.size, 0, none⟩ = some (.int .i64 8) ∧ W'.cell? ⟨W.heap.size, 20, none⟩ = some (.slice (some ⟨ob, 0, none⟩) 1 oc) ∧ W'.cell? ⟨ob, 0, none⟩ = some (.int .i64 a) ∧ W'.cell? ⟨w.heap.size + 1, 0, none⟩ = some (.int .i64 f.version) ∧ W'.cell? ⟨w.heap.size + 1, 1, none⟩ = some (.int .i64 f.epoch) ∧ W'.cell? ⟨w.heap.size + 1, 2, none⟩ = some vs ∧ W'.cell? ⟨w.heap.size + 1, 3, none⟩ = some vp) (first | assumption | exact HS.out _ HUD.out | exact HS.out _ hU6) (first | (go_at_call 41; (with_reducible refine (HC1.out _ HUD.out).mono ?_); rintro e w6 ⟨rfl, hb6⟩; have hU6 : Und W3 w6 := HUD.out.trans (hb6.mono HUD.out.size)))
    have HU6 := Lib.hid hU6
    obtain ⟨-, d0, -⟩ := HS.out _ HU6.out
    clear hb6
    rcases hval with rfl | rfl | rfl
    all_goals
      go_wp2_with fail
      go_ret
      exact ⟨ret_int (HX.out.trans (by rfl)).symm, HB3.out.1.trans (HU6.out.mono HB3.out.1.size)⟩
  · obtain ⟨a, a2, hof, hak, hak2⟩ := HK.out.1.two (by omega)
    obtain ⟨ob, oc, rfl, hob, ho0, ho1⟩ := (show OfAt w L w.heap.size u [a, a2] by rw [← hof]; exact HK.out.2.1).two
    have hval := Po.evalAll_val o f a
    have hval2 := Po.evalAll_val o f a2
    have HX := HE.out.trans (nd_9 e hof hval hval2)
    have d0' := HC.out.1
    rw [e] at d0 d0'
    clear e
    have HD0 := Lib.hid d0'
    clear d0'
    have HS : Hid (∀ W', Und W3 W' → W'.cell? ⟨w.heap.size, 0, none⟩ = some (.slice (some ⟨b, off, none⟩) n c) ∧ W'.cell? ⟨W.heap.size, 0, none⟩ = some (.int .i64 9) ∧ W'.cell? ⟨W.heap.size, 20, none⟩ = some (.slice (some ⟨ob, 0, none⟩) 2 oc) ∧ W'.cell? ⟨ob, 0, none⟩ = some (.int .i64 a) ∧ W'.cell? ⟨ob, 1, none⟩ = some (.int .i64 a2) ∧ W'.cell? ⟨w.heap.size + 1, 0, none⟩ = some (.int .i64 f.version) ∧ W'.cell? ⟨w.heap.size + 1, 1, none⟩ = some (.int .i64 f.epoch) ∧ W'.cell? ⟨w.heap.size + 1, 2, none⟩ = some vs ∧ W'.cell? ⟨w.heap.size + 1, 3, none⟩ = some vp) := Lib.hid fun W' h => by
      have q := HM3.out W' h
      have hw := HB3.out.1.trans (h.mono HB3.out.1.size)
      exact ⟨q.pol, q.nod 0 _ HD0.out, q.nod 20 _ HC.out.2.2.2.2.1, (hw.cell (p := ⟨ob, 0, none⟩) hob).trans ho0, (hw.cell (p := ⟨ob, 1, none⟩) hob).trans ho1, q.fac 0 _ rfl, q.fac 1 _ rfl, q.fac 2 _ rfl, q.fac 3 _ rfl⟩
    have HC1 : Hid (∀ Wc, Und W3 Wc → Calls Tryz.prog 41 #[.agg #[.slice (some ⟨b, off, none⟩) n c], .int .i64 a, .agg #[.int .i64 f.version, .int .i64 f.epoch, vs, vp]] Wc fun e w' => e = .returned (.int .i64 (Po.at_ (Po.evalAll o f) a)) ∧ Below Wc.heap.size Wc w') := Lib.hid fun Wc h => by
      have hw := HB3.out.1.trans (h.mono HB3.out.1.size)
      exact IH a hak _ _ Wc L ((HD.out.1.below hw).more (Nat.le_refl _) hw.size) ⟨vs, vp, rfl, (HD.out.2.1.below hw).mono hw.size, (HD.out.2.2.below hw).mono hw.size⟩
    obtain ⟨va, hva⟩ : ∃ y, Po.at_ (Po.evalAll o f) a = y := ⟨_, rfl⟩
    have HC2 : Hid (∀ Wc, Und W3 Wc → Calls Tryz.prog 41 #[.agg #[.slice (some ⟨b, off, none⟩) n c], .int .i64 a2, .agg #[.int .i64 f.version, .int .i64 f.epoch, vs, vp]] Wc fun e w' => e = .returned (.int .i64 (Po.at_ (Po.evalAll o f) a2)) ∧ Below Wc.heap.size Wc w') := Lib.hid fun Wc h => by
      have hw := HB3.out.1.trans (h.mono HB3.out.1.size)
      exact IH a2 hak2 _ _ Wc L ((HD.out.1.below hw).more (Nat.le_refl _) hw.size) ⟨vs, vp, rfl, (HD.out.2.1.below hw).mono hw.size, (HD.out.2.2.below hw).mono hw.size⟩
    obtain ⟨vb, hvb⟩ : ∃ y, Po.at_ (Po.evalAll o f) a2 = y := ⟨_, rfl⟩
    rw [hva] at HX HC1 hval
    rw [hvb] at HX HC2 hval2
    have HX := Lib.hid HX
    have HUD : Hid (Und W3 W3.drew) := Lib.hid (Below.drew HU.out)
    clear hva hof hob ho0 hak hvb ho1 hak2
    go_upto_region 26 with fail
    go_region_held3 (fun W' => W'.cell? ⟨w.heap.size, 0, none⟩ = some (.slice (some ⟨b, off, none⟩) n c) ∧ W'.cell? ⟨W.heap.size, 0, none⟩ = some (.int .i64 9) ∧ W'.cell? ⟨W.heap.size, 20, none⟩ = some (.slice (some ⟨ob, 0, none⟩) 2 oc) ∧ W'.cell? ⟨ob, 0, none⟩ = some (.int .i64 a) ∧ W'.cell? ⟨ob, 1, none⟩ = some (.int .i64 a2) ∧ W'.cell? ⟨w.heap.size + 1, 0, none⟩ = some (.int .i64 f.version) ∧ W'.cell? ⟨w.heap.size + 1, 1, none⟩ = some (.int .i64 f.epoch) ∧ W'.cell? ⟨w.heap.size + 1, 2, none⟩ = some vs ∧ W'.cell? ⟨w.heap.size + 1, 3, none⟩ = some vp) (first | assumption | exact HS.out _ HUD.out | exact HS.out _ hU6) (first | (go_at_call 41; (with_reducible refine (HC1.out _ HUD.out).mono ?_); rintro e w6 ⟨rfl, hb6⟩; have hU6 : Und W3 w6 := HUD.out.trans (hb6.mono HUD.out.size)))
    have HU6 := Lib.hid hU6
    obtain ⟨-, d0, -⟩ := HS.out _ HU6.out
    clear hb6 hU6
    go_upto_region 31 with fail
    have HUE : Hid (Und W3 w6.drew) := Lib.hid (Below.drew HU6.out)
    go_region_held3 (fun W' => W'.cell? ⟨w.heap.size, 0, none⟩ = some (.slice (some ⟨b, off, none⟩) n c) ∧ W'.cell? ⟨W.heap.size, 0, none⟩ = some (.int .i64 9) ∧ W'.cell? ⟨W.heap.size, 20, none⟩ = some (.slice (some ⟨ob, 0, none⟩) 2 oc) ∧ W'.cell? ⟨ob, 0, none⟩ = some (.int .i64 a) ∧ W'.cell? ⟨ob, 1, none⟩ = some (.int .i64 a2) ∧ W'.cell? ⟨w.heap.size + 1, 0, none⟩ = some (.int .i64 f.version) ∧ W'.cell? ⟨w.heap.size + 1, 1, none⟩ = some (.int .i64 f.epoch) ∧ W'.cell? ⟨w.heap.size + 1, 2, none⟩ = some vs ∧ W'.cell? ⟨w.heap.size + 1, 3, none⟩ = some vp) (first | assumption | exact HS.out _ HUE.out | exact HS.out _ hU7) (first | (go_at_call 41; (with_reducible refine (HC2.out _ HUE.out).mono ?_); rintro e w7 ⟨rfl, hb7⟩; have hU7 : Und W3 w7 := HUE.out.trans (hb7.mono HUE.out.size)))
    have HU7 := Lib.hid hU7
    obtain ⟨-, d0, -⟩ := HS.out _ HU7.out
    clear hb7
    rcases hval with rfl | rfl | rfl <;> rcases hval2 with rfl | rfl | rfl
    all_goals
      go_wp2_with fail
      go_ret
      refine ⟨ret_int ?_, HB3.out.1.trans (HU7.out.mono HB3.out.1.size)⟩
      first | rfl | (rw [HX.out]; decide)
  · obtain ⟨a, a2, hof, hak, hak2⟩ := HK.out.1.two (by omega)
    obtain ⟨ob, oc, rfl, hob, ho0, ho1⟩ := (show OfAt w L w.heap.size u [a, a2] by rw [← hof]; exact HK.out.2.1).two
    have hval := Po.evalAll_val o f a
    have hval2 := Po.evalAll_val o f a2
    have HX := HE.out.trans (nd_10 e hof hval hval2)
    have d0' := HC.out.1
    rw [e] at d0 d0'
    clear e
    have HD0 := Lib.hid d0'
    clear d0'
    have HS : Hid (∀ W', Und W3 W' → W'.cell? ⟨w.heap.size, 0, none⟩ = some (.slice (some ⟨b, off, none⟩) n c) ∧ W'.cell? ⟨W.heap.size, 0, none⟩ = some (.int .i64 10) ∧ W'.cell? ⟨W.heap.size, 20, none⟩ = some (.slice (some ⟨ob, 0, none⟩) 2 oc) ∧ W'.cell? ⟨ob, 0, none⟩ = some (.int .i64 a) ∧ W'.cell? ⟨ob, 1, none⟩ = some (.int .i64 a2) ∧ W'.cell? ⟨w.heap.size + 1, 0, none⟩ = some (.int .i64 f.version) ∧ W'.cell? ⟨w.heap.size + 1, 1, none⟩ = some (.int .i64 f.epoch) ∧ W'.cell? ⟨w.heap.size + 1, 2, none⟩ = some vs ∧ W'.cell? ⟨w.heap.size + 1, 3, none⟩ = some vp) := Lib.hid fun W' h => by
      have q := HM3.out W' h
      have hw := HB3.out.1.trans (h.mono HB3.out.1.size)
      exact ⟨q.pol, q.nod 0 _ HD0.out, q.nod 20 _ HC.out.2.2.2.2.1, (hw.cell (p := ⟨ob, 0, none⟩) hob).trans ho0, (hw.cell (p := ⟨ob, 1, none⟩) hob).trans ho1, q.fac 0 _ rfl, q.fac 1 _ rfl, q.fac 2 _ rfl, q.fac 3 _ rfl⟩
    have HC1 : Hid (∀ Wc, Und W3 Wc → Calls Tryz.prog 41 #[.agg #[.slice (some ⟨b, off, none⟩) n c], .int .i64 a, .agg #[.int .i64 f.version, .int .i64 f.epoch, vs, vp]] Wc fun e w' => e = .returned (.int .i64 (Po.at_ (Po.evalAll o f) a)) ∧ Below Wc.heap.size Wc w') := Lib.hid fun Wc h => by
      have hw := HB3.out.1.trans (h.mono HB3.out.1.size)
      exact IH a hak _ _ Wc L ((HD.out.1.below hw).more (Nat.le_refl _) hw.size) ⟨vs, vp, rfl, (HD.out.2.1.below hw).mono hw.size, (HD.out.2.2.below hw).mono hw.size⟩
    obtain ⟨va, hva⟩ : ∃ y, Po.at_ (Po.evalAll o f) a = y := ⟨_, rfl⟩
    have HC2 : Hid (∀ Wc, Und W3 Wc → Calls Tryz.prog 41 #[.agg #[.slice (some ⟨b, off, none⟩) n c], .int .i64 a2, .agg #[.int .i64 f.version, .int .i64 f.epoch, vs, vp]] Wc fun e w' => e = .returned (.int .i64 (Po.at_ (Po.evalAll o f) a2)) ∧ Below Wc.heap.size Wc w') := Lib.hid fun Wc h => by
      have hw := HB3.out.1.trans (h.mono HB3.out.1.size)
      exact IH a2 hak2 _ _ Wc L ((HD.out.1.below hw).more (Nat.le_refl _) hw.size) ⟨vs, vp, rfl, (HD.out.2.1.below hw).mono hw.size, (HD.out.2.2.below hw).mono hw.size⟩
    obtain ⟨vb, hvb⟩ : ∃ y, Po.at_ (Po.evalAll o f) a2 = y := ⟨_, rfl⟩
    rw [hva] at HX HC1 hval
    rw [hvb] at HX HC2 hval2
    have HX := Lib.hid HX
    have HUD : Hid (Und W3 W3.drew) := Lib.hid (Below.drew HU.out)
    clear hva hof hob ho0 hak hvb ho1 hak2
    go_upto_region 26 with fail
    go_region_held3 (fun W' => W'.cell? ⟨w.heap.size, 0, none⟩ = some (.slice (some ⟨b, off, none⟩) n c) ∧ W'.cell? ⟨W.heap.size, 0, none⟩ = some (.int .i64 10) ∧ W'.cell? ⟨W.heap.size, 20, none⟩ = some (.slice (some ⟨ob, 0, none⟩) 2 oc) ∧ W'.cell? ⟨ob, 0, none⟩ = some (.int .i64 a) ∧ W'.cell? ⟨ob, 1, none⟩ = some (.int .i64 a2) ∧ W'.cell? ⟨w.heap.size + 1, 0, none⟩ = some (.int .i64 f.version) ∧ W'.cell? ⟨w.heap.size + 1, 1, none⟩ = some (.int .i64 f.epoch) ∧ W'.cell? ⟨w.heap.size + 1, 2, none⟩ = some vs ∧ W'.cell? ⟨w.heap.size + 1, 3, none⟩ = some vp) (first | assumption | exact HS.out _ HUD.out | exact HS.out _ hU6) (first | (go_at_call 41; (with_reducible refine (HC1.out _ HUD.out).mono ?_); rintro e w6 ⟨rfl, hb6⟩; have hU6 : Und W3 w6 := HUD.out.trans (hb6.mono HUD.out.size)))
    have HU6 := Lib.hid hU6
    obtain ⟨-, d0, -⟩ := HS.out _ HU6.out
    clear hb6 hU6
    go_upto_region 31 with fail
    have HUE : Hid (Und W3 w6.drew) := Lib.hid (Below.drew HU6.out)
    go_region_held3 (fun W' => W'.cell? ⟨w.heap.size, 0, none⟩ = some (.slice (some ⟨b, off, none⟩) n c) ∧ W'.cell? ⟨W.heap.size, 0, none⟩ = some (.int .i64 10) ∧ W'.cell? ⟨W.heap.size, 20, none⟩ = some (.slice (some ⟨ob, 0, none⟩) 2 oc) ∧ W'.cell? ⟨ob, 0, none⟩ = some (.int .i64 a) ∧ W'.cell? ⟨ob, 1, none⟩ = some (.int .i64 a2) ∧ W'.cell? ⟨w.heap.size + 1, 0, none⟩ = some (.int .i64 f.version) ∧ W'.cell? ⟨w.heap.size + 1, 1, none⟩ = some (.int .i64 f.epoch) ∧ W'.cell? ⟨w.heap.size + 1, 2, none⟩ = some vs ∧ W'.cell? ⟨w.heap.size + 1, 3, none⟩ = some vp) (first | assumption | exact HS.out _ HUE.out | exact HS.out _ hU7) (first | (go_at_call 41; (with_reducible refine (HC2.out _ HUE.out).mono ?_); rintro e w7 ⟨rfl, hb7⟩; have hU7 : Und W3 w7 := HUE.out.trans (hb7.mono HUE.out.size)))
    have HU7 := Lib.hid hU7
    obtain ⟨-, d0, -⟩ := HS.out _ HU7.out
    clear hb7
    rcases hval with rfl | rfl | rfl <;> rcases hval2 with rfl | rfl | rfl
    all_goals
      go_wp2_with fail
      go_ret
      refine ⟨ret_int ?_, HB3.out.1.trans (HU7.out.mono HB3.out.1.size)⟩
      first | rfl | (rw [HX.out]; decide)
theorem rf_eval_at {o : List Po.Nd} {f : Po.Facts} (hok : Po.OkAll o) (hv : ValidF f) (hl : o.length ≤ 100000) : ∀ (m k : Nat), k < m → k < o.length → EvC o f k
  | 0, _, h, _ => absurd h (Nat.not_lt_zero _)
  | m + 1, k, h, hk => by
    obtain ⟨x, hx⟩ : ∃ x, o[k]? = some x := ⟨_, List.getElem?_eq_getElem hk⟩
    exact rf_eval_step hok hv hl hx fun j hj => rf_eval_at hok hv hl m j (by omega) (by omega)
set_option maxRecDepth 1000000 in
set_option maxHeartbeats 1000000 in
theorem rf_eval (v vf : Value) (o : List Po.Nd) (f : Po.Facts) (w : World) (L : Nat) (hn : RNds w L w.heap.size v o) (hok : Po.OkAll o) (hl : o.length ≤ 100000) (h0 : 0 < o.length) (hf : RFacts w w.heap.size vf f) (hv : ValidF f) :
    Calls Tryz.prog 23 #[.agg #[v], vf] w fun e w' => e = .returned (.int .i64 (Po.eval o f)) ∧ Below w.heap.size w w' := by
  obtain ⟨A, c, rfl, -, -⟩ := hn.form
  obtain ⟨vs, vp, rfl, hs, hp⟩ := hf
  have HEV := Lib.hid (rf_eval_at hok hv hl o.length (o.length - 1) (by omega) (by omega))
  rw [Po.eval_at]
  obtain ⟨n, hn0⟩ : ∃ n, o.length = n := ⟨_, rfl⟩
  rw [hn0] at hn h0 hl HEV ⊢
  have w1 : wrap64 ((n : Int) - 1) = ((n - 1 : Nat) : Int) := by unfold wrap64; omega
  obtain ⟨W, hW⟩ : ∃ W, (w.alloc (.cells #[.slice A n c] 25)).alloc (.cells #[.int .i64 f.version, .int .i64 f.epoch, vs, vp] 42) = W := ⟨_, rfl⟩
  obtain ⟨b1, b2, hB, hsz⟩ := two_boxes W hW
  have p0 : W.cell? ⟨w.heap.size, 0, none⟩ = some (.slice A n c) := cell_of_row _ _ 0 _ _ _ b1
  have q0 : W.cell? ⟨w.heap.size + 1, 0, none⟩ = some (.int .i64 f.version) := cell_of_row _ _ 0 _ _ _ b2
  have q1 : W.cell? ⟨w.heap.size + 1, 1, none⟩ = some (.int .i64 f.epoch) := cell_of_row _ _ 1 _ _ _ b2
  have q2 : W.cell? ⟨w.heap.size + 1, 2, none⟩ = some vs := cell_of_row _ _ 2 _ _ _ b2
  have q3 : W.cell? ⟨w.heap.size + 1, 3, none⟩ = some vp := cell_of_row _ _ 3 _ _ _ b2
  have HC := Lib.hid (HEV.out (.slice A n c) _ W L ((hn.below hB).more (Nat.le_refl _) hB.size) ⟨vs, vp, rfl, (hs.below hB).mono hB.size, (hp.below hB).mono hB.size⟩)
  have HB := Lib.hid hB
  clear hn hs hp b1 b2 hB hsz h0 hl hn0 HEV
  go_enter Tryz.func23, Tryz.ntmps23
  go_upto_region 1 with fail
  clear hW
  go_wp2_with (go_at_call 41; (with_reducible refine HC.out.mono ?_); rintro e w2 ⟨rfl, hb2⟩)
  go_ret
  exact ⟨rfl, HB.out.trans (hb2.mono HB.out.size)⟩
end Go.Proofs.YtdolpmmnjndfkaaGreatDoor
