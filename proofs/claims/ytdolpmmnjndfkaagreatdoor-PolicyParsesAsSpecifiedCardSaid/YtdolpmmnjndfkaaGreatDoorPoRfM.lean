/- Chapter 29, the walk: text and Text of the reference. -/
import Derived.Test.YtdolpmmnjndfkaaGreatDoorPoRfL
import Derived.Test.YtdolpmmnjndfkaaGreatDoorPoRfI
import Derived.Deep.RegionHeld3
namespace Go.Proofs.YtdolpmmnjndfkaaGreatDoor
open Go.RowKit
/-- what text answers for node k -/
def TxC (o : List Po.Nd) (k : Nat) : Prop := ∀ (v : Value) (w : World) (L : Nat), RNds w L w.heap.size v o →
  Calls Tryz.prog 35 #[.agg #[v], .int .i64 k] w fun e w' => e = .returned (.string ⟨(Po.sub (Po.textAll o) k).toArray⟩) ∧ Below w.heap.size w w'
structure TxMem (w W : World) (v : Value) (cs : Array Value) (b2 : Nat) : Prop where
  pol : W.cell? ⟨w.heap.size, 0, none⟩ = some v
  nod : W.heap[b2]? = some (.cells cs 67 (0, 0))
theorem tx_mem {w W : World} {v : Value} {cs : Array Value} (b1 : W.heap[w.heap.size]? = some (.cells #[v] 25 (0, 0))) (hs : W.heap.size = w.heap.size + 1) :
    ∀ W3, W.alloc (.cells cs 67) = W3 → ∀ W', Und W3 W' → TxMem w W' v cs W.heap.size := by
  rintro W3 rfl W' h
  have n3 : (W.alloc (.cells cs 67)).heap[W.heap.size]? = some (.cells cs 67 (0, 0)) := heap_alloc_new _ _
  have hb := Below.new (w := W) (.cells cs 67)
  have x1 := (h.mono (Nat.le_refl _)).block w.heap.size (by simp; omega) |>.trans ((hb.block _ (by omega)).trans b1)
  have x3 := (h.mono (Nat.le_refl _)).block W.heap.size (by simp) |>.trans n3
  exact ⟨(cell_of_row _ _ 0 _ _ _ x1), x3⟩
theorem TxMem.cell {w W : World} {v : Value} {cs : Array Value} {b2 : Nat} (h : TxMem w W v cs b2) (j : Nat) (z : Value) (hz : cs[j]? = some z) : W.cell? ⟨b2, j, none⟩ = some z := (cell_of_row _ _ j _ _ _ h.nod).trans hz
set_option maxRecDepth 1000000 in
set_option maxHeartbeats 4000000 in
theorem rf_text_step {o : List Po.Nd} (hok : Po.OkAll o) (hM : ∀ j, (Po.sub (Po.textAll o) j).length ≤ 100000) {k : Nat} {x : Po.Nd} (hx : o[k]? = some x) (IH : ∀ j, j < k → TxC o j) : TxC o k := by
  intro v w L hn
  obtain ⟨T, N, R, K, LT⟩ := letters
  obtain ⟨A, c, rfl, -, -⟩ := hn.form
  have hk1 : k < o.length := (List.getElem?_eq_some_iff.1 hx).1
  obtain ⟨n, hn0⟩ : ∃ n, o.length = n := ⟨_, rfl⟩
  rw [hn0] at hn hk1 ⊢
  obtain ⟨b, off, u, rfl, hbB, hrw, hof⟩ := hn.at hx
  have hkx := hok k x hx
  have hk : 0 ≤ (k : Int) ∧ (k : Int) < n := by omega
  have hk2 := hk.2
  obtain ⟨X, hX⟩ : ∃ X, Po.sub (Po.textAll o) k = X := ⟨_, rfl⟩
  have hXe : X = Po.textNd x (Po.textAll o) := by rw [← hX, Po.textAll_at o hok k x hx]
  rw [hX]
  obtain ⟨W, hW⟩ : ∃ W, w.alloc (.cells #[.slice (some ⟨b, off, none⟩) n c] 25) = W := ⟨_, rfl⟩
  obtain ⟨b1, hB, hsz⟩ := one_box W hW
  have p0 : W.cell? ⟨w.heap.size, 0, none⟩ = some (.slice (some ⟨b, off, none⟩) n c) := cell_of_row _ _ 0 _ _ _ b1
  have hrr : W.rangeAt b (off + k * 21) (ndVals x u) := fun j v hv => (hB.cell (p := ⟨b, _, none⟩) hbB).trans (hrw j v hv)
  have hld := LT.ldN hrr (ndVals_len hkx.dg)
  have la := LT.agg
  have lz := LT.size
  have hst := store_new hkx.dg hof.one' W
  obtain ⟨q0, q1, q2, q3, q20, -⟩ := nd_cells x u hkx.dg
  have cd := nd_dig x u
  obtain ⟨cs, hcs⟩ : ∃ cs, (ndVals x u).toArray = cs := ⟨_, rfl⟩
  have hcn : cs.size = N := by rw [← hcs, LT.sz]; exact nd_size hkx.dg
  rw [hcs] at hld hst q0 q1 q2 q3 q20 cd
  have HM := Lib.hid (tx_mem (cs := cs) b1 hsz)
  have HB := Lib.hid (And.intro hB hsz)
  have HD := Lib.hid hn
  have HK := Lib.hid (And.intro hkx (And.intro hof (And.intro hrw hbB)))
  have HC := Lib.hid (And.intro q0 (And.intro q1 (And.intro q2 (And.intro q3 (And.intro q20 cd)))))
  have HE := Lib.hid hXe
  have HLE := Lib.hid hM
  clear b1 hB hsz hn hkx hof hrw hbB hrr q0 q1 q2 q3 q20 cd hXe hX hcs hn0 hk1 hM
  go_enter Tryz.func35, Tryz.ntmps35
  simp only [LT.load, LT.store, LT.loadR]
  go_upto_region 2 with fail
  clear hW hst hld p0
  obtain ⟨W3, hW3⟩ : ∃ W3, W.alloc (.cells cs 67) = W3 := ⟨_, rfl⟩
  rw [hW3]
  have HM3 := Lib.hid (HM.out W3 hW3)
  have HB3 : Hid (Below w.heap.size w W3 ∧ W3.heap.size = W.heap.size + 1) := Lib.hid (by
    rw [← hW3]
    exact ⟨HB.out.1.trans ((Below.new _).mono HB.out.1.size), by simp⟩)
  clear hW3 HM
  have HU : Hid (Und W3 W3) := Lib.hid (Below.refl _ _)
  have hlo := HK.out.1.lo
  have hhi := HK.out.1.hi
  have hc : x.k = 1 ∨ x.k = 2 ∨ x.k = 3 ∨ x.k = 4 ∨ x.k = 5 ∨ x.k = 6 ∨ x.k = 7 ∨ x.k = 8 ∨ x.k = 9 ∨ x.k = 10 := by omega
  clear hlo hhi
  have d0 := (HM3.out W3 HU.out).cell 0 _ HC.out.1
  have d1 := (HM3.out W3 HU.out).cell 1 _ HC.out.2.1
  have HDN := Lib.hid (fun w' => rf_digits (x.n + 1) x.n (Nat.lt_succ_self _) HK.out.1.nb w')
  have HDM := Lib.hid (fun w' => rf_digits (x.m + 1) x.m (Nat.lt_succ_self _) HK.out.1.mb w')
  have HLN := Lib.hid (Po.dec_len 4 x.n (by have := HK.out.1.nb; omega))
  have HLM := Lib.hid (Po.dec_len 4 x.m (by have := HK.out.1.mb; omega))
  have HUD : Hid (Und W3 W3.drew) := Lib.hid (Below.drew HU.out)
  rcases hc with e | e | e | e | e | e | e | e | e | e
  · have HX := Lib.hid (HE.out.trans (tx_1 e))
    rw [e] at d0
    clear e
    go_wp2_with fail
    go_ret
    exact ⟨by rw [HX.out]; rfl, HB3.out.1⟩
  · have HX := Lib.hid (HE.out.trans (tx_2 e))
    rw [e] at d0
    have z1 : ¬ 9223372036854775807 < 11 + (Po.dec x.n).length := by have := HLN.out; omega
    clear e
    go_wp2_with (go_at_call 59; (with_reducible refine (HDN.out _).mono ?_); rintro e w' ⟨rfl, hw⟩; rw [hw]; clear hw w')
    go_ret
    exact ⟨by rw [HX.out]; exact congrArg Ending.returned (congrArg Value.string (cat_eq [118, 101, 114, 115, 105, 111, 110, 32, 61, 61, 32] _)), HB3.out.1⟩
  · have HX := Lib.hid (HE.out.trans (tx_3 e))
    rw [e] at d0
    have z1 : ¬ 9223372036854775807 < 11 + (Po.dec x.n).length := by have := HLN.out; omega
    clear e
    go_wp2_with (go_at_call 59; (with_reducible refine (HDN.out _).mono ?_); rintro e w' ⟨rfl, hw⟩; rw [hw]; clear hw w')
    go_ret
    exact ⟨by rw [HX.out]; exact congrArg Ending.returned (congrArg Value.string (cat_eq [118, 101, 114, 115, 105, 111, 110, 32, 62, 61, 32] _)), HB3.out.1⟩
  · have HX := Lib.hid (HE.out.trans (tx_4 e))
    rw [e] at d0
    have z1 : ¬ 9223372036854775807 < 9 + (Po.dec x.n).length := by have := HLN.out; omega
    clear e
    go_wp2_with (go_at_call 59; (with_reducible refine (HDN.out _).mono ?_); rintro e w' ⟨rfl, hw⟩; rw [hw]; clear hw w')
    go_ret
    exact ⟨by rw [HX.out]; exact congrArg Ending.returned (congrArg Value.string (cat_eq [101, 112, 111, 99, 104, 32, 61, 61, 32] _)), HB3.out.1⟩
  · have HX := Lib.hid (HE.out.trans (tx_5 e))
    rw [e] at d0
    have z1 : ¬ 9223372036854775807 < 9 + (Po.dec x.n).length := by have := HLN.out; omega
    clear e
    go_wp2_with (go_at_call 59; (with_reducible refine (HDN.out _).mono ?_); rintro e w' ⟨rfl, hw⟩; rw [hw]; clear hw w')
    go_ret
    exact ⟨by rw [HX.out]; exact congrArg Ending.returned (congrArg Value.string (cat_eq [101, 112, 111, 99, 104, 32, 62, 61, 32] _)), HB3.out.1⟩
  · have HX := Lib.hid (HE.out.trans (tx_6 e))
    rw [e] at d0
    clear e
    have hdh := hexF_len 0 x.dg (by rw [HK.out.1.dg]; exact Nat.le_refl _)
    have HLH := Lib.hid hdh
    have HHX := Lib.hid (fun w' => rf_hex x.dg HK.out.1.dg HK.out.1.dgb w')
    obtain ⟨ds, hds⟩ : ∃ ds, (dgVals x.dg).toArray = ds := ⟨_, rfl⟩
    rw [hds] at HHX
    have HS : Hid (∀ W', Und W3 W' → W'.cell? ⟨W.heap.size, 1, none⟩ = some (.int .i64 x.n) ∧ Sem.run Tryz.prog (loadCellsFrom ⟨W.heap.size, 4, none⟩ 0 K #[]) W' = .ok ds W') := Lib.hid fun W' h => by
      have q := HM3.out W' h
      refine ⟨q.cell 1 _ HC.out.2.1, ?_⟩
      rw [← hds]
      exact LT.ldR (fun j v hv => q.cell (4 + j) v (HC.out.2.2.2.2.2 j v hv)) HK.out.1.dg
    have la := LT.aggR
    have lz := LT.sizeR
    have z1 : ¬ 9223372036854775807 < 6 + (Po.dec x.n).length := by have := HLN.out; omega
    have z2 : ¬ 9223372036854775807 < 6 + (Po.dec x.n).length + 3 := by have := HLN.out; omega
    have z3 : ¬ 9223372036854775807 < 6 + (Po.dec x.n).length + 3 + (Po.hexF 0 x.dg).length := by have := HLN.out; omega
    clear hdh hds
    go_upto_region 14 with fail
    go_region_held3 (fun W' => W'.cell? ⟨W.heap.size, 1, none⟩ = some (.int .i64 x.n) ∧ Sem.run Tryz.prog (loadCellsFrom ⟨W.heap.size, 4, none⟩ 0 K #[]) W' = .ok ds W') (first | assumption | exact HS.out _ HUD.out | exact HS.out _ hU6) (first
      | (go_at_call 59; (with_reducible refine (HDN.out _).mono ?_); rintro e w' ⟨rfl, hw⟩; rw [hw]; clear hw w')
      | (go_at_call 60; (with_reducible refine (HHX.out _).mono ?_); rintro e w6 ⟨rfl, hb6⟩; have hU6 : Und W3 w6 := HUD.out.trans (hb6.mono HUD.out.size)))
    all_goals
      go_wp2_with fail
      go_ret
      exact ⟨by rw [HX.out]; exact congrArg Ending.returned (congrArg Value.string (cat4 [115, 116, 97, 103, 101, 32] _ [32, 105, 115] _)), HB3.out.1.trans (Und.mono hU6 HB3.out.1.size)⟩
  · have hside := HK.out.1.side e
    have HX7 := HE.out.trans (tx_7 e)
    rw [e] at d0
    clear e
    have HS : Hid (∀ W', Und W3 W' → W'.cell? ⟨W.heap.size, 1, none⟩ = some (.int .i64 x.n) ∧ W'.cell? ⟨W.heap.size, 2, none⟩ = some (.int .i64 x.m)) := Lib.hid fun W' h => by
      have q := HM3.out W' h
      exact ⟨q.cell 1 _ HC.out.2.1, q.cell 2 _ HC.out.2.2.1⟩
    have d3 := (HM3.out W3 HU.out).cell 3 _ HC.out.2.2.2.1
    have z1 : ¬ 9223372036854775807 < 6 + (Po.dec x.n).length := by have := HLN.out; omega
    have z2 : ¬ 9223372036854775807 < 6 + (Po.dec x.n).length + 1 := by have := HLN.out; omega
    have z3 : ¬ 9223372036854775807 < 6 + (Po.dec x.n).length + 1 + (Po.dec x.m).length := by have := HLN.out; have := HLM.out; omega
    have z4 : ¬ 9223372036854775807 < 6 + (Po.dec x.n).length + 1 + (Po.dec x.m).length + 6 := by have := HLN.out; have := HLM.out; omega
    have z5 : ¬ 9223372036854775807 < 6 + (Po.dec x.n).length + 1 + (Po.dec x.m).length + 6 + 4 := by have := HLN.out; have := HLM.out; omega
    have z6 : ¬ 9223372036854775807 < 6 + (Po.dec x.n).length + 1 + (Po.dec x.m).length + 6 + 5 := by have := HLN.out; have := HLM.out; omega
    have HX7' := Lib.hid HX7
    clear HX7
    go_upto_region 16 with fail
    go_region_held3 (fun W' => W'.cell? ⟨W.heap.size, 1, none⟩ = some (.int .i64 x.n) ∧ W'.cell? ⟨W.heap.size, 2, none⟩ = some (.int .i64 x.m)) (first | assumption | exact HS.out _ HUD.out) (first
      | (go_at_call 59; (with_reducible refine (HDN.out _).mono ?_); rintro e w' ⟨rfl, hw⟩; rw [hw]; clear hw w')
      | (go_at_call 59; (with_reducible refine (HDM.out _).mono ?_); rintro e w' ⟨rfl, hw⟩; rw [hw]; clear hw w'))
    all_goals
      rcases hside with hs1 | hs1
      · have HX := Lib.hid (HX7'.out.trans (by rw [if_pos hs1]))
        have d3' := d3
        rw [hs1] at d3'
        clear d3 hs1
        go_wp2_with fail
        go_ret
        exact ⟨by rw [HX.out]; exact congrArg Ending.returned (congrArg Value.string (cat6 [112, 111, 105, 110, 116, 32] _ [32] _ [32, 116, 111, 111, 107, 32] _ _ rfl)), HB3.out.1.trans (Und.mono HUD.out HB3.out.1.size)⟩
      · have HX := Lib.hid (HX7'.out.trans (by rw [if_neg (by rw [hs1]; decide)]))
        have d3' := d3
        rw [hs1] at d3'
        clear d3 hs1
        go_wp2_with fail
        go_ret
        exact ⟨by rw [HX.out]; exact congrArg Ending.returned (congrArg Value.string (cat6 [112, 111, 105, 110, 116, 32] _ [32] _ [32, 116, 111, 111, 107, 32] _ _ rfl)), HB3.out.1.trans (Und.mono HUD.out HB3.out.1.size)⟩
  · obtain ⟨a, hofx, hak⟩ := HK.out.1.one e
    obtain ⟨ob, oc, rfl, hob, ho0⟩ := (show OfAt w L w.heap.size u [a] by rw [← hofx]; exact HK.out.2.1).one
    have HX := HE.out.trans (tx_8 e hofx)
    have hla := HLE.out a
    rw [e] at d0
    clear e
    have HS : Hid (∀ W', Und W3 W' → W'.cell? ⟨w.heap.size, 0, none⟩ = some (.slice (some ⟨b, off, none⟩) n c) ∧ W'.cell? ⟨W.heap.size, 20, none⟩ = some (.slice (some ⟨ob, 0, none⟩) 1 oc) ∧ W'.cell? ⟨ob, 0, none⟩ = some (.int .i64 a)) := Lib.hid fun W' h => by
      have q := HM3.out W' h
      have hw := HB3.out.1.trans (h.mono HB3.out.1.size)
      exact ⟨q.pol, q.cell 20 _ HC.out.2.2.2.2.1, (hw.cell (p := ⟨ob, 0, none⟩) hob).trans ho0⟩
    have HC1 : Hid (∀ Wc, Und W3 Wc → Calls Tryz.prog 35 #[.agg #[.slice (some ⟨b, off, none⟩) n c], .int .i64 a] Wc fun e w' => e = .returned (.string ⟨(Po.sub (Po.textAll o) a).toArray⟩) ∧ Below Wc.heap.size Wc w') := Lib.hid fun Wc h => by
      have hw := HB3.out.1.trans (h.mono HB3.out.1.size)
      exact IH a hak _ Wc L ((HD.out.below hw).more (Nat.le_refl _) hw.size)
    obtain ⟨va, hva⟩ : ∃ y, Po.sub (Po.textAll o) a = y := ⟨_, rfl⟩
    rw [hva] at HX HC1 hla
    have HX := Lib.hid HX
    have z1 : ¬ 9223372036854775807 < 1 + va.length := by omega
    clear hva hofx hob ho0 hak hla
    go_upto_region 21 with fail
    go_region_held3 (fun W' => W'.cell? ⟨w.heap.size, 0, none⟩ = some (.slice (some ⟨b, off, none⟩) n c) ∧ W'.cell? ⟨W.heap.size, 20, none⟩ = some (.slice (some ⟨ob, 0, none⟩) 1 oc) ∧ W'.cell? ⟨ob, 0, none⟩ = some (.int .i64 a)) (first | assumption | exact HS.out _ HUD.out | exact HS.out _ hU6) (first | (go_at_call 35; (with_reducible refine (HC1.out _ HUD.out).mono ?_); rintro e w6 ⟨rfl, hb6⟩; have hU6 : Und W3 w6 := HUD.out.trans (hb6.mono HUD.out.size)))
    all_goals
      go_wp2_with fail
      go_ret
      exact ⟨by rw [HX.out]; exact congrArg Ending.returned (congrArg Value.string (cat_eq [33] _)), HB3.out.1.trans (Und.mono hU6 HB3.out.1.size)⟩
  · obtain ⟨a, a2, hofx, hak, hak2⟩ := HK.out.1.two (by omega)
    obtain ⟨ob, oc, rfl, hob, ho0, ho1⟩ := (show OfAt w L w.heap.size u [a, a2] by rw [← hofx]; exact HK.out.2.1).two
    have HX := HE.out.trans (tx_9 e hofx)
    have hla := HLE.out a
    have hlb := HLE.out a2
    rw [e] at d0
    clear e
    have HS : Hid (∀ W', Und W3 W' → W'.cell? ⟨w.heap.size, 0, none⟩ = some (.slice (some ⟨b, off, none⟩) n c) ∧ W'.cell? ⟨W.heap.size, 20, none⟩ = some (.slice (some ⟨ob, 0, none⟩) 2 oc) ∧ W'.cell? ⟨ob, 0, none⟩ = some (.int .i64 a) ∧ W'.cell? ⟨ob, 1, none⟩ = some (.int .i64 a2)) := Lib.hid fun W' h => by
      have q := HM3.out W' h
      have hw := HB3.out.1.trans (h.mono HB3.out.1.size)
      exact ⟨q.pol, q.cell 20 _ HC.out.2.2.2.2.1, (hw.cell (p := ⟨ob, 0, none⟩) hob).trans ho0, (hw.cell (p := ⟨ob, 1, none⟩) hob).trans ho1⟩
    have HC1 : Hid (∀ Wc, Und W3 Wc → Calls Tryz.prog 35 #[.agg #[.slice (some ⟨b, off, none⟩) n c], .int .i64 a] Wc fun e w' => e = .returned (.string ⟨(Po.sub (Po.textAll o) a).toArray⟩) ∧ Below Wc.heap.size Wc w') := Lib.hid fun Wc h => by
      have hw := HB3.out.1.trans (h.mono HB3.out.1.size)
      exact IH a hak _ Wc L ((HD.out.below hw).more (Nat.le_refl _) hw.size)
    obtain ⟨va, hva⟩ : ∃ y, Po.sub (Po.textAll o) a = y := ⟨_, rfl⟩
    have HC2 : Hid (∀ Wc, Und W3 Wc → Calls Tryz.prog 35 #[.agg #[.slice (some ⟨b, off, none⟩) n c], .int .i64 a2] Wc fun e w' => e = .returned (.string ⟨(Po.sub (Po.textAll o) a2).toArray⟩) ∧ Below Wc.heap.size Wc w') := Lib.hid fun Wc h => by
      have hw := HB3.out.1.trans (h.mono HB3.out.1.size)
      exact IH a2 hak2 _ Wc L ((HD.out.below hw).more (Nat.le_refl _) hw.size)
    obtain ⟨vb, hvb⟩ : ∃ y, Po.sub (Po.textAll o) a2 = y := ⟨_, rfl⟩
    rw [hva] at HX HC1 hla
    rw [hvb] at HX HC2 hlb
    have HX := Lib.hid HX
    have z1 : ¬ 9223372036854775807 < 1 + va.length := by omega
    have z2 : ¬ 9223372036854775807 < 1 + va.length + 4 := by omega
    have z3 : ¬ 9223372036854775807 < 1 + va.length + 4 + vb.length := by omega
    have z4 : ¬ 9223372036854775807 < 1 + va.length + 4 + vb.length + 1 := by omega
    clear hva hvb hofx hob ho0 ho1 hak hak2 hla hlb
    go_upto_region 23 with fail
    go_region_held3 (fun W' => W'.cell? ⟨w.heap.size, 0, none⟩ = some (.slice (some ⟨b, off, none⟩) n c) ∧ W'.cell? ⟨W.heap.size, 20, none⟩ = some (.slice (some ⟨ob, 0, none⟩) 2 oc) ∧ W'.cell? ⟨ob, 0, none⟩ = some (.int .i64 a) ∧ W'.cell? ⟨ob, 1, none⟩ = some (.int .i64 a2)) (first | assumption | exact HS.out _ HUD.out | exact HS.out _ hU7 | exact HS.out _ hU6) (first
      | (go_at_call 35; (with_reducible refine (HC2.out _ hU6).mono ?_); rintro e w7 ⟨rfl, hb7⟩; have hU7 : Und W3 w7 := hU6.trans (hb7.mono hU6.size))
      | (go_at_call 35; (with_reducible refine (HC1.out _ HUD.out).mono ?_); rintro e w6 ⟨rfl, hb6⟩; have hU6 : Und W3 w6 := HUD.out.trans (hb6.mono HUD.out.size)))
    all_goals
      go_wp2_with fail
      go_ret
      exact ⟨by rw [HX.out]; exact congrArg Ending.returned (congrArg Value.string (cat5 [40] _ [32, 38, 38, 32] _ [41])), HB3.out.1.trans (Und.mono hU7 HB3.out.1.size)⟩
  · obtain ⟨a, a2, hofx, hak, hak2⟩ := HK.out.1.two (by omega)
    obtain ⟨ob, oc, rfl, hob, ho0, ho1⟩ := (show OfAt w L w.heap.size u [a, a2] by rw [← hofx]; exact HK.out.2.1).two
    have HX := HE.out.trans (tx_10 e hofx)
    have hla := HLE.out a
    have hlb := HLE.out a2
    rw [e] at d0
    clear e
    have HS : Hid (∀ W', Und W3 W' → W'.cell? ⟨w.heap.size, 0, none⟩ = some (.slice (some ⟨b, off, none⟩) n c) ∧ W'.cell? ⟨W.heap.size, 20, none⟩ = some (.slice (some ⟨ob, 0, none⟩) 2 oc) ∧ W'.cell? ⟨ob, 0, none⟩ = some (.int .i64 a) ∧ W'.cell? ⟨ob, 1, none⟩ = some (.int .i64 a2)) := Lib.hid fun W' h => by
      have q := HM3.out W' h
      have hw := HB3.out.1.trans (h.mono HB3.out.1.size)
      exact ⟨q.pol, q.cell 20 _ HC.out.2.2.2.2.1, (hw.cell (p := ⟨ob, 0, none⟩) hob).trans ho0, (hw.cell (p := ⟨ob, 1, none⟩) hob).trans ho1⟩
    have HC1 : Hid (∀ Wc, Und W3 Wc → Calls Tryz.prog 35 #[.agg #[.slice (some ⟨b, off, none⟩) n c], .int .i64 a] Wc fun e w' => e = .returned (.string ⟨(Po.sub (Po.textAll o) a).toArray⟩) ∧ Below Wc.heap.size Wc w') := Lib.hid fun Wc h => by
      have hw := HB3.out.1.trans (h.mono HB3.out.1.size)
      exact IH a hak _ Wc L ((HD.out.below hw).more (Nat.le_refl _) hw.size)
    obtain ⟨va, hva⟩ : ∃ y, Po.sub (Po.textAll o) a = y := ⟨_, rfl⟩
    have HC2 : Hid (∀ Wc, Und W3 Wc → Calls Tryz.prog 35 #[.agg #[.slice (some ⟨b, off, none⟩) n c], .int .i64 a2] Wc fun e w' => e = .returned (.string ⟨(Po.sub (Po.textAll o) a2).toArray⟩) ∧ Below Wc.heap.size Wc w') := Lib.hid fun Wc h => by
      have hw := HB3.out.1.trans (h.mono HB3.out.1.size)
      exact IH a2 hak2 _ Wc L ((HD.out.below hw).more (Nat.le_refl _) hw.size)
    obtain ⟨vb, hvb⟩ : ∃ y, Po.sub (Po.textAll o) a2 = y := ⟨_, rfl⟩
    rw [hva] at HX HC1 hla
    rw [hvb] at HX HC2 hlb
    have HX := Lib.hid HX
    have z1 : ¬ 9223372036854775807 < 1 + va.length := by omega
    have z2 : ¬ 9223372036854775807 < 1 + va.length + 4 := by omega
    have z3 : ¬ 9223372036854775807 < 1 + va.length + 4 + vb.length := by omega
    have z4 : ¬ 9223372036854775807 < 1 + va.length + 4 + vb.length + 1 := by omega
    clear hva hvb hofx hob ho0 ho1 hak hak2 hla hlb
    go_upto_region 24 with fail
    go_region_held3 (fun W' => W'.cell? ⟨w.heap.size, 0, none⟩ = some (.slice (some ⟨b, off, none⟩) n c) ∧ W'.cell? ⟨W.heap.size, 20, none⟩ = some (.slice (some ⟨ob, 0, none⟩) 2 oc) ∧ W'.cell? ⟨ob, 0, none⟩ = some (.int .i64 a) ∧ W'.cell? ⟨ob, 1, none⟩ = some (.int .i64 a2)) (first | assumption | exact HS.out _ HUD.out | exact HS.out _ hU7 | exact HS.out _ hU6) (first
      | (go_at_call 35; (with_reducible refine (HC2.out _ hU6).mono ?_); rintro e w7 ⟨rfl, hb7⟩; have hU7 : Und W3 w7 := hU6.trans (hb7.mono hU6.size))
      | (go_at_call 35; (with_reducible refine (HC1.out _ HUD.out).mono ?_); rintro e w6 ⟨rfl, hb6⟩; have hU6 : Und W3 w6 := HUD.out.trans (hb6.mono HUD.out.size)))
    all_goals
      go_wp2_with fail
      go_ret
      exact ⟨by rw [HX.out]; exact congrArg Ending.returned (congrArg Value.string (cat5 [40] _ [32, 124, 124, 32] _ [41])), HB3.out.1.trans (Und.mono hU7 HB3.out.1.size)⟩
theorem rf_text_at {o : List Po.Nd} (hok : Po.OkAll o) (hM : ∀ j, (Po.sub (Po.textAll o) j).length ≤ 100000) : ∀ (m k : Nat), k < m → k < o.length → TxC o k
  | 0, _, h, _ => absurd h (Nat.not_lt_zero _)
  | m + 1, k, h, hk => by
    obtain ⟨x, hx⟩ : ∃ x, o[k]? = some x := ⟨_, List.getElem?_eq_getElem hk⟩
    exact rf_text_step hok hM hx fun j hj => rf_text_at hok hM m j (by omega) (by omega)
set_option maxRecDepth 1000000 in
set_option maxHeartbeats 1000000 in
theorem rf_text (v : Value) (o : List Po.Nd) (w : World) (L : Nat) (hn : RNds w L w.heap.size v o) (hok : Po.OkAll o) (hl : o.length ≤ 100000) (h0 : 0 < o.length) (hM : ∀ j, (Po.sub (Po.textAll o) j).length ≤ 100000) :
    Calls Tryz.prog 17 #[.agg #[v]] w fun e w' => e = .returned (.string ⟨(Po.text o).toArray⟩) ∧ Below w.heap.size w w' := by
  obtain ⟨A, c, rfl, -, -⟩ := hn.form
  have HEV := Lib.hid (rf_text_at hok hM o.length (o.length - 1) (by omega) (by omega))
  rw [Po.text_at]
  obtain ⟨n, hn0⟩ : ∃ n, o.length = n := ⟨_, rfl⟩
  rw [hn0] at hn h0 hl HEV ⊢
  have w1 : wrap64 ((n : Int) - 1) = ((n - 1 : Nat) : Int) := by unfold wrap64; omega
  obtain ⟨W, hW⟩ : ∃ W, w.alloc (.cells #[.slice A n c] 25) = W := ⟨_, rfl⟩
  obtain ⟨b1, hB, hsz⟩ := one_box W hW
  have p0 : W.cell? ⟨w.heap.size, 0, none⟩ = some (.slice A n c) := cell_of_row _ _ 0 _ _ _ b1
  have HC := Lib.hid (HEV.out (.slice A n c) W L ((hn.below hB).more (Nat.le_refl _) hB.size))
  have HB := Lib.hid hB
  clear hn b1 hB hsz h0 hl hn0 HEV
  go_enter Tryz.func17, Tryz.ntmps17
  go_upto_region 1 with fail
  clear hW
  go_wp2_with (go_at_call 35; (with_reducible refine HC.out.mono ?_); rintro e w2 ⟨rfl, hb2⟩)
  go_ret
  exact ⟨rfl, HB.out.trans (hb2.mono HB.out.size)⟩
end Go.Proofs.YtdolpmmnjndfkaaGreatDoor
