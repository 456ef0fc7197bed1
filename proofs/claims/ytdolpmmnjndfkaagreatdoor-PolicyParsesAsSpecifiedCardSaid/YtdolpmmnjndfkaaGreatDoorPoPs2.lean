/- Chapter 29, the walk: the law PolicyParsesAsSpecified. -/
import Derived.Test.YtdolpmmnjndfkaaGreatDoorPoRt
import Derived.Test.YtdolpmmnjndfkaaGreatDoorPoRfM
import Derived.Test.YtdolpmmnjndfkaaGreatDoorPoRfN
import Derived.Test.YtdolpmmnjndfkaaGreatDoorPoRfK
namespace Go.Proofs.YtdolpmmnjndfkaaGreatDoor
open Go.RowKit
theorem und_self (w : World) : Und w w := (Below.refl _ _ : Below w.heap.size w w)
theorem parse_pos2 {T : List UInt8} {o : List Po.Nd} (h : Po.parse T = (o, 0)) : 0 < o.length := by
  unfold Po.parse at h
  split at h
  · simp at h
  · cases hx : Po.lex T with
    | none => rw [hx] at h; simp at h
    | some l =>
      rw [hx] at h
      simp only at h
      split at h
      · simp at h
      · cases ht : Po.tree l with
        | none => rw [ht] at h; simp at h
        | some o2 =>
          rw [ht] at h
          simp only at h
          split at h
          · simp at h
          · simp only [Prod.mk.injEq, and_true] at h
            subst h
            unfold Po.tree at ht
            split at ht
            · rename_i o3 hP
              simp only [Option.some.injEq] at ht
              subst ht
              exact (Po.P_ok _ _ _ _ _ _ (Po.lex_ok hx).1 .nil hP).2.2.2 (by decide) (by decide)
            · cases ht
theorem text_short {s : List UInt8} {o : List Po.Nd} (h : Po.parse s = (o, 0)) : ∀ j, (Po.sub (Po.textAll o) j).length ≤ 100000 := fun j => by
  have := parse_short h o.length j
  rwa [List.take_length] at this
theorem parse_le {s : List UInt8} {o : List Po.Nd} {n : Nat} (h : Po.parse s = (o, n)) : o.length ≤ 400 := by
  unfold Po.parse at h
  split at h
  · simp only [Prod.mk.injEq] at h; rw [← h.1]; simp
  · split at h
    · simp only [Prod.mk.injEq] at h; rw [← h.1]; simp
    · split at h
      · simp only [Prod.mk.injEq] at h; rw [← h.1]; simp
      · split at h
        · simp only [Prod.mk.injEq] at h; rw [← h.1]; simp
        · split at h
          · simp only [Prod.mk.injEq] at h; rw [← h.1]; simp
          · simp only [Prod.mk.injEq] at h; rw [← h.1]; omega
set_option maxRecDepth 1000000 in
set_option maxHeartbeats 4000000 in
theorem law_parses (text : ByteArray) (w : World) (hg : Gl w) (hsz : text.size ≤ maxLen) :
    Calls Tryz.prog 3 #[.string text] w fun e w' => e = .returned (.bool true) ∧ Below w.heap.size w w' := by
  obtain ⟨⟨o, en⟩, hpr⟩ : ∃ r, Po.parse text.data.toList = r := ⟨_, rfl⟩
  obtain ⟨⟨ks, te⟩, htk⟩ : ∃ r, Po.toks text.data.toList = r := ⟨_, rfl⟩
  have HPR := Lib.hid hpr
  have HTK := Lib.hid htk
  have HG := Lib.hid hg
  unfold maxLen at hsz
  have hsz2 : (text.size : Int) ≤ 9223372036854775807 := by omega
  clear hg hpr htk hsz
  go_enter Tryz.func3, Tryz.ntmps3
  go_wp2_with fail
  refine (san_true w HG.out).mono ?_
  rintro e w1 ⟨rfl, hb1⟩
  have HB1 := Lib.hid hb1
  have HG1 := Lib.hid (HG.out.mem hb1)
  clear hb1
  by_cases la : (600 : Int) < text.size
  · go_wp2_with fail
    go_ret
    exact ⟨rfl, HB1.out⟩
  have HLA := Lib.hid (show text.size ≤ 600 by omega)
  go_upto_region 5 with (go_at_call 10; refine (parse_any text HPR.out w1 HG1.out).mono ?_; rintro e w2 ⟨v2, rfl, hn2, hb2⟩; obtain ⟨A2, c2, rfl, -, -⟩ := hn2.form; have H2 := Lib.hid (And.intro hn2 hb2); clear hn2 hb2)
  obtain ⟨W2, hW2⟩ : ∃ W2, w2.alloc (.cells #[.slice A2 o.length c2] 25) = W2 := ⟨_, rfl⟩
  rw [hW2]
  obtain ⟨x2, hB2, s2⟩ := one_box W2 hW2
  have HB2 : Hid (Below w.heap.size w W2 ∧ Gl W2) := Lib.hid (by
    have h := HB1.out.trans ((H2.out.2.trans (hB2.mono H2.out.2.size)).mono HB1.out.size)
    exact ⟨h, HG.out.mem h⟩)
  have HN2 := Lib.hid ((H2.out.1.below hB2).more (Nat.zero_le _) hB2.size)
  have HX2 := Lib.hid (And.intro x2 s2)
  clear x2 hB2 s2 hW2
  have HPA := rf_parse text W2 HLA.out
  unfold RParse at HPA
  rw [HPR.out] at HPA
  have HPA := Lib.hid HPA
  go_upto_region 6 with (go_at_call 11; refine HPA.out.mono ?_; rintro e w5 ⟨v5, rfl, hn5, hok5, hb5⟩; obtain ⟨A5, c5, rfl, -, -⟩ := hn5.form; have H5 := Lib.hid (And.intro hn5 (And.intro hok5 hb5)); clear hn5 hok5 hb5)
  obtain ⟨W5, hW5⟩ : ∃ W5, w5.alloc (.cells #[.slice A5 o.length c5] 25) = W5 := ⟨_, rfl⟩
  rw [hW5]
  obtain ⟨x5, hB5, s5⟩ := one_box W5 hW5
  have HB5 : Hid (Below W2.heap.size W2 W5) := Lib.hid (H5.out.2.2.trans (hB5.mono H5.out.2.2.size))
  have HN5 := Lib.hid ((H5.out.1.below hB5).more (Nat.le_refl _) hB5.size)
  have HX5 := Lib.hid (And.intro x5 s5)
  have HOK := Lib.hid (And.intro H5.out.2.1 (show o.length ≤ 100000 by have := parse_le HPR.out; omega))
  clear x5 hB5 s5 hW5
  obtain ⟨m, hm⟩ : ∃ m, o.length = m := ⟨_, rfl⟩
  rw [hm] at HN2 HN5 HX2 HX5 ⊢
  clear hm
  have HX : Hid (∀ W', Und W5 W' → W'.cell? ⟨w2.heap.size, 0, none⟩ = some (.slice A2 m c2) ∧ W'.cell? ⟨w5.heap.size, 0, none⟩ = some (.slice A5 m c5) ∧ Und W5 W') := Lib.hid fun W' h => by
    have s2 := HX2.out.2
    have s5 := HX5.out.2
    have hsz := HB5.out.size
    have h25 := HB5.out.trans (h.mono HB5.out.size)
    exact ⟨(h25.cell (p := ⟨w2.heap.size, 0, none⟩) (show w2.heap.size < W2.heap.size by omega)).trans (cell_of_row _ _ 0 _ _ _ HX2.out.1), (h.cell (p := ⟨w5.heap.size, 0, none⟩) (show w5.heap.size < W5.heap.size by omega)).trans (cell_of_row _ _ 0 _ _ _ HX5.out.1), h⟩
  have HNS : Hid (∀ W', Und W5 W' → Gl W' ∧ RNds W' 0 W'.heap.size (.slice A2 m c2) o ∧ RNds W' 0 W'.heap.size (.slice A5 m c5) o ∧ Below w.heap.size w W') := Lib.hid fun W' h => by
    have h25 := HB5.out.trans (h.mono HB5.out.size)
    exact ⟨HB2.out.2.mem h25, (HN2.out.below h25).more (Nat.le_refl _) h25.size, (HN5.out.below h).more (Nat.le_refl _) h.size, HB2.out.1.trans (h25.mono HB2.out.1.size)⟩
  have HTS := rf_tokens text W5 HLA.out
  unfold TokSays at HTS
  rw [HTK.out] at HTS
  have HTS := Lib.hid HTS
  go_upto_region 7 with (go_at_call 12; refine HTS.out.mono ?_; rintro e w6 ⟨v6, rfl, ht6, hb6⟩; have H6 := Lib.hid (And.intro ht6 (show Und W5 w6 from hb6)); clear ht6 hb6)
  obtain ⟨p0, p1, -⟩ := HX.out _ H6.out.2
  have HKL : Hid (ks.length ≤ 100000) := Lib.hid (by have := (toks_ok text.data.toList).2; rw [HTK.out] at this; simp only at this; omega)
  have KS : Hid (∀ W', Und W5 W' → Calls Tryz.prog 13 #[.agg #[.slice A2 m c2], .agg #[.slice A5 m c5]] W' fun e w' => e = .returned (.bool true) ∧ Below W'.heap.size W' w') := Lib.hid fun W' h => by
    have k := ref_same (.slice A2 m c2) (.slice A5 m c5) o o W' 0 0 (HNS.out _ h).2.1 (HNS.out _ h).2.2.1 HOK.out.1 HOK.out.1 HOK.out.2
    rwa [decide_eq_true rfl] at k
  have hdn : ((Po.depth ks : Int) != Po.depth ks) = false := by simp
  go_upto_region 9 with (first
    | (go_at_call 13; (with_reducible refine (KS.out _ H6.out.2).mono ?_); rintro e w7 ⟨rfl, hb7⟩; have H7 := Lib.hid (And.intro ((H6.out.1.below hb7).more hb7.size) (H6.out.2.trans (hb7.mono H6.out.2.size))); clear hb7)
    | (go_at_call 14; (with_reducible refine (pa_depth v6 ks _ H7.out.1 HKL.out).mono ?_); rintro e w8 ⟨rfl, hb8⟩; have H8 := Lib.hid (And.intro ((H7.out.1.below hb8).more hb8.size) (H7.out.2.trans (hb8.mono H7.out.2.size))); clear hb8)
    | (go_at_call 15; (with_reducible refine (rf_depth v6 ks _ H8.out.1 HKL.out).mono ?_); rintro e w9 ⟨rfl, hw9⟩; subst hw9))
  clear p0 p1
  by_cases hn : (en : Int) = 0
  rotate_left
  · have hne : ((en : Int) != 0) = true := by simpa using hn
    go_wp2_with fail
    go_ret
    exact ⟨rfl, (HNS.out _ H8.out.2).2.2.2⟩
  obtain rfl : en = 0 := by omega
  clear hn
  have H0 := Lib.hid (parse_pos2 HPR.out)
  obtain ⟨X, hX⟩ : ∃ X, Po.text o = X := ⟨_, rfl⟩
  have HXT := Lib.hid hX
  clear hX
  have KT1 : Hid (∀ W', Und W5 W' → Calls Tryz.prog 16 #[.agg #[.slice A5 m c5]] W' fun e w' => e = .returned (.string ⟨X.toArray⟩) ∧ Und W5 w') := Lib.hid fun W' h => by
    have k := po_text (.slice A5 m c5) o W' 0 (HNS.out _ h).1 (HNS.out _ h).2.2.1 HOK.out.1 HOK.out.2 (parse_short HPR.out)
    rw [HXT.out] at k
    refine k.mono ?_
    rintro e w' ⟨rfl, hb⟩
    exact ⟨rfl, h.trans (hb.mono h.size)⟩
  have KT2 : Hid (∀ W', Und W5 W' → Calls Tryz.prog 17 #[.agg #[.slice A5 m c5]] W' fun e w' => e = .returned (.string ⟨X.toArray⟩) ∧ Und W5 w') := Lib.hid fun W' h => by
    have k := rf_text (.slice A5 m c5) o W' 0 (HNS.out _ h).2.2.1 HOK.out.1 HOK.out.2 H0.out (text_short HPR.out)
    rw [HXT.out] at k
    refine k.mono ?_
    rintro e w' ⟨rfl, hb⟩
    exact ⟨rfl, h.trans (hb.mono h.size)⟩
  have KP1 : Hid (∀ W', Und W5 W' → Calls Tryz.prog 19 #[.agg #[.slice A5 m c5]] W' fun e w' => ∃ v, e = .returned v ∧ (∀ W3, Und w' W3 → RPts W3 0 W3.heap.size v (Po.points o)) ∧ Und W5 w' ∧ Und W' w') := Lib.hid fun W' h => by
    refine (po_points (.slice A5 m c5) o W' 0 (HNS.out _ h).2.2.1 HOK.out.1 HOK.out.2).mono ?_
    rintro e w' ⟨v, rfl, hr, hb⟩
    exact ⟨v, rfl, fun W3 h3 => (hr.below h3).more (Nat.zero_le _) h3.size, h.trans (hb.mono h.size), hb⟩
  have KP2 : Hid (∀ W', Und W5 W' → Calls Tryz.prog 20 #[.agg #[.slice A5 m c5]] W' fun e w' => ∃ v, e = .returned v ∧ (∀ W3, Und w' W3 → RPts W3 0 W3.heap.size v (Po.points o)) ∧ Und W5 w' ∧ Und W' w') := Lib.hid fun W' h => by
    refine (rf_points (.slice A5 m c5) o W' 0 (HNS.out _ h).2.2.1 HOK.out.1 HOK.out.2).mono ?_
    rintro e w' ⟨v, rfl, hr, hb⟩
    exact ⟨v, rfl, fun W3 h3 => (hr.below h3).more (Nat.zero_le _) h3.size, h.trans (hb.mono h.size), hb⟩
  have KPR : Hid (∀ v1 v2 W', RPts W' 0 W'.heap.size v1 (Po.points o) → RPts W' 0 W'.heap.size v2 (Po.points o) → Und W5 W' → Calls Tryz.prog 18 #[v1, v2] W' fun e w' => e = .returned (.bool true) ∧ Und W5 w') := Lib.hid fun v1 v2 W' h1 h2 h => by
    have k := ref_pairs v1 v2 _ _ W' 0 0 h1 h2
    rw [decide_eq_true rfl] at k
    refine k.mono ?_
    rintro e w' ⟨rfl, q, rfl⟩
    exact ⟨rfl, below_drewN h q⟩
  go_upto_region 11 with fail
  have hU0 : Und W5 w9.drew := Below.drew H8.out.2
  go_region_held3 (fun W' => W'.cell? ⟨w5.heap.size, 0, none⟩ = some (.slice A5 m c5) ∧ Und W5 W') (first | assumption | exact (HX.out _ (by assumption)).2) (first
    | (go_at_call 16; (with_reducible refine (KT1.out _ (by assumption)).mono ?_); rintro e wa ⟨rfl, hua⟩)
    | (go_at_call 17; (with_reducible refine (KT2.out _ (by assumption)).mono ?_); rintro e wb ⟨rfl, hub⟩)
    | (go_at_call 19; (with_reducible refine (KP1.out _ (by assumption)).mono ?_); rintro e wc ⟨vc, rfl, hrc, huc, hlc⟩)
    | (go_at_call 20; (with_reducible refine (KP2.out _ (by assumption)).mono ?_); rintro e wd ⟨vd, rfl, hrd, hud, hld⟩)
    | (go_at_call 18; (with_reducible refine (KPR.out _ _ _ (hrc _ (by first | assumption | exact und_self _)) (hrd _ (by first | assumption | exact und_self _)) (by assumption)).mono ?_); rintro e wp ⟨rfl, hup⟩))
  all_goals
    go_wp2_with fail
    go_ret
    exact ⟨rfl, (HNS.out _ (by assumption)).2.2.2⟩
end Go.Proofs.YtdolpmmnjndfkaaGreatDoor
