/- Chapter 29, the walk: the law PolicyEvalMatchesSpec. -/
import Derived.Test.YtdolpmmnjndfkaaGreatDoorPoRt
import Derived.Test.YtdolpmmnjndfkaaGreatDoorPoVal
import Derived.Test.YtdolpmmnjndfkaaGreatDoorPoOpen
import Derived.Test.YtdolpmmnjndfkaaGreatDoorPoRfI
import Derived.Test.YtdolpmmnjndfkaaGreatDoorPoRfK
namespace Go.Proofs.YtdolpmmnjndfkaaGreatDoor
open Go.RowKit
theorem parse_pos {T : List UInt8} {o : List Po.Nd} (h : Po.parse T = (o, 0)) : 0 < o.length := by
  unfold Po.parse at h
  split at h
  · simp at h
  · cases hx : Po.lex T with
    | none => rw [hx] at h; simp at h
    | some l =>
      rw [hx] at h
      simp only at h
      split at h
      · simp at h
      · cases ht : Po.tree l with
        | none => rw [ht] at h; simp at h
        | some o2 =>
          rw [ht] at h
          simp only at h
          split at h
          · simp at h
          · simp only [Prod.mk.injEq, and_true] at h
            subst h
            unfold Po.tree at ht
            split at ht
            · rename_i o3 hP
              simp only [Option.some.injEq] at ht
              subst ht
              exact (Po.P_ok _ _ _ _ _ _ (Po.lex_ok hx).1 .nil hP).2.2.2 (by decide) (by decide)
            · cases ht
set_option maxRecDepth 1000000 in
set_option maxHeartbeats 4000000 in
theorem law_evals (text : ByteArray) (f : Po.Facts) {cf : Array Value} (w : World) (hg : Gl w) (hsz : text.size ≤ maxLen) (hf : FactsIn w cf f) :
    Calls Tryz.prog 4 #[.string text, .agg cf] w fun e w' => e = .returned (.bool true) ∧ Below w.heap.size w w' := by
  obtain ⟨vs, vp, hcs, hfs, hfp⟩ := hf
  cases hcs
  obtain ⟨⟨o, en⟩, hpr⟩ : ∃ r, Po.parse text.data.toList = r := ⟨_, rfl⟩
  have HPR := Lib.hid hpr
  unfold maxLen at hsz
  obtain ⟨W0, hW0⟩ : ∃ W0, w.alloc (.cells #[.int .i64 f.version, .int .i64 f.epoch, vs, vp] 42) = W0 := ⟨_, rfl⟩
  obtain ⟨x0, hB0, s0⟩ := one_box W0 hW0
  have HB0 := Lib.hid (And.intro hB0 (And.intro x0 s0))
  have HG0 := Lib.hid (hg.mem hB0)
  have HF : Hid (∀ W', Und W0 W' → RFacts W' W'.heap.size (.agg #[.int .i64 f.version, .int .i64 f.epoch, vs, vp]) f ∧ Gl W') := Lib.hid fun W' h => by
    have hb' : Below w.heap.size w W' := hB0.trans (h.mono hB0.size)
    exact ⟨⟨vs, _, rfl, (hfs.below hb').mono hb'.size, (hfp.below hb').mono hb'.size⟩, hg.mem hb'⟩
  have HC : Hid (∀ W', Und W0 W' → W'.cell? ⟨w.heap.size, 0, none⟩ = some (.int .i64 f.version) ∧ W'.cell? ⟨w.heap.size, 1, none⟩ = some (.int .i64 f.epoch) ∧ W'.cell? ⟨w.heap.size, 2, none⟩ = some vs ∧ W'.cell? ⟨w.heap.size, 3, none⟩ = some vp) := Lib.hid fun W' h => by
    have hx := ((h.mono (Nat.le_refl _)).block w.heap.size (by omega)).trans x0
    exact ⟨cell_of_row _ _ 0 _ _ _ hx, cell_of_row _ _ 1 _ _ _ hx, cell_of_row _ _ 2 _ _ _ hx, cell_of_row _ _ 3 _ _ _ hx⟩
  have HBW : Hid (∀ W', Und W0 W' → Below w.heap.size w W') := Lib.hid fun W' h => HB0.out.1.trans (h.mono HB0.out.1.size)
  clear hpr hg x0 hB0 s0 hfs hfp
  go_enter Tryz.func4, Tryz.ntmps4
  go_wp2_with fail
  clear hW0
  refine (san_true W0 HG0.out).mono ?_
  rintro e w1 ⟨rfl, hb1⟩
  have hu1 : Und W0 w1 := hb1
  have HU1 := Lib.hid hu1
  clear hb1 hu1
  have hsz2 : (text.size : Int) ≤ 9223372036854775807 := by omega
  by_cases la : (600 : Int) < text.size
  · go_wp2_with fail
    go_ret
    exact ⟨rfl, HBW.out _ HU1.out⟩
  have HLA := Lib.hid (show text.size ≤ 600 by omega)
  obtain ⟨p0, p1, p2, p3⟩ := HC.out _ HU1.out
  by_cases v1 : VF f
  rotate_left
  · have V1 := Lib.hid v1
    clear v1
    go_wp2_with (go_at_call 21; (with_reducible refine (valid_f V1.out (HF.out _ HU1.out).1).mono ?_); rintro e w2 ⟨rfl, hb2⟩; have HU2 : Hid (Und W0 w2) := Lib.hid (HU1.out.trans (hb2.mono HU1.out.size)))
    go_ret
    exact ⟨rfl, HBW.out _ HU2.out⟩
  have V1 := Lib.hid v1
  clear v1
  go_upto_region 4 with (go_at_call 21; (with_reducible refine (valid_t V1.out (HF.out _ HU1.out).1).mono ?_); rintro e w2 ⟨rfl, hb2⟩; have HU2 : Hid (Und W0 w2) := Lib.hid (HU1.out.trans (hb2.mono HU1.out.size)); clear hb2)
  clear p0 p1 p2 p3
  have HPA := rf_parse text w2 HLA.out
  unfold RParse at HPA
  rw [HPR.out] at HPA
  have HPA := Lib.hid HPA
  go_upto_region 5 with (go_at_call 11; refine HPA.out.mono ?_; rintro e w5 ⟨v5, rfl, hn5, hok5, hb5⟩; obtain ⟨A5, c5, rfl, -, -⟩ := hn5.form; have H5 := Lib.hid (And.intro hn5 (And.intro hok5 hb5)); clear hn5 hok5 hb5)
  obtain ⟨W5, hW5⟩ : ∃ W5, w5.alloc (.cells #[.slice A5 o.length c5] 25) = W5 := ⟨_, rfl⟩
  rw [hW5]
  obtain ⟨x5, hB5, s5⟩ := one_box W5 hW5
  have HU5 : Hid (Und W0 W5) := Lib.hid (HU2.out.trans ((H5.out.2.2.trans (hB5.mono H5.out.2.2.size)).mono HU2.out.size))
  have HN5 := Lib.hid ((H5.out.1.below hB5).more (Nat.le_refl _) hB5.size)
  have HX5 := Lib.hid (And.intro x5 s5)
  clear x5 hB5 s5 hW5
  by_cases hn : (en : Int) = 0
  rotate_left
  · have hne : ((en : Int) != 0) = true := by simpa using hn
    go_wp2_with fail
    go_ret
    exact ⟨rfl, HBW.out _ HU5.out⟩
  obtain rfl : en = 0 := by omega
  clear hn
  have HO := Lib.hid (And.intro H5.out.2.1 (And.intro (show o.length ≤ 100000 by have := parse_len HPR.out; omega) (parse_pos HPR.out)))
  obtain ⟨a, ha⟩ : ∃ a, Po.eval o f = a := ⟨_, rfl⟩
  have HAB := Lib.hid ha
  clear ha
  obtain ⟨m, hm⟩ : ∃ m, o.length = m := ⟨_, rfl⟩
  rw [hm] at HN5 HX5 ⊢
  clear hm
  have HX : Hid (∀ W', Und W5 W' → W'.cell? ⟨w5.heap.size, 0, none⟩ = some (.slice A5 m c5) ∧ W'.cell? ⟨w.heap.size, 0, none⟩ = some (.int .i64 f.version) ∧ W'.cell? ⟨w.heap.size, 1, none⟩ = some (.int .i64 f.epoch) ∧ W'.cell? ⟨w.heap.size, 2, none⟩ = some vs ∧ W'.cell? ⟨w.heap.size, 3, none⟩ = some vp ∧ Und W5 W') := Lib.hid fun W' h => by
    have s5 := HX5.out.2
    obtain ⟨p0, p1, p2, p3⟩ := HC.out W' (HU5.out.trans (h.mono HU5.out.size))
    exact ⟨(h.cell (p := ⟨w5.heap.size, 0, none⟩) (show w5.heap.size < W5.heap.size by omega)).trans (cell_of_row _ _ 0 _ _ _ HX5.out.1), p0, p1, p2, p3, h⟩
  have HNS : Hid (∀ W', Und W5 W' → Gl W' ∧ RNds W' 0 W'.heap.size (.slice A5 m c5) o ∧ RFacts W' W'.heap.size (.agg #[.int .i64 f.version, .int .i64 f.epoch, vs, vp]) f) := Lib.hid fun W' h => by
    have hu := HU5.out.trans (h.mono HU5.out.size)
    exact ⟨(HF.out _ hu).2, (HN5.out.below h).more (Nat.le_refl _) h.size, (HF.out _ hu).1⟩
  have K1 : Hid (∀ W', Und W5 W' → Calls Tryz.prog 22 #[.agg #[.slice A5 m c5], .agg #[.int .i64 f.version, .int .i64 f.epoch, vs, vp]] W' fun e w' => e = .returned (.int .i64 a) ∧ Below W'.heap.size W' w') := Lib.hid fun W' h => by
    have k := po_eval (.slice A5 m c5) _ o f W' 0 (HNS.out _ h).1 (HNS.out _ h).2.1 HO.out.1 HO.out.2.1 (HNS.out _ h).2.2 V1.out.val
    rwa [HAB.out] at k
  have K2 : Hid (∀ W', Und W5 W' → Calls Tryz.prog 23 #[.agg #[.slice A5 m c5], .agg #[.int .i64 f.version, .int .i64 f.epoch, vs, vp]] W' fun e w' => e = .returned (.int .i64 a) ∧ Below W'.heap.size W' w') := Lib.hid fun W' h => by
    have k := rf_eval (.slice A5 m c5) _ o f W' 0 (HNS.out _ h).2.1 HO.out.1 HO.out.2.1 HO.out.2.2 (HNS.out _ h).2.2 V1.out.val
    rwa [HAB.out] at k
  go_upto_region 7 with fail
  have hU0 : Und W5 W5.drew := (Below.refl _ _).drew
  go_region_held3 (fun W' => W'.cell? ⟨w5.heap.size, 0, none⟩ = some (.slice A5 m c5) ∧ W'.cell? ⟨w.heap.size, 0, none⟩ = some (.int .i64 f.version) ∧ W'.cell? ⟨w.heap.size, 1, none⟩ = some (.int .i64 f.epoch) ∧ W'.cell? ⟨w.heap.size, 2, none⟩ = some vs ∧ W'.cell? ⟨w.heap.size, 3, none⟩ = some vp ∧ Und W5 W') (first | assumption | exact HX.out _ hU0 | exact HX.out _ hU9 | exact HX.out _ hU8) (first
    | (go_at_call 23; (with_reducible refine (K2.out _ hU8).mono ?_); rintro e w9 ⟨rfl, hbw9⟩; have hU9 : Und W5 w9 := hU8.trans (hbw9.mono hU8.size))
    | (go_at_call 22; (with_reducible refine (K1.out _ hU0).mono ?_); rintro e w8 ⟨rfl, hbw8⟩; have hU8 : Und W5 w8 := hU0.trans (hbw8.mono hU0.size)))
  all_goals
    go_wp2_with fail
    go_ret
    exact ⟨rfl, HBW.out _ (HU5.out.trans (hU9.mono HU5.out.size))⟩
end Go.Proofs.YtdolpmmnjndfkaaGreatDoor
