/- FlashMatchesSpec: for all records the law returns true, and what it was handed reads as it did. No conditions. -/
import Derived.Test.YtnmleaibonnbnaaFlOpen
namespace Go.Proofs.Ytnmleaibonnbnaa
open Go.ChangeShapes Go.WideShapes Go.ChangeAt Go.RowKit Go.Deep

theorem heap_third' (w : World) (o1 o2 o3 : Obj) : (((w.alloc o1).alloc o2).alloc o3).heap[w.heap.size + 1 + 1]? = some o3 := by
  have h := heap_alloc_new ((w.alloc o1).alloc o2) o3
  rwa [World.size_alloc, World.size_alloc] at h
theorem Fl.small_len {f : List ByteArray} (h : Fl.small f = true) : f.length ≤ 150 := by
  simp only [Fl.small, Bool.and_eq_true, decide_eq_true_eq] at h; exact h.1

set_option maxRecDepth 100000 in
set_option maxHeartbeats 8000000 in
theorem lawMatches {w : World} (v0 : Value) (f0 : List ByteArray) (v1 : Value) (f1 : List ByteArray) (n2 : Int) (s3 : ByteArray) (n4 : Int) (hP : RStrs w w.heap.size v0 f0 ∧ RStrs w w.heap.size v1 f1 ∧ (Lit.int .i64 n2).wf = true ∧ s3.size ≤ maxLen ∧ (Lit.int .i64 n4).wf = true) :
    Calls Try.prog 3 #[.agg #[v0, v1, .int .i64 n2, .string s3, .int .i64 n4]] w fun e w' => e = .returned (.bool true) ∧ Below w.heap.size w w' := by
  obtain ⟨hf, hg, hn2, hs3, hn4⟩ := hP
  clear hn2 hn4
  obtain ⟨A, c, rfl, hnc, hcm⟩ := hf.form
  obtain ⟨A1, c1, rfl, hnc1, hcm1⟩ := hg.form
  unfold maxLen at hcm hcm1 hs3
  have HB : Below w.heap.size w (((w.alloc (.cells #[.slice A f0.length c, .slice A1 f1.length c1, .int .i64 n2, .string s3, .int .i64 n4] 26)).alloc (.cells #[.slice A f0.length c] 24)).alloc (.cells #[.slice A1 f1.length c1] 24)) := (((Below.refl _ _).alloc (Nat.le_refl _) _).alloc (by simp) _).alloc (by simp; omega) _
  have VF : SAt (((w.alloc (.cells #[.slice A f0.length c, .slice A1 f1.length c1, .int .i64 n2, .string s3, .int .i64 n4] 26)).alloc (.cells #[.slice A f0.length c] 24)).alloc (.cells #[.slice A1 f1.length c1] 24)) (w.heap.size + 1) (.slice A f0.length c) f0 := ⟨(Below.heap_alloc _ _ _ (by simp)).trans (heap_second' _ _ _), (hf.below HB).more HB.size⟩
  have VG : SAt (((w.alloc (.cells #[.slice A f0.length c, .slice A1 f1.length c1, .int .i64 n2, .string s3, .int .i64 n4] 26)).alloc (.cells #[.slice A f0.length c] 24)).alloc (.cells #[.slice A1 f1.length c1] 24)) (w.heap.size + 1 + 1) (.slice A1 f1.length c1) f1 := ⟨heap_third' _ _ _ _, (hg.below HB).more HB.size⟩
  cases hsf : Fl.small f0
  · have HF := Lib.hid hsf
    clear hsf
    go_enter Try.func3, Try.ntmps3
    go_wp2_with fail
    refine (sanity_any _).mono ?_
    rintro e w1 ⟨rfl, hb1⟩
    have VF := VF.below hb1
    have VG := VG.below hb1
    have HB := HB.trans (hb1.mono HB.size)
    have cF := VF.cell
    have cG := VG.cell
    clear hb1
    go_wp2_with fail
    refine (small_any _ _ _ VF.strs).mono ?_
    rintro e w2 ⟨rfl, hb2⟩
    rw [HF.out]
    have VF := VF.below hb2
    have VG := VG.below hb2
    have HB := HB.trans (hb2.mono HB.size)
    have cF := VF.cell
    have cG := VG.cell
    clear hb2
    go_wp2
    go_ret
    exact ⟨rfl, HB⟩
  · have HF := Lib.hid hsf
    cases hsg : Fl.small f1
    · have HG := Lib.hid hsg
      clear hsf hsg
      go_enter Try.func3, Try.ntmps3
      go_wp2_with fail
      refine (sanity_any _).mono ?_
      rintro e w1 ⟨rfl, hb1⟩
      have VF := VF.below hb1
      have VG := VG.below hb1
      have HB := HB.trans (hb1.mono HB.size)
      have cF := VF.cell
      have cG := VG.cell
      clear hb1
      go_wp2_with fail
      refine (small_any _ _ _ VF.strs).mono ?_
      rintro e w2 ⟨rfl, hb2⟩
      rw [HF.out]
      have VF := VF.below hb2
      have VG := VG.below hb2
      have HB := HB.trans (hb2.mono HB.size)
      have cF := VF.cell
      have cG := VG.cell
      clear hb2
      go_wp2_with fail
      refine (small_any _ _ _ VG.strs).mono ?_
      rintro e w3 ⟨rfl, hb3⟩
      rw [HG.out]
      have VF := VF.below hb3
      have VG := VG.below hb3
      have HB := HB.trans (hb3.mono HB.size)
      have cF := VF.cell
      have cG := VG.cell
      clear hb3
      go_wp2
      go_ret
      exact ⟨rfl, HB⟩
    · have HG := Lib.hid hsg
      by_cases h300 : s3.size ≤ 300
      · have e1 : decide ((300 : Int) < (s3.size : Int)) = false := by simp; omega
        have e2 : decide (300 < s3.size) = false := by simp; omega
        have hlen : f0.length ≤ 1000 := by have := Fl.small_len hsf; omega
        have hbm : s3.size ≤ maxLen := by unfold maxLen; omega
        clear hsf hsg
        have HS1 := Lib.hid (Fl.same_refl (Fl.newF n2))
        have HS2 := Lib.hid (Fl.same_refl (Fl.write f0 n2 s3 n4))
        obtain ⟨vv, hvv⟩ : ∃ vv, Fl.valid f0 = vv := ⟨_, rfl⟩
        obtain ⟨ss, hss⟩ : ∃ ss, Fl.same f0 f1 = ss := ⟨_, rfl⟩
        have HVV := Lib.hid hvv
        have HSS := Lib.hid hss
        clear hvv hss
        go_enter Try.func3, Try.ntmps3
        go_wp2_with fail
        refine (sanity_any _).mono ?_
        rintro e w1 ⟨rfl, hb1⟩
        have VF := VF.below hb1
        have VG := VG.below hb1
        have HB := HB.trans (hb1.mono HB.size)
        have cF := VF.cell
        have cG := VG.cell
        clear hb1
        go_wp2_with fail
        refine (small_any _ _ _ VF.strs).mono ?_
        rintro e w2 ⟨rfl, hb2⟩
        rw [HF.out]
        have VF := VF.below hb2
        have VG := VG.below hb2
        have HB := HB.trans (hb2.mono HB.size)
        have cF := VF.cell
        have cG := VG.cell
        clear hb2
        go_wp2_with fail
        refine (small_any _ _ _ VG.strs).mono ?_
        rintro e w3 ⟨rfl, hb3⟩
        rw [HG.out]
        have VF := VF.below hb3
        have VG := VG.below hb3
        have HB := HB.trans (hb3.mono HB.size)
        have cF := VF.cell
        have cG := VG.cell
        clear hb3
        go_wp2_with fail
        refine (new_any n2 _).mono ?_
        rintro e w4 HW
        obtain ⟨v4, rfl, hr4, hb4⟩ := HW
        obtain ⟨A4, c4, rfl, _, _⟩ := hr4.form
        have VF := (VF.below hb4).below (Below.new (.cells #[.slice A4 (Fl.newF n2).length c4] 24))
        have VG := (VG.below hb4).below (Below.new (.cells #[.slice A4 (Fl.newF n2).length c4] 24))
        have VN := SAt.new hr4
        have HB := (HB.trans (hb4.mono HB.size)).alloc (HB.trans (hb4.mono HB.size)).size (.cells #[.slice A4 (Fl.newF n2).length c4] 24)
        have hz4 := HB.size
        clear hb4 hr4
        have cF := VF.cell
        have cG := VG.cell
        have cN := VN.cell
        go_wp2_with fail
        clear cF cG cN
        obtain ⟨pN, hpN⟩ : ∃ p, p = w4.heap.size := ⟨_, rfl⟩
        obtain ⟨W4, hW4⟩ : ∃ W, W = w4.alloc (.cells #[.slice A4 (Fl.newF n2).length c4] 24) := ⟨_, rfl⟩
        rw [← hW4, ← hpN] at VN
        rw [← hW4] at VF VG HB
        rw [← hW4, ← hpN]
        clear hW4 hpN hz4
        have cF := VF.cell
        have cG := VG.cell
        have cN := VN.cell
        refine (rnew_any n2 _).mono ?_
        rintro e w5 HW
        obtain ⟨v5, rfl, hr5, hb5⟩ := HW
        obtain ⟨A5, c5, rfl, _, _⟩ := hr5.form
        have VF := (VF.below hb5).below (Below.new (.cells #[.slice A5 (Fl.newF n2).length c5] 24))
        have VG := (VG.below hb5).below (Below.new (.cells #[.slice A5 (Fl.newF n2).length c5] 24))
        have VN := (VN.below hb5).below (Below.new (.cells #[.slice A5 (Fl.newF n2).length c5] 24))
        have VM := SAt.new hr5
        have HB := (HB.trans (hb5.mono HB.size)).alloc (HB.trans (hb5.mono HB.size)).size (.cells #[.slice A5 (Fl.newF n2).length c5] 24)
        have hz5 := HB.size
        clear hb5 hr5
        have cF := VF.cell
        have cG := VG.cell
        have cN := VN.cell
        have cM := VM.cell
        go_wp2_with fail
        clear cF cG cN cM
        obtain ⟨pM, hpM⟩ : ∃ p, p = w5.heap.size := ⟨_, rfl⟩
        obtain ⟨W5, hW5⟩ : ∃ W, W = w5.alloc (.cells #[.slice A5 (Fl.newF n2).length c5] 24) := ⟨_, rfl⟩
        rw [← hW5, ← hpM] at VM
        rw [← hW5] at VF VG VN HB
        rw [← hW5, ← hpM]
        clear hW5 hpM hz5
        have cF := VF.cell
        have cG := VG.cell
        have cN := VN.cell
        have cM := VM.cell
        refine (read_any _ _ _ _ VF.strs).mono ?_
        rintro e w6 ⟨rfl, hb6⟩
        have VF := VF.below hb6
        have VG := VG.below hb6
        have VN := VN.below hb6
        have VM := VM.below hb6
        have HB := HB.trans (hb6.mono HB.size)
        have cF := VF.cell
        have cG := VG.cell
        have cN := VN.cell
        have cM := VM.cell
        clear hb6
        go_wp2_with fail
        refine (rread_any _ _ _ _ VF.strs).mono ?_
        rintro e w7 ⟨rfl, hb7⟩
        have VF := VF.below hb7
        have VG := VG.below hb7
        have VN := VN.below hb7
        have VM := VM.below hb7
        have HB := HB.trans (hb7.mono HB.size)
        have cF := VF.cell
        have cG := VG.cell
        have cN := VN.cell
        have cM := VM.cell
        clear hb7
        go_wp2_with fail
        refine (write_any _ f0 n2 s3 n4 _ VF.strs hlen hbm).mono ?_
        rintro e w8 HW
        unfold WriteApart at HW
        obtain ⟨v8, rfl, hr8, hb8, _⟩ := HW
        obtain ⟨A8, c8, rfl, _, _⟩ := hr8.form
        have VF := (VF.below hb8).below (Below.new (.cells #[.slice A8 (Fl.write f0 n2 s3 n4).length c8] 24))
        have VG := (VG.below hb8).below (Below.new (.cells #[.slice A8 (Fl.write f0 n2 s3 n4).length c8] 24))
        have VN := (VN.below hb8).below (Below.new (.cells #[.slice A8 (Fl.write f0 n2 s3 n4).length c8] 24))
        have VM := (VM.below hb8).below (Below.new (.cells #[.slice A8 (Fl.write f0 n2 s3 n4).length c8] 24))
        have VW := SAt.new hr8
        have HB := (HB.trans (hb8.mono HB.size)).alloc (HB.trans (hb8.mono HB.size)).size (.cells #[.slice A8 (Fl.write f0 n2 s3 n4).length c8] 24)
        have hz8 := HB.size
        clear hb8 hr8
        have cF := VF.cell
        have cG := VG.cell
        have cN := VN.cell
        have cM := VM.cell
        have cW := VW.cell
        go_wp2_with fail
        clear cF cG cN cM cW
        obtain ⟨pW, hpW⟩ : ∃ p, p = w8.heap.size := ⟨_, rfl⟩
        obtain ⟨W8, hW8⟩ : ∃ W, W = w8.alloc (.cells #[.slice A8 (Fl.write f0 n2 s3 n4).length c8] 24) := ⟨_, rfl⟩
        rw [← hW8, ← hpW] at VW
        rw [← hW8] at VF VG VN VM HB
        rw [← hW8, ← hpW]
        clear hW8 hpW hz8
        have cF := VF.cell
        have cG := VG.cell
        have cN := VN.cell
        have cM := VM.cell
        have cW := VW.cell
        refine (rwrite_any _ f0 n2 s3 n4 _ VF.strs hlen hbm).mono ?_
        rintro e w9 HW
        unfold WriteSays at HW
        obtain ⟨v9, rfl, hr9, hb9⟩ := HW
        obtain ⟨A9, c9, rfl, _, _⟩ := hr9.form
        have VF := (VF.below hb9).below (Below.new (.cells #[.slice A9 (Fl.write f0 n2 s3 n4).length c9] 24))
        have VG := (VG.below hb9).below (Below.new (.cells #[.slice A9 (Fl.write f0 n2 s3 n4).length c9] 24))
        have VN := (VN.below hb9).below (Below.new (.cells #[.slice A9 (Fl.write f0 n2 s3 n4).length c9] 24))
        have VM := (VM.below hb9).below (Below.new (.cells #[.slice A9 (Fl.write f0 n2 s3 n4).length c9] 24))
        have VW := (VW.below hb9).below (Below.new (.cells #[.slice A9 (Fl.write f0 n2 s3 n4).length c9] 24))
        have VV := SAt.new hr9
        have HB := (HB.trans (hb9.mono HB.size)).alloc (HB.trans (hb9.mono HB.size)).size (.cells #[.slice A9 (Fl.write f0 n2 s3 n4).length c9] 24)
        have hz9 := HB.size
        clear hb9 hr9
        have cF := VF.cell
        have cG := VG.cell
        have cN := VN.cell
        have cM := VM.cell
        have cW := VW.cell
        have cV := VV.cell
        go_wp2_with fail
        clear cF cG cN cM cW cV
        obtain ⟨pV, hpV⟩ : ∃ p, p = w9.heap.size := ⟨_, rfl⟩
        obtain ⟨W9, hW9⟩ : ∃ W, W = w9.alloc (.cells #[.slice A9 (Fl.write f0 n2 s3 n4).length c9] 24) := ⟨_, rfl⟩
        rw [← hW9, ← hpV] at VV
        rw [← hW9] at VF VG VN VM VW HB
        rw [← hW9, ← hpV]
        clear hW9 hpV hz9
        have cF := VF.cell
        have cG := VG.cell
        have cN := VN.cell
        have cM := VM.cell
        have cW := VW.cell
        have cV := VV.cell
        have VF := VF.drew
        have VG := VG.drew
        have VN := VN.drew
        have VM := VM.drew
        have VW := VW.drew
        have VV := VV.drew
        have HB := HB.drew
        have cF := VF.cell
        have cG := VG.cell
        have cN := VN.cell
        have cM := VM.cell
        have cW := VW.cell
        have cV := VV.cell
        go_region_held3 (fun W' => W'.cell? ⟨w.heap.size + 1, 0, none⟩ = some (.slice A f0.length c) ∧ W'.cell? ⟨w.heap.size + 1 + 1, 0, none⟩ = some (.slice A1 f1.length c1) ∧ W'.cell? ⟨pN, 0, none⟩ = some (.slice A4 (Fl.newF n2).length c4) ∧ W'.cell? ⟨pM, 0, none⟩ = some (.slice A5 (Fl.newF n2).length c5) ∧ W'.cell? ⟨pW, 0, none⟩ = some (.slice A8 (Fl.write f0 n2 s3 n4).length c8) ∧ W'.cell? ⟨pV, 0, none⟩ = some (.slice A9 (Fl.write f0 n2 s3 n4).length c9)) (first | exact ⟨cF, cG, cN, cM, cW, cV⟩ | go_keep) (first
          | (go_at_call 17; (first | (with_reducible refine (rsame_any _ _ _ _ _ VN.strs VM.strs).mono ?_) | (with_reducible refine (rsame_any _ _ _ _ _ VW.strs VV.strs).mono ?_) | (with_reducible refine (rsame_any _ _ _ _ _ VF.strs VG.strs).mono ?_)); rintro e w10 ⟨rfl, hb10⟩; (first | rw [HS1.out] | rw [HS2.out] | rw [HSS.out]); have VF := VF.below hb10; have VG := VG.below hb10; have VN := VN.below hb10; have VM := VM.below hb10; have VW := VW.below hb10; have VV := VV.below hb10; have HB := HB.trans (hb10.mono HB.size); have cF := VF.cell; have cG := VG.cell; have cN := VN.cell; have cM := VM.cell; have cW := VW.cell; have cV := VV.cell; clear hb10)
          | (go_at_call 18; (with_reducible refine (valid_any _ _ _ VF.strs).mono ?_); rintro e w10 ⟨rfl, hb10⟩; rw [HVV.out]; have VF := VF.below hb10; have VG := VG.below hb10; have VN := VN.below hb10; have VM := VM.below hb10; have VW := VW.below hb10; have VV := VV.below hb10; have HB := HB.trans (hb10.mono HB.size); have cF := VF.cell; have cG := VG.cell; have cN := VN.cell; have cM := VM.cell; have cW := VW.cell; have cV := VV.cell; clear hb10)
          | (go_at_call 19; (with_reducible refine (rvalid_any _ _ _ VF.strs).mono ?_); rintro e w10 ⟨rfl, hb10⟩; rw [HVV.out]; have VF := VF.below hb10; have VG := VG.below hb10; have VN := VN.below hb10; have VM := VM.below hb10; have VW := VW.below hb10; have VV := VV.below hb10; have HB := HB.trans (hb10.mono HB.size); have cF := VF.cell; have cG := VG.cell; have cN := VN.cell; have cM := VM.cell; have cW := VW.cell; have cV := VV.cell; clear hb10)
          | (go_at_call 20; (with_reducible refine (same_any _ _ _ _ _ VF.strs VG.strs).mono ?_); rintro e w10 ⟨rfl, hb10⟩; rw [HSS.out]; have VF := VF.below hb10; have VG := VG.below hb10; have VN := VN.below hb10; have VM := VM.below hb10; have VW := VW.below hb10; have VV := VV.below hb10; have HB := HB.trans (hb10.mono HB.size); have cF := VF.cell; have cG := VG.cell; have cN := VN.cell; have cM := VM.cell; have cW := VW.cell; have cV := VV.cell; clear hb10))
        all_goals
          go_wp2
          go_ret
          exact ⟨rfl, HB⟩
      · have e1 : decide ((300 : Int) < (s3.size : Int)) = true := by simp; omega
        have e2 : decide (300 < s3.size) = true := by simp; omega
        clear hsf hsg
        go_enter Try.func3, Try.ntmps3
        go_wp2_with fail
        refine (sanity_any _).mono ?_
        rintro e w1 ⟨rfl, hb1⟩
        have VF := VF.below hb1
        have VG := VG.below hb1
        have HB := HB.trans (hb1.mono HB.size)
        have cF := VF.cell
        have cG := VG.cell
        clear hb1
        go_wp2_with fail
        refine (small_any _ _ _ VF.strs).mono ?_
        rintro e w2 ⟨rfl, hb2⟩
        rw [HF.out]
        have VF := VF.below hb2
        have VG := VG.below hb2
        have HB := HB.trans (hb2.mono HB.size)
        have cF := VF.cell
        have cG := VG.cell
        clear hb2
        go_wp2_with fail
        refine (small_any _ _ _ VG.strs).mono ?_
        rintro e w3 ⟨rfl, hb3⟩
        rw [HG.out]
        have VF := VF.below hb3
        have VG := VG.below hb3
        have HB := HB.trans (hb3.mono HB.size)
        have cF := VF.cell
        have cG := VG.cell
        clear hb3
        go_wp2
        go_ret
        exact ⟨rfl, HB⟩


namespace lawMatchesC
set_option maxRecDepth 100000 in
theorem lifted (os : Os) (started : os.Started) (H : Type) (enc : TypeId × Value → H) :
    ReturnsInHanded {} Try.checked os 3 .any (Rows.flashMatchesSpecSpec.pre6 enc Try.prog Try.f3 Rows.flashMatchesSpecRow.domain false) (Rows.flashMatchesSpecSpec.post enc Try.prog Try.f3 false true false false) := by
  refine returnsInHanded_of_change (C := Try.checked) own started (by kernel_rfl) Try.func3
    (ChangeSpec.witness6 (enc := enc) (C := Try.checked) false ⟨#[], #[.agg #[.slice none 0 0, .slice none 0 0, .int .i64 0, .string ⟨#[]⟩, .int .i64 0]], []⟩ 8 (by kernel_rfl) (by kernel_rfl) (by kernel_rfl) (by kernel_rfl)) ?_
  intro W base args ds gs before hval0 hW hcnd _
  have hval : ∀ (j : Nat) t v, Try.f3.params[j]? = some t → args[j]? = some v → Value.okWide Try.prog W .any base t v := hval0
  have hW' := hW
  obtain ⟨p, q, hA0, hV, rfl, hfz, hnd⟩ := hW
  have hA : DataW.TrodAll enc Try.prog W 0 (fun _ => true) true Try.f3.params.toList args.toList ds p := hA0
  rw [Try.params3] at hA hval
  obtain ⟨v0, vs0, d0, ds0, p0, q0, hargs, rfl, rfl, h0, r0⟩ := trodAll_cons hA
  obtain ⟨rfl, rfl, rfl⟩ := trodAll_nil r0
  obtain rfl : args = #[v0] := by cases args; simp_all
  obtain ⟨rfl, rfl⟩ := trodVars_none hV
  have k0 := h0
  have lt0 : ∀ x ∈ p0, x.block < W.heap.size := by obtain ⟨m, hm⟩ := k0; exact DataW.trod_lt m _ _ _ hm
  obtain ⟨cs0, rfl, _⟩ := okWide_struct Try.underlying26 (hval 0 26 v0 rfl rfl)
  obtain ⟨z0v0, z0f0, z0v1, z0f1, z0n2, z0s3, z0n4, e0, s0⟩ : ∃ (z0v0 : Value) (z0f0 : List ByteArray) (z0v1 : Value) (z0f1 : List ByteArray) (z0n2 : Int) (z0s3 : ByteArray) (z0n4 : Int), (Value.agg cs0).cells.toList = [z0v0, z0v1, .int .i64 z0n2, .string z0s3, .int .i64 z0n4] ∧ RStrs W W.heap.size z0v0 z0f0 ∧ RStrs W W.heap.size z0v1 z0f1 ∧ (Lit.int .i64 z0n2).wf = true ∧ z0s3.size ≤ maxLen ∧ (Lit.int .i64 z0n4).wf = true := by obtain ⟨fuel, hf⟩ := h0; exact reads_FlashMatchesSpecIn hf
  obtain rfl : cs0 = #[z0v0, z0v1, .int .i64 z0n2, .string z0s3, .int .i64 z0n4] := by cases cs0; simpa [Value.cells] using e0
  clear hA0 hval0
  refine (lawMatches (w := W) z0v0 z0f0 z0v1 z0f1 z0n2 z0s3 z0n4 s0 ).mono fun e W' ⟨he, bel⟩ => ?_
  subst he
  exact ⟨_, rfl, _, _, _, [], _, [], hW', trodAll_mk1 (shut_bool Try.underlying4 _), (trodAll_cons_mk (Below.trod laidOut (by kernel_rfl) (of_decide_eq_true (by kernel_rfl)) k0 bel lt0) trodAll_mk0), rfl, bel.frame _, fun h => by cases h⟩

theorem over : Rows.flashMatchesSpecRow.holds Try.pinned (OpenSpec.ofChange Rows.flashMatchesSpecSpec) :=
  OpenClaim.holds_of_wide 3 Try.f3 rfl rfl rfl rfl rfl rfl rfl ⟨rfl, rfl, rfl, rfl, rfl⟩ rfl rfl rfl rfl rfl (by kernel_rfl) Try.func3 (by kernel_rfl)
    (of_decide_eq_true (by kernel_rfl)) (by unfold Func.isWrapper; first | (rw [if_pos (by decide +kernel)]; kernel_rfl) | (rw [if_neg (by decide +kernel)]; exact ⟨rfl, rfl⟩))
    (fun os started H enc _ => lifted os started H enc)
end lawMatchesC

theorem flashMatchesSpec_holds : Rows.FlashMatchesSpecSaid := lawMatchesC.over

end Go.Proofs.Ytnmleaibonnbnaa
