/- FuseMonotone: for all fuses and hits the law returns true, and what it was handed reads as it did. No conditions. -/
import Derived.Test.YtnahokblbpppeaaFzLaw
namespace Go.Proofs.Ytnahokblbpppeaa
open Go.ChangeShapes Go.WideShapes Go.ChangeAt Go.RowKit Go.Deep

theorem VarAt.drew {W : World} {p : Nat} {v : Value} {f : List (List Nat)} (h : VarAt W p v f) : VarAt W.drew p v f := ⟨h.blk, h.rows⟩
theorem VarAt.far {W : World} {p : Nat} {v : Value} {f : List (List Nat)} (h : VarAt W p v f) : p < W.heap.size := lt_of_block h.blk

set_option maxHeartbeats 1000000 in
theorem lawMono_no {w : World} (v : Value) (f : List (List Nat)) (hf : RRows w w.heap.size v f) (u : Value) (l : List Fz.Hit) (hl : RHits w w.heap.size u l) (hno : Fz.valid f = false ∨ 200 < l.length) :
    Calls Try.prog 5 #[.agg #[v], u] w fun e w' => e = .returned (.bool true) ∧ Below w.heap.size w w' := by
  obtain ⟨A, c, rfl⟩ := rows_form hf
  obtain ⟨A2, c2, rfl, hn, hc, -⟩ := hl
  unfold maxLen at hc
  have VF := VarAt.new hf
  have HB : Below w.heap.size w (w.alloc (.cells #[.slice A f.length c] 24)) := Below.new _
  have cF := VF.cell
  cases hv : Fz.valid f
  · have HV := Lib.hid hv
    clear hv hno
    go_enter Try.func5, Try.ntmps5
    go_wp2_with (first | (go_at_call 12; with_reducible refine (rvalid_any _ _ _ VF.rows).mono ?_; rintro e w6 ⟨rfl, hb6⟩; rw [HV.out]; have VF := VF.below hb6; have HB := HB.trans (hb6.mono HB.size); have cF := VF.cell; clear hb6) | (go_at_call 10; with_reducible refine (sanity_any _).mono ?_; rintro e w7 ⟨rfl, hb7⟩; have HB := HB.trans (hb7.mono HB.size); clear hb7))
    go_ret
    exact ⟨rfl, HB⟩
  · have HV := Lib.hid hv
    have h2 : (200 : Int) < l.length := by rcases hno with h | h; rw [HV.out] at h; cases h; omega
    clear hv hno
    go_enter Try.func5, Try.ntmps5
    go_wp2_with (first | (go_at_call 12; with_reducible refine (rvalid_any _ _ _ VF.rows).mono ?_; rintro e w6 ⟨rfl, hb6⟩; rw [HV.out]; have VF := VF.below hb6; have HB := HB.trans (hb6.mono HB.size); have cF := VF.cell; clear hb6) | (go_at_call 10; with_reducible refine (sanity_any _).mono ?_; rintro e w7 ⟨rfl, hb7⟩; have HB := HB.trans (hb7.mono HB.size); clear hb7))
    go_ret
    exact ⟨rfl, HB⟩

set_option maxHeartbeats 4000000 in
theorem lawMono_yes {w : World} (v : Value) (f : List (List Nat)) (hf : RRows w w.heap.size v f) (u : Value) (l : List Fz.Hit) (hl : RHits w w.heap.size u l) (hv : Fz.valid f = true) (h200 : l.length ≤ 200) :
    Calls Try.prog 5 #[.agg #[v], u] w fun e w' => e = .returned (.bool true) ∧ Below w.heap.size w w' := by
  obtain ⟨A, c, rfl⟩ := rows_form hf
  have hl' := hl
  obtain ⟨A2, c2, rfl, hn, hc, -⟩ := hl
  unfold maxLen at hc
  have VF := VarAt.new hf
  have HB : Below w.heap.size w (w.alloc (.cells #[.slice A f.length c] 24)) := Below.new _
  have cF := VF.cell
  have HV := Lib.hid hv
  have h4 : f.length ≤ 4 := (Fz.valid_iff.1 hv).1
  have HG1 := Lib.hid (Fz.level_hits hv l)
  have HG2 := Lib.hid (Fz.valid_hits hv l)
  have HG3 := Lib.hid (Fz.sound_hits f l)
  have HG4 := Lib.hid (Fz.width_hits f l)
  have HG5 := Lib.hid (Fz.hits_length f l)
  have e200 : decide ((200 : Int) < (l.length : Int)) = false := by simp; omega
  clear hv
  go_enter Try.func5, Try.ntmps5
  go_wp2_with (go_at_call 12; with_reducible refine (rvalid_any _ _ _ VF.rows).mono ?_; rintro e w6 ⟨rfl, hb6⟩; rw [HV.out]; have VF := VF.below hb6; have HB := HB.trans (hb6.mono HB.size); have cF := VF.cell; clear hb6)
  refine (hits_any _ _ f l _ VF.rows (Fz.valid_small HV.out) ((hl'.below HB).more HB.size)).mono ?_
  rintro e w2 ⟨vg, rfl, hg, hb2⟩
  obtain ⟨A3, c3, rfl⟩ := rows_form hg
  have VF := (VF.below hb2).below (Below.new (.cells #[.slice A3 (Fz.hits f l).length c3] 24))
  have VG := VarAt.new hg
  have HB := (HB.trans (hb2.mono HB.size)).alloc (HB.trans (hb2.mono HB.size)).size (.cells #[.slice A3 (Fz.hits f l).length c3] 24)
  have cF := VF.cell
  have cG := VG.cell
  have hz2 := HB.size
  clear hb2 hg
  go_wp2_with fail
  obtain ⟨pG, hpG⟩ : ∃ pG, pG = w2.heap.size := ⟨_, rfl⟩
  obtain ⟨W1, hW1⟩ : ∃ W1, W1 = w2.alloc (.cells #[.slice A3 (Fz.hits f l).length c3] 24) := ⟨_, rfl⟩
  rw [← hW1, ← hpG] at VG
  rw [← hW1] at VF HB
  rw [← hW1, ← hpG]
  have I0 := Lib.hid (And.intro VF (And.intro VG HB))
  clear hW1 hpG cF cG hz2 VF VG HB
  go_loopw [22] (fun i wr => ∃ k : Nat, k ≤ f.length ∧ i = .int .i64 k ∧ Hid (VarAt wr w.heap.size (.slice A f.length c) f ∧ VarAt wr pG (.slice A3 (Fz.hits f l).length c3) (Fz.hits f l) ∧ Below w.heap.size w wr)) (fun i _ => f.length - (intOf i).toNat)
  case atStart => exact ⟨0, Nat.zero_le _, rfl, I0.out⟩
  case round =>
    clear I0
    obtain ⟨k, hk, rfl, HI⟩ := hrel
    obtain ⟨VF, VG, HB⟩ := HI.out
    by_cases hlt : k < f.length
    · have VF := VF.drew
      have VG := VG.drew
      have HB := HB.drew
      have cF := VF.cell
      have cG := VG.cell
      have d1 : decide (Fz.level (Fz.hits f l) k false < Fz.level f k false) = false := by have := HG1.out k false; simp; omega
      have d2 : decide (Fz.level (Fz.hits f l) k true < Fz.level f k true) = false := by have := HG1.out k true; simp; omega
      go_wp2
      go_region_held3 (fun W' => W'.cell? ⟨w.heap.size, 0, none⟩ = some (.slice A f.length c) ∧ W'.cell? ⟨pG, 0, none⟩ = some (.slice A3 (Fz.hits f l).length c3)) (first | exact ⟨cF, cG⟩ | go_keep)
        (first
          | (go_at_call 20; (first | with_reducible refine (least_any _ f _ _ VF.rows).mono ?_ | with_reducible refine (least_any _ (Fz.hits f l) _ _ VG.rows).mono ?_); rintro e w6 ⟨rfl, hb6⟩; have VF := VF.below hb6; have VG := VG.below hb6; have HB := HB.trans (hb6.mono HB.size); have cF := VF.cell; have cG := VG.cell; clear hb6)
          | (go_at_call 22; (first | with_reducible refine (most_any _ f _ _ VF.rows).mono ?_ | with_reducible refine (most_any _ (Fz.hits f l) _ _ VG.rows).mono ?_); rintro e w6 ⟨rfl, hb6⟩; have VF := VF.below hb6; have VG := VG.below hb6; have HB := HB.trans (hb6.mono HB.size); have cF := VF.cell; have cG := VG.cell; clear hb6)
          | (go_at_call 18; (first | (with_reducible refine (width_any _ f _ _ VF.rows).mono ?_; rintro e w6 ⟨rfl, hb6⟩) | (with_reducible refine (width_any _ (Fz.hits f l) _ _ VG.rows).mono ?_; rintro e w6 ⟨rfl, hb6⟩; rw [HG4.out])); have VF := VF.below hb6; have VG := VG.below hb6; have HB := HB.trans (hb6.mono HB.size); have cF := VF.cell; have cG := VG.cell; clear hb6))
      go_wp2
      go_roundw
      case rel => exact ⟨k + 1, by omega, by go_num, VF, VG, HB⟩
      case measure => simp [intOf]; omega
    · obtain rfl : k = f.length := by omega
      have HT := Lib.hid (Fz.valid_thirds HV.out)
      have HT2 := Lib.hid (Fz.valid_thirds HG2.out)
      have VF := VF.drew
      have VG := VG.drew
      have HB := HB.drew
      have cF := VF.cell
      have cG := VG.cell
      go_wp2
      go_region_held3 (fun W' => W'.cell? ⟨w.heap.size, 0, none⟩ = some (.slice A f.length c) ∧ W'.cell? ⟨pG, 0, none⟩ = some (.slice A3 (Fz.hits f l).length c3)) (first | exact ⟨cF, cG⟩ | go_keep)
        (first
          | (go_at_call 10; with_reducible refine (sanity_any _).mono ?_; rintro e w6 ⟨rfl, hb6⟩; have VF := VF.below hb6; have VG := VG.below hb6; have HB := HB.trans (hb6.mono HB.size); have cF := VF.cell; have cG := VG.cell; clear hb6)
          | (go_at_call 11; with_reducible refine (valid_any _ _ _ VG.rows).mono ?_; rintro e w6 ⟨rfl, hb6⟩; rw [HG2.out]; have VF := VF.below hb6; have VG := VG.below hb6; have HB := HB.trans (hb6.mono HB.size); have cF := VF.cell; have cG := VG.cell; clear hb6)
          | (go_at_call 24; (first | (with_reducible refine (sound_any _ f _ VF.rows HT).mono ?_; rintro e w6 ⟨rfl, hb6⟩) | (with_reducible refine (sound_any _ (Fz.hits f l) _ VG.rows HT2).mono ?_; rintro e w6 ⟨rfl, hb6⟩; rw [HG3.out])); have VF := VF.below hb6; have VG := VG.below hb6; have HB := HB.trans (hb6.mono HB.size); have cF := VF.cell; have cG := VG.cell; clear hb6))
      go_wp2
      go_ret
      exact ⟨rfl, HB⟩

theorem lawMono {w : World} (v : Value) (f : List (List Nat)) (hf : RRows w w.heap.size v f) (u : Value) (l : List Fz.Hit) (hl : RHits w w.heap.size u l) :
    Calls Try.prog 5 #[.agg #[v], u] w fun e w' => e = .returned (.bool true) ∧ Below w.heap.size w w' := by
  cases hv : Fz.valid f
  · exact lawMono_no v f hf u l hl (.inl hv)
  · by_cases h : l.length ≤ 200
    · exact lawMono_yes v f hf u l hl hv h
    · exact lawMono_no v f hf u l hl (.inr (by omega))

namespace lawMonoC
set_option maxRecDepth 100000 in
theorem lifted (os : Os) (started : os.Started) (H : Type) (enc : TypeId × Value → H) :
    ReturnsInHanded {} Try.checked os 5 .any (Rows.fuseMonotoneSpec.pre6 enc Try.prog Try.f5 Rows.fuseMonotoneRow.domain false) (Rows.fuseMonotoneSpec.post enc Try.prog Try.f5 false true false false) := by
  refine returnsInHanded_of_change (C := Try.checked) own started (by kernel_rfl) Try.func5
    (ChangeSpec.witness6 (enc := enc) (C := Try.checked) false ⟨#[], #[.agg #[.slice none 0 0], .slice none 0 0], []⟩ 8 (by kernel_rfl) (by kernel_rfl) (by kernel_rfl) (by kernel_rfl)) ?_
  intro W base args ds gs before hval0 hW hcnd _
  have hval : ∀ (j : Nat) t v, Try.f5.params[j]? = some t → args[j]? = some v → Value.okWide Try.prog W .any base t v := hval0
  have hW' := hW
  obtain ⟨p, q, hA0, hV, rfl, hfz, hnd⟩ := hW
  have hA : DataW.TrodAll enc Try.prog W 0 (fun _ => true) true Try.f5.params.toList args.toList ds p := hA0
  rw [Try.params5] at hA hval
  obtain ⟨v0, vs0, d0, ds0, p0, q0, hargs, rfl, rfl, h0, r0⟩ := trodAll_cons hA
  obtain ⟨v1, vs1, d1, ds1, p1, q1, rfl, rfl, rfl, h1, r1⟩ := trodAll_cons r0
  obtain ⟨rfl, rfl, rfl⟩ := trodAll_nil r1
  obtain rfl : args = #[v0, v1] := by cases args; simp_all
  obtain ⟨rfl, rfl⟩ := trodVars_none hV
  have k0 := h0
  have lt0 : ∀ x ∈ p0, x.block < W.heap.size := by obtain ⟨m, hm⟩ := k0; exact DataW.trod_lt m _ _ _ hm
  obtain ⟨cs0, rfl, _⟩ := okWide_struct Try.underlying24 (hval 0 24 v0 rfl rfl)
  obtain ⟨u0, x0, e0, s0⟩ : ∃ v f, (Value.agg cs0).cells.toList = [v] ∧ RRows W W.heap.size v f := by obtain ⟨fuel, hf⟩ := h0; exact reads_fuses hf
  obtain rfl : cs0 = #[u0] := by cases cs0; simpa [Value.cells] using e0
  have k1 := h1
  have lt1 : ∀ x ∈ p1, x.block < W.heap.size := by obtain ⟨m, hm⟩ := k1; exact DataW.trod_lt m _ _ _ hm
  obtain ⟨b1, n1, c1, rfl⟩ := okWide_slice Try.underlying40 (hval 1 40 v1 rfl rfl)
  obtain ⟨u1, x1, e1, s1⟩ : ∃ v f, (Value.slice b1 n1 c1).cells.toList = [v] ∧ RHits W W.heap.size v f := by obtain ⟨fuel, hf⟩ := h1; exact reads_hits hf
  obtain rfl : u1 = Value.slice b1 n1 c1 := by simpa [Value.cells] using e1.symm
  clear hA0 hval0
  refine (lawMono (w := W) u0 x0 s0 _ x1 s1 ).mono fun e W' ⟨he, bel⟩ => ?_
  subst he
  exact ⟨_, rfl, _, _, _, [], _, [], hW', trodAll_mk1 (shut_bool Try.underlying4 _), (trodAll_cons_mk (Below.trod laidOut (by kernel_rfl) (of_decide_eq_true (by kernel_rfl)) k0 bel lt0) (trodAll_cons_mk (Below.trod laidOut (by kernel_rfl) (of_decide_eq_true (by kernel_rfl)) k1 bel lt1) trodAll_mk0)), rfl, bel.frame _, fun h => by cases h⟩

theorem over : Rows.fuseMonotoneRow.holds Try.pinned (OpenSpec.ofChange Rows.fuseMonotoneSpec) :=
  OpenClaim.holds_of_wide 5 Try.f5 rfl rfl rfl rfl rfl rfl rfl ⟨rfl, rfl, rfl, rfl, rfl⟩ rfl rfl rfl rfl rfl (by kernel_rfl) Try.func5 (by kernel_rfl)
    (of_decide_eq_true (by kernel_rfl)) (by unfold Func.isWrapper; first | (rw [if_pos (by decide +kernel)]; kernel_rfl) | (rw [if_neg (by decide +kernel)]; exact ⟨rfl, rfl⟩))
    (fun os started H enc _ => lifted os started H enc)
end lawMonoC

theorem fuseMonotone_holds : Rows.FuseMonotoneSaid := lawMonoC.over

end Go.Proofs.Ytnahokblbpppeaa
