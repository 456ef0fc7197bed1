/- FuseMatchesSpec: for all fuses, banks, cells and flags the law returns true, and what it was handed reads as it did. No conditions. -/
import Derived.Test.YtnahokblbpppeaaFzLaw
namespace Go.Proofs.Ytnahokblbpppeaa
open Go.ChangeShapes Go.WideShapes Go.ChangeAt Go.RowKit Go.Deep

theorem VarAt.drawn {W : World} {p : Nat} {v : Value} {f : List (List Nat)} (h : VarAt W p v f) : VarAt W.drew p v f := ⟨h.blk, h.rows⟩
theorem Fz.same_self (f : List (List Nat)) : Fz.same f f = true := by simp [Fz.same]

set_option maxRecDepth 100000 in
set_option maxHeartbeats 8000000 in
theorem lawSpec {w : World} (v : Value) (f : List (List Nat)) (hf : RRows w w.heap.size v f) (bank cell : Int) (flag : Bool) :
    Calls Try.prog 3 #[.agg #[v], .int .i64 bank, .int .i64 cell, .bool flag] w fun e w' => e = .returned (.bool true) ∧ Below w.heap.size w w' := by
  obtain ⟨A, c, rfl⟩ := rows_form hf
  have VF := VarAt.new hf
  have HB : Below w.heap.size w (w.alloc (.cells #[.slice A f.length c] 24)) := Below.new _
  have cF := VF.cell
  by_cases h6 : f.length ≤ 6
  · have e6 : decide ((6 : Int) < (f.length : Int)) = false := by simp; omega
    go_enter Try.func3, Try.ntmps3
    go_wp2
    obtain ⟨W1, hW1⟩ : ∃ W1, W1 = w.alloc (.cells #[.slice A f.length c] 24) := ⟨_, rfl⟩
    rw [← hW1] at VF HB
    rw [← hW1]
    have I0 := Lib.hid (And.intro VF HB)
    clear hW1 cF VF HB
    go_loopw [27] (fun i wr => ∃ k : Nat, k ≤ f.length ∧ i = .int .i64 k ∧ Below W1.heap.size W1 wr) (fun i _ => f.length - (intOf i).toNat)
    case atStart => exact ⟨0, Nat.zero_le _, rfl, Below.refl _ _⟩
    case round =>
      obtain ⟨k, hk, rfl, hbw⟩ := hrel
      obtain ⟨VF1, HB1⟩ := I0.out
      by_cases hlt : k < f.length
      · obtain ⟨b, o, A', c', rfl, hb, hc1, hl, hc', -, -⟩ := VF1.rows.row k hlt
        unfold maxLen at hc'
        have cF := (VF1.below hbw).cell
        have q1 := (hbw.cell (p := ⟨b, o + k, none⟩) hb).trans hc1
        by_cases h60 : (nthRow f k).length ≤ 60
        · have e60 : decide ((60 : Int) < ((nthRow f k).length : Int)) = false := by simp; omega
          go_wp2
          go_roundw
          case rel => exact ⟨k + 1, by omega, by go_num, hbw⟩
          case measure => simp [intOf]; omega
        · have e60 : decide ((60 : Int) < ((nthRow f k).length : Int)) = true := by simp; omega
          go_wp2_with (go_at_call 10; with_reducible refine (sanity_any _).mono ?_; rintro e w6 ⟨rfl, hb6⟩)
          go_ret
          exact ⟨rfl, HB1.trans ((hbw.trans (hb6.mono hbw.size)).mono HB1.size)⟩
      · have VF := (VF1.below hbw).drawn
        have HB := (HB1.trans (hbw.mono HB1.size)).drew
        have cF := VF.cell
        clear hbw VF1 HB1 I0
        cases hv : Fz.valid f
        · have HV := Lib.hid hv
          clear hv
          go_wp2
          go_region_held3 (fun W' => W'.cell? ⟨w.heap.size, 0, none⟩ = some (.slice A f.length c)) (first | exact cF | go_keep) (first | (go_at_call 11; with_reducible refine (valid_any _ _ _ VF.rows).mono ?_; rintro e w6 ⟨rfl, hb6⟩; rw [HV.out]; have VF := VF.below hb6; have HB := HB.trans (hb6.mono HB.size); have cF := VF.cell; clear hb6) | (go_at_call 12; with_reducible refine (rvalid_any _ _ _ VF.rows).mono ?_; rintro e w6 ⟨rfl, hb6⟩; rw [HV.out]; have VF := VF.below hb6; have HB := HB.trans (hb6.mono HB.size); have cF := VF.cell; clear hb6))
          go_wp2_with (first | (go_at_call 10; with_reducible refine (sanity_any _).mono ?_; rintro e w6 ⟨rfl, hb6⟩; have VF := VF.below hb6; have HB := HB.trans (hb6.mono HB.size); have cF := VF.cell; clear hb6) | (go_at_call 11; with_reducible refine (valid_any _ _ _ VF.rows).mono ?_; rintro e w6 ⟨rfl, hb6⟩; rw [HV.out]; have VF := VF.below hb6; have HB := HB.trans (hb6.mono HB.size); have cF := VF.cell; clear hb6) | (go_at_call 12; with_reducible refine (rvalid_any _ _ _ VF.rows).mono ?_; rintro e w6 ⟨rfl, hb6⟩; rw [HV.out]; have VF := VF.below hb6; have HB := HB.trans (hb6.mono HB.size); have cF := VF.cell; clear hb6))
          go_ret
          exact ⟨rfl, HB⟩
        · have HV := Lib.hid hv
          have HSM := Lib.hid (Fz.valid_small hv)
          have HT := Lib.hid (Fz.valid_small hv).2
          have HT2 := Lib.hid (Fz.valid_thirds hv)
          have H3 := Lib.hid (show Fz.ex f bank cell = true → Fz.cellOf f bank cell ≤ 3 from fun _ => Fz.at_le hv bank.toNat cell.toNat)
          clear hv
          go_wp2
          go_region_held3 (fun W' => W'.cell? ⟨w.heap.size, 0, none⟩ = some (.slice A f.length c)) (first | exact cF | go_keep) (first | (go_at_call 11; with_reducible refine (valid_any _ _ _ VF.rows).mono ?_; rintro e w6 ⟨rfl, hb6⟩; rw [HV.out]; have VF := VF.below hb6; have HB := HB.trans (hb6.mono HB.size); have cF := VF.cell; clear hb6) | (go_at_call 12; with_reducible refine (rvalid_any _ _ _ VF.rows).mono ?_; rintro e w6 ⟨rfl, hb6⟩; rw [HV.out]; have VF := VF.below hb6; have HB := HB.trans (hb6.mono HB.size); have cF := VF.cell; clear hb6))
          go_wp2_with fail
          refine (read_any _ f _ _ _ _ VF.rows).mono ?_
          rintro e w6 ⟨rfl, hb6⟩
          have VF := VF.below hb6; have HB := HB.trans (hb6.mono HB.size); have cF := VF.cell; clear hb6
          go_wp2_with fail
          refine (rread_any _ f _ _ _ _ VF.rows).mono ?_
          rintro e w6 ⟨rfl, hb6⟩
          have VF := VF.below hb6; have HB := HB.trans (hb6.mono HB.size); have cF := VF.cell; clear hb6
          go_wp2_with fail
          refine (pulse_any _ f _ _ _ _ VF.rows HSM.out).mono ?_
          rintro e w2 ⟨v2, rfl, hg, hb2⟩
          obtain ⟨G, hG⟩ : ∃ G, G = Fz.pulse f bank cell flag := ⟨_, rfl⟩
          rw [← hG] at hg
          have HGE := Lib.hid hG
          clear hG
          obtain ⟨A3, c3, rfl⟩ := rows_form hg
          have VF := (VF.below hb2).below (Below.new (.cells #[.slice A3 G.length c3] 24))
          have VG := VarAt.new hg
          have HB := (HB.trans (hb2.mono HB.size)).alloc (HB.trans (hb2.mono HB.size)).size (.cells #[.slice A3 G.length c3] 24)
          have cF := VF.cell
          have cG := VG.cell
          have hz2 := HB.size
          clear hb2 hg
          go_wp2_with fail
          obtain ⟨pG, hpG⟩ : ∃ pG, pG = w2.heap.size := ⟨_, rfl⟩
          obtain ⟨W2, hW2⟩ : ∃ W2, W2 = w2.alloc (.cells #[.slice A3 G.length c3] 24) := ⟨_, rfl⟩
          rw [← hW2, ← hpG] at VG
          rw [← hW2] at VF HB
          rw [← hW2, ← hpG]
          clear hW2 hpG cF cG hz2
          refine (rpulse_any _ f _ _ _ _ VF.rows HSM.out H3.out).mono ?_
          rintro e w3 ⟨v3, rfl, hg, hb3⟩
          rw [← HGE.out] at hg
          obtain ⟨A4, c4, rfl⟩ := rows_form hg
          have VF := (VF.below hb3).below (Below.new (.cells #[.slice A4 G.length c4] 24))
          have VG := (VG.below hb3).below (Below.new (.cells #[.slice A4 G.length c4] 24))
          have VK := VarAt.new hg
          have HB := (HB.trans (hb3.mono HB.size)).alloc (HB.trans (hb3.mono HB.size)).size (.cells #[.slice A4 G.length c4] 24)
          have hz3 := HB.size
          have HSG := Lib.hid (Fz.same_self G)
          clear hb3 hg
          go_wp2
          obtain ⟨pK, hpK⟩ : ∃ pK, pK = w3.heap.size := ⟨_, rfl⟩
          obtain ⟨W3, hW3⟩ : ∃ W3, W3 = w3.alloc (.cells #[.slice A4 G.length c4] 24) := ⟨_, rfl⟩
          rw [← hW3, ← hpK] at VK
          rw [← hW3] at VF VG HB
          rw [← hW3, ← hpK]
          clear hpK hW3 hz3
          have VF := VF.drawn
          have VG := VG.drawn
          have VK := VK.drawn
          have HB := HB.drew
          have cF := VF.cell
          have cG := VG.cell
          have cK := VK.cell
          go_region_held3 (fun W' => W'.cell? ⟨w.heap.size, 0, none⟩ = some (.slice A f.length c) ∧ W'.cell? ⟨pG, 0, none⟩ = some (.slice A3 G.length c3) ∧ W'.cell? ⟨pK, 0, none⟩ = some (.slice A4 G.length c4)) (first | exact ⟨cF, cG, cK⟩ | go_keep)
            (first
              | (go_at_call 10; with_reducible refine (sanity_any _).mono ?_; rintro e w6 ⟨rfl, hb6⟩; have VF := VF.below hb6; have VG := VG.below hb6; have VK := VK.below hb6; have HB := HB.trans (hb6.mono HB.size); have cF := VF.cell; have cG := VG.cell; have cK := VK.cell; clear hb6)
              | (go_at_call 17; with_reducible refine (same_any _ _ _ _ _ VG.rows VK.rows).mono ?_; rintro e w6 ⟨rfl, hb6⟩; rw [HSG.out]; have VF := VF.below hb6; have VG := VG.below hb6; have VK := VK.below hb6; have HB := HB.trans (hb6.mono HB.size); have cF := VF.cell; have cG := VG.cell; have cK := VK.cell; clear hb6)
              | (go_at_call 18; with_reducible refine (width_any _ f _ _ VF.rows).mono ?_; rintro e w6 ⟨rfl, hb6⟩; have VF := VF.below hb6; have VG := VG.below hb6; have VK := VK.below hb6; have HB := HB.trans (hb6.mono HB.size); have cF := VF.cell; have cG := VG.cell; have cK := VK.cell; clear hb6)
              | (go_at_call 20; with_reducible refine (least_any _ f _ _ VF.rows).mono ?_; rintro e w6 ⟨rfl, hb6⟩; have VF := VF.below hb6; have VG := VG.below hb6; have VK := VK.below hb6; have HB := HB.trans (hb6.mono HB.size); have cF := VF.cell; have cG := VG.cell; have cK := VK.cell; clear hb6)
              | (go_at_call 22; with_reducible refine (most_any _ f _ _ VF.rows).mono ?_; rintro e w6 ⟨rfl, hb6⟩; have VF := VF.below hb6; have VG := VG.below hb6; have VK := VK.below hb6; have HB := HB.trans (hb6.mono HB.size); have cF := VF.cell; have cG := VG.cell; have cK := VK.cell; clear hb6)
              | (go_at_call 19; with_reducible refine (rwidth_any _ f _ _ VF.rows).mono ?_; rintro e w6 ⟨rfl, hb6⟩; have VF := VF.below hb6; have VG := VG.below hb6; have VK := VK.below hb6; have HB := HB.trans (hb6.mono HB.size); have cF := VF.cell; have cG := VG.cell; have cK := VK.cell; clear hb6)
              | (go_at_call 21; with_reducible refine (rleast_any _ f _ _ VF.rows).mono ?_; rintro e w6 ⟨rfl, hb6⟩; have VF := VF.below hb6; have VG := VG.below hb6; have VK := VK.below hb6; have HB := HB.trans (hb6.mono HB.size); have cF := VF.cell; have cG := VG.cell; have cK := VK.cell; clear hb6)
              | (go_at_call 23; with_reducible refine (rmost_any _ f _ _ VF.rows).mono ?_; rintro e w6 ⟨rfl, hb6⟩; have VF := VF.below hb6; have VG := VG.below hb6; have VK := VK.below hb6; have HB := HB.trans (hb6.mono HB.size); have cF := VF.cell; have cG := VG.cell; have cK := VK.cell; clear hb6)
              | (go_at_call 24; with_reducible refine (sound_any _ f _ VF.rows HT2).mono ?_; rintro e w6 ⟨rfl, hb6⟩; have VF := VF.below hb6; have VG := VG.below hb6; have VK := VK.below hb6; have HB := HB.trans (hb6.mono HB.size); have cF := VF.cell; have cG := VG.cell; have cK := VK.cell; clear hb6)
              | (go_at_call 25; with_reducible refine (rsound_any _ f _ VF.rows HT).mono ?_; rintro e w6 ⟨rfl, hb6⟩; have VF := VF.below hb6; have VG := VG.below hb6; have VK := VK.below hb6; have HB := HB.trans (hb6.mono HB.size); have cF := VF.cell; have cG := VG.cell; have cK := VK.cell; clear hb6))
          go_wp2
          go_ret
          exact ⟨rfl, HB⟩
  · have e6 : decide ((6 : Int) < (f.length : Int)) = true := by simp; omega
    go_enter Try.func3, Try.ntmps3
    go_wp2_with (go_at_call 10; with_reducible refine (sanity_any _).mono ?_; rintro e w6 ⟨rfl, hb6⟩; have VF := VF.below hb6; have HB := HB.trans (hb6.mono HB.size); have cF := VF.cell; clear hb6)
    go_ret
    exact ⟨rfl, HB⟩

namespace lawSpecC
set_option maxRecDepth 100000 in
theorem lifted (os : Os) (started : os.Started) (H : Type) (enc : TypeId × Value → H) :
    ReturnsInHanded {} Try.checked os 3 .any (Rows.fuseMatchesSpecSpec.pre6 enc Try.prog Try.f3 Rows.fuseMatchesSpecRow.domain false) (Rows.fuseMatchesSpecSpec.post enc Try.prog Try.f3 false true false false) := by
  refine returnsInHanded_of_change (C := Try.checked) own started (by kernel_rfl) Try.func3
    (ChangeSpec.witness6 (enc := enc) (C := Try.checked) false ⟨#[], #[.agg #[.slice none 0 0], .int .i64 0, .int .i64 0, .bool false], []⟩ 8 (by kernel_rfl) (by kernel_rfl) (by kernel_rfl) (by kernel_rfl)) ?_
  intro W base args ds gs before hval0 hW hcnd _
  have hval : ∀ (j : Nat) t v, Try.f3.params[j]? = some t → args[j]? = some v → Value.okWide Try.prog W .any base t v := hval0
  have hW' := hW
  obtain ⟨p, q, hA0, hV, rfl, hfz, hnd⟩ := hW
  have hA : DataW.TrodAll enc Try.prog W 0 (fun _ => true) true Try.f3.params.toList args.toList ds p := hA0
  rw [Try.params3] at hA hval
  obtain ⟨v0, vs0, d0, ds0, p0, q0, hargs, rfl, rfl, h0, r0⟩ := trodAll_cons hA
  obtain ⟨v1, vs1, d1, ds1, p1, q1, rfl, rfl, rfl, h1, r1⟩ := trodAll_cons r0
  obtain ⟨v2, vs2, d2, ds2, p2, q2, rfl, rfl, rfl, h2, r2⟩ := trodAll_cons r1
  obtain ⟨v3, vs3, d3, ds3, p3, q3, rfl, rfl, rfl, h3, r3⟩ := trodAll_cons r2
  obtain ⟨rfl, rfl, rfl⟩ := trodAll_nil r3
  obtain rfl : args = #[v0, v1, v2, v3] := by cases args; simp_all
  obtain ⟨rfl, rfl⟩ := trodVars_none hV
  have k0 := h0
  have lt0 : ∀ x ∈ p0, x.block < W.heap.size := by obtain ⟨m, hm⟩ := k0; exact DataW.trod_lt m _ _ _ hm
  obtain ⟨cs0, rfl, _⟩ := okWide_struct Try.underlying24 (hval 0 24 v0 rfl rfl)
  obtain ⟨u0, x0, e0, s0⟩ : ∃ v f, (Value.agg cs0).cells.toList = [v] ∧ RRows W W.heap.size v f := by obtain ⟨fuel, hf⟩ := h0; exact reads_fuses hf
  obtain rfl : cs0 = #[u0] := by cases cs0; simpa [Value.cells] using e0
  obtain ⟨a1, rfl, rfl, rfl, w1⟩ := open_int Try.underlying3 (hval 1 3 v1 rfl rfl) h1
  obtain ⟨a2, rfl, rfl, rfl, w2⟩ := open_int Try.underlying3 (hval 2 3 v2 rfl rfl) h2
  obtain ⟨a3, rfl, rfl, rfl⟩ := open_bool Try.underlying4 (hval 3 4 v3 rfl rfl) h3
  clear hA0 hval0
  refine (lawSpec (w := W) u0 x0 s0 a1 a2 a3 ).mono fun e W' ⟨he, bel⟩ => ?_
  subst he
  exact ⟨_, rfl, _, _, _, [], _, [], hW', trodAll_mk1 (shut_bool Try.underlying4 _), (trodAll_cons_mk (Below.trod laidOut (by kernel_rfl) (of_decide_eq_true (by kernel_rfl)) k0 bel lt0) (trodAll_cons_mk (shut_int Try.underlying3 w1) (trodAll_cons_mk (shut_int Try.underlying3 w2) (trodAll_cons_mk (shut_bool Try.underlying4 _) trodAll_mk0)))), rfl, bel.frame _, fun h => by cases h⟩

theorem over : Rows.fuseMatchesSpecRow.holds Try.pinned (OpenSpec.ofChange Rows.fuseMatchesSpecSpec) :=
  OpenClaim.holds_of_wide 3 Try.f3 rfl rfl rfl rfl rfl rfl rfl ⟨rfl, rfl, rfl, rfl, rfl⟩ rfl rfl rfl rfl rfl (by kernel_rfl) Try.func3 (by kernel_rfl)
    (of_decide_eq_true (by kernel_rfl)) (by unfold Func.isWrapper; first | (rw [if_pos (by decide +kernel)]; kernel_rfl) | (rw [if_neg (by decide +kernel)]; exact ⟨rfl, rfl⟩))
    (fun os started H enc _ => lifted os started H enc)
end lawSpecC

theorem fuseMatchesSpec_holds : Rows.FuseMatchesSpecSaid := lawSpecC.over

end Go.Proofs.Ytnahokblbpppeaa
