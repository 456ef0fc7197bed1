/- FuseNoise: for all fuses, banks and noises the law returns true, and what it was handed reads as it did. No conditions. -/
import Derived.Test.YtnahokblbpppeaaFzLaw
namespace Go.Proofs.Ytnahokblbpppeaa
open Go.ChangeShapes Go.WideShapes Go.ChangeAt Go.RowKit Go.Deep

theorem VarAt.drawn {W : World} {p : Nat} {v : Value} {f : List (List Nat)} (h : VarAt W p v f) : VarAt W.drew p v f := ⟨h.blk, h.rows⟩
namespace Fz
theorem readE_at {f : List (List Nat)} {k i : Nat} (m : Nat) (hk : k < f.length) (hi : i < (nthRow f k).length / 3) (hm : m < 3) : readE f k (3 * (i : Int) + m) = 0 := by
  have h1 : ex f k (3 * (i : Int) + m) = true := by simp [ex, row, hk]; omega
  simp [readE, h1]
theorem noise_tail {f : List (List Nat)} {k i : Nat} (hk : k < f.length) (hi : i ≤ (nthRow f k).length / 3) (h1 : ∀ j, j < i → 2 ≤ tri (nthRow f k) true j) (h2 : i = (nthRow f k).length / 3 ∨ tri (nthRow f k) false i < 2) :
    level f k false ≤ i ∧ (i : Int) ≤ level f k true := by
  have e1 : level f k false = lev (nthRow f k) false ((nthRow f k).length / 3) := by simp [level, row, hk]
  have e2 : level f k true = lev (nthRow f k) true ((nthRow f k).length / 3) := by simp [level, row, hk]
  rw [e1, e2]
  constructor
  · rcases lev_cases (nthRow f k) false ((nthRow f k).length / 3) with ⟨g1, g2⟩ | ⟨g1, g2, g3⟩
    · rcases h2 with h | h
      · omega
      · rcases Nat.lt_or_ge i ((nthRow f k).length / 3) with hl | hl
        · have := g2 i hl; omega
        · omega
    · rcases Nat.lt_or_ge i (lev (nthRow f k) false ((nthRow f k).length / 3)) with hl | hl
      · have := g2 i hl
        rcases h2 with h | h <;> omega
      · omega
  · rcases lev_cases (nthRow f k) true ((nthRow f k).length / 3) with ⟨g1, g2⟩ | ⟨g1, g2, g3⟩
    · omega
    · rcases Nat.lt_or_ge (lev (nthRow f k) true ((nthRow f k).length / 3)) i with hl | hl
      · have := h1 _ hl; omega
      · omega
end Fz

set_option maxHeartbeats 1000000 in
theorem lawNoise_no {w : World} (v : Value) (f : List (List Nat)) (hf : RRows w w.heap.size v f) (bank noise : Int) (hno : Fz.valid f = false ∨ ¬ (0 ≤ bank ∧ bank < f.length)) :
    Calls Try.prog 6 #[.agg #[v], .int .i64 bank, .int .u64 noise] w fun e w' => e = .returned (.bool true) ∧ Below w.heap.size w w' := by
  obtain ⟨A, c, rfl⟩ := rows_form hf
  have VF := VarAt.new hf
  have HB : Below w.heap.size w (w.alloc (.cells #[.slice A f.length c] 24)) := Below.new _
  have cF := VF.cell
  cases hv : Fz.valid f
  · have HV := Lib.hid hv
    clear hv hno
    go_enter Try.func6, Try.ntmps6
    go_wp2_with (first | (go_at_call 12; with_reducible refine (rvalid_any _ _ _ VF.rows).mono ?_; rintro e w6 ⟨rfl, hb6⟩; rw [HV.out]; have VF := VF.below hb6; have HB := HB.trans (hb6.mono HB.size); have cF := VF.cell; clear hb6) | (go_at_call 10; with_reducible refine (sanity_any _).mono ?_; rintro e w6 ⟨rfl, hb6⟩; have VF := VF.below hb6; have HB := HB.trans (hb6.mono HB.size); have cF := VF.cell; clear hb6))
    go_ret
    exact ⟨rfl, HB⟩
  · have HV := Lib.hid hv
    by_cases h0 : bank < 0
    · clear hv hno
      go_enter Try.func6, Try.ntmps6
      go_wp2_with (first | (go_at_call 12; with_reducible refine (rvalid_any _ _ _ VF.rows).mono ?_; rintro e w6 ⟨rfl, hb6⟩; rw [HV.out]; have VF := VF.below hb6; have HB := HB.trans (hb6.mono HB.size); have cF := VF.cell; clear hb6) | (go_at_call 10; with_reducible refine (sanity_any _).mono ?_; rintro e w6 ⟨rfl, hb6⟩; have VF := VF.below hb6; have HB := HB.trans (hb6.mono HB.size); have cF := VF.cell; clear hb6))
      go_ret
      exact ⟨rfl, HB⟩
    · have h1 : (f.length : Int) ≤ bank := by
        rcases hno with h | h
        · rw [h] at hv; cases hv
        · omega
      clear hv hno
      go_enter Try.func6, Try.ntmps6
      go_wp2_with (first | (go_at_call 12; with_reducible refine (rvalid_any _ _ _ VF.rows).mono ?_; rintro e w6 ⟨rfl, hb6⟩; rw [HV.out]; have VF := VF.below hb6; have HB := HB.trans (hb6.mono HB.size); have cF := VF.cell; clear hb6) | (go_at_call 10; with_reducible refine (sanity_any _).mono ?_; rintro e w6 ⟨rfl, hb6⟩; have VF := VF.below hb6; have HB := HB.trans (hb6.mono HB.size); have cF := VF.cell; clear hb6))
      go_ret
      exact ⟨rfl, HB⟩

set_option maxHeartbeats 4000000 in
theorem lawNoise_yes {w : World} (v : Value) (f : List (List Nat)) (hf : RRows w w.heap.size v f) (k : Nat) (noise : Int) (hv : Fz.valid f = true) (hk : k < f.length) :
    Calls Try.prog 6 #[.agg #[v], .int .i64 k, .int .u64 noise] w fun e w' => e = .returned (.bool true) ∧ Below w.heap.size w w' := by
  obtain ⟨A, c, rfl⟩ := rows_form hf
  have VF := VarAt.new hf
  have HB : Below w.heap.size w (w.alloc (.cells #[.slice A f.length c] 24)) := Below.new _
  have cF := VF.cell
  have HV := Lib.hid hv
  have h4 : f.length ≤ 4 := (Fz.valid_iff.1 hv).1
  have h48 : (nthRow f k).length ≤ 48 := ((Fz.valid_iff.1 hv).2 k hk).2.1
  have HW := Lib.hid (show Fz.width f k = (((nthRow f k).length / 3 : Nat) : Int) by simp [Fz.width, Fz.row, hk])
  obtain ⟨N, hN⟩ : ∃ N, N = (nthRow f k).length / 3 := ⟨_, rfl⟩
  rw [← hN] at HW
  have hN16 : N ≤ 16 := by omega
  have HN := Lib.hid hN
  have HNT := Lib.hid (fun (i : Nat) => Fz.noise_tail (i := i) hk)
  clear hv hN h48
  go_enter Try.func6, Try.ntmps6
  go_wp2_with (first | (go_at_call 12; with_reducible refine (rvalid_any _ _ _ VF.rows).mono ?_; rintro e w6 ⟨rfl, hb6⟩; rw [HV.out]; have VF := VF.below hb6; have HB := HB.trans (hb6.mono HB.size); have cF := VF.cell; clear hb6) | (go_at_call 18; (first | with_reducible refine (width_any _ f _ _ VF.rows).mono ?_); rintro e w6 ⟨rfl, hb6⟩; rw [HW.out]; have VF := VF.below hb6; have HB := HB.trans (hb6.mono HB.size); have cF := VF.cell; clear hb6))
  obtain ⟨W1, hW1⟩ : ∃ W1, W1 = w6 := ⟨_, rfl⟩
  rw [← hW1] at VF HB
  rw [← hW1]
  have I0 := Lib.hid (And.intro VF HB)
  clear hW1 cF VF HB
  go_loopw [7, 32] (fun lv i wr => ∃ i0 : Nat, i0 ≤ N ∧ lv = .int .i64 i0 ∧ i = .int .i64 i0 ∧ Hid (∀ j, j < i0 → 2 ≤ Fz.tri (nthRow f k) true j) ∧ Below W1.heap.size W1 wr) (fun _ i _ => N - (intOf i).toNat)
  case atStart => exact ⟨0, Nat.zero_le _, rfl, rfl, fun j hj => absurd hj (by omega), Below.refl _ _⟩
  case round =>
    obtain ⟨i, hi, rfl, rfl, HJ, hbw⟩ := hrel
    obtain ⟨VF1, HB1⟩ := I0.out
    by_cases hlt : i < N
    · go_wp2
      go_loopw [9, 35] (fun sm m wr => ∃ (m0 : Nat) (s : Int), m0 ≤ 3 ∧ 0 ≤ s ∧ s ≤ m0 ∧ sm = .int .i64 s ∧ m = .int .i64 m0 ∧ Hid (Fz.psum (nthRow f k) false i m0 ≤ s ∧ s ≤ Fz.psum (nthRow f k) true i m0) ∧ Below W1.heap.size W1 wr) (fun _ m _ => 3 - (intOf m).toNat)
      case atStart => exact ⟨0, 0, by omega, by omega, by omega, rfl, rfl, ⟨Int.le_refl _, Int.le_refl _⟩, hbw⟩
      case round =>
        clear hbw
        obtain ⟨m, s, hm, hs0, hsm, rfl, rfl, HS, hbw⟩ := hrel
        by_cases hlm : m < 3
        · have hbw := hbw.drew
          have cF := (VF1.below hbw).cell
          have HE := Lib.hid (Fz.readE_at m hk (by rw [← HN.out]; exact hlt) hlm)
          have HR := Lib.hid (Fz.readV_at m hk (by rw [← HN.out]; exact hlt) hlm)
          have HR0 := Lib.hid (Fz.rd_01 (nth (nthRow f k) (i * 3 + m)))
          go_wp2
          go_region_held3 (fun W' => W'.cell? ⟨w.heap.size, 0, none⟩ = some (.slice A f.length c)) (first | exact cF | go_keep) ((go_at_call 13; with_reducible refine (read_any _ f _ _ _ _ (VF1.below hbw).rows).mono ?_; rintro e w6 ⟨rfl, hb6⟩; rw [HR.out, HE.out]; have hbw := hbw.trans (hb6.mono hbw.size); have cF := (VF1.below hbw).cell; clear hb6))
          go_wp2
          obtain ⟨B, hB⟩ : ∃ B, B = (bits BinOp.and IntKind.u64 (noise / 2 ^ (3 * i + m)) 1 == 1) := ⟨_, rfl⟩
          rw [← hB]
          obtain ⟨r1, r2⟩ := HR0.out B
          obtain ⟨r3, r4⟩ := Fz.rd_noise (nth (nthRow f k) (i * 3 + m)) B
          obtain ⟨t1, t2⟩ := HS.out
          refine ⟨⟨m + 1, s + Fz.rd (nth (nthRow f k) (i * 3 + m)) B, by omega, by omega, by push_cast; omega, congrArg _ (Go.IntWalk.wrap64_in _ (by omega)), by go_num, ⟨by simp only [Fz.psum]; omega, by simp only [Fz.psum]; omega⟩, hbw⟩, by simp [intOf]; omega⟩
        · obtain rfl : m = 3 := by omega
          by_cases h2 : 2 ≤ s
          · have H := Lib.hid (show ∀ j, j < i + 1 → 2 ≤ Fz.tri (nthRow f k) true j by
              intro j hj
              rcases Nat.lt_succ_iff_lt_or_eq.1 hj with g | g
              · exact HJ.out j g
              · subst g; exact Int.le_trans h2 HS.out.2)
            go_wp2
            go_roundw
            case rel => exact ⟨i + 1, by omega, by go_num, by go_num, H, hbw⟩
            case measure => simp [intOf]; omega
          · obtain ⟨g1, g2⟩ := HNT.out i (by rw [← HN.out]; exact hi) HJ.out (.inr (by have := HS.out.1; unfold Fz.tri; omega))
            have cF := (VF1.below hbw).cell
            go_wp2_with (first | (go_at_call 10; with_reducible refine (sanity_any _).mono ?_; rintro e w6 ⟨rfl, hb6⟩; have hbw := hbw.trans (hb6.mono hbw.size); have cF := (VF1.below hbw).cell; clear hb6) | (go_at_call 20; with_reducible refine (least_any _ f _ _ (VF1.below hbw).rows).mono ?_; rintro e w6 ⟨rfl, hb6⟩; have hbw := hbw.trans (hb6.mono hbw.size); have cF := (VF1.below hbw).cell; clear hb6) | (go_at_call 22; with_reducible refine (most_any _ f _ _ (VF1.below hbw).rows).mono ?_; rintro e w6 ⟨rfl, hb6⟩; have hbw := hbw.trans (hb6.mono hbw.size); have cF := (VF1.below hbw).cell; clear hb6))
            go_ret
            exact ⟨rfl, HB1.trans (hbw.mono HB1.size)⟩
    · obtain ⟨g1, g2⟩ := HNT.out i (by rw [← HN.out]; exact hi) HJ.out (.inl (by rw [← HN.out]; omega))
      have cF := (VF1.below hbw).cell
      go_wp2_with (first | (go_at_call 10; with_reducible refine (sanity_any _).mono ?_; rintro e w6 ⟨rfl, hb6⟩; have hbw := hbw.trans (hb6.mono hbw.size); have cF := (VF1.below hbw).cell; clear hb6) | (go_at_call 20; with_reducible refine (least_any _ f _ _ (VF1.below hbw).rows).mono ?_; rintro e w6 ⟨rfl, hb6⟩; have hbw := hbw.trans (hb6.mono hbw.size); have cF := (VF1.below hbw).cell; clear hb6) | (go_at_call 22; with_reducible refine (most_any _ f _ _ (VF1.below hbw).rows).mono ?_; rintro e w6 ⟨rfl, hb6⟩; have hbw := hbw.trans (hb6.mono hbw.size); have cF := (VF1.below hbw).cell; clear hb6))
      go_ret
      exact ⟨rfl, HB1.trans (hbw.mono HB1.size)⟩

theorem lawNoise {w : World} (v : Value) (f : List (List Nat)) (hf : RRows w w.heap.size v f) (bank noise : Int) (_hw : (Lit.int .u64 noise).wf = true) :
    Calls Try.prog 6 #[.agg #[v], .int .i64 bank, .int .u64 noise] w fun e w' => e = .returned (.bool true) ∧ Below w.heap.size w w' := by
  cases hv : Fz.valid f
  · exact lawNoise_no v f hf bank noise (.inl hv)
  · by_cases h : 0 ≤ bank ∧ bank < f.length
    · obtain ⟨k, rfl⟩ := Int.eq_ofNat_of_zero_le h.1
      exact lawNoise_yes v f hf k noise hv (by omega)
    · exact lawNoise_no v f hf bank noise (.inr h)

namespace lawNoiseC
set_option maxRecDepth 100000 in
theorem lifted (os : Os) (started : os.Started) (H : Type) (enc : TypeId × Value → H) :
    ReturnsInHanded {} Try.checked os 6 .any (Rows.fuseNoiseSpec.pre6 enc Try.prog Try.f6 Rows.fuseNoiseRow.domain false) (Rows.fuseNoiseSpec.post enc Try.prog Try.f6 false true false false) := by
  refine returnsInHanded_of_change (C := Try.checked) own started (by kernel_rfl) Try.func6
    (ChangeSpec.witness6 (enc := enc) (C := Try.checked) false ⟨#[], #[.agg #[.slice none 0 0], .int .i64 0, .int .u64 0], []⟩ 8 (by kernel_rfl) (by kernel_rfl) (by kernel_rfl) (by kernel_rfl)) ?_
  intro W base args ds gs before hval0 hW hcnd _
  have hval : ∀ (j : Nat) t v, Try.f6.params[j]? = some t → args[j]? = some v → Value.okWide Try.prog W .any base t v := hval0
  have hW' := hW
  obtain ⟨p, q, hA0, hV, rfl, hfz, hnd⟩ := hW
  have hA : DataW.TrodAll enc Try.prog W 0 (fun _ => true) true Try.f6.params.toList args.toList ds p := hA0
  rw [Try.params6] at hA hval
  obtain ⟨v0, vs0, d0, ds0, p0, q0, hargs, rfl, rfl, h0, r0⟩ := trodAll_cons hA
  obtain ⟨v1, vs1, d1, ds1, p1, q1, rfl, rfl, rfl, h1, r1⟩ := trodAll_cons r0
  obtain ⟨v2, vs2, d2, ds2, p2, q2, rfl, rfl, rfl, h2, r2⟩ := trodAll_cons r1
  obtain ⟨rfl, rfl, rfl⟩ := trodAll_nil r2
  obtain rfl : args = #[v0, v1, v2] := by cases args; simp_all
  obtain ⟨rfl, rfl⟩ := trodVars_none hV
  have k0 := h0
  have lt0 : ∀ x ∈ p0, x.block < W.heap.size := by obtain ⟨m, hm⟩ := k0; exact DataW.trod_lt m _ _ _ hm
  obtain ⟨cs0, rfl, _⟩ := okWide_struct Try.underlying24 (hval 0 24 v0 rfl rfl)
  obtain ⟨u0, x0, e0, s0⟩ : ∃ v f, (Value.agg cs0).cells.toList = [v] ∧ RRows W W.heap.size v f := by obtain ⟨fuel, hf⟩ := h0; exact reads_fuses hf
  obtain rfl : cs0 = #[u0] := by cases cs0; simpa [Value.cells] using e0
  obtain ⟨a1, rfl, rfl, rfl, w1⟩ := open_int Try.underlying3 (hval 1 3 v1 rfl rfl) h1
  obtain ⟨a2, rfl, rfl, rfl, w2⟩ := open_int Try.underlying43 (hval 2 43 v2 rfl rfl) h2
  clear hA0 hval0
  refine (lawNoise (w := W) u0 x0 s0 a1 a2 w2).mono fun e W' ⟨he, bel⟩ => ?_
  subst he
  exact ⟨_, rfl, _, _, _, [], _, [], hW', trodAll_mk1 (shut_bool Try.underlying4 _), (trodAll_cons_mk (Below.trod laidOut (by kernel_rfl) (of_decide_eq_true (by kernel_rfl)) k0 bel lt0) (trodAll_cons_mk (shut_int Try.underlying3 w1) (trodAll_cons_mk (shut_int Try.underlying43 w2) trodAll_mk0))), rfl, bel.frame _, fun h => by cases h⟩

theorem over : Rows.fuseNoiseRow.holds Try.pinned (OpenSpec.ofChange Rows.fuseNoiseSpec) :=
  OpenClaim.holds_of_wide 6 Try.f6 rfl rfl rfl rfl rfl rfl rfl ⟨rfl, rfl, rfl, rfl, rfl⟩ rfl rfl rfl rfl rfl (by kernel_rfl) Try.func6 (by kernel_rfl)
    (of_decide_eq_true (by kernel_rfl)) (by unfold Func.isWrapper; first | (rw [if_pos (by decide +kernel)]; kernel_rfl) | (rw [if_neg (by decide +kernel)]; exact ⟨rfl, rfl⟩))
    (fun os started H enc _ => lifted os started H enc)
end lawNoiseC

theorem fuseNoise_holds : Rows.FuseNoiseSaid := lawNoiseC.over

end Go.Proofs.Ytnahokblbpppeaa
