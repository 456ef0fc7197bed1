/- FuseCut: for all fuses, banks and cells the law returns true, and what it was handed reads as it did. No conditions. -/
import Derived.Test.YtnahokblbpppeaaFzLaw
namespace Go.Proofs.Ytnahokblbpppeaa
open Go.ChangeShapes Go.WideShapes Go.ChangeAt Go.RowKit Go.Deep

theorem VarAt.drawn {W : World} {p : Nat} {v : Value} {f : List (List Nat)} (h : VarAt W p v f) : VarAt W.drew p v f := ⟨h.blk, h.rows⟩
namespace Fz
theorem cut_one (f : List (List Nat)) (bank cell : Int) (cut : Bool) (i j : Nat) (h : nth (nthRow (pulse f bank cell cut) i) j ≠ nth (nthRow f i) j) : bank = i ∧ cell = j := by
  have h1 := at_pulse f bank cell cut i j
  unfold at_ at h1
  rw [h1] at h
  split at h
  · rename_i hh; exact hh.2
  · exact absurd rfl h
end Fz

set_option maxHeartbeats 1000000 in
theorem lawCut_no {w : World} (v : Value) (f : List (List Nat)) (hf : RRows w w.heap.size v f) (bank cell : Int) (hv : Fz.valid f = false) :
    Calls Try.prog 7 #[.agg #[v], .int .i64 bank, .int .i64 cell] w fun e w' => e = .returned (.bool true) ∧ Below w.heap.size w w' := by
  obtain ⟨A, c, rfl⟩ := rows_form hf
  have VF := VarAt.new hf
  have HB : Below w.heap.size w (w.alloc (.cells #[.slice A f.length c] 24)) := Below.new _
  have cF := VF.cell
  have HV := Lib.hid hv
  clear hv
  go_enter Try.func7, Try.ntmps7
  go_wp2_with (first | (go_at_call 12; with_reducible refine (rvalid_any _ _ _ VF.rows).mono ?_; rintro e w6 ⟨rfl, hb6⟩; rw [HV.out]; have VF := VF.below hb6; have HB := HB.trans (hb6.mono HB.size); have cF := VF.cell; clear hb6) | (go_at_call 10; with_reducible refine (sanity_any _).mono ?_; rintro e w6 ⟨rfl, hb6⟩; have VF := VF.below hb6; have HB := HB.trans (hb6.mono HB.size); have cF := VF.cell; clear hb6))
  go_ret
  exact ⟨rfl, HB⟩

set_option maxHeartbeats 4000000 in
theorem lawCut_yes {w : World} (v : Value) (f : List (List Nat)) (hf : RRows w w.heap.size v f) (bank cell : Int) (hv : Fz.valid f = true) :
    Calls Try.prog 7 #[.agg #[v], .int .i64 bank, .int .i64 cell] w fun e w' => e = .returned (.bool true) ∧ Below w.heap.size w w' := by
  obtain ⟨A, c, rfl⟩ := rows_form hf
  have VF := VarAt.new hf
  have HB : Below w.heap.size w (w.alloc (.cells #[.slice A f.length c] 24)) := Below.new _
  have cF := VF.cell
  have HV := Lib.hid hv
  have h4 : f.length ≤ 4 := (Fz.valid_iff.1 hv).1
  have H48 := Lib.hid (fun k h => ((Fz.valid_iff.1 hv).2 k h).2.1)
  have HLV := Lib.hid (Fz.level_cut hv bank cell)
  have HD := Lib.hid (Fz.cut_one f bank cell true)
  have HGL := Lib.hid (Fz.pulse_length f bank cell true)
  have HGR := Lib.hid (Fz.pulse_row_length f bank cell true)
  clear hv
  go_enter Try.func7, Try.ntmps7
  go_wp2_with (go_at_call 12; with_reducible refine (rvalid_any _ _ _ VF.rows).mono ?_; rintro e w6 ⟨rfl, hb6⟩; rw [HV.out]; have VF := VF.below hb6; have HB := HB.trans (hb6.mono HB.size); have cF := VF.cell; clear hb6)
  refine (pulse_any _ f _ _ true _ VF.rows (Fz.valid_small HV.out)).mono ?_
  rintro e w2 ⟨vg, rfl, hg, hb2⟩
  obtain ⟨G, hG⟩ : ∃ G, G = Fz.pulse f bank cell true := ⟨_, rfl⟩
  rw [← hG] at hg HLV HD HGL HGR
  clear hG
  obtain ⟨A3, c3, rfl⟩ := rows_form hg
  rw [HGL.out] at hg ⊢
  have VF := (VF.below hb2).below (Below.new (.cells #[.slice A3 f.length c3] 24))
  have VG := VarAt.new hg
  have HB := (HB.trans (hb2.mono HB.size)).alloc (HB.trans (hb2.mono HB.size)).size (.cells #[.slice A3 f.length c3] 24)
  have cF := VF.cell
  have cG := VG.cell
  have hz2 := HB.size
  clear hb2 hg
  go_wp2_with fail
  obtain ⟨pG, hpG⟩ : ∃ pG, pG = w2.heap.size := ⟨_, rfl⟩
  obtain ⟨W1, hW1⟩ : ∃ W1, W1 = w2.alloc (.cells #[.slice A3 f.length c3] 24) := ⟨_, rfl⟩
  rw [← hW1, ← hpG] at VG
  rw [← hW1] at VF HB
  rw [← hW1, ← hpG]
  have I0 := Lib.hid (And.intro VF (And.intro VG HB))
  clear hW1 hpG cF cG hz2 VF VG HB
  go_loopw [9, 33] (fun ch i wr => ∃ k n : Nat, k ≤ f.length ∧ n ≤ 1 ∧ ch = .int .i64 n ∧ i = .int .i64 k ∧ Hid (n = 1 → bank < k) ∧ Below W1.heap.size W1 wr) (fun _ i _ => f.length - (intOf i).toNat)
  case atStart => exact ⟨0, 0, Nat.zero_le _, by omega, rfl, rfl, fun h => by omega, Below.refl _ _⟩
  case round =>
    obtain ⟨k, n, hk, hn, rfl, rfl, HC, hbw⟩ := hrel
    obtain ⟨VF1, VG1, HB1⟩ := I0.out
    by_cases hlt : k < f.length
    · have hbw := hbw.drew
      obtain ⟨b, o, A', c', rfl, hb, hc1, hl, hc', hbd, hgc⟩ := VF1.rows.row k hlt
      obtain ⟨b2, o2, A2', c2', rfl, hb2, hd1, hl2, hc2', hbd2, hgd⟩ := VG1.rows.row k (by rw [HGL.out]; exact hlt)
      rw [HGR.out k] at hd1 hl2 hgd
      have h48 := H48.out k hlt
      have HGC := Lib.hid hgc
      have HGD := Lib.hid hgd
      unfold maxLen at hc' hc2'
      clear hbd hbd2 hgc hgd
      have cF := (VF1.below hbw).cell
      have cG := (VG1.below hbw).cell
      have q1 := (hbw.cell (p := ⟨b, o + k, none⟩) hb).trans hc1
      have q2 := (hbw.cell (p := ⟨b2, o2 + k, none⟩) hb2).trans hd1
      go_wp2
      go_region_held3 (fun W' => W'.cell? ⟨w.heap.size, 0, none⟩ = some (.slice (some ⟨b, o, none⟩) f.length c) ∧ W'.cell? ⟨pG, 0, none⟩ = some (.slice (some ⟨b2, o2, none⟩) f.length c3) ∧ W'.cell? ⟨b, o + k, none⟩ = some (.slice A' (nthRow f k).length c') ∧ W'.cell? ⟨b2, o2 + k, none⟩ = some (.slice A2' (nthRow f k).length c2')) (first | exact ⟨cF, cG, q1, q2⟩ | go_keep) ((go_at_call 20; (first | (with_reducible refine (least_any _ f _ _ (VF1.below hbw).rows).mono ?_; rintro e w6 ⟨rfl, hb6⟩) | (with_reducible refine (least_any _ G _ _ (VG1.below hbw).rows).mono ?_; rintro e w6 ⟨rfl, hb6⟩; rw [HLV.out])); have hbw := hbw.trans (hb6.mono hbw.size); have cF := (VF1.below hbw).cell; have cG := (VG1.below hbw).cell; have q1 := (hbw.cell (p := ⟨b, o + k, none⟩) hb).trans hc1; have q2 := (hbw.cell (p := ⟨b2, o2 + k, none⟩) hb2).trans hd1; clear hb6))
      go_wp2
      clear cF cG q1 q2
      go_loopw [9, 64] (fun ch i wr => ∃ m n : Nat, m ≤ (nthRow f k).length ∧ n ≤ 1 ∧ ch = .int .i64 n ∧ i = .int .i64 m ∧ Hid (n = 1 → bank < k ∨ bank = k ∧ cell < m) ∧ Below W1.heap.size W1 wr) (fun _ i _ => (nthRow f k).length - (intOf i).toNat)
      case atStart => exact ⟨0, n, Nat.zero_le _, hn, rfl, rfl, fun h => .inl (HC.out h), hbw⟩
      case round =>
        clear hbw hn HC
        obtain ⟨m, n, hm, hn, rfl, rfl, HM, hbw⟩ := hrel
        by_cases hlm : m < (nthRow f k).length
        · obtain ⟨b', o', rfl, hb', hgg⟩ := HGC.out (by omega)
          obtain ⟨b2', o2', rfl, hb2', hgg2⟩ := HGD.out (by omega)
          have x1 := hgg m hlm
          have x2 := hgg2 m hlm
          clear hgg hgg2
          have cF := (VF1.below hbw).cell
          have cG := (VG1.below hbw).cell
          have q1 := (hbw.cell (p := ⟨b, o + k, none⟩) hb).trans hc1
          have q2 := (hbw.cell (p := ⟨b2, o2 + k, none⟩) hb2).trans hd1
          have q3 := (hbw.cell (p := ⟨b', o' + m, none⟩) hb').trans x1
          have q4 := (hbw.cell (p := ⟨b2', o2' + m, none⟩) hb2').trans x2
          by_cases heq : nth (nthRow G k) m = nth (nthRow f k) m
          · have eN : ((nth (nthRow G k) m : Int) != (nth (nthRow f k) m : Int)) = false := by simp; omega
            have eN' : ((nth (nthRow G k) m : Int) == (nth (nthRow f k) m : Int)) = true := by simp; omega
            have HN := Lib.hid (show n = 1 → bank < k ∨ bank = k ∧ cell < (m + 1 : Nat) from fun h => by have := HM.out h; omega)
            clear heq x1 x2
            go_wp2
            go_quiet (fail)
            go_wp2
            go_roundw
            case rel => exact ⟨m + 1, n, by omega, hn, rfl, by go_num, HN, below_drewN hbw _⟩
            case measure => simp [intOf]; omega
          · have eN : ((nth (nthRow G k) m : Int) != (nth (nthRow f k) m : Int)) = true := by simp; omega
            have eN' : ((nth (nthRow G k) m : Int) == (nth (nthRow f k) m : Int)) = false := by simp; omega
            have hD := HD.out k m heq
            obtain rfl : n = 0 := by
              rcases Nat.lt_or_ge n 1 with h | h
              · omega
              · have := HM.out (by omega); omega
            have HN := Lib.hid (show True → bank < k ∨ bank = k ∧ cell < (m + 1 : Nat) from fun h => by omega)
            clear heq x1 x2 hD
            go_wp2
            go_quiet (fail)
            go_wp2
            go_roundw
            case rel => exact ⟨m + 1, 1, by omega, by omega, by go_num, by go_num, fun _ => HN.out trivial, below_drewN hbw _⟩
            case measure => simp [intOf]; omega
        · have HN := Lib.hid (show n = 1 → bank < (k + 1 : Nat) from fun h => by have := HM.out h; omega)
          go_wp2
          go_roundw
          case rel => exact ⟨k + 1, n, by omega, hn, rfl, by go_num, HN, hbw⟩
          case measure => simp [intOf]; omega
    · have e1 : decide ((n : Int) ≤ 1) = true := by simp; omega
      go_wp2_with (go_at_call 10; with_reducible refine (sanity_any _).mono ?_; rintro e w6 ⟨rfl, hb6⟩)
      go_ret
      exact ⟨rfl, HB1.trans ((hbw.trans (hb6.mono hbw.size)).mono HB1.size)⟩

theorem lawCut {w : World} (v : Value) (f : List (List Nat)) (hf : RRows w w.heap.size v f) (bank cell : Int) :
    Calls Try.prog 7 #[.agg #[v], .int .i64 bank, .int .i64 cell] w fun e w' => e = .returned (.bool true) ∧ Below w.heap.size w w' := by
  cases hv : Fz.valid f
  · exact lawCut_no v f hf bank cell hv
  · exact lawCut_yes v f hf bank cell hv

namespace lawCutC
set_option maxRecDepth 100000 in
theorem lifted (os : Os) (started : os.Started) (H : Type) (enc : TypeId × Value → H) :
    ReturnsInHanded {} Try.checked os 7 .any (Rows.fuseCutSpec.pre6 enc Try.prog Try.f7 Rows.fuseCutRow.domain false) (Rows.fuseCutSpec.post enc Try.prog Try.f7 false true false false) := by
  refine returnsInHanded_of_change (C := Try.checked) own started (by kernel_rfl) Try.func7
    (ChangeSpec.witness6 (enc := enc) (C := Try.checked) false ⟨#[], #[.agg #[.slice none 0 0], .int .i64 0, .int .i64 0], []⟩ 8 (by kernel_rfl) (by kernel_rfl) (by kernel_rfl) (by kernel_rfl)) ?_
  intro W base args ds gs before hval0 hW hcnd _
  have hval : ∀ (j : Nat) t v, Try.f7.params[j]? = some t → args[j]? = some v → Value.okWide Try.prog W .any base t v := hval0
  have hW' := hW
  obtain ⟨p, q, hA0, hV, rfl, hfz, hnd⟩ := hW
  have hA : DataW.TrodAll enc Try.prog W 0 (fun _ => true) true Try.f7.params.toList args.toList ds p := hA0
  rw [Try.params7] at hA hval
  obtain ⟨v0, vs0, d0, ds0, p0, q0, hargs, rfl, rfl, h0, r0⟩ := trodAll_cons hA
  obtain ⟨v1, vs1, d1, ds1, p1, q1, rfl, rfl, rfl, h1, r1⟩ := trodAll_cons r0
  obtain ⟨v2, vs2, d2, ds2, p2, q2, rfl, rfl, rfl, h2, r2⟩ := trodAll_cons r1
  obtain ⟨rfl, rfl, rfl⟩ := trodAll_nil r2
  obtain rfl : args = #[v0, v1, v2] := by cases args; simp_all
  obtain ⟨rfl, rfl⟩ := trodVars_none hV
  have k0 := h0
  have lt0 : ∀ x ∈ p0, x.block < W.heap.size := by obtain ⟨m, hm⟩ := k0; exact DataW.trod_lt m _ _ _ hm
  obtain ⟨cs0, rfl, _⟩ := okWide_struct Try.underlying24 (hval 0 24 v0 rfl rfl)
  obtain ⟨u0, x0, e0, s0⟩ : ∃ v f, (Value.agg cs0).cells.toList = [v] ∧ RRows W W.heap.size v f := by obtain ⟨fuel, hf⟩ := h0; exact reads_fuses hf
  obtain rfl : cs0 = #[u0] := by cases cs0; simpa [Value.cells] using e0
  obtain ⟨a1, rfl, rfl, rfl, w1⟩ := open_int Try.underlying3 (hval 1 3 v1 rfl rfl) h1
  obtain ⟨a2, rfl, rfl, rfl, w2⟩ := open_int Try.underlying3 (hval 2 3 v2 rfl rfl) h2
  clear hA0 hval0
  refine (lawCut (w := W) u0 x0 s0 a1 a2 ).mono fun e W' ⟨he, bel⟩ => ?_
  subst he
  exact ⟨_, rfl, _, _, _, [], _, [], hW', trodAll_mk1 (shut_bool Try.underlying4 _), (trodAll_cons_mk (Below.trod laidOut (by kernel_rfl) (of_decide_eq_true (by kernel_rfl)) k0 bel lt0) (trodAll_cons_mk (shut_int Try.underlying3 w1) (trodAll_cons_mk (shut_int Try.underlying3 w2) trodAll_mk0))), rfl, bel.frame _, fun h => by cases h⟩

theorem over : Rows.fuseCutRow.holds Try.pinned (OpenSpec.ofChange Rows.fuseCutSpec) :=
  OpenClaim.holds_of_wide 7 Try.f7 rfl rfl rfl rfl rfl rfl rfl ⟨rfl, rfl, rfl, rfl, rfl⟩ rfl rfl rfl rfl rfl (by kernel_rfl) Try.func7 (by kernel_rfl)
    (of_decide_eq_true (by kernel_rfl)) (by unfold Func.isWrapper; first | (rw [if_pos (by decide +kernel)]; kernel_rfl) | (rw [if_neg (by decide +kernel)]; exact ⟨rfl, rfl⟩))
    (fun os started H enc _ => lifted os started H enc)
end lawCutC

theorem fuseCut_holds : Rows.FuseCutSaid := lawCutC.over

end Go.Proofs.Ytnahokblbpppeaa
