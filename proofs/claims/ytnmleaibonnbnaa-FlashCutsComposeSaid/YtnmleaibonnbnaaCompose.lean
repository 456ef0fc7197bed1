/- FlashCutsCompose: for all records the law returns true, and what it was handed reads as it did. No conditions. -/
import Derived.Test.YtnmleaibonnbnaaFlOpen
namespace Go.Proofs.Ytnmleaibonnbnaa
open Go.ChangeShapes Go.WideShapes Go.ChangeAt Go.RowKit Go.Deep

set_option maxRecDepth 100000 in
set_option maxHeartbeats 8000000 in
theorem lawCompose {w : World} (v0 : Value) (f0 : List ByteArray) (n1 : Int) (n2 : Int) (n3 : Int) (n4 : Int) (hP : RStrs w w.heap.size v0 f0 ∧ (Lit.int .u8 n1).wf = true ∧ (Lit.int .u8 n2).wf = true ∧ (Lit.int .u16 n3).wf = true ∧ (Lit.int .u16 n4).wf = true) :
    Calls Try.prog 8 #[.agg #[v0, .int .u8 n1, .int .u8 n2, .int .u16 n3, .int .u16 n4]] w fun e w' => e = .returned (.bool true) ∧ Below w.heap.size w w' := by
  obtain ⟨hf, hn1, hn2, hn3, hn4⟩ := hP
  have hw3 : 0 ≤ n3 ∧ n3 ≤ 65535 := by simpa [Lit.wf, IntKind.min, IntKind.max, IntKind.signed, IntKind.bits] using hn3
  obtain ⟨a1, rfl⟩ := Int.eq_ofNat_of_zero_le hw3.1
  have hw4 : 0 ≤ n4 ∧ n4 ≤ 65535 := by simpa [Lit.wf, IntKind.min, IntKind.max, IntKind.signed, IntKind.bits] using hn4
  obtain ⟨a2, rfl⟩ := Int.eq_ofNat_of_zero_le hw4.1
  have hm3 : a1 ≤ 65535 := by omega
  have hm4 : a2 ≤ 65535 := by omega
  have hr1 : IntKind.i64.wrap (a1 : Int) = a1 := wrap_small hm3
  have hr2 : IntKind.i64.wrap (a2 : Int) = a2 := wrap_small hm4
  obtain ⟨A, c, rfl, hnc, hcm⟩ := hf.form
  unfold maxLen at hcm
  have hw1 : 0 ≤ n1 ∧ n1 ≤ 255 := by simpa [Lit.wf, IntKind.min, IntKind.max, IntKind.signed, IntKind.bits] using hn1
  obtain ⟨m, rfl⟩ := Int.eq_ofNat_of_zero_le hw1.1
  have HB : Below w.heap.size w ((w.alloc (.cells #[.slice A f0.length c, .int .u8 (m : Int), .int .u8 n2, .int .u16 (a1 : Int), .int .u16 (a2 : Int)] 50)).alloc (.cells #[.slice A f0.length c] 24)) := ((Below.refl _ _).alloc (Nat.le_refl _) _).alloc (by simp) _
  have VF : SAt ((w.alloc (.cells #[.slice A f0.length c, .int .u8 (m : Int), .int .u8 n2, .int .u16 (a1 : Int), .int .u16 (a2 : Int)] 50)).alloc (.cells #[.slice A f0.length c] 24)) (w.heap.size + 1) (.slice A f0.length c) f0 := ⟨heap_second' _ _ _, (hf.below HB).more HB.size⟩
  cases hv : Fl.valid f0
  · have HV := Lib.hid hv
    clear hv
    go_enter Try.func8, Try.ntmps8
    go_wp2_with fail
    refine (sanity_any _).mono ?_
    rintro e w1 ⟨rfl, hb1⟩
    have VF := VF.below hb1
    have HB := HB.trans (hb1.mono HB.size)
    have cF := VF.cell
    clear hb1
    go_wp2_with fail
    refine (rvalid_any _ _ _ VF.strs).mono ?_
    rintro e w2 ⟨rfl, hb2⟩
    rw [HV.out]
    have HB := HB.trans (hb2.mono HB.size)
    go_wp2
    go_ret
    exact ⟨rfl, HB⟩
  · by_cases h0 : f0.length = 0
    · have HV := Lib.hid hv
      have e0 : ((f0.length : Int) == 0) = true := by simp [h0]
      have e1 : (f0.length == 0) = true := by simp [h0]
      have e2 : f0 = [] := List.eq_nil_of_length_eq_zero h0
      have E2 := Lib.hid e2
      clear hv h0 e2
      go_enter Try.func8, Try.ntmps8
      go_wp2_with fail
      refine (sanity_any _).mono ?_
      rintro e w1 ⟨rfl, hb1⟩
      have VF := VF.below hb1
      have HB := HB.trans (hb1.mono HB.size)
      have cF := VF.cell
      clear hb1
      go_wp2_with fail
      refine (rvalid_any _ _ _ VF.strs).mono ?_
      rintro e w2 ⟨rfl, hb2⟩
      rw [HV.out]
      have VF := VF.below hb2
      have HB := HB.trans (hb2.mono HB.size)
      have cF := VF.cell
      clear hb2
      go_wp2
      go_ret
      exact ⟨rfl, HB⟩
    · have HV := Lib.hid hv
      have hpos : 0 < f0.length := by omega
      have e0 : ((f0.length : Int) == 0) = false := by rw [beq_eq_false_iff_ne]; omega
      have e1 : (f0.length == 0) = false := by rw [beq_eq_false_iff_ne]; omega
      have e3 : f0.length ≤ 128 := Fl.valid_len hv
      have e4 : f0 ≠ [] := by intro e; simp [e] at hpos
      clear hv
      go_enter Try.func8, Try.ntmps8
      go_wp2_with fail
      refine (sanity_any _).mono ?_
      rintro e w1 ⟨rfl, hb1⟩
      have VF := VF.below hb1
      have HB := HB.trans (hb1.mono HB.size)
      have cF := VF.cell
      clear hb1
      go_wp2_with fail
      refine (rvalid_any _ _ _ VF.strs).mono ?_
      rintro e w2 ⟨rfl, hb2⟩
      rw [HV.out]
      have VF := VF.below hb2
      have HB := HB.trans (hb2.mono HB.size)
      have cF := VF.cell
      clear hb2
      go_wp2_with fail
      have hk : ((m : Int) % (f0.length : Int)) = ((m % f0.length : Nat) : Int) := by simp
      have hkl : m % f0.length < f0.length := Nat.mod_lt _ hpos
      generalize m % f0.length = k at hk hkl
      rw [hk]
      have HK := Lib.hid hkl
      clear hk
      have hbs := Lib.hid (Fl.full_size n2)
      have HS1 := Lib.hid (show Fl.same (Fl.write (Fl.write (f0) k (Fl.full n2) ((a1 : Int))) k (Fl.full n2) ((a2 : Int))) (Fl.write (f0) k (Fl.full n2) (max (a1 : Int) (a2 : Int))) = true by rw [Fl.write_write a1 a2 (max (a1 : Int) (a2 : Int)) HV.out hkl (Fl.full_size n2) (Fl.eff_max a1 a2)]; exact Fl.same_refl _)
      clear hkl
      have hlen0 : (f0).length ≤ 1000 := by (try simp only [Fl.write_length]); omega
      have hkk0 := Lib.hid (show k < (f0).length by (try simp only [Fl.write_length]); exact HK.out)
      have VFs0 := VF.strs
      have hp0 := lt_of_block VF.blk
      have hU0 : Under (w2) (w2.heap.size) (w2) := ⟨by simpa using Below.refl _ _, by simp⟩
      go_cut [10, 11] (fun a b wc => Wrote (w2) (w2.heap.size) (Fl.write (f0) k (Fl.full n2) ((a1 : Int))) a wc ∧ b = .int .i64 (0))
      case first =>
        go_region_held3 (fun W' => W'.cell? ⟨(w.heap.size + 1), 0, none⟩ = some (.slice A f0.length c) ∧ Under (w2) (w2.heap.size) W') (first | assumption | exact ⟨Under.cell hU0.drew cF hp0, hU0.drew⟩ | exact ⟨Under.cell hU cF hp0, hU⟩ | (go_split_ands; exact ⟨Under.cell (Under.alloc (by assumption) _) cF hp0, (Under.alloc (by assumption) _)⟩) | (go_split_ands; exact ⟨Under.cell (Under.setCell (by assumption) (Nat.le_refl _) _) cF hp0, (Under.setCell (by assumption) (Nat.le_refl _) _)⟩) | (go_split_ands; exact ⟨Under.cell (Under.setCell (by assumption) hB6 _) cF hp0, (Under.setCell (by assumption) hB6 _)⟩)) (first
          | (go_at_call 21; (with_reducible refine (full_any (n2) _).mono ?_); rintro e w6 ⟨rfl, hb6⟩; go_split_ands; obtain ⟨hk1, hk2⟩ := bcell hb6; (try simp only [World.size_alloc, World.size_drew] at hk1 hk2); have hz6 := hb6.size; (try simp at hz6); (first | have hy6 := Nat.lt_of_succ_le hz6 | skip); have hU := Under.below (by assumption) hb6; have hB6 := hU.le)
          | (go_at_call 15; go_split_ands; (with_reducible refine (write_any _ (f0) k (Fl.full (n2)) ((a1 : Int)) _ (Under.strs (Ws := w2) (B := w2.heap.size) (by assumption) VFs0) hlen0 (by rw [Fl.full_size]; decide)).mono ?_); rintro e w7 HW; unfold WriteApart at HW; obtain ⟨v', rfl, hs7, hb7, ha7⟩ := HW; rw [Fl.writeE_yes (f := f0) (hkk0.out) hbs.out]; obtain ⟨A2, c2, rfl, _, _⟩ := hs7.form; obtain ⟨hk3, hk4⟩ := bcell hb7; (try simp only [World.size_alloc, World.size_drew] at hk3 hk4); have hz7 := hb7.size; have hU2 := Under.here (by assumption) hb7; have hU := Under.below (by assumption) hb7))
        all_goals
          go_wp2_with fail
          go_meet
          first
            | exact ⟨wrote_new hU hs7, rfl⟩
            | exact ⟨wrote_old hU hU2 VFs0 hs7 ha7 hb7 hB6 (heap_alloc_new _ _), rfl⟩
            | exact ⟨wrote_old hU hU2 VFs0 hs7 ha7 hb7 (Nat.le_refl _) ((hb6.block _ (by simp)).trans (heap_second' _ _ _)), rfl⟩
            | exact ⟨wrote_old hU hU2 VFs0 hs7 ha7 hb7 (Nat.le_refl _) ((hb6.block _ (by simp)).trans (heap_alloc_new _ _)), rfl⟩
      case rest =>
        obtain ⟨⟨pG, vG, rfl, VG, hpG, hbc⟩, rfl⟩ := hcut
        rename World => w3
        have VF := VF.below hbc
        have HB := HB.trans (hbc.mono HB.size)
        have cF := VF.cell
        have cG := VG.cell
        clear hbc VFs0 hp0 hpG hkk0 hlen0
        go_wp2_with fail
        have hlen1 : (Fl.write (f0) k (Fl.full n2) ((a1 : Int))).length ≤ 1000 := by (try simp only [Fl.write_length]); omega
        have hkk1 := Lib.hid (show k < (Fl.write (f0) k (Fl.full n2) ((a1 : Int))).length by (try simp only [Fl.write_length]); exact HK.out)
        have VFs1 := VG.strs
        have hp1 := lt_of_block VG.blk
        have hU0 : Under (w3) (w3.heap.size) (w3) := ⟨by simpa using Below.refl _ _, by simp⟩
        go_cut [12, 13] (fun a b wc => Wrote (w3) (w3.heap.size) (Fl.write (Fl.write (f0) k (Fl.full n2) ((a1 : Int))) k (Fl.full n2) ((a2 : Int))) a wc ∧ b = .int .i64 (0))
        case first =>
          go_region_held3 (fun W' => W'.cell? ⟨pG, 0, none⟩ = some (vG) ∧ Under (w3) (w3.heap.size) W') (first | assumption | exact ⟨Under.cell hU0.drew cG hp1, hU0.drew⟩ | exact ⟨Under.cell hU cG hp1, hU⟩ | (go_split_ands; exact ⟨Under.cell (Under.alloc (by assumption) _) cG hp1, (Under.alloc (by assumption) _)⟩) | (go_split_ands; exact ⟨Under.cell (Under.setCell (by assumption) (Nat.le_refl _) _) cG hp1, (Under.setCell (by assumption) (Nat.le_refl _) _)⟩) | (go_split_ands; exact ⟨Under.cell (Under.setCell (by assumption) hB6 _) cG hp1, (Under.setCell (by assumption) hB6 _)⟩)) (first
            | (go_at_call 21; (with_reducible refine (full_any (n2) _).mono ?_); rintro e w6 ⟨rfl, hb6⟩; go_split_ands; obtain ⟨hk1, hk2⟩ := bcell hb6; (try simp only [World.size_alloc, World.size_drew] at hk1 hk2); have hz6 := hb6.size; (try simp at hz6); (first | have hy6 := Nat.lt_of_succ_le hz6 | skip); have hU := Under.below (by assumption) hb6; have hB6 := hU.le)
            | (go_at_call 15; go_split_ands; (with_reducible refine (write_any _ (Fl.write (f0) k (Fl.full n2) ((a1 : Int))) k (Fl.full (n2)) ((a2 : Int)) _ (Under.strs (Ws := w3) (B := w3.heap.size) (by assumption) VFs1) hlen1 (by rw [Fl.full_size]; decide)).mono ?_); rintro e w7 HW; unfold WriteApart at HW; obtain ⟨v', rfl, hs7, hb7, ha7⟩ := HW; rw [Fl.writeE_yes (f := Fl.write (f0) k (Fl.full n2) ((a1 : Int))) (hkk1.out) hbs.out]; obtain ⟨A2, c2, rfl, _, _⟩ := hs7.form; obtain ⟨hk3, hk4⟩ := bcell hb7; (try simp only [World.size_alloc, World.size_drew] at hk3 hk4); have hz7 := hb7.size; have hU2 := Under.here (by assumption) hb7; have hU := Under.below (by assumption) hb7))
          all_goals
            go_wp2_with fail
            go_meet
            first
              | exact ⟨wrote_new hU hs7, rfl⟩
              | exact ⟨wrote_old hU hU2 VFs1 hs7 ha7 hb7 hB6 (heap_alloc_new _ _), rfl⟩
              | exact ⟨wrote_old hU hU2 VFs1 hs7 ha7 hb7 (Nat.le_refl _) ((hb6.block _ (by simp)).trans (heap_second' _ _ _)), rfl⟩
              | exact ⟨wrote_old hU hU2 VFs1 hs7 ha7 hb7 (Nat.le_refl _) ((hb6.block _ (by simp)).trans (heap_alloc_new _ _)), rfl⟩
        case rest =>
          obtain ⟨⟨pH, vH, rfl, VH, hpH, hbc⟩, rfl⟩ := hcut
          rename World => w4
          have VF := VF.below hbc
          have VG := VG.below hbc
          have HB := HB.trans (hbc.mono HB.size)
          have cF := VF.cell
          have cG := VG.cell
          have cH := VH.cell
          clear hbc VFs1 hp1 hpH hkk1 hlen1
          go_wp2_with fail
          have hlen2 : (f0).length ≤ 1000 := by (try simp only [Fl.write_length]); omega
          have hkk2 := Lib.hid (show k < (f0).length by (try simp only [Fl.write_length]); exact HK.out)
          have VFs2 := VF.strs
          have hp2 := lt_of_block VF.blk
          have hU0 : Under (w4) (w4.heap.size) (w4) := ⟨by simpa using Below.refl _ _, by simp⟩
          go_cut [14, 15] (fun a b wc => Wrote (w4) (w4.heap.size) (Fl.write (f0) k (Fl.full n2) (max (a1 : Int) (a2 : Int))) a wc ∧ b = .int .i64 (0))
          case first =>
            go_region_held3 (fun W' => W'.cell? ⟨(w.heap.size + 1), 0, none⟩ = some (.slice A f0.length c) ∧ Under (w4) (w4.heap.size) W') (first | assumption | exact ⟨Under.cell hU0.drew cF hp2, hU0.drew⟩ | exact ⟨Under.cell hU cF hp2, hU⟩ | (go_split_ands; exact ⟨Under.cell (Under.alloc (by assumption) _) cF hp2, (Under.alloc (by assumption) _)⟩) | (go_split_ands; exact ⟨Under.cell (Under.setCell (by assumption) (Nat.le_refl _) _) cF hp2, (Under.setCell (by assumption) (Nat.le_refl _) _)⟩) | (go_split_ands; exact ⟨Under.cell (Under.setCell (by assumption) hB6 _) cF hp2, (Under.setCell (by assumption) hB6 _)⟩)) (first
              | (go_at_call 21; (with_reducible refine (full_any (n2) _).mono ?_); rintro e w6 ⟨rfl, hb6⟩; go_split_ands; obtain ⟨hk1, hk2⟩ := bcell hb6; (try simp only [World.size_alloc, World.size_drew] at hk1 hk2); have hz6 := hb6.size; (try simp at hz6); (first | have hy6 := Nat.lt_of_succ_le hz6 | skip); have hU := Under.below (by assumption) hb6; have hB6 := hU.le)
              | (go_at_call 15; go_split_ands; (with_reducible refine (write_any _ (f0) k (Fl.full (n2)) (max (a1 : Int) (a2 : Int)) _ (Under.strs (Ws := w4) (B := w4.heap.size) (by assumption) VFs2) hlen2 (by rw [Fl.full_size]; decide)).mono ?_); rintro e w7 HW; unfold WriteApart at HW; obtain ⟨v', rfl, hs7, hb7, ha7⟩ := HW; rw [Fl.writeE_yes (f := f0) (hkk2.out) hbs.out]; obtain ⟨A2, c2, rfl, _, _⟩ := hs7.form; obtain ⟨hk3, hk4⟩ := bcell hb7; (try simp only [World.size_alloc, World.size_drew] at hk3 hk4); have hz7 := hb7.size; have hU2 := Under.here (by assumption) hb7; have hU := Under.below (by assumption) hb7))
            all_goals
              go_wp2_with fail
              go_meet
              first
                | exact ⟨wrote_new hU hs7, rfl⟩
                | exact ⟨wrote_old hU hU2 VFs2 hs7 ha7 hb7 hB6 (heap_alloc_new _ _), rfl⟩
                | exact ⟨wrote_old hU hU2 VFs2 hs7 ha7 hb7 (Nat.le_refl _) ((hb6.block _ (by simp)).trans (heap_second' _ _ _)), rfl⟩
                | exact ⟨wrote_old hU hU2 VFs2 hs7 ha7 hb7 (Nat.le_refl _) ((hb6.block _ (by simp)).trans (heap_alloc_new _ _)), rfl⟩
          case rest =>
            obtain ⟨⟨pI, vI, rfl, VI, hpI, hbc⟩, rfl⟩ := hcut
            rename World => w5
            have VF := VF.below hbc
            have VG := VG.below hbc
            have VH := VH.below hbc
            have HB := HB.trans (hbc.mono HB.size)
            have cF := VF.cell
            have cG := VG.cell
            have cH := VH.cell
            have cI := VI.cell
            clear hbc VFs2 hp2 hpI hkk2 hlen2
            go_wp2_with fail
            refine (rsame_any _ _ _ _ _ VH.strs VI.strs).mono ?_
            rintro e w8 ⟨rfl, hb8⟩
            rw [HS1.out]
            have HB := HB.trans (hb8.mono HB.size)
            go_wp2
            go_ret
            exact ⟨rfl, HB⟩


namespace lawComposeC
set_option maxRecDepth 100000 in
theorem lifted (os : Os) (started : os.Started) (H : Type) (enc : TypeId × Value → H) :
    ReturnsInHanded {} Try.checked os 8 .any (Rows.flashCutsComposeSpec.pre6 enc Try.prog Try.f8 Rows.flashCutsComposeRow.domain false) (Rows.flashCutsComposeSpec.post enc Try.prog Try.f8 false true false false) := by
  refine returnsInHanded_of_change (C := Try.checked) own started (by kernel_rfl) Try.func8
    (ChangeSpec.witness6 (enc := enc) (C := Try.checked) false ⟨#[], #[.agg #[.slice none 0 0, .int .u8 0, .int .u8 0, .int .u16 0, .int .u16 0]], []⟩ 8 (by kernel_rfl) (by kernel_rfl) (by kernel_rfl) (by kernel_rfl)) ?_
  intro W base args ds gs before hval0 hW hcnd _
  have hval : ∀ (j : Nat) t v, Try.f8.params[j]? = some t → args[j]? = some v → Value.okWide Try.prog W .any base t v := hval0
  have hW' := hW
  obtain ⟨p, q, hA0, hV, rfl, hfz, hnd⟩ := hW
  have hA : DataW.TrodAll enc Try.prog W 0 (fun _ => true) true Try.f8.params.toList args.toList ds p := hA0
  rw [Try.params8] at hA hval
  obtain ⟨v0, vs0, d0, ds0, p0, q0, hargs, rfl, rfl, h0, r0⟩ := trodAll_cons hA
  obtain ⟨rfl, rfl, rfl⟩ := trodAll_nil r0
  obtain rfl : args = #[v0] := by cases args; simp_all
  obtain ⟨rfl, rfl⟩ := trodVars_none hV
  have k0 := h0
  have lt0 : ∀ x ∈ p0, x.block < W.heap.size := by obtain ⟨m, hm⟩ := k0; exact DataW.trod_lt m _ _ _ hm
  obtain ⟨cs0, rfl, _⟩ := okWide_struct Try.underlying50 (hval 0 50 v0 rfl rfl)
  obtain ⟨z0v0, z0f0, z0n1, z0n2, z0n3, z0n4, e0, s0⟩ : ∃ (z0v0 : Value) (z0f0 : List ByteArray) (z0n1 : Int) (z0n2 : Int) (z0n3 : Int) (z0n4 : Int), (Value.agg cs0).cells.toList = [z0v0, .int .u8 z0n1, .int .u8 z0n2, .int .u16 z0n3, .int .u16 z0n4] ∧ RStrs W W.heap.size z0v0 z0f0 ∧ (Lit.int .u8 z0n1).wf = true ∧ (Lit.int .u8 z0n2).wf = true ∧ (Lit.int .u16 z0n3).wf = true ∧ (Lit.int .u16 z0n4).wf = true := by obtain ⟨fuel, hf⟩ := h0; exact reads_FlashCutsComposeIn hf
  obtain rfl : cs0 = #[z0v0, .int .u8 z0n1, .int .u8 z0n2, .int .u16 z0n3, .int .u16 z0n4] := by cases cs0; simpa [Value.cells] using e0
  clear hA0 hval0
  refine (lawCompose (w := W) z0v0 z0f0 z0n1 z0n2 z0n3 z0n4 s0 ).mono fun e W' ⟨he, bel⟩ => ?_
  subst he
  exact ⟨_, rfl, _, _, _, [], _, [], hW', trodAll_mk1 (shut_bool Try.underlying4 _), (trodAll_cons_mk (Below.trod laidOut (by kernel_rfl) (of_decide_eq_true (by kernel_rfl)) k0 bel lt0) trodAll_mk0), rfl, bel.frame _, fun h => by cases h⟩

theorem over : Rows.flashCutsComposeRow.holds Try.pinned (OpenSpec.ofChange Rows.flashCutsComposeSpec) :=
  OpenClaim.holds_of_wide 8 Try.f8 rfl rfl rfl rfl rfl rfl rfl ⟨rfl, rfl, rfl, rfl, rfl⟩ rfl rfl rfl rfl rfl (by kernel_rfl) Try.func8 (by kernel_rfl)
    (of_decide_eq_true (by kernel_rfl)) (by unfold Func.isWrapper; first | (rw [if_pos (by decide +kernel)]; kernel_rfl) | (rw [if_neg (by decide +kernel)]; exact ⟨rfl, rfl⟩))
    (fun os started H enc _ => lifted os started H enc)
end lawComposeC

theorem flashCutsCompose_holds : Rows.FlashCutsComposeSaid := lawComposeC.over

end Go.Proofs.Ytnmleaibonnbnaa
