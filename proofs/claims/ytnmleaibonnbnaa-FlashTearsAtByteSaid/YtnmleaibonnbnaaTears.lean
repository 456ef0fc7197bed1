/- FlashTearsAtByte: for all records the law returns true, and what it was handed reads as it did. No conditions. -/
import Derived.Test.YtnmleaibonnbnaaFlOpen
namespace Go.Proofs.Ytnmleaibonnbnaa
open Go.ChangeShapes Go.WideShapes Go.ChangeAt Go.RowKit Go.Deep

namespace Fl
theorem readV_write {f : List ByteArray} {k : Nat} {b : ByteArray} (cut : Int) (hk : k < f.length) (hb : b.size = 256) : readV (write f k b cut) k = merge (nthS f k) b cut := by
  have hx : has (write f k b cut) k = true := by simp [has, write_length, hk]
  simp only [readV, hx, if_true, Int.toNat_natCast]
  rw [write_yes_eq cut hk hb, nthS_set_eq _ hk]
theorem readE_write {f : List ByteArray} {k : Nat} {b : ByteArray} (cut : Int) (hk : k < f.length) (_hb : b.size = 256) : readE (write f k b cut) k = 0 := by
  have hx : has (write f k b cut) k = true := by simp [has, write_length, hk]
  simp [readE, hx]
/-- byte i, as the walk reads it -/
def byteAt (s : ByteArray) (i : Nat) : UInt8 := s.data.toList.getD i 0
theorem get_byteAt (s : ByteArray) (i : Nat) (h : i < s.size) : s[i]'h = byteAt s i := by
  have h' : i < s.data.toList.length := by simpa using h
  unfold byteAt
  rw [List.getD_eq_getElem?_getD, List.getElem?_eq_getElem h']
  rfl
theorem full_byte (c : Int) {i : Nat} (hi : i < 256) : byteAt (full c) i = UInt8.ofNat c.toNat := by
  unfold byteAt full
  rw [strOfNums_data, List.map_replicate, List.getD_eq_getElem?_getD, List.getElem?_replicate, if_pos hi]
  rfl
theorem byte_nat {c : Int} (h : 0 ≤ c ∧ c ≤ 255) : (((UInt8.ofNat c.toNat).toNat : Nat) : Int) = c := by
  rw [UInt8.toNat_ofNat']
  omega
theorem merge_byte {old b : ByteArray} (cut : Int) (hb : b.size = 256) (ho : old.size = 256) {i : Nat} (hi : i < 256) : byteAt (merge old b cut) i = if cut < 0 ∨ (i : Int) < cut then byteAt b i else byteAt old i := by
  unfold byteAt
  rw [List.getD_eq_getElem?_getD, merge_get cut hb ho]
  by_cases h : cut < 0 ∨ (i : Int) < cut
  · rw [if_pos h, if_pos ((eff_lt hi).2 h), List.getD_eq_getElem?_getD]
  · rw [if_neg h, if_neg (fun g => h ((eff_lt hi).1 g)), List.getD_eq_getElem?_getD]
end Fl

set_option maxRecDepth 100000 in
set_option maxHeartbeats 8000000 in
theorem lawTears {w : World} (v0 : Value) (f0 : List ByteArray) (n1 : Int) (n2 : Int) (n3 : Int) (hP : RStrs w w.heap.size v0 f0 ∧ (Lit.int .u8 n1).wf = true ∧ (Lit.int .u8 n2).wf = true ∧ (Lit.int .i64 n3).wf = true) :
    Calls Try.prog 5 #[.agg #[v0, .int .u8 n1, .int .u8 n2, .int .i64 n3]] w fun e w' => e = .returned (.bool true) ∧ Below w.heap.size w w' := by
  obtain ⟨hf, hn1, hn2, hn3⟩ := hP
  obtain ⟨A, c, rfl, hnc, hcm⟩ := hf.form
  unfold maxLen at hcm
  have hw1 : 0 ≤ n1 ∧ n1 ≤ 255 := by simpa [Lit.wf, IntKind.min, IntKind.max, IntKind.signed, IntKind.bits] using hn1
  obtain ⟨m, rfl⟩ := Int.eq_ofNat_of_zero_le hw1.1
  have HB : Below w.heap.size w ((w.alloc (.cells #[.slice A f0.length c, .int .u8 (m : Int), .int .u8 n2, .int .i64 n3] 42)).alloc (.cells #[.slice A f0.length c] 24)) := ((Below.refl _ _).alloc (Nat.le_refl _) _).alloc (by simp) _
  have VF : SAt ((w.alloc (.cells #[.slice A f0.length c, .int .u8 (m : Int), .int .u8 n2, .int .i64 n3] 42)).alloc (.cells #[.slice A f0.length c] 24)) (w.heap.size + 1) (.slice A f0.length c) f0 := ⟨heap_second' _ _ _, (hf.below HB).more HB.size⟩
  cases hv : Fl.valid f0
  · have HV := Lib.hid hv
    clear hv
    go_enter Try.func5, Try.ntmps5
    go_wp2_with fail
    refine (sanity_any _).mono ?_
    rintro e w1 ⟨rfl, hb1⟩
    have VF := VF.below hb1
    have HB := HB.trans (hb1.mono HB.size)
    have cF := VF.cell
    clear hb1
    go_wp2_with fail
    refine (rvalid_any _ _ _ VF.strs).mono ?_
    rintro e w2 ⟨rfl, hb2⟩
    rw [HV.out]
    have HB := HB.trans (hb2.mono HB.size)
    go_wp2
    go_ret
    exact ⟨rfl, HB⟩
  · by_cases h0 : f0.length = 0
    · have HV := Lib.hid hv
      have e0 : ((f0.length : Int) == 0) = true := by simp [h0]
      have e1 : (f0.length == 0) = true := by simp [h0]
      have e2 : f0 = [] := List.eq_nil_of_length_eq_zero h0
      have E2 := Lib.hid e2
      clear hv h0 e2
      go_enter Try.func5, Try.ntmps5
      go_wp2_with fail
      refine (sanity_any _).mono ?_
      rintro e w1 ⟨rfl, hb1⟩
      have VF := VF.below hb1
      have HB := HB.trans (hb1.mono HB.size)
      have cF := VF.cell
      clear hb1
      go_wp2_with fail
      refine (rvalid_any _ _ _ VF.strs).mono ?_
      rintro e w2 ⟨rfl, hb2⟩
      rw [HV.out]
      have VF := VF.below hb2
      have HB := HB.trans (hb2.mono HB.size)
      have cF := VF.cell
      clear hb2
      go_wp2
      go_ret
      exact ⟨rfl, HB⟩
    · have HV := Lib.hid hv
      have hpos : 0 < f0.length := by omega
      have e0 : ((f0.length : Int) == 0) = false := by rw [beq_eq_false_iff_ne]; omega
      have e1 : (f0.length == 0) = false := by rw [beq_eq_false_iff_ne]; omega
      have e3 : f0.length ≤ 128 := Fl.valid_len hv
      have e4 : f0 ≠ [] := by intro e; simp [e] at hpos
      clear hv
      go_enter Try.func5, Try.ntmps5
      go_wp2_with fail
      refine (sanity_any _).mono ?_
      rintro e w1 ⟨rfl, hb1⟩
      have VF := VF.below hb1
      have HB := HB.trans (hb1.mono HB.size)
      have cF := VF.cell
      clear hb1
      go_wp2_with fail
      refine (rvalid_any _ _ _ VF.strs).mono ?_
      rintro e w2 ⟨rfl, hb2⟩
      rw [HV.out]
      have VF := VF.below hb2
      have HB := HB.trans (hb2.mono HB.size)
      have cF := VF.cell
      clear hb2
      go_wp2_with fail
      have hk : ((m : Int) % (f0.length : Int)) = ((m % f0.length : Nat) : Int) := by simp
      have hkl : m % f0.length < f0.length := Nat.mod_lt _ hpos
      generalize m % f0.length = k at hk hkl
      rw [hk]
      have HK := Lib.hid hkl
      clear hk
      have hbs := Lib.hid (Fl.full_size n2)
      obtain ⟨M, hM⟩ : ∃ M, M = Fl.merge (nthS f0 k) (Fl.full n2) n3 := ⟨_, rfl⟩
      have HRV := Lib.hid (show Fl.readV (Fl.write (f0) k (Fl.full n2) (n3)) k = M by rw [hM, Fl.readV_write n3 hkl (Fl.full_size n2)])
      have HRE := Lib.hid (show Fl.readE (Fl.write (f0) k (Fl.full n2) (n3)) k = 0 from Fl.readE_write n3 hkl (Fl.full_size n2))
      have hMs : M.size = 256 := by rw [hM]; exact Fl.merge_size' n3 (Fl.full_size n2) (Fl.valid_size HV.out hkl)
      have HOs := Lib.hid (Fl.valid_size HV.out hkl)
      have HMg := Lib.hid (fun i (hi : i < 256) => Fl.merge_byte n3 (Fl.full_size n2) (Fl.valid_size HV.out hkl) hi)
      rw [← hM] at HMg
      have HFB := Lib.hid (fun i (hi : i < 256) => Fl.full_byte n2 hi)
      have hw2 : 0 ≤ n2 ∧ n2 ≤ 255 := by simpa [Lit.wf, IntKind.min, IntKind.max, IntKind.signed, IntKind.bits] using hn2
      have HM := Lib.hid hM
      clear hM hkl
      have hlen0 : (f0).length ≤ 1000 := by (try simp only [Fl.write_length]); omega
      have hkk0 := Lib.hid (show k < (f0).length by (try simp only [Fl.write_length]); exact HK.out)
      have VFs0 := VF.strs
      have hp0 := lt_of_block VF.blk
      have hU0 : Under (w2) (w2.heap.size) (w2) := ⟨by simpa using Below.refl _ _, by simp⟩
      go_cut [9, 10] (fun a b wc => Wrote (w2) (w2.heap.size) (Fl.write (f0) k (Fl.full n2) (n3)) a wc ∧ b = .int .i64 (0))
      case first =>
        go_region_held3 (fun W' => W'.cell? ⟨(w.heap.size + 1), 0, none⟩ = some (.slice A f0.length c) ∧ Under (w2) (w2.heap.size) W') (first | assumption | exact ⟨Under.cell hU0.drew cF hp0, hU0.drew⟩ | exact ⟨Under.cell hU cF hp0, hU⟩ | (go_split_ands; exact ⟨Under.cell (Under.alloc (by assumption) _) cF hp0, (Under.alloc (by assumption) _)⟩) | (go_split_ands; exact ⟨Under.cell (Under.setCell (by assumption) (Nat.le_refl _) _) cF hp0, (Under.setCell (by assumption) (Nat.le_refl _) _)⟩) | (go_split_ands; exact ⟨Under.cell (Under.setCell (by assumption) hB6 _) cF hp0, (Under.setCell (by assumption) hB6 _)⟩)) (first
          | (go_at_call 21; (with_reducible refine (full_any (n2) _).mono ?_); rintro e w6 ⟨rfl, hb6⟩; go_split_ands; obtain ⟨hk1, hk2⟩ := bcell hb6; (try simp only [World.size_alloc, World.size_drew] at hk1 hk2); have hz6 := hb6.size; (try simp at hz6); (first | have hy6 := Nat.lt_of_succ_le hz6 | skip); have hU := Under.below (by assumption) hb6; have hB6 := hU.le)
          | (go_at_call 15; go_split_ands; (with_reducible refine (write_any _ (f0) k (Fl.full (n2)) (n3) _ (Under.strs (Ws := w2) (B := w2.heap.size) (by assumption) VFs0) hlen0 (by rw [Fl.full_size]; decide)).mono ?_); rintro e w7 HW; unfold WriteApart at HW; obtain ⟨v', rfl, hs7, hb7, ha7⟩ := HW; rw [Fl.writeE_yes (f := f0) (hkk0.out) hbs.out]; obtain ⟨A2, c2, rfl, _, _⟩ := hs7.form; obtain ⟨hk3, hk4⟩ := bcell hb7; (try simp only [World.size_alloc, World.size_drew] at hk3 hk4); have hz7 := hb7.size; have hU2 := Under.here (by assumption) hb7; have hU := Under.below (by assumption) hb7))
        all_goals
          go_wp2_with fail
          go_meet
          first
            | exact ⟨wrote_new hU hs7, rfl⟩
            | exact ⟨wrote_old hU hU2 VFs0 hs7 ha7 hb7 hB6 (heap_alloc_new _ _), rfl⟩
            | exact ⟨wrote_old hU hU2 VFs0 hs7 ha7 hb7 (Nat.le_refl _) ((hb6.block _ (by simp)).trans (heap_second' _ _ _)), rfl⟩
            | exact ⟨wrote_old hU hU2 VFs0 hs7 ha7 hb7 (Nat.le_refl _) ((hb6.block _ (by simp)).trans (heap_alloc_new _ _)), rfl⟩
      case rest =>
        obtain ⟨⟨pG, vG, rfl, VG, hpG, hbc⟩, rfl⟩ := hcut
        rename World => w3
        have VF := VF.below hbc
        have HB := HB.trans (hbc.mono HB.size)
        have cF := VF.cell
        have cG := VG.cell
        clear hbc VFs0 hp0 hpG hkk0 hlen0
        go_wp2_with fail
        refine (read_any _ _ _ _ VG.strs).mono ?_
        rintro e w8 ⟨rfl, hb8⟩
        rw [HRV.out, HRE.out]
        have VF := VF.below hb8
        have HB := HB.trans (hb8.mono HB.size)
        have cF := VF.cell
        clear hb8 VG cG
        go_wp2_with fail
        have hpF := lt_of_block VF.blk
        obtain ⟨ba, oa, hA, hba, hcl, hsl⟩ := VF.strs.at_ HK.out
        have J0 := Lib.hid (And.intro VF HB)
        clear VF HB cF
        subst hA
        go_loopw [13] (fun i wr => ∃ j : Nat, j ≤ 256 ∧ i = .int .i64 j ∧ Below w8.heap.size w8 wr) (fun i _ => 256 - (intOf i).toNat)
        case atStart => exact ⟨0, Nat.zero_le _, rfl, Below.refl _ _⟩
        case round =>
          obtain ⟨j, hj, rfl, hbw⟩ := hrel
          obtain ⟨VF1, HB1⟩ := J0.out
          by_cases hlt : j < 256
          · have HMj := HMg.out j hlt
            have cF := (VF1.below hbw).cell
            have cO := (hbw.cell (p := ⟨ba, oa + k, none⟩) hba).trans hcl
            have hOs := HOs.out
            have hbs1 := hbs.out
            by_cases hc0 : n3 < 0
            · have d0 : decide (n3 < 0) = true := by simp [hc0]
              rw [if_pos (.inl hc0), HFB.out j hlt] at HMj
              have hM1 : ∀ h : j < M.size, (((M[j]'h).toNat : Nat) : Int) = n2 := fun h => by rw [Fl.get_byteAt, HMj]; exact Fl.byte_nat hw2
              clear HMj
              go_wp2
              go_roundw
              case rel => exact ⟨j + 1, by omega, by go_num, hbw⟩
              case measure => simp [intOf]; omega
            · have d0 : decide (n3 < 0) = false := by simp [hc0]
              by_cases hc1 : (j : Int) < n3
              · have d1 : decide ((j : Int) < n3) = true := by simp [hc1]
                rw [if_pos (.inr hc1), HFB.out j hlt] at HMj
                have hM1 : ∀ h : j < M.size, (((M[j]'h).toNat : Nat) : Int) = n2 := fun h => by rw [Fl.get_byteAt, HMj]; exact Fl.byte_nat hw2
                clear HMj
                go_wp2
                go_roundw
                case rel => exact ⟨j + 1, by omega, by go_num, hbw⟩
                case measure => simp [intOf]; omega
              · have d1 : decide ((j : Int) < n3) = false := by simp [hc1]
                rw [if_neg (by omega)] at HMj
                have hjo : j < (nthS f0 k).size := by rw [hOs]; exact hlt
                have hM3 : ∀ h : j < M.size, M[j]'h = (nthS f0 k)[j]'hjo := fun h => by rw [Fl.get_byteAt, HMj, Fl.get_byteAt]
                have hI0 : (0 : Int) ≤ (j : Int) := by omega
                have hI1 : (j : Int) < 256 := by omega
                have hK0 : (0 : Int) ≤ (k : Int) := by omega
                have hK1 : (k : Int) < (f0.length : Int) := by have := HK.out; omega
                have hK2 := HK.out
                clear HMj
                go_wp2
                go_quiet (fail)
                go_wp2
                go_roundw
                case rel => exact ⟨j + 1, by omega, by go_num, below_drewN hbw _⟩
                case measure => simp [intOf]; omega
          · obtain rfl : j = 256 := by omega
            have HB := HB1.trans (hbw.mono HB1.size)
            clear HMg
            go_wp2
            go_ret
            exact ⟨rfl, HB⟩


namespace lawTearsC
set_option maxRecDepth 100000 in
theorem lifted (os : Os) (started : os.Started) (H : Type) (enc : TypeId × Value → H) :
    ReturnsInHanded {} Try.checked os 5 .any (Rows.flashTearsAtByteSpec.pre6 enc Try.prog Try.f5 Rows.flashTearsAtByteRow.domain false) (Rows.flashTearsAtByteSpec.post enc Try.prog Try.f5 false true false false) := by
  refine returnsInHanded_of_change (C := Try.checked) own started (by kernel_rfl) Try.func5
    (ChangeSpec.witness6 (enc := enc) (C := Try.checked) false ⟨#[], #[.agg #[.slice none 0 0, .int .u8 0, .int .u8 0, .int .i64 0]], []⟩ 8 (by kernel_rfl) (by kernel_rfl) (by kernel_rfl) (by kernel_rfl)) ?_
  intro W base args ds gs before hval0 hW hcnd _
  have hval : ∀ (j : Nat) t v, Try.f5.params[j]? = some t → args[j]? = some v → Value.okWide Try.prog W .any base t v := hval0
  have hW' := hW
  obtain ⟨p, q, hA0, hV, rfl, hfz, hnd⟩ := hW
  have hA : DataW.TrodAll enc Try.prog W 0 (fun _ => true) true Try.f5.params.toList args.toList ds p := hA0
  rw [Try.params5] at hA hval
  obtain ⟨v0, vs0, d0, ds0, p0, q0, hargs, rfl, rfl, h0, r0⟩ := trodAll_cons hA
  obtain ⟨rfl, rfl, rfl⟩ := trodAll_nil r0
  obtain rfl : args = #[v0] := by cases args; simp_all
  obtain ⟨rfl, rfl⟩ := trodVars_none hV
  have k0 := h0
  have lt0 : ∀ x ∈ p0, x.block < W.heap.size := by obtain ⟨m, hm⟩ := k0; exact DataW.trod_lt m _ _ _ hm
  obtain ⟨cs0, rfl, _⟩ := okWide_struct Try.underlying42 (hval 0 42 v0 rfl rfl)
  obtain ⟨z0v0, z0f0, z0n1, z0n2, z0n3, e0, s0⟩ : ∃ (z0v0 : Value) (z0f0 : List ByteArray) (z0n1 : Int) (z0n2 : Int) (z0n3 : Int), (Value.agg cs0).cells.toList = [z0v0, .int .u8 z0n1, .int .u8 z0n2, .int .i64 z0n3] ∧ RStrs W W.heap.size z0v0 z0f0 ∧ (Lit.int .u8 z0n1).wf = true ∧ (Lit.int .u8 z0n2).wf = true ∧ (Lit.int .i64 z0n3).wf = true := by obtain ⟨fuel, hf⟩ := h0; exact reads_FlashTearsAtByteIn hf
  obtain rfl : cs0 = #[z0v0, .int .u8 z0n1, .int .u8 z0n2, .int .i64 z0n3] := by cases cs0; simpa [Value.cells] using e0
  clear hA0 hval0
  refine (lawTears (w := W) z0v0 z0f0 z0n1 z0n2 z0n3 s0 ).mono fun e W' ⟨he, bel⟩ => ?_
  subst he
  exact ⟨_, rfl, _, _, _, [], _, [], hW', trodAll_mk1 (shut_bool Try.underlying4 _), (trodAll_cons_mk (Below.trod laidOut (by kernel_rfl) (of_decide_eq_true (by kernel_rfl)) k0 bel lt0) trodAll_mk0), rfl, bel.frame _, fun h => by cases h⟩

theorem over : Rows.flashTearsAtByteRow.holds Try.pinned (OpenSpec.ofChange Rows.flashTearsAtByteSpec) :=
  OpenClaim.holds_of_wide 5 Try.f5 rfl rfl rfl rfl rfl rfl rfl ⟨rfl, rfl, rfl, rfl, rfl⟩ rfl rfl rfl rfl rfl (by kernel_rfl) Try.func5 (by kernel_rfl)
    (of_decide_eq_true (by kernel_rfl)) (by unfold Func.isWrapper; first | (rw [if_pos (by decide +kernel)]; kernel_rfl) | (rw [if_neg (by decide +kernel)]; exact ⟨rfl, rfl⟩))
    (fun os started H enc _ => lifted os started H enc)
end lawTearsC

theorem flashTearsAtByte_holds : Rows.FlashTearsAtByteSaid := lawTearsC.over

end Go.Proofs.Ytnmleaibonnbnaa
