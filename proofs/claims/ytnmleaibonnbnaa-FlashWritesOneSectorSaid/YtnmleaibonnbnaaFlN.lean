/- Flash: the laws' sanity: the walk. -/
import Derived.Test.YtnmleaibonnbnaaFlL
import Derived.Test.YtnmleaibonnbnaaFlM
namespace Go.Proofs.Ytnmleaibonnbnaa
open Go.RowKit

set_option maxRecDepth 100000 in
set_option maxHeartbeats 4000000 in
theorem sanity_any (w : World) : Calls Try.prog 9 #[] w fun e w' => e = .returned (.bool true) ∧ Below w.heap.size w w' := by
  have E5 := Fl.sw
  have E6 := Fl.sx
  have E7 := Fl.sy
  have E8 := Lib.hid Fl.ss
  go_enter Try.func9, Try.ntmps9
  go_wp2_with fail
  refine (new_any 2 _).mono ?_
  rintro e w1 ⟨vf, rfl, hf, hb1⟩
  rw [Fl.sn]
  have hf : RStrs w1 w1.heap.size vf Fl.F0 := hf
  obtain ⟨A1, c1, rfl, _, _⟩ := hf.form
  have VF := SAt.new hf
  have HB : Below w.heap.size w (w1.alloc (.cells #[.slice A1 Fl.F0.length c1] 24)) := hb1.alloc hb1.size _
  have cF := VF.cell
  have VFs : RStrs (w1.alloc (.cells #[.slice A1 Fl.F0.length c1] 24)) (w1.heap.size + 1) (.slice A1 Fl.F0.length c1) Fl.F0 := by simpa using VF.strs
  have hsz := hb1.size
  clear hb1 hf
  go_wp2_with fail
  have hU0 : Under (w1.alloc (.cells #[.slice A1 Fl.F0.length c1] 24)) (w1.heap.size + 1) (w1.alloc (.cells #[.slice A1 Fl.F0.length c1] 24)) := ⟨by simpa using Below.refl _ _, by simp⟩
  go_cut [3, 4] (fun a b wc => Wrote (w1.alloc (.cells #[.slice A1 Fl.F0.length c1] 24)) (w1.heap.size + 1) (Fl.G0) a wc ∧ b = .int .i64 (0))
  case first =>
    go_region_held3 (fun W' => W'.cell? ⟨w1.heap.size, 0, none⟩ = some (.slice A1 Fl.F0.length c1) ∧ Under (w1.alloc (.cells #[.slice A1 Fl.F0.length c1] 24)) (w1.heap.size + 1) W') (first | exact ⟨Under.cell hU0.drew cF (Nat.lt_succ_self _), hU0.drew⟩ | exact ⟨Under.cell hU cF (Nat.lt_succ_self _), hU⟩ | (go_split_ands; exact ⟨Under.cell (Under.alloc (by assumption) _) cF (Nat.lt_succ_self _), Under.alloc (by assumption) _⟩) | (go_split_ands; exact ⟨Under.cell (Under.setCell (by assumption) (Nat.le_refl _) _) cF (Nat.lt_succ_self _), Under.setCell (by assumption) (Nat.le_refl _) _⟩) | (go_split_ands; exact ⟨Under.cell (Under.setCell (by assumption) hB6 _) cF (Nat.lt_succ_self _), Under.setCell (by assumption) hB6 _⟩)) (first
        | (go_at_call 21; (with_reducible refine (full_any (7) _).mono ?_); rintro e w6 ⟨rfl, hb6⟩; go_split_ands; obtain ⟨hk1, hk2⟩ := bcell hb6; (try simp only [World.size_alloc, World.size_drew] at hk1 hk2); have hz6 := hb6.size; (try simp at hz6); (first | have hy6 := Nat.lt_of_succ_le hz6 | skip); have hU := Under.below (by assumption) hb6; have hB6 := hU.le)
        | (go_at_call 15; go_split_ands; (with_reducible refine (write_any _ (Fl.F0) 1 (Fl.full (7)) (3) _ (Under.strs (Ws := w1.alloc (.cells #[.slice A1 Fl.F0.length c1] 24)) (B := w1.heap.size + 1) (by assumption) VFs) (by decide) (by rw [Fl.full_size]; decide)).mono ?_); rintro e w7 HW; unfold WriteApart at HW; obtain ⟨v', rfl, hs7, hb7, ha7⟩ := HW; rw [Fl.sa]; have hs7 : RStrs w7 w7.heap.size v' Fl.G0 := hs7; obtain ⟨A2, c2, rfl, _, _⟩ := hs7.form; obtain ⟨hk3, hk4⟩ := bcell hb7; (try simp only [World.size_alloc, World.size_drew] at hk3 hk4); have hz7 := hb7.size; have hU2 := Under.here (by assumption) hb7; have hU := Under.below (by assumption) hb7))
    all_goals
      go_wp2_with fail
      go_meet
      first
        | exact ⟨wrote_new hU hs7, rfl⟩
        | exact ⟨wrote_old hU hU2 VFs hs7 ha7 hb7 hB6 (heap_alloc_new _ _), rfl⟩
        | exact ⟨wrote_old hU hU2 VFs hs7 ha7 hb7 (Nat.le_refl _) ((hb6.block _ (by simp)).trans (heap_second' _ _ _)), rfl⟩
        | exact ⟨wrote_old hU hU2 VFs hs7 ha7 hb7 (Nat.le_refl _) ((hb6.block _ (by simp)).trans (heap_alloc_new _ _)), rfl⟩
  case rest =>
    obtain ⟨⟨pG, vG, rfl, VG, hpG, hbc⟩, rfl⟩ := hcut
    obtain ⟨A2, c2, rfl, _, _⟩ := VG.strs.form
    have VF := VF.below (by simpa using hbc)
    have HB := HB.trans (hbc.mono (by omega))
    have cF := VF.cell
    have cG := VG.cell
    clear hbc VFs
    go_wp2_with fail
    refine (read_any _ _ _ _ VG.strs).mono ?_
    rintro e w2 ⟨rfl, hb2⟩
    rw [Fl.sb, Fl.ss]
    have VF := VF.below hb2
    have VG := VG.below hb2
    have HB := HB.trans (hb2.mono HB.size)
    have cF := VF.cell
    have cG := VG.cell
    clear hb2
    have hpF := lt_of_block VF.blk
    have VFs := VF.strs
    go_wp2_with fail
    have hU0 : Under (w2) (w2.heap.size) (w2) := ⟨by simpa using Below.refl _ _, by simp⟩
    go_cut [7, 8] (fun a b wc => Wrote (w2) (w2.heap.size) (Fl.write Fl.F0 2 (Fl.full 7) (-1)) a wc ∧ b = .int .i64 (13))
    case first =>
      go_region_held3 (fun W' => W'.cell? ⟨w1.heap.size, 0, none⟩ = some (.slice A1 Fl.F0.length c1) ∧ Under (w2) (w2.heap.size) W') (first | exact ⟨Under.cell hU0.drew cF hpF, hU0.drew⟩ | exact ⟨Under.cell hU cF hpF, hU⟩ | (go_split_ands; exact ⟨Under.cell (Under.alloc (by assumption) _) cF hpF, Under.alloc (by assumption) _⟩) | (go_split_ands; exact ⟨Under.cell (Under.setCell (by assumption) (Nat.le_refl _) _) cF hpF, Under.setCell (by assumption) (Nat.le_refl _) _⟩) | (go_split_ands; exact ⟨Under.cell (Under.setCell (by assumption) hB6 _) cF hpF, Under.setCell (by assumption) hB6 _⟩)) (first
            | (go_at_call 21; (with_reducible refine (full_any (7) _).mono ?_); rintro e w6 ⟨rfl, hb6⟩; go_split_ands; obtain ⟨hk1, hk2⟩ := bcell hb6; (try simp only [World.size_alloc, World.size_drew] at hk1 hk2); have hz6 := hb6.size; (try simp at hz6); (first | have hy6 := Nat.lt_of_succ_le hz6 | skip); have hU := Under.below (by assumption) hb6; have hB6 := hU.le)
            | (go_at_call 15; go_split_ands; (with_reducible refine (write_any _ (Fl.F0) 2 (Fl.full (7)) ((-1)) _ (Under.strs (Ws := w2) (B := w2.heap.size) (by assumption) VFs) (by decide) (by rw [Fl.full_size]; decide)).mono ?_); rintro e w7 HW; unfold WriteApart at HW; obtain ⟨v', rfl, hs7, hb7, ha7⟩ := HW; rw [Fl.sc]; obtain ⟨A2, c2, rfl, _, _⟩ := hs7.form; obtain ⟨hk3, hk4⟩ := bcell hb7; (try simp only [World.size_alloc, World.size_drew] at hk3 hk4); have hz7 := hb7.size; have hU2 := Under.here (by assumption) hb7; have hU := Under.below (by assumption) hb7))
      all_goals
        go_wp2_with fail
        go_meet
        first
          | exact ⟨wrote_new hU hs7, rfl⟩
          | exact ⟨wrote_old hU hU2 VFs hs7 ha7 hb7 hB6 (heap_alloc_new _ _), rfl⟩
          | exact ⟨wrote_old hU hU2 VFs hs7 ha7 hb7 (Nat.le_refl _) ((hb6.block _ (by simp)).trans (heap_second' _ _ _)), rfl⟩
          | exact ⟨wrote_old hU hU2 VFs hs7 ha7 hb7 (Nat.le_refl _) ((hb6.block _ (by simp)).trans (heap_alloc_new _ _)), rfl⟩
    case rest =>
      obtain ⟨⟨pH, vH, rfl, VH, hpH, hbc⟩, rfl⟩ := hcut
      have VF := VF.below hbc
      have VG := VG.below hbc
      have HB := HB.trans (hbc.mono HB.size)
      have cF := VF.cell
      have cG := VG.cell
      clear hbc VFs VH hpF
      go_wp2_with fail
      refine (write_any _ _ _ _ _ _ VF.strs (by decide) (by decide)).mono ?_
      rintro e w3 ⟨v3, rfl, hs3, hb3, -⟩
      rw [Fl.sd]
      obtain ⟨A3, c3, rfl, _, _⟩ := hs3.form
      have VF := (VF.below hb3).below (Below.new (.cells #[.slice A3 (Fl.write Fl.F0 0 ⟨#[120]⟩ (-1)).length c3] 24))
      have VG := (VG.below hb3).below (Below.new (.cells #[.slice A3 (Fl.write Fl.F0 0 ⟨#[120]⟩ (-1)).length c3] 24))
      have HB := (HB.trans (hb3.mono HB.size)).alloc (HB.trans (hb3.mono HB.size)).size (.cells #[.slice A3 (Fl.write Fl.F0 0 ⟨#[120]⟩ (-1)).length c3] 24)
      have cF := VF.cell
      have cG := VG.cell
      clear hb3 hs3
      go_wp2_with fail
      refine (read_any _ _ _ _ VF.strs).mono ?_
      rintro e w4 ⟨rfl, hb4⟩
      rw [Fl.snone]
      have VF := VF.below hb4
      have VG := VG.below hb4
      have HB := HB.trans (hb4.mono HB.size)
      have cF := VF.cell
      have cG := VG.cell
      clear hb4
      go_wp2_with fail
      refine (new_any 129 _).mono ?_
      rintro e w5 ⟨v5, rfl, hs5, hb5⟩
      rw [Fl.sbig]
      obtain ⟨A5, c5, rfl, _, _⟩ := hs5.form
      have VF := (VF.below hb5).below (Below.new (.cells #[.slice A5 (Fl.newF 129).length c5] 24))
      have VG := (VG.below hb5).below (Below.new (.cells #[.slice A5 (Fl.newF 129).length c5] 24))
      have HB := (HB.trans (hb5.mono HB.size)).alloc (HB.trans (hb5.mono HB.size)).size (.cells #[.slice A5 (Fl.newF 129).length c5] 24)
      have cF := VF.cell
      have cG := VG.cell
      clear hb5 hs5
      go_wp2_with fail
      refine (full_any 0 _).mono ?_
      rintro e w6 ⟨rfl, hb6⟩
      have hfs := Fl.full_size 0
      have VF := VF.below hb6
      have VG := VG.below hb6
      have HB := HB.trans (hb6.mono HB.size)
      have cF := VF.cell
      have cG := VG.cell
      clear hb6
      go_wp2_with fail
      refine (valid_any _ _ _ VG.strs).mono ?_
      rintro e w7 ⟨rfl, hb7⟩
      rw [Fl.sv]
      have VF := VF.below hb7
      have VG := VG.below hb7
      have HB := HB.trans (hb7.mono HB.size)
      have cF := VF.cell
      have cG := VG.cell
      clear hb7
      go_wp2_with fail
      refine (valid_any _ [⟨#[]⟩] _ (strs_lit1 (s := ⟨#[]⟩) (by decide) _)).mono ?_
      rintro e w8 ⟨rfl, hb8⟩
      rw [Fl.sw]
      have hb8 := (Below.new _).trans (hb8.mono (by simp))
      have VF := VF.below hb8
      have VG := VG.below hb8
      have HB := HB.trans (hb8.mono HB.size)
      have cF := VF.cell
      have cG := VG.cell
      clear hb8
      go_wp2_with fail
      refine (same_any _ _ _ _ _ VF.strs VF.strs).mono ?_
      rintro e w9 ⟨rfl, hb9⟩
      rw [Fl.sx]
      have VF := VF.below hb9
      have VG := VG.below hb9
      have HB := HB.trans (hb9.mono HB.size)
      have cF := VF.cell
      have cG := VG.cell
      clear hb9
      go_wp2_with fail
      refine (same_any _ _ _ _ _ VF.strs VG.strs).mono ?_
      rintro e w10 ⟨rfl, hb10⟩
      rw [Fl.sy]
      have HB := HB.trans (hb10.mono HB.size)
      go_wp2
      go_ret
      exact ⟨rfl, HB⟩

end Go.Proofs.Ytnmleaibonnbnaa
