/- Fuses: New of package fuse. -/
import Derived.Test.YtncgechmloekbaaFzL
namespace Go.Proofs.Ytncgechmloekbaa
open Go.RowKit

set_option maxRecDepth 100000 in
theorem newK_any (v : Value) (bits : List Int) (w : World) (hv : RInts w w.heap.size v bits) :
    Calls Try.prog 27 #[v] w fun e w' => ∃ v', e = .returned (.tuple #[.agg #[v'], .int .i64 (Fz.newE bits)]) ∧ RRowsK w' (fun b => w.heap.size ≤ b) v' (Fz.newF bits) ∧ Below w.heap.size w w' := by
  have hv' := hv
  obtain ⟨A, c, rfl, hn, hc, hcs⟩ := hv
  unfold maxLen at hc
  by_cases h4 : bits.length ≤ 4
  · have e4 : decide ((4 : Int) < (bits.length : Int)) = false := by simp; omega
    have hvA := (hv'.below (Below.new (Obj.cells #[Value.slice none 0 0] 24))).more (Nat.le_succ _)
    cases hany : Fz.anyBadW bits
    · have HA := Lib.hid hany
      clear hany
      go_enter Try.func27, Try.ntmps27
      go_wp2_with (go_at_call 50; with_reducible refine (containsFuncI_any _ bits _ (by simpa using hvA)).mono ?_; rintro e w1 ⟨rfl, rfl⟩; rw [HA.out])
      obtain ⟨W1, hW1⟩ : ∃ W1, W1 = (w.alloc (Obj.cells #[Value.slice none 0 0] 24)).alloc (Obj.cells #[Value.slice none 0 0] 24) := ⟨_, rfl⟩
      have hB1 : Below w.heap.size w W1 := by rw [hW1]; exact ((Below.refl _ _).alloc (Nat.le_refl _) _).alloc (by simp) _
      have q0 : W1.heap.size = w.heap.size + 2 := by rw [hW1]; simp
      have q1 : W1.cell? ⟨w.heap.size, 0, none⟩ = some (Value.slice none 0 0) := by rw [hW1]; simp
      have q1' : W1.frozen? ⟨w.heap.size, 0, none⟩ = false := by rw [hW1]; simp
      have Q1 := Lib.hid (show ∃ cs fr, W1.heap[w.heap.size]? = some (.cells cs 24 fr) by rw [hW1]; exact ⟨_, _, (Below.heap_alloc _ _ _ (by simp)).trans (heap_alloc_new w _)⟩)
      have q2 : NewRel W1 (w.heap.size + 1) bits 0 W1 := ⟨.slice none 0 0, [], by rw [hW1]; simpa using heap_alloc_new (w.alloc _) _, World.ownsRow_nil _ _ _ _, by simp, Below.refl _ _, Fresh.nil _⟩
      rw [← hW1]
      clear hW1
      have Q0 := Lib.hid q0
      clear q0
      go_loopw [17] (fun i wr => ∃ k : Nat, k ≤ bits.length ∧ i = .int .i64 k ∧ Hid (NewRel W1 (w.heap.size + 1) bits k wr)) (fun i _ => bits.length - (intOf i).toNat)
      case atStart => exact ⟨0, Nat.zero_le _, rfl, q2⟩
      case round =>
        clear q2
        obtain ⟨k, hk, rfl, HR⟩ := hrel
        obtain ⟨u, vals, hF, hown, hvals, hbw, hfr⟩ := HR.out; have HFR := Lib.hid hfr; clear hfr
        obtain ⟨hk1, hk2⟩ := bcell hbw
        have HF := Lib.hid hF
        have HV := Lib.hid hvals
        have cF := cell_of_one hF
        have fF := free_of_one hF
        clear hF hvals
        by_cases hlt : k < bits.length
        · obtain ⟨b, o, rfl, hb, hg⟩ := hcs (by omega)
          have hx : W1.cell? ⟨b, o + k, none⟩ = some (.int .i64 (nthI bits k)) := (hB1.cell (p := ⟨b, o + k, none⟩) hb).trans (hg k hlt)
          have hb_ : b < w.heap.size + 1 := by omega
          clear hg
          obtain ⟨hn0, hn16⟩ := Fz.badW_false.1 (Fz.good_at HA.out hlt)
          obtain ⟨m, hm⟩ := Int.eq_ofNat_of_zero_le hn0
          have HM := Lib.hid hm
          rw [hm] at hx hn0 hn16
          clear hm
          have hmk := make_u8 (3 * m) (by omega) ((m : Int) * 3) (by omega)
          have hwr : IntKind.i64.wrap ((m : Int) * 3) = (m : Int) * 3 := by rw [IntKind.wrap_i64]; omega
          obtain ⟨i0, hi0, hz0, hz1, hz2⟩ := info_parts infoBytes
          have hz := hbw.size
          rw [Q0.out] at hz
          have hb3 : b < wr.heap.size := by omega
          have hb4 : b < wr.heap.size + 1 := by omega
          have hF1 : w.heap.size + 1 < wr.heap.size := by omega
          have hF2 : w.heap.size + 1 < wr.heap.size + 1 := by omega
          have hne : u.ownBlock ≠ some (w.heap.size + 1) := by
            intro e
            have := (hown.lt _ e).1
            omega
          go_wp2
          go_region_law ((refine step_append_lies _ (by rfl) _ _ _ (by rfl) (w.heap.size + 1 + 1) 56 i0 _ 1 24 Try.underlying22 hi0 hz0 hz1 hz2 rfl (by omega) u k vals (by rfl) (by exact ((hown.alloc _).alloc _)) ⟨wr.heap.size + 1, 0, none⟩ 1 1 [.slice (some ⟨wr.heap.size, 0, none⟩) (3 * m) (3 * m)] (by rfl) (by rfl) (World.news_of_block (cs := #[.slice (some ⟨wr.heap.size, 0, none⟩) (3 * m) (3 * m)]) (t := 56) (fr := (0, 0)) (heap_second wr _ _)) (by simp [Value.oneCell']) (by omega) (by unfold maxLen; omega) (by omega) (by simp; omega) (wr.heap.size + 2) (by simp) ?_; intro gg cap w1 hown1 hgrow hat hlt2; have cF1 := (hgrow.cell_far ⟨w.heap.size + 1, 0, none⟩ (by simp; omega) (Ne.symm hne)).trans (show _ = some u by simp [*, go_sem, World.cell?_alloc_some]); have fF1 := (hgrow.frozen_far ⟨w.heap.size + 1, 0, none⟩ (by simp; omega) (Ne.symm hne)).trans (show _ = false by simp [*, go_sem])))
          all_goals
            have HS := Lib.hid (newRel_step (W1 := W1) HF.out hown HV.out hbw HFR.out HM.out hown1 hgrow)
            clear hown1 hgrow hat hlt2 hmk hwr hi0 hz0 hz1 hz2 cF1 fF1
            go_wp2
            go_roundw
            case rel => exact ⟨k + 1, by omega, by go_num, HS.out⟩
            case measure => simp [intOf]; omega
        · obtain rfl : k = bits.length := by omega
          have HO := Lib.hid (new_yes (show Fz.newOK bits = true by simp [Fz.newOK, HA.out, h4]))
          have hF1 : w.heap.size < w.heap.size + 1 := by omega
          obtain ⟨A', n', c', rfl⟩ := own_form hown
          go_wp2
          refine bodyPost_ret (v := .tuple #[.agg #[.slice A' n' c'], .int .i64 0]) (by simp [results, Try.results27, go_sem, hk1, q1]) rfl ⟨_, ret_new HO.out.1.symm, ?_, ?_⟩
          · rw [HO.out.2]
            exact (newRel_rows (W1 := W1) _ (by simp) Q1.out (fun j hj => Fz.good_at HA.out hj) hown HV.out hbw HFR.out).keep (fun _ _ => rfl) (fun b hb => by have hb' : w.heap.size + 1 ≤ b := hb; omega)
          · exact (hB1.trans (hbw.mono (by omega))).setCell (by simp) _
    · have HA := Lib.hid hany
      clear hany
      have HO := Lib.hid (new_no (show Fz.newOK bits = false by simp [Fz.newOK, HA.out]))
      clear hcs
      go_enter Try.func27, Try.ntmps27
      go_wp2_with (go_at_call 50; with_reducible refine (containsFuncI_any _ bits _ (by simpa using hvA)).mono ?_; rintro e w1 ⟨rfl, rfl⟩; rw [HA.out])
      refine bodyPost_ret (v := .tuple #[.agg #[.slice none 0 0], .int .i64 1]) (by simp [results, Try.results27, go_sem]) rfl ⟨_, ret_new HO.out.1.symm, ?_, ?_⟩
      · rw [HO.out.2]; exact rowsK_nil _ _
      · exact (Below.refl _ _).alloc (Nat.le_refl _) _
  · have HO := Lib.hid (new_no (show Fz.newOK bits = false by simp [Fz.newOK]; omega))
    clear hcs hv'
    go_enter Try.func27, Try.ntmps27
    go_wp2
    refine bodyPost_ret (v := .tuple #[.agg #[.slice none 0 0], .int .i64 1]) (by simp [results, Try.results27, go_sem]) rfl ⟨_, ret_new HO.out.1.symm, ?_, ?_⟩
    · rw [HO.out.2]; exact rowsK_nil _ _
    · exact (Below.refl _ _).alloc (Nat.le_refl _) _

theorem new_any (v : Value) (bits : List Int) (w : World) (hv : RInts w w.heap.size v bits) :
    Calls Try.prog 27 #[v] w fun e w' => ∃ v', e = .returned (.tuple #[.agg #[v'], .int .i64 (Fz.newE bits)]) ∧ RRows w' w'.heap.size v' (Fz.newF bits) ∧ Below w.heap.size w w' :=
  (newK_any v bits w hv).mono fun _ _ ⟨v', h1, h2, h3⟩ => ⟨v', h1, h2.plain, h3⟩

end Go.Proofs.Ytncgechmloekbaa
