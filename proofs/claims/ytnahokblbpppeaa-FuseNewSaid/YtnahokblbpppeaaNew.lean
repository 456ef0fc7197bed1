/- FuseNew: for every list of widths the law returns true and its argument reads as it did. No conditions. -/
import Derived.Test.YtnahokblbpppeaaOpen
namespace Go.Proofs.Ytnahokblbpppeaa
open Go.ChangeShapes Go.WideShapes Go.ChangeAt Go.RowKit Go.Deep

namespace Fz
theorem same_refl (f : List (List Nat)) : same f f = true := by simp [same]
theorem fit_zeros (n : Int) (h : n ≤ 16) : fitRow (zeros n) = true := by
  refine fitRow_of ?_ ?_ ?_
  · simp [zeros]
  · simp [zeros]; omega
  · unfold anyBad
    rw [List.any_eq_false]
    intro x hx
    have : x = 0 := by have := List.mem_replicate.1 hx; exact this.2
    simp [this]
theorem valid_newF (bits : List Int) : valid (newF bits) = true := by
  unfold newF
  split
  · rename_i h
    simp only [newOK, Bool.and_eq_true, decide_eq_true_eq, Bool.not_eq_true'] at h
    unfold valid
    simp only [List.length_map, h.1, decide_true, Bool.true_and]
    rw [List.all_eq_true]
    intro x hx
    obtain ⟨n, hn, rfl⟩ := List.mem_map.1 hx
    have h2 := h.2
    unfold anyBadW at h2
    rw [List.any_eq_false] at h2
    have h3 := h2 n hn
    exact fit_zeros n (badW_false.1 (by simpa using h3)).2
  · rfl
end Fz

set_option maxHeartbeats 1000000 in
theorem lawNew {w : World} (v : Value) (bits : List Int) (hv0 : RInts w w.heap.size v bits) :
    Calls Try.prog 4 #[v] w fun e w' => e = .returned (.bool true) ∧ Below w.heap.size w w' := by
  obtain ⟨A, c, rfl, hn, hc, -⟩ := id hv0
  unfold maxLen at hc
  by_cases h20 : bits.length ≤ 20
  · have e4 : decide ((20 : Int) < (bits.length : Int)) = false := by simp; omega
    have S1 := Lib.hid (Fz.same_refl (Fz.newF bits))
    have S2 := Lib.hid (Fz.valid_newF bits)
    go_enter Try.func4, Try.ntmps4
    go_wp2_with fail
    refine (new_any _ bits _ hv0).mono ?_
    rintro e w1 ⟨v1, rfl, hr1, hb1⟩
    obtain ⟨A1, c1, rfl⟩ := rows_form hr1
    have V1 := VarAt.new hr1
    have hI1 := ((hv0.below hb1).more hb1.size).below (Below.new (.cells #[.slice A1 (Fz.newF bits).length c1] 24)) |>.more (by simp : _ ≤ (w1.alloc (.cells #[.slice A1 (Fz.newF bits).length c1] 24)).heap.size)
    have HB := hb1.alloc hb1.size (.cells #[.slice A1 (Fz.newF bits).length c1] 24)
    clear hb1 hr1
    go_wp2_with fail
    refine (rnew_any _ bits _ hI1).mono ?_
    rintro e w2 ⟨v2, rfl, hr2, hb2⟩
    obtain ⟨A2, c2, rfl⟩ := rows_form hr2
    have V1 := (V1.below hb2).below (Below.new (.cells #[.slice A2 (Fz.newF bits).length c2] 24))
    have V2 := VarAt.new hr2
    have HB := (HB.trans (hb2.mono HB.size)).alloc (HB.trans (hb2.mono HB.size)).size (.cells #[.slice A2 (Fz.newF bits).length c2] 24)
    clear hb2 hr2 hI1
    go_wp2_with fail
    refine (sanity_any _).mono ?_
    rintro e w3 ⟨rfl, hb3⟩
    have V1 := V1.below hb3
    have V2 := V2.below hb3
    have HB := HB.trans (hb3.mono HB.size)
    have c1' := V1.cell
    have c2' := V2.cell
    clear hb3
    go_wp2_with fail
    refine (same_any _ _ _ _ _ V1.rows V2.rows).mono ?_
    rintro e w4 ⟨rfl, hb4⟩
    rw [S1.out]
    have V1 := V1.below hb4
    have HB := HB.trans (hb4.mono HB.size)
    have c1' := V1.cell
    clear hb4
    go_wp2_with fail
    refine (valid_any _ _ _ V1.rows).mono ?_
    rintro e w5 ⟨rfl, hb5⟩
    rw [S2.out]
    have HB := HB.trans (hb5.mono HB.size)
    clear hb5
    go_wp2
    go_ret
    exact ⟨rfl, HB⟩
  · have e4 : decide ((20 : Int) < (bits.length : Int)) = true := by simp; omega
    clear hv0
    go_enter Try.func4, Try.ntmps4
    go_wp2_with (go_at_call 10; with_reducible refine (sanity_any _).mono ?_; rintro e w1 ⟨rfl, hb1⟩)
    go_ret
    exact ⟨rfl, hb1⟩

namespace lawNewC
set_option maxRecDepth 100000 in
theorem lifted (os : Os) (started : os.Started) (H : Type) (enc : TypeId × Value → H) :
    ReturnsInHanded {} Try.checked os 4 .any (Rows.fuseNewSpec.pre6 enc Try.prog Try.f4 Rows.fuseNewRow.domain false) (Rows.fuseNewSpec.post enc Try.prog Try.f4 false true false false) := by
  refine returnsInHanded_of_change (C := Try.checked) own started (by kernel_rfl) Try.func4
    (ChangeSpec.witness6 (enc := enc) (C := Try.checked) false ⟨#[], #[.slice none 0 0], []⟩ 8 (by kernel_rfl) (by kernel_rfl) (by kernel_rfl) (by kernel_rfl)) ?_
  intro W base args ds gs before hval0 hW hcnd _
  have hval : ∀ (j : Nat) t v, Try.f4.params[j]? = some t → args[j]? = some v → Value.okWide Try.prog W .any base t v := hval0
  have hW' := hW
  obtain ⟨p, q, hA0, hV, rfl, hfz, hnd⟩ := hW
  have hA : DataW.TrodAll enc Try.prog W 0 (fun _ => true) true Try.f4.params.toList args.toList ds p := hA0
  rw [Try.params4] at hA hval
  obtain ⟨v0, vs0, d0, ds0, p0, q0, hargs, rfl, rfl, h0, r0⟩ := trodAll_cons hA
  obtain ⟨rfl, rfl, rfl⟩ := trodAll_nil r0
  obtain rfl : args = #[v0] := by cases args; simp_all
  obtain ⟨rfl, rfl⟩ := trodVars_none hV
  have k0 := h0
  have lt0 : ∀ x ∈ p0, x.block < W.heap.size := by obtain ⟨m, hm⟩ := k0; exact DataW.trod_lt m _ _ _ hm
  obtain ⟨b0, n0, c0, rfl⟩ := okWide_slice Try.underlying36 (hval 0 36 v0 rfl rfl)
  obtain ⟨u0, x0, e0, s0⟩ : ∃ v f, (Value.slice b0 n0 c0).cells.toList = [v] ∧ RInts W W.heap.size v f := by obtain ⟨fuel, hf⟩ := h0; exact reads_ints hf
  obtain rfl : u0 = Value.slice b0 n0 c0 := by simpa [Value.cells] using e0.symm
  clear hA0 hval0
  refine (lawNew (w := W) _ x0 s0 ).mono fun e W' ⟨he, bel⟩ => ?_
  subst he
  exact ⟨_, rfl, _, _, _, [], _, [], hW', trodAll_mk1 (shut_bool Try.underlying4 _), (trodAll_cons_mk (Below.trod laidOut (by kernel_rfl) (of_decide_eq_true (by kernel_rfl)) k0 bel lt0) trodAll_mk0), rfl, bel.frame _, fun h => by cases h⟩

theorem over : Rows.fuseNewRow.holds Try.pinned (OpenSpec.ofChange Rows.fuseNewSpec) :=
  OpenClaim.holds_of_wide 4 Try.f4 rfl rfl rfl rfl rfl rfl rfl ⟨rfl, rfl, rfl, rfl, rfl⟩ rfl rfl rfl rfl rfl (by kernel_rfl) Try.func4 (by kernel_rfl)
    (of_decide_eq_true (by kernel_rfl)) (by unfold Func.isWrapper; first | (rw [if_pos (by decide +kernel)]; kernel_rfl) | (rw [if_neg (by decide +kernel)]; exact ⟨rfl, rfl⟩))
    (fun os started H enc _ => lifted os started H enc)
end lawNewC

theorem fuseNew_holds : Rows.FuseNewSaid := lawNewC.over

end Go.Proofs.Ytnahokblbpppeaa
