/- FusePermanent: for all fuses, cells, pulses and noises the law returns true, and what it was handed reads as it did. No conditions. -/
import Derived.Test.YtnahokblbpppeaaFzLaw
namespace Go.Proofs.Ytnahokblbpppeaa
open Go.ChangeShapes Go.WideShapes Go.ChangeAt Go.RowKit Go.Deep

namespace Fz
theorem readV_hits (f : List (List Nat)) (l : List Hit) (i j : Nat) (noise : Bool) (hx : ex f i j = true) : readV (hits f l) i j noise = rd (at_ (hits f l) i j) noise := by
  simp [readV, ex_hits, hx, cellOf, row, at_]
theorem readE_hits (f : List (List Nat)) (l : List Hit) (i j : Int) (hx : ex f i j = true) : readE (hits f l) i j = 0 := by
  simp [readE, ex_hits, hx]
theorem perm {f : List (List Nat)} (hv : valid f = true) (l : List Hit) (i j : Nat) (noise : Bool) (hx : ex f i j = true) :
    (at_ f i j = 2 ∧ readV (hits f l) i j noise = 1) ∨ (at_ f i j = 3 ∧ readV (hits f l) i j noise = 0) ∨ (at_ f i j = 0 ∧ readV (hits f l) i j noise = 0) ∨ (at_ f i j = 0 ∧ readV (hits f l) i j noise = 1) ∨ (at_ f i j = 1 ∧ readV (hits f l) i j noise = 0) ∨ (at_ f i j = 1 ∧ readV (hits f l) i j noise = 1) := by
  rw [readV_hits f l i j noise hx]
  have h3 := at_le hv i j
  have h01 := rd_01 (at_ (hits f l) i j) noise
  have hs := stuck_hits f l i j
  have hb := blown_hits f l i j
  by_cases h2 : at_ f i j = 2
  · left; rw [hb h2]; exact ⟨h2, rfl⟩
  · by_cases h3' : at_ f i j = 3
    · right; left; rw [hs.mpr h3']; exact ⟨h3', rfl⟩
    · omega
end Fz

set_option maxHeartbeats 1000000 in
theorem lawPerm_no {w : World} (v : Value) (f : List (List Nat)) (hf : RRows w w.heap.size v f) (bank cell : Int) (u : Value) (l : List Fz.Hit) (hl : RHits w w.heap.size u l) (noise : Bool)
    (hno : Fz.valid f = false ∨ Fz.ex f bank cell = false ∨ 100 < l.length) :
    Calls Try.prog 9 #[.agg #[v], .int .i64 bank, .int .i64 cell, u, .bool noise] w fun e w' => e = .returned (.bool true) ∧ Below w.heap.size w w' := by
  obtain ⟨A, c, rfl⟩ := rows_form hf
  obtain ⟨A2, c2, rfl, hn, hc, -⟩ := hl
  unfold maxLen at hc
  have VF := VarAt.new hf
  have HB : Below w.heap.size w (w.alloc (.cells #[.slice A f.length c] 24)) := Below.new _
  have cF := VF.cell
  cases hv : Fz.valid f
  · have HV := Lib.hid hv
    clear hv hno
    go_enter Try.func9, Try.ntmps9
    go_wp2_with (first | (go_at_call 12; with_reducible refine (rvalid_any _ _ _ VF.rows).mono ?_; rintro e w6 ⟨rfl, hb6⟩; rw [HV.out]; have VF := VF.below hb6; have HB := HB.trans (hb6.mono HB.size); have cF := VF.cell; clear hb6) | (go_at_call 10; with_reducible refine (sanity_any _).mono ?_; rintro e w6 ⟨rfl, hb6⟩; have VF := VF.below hb6; have HB := HB.trans (hb6.mono HB.size); have cF := VF.cell; clear hb6))
    go_ret
    exact ⟨rfl, HB⟩
  · cases hx : Fz.ex f bank cell
    · have HV := Lib.hid hv
      have HX := Lib.hid hx
      clear hv hno hx
      go_enter Try.func9, Try.ntmps9
      go_wp2_with (first | (go_at_call 12; with_reducible refine (rvalid_any _ _ _ VF.rows).mono ?_; rintro e w6 ⟨rfl, hb6⟩; rw [HV.out]; have VF := VF.below hb6; have HB := HB.trans (hb6.mono HB.size); have cF := VF.cell; clear hb6) | (go_at_call 29; with_reducible refine (rexists_any _ f _ _ _ VF.rows).mono ?_; rintro e w6 ⟨rfl, hb6⟩; rw [HX.out]; have VF := VF.below hb6; have HB := HB.trans (hb6.mono HB.size); have cF := VF.cell; clear hb6) | (go_at_call 10; with_reducible refine (sanity_any _).mono ?_; rintro e w6 ⟨rfl, hb6⟩; have VF := VF.below hb6; have HB := HB.trans (hb6.mono HB.size); have cF := VF.cell; clear hb6))
      go_ret
      exact ⟨rfl, HB⟩
    · have HV := Lib.hid hv
      have HX := Lib.hid hx
      have h2 : (100 : Int) < l.length := by rw [hv, hx] at hno; simp at hno; omega
      clear hv hno hx
      go_enter Try.func9, Try.ntmps9
      go_wp2_with (first | (go_at_call 12; with_reducible refine (rvalid_any _ _ _ VF.rows).mono ?_; rintro e w6 ⟨rfl, hb6⟩; rw [HV.out]; have VF := VF.below hb6; have HB := HB.trans (hb6.mono HB.size); have cF := VF.cell; clear hb6) | (go_at_call 29; with_reducible refine (rexists_any _ f _ _ _ VF.rows).mono ?_; rintro e w6 ⟨rfl, hb6⟩; rw [HX.out]; have VF := VF.below hb6; have HB := HB.trans (hb6.mono HB.size); have cF := VF.cell; clear hb6) | (go_at_call 10; with_reducible refine (sanity_any _).mono ?_; rintro e w6 ⟨rfl, hb6⟩; have VF := VF.below hb6; have HB := HB.trans (hb6.mono HB.size); have cF := VF.cell; clear hb6))
      go_ret
      exact ⟨rfl, HB⟩

set_option maxHeartbeats 4000000 in
theorem lawPerm_yes {w : World} (v : Value) (f : List (List Nat)) (hf : RRows w w.heap.size v f) (bank cell : Int) (u : Value) (l : List Fz.Hit) (hl : RHits w w.heap.size u l) (noise : Bool)
    (hv : Fz.valid f = true) (hx : Fz.ex f bank cell = true) (h100 : l.length ≤ 100) :
    Calls Try.prog 9 #[.agg #[v], .int .i64 bank, .int .i64 cell, u, .bool noise] w fun e w' => e = .returned (.bool true) ∧ Below w.heap.size w w' := by
  obtain ⟨A, c, rfl⟩ := rows_form hf
  have hl' := hl
  obtain ⟨A2, c2, rfl, hn, hc, -⟩ := hl
  unfold maxLen at hc
  have h4 : f.length ≤ 4 := (Fz.valid_iff.1 hv).1
  obtain ⟨i, j, b, o, b', o', c', rfl, rfl, hi, hj, rfl, hb, hb', hc1, hlc, hc', hc2, hlt, hcell⟩ := hf.at_ hx
  unfold maxLen at hc'
  have VF := VarAt.new hf
  have HB : Below w.heap.size w (w.alloc (.cells #[.slice (some ⟨b, o, none⟩) f.length c] 24)) := Below.new _
  have cF := VF.cell
  have HV := Lib.hid hv
  have HX := Lib.hid hx
  have HE := Lib.hid (Fz.readE_hits f l i j hx)
  have hP := Fz.perm hv l i j noise hx
  have e200 : decide ((100 : Int) < (l.length : Int)) = false := by simp; omega
  unfold Fz.at_ at hP
  clear hv hx hcell hlt
  rcases hP with ⟨hxx, hr⟩ | ⟨hxx, hr⟩ | ⟨hxx, hr⟩ | ⟨hxx, hr⟩ | ⟨hxx, hr⟩ | ⟨hxx, hr⟩
  all_goals
    rw [hxx] at hc2
    have HR := Lib.hid hr
    clear hxx hr
    go_enter Try.func9, Try.ntmps9
    go_wp2_with (first | (go_at_call 12; with_reducible refine (rvalid_any _ _ _ VF.rows).mono ?_; rintro e w6 ⟨rfl, hb6⟩; rw [HV.out]; have VF := VF.below hb6; have HB := HB.trans (hb6.mono HB.size); have cF := VF.cell; clear hb6) | (go_at_call 29; with_reducible refine (rexists_any _ f _ _ _ VF.rows).mono ?_; rintro e w6 ⟨rfl, hb6⟩; rw [HX.out]; have VF := VF.below hb6; have HB := HB.trans (hb6.mono HB.size); have cF := VF.cell; clear hb6))
    refine (hits_any _ _ f l _ VF.rows (Fz.valid_small HV.out) ((hl'.below HB).more HB.size)).mono ?_
    rintro e w2 ⟨vg, rfl, hg, hb2⟩
    obtain ⟨A3, c3, rfl⟩ := rows_form hg
    have VF := VF.below hb2
    have HB := HB.trans (hb2.mono HB.size)
    have cF := VF.cell
    clear hb2
    go_wp2_with fail
    refine (read_any _ (Fz.hits f l) _ _ _ _ hg).mono ?_
    rintro e w3 ⟨rfl, hb3⟩
    rw [HE.out, HR.out]
    have VF := VF.below hb3
    have HB := HB.trans (hb3.mono HB.size)
    have cF := VF.cell
    have q1 := (HB.cell (p := ⟨b, o + i, none⟩) hb).trans hc1
    have q2 := (HB.cell (p := ⟨b', o' + j, none⟩) hb').trans hc2
    clear hb3 hg
    go_wp2_with (go_at_call 10; with_reducible refine (sanity_any _).mono ?_; rintro e w6 ⟨rfl, hb6⟩; have VF := VF.below hb6; have HB := HB.trans (hb6.mono HB.size); have cF := VF.cell; clear hb6)
    go_ret
    exact ⟨rfl, HB⟩

theorem lawPerm {w : World} (v : Value) (f : List (List Nat)) (hf : RRows w w.heap.size v f) (bank cell : Int) (u : Value) (l : List Fz.Hit) (hl : RHits w w.heap.size u l) (noise : Bool) :
    Calls Try.prog 9 #[.agg #[v], .int .i64 bank, .int .i64 cell, u, .bool noise] w fun e w' => e = .returned (.bool true) ∧ Below w.heap.size w w' := by
  cases hv : Fz.valid f
  · exact lawPerm_no v f hf bank cell u l hl noise (.inl hv)
  · cases hx : Fz.ex f bank cell
    · exact lawPerm_no v f hf bank cell u l hl noise (.inr (.inl hx))
    · by_cases h : l.length ≤ 100
      · exact lawPerm_yes v f hf bank cell u l hl noise hv hx h
      · exact lawPerm_no v f hf bank cell u l hl noise (.inr (.inr (by omega)))

namespace lawPermC
set_option maxRecDepth 100000 in
theorem lifted (os : Os) (started : os.Started) (H : Type) (enc : TypeId × Value → H) :
    ReturnsInHanded {} Try.checked os 9 .any (Rows.fusePermanentSpec.pre6 enc Try.prog Try.f9 Rows.fusePermanentRow.domain false) (Rows.fusePermanentSpec.post enc Try.prog Try.f9 false true false false) := by
  refine returnsInHanded_of_change (C := Try.checked) own started (by kernel_rfl) Try.func9
    (ChangeSpec.witness6 (enc := enc) (C := Try.checked) false ⟨#[], #[.agg #[.slice none 0 0], .int .i64 0, .int .i64 0, .slice none 0 0, .bool false], []⟩ 8 (by kernel_rfl) (by kernel_rfl) (by kernel_rfl) (by kernel_rfl)) ?_
  intro W base args ds gs before hval0 hW hcnd _
  have hval : ∀ (j : Nat) t v, Try.f9.params[j]? = some t → args[j]? = some v → Value.okWide Try.prog W .any base t v := hval0
  have hW' := hW
  obtain ⟨p, q, hA0, hV, rfl, hfz, hnd⟩ := hW
  have hA : DataW.TrodAll enc Try.prog W 0 (fun _ => true) true Try.f9.params.toList args.toList ds p := hA0
  rw [Try.params9] at hA hval
  obtain ⟨v0, vs0, d0, ds0, p0, q0, hargs, rfl, rfl, h0, r0⟩ := trodAll_cons hA
  obtain ⟨v1, vs1, d1, ds1, p1, q1, rfl, rfl, rfl, h1, r1⟩ := trodAll_cons r0
  obtain ⟨v2, vs2, d2, ds2, p2, q2, rfl, rfl, rfl, h2, r2⟩ := trodAll_cons r1
  obtain ⟨v3, vs3, d3, ds3, p3, q3, rfl, rfl, rfl, h3, r3⟩ := trodAll_cons r2
  obtain ⟨v4, vs4, d4, ds4, p4, q4, rfl, rfl, rfl, h4, r4⟩ := trodAll_cons r3
  obtain ⟨rfl, rfl, rfl⟩ := trodAll_nil r4
  obtain rfl : args = #[v0, v1, v2, v3, v4] := by cases args; simp_all
  obtain ⟨rfl, rfl⟩ := trodVars_none hV
  have k0 := h0
  have lt0 : ∀ x ∈ p0, x.block < W.heap.size := by obtain ⟨m, hm⟩ := k0; exact DataW.trod_lt m _ _ _ hm
  obtain ⟨cs0, rfl, _⟩ := okWide_struct Try.underlying24 (hval 0 24 v0 rfl rfl)
  obtain ⟨u0, x0, e0, s0⟩ : ∃ v f, (Value.agg cs0).cells.toList = [v] ∧ RRows W W.heap.size v f := by obtain ⟨fuel, hf⟩ := h0; exact reads_fuses hf
  obtain rfl : cs0 = #[u0] := by cases cs0; simpa [Value.cells] using e0
  obtain ⟨a1, rfl, rfl, rfl, w1⟩ := open_int Try.underlying3 (hval 1 3 v1 rfl rfl) h1
  obtain ⟨a2, rfl, rfl, rfl, w2⟩ := open_int Try.underlying3 (hval 2 3 v2 rfl rfl) h2
  have k3 := h3
  have lt3 : ∀ x ∈ p3, x.block < W.heap.size := by obtain ⟨m, hm⟩ := k3; exact DataW.trod_lt m _ _ _ hm
  obtain ⟨b3, n3, c3, rfl⟩ := okWide_slice Try.underlying40 (hval 3 40 v3 rfl rfl)
  obtain ⟨u3, x3, e3, s3⟩ : ∃ v f, (Value.slice b3 n3 c3).cells.toList = [v] ∧ RHits W W.heap.size v f := by obtain ⟨fuel, hf⟩ := h3; exact reads_hits hf
  obtain rfl : u3 = Value.slice b3 n3 c3 := by simpa [Value.cells] using e3.symm
  obtain ⟨a4, rfl, rfl, rfl⟩ := open_bool Try.underlying4 (hval 4 4 v4 rfl rfl) h4
  clear hA0 hval0
  refine (lawPerm (w := W) u0 x0 s0 a1 a2 _ x3 s3 a4 ).mono fun e W' ⟨he, bel⟩ => ?_
  subst he
  exact ⟨_, rfl, _, _, _, [], _, [], hW', trodAll_mk1 (shut_bool Try.underlying4 _), (trodAll_cons_mk (Below.trod laidOut (by kernel_rfl) (of_decide_eq_true (by kernel_rfl)) k0 bel lt0) (trodAll_cons_mk (shut_int Try.underlying3 w1) (trodAll_cons_mk (shut_int Try.underlying3 w2) (trodAll_cons_mk (Below.trod laidOut (by kernel_rfl) (of_decide_eq_true (by kernel_rfl)) k3 bel lt3) (trodAll_cons_mk (shut_bool Try.underlying4 _) trodAll_mk0))))), rfl, bel.frame _, fun h => by cases h⟩

theorem over : Rows.fusePermanentRow.holds Try.pinned (OpenSpec.ofChange Rows.fusePermanentSpec) :=
  OpenClaim.holds_of_wide 9 Try.f9 rfl rfl rfl rfl rfl rfl rfl ⟨rfl, rfl, rfl, rfl, rfl⟩ rfl rfl rfl rfl rfl (by kernel_rfl) Try.func9 (by kernel_rfl)
    (of_decide_eq_true (by kernel_rfl)) (by unfold Func.isWrapper; first | (rw [if_pos (by decide +kernel)]; kernel_rfl) | (rw [if_neg (by decide +kernel)]; exact ⟨rfl, rfl⟩))
    (fun os started H enc _ => lifted os started H enc)
end lawPermC

theorem fusePermanent_holds : Rows.FusePermanentSaid := lawPermC.over

end Go.Proofs.Ytnahokblbpppeaa
