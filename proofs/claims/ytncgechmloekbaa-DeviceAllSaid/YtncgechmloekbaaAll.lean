/- DeviceAll: for all arguments the law returns true, and what it was handed reads as it did. No conditions. -/
import Derived.Test.YtncgechmloekbaaDvAll
namespace Go.Proofs.Ytncgechmloekbaa
open Go.RowKit

theorem Dv.from_len (l : List Dv.Acc) (fs : List Dv.Flt) : ∀ (n k : Nat) (f : List (List Nat)) (m : List ByteArray) (out : List (Int × ByteArray)), (Dv.runFrom l fs n k f m out).out.length ≤ out.length + n
  | 0, _, _, _, _ => Nat.le_refl _
  | n + 1, k, f, m, out => by
    rw [Dv.runFrom]
    split
    · split
      · simp
      · have := Dv.from_len l fs n (k + 1) (Dv.F f m (Dv.nthA l k) (Dv.nthT fs k)) (Dv.M f m (Dv.nthA l k) (Dv.nthT fs k)) (out ++ [(Dv.V f m (Dv.nthA l k) (Dv.nthT fs k), Dv.B f m (Dv.nthA l k) (Dv.nthT fs k))])
        simp at this
        omega
    · simp
theorem Dv.out_len (l : List Dv.Acc) (fs : List Dv.Flt) (f : List (List Nat)) (m : List ByteArray) : (Dv.runAll l fs f m).out.length ≤ l.length := by
  have := Dv.from_len l fs l.length 0 f m []
  simpa [Dv.runAll] using this

set_option maxRecDepth 100000 in
set_option maxHeartbeats 4000000 in
theorem lawAll {w : World} (cs : Array Value) (f : List (List Nat)) (m : List ByteArray) (r : Nat → Int) (hh : HwB w cs f m r) (vl : Value) (l : List Dv.Acc) (hl : RAccs w w.heap.size vl l) (vf : Value) (fs : List Dv.Flt) (hf : RFlts w w.heap.size vf fs) :
    Calls Try.prog 5 #[.agg cs, vl, vf] w fun e w' => e = .returned (.bool true) ∧ Below w.heap.size w w' := by
  have HLa := Lib.hid hl
  have HFa := Lib.hid hf
  obtain ⟨Al, cl, rfl, hln, hlc, -, -⟩ := hl
  obtain ⟨Af, cf, rfl, hfn, hfc, -⟩ := hf
  unfold maxLen at hlc hfc
  obtain ⟨T, N, R, K, L⟩ := letters
  have HH := Lib.hid hh
  clear hh
  go_enter Try.func5, Try.ntmps5
  simp only [L.load, L.store]
  have la := L.agg
  have lz := L.size
  have HL := Lib.hid L
  clear L
  go_upto_region 1 with fail
  have D0 := Dev.new HH.out
  have HB : Below w.heap.size w (w.alloc (.cells cs 31)) := Below.new _
  obtain ⟨W0, hW0⟩ : ∃ W, W = w.alloc (.cells cs 31) := ⟨_, rfl⟩
  rw [← hW0] at D0 HB ⊢
  clear hW0
  go_wp2_with fail
  refine (sanity_any _).mono ?_
  rintro e w1 ⟨rfl, hb1⟩
  have D0 := D0.below hb1
  have HB := HB.trans (hb1.mono HB.size)
  clear hb1
  have l0 := HL.out.ld D0.lies (HwVal.size D0.val)
  go_wp2_with fail
  refine (smallC D0.val).mono ?_
  rintro e w2 ⟨rfl, hb2⟩
  have D0 := D0.below hb2
  have HB := HB.trans (hb2.mono HB.size)
  clear hb2 l0
  cases hsm : smallHw f m
  · clear hsm
    go_wp2
    go_ret
    exact ⟨rfl, HB⟩
  · obtain ⟨hva, h6, h200⟩ := smallHw_out hsm
    have HVA := Lib.hid hva
    clear hsm hva
    by_cases h60 : l.length ≤ 60
    · by_cases h60f : fs.length ≤ 60
      · have e1 : decide ((60 : Int) < (l.length : Int)) = false := by simp; omega
        have e2 : decide (60 < l.length) = false := by simp; omega
        have e3 : decide ((60 : Int) < (fs.length : Int)) = false := by simp; omega
        have e4 : decide (60 < fs.length) = false := by simp; omega
        have l0 := HL.out.ld D0.lies (HwVal.size D0.val)
        go_wp2_with fail
        refine (all_any cs f m r _ _ l fs _ D0.val HVA.out (by omega) ((HLa.out.below HB).more HB.size) ((HFa.out.below HB).more HB.size) (by omega)).mono ?_
        rintro e w3 ⟨cs3, v3, rfl, hv3, hr3, hb3⟩
        have D0 := D0.below hb3
        have HB := HB.trans (hb3.mono HB.size)
        have z3 := sz18 T N R K HL.out (HwVal.size hv3)
        have s3 := st1 (HwVal.size hv3) (HwVal.ones hv3) #[.slice none 0 0, .slice none 0 0, .int .u8 0, .int .u8 0, .int .u8 0, .int .u8 0, .int .u8 0, .int .u8 0, .int .u8 0, .int .u8 0, .int .u8 0, .int .u8 0, .int .u8 0, .int .u8 0, .int .u8 0, .int .u8 0, .int .u8 0, .int .u8 0] rfl
        obtain ⟨A3, c3, hrf3⟩ : ∃ A c, v3 = .slice A (Dv.runAll l fs f m).out.length c := by obtain ⟨A, c, h, _⟩ := hr3; exact ⟨A, c, h⟩
        subst hrf3
        have HR3 := Lib.hid hr3
        clear l0 e1 e2 e3 e4 hr3
        go_upto_region 5 with fail
        have hn3 : Below w3.heap.size w3 (w3.alloc (.cells cs3 31)) := Below.new _
        have D0 := D0.below hn3
        have HB := HB.trans (hn3.mono HB.size)
        have D3 : Dev (w3.alloc (.cells cs3 31)) w3.heap.size cs3 _ _ _ := Dev.new hv3
        have HR3 := Lib.hid ((HR3.out.below hn3).more hn3.size)
        obtain ⟨W3, hW3⟩ : ∃ W, W = w3.alloc (.cells cs3 31) := ⟨_, rfl⟩
        obtain ⟨p3, hp3⟩ : ∃ p, p = w3.heap.size := ⟨_, rfl⟩
        rw [← hW3] at D0 D3 HR3 HB
        rw [← hp3] at D3
        rw [← hW3, ← hp3]
        clear hW3 hp3 hn3 hv3 hb3 s3 z3
        have l0 := HL.out.ld D0.lies (HwVal.size D0.val)
        go_wp2_with fail
        refine (rall_any cs f m r _ _ l fs _ D0.val HVA.out (by omega) ((HLa.out.below HB).more HB.size) ((HFa.out.below HB).more HB.size) (by omega)).mono ?_
        rintro e w4 ⟨cs4, v4, rfl, hv4, hr4, hb4⟩
        have D0 := D0.below hb4
        have D3 := D3.below hb4
        have HR3 := Lib.hid ((HR3.out.below hb4).more hb4.size)
        have HB := HB.trans (hb4.mono HB.size)
        have z4 := sz18 T N R K HL.out (HwVal.size hv4)
        have s4 := st1 (HwVal.size hv4) (HwVal.ones hv4) #[.slice none 0 0, .slice none 0 0, .int .u8 0, .int .u8 0, .int .u8 0, .int .u8 0, .int .u8 0, .int .u8 0, .int .u8 0, .int .u8 0, .int .u8 0, .int .u8 0, .int .u8 0, .int .u8 0, .int .u8 0, .int .u8 0, .int .u8 0, .int .u8 0] rfl
        obtain ⟨A4, c4, hrf4⟩ : ∃ A c, v4 = .slice A (Dv.runAll l fs f m).out.length c := by obtain ⟨A, c, h, _⟩ := hr4; exact ⟨A, c, h⟩
        subst hrf4
        have HR4 := Lib.hid hr4
        clear l0 hr4
        go_upto_region 6 with fail
        have hn4 : Below w4.heap.size w4 (w4.alloc (.cells cs4 31)) := Below.new _
        have D0 := D0.below hn4
        have D3 := D3.below hn4
        have HB := HB.trans (hn4.mono HB.size)
        have D4 : Dev (w4.alloc (.cells cs4 31)) w4.heap.size cs4 _ _ _ := Dev.new hv4
        have HR3 := Lib.hid ((HR3.out.below hn4).more hn4.size)
        have HR4 := Lib.hid ((HR4.out.below hn4).more hn4.size)
        obtain ⟨W4, hW4⟩ : ∃ W, W = w4.alloc (.cells cs4 31) := ⟨_, rfl⟩
        obtain ⟨p4, hp4⟩ : ∃ p, p = w4.heap.size := ⟨_, rfl⟩
        rw [← hW4] at D0 D3 D4 HR3 HR4 HB
        rw [← hp4] at D4
        rw [← hW4, ← hp4]
        clear hW4 hp4 hn4 hv4 hb4 s4 z4
        have l3 := HL.out.ld D3.lies (HwVal.size D3.val)
        have l4 := HL.out.ld D4.lies (HwVal.size D4.val)
        go_wp2_with fail
        refine (rsameB D3.val D4.val).mono ?_
        rintro e w5 ⟨rfl, hb5⟩
        rw [Dv.hsame_refl]
        have HB := HB.trans (hb5.mono HB.size)
        have HR3 := Lib.hid ((HR3.out.below hb5).more hb5.size)
        have HR4 := Lib.hid ((HR4.out.below hb5).more hb5.size)
        clear l3 l4 hb5
        go_wp2_with fail
        refine (results_same _ _ _ _ HR3.out HR4.out (by have := Dv.out_len l fs f m; omega)).mono ?_
        rintro e w6 ⟨rfl, hb6⟩
        have HB := HB.trans (hb6.mono HB.size)
        clear hb6
        go_wp2
        go_ret
        exact ⟨rfl, HB⟩
      · have e1 : decide ((60 : Int) < (l.length : Int)) = false := by simp; omega
        have e2 : decide (60 < l.length) = false := by simp; omega
        have e3 : decide ((60 : Int) < (fs.length : Int)) = true := by simp; omega
        have e4 : decide (60 < fs.length) = true := by simp; omega
        go_wp2
        go_ret
        exact ⟨rfl, HB⟩
    · have e1 : decide ((60 : Int) < (l.length : Int)) = true := by simp; omega
      have e2 : decide (60 < l.length) = true := by simp; omega
      go_wp2
      go_ret
      exact ⟨rfl, HB⟩


open Go.ChangeShapes Go.WideShapes Go.ChangeAt Go.Deep

namespace lawAllC
set_option maxRecDepth 100000 in
theorem lifted (os : Os) (started : os.Started) (H : Type) (enc : TypeId × Value → H) :
    ReturnsInHanded {} Try.checked os 5 .any (Rows.deviceAllSpec.pre6 enc Try.prog Try.f5 Rows.deviceAllRow.domain false) (Rows.deviceAllSpec.post enc Try.prog Try.f5 false true false false) := by
  refine returnsInHanded_of_change (C := Try.checked) own started (by kernel_rfl) Try.func5
    (ChangeSpec.witness6 (enc := enc) (C := Try.checked) false ⟨#[], #[.agg #[.slice none 0 0, .slice none 0 0, .int .u8 0, .int .u8 0, .int .u8 0, .int .u8 0, .int .u8 0, .int .u8 0, .int .u8 0, .int .u8 0, .int .u8 0, .int .u8 0, .int .u8 0, .int .u8 0, .int .u8 0, .int .u8 0, .int .u8 0, .int .u8 0], .slice none 0 0, .slice none 0 0], []⟩ 8 (by kernel_rfl) (by kernel_rfl) (by kernel_rfl) (by kernel_rfl)) ?_
  intro W base args ds gs before hval0 hW hcnd _
  have hval : ∀ (j : Nat) t v, Try.f5.params[j]? = some t → args[j]? = some v → Value.okWide Try.prog W .any base t v := hval0
  have hW' := hW
  obtain ⟨p, q, hA0, hV, rfl, hfz, hnd⟩ := hW
  have hA : DataW.TrodAll enc Try.prog W 0 (fun _ => true) true Try.f5.params.toList args.toList ds p := hA0
  rw [Try.params5] at hA hval
  obtain ⟨v0, vs0, d0, ds0, p0, q0, hargs, rfl, rfl, h0, r0⟩ := trodAll_cons hA
  obtain ⟨v1, vs1, d1, ds1, p1, q1, rfl, rfl, rfl, h1, r1⟩ := trodAll_cons r0
  obtain ⟨v2, vs2, d2, ds2, p2, q2, rfl, rfl, rfl, h2, r2⟩ := trodAll_cons r1
  obtain ⟨rfl, rfl, rfl⟩ := trodAll_nil r2
  obtain rfl : args = #[v0, v1, v2] := by cases args; simp_all
  obtain ⟨rfl, rfl⟩ := trodVars_none hV
  have k0 := h0
  have lt0 : ∀ x ∈ p0, x.block < W.heap.size := by obtain ⟨m, hm⟩ := k0; exact DataW.trod_lt m _ _ _ hm
  obtain ⟨cs0, rfl, _⟩ := okWide_struct Try.underlying31 (hval 0 31 v0 rfl rfl)
  obtain ⟨zc0, zf0, zm0, zr0, e0, s0⟩ : ∃ (c' : Array Value) (f : List (List Nat)) (m : List ByteArray) (r : Nat → Int), (Value.agg cs0).cells.toList = c'.toList ∧ HwB W c' f m r := by obtain ⟨fuel, hf⟩ := h0; exact reads_hw hf
  obtain rfl : cs0 = zc0 := Array.toList_inj.1 (by simpa [Value.cells] using e0)
  have k1 := h1
  have lt1 : ∀ x ∈ p1, x.block < W.heap.size := by obtain ⟨m, hm⟩ := k1; exact DataW.trod_lt m _ _ _ hm
  obtain ⟨b1, n1, c1, rfl⟩ := okWide_slice Try.underlying49 (hval 1 49 v1 rfl rfl)
  obtain ⟨u1, x1, e1, s1⟩ : ∃ v f, (Value.slice b1 n1 c1).cells.toList = [v] ∧ RAccs W W.heap.size v f := by obtain ⟨fuel, hf⟩ := h1; exact reads_accs hf
  obtain rfl : u1 = Value.slice b1 n1 c1 := by simpa [Value.cells] using e1.symm
  have k2 := h2
  have lt2 : ∀ x ∈ p2, x.block < W.heap.size := by obtain ⟨m, hm⟩ := k2; exact DataW.trod_lt m _ _ _ hm
  obtain ⟨b2, n2, c2, rfl⟩ := okWide_slice Try.underlying50 (hval 2 50 v2 rfl rfl)
  obtain ⟨u2, x2, e2, s2⟩ : ∃ v f, (Value.slice b2 n2 c2).cells.toList = [v] ∧ RFlts W W.heap.size v f := by obtain ⟨fuel, hf⟩ := h2; exact reads_flts hf
  obtain rfl : u2 = Value.slice b2 n2 c2 := by simpa [Value.cells] using e2.symm
  clear hA0 hval0
  refine (lawAll (w := W) _ zf0 zm0 zr0 s0 _ x1 s1 _ x2 s2 ).mono fun e W' ⟨he, bel⟩ => ?_
  subst he
  exact ⟨_, rfl, _, _, _, [], _, [], hW', trodAll_mk1 (shut_bool Try.underlying4 _), (trodAll_cons_mk (Below.trod laidOut (by kernel_rfl) (of_decide_eq_true (by kernel_rfl)) k0 bel lt0) (trodAll_cons_mk (Below.trod laidOut (by kernel_rfl) (of_decide_eq_true (by kernel_rfl)) k1 bel lt1) (trodAll_cons_mk (Below.trod laidOut (by kernel_rfl) (of_decide_eq_true (by kernel_rfl)) k2 bel lt2) trodAll_mk0))), rfl, bel.frame _, fun h => by cases h⟩

theorem over : Rows.deviceAllRow.holds Try.pinned (OpenSpec.ofChange Rows.deviceAllSpec) :=
  OpenClaim.holds_of_wide 5 Try.f5 rfl rfl rfl rfl rfl rfl rfl ⟨rfl, rfl, rfl, rfl, rfl⟩ rfl rfl rfl rfl rfl (by kernel_rfl) Try.func5 (by kernel_rfl)
    (of_decide_eq_true (by kernel_rfl)) (by unfold Func.isWrapper; first | (rw [if_pos (by decide +kernel)]; kernel_rfl) | (rw [if_neg (by decide +kernel)]; exact ⟨rfl, rfl⟩))
    (fun os started H enc _ => lifted os started H enc)
end lawAllC

theorem deviceAll_holds : Rows.DeviceAllSaid := lawAllC.over

end Go.Proofs.Ytncgechmloekbaa
