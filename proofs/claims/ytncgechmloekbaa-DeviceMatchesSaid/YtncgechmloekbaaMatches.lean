/- DeviceMatches: for all arguments the law returns true, and what it was handed reads as it did. No conditions. -/
import Derived.Test.YtncgechmloekbaaDvT
import Derived.Deep.RegionHeld3
namespace Go.Proofs.Ytncgechmloekbaa
open Go.RowKit

set_option maxRecDepth 100000 in
set_option maxHeartbeats 4000000 in
theorem lawMatches {w : World} (cs : Array Value) (f : List (List Nat)) (m : List ByteArray) (r : Nat → Int) (hh : HwB w cs f m r) (k b c : Int) (s : ByteArray) (hbm : s.size ≤ maxLen) (cut : Bool) (nb : Int) (noise : Bool) (v : Value) (bits : List Int) (hv : RInts w w.heap.size v bits) :
    Calls Try.prog 3 #[.agg cs, .agg #[.int .i64 k, .int .i64 b, .int .i64 c, .string s], .agg #[.bool cut, .int .i64 nb, .bool noise], v] w fun e w' => e = .returned (.bool true) ∧ Below w.heap.size w w' := by
  obtain ⟨Ab, cb, rfl, hb1, hb2⟩ := hv.form_
  unfold maxLen at hb2
  obtain ⟨T, N, R, K, L⟩ := letters
  have HH := Lib.hid hh
  clear hh
  go_enter Try.func3, Try.ntmps3
  simp only [L.load, L.store, L.loadR]
  have la := L.agg
  have lz := L.size
  have ra := L.aggR
  have rz := L.sizeR
  have HL := Lib.hid L
  clear L
  go_upto_region 1 with fail
  obtain ⟨D0, QA, QF, HB⟩ := three_in (acc := #[.int .i64 k, .int .i64 b, .int .i64 c, .string s]) (flt := #[.bool cut, .int .i64 nb, .bool noise]) HH.out
  obtain ⟨W0, hW0⟩ : ∃ W, W = ((w.alloc (.cells cs 31)).alloc (.cells #[.int .i64 k, .int .i64 b, .int .i64 c, .string s] 33)).alloc (.cells #[.bool cut, .int .i64 nb, .bool noise] 35) := ⟨_, rfl⟩
  rw [← hW0] at D0 QA QF HB ⊢
  clear hW0
  have HV := Lib.hid hv
  clear hv
  go_wp2_with fail
  refine (sanity_any _).mono ?_
  rintro e w1 ⟨rfl, hb1⟩
  have D0 := D0.below hb1
  have QA := (hb1.block _ (lt_of_heap QA)).trans QA
  have QF := (hb1.block _ (lt_of_heap QF)).trans QF
  have HB := HB.trans (hb1.mono HB.size)
  clear hb1
  have l0 := HL.out.ld D0.lies (HwVal.size D0.val)
  go_wp2_with fail
  refine (smallC D0.val).mono ?_
  rintro e w2 ⟨rfl, hb2⟩
  have D0 := D0.below hb2
  have QA := (hb2.block _ (lt_of_heap QA)).trans QA
  have QF := (hb2.block _ (lt_of_heap QF)).trans QF
  have HB := HB.trans (hb2.mono HB.size)
  clear hb2 l0
  cases hsm : smallHw f m
  · clear hsm
    go_wp2
    go_ret
    exact ⟨rfl, HB⟩
  · obtain ⟨hva, h6, h200⟩ := smallHw_out hsm
    have HSM := Lib.hid (Fz.valid_small hva)
    have H3 : Hid (Fz.ex f b c = true → Fz.cellOf f b c ≤ 3) := Lib.hid (fun _ => Fz.at_le hva b.toNat c.toNat)
    clear hsm hva
    have g0 := cell_block (i := 0) QA rfl
    have g1 := cell_block (i := 1) QA rfl
    have g2 := cell_block (i := 2) QA rfl
    have g3 := cell_block (i := 3) QA rfl
    by_cases h300 : s.size ≤ 300
    · by_cases h6b : bits.length ≤ 6
      · have e1 : decide ((300 : Int) < (s.size : Int)) = false := by simp; omega
        have e2 : decide (300 < s.size) = false := by simp; omega
        have e3 : decide ((6 : Int) < (bits.length : Int)) = false := by simp; omega
        have e4 : decide (6 < bits.length) = false := by simp; omega
        clear h300 h6b h6
        have l0 := HL.out.ld D0.lies (HwVal.size D0.val)
        have f0 := cell_block (i := 0) QF rfl
        have f1 := cell_block (i := 1) QF rfl
        have f2 := cell_block (i := 2) QF rfl
        go_wp2_with fail
        refine (doC D0.val (fun _ h => h) HSM.out (by omega) k b c s cut noise nb hbm).mono ?_
        rintro e w3 ⟨cs3, rfl, hv3, hb3⟩
        have hv3 := hv3.b
        have D0 := D0.below hb3
        have QA := (hb3.block _ (lt_of_heap QA)).trans QA
        have QF := (hb3.block _ (lt_of_heap QF)).trans QF
        have HB := HB.trans (hb3.mono HB.size)
        have z3 := sz18 T N R K HL.out (HwVal.size hv3)
        have s3 := st2 (HwVal.size hv3) (HwVal.ones hv3) #[.slice none 0 0, .slice none 0 0, .int .u8 0, .int .u8 0, .int .u8 0, .int .u8 0, .int .u8 0, .int .u8 0, .int .u8 0, .int .u8 0, .int .u8 0, .int .u8 0, .int .u8 0, .int .u8 0, .int .u8 0, .int .u8 0, .int .u8 0, .int .u8 0] rfl
        clear l0 g0 g1 g2 g3 f0 f1 f2 e1 e2 e3 e4
        go_upto_region 5 with fail
        have hn3 : Below w3.heap.size w3 ((w3.alloc (.cells cs3 31)).alloc (.cells #[.int .i64 (doV f m k b c s cut noise), .string (doB f m k b c s cut)] 40)) := (Below.new _).trans ((Below.new _).mono (by simp))
        have D0 := D0.below hn3
        have QA := (hn3.block _ (lt_of_heap QA)).trans QA
        have QF := (hn3.block _ (lt_of_heap QF)).trans QF
        have HB := HB.trans (hn3.mono HB.size)
        have D3 : Dev ((w3.alloc (.cells cs3 31)).alloc (.cells #[.int .i64 (doV f m k b c s cut noise), .string (doB f m k b c s cut)] 40)) w3.heap.size cs3 _ _ _ := Dev.new2 hv3 _
        have R3 : Res ((w3.alloc (.cells cs3 31)).alloc (.cells #[.int .i64 (doV f m k b c s cut noise), .string (doB f m k b c s cut)] 40)) (w3.heap.size + 1) (.int .i64 (doV f m k b c s cut noise)) (.string (doB f m k b c s cut)) := heap_two _ _ _
        obtain ⟨W3, hW3⟩ : ∃ W, W = (w3.alloc (.cells cs3 31)).alloc (.cells #[.int .i64 (doV f m k b c s cut noise), .string (doB f m k b c s cut)] 40) := ⟨_, rfl⟩
        obtain ⟨p3, hp3⟩ : ∃ p, p = w3.heap.size := ⟨_, rfl⟩
        rw [← hW3] at D0 D3 R3 QA QF HB
        rw [← hp3] at D3
        rw [← hp3] at R3
        rw [← hW3, ← hp3]
        clear hW3 hp3 hn3 hv3 hb3 s3 z3
        have l0 := HL.out.ld D0.lies (HwVal.size D0.val)
        have g0 := cell_block (i := 0) QA rfl
        have g1 := cell_block (i := 1) QA rfl
        have g2 := cell_block (i := 2) QA rfl
        have g3 := cell_block (i := 3) QA rfl
        have f0 := cell_block (i := 0) QF rfl
        have f1 := cell_block (i := 1) QF rfl
        have f2 := cell_block (i := 2) QF rfl
        go_wp2_with fail
        refine (rdoC D0.val (fun _ h => h) HSM.out k b c H3.out (by omega) s cut noise nb hbm).mono ?_
        rintro e w4 ⟨cs4, rfl, hv4, hb4⟩
        have hv4 := hv4.b
        have D0 := D0.below hb4
        have D3 := D3.below hb4
        have R3 := R3.below hb4
        have QA := (hb4.block _ (lt_of_heap QA)).trans QA
        have QF := (hb4.block _ (lt_of_heap QF)).trans QF
        have HB := HB.trans (hb4.mono HB.size)
        have z4 := sz18 T N R K HL.out (HwVal.size hv4)
        have s4 := st2 (HwVal.size hv4) (HwVal.ones hv4) #[.slice none 0 0, .slice none 0 0, .int .u8 0, .int .u8 0, .int .u8 0, .int .u8 0, .int .u8 0, .int .u8 0, .int .u8 0, .int .u8 0, .int .u8 0, .int .u8 0, .int .u8 0, .int .u8 0, .int .u8 0, .int .u8 0, .int .u8 0, .int .u8 0] rfl
        clear l0 g0 g1 g2 g3 f0 f1 f2
        go_upto_region 6 with fail
        have hn4 : Below w4.heap.size w4 ((w4.alloc (.cells cs4 31)).alloc (.cells #[.int .i64 (doV f m k b c s cut noise), .string (doB f m k b c s cut)] 40)) := (Below.new _).trans ((Below.new _).mono (by simp))
        have D0 := D0.below hn4
        have D3 := D3.below hn4
        have R3 := R3.below hn4
        have QA := (hn4.block _ (lt_of_heap QA)).trans QA
        have QF := (hn4.block _ (lt_of_heap QF)).trans QF
        have HB := HB.trans (hn4.mono HB.size)
        have D4 : Dev ((w4.alloc (.cells cs4 31)).alloc (.cells #[.int .i64 (doV f m k b c s cut noise), .string (doB f m k b c s cut)] 40)) w4.heap.size cs4 _ _ _ := Dev.new2 hv4 _
        have R4 : Res ((w4.alloc (.cells cs4 31)).alloc (.cells #[.int .i64 (doV f m k b c s cut noise), .string (doB f m k b c s cut)] 40)) (w4.heap.size + 1) (.int .i64 (doV f m k b c s cut noise)) (.string (doB f m k b c s cut)) := heap_two _ _ _
        obtain ⟨W4, hW4⟩ : ∃ W, W = (w4.alloc (.cells cs4 31)).alloc (.cells #[.int .i64 (doV f m k b c s cut noise), .string (doB f m k b c s cut)] 40) := ⟨_, rfl⟩
        obtain ⟨p4, hp4⟩ : ∃ p, p = w4.heap.size := ⟨_, rfl⟩
        rw [← hW4] at D0 D3 D4 R3 R4 QA QF HB
        rw [← hp4] at D4
        rw [← hp4] at R4
        rw [← hW4, ← hp4]
        clear hW4 hp4 hn4 hv4 hb4 s4 z4
        have lR := HL.out.ldR D0.lies D0.val
        go_wp2_with fail
        refine (newC r _ bits _ ((HV.out.below HB).more HB.size)).mono ?_
        rintro e w5 ⟨cs5, rfl, hv5, hb5⟩
        have hv5 := hv5.b
        have D0 := D0.below hb5
        have D3 := D3.below hb5
        have D4 := D4.below hb5
        have R3 := R3.below hb5
        have R4 := R4.below hb5
        have HB := HB.trans (hb5.mono HB.size)
        have z5 := sz18 T N R K HL.out (HwVal.size hv5)
        have s5 := st1 (HwVal.size hv5) (HwVal.ones hv5) #[.slice none 0 0, .slice none 0 0, .int .u8 0, .int .u8 0, .int .u8 0, .int .u8 0, .int .u8 0, .int .u8 0, .int .u8 0, .int .u8 0, .int .u8 0, .int .u8 0, .int .u8 0, .int .u8 0, .int .u8 0, .int .u8 0, .int .u8 0, .int .u8 0] rfl
        clear lR
        go_upto_region 7 with fail
        have hn5 : Below w5.heap.size w5 (w5.alloc (.cells cs5 31)) := Below.new _
        have D0 := D0.below hn5
        have D3 := D3.below hn5
        have D4 := D4.below hn5
        have R3 := R3.below hn5
        have R4 := R4.below hn5
        have HB := HB.trans (hn5.mono HB.size)
        have D5 : Dev (w5.alloc (.cells cs5 31)) w5.heap.size cs5 _ _ _ := Dev.new hv5
        obtain ⟨W5, hW5⟩ : ∃ W, W = w5.alloc (.cells cs5 31) := ⟨_, rfl⟩
        obtain ⟨p5, hp5⟩ : ∃ p, p = w5.heap.size := ⟨_, rfl⟩
        rw [← hW5] at D0 D3 D4 D5 R3 R4 HB
        rw [← hp5] at D5
        rw [← hW5, ← hp5]
        clear hW5 hp5 hn5 hv5 hb5 s5 z5
        have lR := HL.out.ldR D0.lies D0.val
        go_wp2_with fail
        refine (rnewC r _ bits _ ((HV.out.below HB).more HB.size)).mono ?_
        rintro e w6 ⟨cs6, rfl, hv6, hb6⟩
        have hv6 := hv6.b
        have D0 := D0.below hb6
        have D3 := D3.below hb6
        have D4 := D4.below hb6
        have D5 := D5.below hb6
        have R3 := R3.below hb6
        have R4 := R4.below hb6
        have HB := HB.trans (hb6.mono HB.size)
        have z6 := sz18 T N R K HL.out (HwVal.size hv6)
        have s6 := st1 (HwVal.size hv6) (HwVal.ones hv6) #[.slice none 0 0, .slice none 0 0, .int .u8 0, .int .u8 0, .int .u8 0, .int .u8 0, .int .u8 0, .int .u8 0, .int .u8 0, .int .u8 0, .int .u8 0, .int .u8 0, .int .u8 0, .int .u8 0, .int .u8 0, .int .u8 0, .int .u8 0, .int .u8 0] rfl
        clear lR
        go_upto_region 8 with fail
        have hn6 : Below w6.heap.size w6 (w6.alloc (.cells cs6 31)) := Below.new _
        have D0 := D0.below hn6
        have D3 := D3.below hn6
        have D4 := D4.below hn6
        have D5 := D5.below hn6
        have R3 := R3.below hn6
        have R4 := R4.below hn6
        have HB := HB.trans (hn6.mono HB.size)
        have D6 : Dev (w6.alloc (.cells cs6 31)) w6.heap.size cs6 _ _ _ := Dev.new hv6
        obtain ⟨W6, hW6⟩ : ∃ W, W = w6.alloc (.cells cs6 31) := ⟨_, rfl⟩
        obtain ⟨p6, hp6⟩ : ∃ p, p = w6.heap.size := ⟨_, rfl⟩
        rw [← hW6] at D0 D3 D4 D5 D6 R3 R4 HB
        rw [← hp6] at D6
        rw [← hW6, ← hp6]
        clear hW6 hp6 hn6 hv6 hb6 s6 z6
        have D0 := D0.drew
        have D3 := D3.drew
        have D4 := D4.drew
        have D5 := D5.drew
        have D6 := D6.drew
        have R3 := R3.below ((Below.refl W6.heap.size W6).drew)
        have R4 := R4.below ((Below.refl W6.heap.size W6).drew)
        have HB := HB.drew
        have l0 := HL.out.ld D0.lies (HwVal.size D0.val)
        have l3 := HL.out.ld D3.lies (HwVal.size D3.val)
        have l4 := HL.out.ld D4.lies (HwVal.size D4.val)
        have l5 := HL.out.ld D5.lies (HwVal.size D5.val)
        have l6 := HL.out.ld D6.lies (HwVal.size D6.val)
        have c30 := R3.c0
        have c31 := R3.c1
        have c40 := R4.c0
        have c41 := R4.c1
        have HS1 := Lib.hid (Dv.hsame_refl (doF f m k b c s cut) (doM f m k b c s cut nb) r)
        have HS2 := Lib.hid (Dv.hsame_refl (Fz.newF bits) (newFlash bits) (newRoot bits r))
        go_region_held3 (fun W' => Sem.run Try.prog (loadCellsFrom ⟨w.heap.size, 0, none⟩ 0 N #[]) W' = .ok cs W' ∧ Sem.run Try.prog (loadCellsFrom ⟨p3, 0, none⟩ 0 N #[]) W' = .ok cs3 W' ∧ Sem.run Try.prog (loadCellsFrom ⟨p4, 0, none⟩ 0 N #[]) W' = .ok cs4 W' ∧ Sem.run Try.prog (loadCellsFrom ⟨p5, 0, none⟩ 0 N #[]) W' = .ok cs5 W' ∧ Sem.run Try.prog (loadCellsFrom ⟨p6, 0, none⟩ 0 N #[]) W' = .ok cs6 W' ∧ W'.cell? ⟨p3 + 1, 0, none⟩ = some (.int .i64 (doV f m k b c s cut noise)) ∧ W'.cell? ⟨p3 + 1, 1, none⟩ = some (.string (doB f m k b c s cut)) ∧ W'.cell? ⟨p4 + 1, 0, none⟩ = some (.int .i64 (doV f m k b c s cut noise)) ∧ W'.cell? ⟨p4 + 1, 1, none⟩ = some (.string (doB f m k b c s cut))) (first | assumption | exact ⟨l0, l3, l4, l5, l6, c30, c31, c40, c41⟩) (first
          | (go_at_call 14; (first | (with_reducible refine (rsameB D3.val D4.val).mono ?_) | (with_reducible refine (rsameB D0.val D3.val).mono ?_) | (with_reducible refine (rsameB D5.val D6.val).mono ?_)); rintro e w10 ⟨rfl, hb10⟩; (first | rw [HS1.out] | rw [HS2.out] | skip); have D0 := D0.below hb10; have D3 := D3.below hb10; have D4 := D4.below hb10; have D5 := D5.below hb10; have D6 := D6.below hb10; have R3 := R3.below hb10; have R4 := R4.below hb10; have HB := HB.trans (hb10.mono HB.size); have l0 := HL.out.ld D0.lies (HwVal.size D0.val); have l3 := HL.out.ld D3.lies (HwVal.size D3.val); have l4 := HL.out.ld D4.lies (HwVal.size D4.val); have l5 := HL.out.ld D5.lies (HwVal.size D5.val); have l6 := HL.out.ld D6.lies (HwVal.size D6.val); have c30 := R3.c0; have c31 := R3.c1; have c40 := R4.c0; have c41 := R4.c1; clear hb10)
          | (go_at_call 15; (with_reducible refine (sameB D0.val D3.val).mono ?_); rintro e w10 ⟨rfl, hb10⟩; have D0 := D0.below hb10; have D3 := D3.below hb10; have D4 := D4.below hb10; have D5 := D5.below hb10; have D6 := D6.below hb10; have R3 := R3.below hb10; have R4 := R4.below hb10; have HB := HB.trans (hb10.mono HB.size); have l0 := HL.out.ld D0.lies (HwVal.size D0.val); have l3 := HL.out.ld D3.lies (HwVal.size D3.val); have l4 := HL.out.ld D4.lies (HwVal.size D4.val); have l5 := HL.out.ld D5.lies (HwVal.size D5.val); have l6 := HL.out.ld D6.lies (HwVal.size D6.val); have c30 := R3.c0; have c31 := R3.c1; have c40 := R4.c0; have c41 := R4.c1; clear hb10))
        all_goals
          go_wp2
          go_ret
          exact ⟨rfl, HB⟩
      · have e1 : decide ((300 : Int) < (s.size : Int)) = false := by simp; omega
        have e2 : decide (300 < s.size) = false := by simp; omega
        have e3 : decide ((6 : Int) < (bits.length : Int)) = true := by simp; omega
        have e4 : decide (6 < bits.length) = true := by simp; omega
        go_wp2
        go_ret
        exact ⟨rfl, HB⟩
    · have e1 : decide ((300 : Int) < (s.size : Int)) = true := by simp; omega
      have e2 : decide (300 < s.size) = true := by simp; omega
      go_wp2
      go_ret
      exact ⟨rfl, HB⟩


open Go.ChangeShapes Go.WideShapes Go.ChangeAt Go.Deep

namespace lawMatchesC
set_option maxRecDepth 100000 in
theorem lifted (os : Os) (started : os.Started) (H : Type) (enc : TypeId × Value → H) :
    ReturnsInHanded {} Try.checked os 3 .any (Rows.deviceMatchesSpec.pre6 enc Try.prog Try.f3 Rows.deviceMatchesRow.domain false) (Rows.deviceMatchesSpec.post enc Try.prog Try.f3 false true false false) := by
  refine returnsInHanded_of_change (C := Try.checked) own started (by kernel_rfl) Try.func3
    (ChangeSpec.witness6 (enc := enc) (C := Try.checked) false ⟨#[], #[.agg #[.slice none 0 0, .slice none 0 0, .int .u8 0, .int .u8 0, .int .u8 0, .int .u8 0, .int .u8 0, .int .u8 0, .int .u8 0, .int .u8 0, .int .u8 0, .int .u8 0, .int .u8 0, .int .u8 0, .int .u8 0, .int .u8 0, .int .u8 0, .int .u8 0], .agg #[.int .i64 0, .int .i64 0, .int .i64 0, .string ⟨#[]⟩], .agg #[.bool false, .int .i64 0, .bool false], .slice none 0 0], []⟩ 8 (by kernel_rfl) (by kernel_rfl) (by kernel_rfl) (by kernel_rfl)) ?_
  intro W base args ds gs before hval0 hW hcnd _
  have hval : ∀ (j : Nat) t v, Try.f3.params[j]? = some t → args[j]? = some v → Value.okWide Try.prog W .any base t v := hval0
  have hW' := hW
  obtain ⟨p, q, hA0, hV, rfl, hfz, hnd⟩ := hW
  have hA : DataW.TrodAll enc Try.prog W 0 (fun _ => true) true Try.f3.params.toList args.toList ds p := hA0
  rw [Try.params3] at hA hval
  obtain ⟨v0, vs0, d0, ds0, p0, q0, hargs, rfl, rfl, h0, r0⟩ := trodAll_cons hA
  obtain ⟨v1, vs1, d1, ds1, p1, q1, rfl, rfl, rfl, h1, r1⟩ := trodAll_cons r0
  obtain ⟨v2, vs2, d2, ds2, p2, q2, rfl, rfl, rfl, h2, r2⟩ := trodAll_cons r1
  obtain ⟨v3, vs3, d3, ds3, p3, q3, rfl, rfl, rfl, h3, r3⟩ := trodAll_cons r2
  obtain ⟨rfl, rfl, rfl⟩ := trodAll_nil r3
  obtain rfl : args = #[v0, v1, v2, v3] := by cases args; simp_all
  obtain ⟨rfl, rfl⟩ := trodVars_none hV
  have k0 := h0
  have lt0 : ∀ x ∈ p0, x.block < W.heap.size := by obtain ⟨m, hm⟩ := k0; exact DataW.trod_lt m _ _ _ hm
  obtain ⟨cs0, rfl, _⟩ := okWide_struct Try.underlying31 (hval 0 31 v0 rfl rfl)
  obtain ⟨zc0, zf0, zm0, zr0, e0, s0⟩ : ∃ (c' : Array Value) (f : List (List Nat)) (m : List ByteArray) (r : Nat → Int), (Value.agg cs0).cells.toList = c'.toList ∧ HwB W c' f m r := by obtain ⟨fuel, hf⟩ := h0; exact reads_hw hf
  obtain rfl : cs0 = zc0 := Array.toList_inj.1 (by simpa [Value.cells] using e0)
  have k1 := h1
  have lt1 : ∀ x ∈ p1, x.block < W.heap.size := by obtain ⟨m, hm⟩ := k1; exact DataW.trod_lt m _ _ _ hm
  obtain ⟨cs1, rfl, _⟩ := okWide_struct Try.underlying33 (hval 1 33 v1 rfl rfl)
  obtain ⟨zk1, zb1, zc1, zs1, e1, s1⟩ : ∃ (zk1 zb1 zc1 : Int) (zs1 : ByteArray), (Value.agg cs1).cells.toList = [.int .i64 zk1, .int .i64 zb1, .int .i64 zc1, .string zs1] ∧ zs1.size ≤ maxLen := by obtain ⟨fuel, hf⟩ := h1; exact reads_acc hf
  obtain rfl : cs1 = #[.int .i64 zk1, .int .i64 zb1, .int .i64 zc1, .string zs1] := by cases cs1; simpa [Value.cells] using e1
  have k2 := h2
  have lt2 : ∀ x ∈ p2, x.block < W.heap.size := by obtain ⟨m, hm⟩ := k2; exact DataW.trod_lt m _ _ _ hm
  obtain ⟨cs2, rfl, _⟩ := okWide_struct Try.underlying35 (hval 2 35 v2 rfl rfl)
  obtain ⟨zt2, zn2, zo2, e2⟩ : ∃ (zt2 : Bool) (zn2 : Int) (zo2 : Bool), (Value.agg cs2).cells.toList = [.bool zt2, .int .i64 zn2, .bool zo2] := by obtain ⟨fuel, hf⟩ := h2; exact reads_flt hf
  obtain rfl : cs2 = #[.bool zt2, .int .i64 zn2, .bool zo2] := by cases cs2; simpa [Value.cells] using e2
  have k3 := h3
  have lt3 : ∀ x ∈ p3, x.block < W.heap.size := by obtain ⟨m, hm⟩ := k3; exact DataW.trod_lt m _ _ _ hm
  obtain ⟨b3, n3, c3, rfl⟩ := okWide_slice Try.underlying36 (hval 3 36 v3 rfl rfl)
  obtain ⟨u3, x3, e3, s3⟩ : ∃ v f, (Value.slice b3 n3 c3).cells.toList = [v] ∧ RInts W W.heap.size v f := by obtain ⟨fuel, hf⟩ := h3; exact reads_ints hf
  obtain rfl : u3 = Value.slice b3 n3 c3 := by simpa [Value.cells] using e3.symm
  clear hA0 hval0
  refine (lawMatches (w := W) _ zf0 zm0 zr0 s0 zk1 zb1 zc1 zs1 s1 zt2 zn2 zo2 _ x3 s3 ).mono fun e W' ⟨he, bel⟩ => ?_
  subst he
  exact ⟨_, rfl, _, _, _, [], _, [], hW', trodAll_mk1 (shut_bool Try.underlying4 _), (trodAll_cons_mk (Below.trod laidOut (by kernel_rfl) (of_decide_eq_true (by kernel_rfl)) k0 bel lt0) (trodAll_cons_mk (Below.trod laidOut (by kernel_rfl) (of_decide_eq_true (by kernel_rfl)) k1 bel lt1) (trodAll_cons_mk (Below.trod laidOut (by kernel_rfl) (of_decide_eq_true (by kernel_rfl)) k2 bel lt2) (trodAll_cons_mk (Below.trod laidOut (by kernel_rfl) (of_decide_eq_true (by kernel_rfl)) k3 bel lt3) trodAll_mk0)))), rfl, bel.frame _, fun h => by cases h⟩

theorem over : Rows.deviceMatchesRow.holds Try.pinned (OpenSpec.ofChange Rows.deviceMatchesSpec) :=
  OpenClaim.holds_of_wide 3 Try.f3 rfl rfl rfl rfl rfl rfl rfl ⟨rfl, rfl, rfl, rfl, rfl⟩ rfl rfl rfl rfl rfl (by kernel_rfl) Try.func3 (by kernel_rfl)
    (of_decide_eq_true (by kernel_rfl)) (by unfold Func.isWrapper; first | (rw [if_pos (by decide +kernel)]; kernel_rfl) | (rw [if_neg (by decide +kernel)]; exact ⟨rfl, rfl⟩))
    (fun os started H enc _ => lifted os started H enc)
end lawMatchesC

theorem deviceMatches_holds : Rows.DeviceMatchesSaid := lawMatchesC.over

end Go.Proofs.Ytncgechmloekbaa
