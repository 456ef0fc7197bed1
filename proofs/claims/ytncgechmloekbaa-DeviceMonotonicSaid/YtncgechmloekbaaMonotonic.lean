/- DeviceMonotonic: for all arguments the law returns true, and what it was handed reads as it did. No conditions. -/
import Derived.Test.YtncgechmloekbaaDvAll
import Derived.Test.YtncgechmloekbaaFzH
namespace Go.Proofs.Ytncgechmloekbaa
open Go.RowKit

theorem Dv.F_hits (f : List (List Nat)) (m : List ByteArray) (a : Dv.Acc) (x : Dv.Flt) : ∃ L, Dv.F f m a x = Fz.hits f L := by
  unfold Dv.F doF runF
  split
  · split
    · exact ⟨[⟨a.b, a.c, x.cut⟩], rfl⟩
    · exact ⟨[], rfl⟩
  · exact ⟨[], rfl⟩
theorem Dv.run_hits (l : List Dv.Acc) (fs : List Dv.Flt) : ∀ (n k : Nat) (f : List (List Nat)) (m : List ByteArray) (out : List (Int × ByteArray)), ∃ L, (Dv.runFrom l fs n k f m out).f = Fz.hits f L
  | 0, _, _, _, _ => ⟨[], rfl⟩
  | n + 1, k, f, m, out => by
    rw [Dv.runFrom]
    split
    · split
      · exact Dv.F_hits f m _ _
      · obtain ⟨L1, h1⟩ := Dv.F_hits f m (Dv.nthA l k) (Dv.nthT fs k)
        obtain ⟨L2, h2⟩ := Dv.run_hits l fs n (k + 1) (Dv.F f m (Dv.nthA l k) (Dv.nthT fs k)) (Dv.M f m (Dv.nthA l k) (Dv.nthT fs k)) (out ++ [(Dv.V f m (Dv.nthA l k) (Dv.nthT fs k), Dv.B f m (Dv.nthA l k) (Dv.nthT fs k))])
        refine ⟨L1 ++ L2, ?_⟩
        rw [h2, h1]
        simp [Fz.hits, List.foldl_append]
    · exact ⟨[], rfl⟩
theorem Fz.cells_up {f : List (List Nat)} (h : Fz.valid f = true) (L : List Fz.Hit) (i j : Nat) : Fz.at_ f i j = Fz.at_ (Fz.hits f L) i j ∨ (Fz.at_ f i j ≤ 1 ∧ Fz.at_ f i j ≤ Fz.at_ (Fz.hits f L) i j ∧ Fz.at_ (Fz.hits f L) i j ≤ 2) := by
  refine Fz.hits_keep (R := fun _ _ a b => a = b ∨ (a ≤ 1 ∧ a ≤ b ∧ b ≤ 2)) f L (fun _ _ _ => .inl rfl) (fun _ _ a b c h1 h2 => by omega) (fun g hg i j cut => ?_) i j
  have h1 := Fz.at_le h i j
  have h2 := hg i j
  have h3 : Fz.at_ g i j ≤ 3 := by omega
  unfold Fz.next
  split
  · exact .inl rfl
  · split <;> right <;> omega

set_option maxRecDepth 100000 in
set_option maxHeartbeats 4000000 in
theorem lawMonotonic {w : World} (cs : Array Value) (f : List (List Nat)) (m : List ByteArray) (r : Nat → Int) (hh : HwB w cs f m r) (vl : Value) (l : List Dv.Acc) (hl : RAccs w w.heap.size vl l) (vf : Value) (fs : List Dv.Flt) (hf : RFlts w w.heap.size vf fs) :
    Calls Try.prog 7 #[.agg cs, vl, vf] w fun e w' => e = .returned (.bool true) ∧ Below w.heap.size w w' := by
  have HLa := Lib.hid hl
  have HFa := Lib.hid hf
  obtain ⟨Al, cl, rfl, hln, hlc, -, -⟩ := hl
  obtain ⟨Af, cf, rfl, hfn, hfc, -⟩ := hf
  unfold maxLen at hlc hfc
  obtain ⟨T, N, R, K, L⟩ := letters
  have HH := Lib.hid hh
  clear hh
  go_enter Try.func7, Try.ntmps7
  simp only [L.load, L.store]
  have la := L.agg
  have lz := L.size
  have HL := Lib.hid L
  clear L
  go_upto_region 1 with fail
  have D0 := Dev.new HH.out
  have HB : Below w.heap.size w (w.alloc (.cells cs 31)) := Below.new _
  obtain ⟨W0, hW0⟩ : ∃ W, W = w.alloc (.cells cs 31) := ⟨_, rfl⟩
  rw [← hW0] at D0 HB ⊢
  clear hW0
  go_wp2_with fail
  refine (sanity_any _).mono ?_
  rintro e w1 ⟨rfl, hb1⟩
  have D0 := D0.below hb1
  have HB := HB.trans (hb1.mono HB.size)
  clear hb1
  have l0 := HL.out.ld D0.lies (HwVal.size D0.val)
  go_wp2_with fail
  refine (smallC D0.val).mono ?_
  rintro e w2 ⟨rfl, hb2⟩
  have D0 := D0.below hb2
  have HB := HB.trans (hb2.mono HB.size)
  clear hb2 l0
  cases hsm : smallHw f m
  · clear hsm
    go_wp2
    go_ret
    exact ⟨rfl, HB⟩
  · obtain ⟨hva, h6, h200⟩ := smallHw_out hsm
    have HVA := Lib.hid hva
    clear hsm hva
    by_cases h60 : l.length ≤ 60
    · by_cases h60f : fs.length ≤ 60
      · have e1 : decide ((60 : Int) < (l.length : Int)) = false := by simp; omega
        have e2 : decide (60 < l.length) = false := by simp; omega
        have e3 : decide ((60 : Int) < (fs.length : Int)) = false := by simp; omega
        have e4 : decide (60 < fs.length) = false := by simp; omega
        have l0 := HL.out.ld D0.lies (HwVal.size D0.val)
        go_wp2_with fail
        refine (all_any cs f m r _ _ l fs _ D0.val HVA.out (by omega) ((HLa.out.below HB).more HB.size) ((HFa.out.below HB).more HB.size) (by omega)).mono ?_
        rintro e w3 ⟨cs3, v3, rfl, hv3, hr3, hb3⟩
        have D0 := D0.below hb3
        have HB := HB.trans (hb3.mono HB.size)
        have z3 := sz18 T N R K HL.out (HwVal.size hv3)
        have s3 := st1 (HwVal.size hv3) (HwVal.ones hv3) #[.slice none 0 0, .slice none 0 0, .int .u8 0, .int .u8 0, .int .u8 0, .int .u8 0, .int .u8 0, .int .u8 0, .int .u8 0, .int .u8 0, .int .u8 0, .int .u8 0, .int .u8 0, .int .u8 0, .int .u8 0, .int .u8 0, .int .u8 0, .int .u8 0] rfl
        obtain ⟨A3, c3, hrf3⟩ : ∃ A c, v3 = .slice A (Dv.runAll l fs f m).out.length c := by obtain ⟨A, c, h, _⟩ := hr3; exact ⟨A, c, h⟩
        subst hrf3
        have HR3 := Lib.hid hr3
        clear l0 e1 e2 e3 e4 hr3
        go_upto_region 5 with fail
        have hn3 : Below w3.heap.size w3 (w3.alloc (.cells cs3 31)) := Below.new _
        have D0 := D0.below hn3
        have HB := HB.trans (hn3.mono HB.size)
        have D3 : Dev (w3.alloc (.cells cs3 31)) w3.heap.size cs3 _ _ _ := Dev.new hv3
        have HR3 := Lib.hid ((HR3.out.below hn3).more hn3.size)
        obtain ⟨W3, hW3⟩ : ∃ W, W = w3.alloc (.cells cs3 31) := ⟨_, rfl⟩
        obtain ⟨p3, hp3⟩ : ∃ p, p = w3.heap.size := ⟨_, rfl⟩
        rw [← hW3] at D0 D3 HR3 HB
        rw [← hp3] at D3
        rw [← hW3, ← hp3]
        clear hW3 hp3 hn3 hv3 hb3 s3 z3
        obtain ⟨L, hL⟩ : ∃ L, (Dv.runAll l fs f m).f = Fz.hits f L := Dv.run_hits l fs _ _ _ _ _
        rw [hL] at D3
        clear hL HR3
        obtain ⟨fx, hfx⟩ : ∃ g, g = Fz.hits f L := ⟨_, rfl⟩
        rw [← hfx] at D3
        have hlx : fx.length = f.length := by rw [hfx, Fz.hits_length]
        have HRL : Hid (∀ i, (nthRow fx i).length = (nthRow f i).length) := Lib.hid (fun i => by rw [hfx, Fz.hits_row_length])
        have HLV : Hid (∀ b : Int, Fz.level f b false ≤ Fz.level fx b false) := Lib.hid (fun b => by rw [hfx]; exact Fz.level_hits HVA.out L b false)
        have HCU : Hid (∀ i j, nth (nthRow f i) j = nth (nthRow fx i) j ∨ (nth (nthRow f i) j ≤ 1 ∧ nth (nthRow f i) j ≤ nth (nthRow fx i) j ∧ nth (nthRow fx i) j ≤ 2)) := Lib.hid (fun i j => by rw [hfx]; exact Fz.cells_up HVA.out L i j)
        clear hfx
        obtain ⟨vx, hvx, hkx⟩ := HwVal.rows D3.val
        obtain ⟨Ax, cx, rfl⟩ := hkx.form_
        obtain ⟨v0, hv0, hk0⟩ := HwVal.rows D0.val
        obtain ⟨A0, c0, rfl⟩ := hk0.form_
        have x0 := cell_block (i := 0) D3.lies hvx
        have y0 := cell_block (i := 0) D0.lies hv0
        have RX := Lib.hid hkx.plain
        have R0 := Lib.hid hk0.plain
        have hpx := D3.lt
        have hp0 := D0.lt
        have hf6 : f.length ≤ 4 := Dv.valid_len HVA.out
        have hlx1 : fx.length ≤ f.length := by omega
        have hlx2 : f.length ≤ fx.length := by omega
        have eL : ((fx.length : Int) != (f.length : Int)) = false := by simp; omega
        have HB3 := Lib.hid HB
        clear hkx hk0 hvx hv0 D0 D3 hlx HB
        go_wp2
        go_loopw [11] (fun i wr => ∃ k : Nat, k ≤ f.length ∧ i = .int .i64 k ∧ Hid (Und W3 wr)) (fun i _ => f.length - (intOf i).toNat)
        case atStart => exact ⟨0, Nat.zero_le _, rfl, Lib.hid ⟨Below.refl _ _⟩⟩
        case round =>
          obtain ⟨k, hk, rfl, HU⟩ := hrel
          by_cases hlt : k < f.length
          · obtain ⟨bx, ox, Ax', cx', rfl, hbx, hcx, hnx, hmx, -, hgx⟩ := RX.out.row k (by omega)
            obtain ⟨b0, o0, A0', c0', rfl, hb0, hc0, hn0, hm0, -, hg0⟩ := R0.out.row k hlt
            unfold maxLen at hmx hm0
            have HGX := Lib.hid hgx
            have HG0 := Lib.hid hg0
            have hrl := HRL.out k
            have hrl1 : (nthRow fx k).length ≤ (nthRow f k).length := by omega
            have hrl2 : (nthRow f k).length ≤ (nthRow fx k).length := by omega
            have eR : (((nthRow fx k).length : Int) != ((nthRow f k).length : Int)) = false := by simp; omega
            have dL : decide (Fz.level fx k false < Fz.level f k false) = false := by have := HLV.out k; simp; omega
            have hkx : k < fx.length := by omega
            have SU : Hid (∀ W', Und W3 W' → W'.cell? ⟨p3, 0, none⟩ = some (.slice (some ⟨bx, ox, none⟩) fx.length cx) ∧ W'.cell? ⟨w.heap.size, 0, none⟩ = some (.slice (some ⟨b0, o0, none⟩) f.length c0) ∧ W'.cell? ⟨bx, ox + k, none⟩ = some (.slice Ax' (nthRow fx k).length cx') ∧ W'.cell? ⟨b0, o0 + k, none⟩ = some (.slice A0' (nthRow f k).length c0') ∧ Und W3 W') := Lib.hid (fun W' h => ⟨Und.cell h x0 hpx, Und.cell h y0 hp0, Und.cell h hcx hbx, Und.cell h hc0 hb0, h⟩)
            have hUr := HU.out
            obtain ⟨q0, q1, q2, q3, -⟩ := SU.out _ HU.out
            clear hgx hg0 hrl hcx hc0
            go_upto_region 10 with fail
            go_region_held3 (fun W' => W'.cell? ⟨p3, 0, none⟩ = some (.slice (some ⟨bx, ox, none⟩) fx.length cx) ∧ W'.cell? ⟨w.heap.size, 0, none⟩ = some (.slice (some ⟨b0, o0, none⟩) f.length c0) ∧ W'.cell? ⟨bx, ox + k, none⟩ = some (.slice Ax' (nthRow fx k).length cx') ∧ W'.cell? ⟨b0, o0 + k, none⟩ = some (.slice A0' (nthRow f k).length c0') ∧ Und W3 W') (first | assumption | exact SU.out _ hUr.drew | exact SU.out _ hU) ((go_at_call 20; go_split_ands; (first | (with_reducible refine (least_any _ fx _ _ ((RX.out.below (Und.keeps (by assumption))).more (Und.keeps (by assumption)).size)).mono ?_) | (with_reducible refine (least_any _ f _ _ ((R0.out.below (Und.keeps (by assumption))).more (Und.keeps (by assumption)).size)).mono ?_)); rintro e w6 ⟨rfl, hb6⟩; have hU := Und.below (by assumption) hb6))
            obtain ⟨q0, q1, q2, q3, -⟩ := SU.out _ hU
            have HU6 := Lib.hid hU
            clear hUr hU eR dL
            go_wp2
            go_loop [12] (fun i => ∃ j : Nat, j ≤ (nthRow f k).length ∧ i = .int .i64 j) (fun i => (nthRow f k).length - (intOf i).toNat)
            case atStart => exact ⟨0, Nat.zero_le _, rfl⟩
            case round =>
              obtain ⟨j, hj, rfl⟩ := hrel
              by_cases hlj : j < (nthRow f k).length
              · obtain ⟨bx', ox', rfl, hbx', hgx⟩ := HGX.out (by omega)
                obtain ⟨b0', o0', rfl, hb0', hg0⟩ := HG0.out (by omega)
                have r1 := Und.cell HU6.out (hgx j (by omega)) hbx'
                have r2 := Und.cell HU6.out (hg0 j hlj) hb0'
                have hlj2 : j < (nthRow fx k).length := by omega
                have hcu := HCU.out k j
                clear hgx hg0
                by_cases hab : nth (nthRow f k) j = nth (nthRow fx k) j
                · have eN : ((nth (nthRow f k) j : Int) != (nth (nthRow fx k) j : Int)) = false := by simp; omega
                  clear hcu hab
                  go_wp2
                  go_round
                  case rel => exact ⟨j + 1, by omega, by go_num⟩
                  case measure => simp [intOf]; omega
                · have hcu2 : nth (nthRow f k) j ≤ 1 ∧ nth (nthRow f k) j ≤ nth (nthRow fx k) j ∧ nth (nthRow fx k) j ≤ 2 := by omega
                  have eN : ((nth (nthRow f k) j : Int) != (nth (nthRow fx k) j : Int)) = true := by simp; omega
                  have u1 : decide ((1 : Int) < (nth (nthRow f k) j : Int)) = false := by simp; omega
                  have u2 : decide ((nth (nthRow fx k) j : Int) < (nth (nthRow f k) j : Int)) = false := by simp; omega
                  have u3 : decide ((2 : Int) < (nth (nthRow fx k) j : Int)) = false := by simp; omega
                  have u4 : decide (1 < nth (nthRow f k) j) = false := by simp; omega
                  have u5 : decide (nth (nthRow fx k) j < nth (nthRow f k) j) = false := by simp; omega
                  have u6 : decide (2 < nth (nthRow fx k) j) = false := by simp; omega
                  clear hcu hcu2 hab
                  go_wp2
                  go_round
                  case rel => exact ⟨j + 1, by omega, by go_num⟩
                  case measure => simp [intOf]; omega
              · go_wp2
                go_roundw
                case rel => exact ⟨k + 1, by omega, by go_num, HU6⟩
                case measure => simp [intOf]; omega
          · obtain ⟨q1, q2⟩ : wr.cell? ⟨w.heap.size, 0, none⟩ = some (.slice A0 f.length c0) ∧ True := ⟨Und.cell HU.out y0 hp0, trivial⟩
            go_wp2
            go_ret
            exact ⟨rfl, HB3.out.trans (HU.out.keeps.mono HB3.out.size)⟩
      · have e1 : decide ((60 : Int) < (l.length : Int)) = false := by simp; omega
        have e2 : decide (60 < l.length) = false := by simp; omega
        have e3 : decide ((60 : Int) < (fs.length : Int)) = true := by simp; omega
        have e4 : decide (60 < fs.length) = true := by simp; omega
        go_wp2
        go_ret
        exact ⟨rfl, HB⟩
    · have e1 : decide ((60 : Int) < (l.length : Int)) = true := by simp; omega
      have e2 : decide (60 < l.length) = true := by simp; omega
      go_wp2
      go_ret
      exact ⟨rfl, HB⟩


open Go.ChangeShapes Go.WideShapes Go.ChangeAt Go.Deep

namespace lawMonotonicC
set_option maxRecDepth 100000 in
theorem lifted (os : Os) (started : os.Started) (H : Type) (enc : TypeId × Value → H) :
    ReturnsInHanded {} Try.checked os 7 .any (Rows.deviceMonotonicSpec.pre6 enc Try.prog Try.f7 Rows.deviceMonotonicRow.domain false) (Rows.deviceMonotonicSpec.post enc Try.prog Try.f7 false true false false) := by
  refine returnsInHanded_of_change (C := Try.checked) own started (by kernel_rfl) Try.func7
    (ChangeSpec.witness6 (enc := enc) (C := Try.checked) false ⟨#[], #[.agg #[.slice none 0 0, .slice none 0 0, .int .u8 0, .int .u8 0, .int .u8 0, .int .u8 0, .int .u8 0, .int .u8 0, .int .u8 0, .int .u8 0, .int .u8 0, .int .u8 0, .int .u8 0, .int .u8 0, .int .u8 0, .int .u8 0, .int .u8 0, .int .u8 0], .slice none 0 0, .slice none 0 0], []⟩ 8 (by kernel_rfl) (by kernel_rfl) (by kernel_rfl) (by kernel_rfl)) ?_
  intro W base args ds gs before hval0 hW hcnd _
  have hval : ∀ (j : Nat) t v, Try.f7.params[j]? = some t → args[j]? = some v → Value.okWide Try.prog W .any base t v := hval0
  have hW' := hW
  obtain ⟨p, q, hA0, hV, rfl, hfz, hnd⟩ := hW
  have hA : DataW.TrodAll enc Try.prog W 0 (fun _ => true) true Try.f7.params.toList args.toList ds p := hA0
  rw [Try.params7] at hA hval
  obtain ⟨v0, vs0, d0, ds0, p0, q0, hargs, rfl, rfl, h0, r0⟩ := trodAll_cons hA
  obtain ⟨v1, vs1, d1, ds1, p1, q1, rfl, rfl, rfl, h1, r1⟩ := trodAll_cons r0
  obtain ⟨v2, vs2, d2, ds2, p2, q2, rfl, rfl, rfl, h2, r2⟩ := trodAll_cons r1
  obtain ⟨rfl, rfl, rfl⟩ := trodAll_nil r2
  obtain rfl : args = #[v0, v1, v2] := by cases args; simp_all
  obtain ⟨rfl, rfl⟩ := trodVars_none hV
  have k0 := h0
  have lt0 : ∀ x ∈ p0, x.block < W.heap.size := by obtain ⟨m, hm⟩ := k0; exact DataW.trod_lt m _ _ _ hm
  obtain ⟨cs0, rfl, _⟩ := okWide_struct Try.underlying31 (hval 0 31 v0 rfl rfl)
  obtain ⟨zc0, zf0, zm0, zr0, e0, s0⟩ : ∃ (c' : Array Value) (f : List (List Nat)) (m : List ByteArray) (r : Nat → Int), (Value.agg cs0).cells.toList = c'.toList ∧ HwB W c' f m r := by obtain ⟨fuel, hf⟩ := h0; exact reads_hw hf
  obtain rfl : cs0 = zc0 := Array.toList_inj.1 (by simpa [Value.cells] using e0)
  have k1 := h1
  have lt1 : ∀ x ∈ p1, x.block < W.heap.size := by obtain ⟨m, hm⟩ := k1; exact DataW.trod_lt m _ _ _ hm
  obtain ⟨b1, n1, c1, rfl⟩ := okWide_slice Try.underlying49 (hval 1 49 v1 rfl rfl)
  obtain ⟨u1, x1, e1, s1⟩ : ∃ v f, (Value.slice b1 n1 c1).cells.toList = [v] ∧ RAccs W W.heap.size v f := by obtain ⟨fuel, hf⟩ := h1; exact reads_accs hf
  obtain rfl : u1 = Value.slice b1 n1 c1 := by simpa [Value.cells] using e1.symm
  have k2 := h2
  have lt2 : ∀ x ∈ p2, x.block < W.heap.size := by obtain ⟨m, hm⟩ := k2; exact DataW.trod_lt m _ _ _ hm
  obtain ⟨b2, n2, c2, rfl⟩ := okWide_slice Try.underlying50 (hval 2 50 v2 rfl rfl)
  obtain ⟨u2, x2, e2, s2⟩ : ∃ v f, (Value.slice b2 n2 c2).cells.toList = [v] ∧ RFlts W W.heap.size v f := by obtain ⟨fuel, hf⟩ := h2; exact reads_flts hf
  obtain rfl : u2 = Value.slice b2 n2 c2 := by simpa [Value.cells] using e2.symm
  clear hA0 hval0
  refine (lawMonotonic (w := W) _ zf0 zm0 zr0 s0 _ x1 s1 _ x2 s2 ).mono fun e W' ⟨he, bel⟩ => ?_
  subst he
  exact ⟨_, rfl, _, _, _, [], _, [], hW', trodAll_mk1 (shut_bool Try.underlying4 _), (trodAll_cons_mk (Below.trod laidOut (by kernel_rfl) (of_decide_eq_true (by kernel_rfl)) k0 bel lt0) (trodAll_cons_mk (Below.trod laidOut (by kernel_rfl) (of_decide_eq_true (by kernel_rfl)) k1 bel lt1) (trodAll_cons_mk (Below.trod laidOut (by kernel_rfl) (of_decide_eq_true (by kernel_rfl)) k2 bel lt2) trodAll_mk0))), rfl, bel.frame _, fun h => by cases h⟩

theorem over : Rows.deviceMonotonicRow.holds Try.pinned (OpenSpec.ofChange Rows.deviceMonotonicSpec) :=
  OpenClaim.holds_of_wide 7 Try.f7 rfl rfl rfl rfl rfl rfl rfl ⟨rfl, rfl, rfl, rfl, rfl⟩ rfl rfl rfl rfl rfl (by kernel_rfl) Try.func7 (by kernel_rfl)
    (of_decide_eq_true (by kernel_rfl)) (by unfold Func.isWrapper; first | (rw [if_pos (by decide +kernel)]; kernel_rfl) | (rw [if_neg (by decide +kernel)]; exact ⟨rfl, rfl⟩))
    (fun os started H enc _ => lifted os started H enc)
end lawMonotonicC

theorem deviceMonotonic_holds : Rows.DeviceMonotonicSaid := lawMonotonicC.over

end Go.Proofs.Ytncgechmloekbaa
