/- Chapter 29, the walk: the law PolicyIsMonotone. -/
import Derived.Test.YtdolpmmnjndfkaaGreatDoorPoRefi
import Derived.Test.YtdolpmmnjndfkaaGreatDoorPoRt
import Derived.Test.YtdolpmmnjndfkaaGreatDoorPoOpen
namespace Go.Proofs.YtdolpmmnjndfkaaGreatDoor
open Go.RowKit
theorem known_of {f : Po.Facts} (h : ∀ (j : Nat) (r : List Int), f.points[j]? = some r → ∀ (k : Nat) (x : Int), r[k]? = some x → x ≠ -1) : Po.Known f := by
  intro i k
  rw [List.getD_eq_getElem?_getD]
  cases e : f.points[i]? with
  | none => simp [Po.at_]
  | some r =>
    rw [Option.getD_some]
    unfold Po.at_
    rw [List.getD_eq_getElem?_getD]
    cases e2 : r[k]? with
    | none => simp
    | some x => rw [Option.getD_some]; exact h i r e k x e2
theorem valid_t {vf : Value} {f : Po.Facts} {w : World} (h : VF f) (hf : RFacts w w.heap.size vf f) : Calls Tryz.prog 21 #[vf] w fun e w' => e = .returned (.bool true) ∧ Below w.heap.size w w' := by
  have := ref_valid vf f w hf
  rw [show decide (VF f) = true by simpa using h] at this
  exact this
theorem valid_f {vf : Value} {f : Po.Facts} {w : World} (h : ¬ VF f) (hf : RFacts w w.heap.size vf f) : Calls Tryz.prog 21 #[vf] w fun e w' => e = .returned (.bool false) ∧ Below w.heap.size w w' := by
  have := ref_valid vf f w hf
  rw [vf_false h] at this
  exact this
theorem mono_fin {o : List Po.Nd} {f t : Po.Facts} {a b : Int} (hr : Po.Refines f t) (ha : Po.eval o t = a) (hb : Po.eval o f = b) : a = -1 ∨ (¬ a = -1 ∧ a = b) := by
  have := Po.eval_le hr o
  rw [ha, hb] at this
  by_cases h : a = -1
  · exact .inl h
  · exact .inr ⟨h, this.resolve_left h⟩
set_option maxRecDepth 1000000 in
set_option maxHeartbeats 8000000 in
theorem law_mono (text : ByteArray) (f t : Po.Facts) {cf ct : Array Value} (w : World) (hg : Gl w) (hsz : text.size ≤ maxLen) (hf : FactsIn w cf f) (ht : FactsIn w ct t) :
    Calls Tryz.prog 6 #[.string text, .agg cf, .agg ct] w fun e w' => e = .returned (.bool true) ∧ Below w.heap.size w w' := by
  obtain ⟨vs, vp, hcs, hfs, hfp⟩ := hf
  cases hcs
  obtain ⟨vs2, vp2, hcs2, hts, htp⟩ := ht
  cases hcs2
  obtain ⟨A1, c1, rfl, hl1, hm1⟩ := hfp.form
  obtain ⟨n, hn⟩ : ∃ n, f.points.length = n := ⟨_, rfl⟩
  rw [hn] at hfp hl1 ⊢
  obtain ⟨⟨o, en⟩, hpr⟩ : ∃ r, Po.parse text.data.toList = r := ⟨_, rfl⟩
  have HPR := Lib.hid hpr
  have HN := Lib.hid hn
  unfold maxLen at hsz hm1
  have hlim : n ≤ 9223372036854775807 := by omega
  have HLIM := Lib.hid hlim
  obtain ⟨W0, hW0⟩ : ∃ W0, (w.alloc (.cells #[.int .i64 f.version, .int .i64 f.epoch, vs, .slice A1 n c1] 42)).alloc (.cells #[.int .i64 t.version, .int .i64 t.epoch, vs2, vp2] 42) = W0 := ⟨_, rfl⟩
  obtain ⟨x0, y0, hB0, s0⟩ := two_boxes W0 hW0
  have HB0 := Lib.hid (And.intro hB0 (And.intro x0 s0))
  have HG0 := Lib.hid (hg.mem hB0)
  have HF : Hid (∀ W', Und W0 W' → RFacts W' W'.heap.size (.agg #[.int .i64 f.version, .int .i64 f.epoch, vs, .slice A1 n c1]) f ∧ RFacts W' W'.heap.size (.agg #[.int .i64 t.version, .int .i64 t.epoch, vs2, vp2]) t ∧ Gl W') := Lib.hid fun W' h => by
    have hb' : Below w.heap.size w W' := hB0.trans (h.mono hB0.size)
    exact ⟨⟨vs, _, rfl, (hfs.below hb').mono hb'.size, (hfp.below hb').mono hb'.size⟩, ⟨vs2, vp2, rfl, (hts.below hb').mono hb'.size, (htp.below hb').mono hb'.size⟩, hg.mem hb'⟩
  have HC : Hid (∀ W', Und W0 W' → W'.cell? ⟨w.heap.size, 0, none⟩ = some (.int .i64 f.version) ∧ W'.cell? ⟨w.heap.size, 1, none⟩ = some (.int .i64 f.epoch) ∧ W'.cell? ⟨w.heap.size, 2, none⟩ = some vs ∧ W'.cell? ⟨w.heap.size, 3, none⟩ = some (.slice A1 n c1) ∧ W'.cell? ⟨w.heap.size + 1, 0, none⟩ = some (.int .i64 t.version) ∧ W'.cell? ⟨w.heap.size + 1, 1, none⟩ = some (.int .i64 t.epoch) ∧ W'.cell? ⟨w.heap.size + 1, 2, none⟩ = some vs2 ∧ W'.cell? ⟨w.heap.size + 1, 3, none⟩ = some vp2) := Lib.hid fun W' h => by
    have hx := ((h.mono (Nat.le_refl _)).block w.heap.size (by omega)).trans x0
    have hy := ((h.mono (Nat.le_refl _)).block (w.heap.size + 1) (by omega)).trans y0
    exact ⟨cell_of_row _ _ 0 _ _ _ hx, cell_of_row _ _ 1 _ _ _ hx, cell_of_row _ _ 2 _ _ _ hx, cell_of_row _ _ 3 _ _ _ hx, cell_of_row _ _ 0 _ _ _ hy, cell_of_row _ _ 1 _ _ _ hy, cell_of_row _ _ 2 _ _ _ hy, cell_of_row _ _ 3 _ _ _ hy⟩
  have HP0 : Hid (∀ W', Und W0 W' → RInt2 W' w.heap.size (.slice A1 n c1) f.points) := Lib.hid fun W' h => hfp.below (hB0.trans (h.mono hB0.size))
  have HBW : Hid (∀ W', Und W0 W' → Below w.heap.size w W') := Lib.hid fun W' h => HB0.out.1.trans (h.mono HB0.out.1.size)
  clear hpr hg x0 y0 hB0 s0 hfs hfp hts htp hn hl1 hm1 hlim
  go_enter Tryz.func6, Tryz.ntmps6
  go_wp2_with fail
  clear hW0
  refine (san_true W0 HG0.out).mono ?_
  rintro e w1 ⟨rfl, hb1⟩
  have hu1 : Und W0 w1 := hb1
  have HU1 := Lib.hid hu1
  clear hb1 hu1
  have hsz2 : (text.size : Int) ≤ 9223372036854775807 := by omega
  by_cases la : (600 : Int) < text.size
  · go_wp2_with fail
    go_ret
    exact ⟨rfl, HBW.out _ HU1.out⟩
  obtain ⟨p0, p1, p2, p3, q0, q1, q2, q3⟩ := HC.out _ HU1.out
  by_cases v1 : VF f
  rotate_left
  · have V1 := Lib.hid v1
    clear v1
    go_wp2_with (go_at_call 21; (with_reducible refine (valid_f V1.out (HF.out _ HU1.out).1).mono ?_); rintro e w2 ⟨rfl, hb2⟩; have HU2 : Hid (Und W0 w2) := Lib.hid (HU1.out.trans (hb2.mono HU1.out.size)))
    go_ret
    exact ⟨rfl, HBW.out _ HU2.out⟩
  by_cases v2 : VF t
  rotate_left
  · have V1 := Lib.hid v1
    have V2 := Lib.hid v2
    clear v1 v2
    go_wp2_with (first
      | (go_at_call 21; (with_reducible refine (valid_f V2.out (HF.out _ HU2.out).2.1).mono ?_); rintro e w3 ⟨rfl, hb3⟩; have HU3 : Hid (Und W0 w3) := Lib.hid (HU2.out.trans (hb3.mono HU2.out.size)))
      | (go_at_call 21; (with_reducible refine (valid_t V1.out (HF.out _ HU1.out).1).mono ?_); rintro e w2 ⟨rfl, hb2⟩; have HU2 : Hid (Und W0 w2) := Lib.hid (HU1.out.trans (hb2.mono HU1.out.size)); obtain ⟨-, -, -, -, q0, q1, q2, q3⟩ := HC.out _ HU2.out))
    go_ret
    exact ⟨rfl, HBW.out _ HU3.out⟩
  have V1 := Lib.hid v1
  have V2 := Lib.hid v2
  clear v1 v2
  go_wp2_with (first
    | (go_at_call 24; (with_reducible refine (law_refines _ _ f t _ (HF.out _ HU3.out).1 (HF.out _ HU3.out).2.1).mono ?_); rintro e w4 ⟨b, rfl, hrf, hb4⟩; have HRF := Lib.hid hrf; have HU4 : Hid (Und W0 w4) := Lib.hid (HU3.out.trans (hb4.mono HU3.out.size)); clear hrf hb4)
    | (go_at_call 21; (with_reducible refine (valid_t V2.out (HF.out _ HU2.out).2.1).mono ?_); rintro e w3 ⟨rfl, hb3⟩; have HU3 : Hid (Und W0 w3) := Lib.hid (HU2.out.trans (hb3.mono HU2.out.size)); clear hb3; obtain ⟨p0, p1, p2, p3, q0, q1, q2, q3⟩ := HC.out _ HU3.out)
    | (go_at_call 21; (with_reducible refine (valid_t V1.out (HF.out _ HU1.out).1).mono ?_); rintro e w2 ⟨rfl, hb2⟩; have HU2 : Hid (Und W0 w2) := Lib.hid (HU1.out.trans (hb2.mono HU1.out.size)); clear hb2; obtain ⟨-, -, -, -, q0, q1, q2, q3⟩ := HC.out _ HU2.out))
  · go_ret
    exact ⟨rfl, HBW.out _ HU4.out⟩
  have hcond : (text.size : Int) ≤ 600 ∧ (!b) = false := by assumption
  have hbt : b = true := by simpa using hcond.2
  subst hbt
  clear hcond
  have HR := Lib.hid (HRF.out rfl)
  clear HRF p0 p1 p2 p3 q0 q1 q2 q3
  refine (parse_any text HPR.out w4 (HF.out _ HU4.out).2.2).mono ?_
  rintro e w5 ⟨v5, rfl, hn5, hb5⟩
  obtain ⟨A5, c5, rfl, -, -⟩ := hn5.form
  obtain ⟨m, hm⟩ : ∃ m, o.length = m := ⟨_, rfl⟩
  rw [hm] at hn5 ⊢
  obtain ⟨W5, hW5⟩ : ∃ W5, w5.alloc (.cells #[.slice A5 m c5] 25) = W5 := ⟨_, rfl⟩
  obtain ⟨x5, hB5, s5⟩ := one_box W5 hW5
  have HU5 : Hid (Und W0 W5) := Lib.hid (HU4.out.trans ((hb5.trans (hB5.mono hb5.size)).mono HU4.out.size))
  have HN5 := Lib.hid ((hn5.below hB5).more (Nat.le_refl _) hB5.size)
  have HX5 := Lib.hid (And.intro x5 s5)
  clear hn5 hb5 x5 hB5 s5 hm
  by_cases hn : (en : Int) = 0
  rotate_left
  · go_wp2_with fail
    go_ret
    exact ⟨rfl, HBW.out _ HU5.out⟩
  obtain rfl : en = 0 := by omega
  clear hn
  have HO := Lib.hid (And.intro (parse_ok_all HPR.out) (show o.length ≤ 100000 by have := parse_len HPR.out; omega))
  obtain ⟨a, ha⟩ : ∃ a, Po.eval o t = a := ⟨_, rfl⟩
  obtain ⟨b, hb⟩ : ∃ b, Po.eval o f = b := ⟨_, rfl⟩
  have HAB := Lib.hid (And.intro ha hb)
  clear ha hb
  have HX : Hid (∀ W', Und W5 W' → Und W0 W' ∧ W'.cell? ⟨w5.heap.size, 0, none⟩ = some (.slice A5 m c5) ∧ RNds W' w4.heap.size W'.heap.size (.slice A5 m c5) o) := Lib.hid fun W' h => by
    have s5 := HX5.out.2
    exact ⟨HU5.out.trans (h.mono HU5.out.size), (h.cell (p := ⟨w5.heap.size, 0, none⟩) (show w5.heap.size < W5.heap.size by omega)).trans (cell_of_row _ _ 0 _ _ _ HX5.out.1), (HN5.out.below h).more (Nat.le_refl _) h.size⟩
  have HZ5 : Hid (Und W5 W5) := Lib.hid (Below.refl _ _)
  obtain ⟨-, d5, -⟩ := HX.out _ HZ5.out
  obtain ⟨-, -, -, -, q0, q1, q2, q3⟩ := HC.out _ HU5.out
  go_wp2_with fail
  clear hW5
  have k6 := po_eval (.slice A5 m c5) _ o t W5 w4.heap.size (HF.out _ HU5.out).2.2 (HX.out _ HZ5.out).2.2 HO.out.1 HO.out.2 (HF.out _ HU5.out).2.1 V2.out.val
  rw [HAB.out.1] at k6
  refine k6.mono ?_
  rintro e w6 ⟨rfl, hb6⟩
  have HZ6 : Hid (Und W5 w6) := Lib.hid hb6
  clear k6 hb6 d5 q0 q1 q2 q3
  obtain ⟨hu6, d6, hn6⟩ := HX.out _ HZ6.out
  obtain ⟨p0, p1, p2, p3, -⟩ := HC.out _ hu6
  have H6 := Lib.hid (And.intro hu6 hn6)
  clear hu6 hn6
  go_wp2_with fail
  have k7 := po_eval (.slice A5 m c5) _ o f w6 w4.heap.size (HF.out _ H6.out.1).2.2 H6.out.2 HO.out.1 HO.out.2 (HF.out _ H6.out.1).1 V1.out.val
  rw [HAB.out.2] at k7
  refine k7.mono ?_
  rintro e w7 ⟨rfl, hb7⟩
  have HU7 : Hid (Und W0 w7) := Lib.hid (H6.out.1.trans (hb7.mono H6.out.1.size))
  clear k7 hb7 d6 p0 p1 p2 p3
  obtain ⟨-, -, -, p3, -⟩ := HC.out _ HU7.out
  have HP7 := Lib.hid (HP0.out _ HU7.out)
  have HEND := Lib.hid (HBW.out _ HU7.out)
  clear HX HX5 HN5 H6 HP0 HZ5 HZ6
  go_wp2_with fail
  go_loopg [12, 13] n (fun g s12 s13 wr => ∃ (i : Nat) (kn : Bool), i + g = n ∧ s12 = .bool kn ∧ s13 = .int .i64 i ∧ wr = w7 ∧ Aside (kn = true → ∀ (j : Nat) (r : List Int), j < i → f.points[j]? = some r → ∀ (k : Nat) (x : Int), r[k]? = some x → x ≠ -1))
  case atStart => exact ⟨0, true, by omega, rfl, rfl, rfl, fun _ j r hj => by omega⟩
  case round =>
    obtain ⟨i, kn, hig, rfl, rfl, rfl, hall⟩ := hrel
    cases gk with
    | zero =>
      obtain rfl : i = n := by omega
      have hi : ¬ (i : Int) < i := by omega
      have HAll := Lib.hid (fun h : kn = true => show b = 0 ∨ b = 1 from HAB.out.2 ▸ Po.eval_bit (known_of fun j r hr k x hx => hall.out h j r (by have := (List.getElem?_eq_some_iff.1 hr).1; have := HN.out; omega) hr k x hx) o)
      rcases mono_fin HR.out HAB.out.1 HAB.out.2 with h1 | ⟨h1, h2⟩
      · cases kn with
        | false =>
          subst h1
          clear HAll
          go_wp2_with fail
          go_ret
          exact ⟨rfl, HEND.out⟩
        | true =>
          have h3 := HAll.out rfl
          clear HAll
          subst h1
          rcases h3 with rfl | rfl
          · go_wp2_with fail
            go_ret
            exact ⟨rfl, HEND.out⟩
          · go_wp2_with fail
            go_ret
            exact ⟨rfl, HEND.out⟩
      · cases kn with
        | false =>
          subst h2
          clear HAll
          have hne : (a == -1) = false := by simpa using h1
          go_wp2_with fail
          go_ret
          exact ⟨rfl, HEND.out⟩
        | true =>
          have h3 := HAll.out rfl
          clear HAll
          subst h2
          clear h1
          rcases h3 with rfl | rfl
          · go_wp2_with fail
            go_ret
            exact ⟨rfl, HEND.out⟩
          · go_wp2_with fail
            go_ret
            exact ⟨rfl, HEND.out⟩
    | succ g =>
      have hi : (i : Int) < n := by omega
      have hi2 : 0 ≤ (i : Int) ∧ (i : Int) < n := by omega
      have wi : wrap64 ((i : Int) + 1) = (i : Int) + 1 := by have := HLIM.out; unfold wrap64; omega
      obtain ⟨r, hr⟩ : ∃ r, f.points[i]? = some r := ⟨_, List.getElem?_eq_getElem (by have := HN.out; omega)⟩
      obtain ⟨bb, oo, R1, c3, rfl, -, -, gr1, hr1⟩ := HP7.out.at hr
      obtain ⟨l, hl⟩ : ∃ l, r.length = l := ⟨_, rfl⟩
      rw [hl] at gr1 hr1
      have HL : l ≤ 9223372036854775807 := by
        obtain ⟨_, _, e, h1, h2, _⟩ := hr1
        cases e
        unfold maxLen at h2
        omega
      have HRR := Lib.hid (And.intro hr hl)
      have HR1 := Lib.hid hr1
      have HLL := Lib.hid HL
      clear hr hl hr1 HL
      go_wp2_with fail
      go_loopg [12, 14] l (fun g2 s12 s14 wx => ∃ (k : Nat) (kn2 : Bool), k + g2 = l ∧ s12 = .bool kn2 ∧ s14 = .int .i64 k ∧ wx = wr ∧ Aside (kn2 = true → kn = true ∧ ∀ (j : Nat) (x : Int), j < k → r[j]? = some x → x ≠ -1))
      case atStart => exact ⟨0, kn, by omega, rfl, rfl, rfl, fun h => ⟨h, fun j x hj => by omega⟩⟩
      case round =>
        obtain ⟨k, kn2, hkg, rfl, rfl, rfl, hin⟩ := hrel
        cases gk with
        | zero =>
          obtain rfl : k = l := by omega
          have hk : ¬ (k : Int) < k := by omega
          go_wp2_with fail
          go_roundg g
          case measure => omega
          case rel => exact ⟨i + 1, kn2, by omega, rfl, by first | rfl | go_num, rfl, fun h j r' hj hr' k' x hx => by
            obtain ⟨h1, h2⟩ := hin.out h
            by_cases e : j = i
            · subst e
              rw [HRR.out.1] at hr'
              cases hr'
              exact h2 k' x (by have := (List.getElem?_eq_some_iff.1 hx).1; have := HRR.out.2; omega) hx
            · exact hall.out h1 j r' (by omega) hr' k' x hx⟩
        | succ g2 =>
          have hk : (k : Int) < l := by omega
          have hk2 : 0 ≤ (k : Int) ∧ (k : Int) < l := by omega
          have wk : wrap64 ((k : Int) + 1) = (k : Int) + 1 := by have := HLL.out; unfold wrap64; omega
          obtain ⟨x, hx⟩ : ∃ x, r[k]? = some x := ⟨_, List.getElem?_eq_getElem (by have := HRR.out.2; omega)⟩
          obtain ⟨b4, o4, rfl, -, gr4⟩ := HR1.out.at hx
          have HXX := Lib.hid hx
          clear hx
          cases kn2 with
          | false =>
            go_wp2_with fail
            go_roundg g2
            case measure => omega
            case rel => exact ⟨k + 1, false, by omega, rfl, by first | rfl | go_num, rfl, fun h => by cases h⟩
          | true =>
            by_cases hx1 : x = -1
            · subst hx1
              go_wp2_with fail
              go_roundg g2
              case measure => omega
              case rel => exact ⟨k + 1, false, by omega, rfl, by first | rfl | go_num, rfl, fun h => by cases h⟩
            · have hne : (x != -1) = true := by simpa using hx1
              have HNE := Lib.hid hx1
              clear hx1
              go_wp2_with fail
              go_roundg g2
              case measure => omega
              case rel => exact ⟨k + 1, true, by omega, rfl, by first | rfl | go_num, rfl, fun h => ⟨(hin.out (by trivial)).1, fun j y hj hy => by
                by_cases e : j = k
                · subst e
                  rw [HXX.out] at hy
                  cases hy
                  exact HNE.out
                · exact (hin.out (by trivial)).2 j y (by omega) hy⟩⟩
end Go.Proofs.YtdolpmmnjndfkaaGreatDoor
