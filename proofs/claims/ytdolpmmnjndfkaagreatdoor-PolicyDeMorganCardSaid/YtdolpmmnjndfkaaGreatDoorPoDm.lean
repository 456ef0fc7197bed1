/- Chapter 29, the walk: the law PolicyDeMorgan. -/
import Derived.Test.YtdolpmmnjndfkaaGreatDoorPoVal
import Derived.Test.YtdolpmmnjndfkaaGreatDoorPoRt
import Derived.Test.YtdolpmmnjndfkaaGreatDoorPoMorgan
import Derived.Test.YtdolpmmnjndfkaaGreatDoorPoOpen
namespace Go.Proofs.YtdolpmmnjndfkaaGreatDoor
open Go.RowKit
def dmL (a b : ByteArray) : List ByteArray := [({ data := #[33, 40, 40] } ++ a ++ { data := #[41, 32, 38, 38, 32, 40] } ++ b ++ { data := #[41, 41] }), ({ data := #[33, 33, 40] } ++ a ++ { data := #[41] }), ({ data := #[40] } ++ a ++ { data := #[41, 32, 38, 38, 32, 97, 110, 121] }), ({ data := #[40] } ++ a ++ { data := #[41, 32, 124, 124, 32, 97, 110, 121] }), ({ data := #[33, 40, 40] } ++ a ++ { data := #[41, 32, 124, 124, 32, 40] } ++ b ++ { data := #[41, 41] })]
def dmR (a b : ByteArray) : List ByteArray := [({ data := #[33, 40] } ++ a ++ { data := #[41, 32, 124, 124, 32, 33, 40] } ++ b ++ { data := #[41] }), a, a, { data := #[97, 110, 121] }, ({ data := #[33, 40] } ++ a ++ { data := #[41, 32, 38, 38, 32, 33, 40] } ++ b ++ { data := #[41] })]
theorem dmL_eq (a b : ByteArray) : (dmL a b).map (fun s => s.data.toList) = Po.lefts a.data.toList b.data.toList := by
  simp [dmL, Po.lefts, ByteArray.data_append, Po.str_parts]
theorem dmR_eq (a b : ByteArray) : (dmR a b).map (fun s => s.data.toList) = Po.rights a.data.toList b.data.toList := by
  simp [dmR, Po.rights, ByteArray.data_append, Po.str_parts]
theorem dm_at {l : List ByteArray} {m : List (List UInt8)} (h : l.map (fun s => s.data.toList) = m) {i : Nat} {s : ByteArray} (hs : l[i]? = some s) : m[i]? = some s.data.toList := by
  rw [← h, List.getElem?_map, hs]; rfl
theorem parses_n {T : List UInt8} {o : List Po.Nd} (h : Po.parse T = (o, 0)) : o.length ≤ 100000 := by
  have := parse_len h; omega
set_option maxRecDepth 1000000 in
set_option maxHeartbeats 8000000 in
theorem law_demorgan (a b : ByteArray) (f : Po.Facts) {cs : Array Value} (w : World) (hg : Gl w) (ha : a.size ≤ maxLen) (hb : b.size ≤ maxLen) (hf : FactsIn w cs f) :
    Calls Tryz.prog 8 #[.string a, .string b, .agg cs] w fun e w' => e = .returned (.bool true) ∧ Below w.heap.size w w' := by
  obtain ⟨vs, vp, hcs, hfs, hfp⟩ := hf
  cases hcs
  obtain ⟨⟨oa, ea⟩, hpa⟩ : ∃ r, Po.parse a.data.toList = r := ⟨_, rfl⟩
  obtain ⟨⟨ob, eb⟩, hpb⟩ : ∃ r, Po.parse b.data.toList = r := ⟨_, rfl⟩
  have HPA := Lib.hid hpa
  have HPB := Lib.hid hpb
  unfold maxLen at ha hb
  obtain ⟨W0, hW0⟩ : ∃ W0, w.alloc (.cells #[.int .i64 f.version, .int .i64 f.epoch, vs, vp] 42) = W0 := ⟨_, rfl⟩
  obtain ⟨x0, hB0, s0⟩ := one_box W0 hW0
  have HB0 := Lib.hid (And.intro hB0 (And.intro x0 s0))
  have HG0 := Lib.hid (hg.mem hB0)
  have HF : Hid (∀ W', Und W0 W' → RFacts W' W'.heap.size (.agg #[.int .i64 f.version, .int .i64 f.epoch, vs, vp]) f ∧ W'.cell? ⟨w.heap.size, 0, none⟩ = some (.int .i64 f.version) ∧ W'.cell? ⟨w.heap.size, 1, none⟩ = some (.int .i64 f.epoch) ∧ W'.cell? ⟨w.heap.size, 2, none⟩ = some vs ∧ W'.cell? ⟨w.heap.size, 3, none⟩ = some vp ∧ Gl W') := Lib.hid fun W' h => by
    have hb' : Below w.heap.size w W' := hB0.trans (h.mono hB0.size)
    have hn := (h.mono (Nat.le_refl _)).block w.heap.size (by omega)
    have hx := hn.trans x0
    exact ⟨⟨vs, vp, rfl, (hfs.below hb').mono hb'.size, (hfp.below hb').mono hb'.size⟩, cell_of_row _ _ 0 _ _ _ hx, cell_of_row _ _ 1 _ _ _ hx, cell_of_row _ _ 2 _ _ _ hx, cell_of_row _ _ 3 _ _ _ hx, hg.mem hb'⟩
  clear hpa hpb hg x0 hB0 s0 hfs hfp
  go_enter Tryz.func8, Tryz.ntmps8
  go_wp2_with fail
  clear hW0
  refine (san_true W0 HG0.out).mono ?_
  rintro e w1 ⟨rfl, hb1⟩
  have hu1 : Und W0 w1 := hb1
  have HU1 := Lib.hid hu1
  clear hb1 hu1
  go_wp2_with fail
  refine (parse_any a HPA.out w1 (HF.out _ HU1.out).2.2.2.2.2).mono ?_
  rintro e w2 ⟨v2, rfl, hn2, hb2⟩
  obtain ⟨A2, c2, rfl, -, -⟩ := hn2.form
  obtain ⟨W2, hW2⟩ : ∃ W2, w2.alloc (.cells #[.slice A2 oa.length c2] 25) = W2 := ⟨_, rfl⟩
  obtain ⟨-, hB2, -⟩ := one_box W2 hW2
  have HU2 : Hid (Und W0 W2) := Lib.hid (HU1.out.trans ((hb2.trans (hB2.mono hb2.size)).mono HU1.out.size))
  clear hn2 hb2 hB2
  go_wp2_with fail
  clear hW2
  refine (parse_any b HPB.out W2 (HF.out _ HU2.out).2.2.2.2.2).mono ?_
  rintro e w3 ⟨v3, rfl, hn3, hb3⟩
  obtain ⟨A3, c3, rfl, -, -⟩ := hn3.form
  obtain ⟨W3, hW3⟩ : ∃ W3, w3.alloc (.cells #[.slice A3 ob.length c3] 25) = W3 := ⟨_, rfl⟩
  obtain ⟨-, hB3, -⟩ := one_box W3 hW3
  have HU3 : Hid (Und W0 W3) := Lib.hid (HU2.out.trans ((hb3.trans (hB3.mono hb3.size)).mono HU2.out.size))
  have HBW : Hid (∀ W', Und W0 W' → Below w.heap.size w W') := Lib.hid fun W' h => HB0.out.1.trans (h.mono HB0.out.1.size)
  clear hn3 hb3 hB3
  have fin3 := HBW.out _ HU3.out
  have HFIN := Lib.hid fin3
  clear fin3
  by_cases la : (200 : Int) < a.size
  · go_wp2_with fail
    go_ret
    exact ⟨rfl, HFIN.out⟩
  by_cases lb : (200 : Int) < b.size
  · go_wp2_with fail
    go_ret
    exact ⟨rfl, HFIN.out⟩
  by_cases hea : (ea : Int) = 0
  rotate_left
  · go_wp2_with fail
    go_ret
    exact ⟨rfl, HFIN.out⟩
  by_cases heb : (eb : Int) = 0
  rotate_left
  · go_wp2_with fail
    go_ret
    exact ⟨rfl, HFIN.out⟩
  obtain rfl : ea = 0 := by omega
  obtain rfl : eb = 0 := by omega
  obtain ⟨hf3, q0, q1, q2, q3, -⟩ := HF.out _ HU3.out
  have HV := Lib.hid (ref_valid _ f W3 hf3)
  clear hf3 hea heb
  by_cases hv : VF f
  rotate_left
  · rw [vf_false hv] at HV
    go_wp2_with (go_at_call 21; refine HV.out.mono ?_; rintro e w4 ⟨rfl, hb4⟩; have HB4 := Lib.hid (HFIN.out.trans (hb4.mono HFIN.out.size)))
    go_ret
    exact ⟨rfl, HB4.out⟩
  rw [show decide (VF f) = true by simpa using hv] at HV
  have z0 : ¬ 9223372036854775807 < 3 + a.size := by omega
  have z1 : ¬ 9223372036854775807 < 1 + a.size := by omega
  have z2 : ¬ 9223372036854775807 < 2 + a.size := by omega
  have z3 : ¬ 9223372036854775807 < 3 + a.size + 6 := by omega
  have z4 : ¬ 9223372036854775807 < 1 + a.size + 8 := by omega
  have z5 : ¬ 9223372036854775807 < 2 + a.size + 7 := by omega
  have z6 : ¬ 9223372036854775807 < 3 + a.size + 1 := by omega
  have z7 : ¬ 9223372036854775807 < 2 + a.size + 7 + b.size := by omega
  have z8 : ¬ 9223372036854775807 < 3 + a.size + 6 + b.size := by omega
  have z9 : ¬ 9223372036854775807 < 3 + a.size + 6 + b.size + 2 := by omega
  have z10 : ¬ 9223372036854775807 < 2 + a.size + 7 + b.size + 1 := by omega
  have HVF := Lib.hid hv
  clear hv
  go_wp2_with (go_at_call 21; refine HV.out.mono ?_; rintro e w4 ⟨rfl, hb4⟩; have HU4 : Hid (Und W0 w4) := Lib.hid (HU3.out.trans (hb4.mono HU3.out.size)); clear hb4 q0 q1 q2 q3)
  clear hW3
  obtain ⟨W5, hW5⟩ : ∃ W5, (w4.alloc (.cells #[.string (({ data := #[33, 40, 40] } ++ a ++ { data := #[41, 32, 38, 38, 32, 40] } ++ b ++ { data := #[41, 41] }) : ByteArray), .string (({ data := #[33, 33, 40] } ++ a ++ { data := #[41] }) : ByteArray), .string (({ data := #[40] } ++ a ++ { data := #[41, 32, 38, 38, 32, 97, 110, 121] }) : ByteArray), .string (({ data := #[40] } ++ a ++ { data := #[41, 32, 124, 124, 32, 97, 110, 121] }) : ByteArray), .string (({ data := #[33, 40, 40] } ++ a ++ { data := #[41, 32, 124, 124, 32, 40] } ++ b ++ { data := #[41, 41] }) : ByteArray)] 9)).alloc (.cells #[.string (({ data := #[33, 40] } ++ a ++ { data := #[41, 32, 124, 124, 32, 33, 40] } ++ b ++ { data := #[41] }) : ByteArray), .string a, .string a, .string ({ data := #[97, 110, 121] } : ByteArray), .string (({ data := #[33, 40] } ++ a ++ { data := #[41, 32, 38, 38, 32, 33, 40] } ++ b ++ { data := #[41] }) : ByteArray)] 9) = W5 := ⟨_, rfl⟩
  obtain ⟨yL, yR, hB5, s5⟩ := two_boxes W5 hW5
  have HU5 : Hid (Und W0 W5) := Lib.hid (HU4.out.trans (hB5.mono HU4.out.size))
  have HUZ : Hid (Und W5 W5) := Lib.hid (Below.refl _ _)
  have HC : Hid (∀ W', Und W5 W' → (∀ (i : Nat) s, (dmL a b)[i]? = some s → W'.cell? ⟨w4.heap.size, i, none⟩ = some (.string s)) ∧ (∀ (i : Nat) s, (dmR a b)[i]? = some s → W'.cell? ⟨w4.heap.size + 1, i, none⟩ = some (.string s))) := Lib.hid fun W' h => by
    have hn := (h.mono (Nat.le_refl _)).block w4.heap.size (by omega)
    have hn2 := (h.mono (Nat.le_refl _)).block (w4.heap.size + 1) (by omega)
    exact ⟨fun i s hi => (cell_of_row _ _ i (((dmL a b).map Value.string).toArray) _ _ (hn.trans yL)).trans (by simp [hi]), fun i s hi => (cell_of_row _ _ i (((dmR a b).map Value.string).toArray) _ _ (hn2.trans yR)).trans (by simp [hi])⟩
  clear yL yR hB5 s5
  go_wp2_with fail
  go_loopg [14] 5 (fun g s14 wr => ∃ i : Nat, i + g = 5 ∧ s14 = .int .i64 i ∧ Und W5 wr)
  case atStart => subst hW5; exact ⟨0, by omega, rfl, HUZ.out⟩
  case round =>
    clear hW5
    obtain ⟨i, hig, rfl, hur⟩ := hrel
    have HUR := Lib.hid hur
    clear hur
    cases gk with
    | zero =>
      have hi : ¬ (i : Int) < 5 := by omega
      go_wp2_with fail
      go_ret
      exact ⟨rfl, HBW.out _ (HU5.out.trans (HUR.out.mono HU5.out.size))⟩
    | succ g =>
      have hi : (i : Int) < 5 := by omega
      have hi2 : 0 ≤ (i : Int) ∧ (i : Int) < 5 := by omega
      obtain ⟨sl, hsl⟩ : ∃ s, (dmL a b)[i]? = some s := ⟨_, List.getElem?_eq_getElem (by simp only [dmL, List.length_cons, List.length_nil]; omega)⟩
      obtain ⟨sr, hsr⟩ : ∃ s, (dmR a b)[i]? = some s := ⟨_, List.getElem?_eq_getElem (by simp only [dmR, List.length_cons, List.length_nil]; omega)⟩
      have cL := (HC.out _ HUR.out).1 i sl hsl
      have HS := Lib.hid (And.intro hsl hsr)
      clear hsl hsr
      obtain ⟨⟨ol, el⟩, hpl⟩ : ∃ r, Po.parse sl.data.toList = r := ⟨_, rfl⟩
      obtain ⟨⟨og, eg⟩, hpg⟩ : ∃ r, Po.parse sr.data.toList = r := ⟨_, rfl⟩
      have HPL := Lib.hid hpl
      have HPG := Lib.hid hpg
      have HGU : Hid (∀ W', Und W5 W' → Gl W') := Lib.hid fun W' h => (HF.out _ (HU5.out.trans (h.mono HU5.out.size))).2.2.2.2.2
      clear hpl hpg
      have wi : wrap64 ((i : Int) + 1) = (i : Int) + 1 := by unfold wrap64; omega
      go_wp2_with fail
      refine (parse_any sl HPL.out wr (HGU.out _ HUR.out)).mono ?_
      rintro e w6 ⟨v6, rfl, hn6, hb6⟩
      obtain ⟨A6, c6, rfl, -, -⟩ := hn6.form
      obtain ⟨m6, hm6⟩ : ∃ m, ol.length = m := ⟨_, rfl⟩
      rw [hm6] at hn6 ⊢
      obtain ⟨W6, hW6⟩ : ∃ W6, w6.alloc (.cells #[.slice A6 m6 c6] 25) = W6 := ⟨_, rfl⟩
      obtain ⟨x6, hB6, s6⟩ := one_box W6 hW6
      have HU6 : Hid (Und W5 W6) := Lib.hid (HUR.out.trans ((hb6.trans (hB6.mono hb6.size)).mono HUR.out.size))
      have HN6 := Lib.hid ((hn6.below hB6).more (Nat.le_refl _) hB6.size)
      have HX6 := Lib.hid (And.intro x6 s6)
      have cR := (HC.out _ HU6.out).2 i sr HS.out.2
      clear hn6 hb6 x6 hB6 s6 hm6 cL
      go_wp2_with fail
      clear hW6
      refine (parse_any sr HPG.out W6 (HGU.out _ HU6.out)).mono ?_
      rintro e w7 ⟨v7, rfl, hn7, hb7⟩
      obtain ⟨A7, c7, rfl, -, -⟩ := hn7.form
      obtain ⟨m7, hm7⟩ : ∃ m, og.length = m := ⟨_, rfl⟩
      rw [hm7] at hn7 ⊢
      obtain ⟨W7, hW7⟩ : ∃ W7, w7.alloc (.cells #[.slice A7 m7 c7] 25) = W7 := ⟨_, rfl⟩
      obtain ⟨x7, hB7, s7⟩ := one_box W7 hW7
      have hb67 := hb7.trans (hB7.mono hb7.size)
      have HU67 := Lib.hid (show Und W6 W7 from hb67)
      have HU7 : Hid (Und W5 W7) := Lib.hid (HU6.out.trans (hb67.mono HU6.out.size))
      have HN7 := Lib.hid ((hn7.below hB7).more (Nat.le_refl _) hB7.size)
      have HX7 := Lib.hid (And.intro x7 s7)
      clear hn7 hb7 x7 hB7 s7 hm7 cR hb67
      by_cases he : (el : Int) = 0
      rotate_left
      · go_wp2_with fail
        go_roundg g
        case measure => omega
        case rel => exact ⟨i + 1, by omega, by first | rfl | go_num, HU7.out⟩
      by_cases he2 : (eg : Int) = 0
      rotate_left
      · go_wp2_with fail
        go_roundg g
        case measure => omega
        case rel => exact ⟨i + 1, by omega, by first | rfl | go_num, HU7.out⟩
      obtain rfl : el = 0 := by omega
      obtain rfl : eg = 0 := by omega
      clear he he2
      go_upto_region 14 with fail
      clear hW7
      have HE := Lib.hid (Po.law_morgan HPA.out HPB.out i (dm_at (dmL_eq a b) HS.out.1) (dm_at (dmR_eq a b) HS.out.2) HPL.out HPG.out f)
      have HO := Lib.hid (And.intro (And.intro (parse_ok_all HPL.out) (parses_n HPL.out)) (And.intro (parse_ok_all HPG.out) (parses_n HPG.out)))
      have HSS : Hid (∀ W', Und W7 W' → (W'.cell? ⟨w6.heap.size, 0, none⟩ = some (.slice A6 m6 c6) ∧ W'.cell? ⟨w7.heap.size, 0, none⟩ = some (.slice A7 m7 c7) ∧ W'.cell? ⟨w.heap.size, 0, none⟩ = some (.int .i64 f.version) ∧ W'.cell? ⟨w.heap.size, 1, none⟩ = some (.int .i64 f.epoch) ∧ W'.cell? ⟨w.heap.size, 2, none⟩ = some vs ∧ W'.cell? ⟨w.heap.size, 3, none⟩ = some vp ∧ Und W7 W')) := Lib.hid fun W' h => by
        have h6 : Und W6 W' := HU67.out.trans (h.mono HU67.out.size)
        have s6 := HX6.out.2
        have s7 := HX7.out.2
        obtain ⟨-, q0, q1, q2, q3, -⟩ := HF.out W' (HU5.out.trans (Und.mono (HU7.out.trans (h.mono HU7.out.size)) HU5.out.size))
        exact ⟨(h6.cell (p := ⟨w6.heap.size, 0, none⟩) (show w6.heap.size < W6.heap.size by omega)).trans (cell_of_row _ _ 0 _ _ _ HX6.out.1), (h.cell (p := ⟨w7.heap.size, 0, none⟩) (show w7.heap.size < W7.heap.size by omega)).trans (cell_of_row _ _ 0 _ _ _ HX7.out.1), q0, q1, q2, q3, h⟩
      have HNS : Hid (∀ W', Und W7 W' → Gl W' ∧ RNds W' wr.heap.size W'.heap.size (.slice A6 m6 c6) ol ∧ RNds W' W6.heap.size W'.heap.size (.slice A7 m7 c7) og ∧ RFacts W' W'.heap.size (.agg #[.int .i64 f.version, .int .i64 f.epoch, vs, vp]) f) := Lib.hid fun W' h => by
        have h6 : Und W6 W' := HU67.out.trans (h.mono HU67.out.size)
        have h5 : Und W5 W' := HU7.out.trans (h.mono HU7.out.size)
        exact ⟨HGU.out _ h5, (HN6.out.below h6).more (Nat.le_refl _) h6.size, (HN7.out.below h).more (Nat.le_refl _) h.size, (HF.out W' (HU5.out.trans (h5.mono HU5.out.size))).1⟩
      have hU0 : Und W7 W7.drew := (Below.refl _ _).drew
      go_region_held3 (fun W' => W'.cell? ⟨w6.heap.size, 0, none⟩ = some (.slice A6 m6 c6) ∧ W'.cell? ⟨w7.heap.size, 0, none⟩ = some (.slice A7 m7 c7) ∧ W'.cell? ⟨w.heap.size, 0, none⟩ = some (.int .i64 f.version) ∧ W'.cell? ⟨w.heap.size, 1, none⟩ = some (.int .i64 f.epoch) ∧ W'.cell? ⟨w.heap.size, 2, none⟩ = some vs ∧ W'.cell? ⟨w.heap.size, 3, none⟩ = some vp ∧ Und W7 W') (first | assumption | exact HSS.out _ hU0 | exact HSS.out _ hU9 | exact HSS.out _ hU8) (first
        | (go_at_call 22; (with_reducible refine (po_eval (.slice A6 m6 c6) _ ol f _ wr.heap.size (HNS.out _ hU8).1 (HNS.out _ hU8).2.1 HO.out.1.1 HO.out.1.2 (HNS.out _ hU8).2.2.2 HVF.out.val).mono ?_); rintro e w9 ⟨rfl, hbw9⟩; have hU9 : Und W7 w9 := hU8.trans (hbw9.mono hU8.size))
        | (go_at_call 22; (with_reducible refine (po_eval (.slice A7 m7 c7) _ og f _ W6.heap.size (HNS.out _ hU8).1 (HNS.out _ hU8).2.2.1 HO.out.2.1 HO.out.2.2 (HNS.out _ hU8).2.2.2 HVF.out.val).mono ?_); rintro e w9 ⟨rfl, hbw9⟩; have hU9 : Und W7 w9 := hU8.trans (hbw9.mono hU8.size))
        | (go_at_call 22; (with_reducible refine (po_eval (.slice A6 m6 c6) _ ol f _ wr.heap.size (HNS.out _ hU0).1 (HNS.out _ hU0).2.1 HO.out.1.1 HO.out.1.2 (HNS.out _ hU0).2.2.2 HVF.out.val).mono ?_); rintro e w8 ⟨rfl, hbw8⟩; have hU8 : Und W7 w8 := hU0.trans (hbw8.mono hU0.size))
        | (go_at_call 22; (with_reducible refine (po_eval (.slice A7 m7 c7) _ og f _ W6.heap.size (HNS.out _ hU0).1 (HNS.out _ hU0).2.2.1 HO.out.2.1 HO.out.2.2 (HNS.out _ hU0).2.2.2 HVF.out.val).mono ?_); rintro e w8 ⟨rfl, hbw8⟩; have hU8 : Und W7 w8 := hU0.trans (hbw8.mono hU0.size)))
      all_goals
        rw [HE.out]
        go_wp2_with fail
        go_roundg g
        case measure => omega
        case rel => exact ⟨i + 1, by omega, by first | rfl | go_num, HU7.out.trans (hU9.mono HU7.out.size)⟩
end Go.Proofs.YtdolpmmnjndfkaaGreatDoor
