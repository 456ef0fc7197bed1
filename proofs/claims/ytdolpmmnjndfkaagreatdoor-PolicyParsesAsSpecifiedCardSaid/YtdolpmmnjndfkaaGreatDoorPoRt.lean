/- Chapter 29, the walk: the law PolicyRoundTrip. -/
import Derived.Test.YtdolpmmnjndfkaaGreatDoorPoSameB
import Derived.Test.YtdolpmmnjndfkaaGreatDoorPoSanW
namespace Go.Proofs.YtdolpmmnjndfkaaGreatDoor
open Go.RowKit
theorem parse_ok_all {T : List UInt8} {o : List Po.Nd} (h : Po.parse T = (o, 0)) : Po.OkAll o := by
  obtain ⟨l, t, _, hp, he, hk, _⟩ := Po.parse_tree h
  have := (Po.P_tree (6 * l.length + 6)).1 0 l [] default (by decide) (by decide)
  rw [hp] at this
  have h2 := (Po.P_ok _ _ _ _ _ _ hk .nil this).2.1
  simp only [List.nil_append, List.length_nil] at h2
  rw [he]; exact h2
theorem parse_any (text : ByteArray) {o : List Po.Nd} {n : Nat} (h : Po.parse text.data.toList = (o, n)) (w : World) (hg : Gl w) : Calls Tryz.prog 10 #[.string text] w (Parses w o n) := by
  refine (po_parse text w hg).mono ?_
  rintro e w' ⟨v, rfl, h1, _, h3⟩
  simp only [h] at h1 ⊢
  exact ⟨v, rfl, h1, h3⟩
set_option maxRecDepth 1000000 in
set_option maxHeartbeats 4000000 in
theorem law_round (text : ByteArray) (w : World) (hg : Gl w) (hsz : text.size ≤ maxLen) :
    Calls Tryz.prog 5 #[.string text] w fun e w' => e = .returned (.bool true) ∧ Below w.heap.size w w' := by
  obtain ⟨T, hT⟩ : ∃ T, text.data.toList = T := ⟨_, rfl⟩
  obtain ⟨⟨o, n⟩, hpr⟩ : ∃ r, Po.parse T = r := ⟨_, rfl⟩
  have HPR := Lib.hid (show Po.parse text.data.toList = (o, n) by rw [hT]; exact hpr)
  have HG := Lib.hid hg
  unfold maxLen at hsz
  have hsz2 : (text.size : Int) ≤ 9223372036854775807 := by omega
  clear hg hT hpr hsz
  go_enter Tryz.func5, Tryz.ntmps5
  go_wp2_with fail
  refine (san_true w HG.out).mono ?_
  rintro e w1 ⟨rfl, hb1⟩
  have HB1 := Lib.hid hb1
  have HG1 := Lib.hid (HG.out.mem hb1)
  clear hb1
  by_cases hlen : (200 : Int) < text.size
  · go_wp2_with fail
    go_ret
    exact ⟨rfl, HB1.out⟩
  · go_wp2_with fail
    refine (parse_any text HPR.out w1 HG1.out).mono ?_
    rintro e w2 ⟨v2, rfl, hn2, hb2⟩
    obtain ⟨A2, c2, rfl, -, -⟩ := hn2.form
    obtain ⟨m, hm⟩ : ∃ m, o.length = m := ⟨_, rfl⟩
    rw [hm] at hn2 ⊢
    have HM := Lib.hid hm
    obtain ⟨W2, hW2⟩ : ∃ W2, w2.alloc (.cells #[.slice A2 m c2] 25) = W2 := ⟨_, rfl⟩
    obtain ⟨x2, hB2, s2⟩ := one_box W2 hW2
    have p2 := cell_of_row _ _ 0 _ _ _ x2
    simp only [List.getElem?_toArray, List.getElem?_cons_zero] at p2
    have HB2 := Lib.hid (And.intro (HB1.out.trans ((hb2.trans (hB2.mono hb2.size)).mono HB1.out.size)) (And.intro s2 (HB1.out.trans (hb2.mono HB1.out.size)).size))
    have HG2 := Lib.hid (HG.out.mem HB2.out.1)
    have HN2 := Lib.hid ((hn2.below hB2).more HB1.out.size hB2.size)
    have HP2 := Lib.hid p2
    clear hn2 hb2 x2 hB2 s2 hm
    by_cases hn : n = 0
    · subst hn
      have hok := parse_ok_all HPR.out
      have HOK := Lib.hid (And.intro hok (parse_len HPR.out))
      clear hok
      go_wp2_with fail
      clear hW2
      refine (po_text (.slice A2 m c2) o W2 w.heap.size HG2.out HN2.out HOK.out.1 (by have := HOK.out.2; omega) (parse_short HPR.out)).mono ?_
      rintro e w3 ⟨rfl, hb3⟩
      have HB3 := Lib.hid hb3
      have HG3 := Lib.hid (HG2.out.mem hb3)
      clear hb3 p2
      obtain ⟨⟨q, k⟩, hpq⟩ : ∃ r, Po.parse (Po.text o) = r := ⟨_, rfl⟩
      have HPQ := Lib.hid hpq
      clear hpq
      go_wp2_with fail
      refine (ex_parse HPQ.out w3 HG3.out).mono ?_
      rintro e w4 ⟨v4, rfl, hn4, hb4⟩
      obtain ⟨A4, c4, rfl, -, -⟩ := hn4.form
      obtain ⟨m4, hm4⟩ : ∃ m, q.length = m := ⟨_, rfl⟩
      rw [hm4] at hn4 ⊢
      obtain ⟨W4, hW4⟩ : ∃ W4, w4.alloc (.cells #[.slice A4 m4 c4] 25) = W4 := ⟨_, rfl⟩
      obtain ⟨x4, hB4, s4⟩ := one_box W4 hW4
      have HB4 := Lib.hid (HB3.out.trans ((hb4.trans (hB4.mono hb4.size)).mono HB3.out.size))
      have HBB := Lib.hid (HB2.out.1.trans (HB4.out.mono HB2.out.1.size))
      have HN4 := Lib.hid ((hn4.below hB4).more (Nat.le_trans HB2.out.1.size HB3.out.size) hB4.size)
      have HX4 := Lib.hid (And.intro x4 s4)
      clear hn4 hb4 x4 hB4 s4 hm4
      by_cases hk : k = 2
      · subst hk
        go_wp2_with fail
        go_ret
        exact ⟨rfl, HBB.out⟩
      · have hq : (q, k) = (o, 0) := by
          rcases Po.parse_text HPR.out with h | h
          · rw [HPQ.out] at h; exact absurd h hk
          · rw [HPQ.out] at h; exact h
        simp only [Prod.mk.injEq] at hq
        obtain ⟨rfl, rfl⟩ := hq
        clear hk
        go_upto_region 10 with fail
        clear hW4
        have HS : Hid (∀ W', Und W4 W' → (W'.cell? ⟨w2.heap.size, 0, none⟩ = some (.slice A2 m c2) ∧ W'.cell? ⟨w4.heap.size, 0, none⟩ = some (.slice A4 m4 c4) ∧ Und W4 W')) := Lib.hid fun W' h => by
          have hs4 := HX4.out.2
          have hlt : w2.heap.size < W4.heap.size := Nat.lt_of_lt_of_le (show w2.heap.size < W2.heap.size by have := HB2.out.2.1; omega) HB4.out.size
          exact ⟨(h.cell (p := ⟨w2.heap.size, 0, none⟩) hlt).trans ((HB4.out.cell (p := ⟨w2.heap.size, 0, none⟩) (show w2.heap.size < W2.heap.size by have := HB2.out.2.1; omega)).trans HP2.out), (h.cell (p := ⟨w4.heap.size, 0, none⟩) (show w4.heap.size < W4.heap.size by omega)).trans (cell_of_row _ _ 0 _ _ _ HX4.out.1), h⟩
        have HNS : Hid (∀ W', Und W4 W' → RNds W' w.heap.size W'.heap.size (.slice A2 m c2) q ∧ RNds W' w.heap.size W'.heap.size (.slice A4 m4 c4) q ∧ Gl W') := Lib.hid fun W' h => ⟨((HN2.out.below HB4.out).below (h.mono HB4.out.size)).more (Nat.le_refl _) (Nat.le_trans HB4.out.size h.size), (HN4.out.below (h.mono (Nat.le_refl _))).more (Nat.le_refl _) h.size, HG.out.mem (HBB.out.trans (h.mono HBB.out.size))⟩
        have hU0 : Und W4 W4.drew := (Below.refl _ _).drew
        go_region_held3 (fun W' => W'.cell? ⟨w2.heap.size, 0, none⟩ = some (.slice A2 m c2) ∧ W'.cell? ⟨w4.heap.size, 0, none⟩ = some (.slice A4 m4 c4) ∧ Und W4 W') (first | assumption | exact HS.out _ hU0 | exact HS.out _ hU7 | exact HS.out _ hU6 | exact HS.out _ hU5) (first
          | (go_at_call 13; (with_reducible refine (ref_same _ _ q q _ _ _ (HNS.out _ hU0).1 (HNS.out _ hU0).2.1 HOK.out.1 HOK.out.1 (by have := HOK.out.2; omega)).mono ?_); rintro e w5 ⟨rfl, hb5⟩; have hU5 : Und W4 w5 := hU0.trans (hb5.mono hU0.size))
          | (go_at_call 16; (with_reducible refine (po_text (.slice A4 m4 c4) q _ w.heap.size (HNS.out _ hU6).2.2 (HNS.out _ hU6).2.1 HOK.out.1 (by have := HOK.out.2; omega) (parse_short HPR.out)).mono ?_); rintro e w7 ⟨rfl, hbw7⟩; have hU7 : Und W4 w7 := hU6.trans (hbw7.mono hU6.size))
          | (go_at_call 16; (with_reducible refine (po_text (.slice A2 m c2) q _ w.heap.size (HNS.out _ hU6).2.2 (HNS.out _ hU6).1 HOK.out.1 (by have := HOK.out.2; omega) (parse_short HPR.out)).mono ?_); rintro e w7 ⟨rfl, hbw7⟩; have hU7 : Und W4 w7 := hU6.trans (hbw7.mono hU6.size))
          | (go_at_call 16; (with_reducible refine (po_text (.slice A4 m4 c4) q _ w.heap.size (HNS.out _ hU5).2.2 (HNS.out _ hU5).2.1 HOK.out.1 (by have := HOK.out.2; omega) (parse_short HPR.out)).mono ?_); rintro e w6 ⟨rfl, hbw6⟩; have hU6 : Und W4 w6 := hU5.trans (hbw6.mono hU5.size))
          | (go_at_call 16; (with_reducible refine (po_text (.slice A2 m c2) q _ w.heap.size (HNS.out _ hU5).2.2 (HNS.out _ hU5).1 HOK.out.1 (by have := HOK.out.2; omega) (parse_short HPR.out)).mono ?_); rintro e w6 ⟨rfl, hbw6⟩; have hU6 : Und W4 w6 := hU5.trans (hbw6.mono hU5.size)))
        all_goals
          go_wp2_with fail
          go_ret
          exact ⟨rfl, HBB.out.trans (hU7.mono HBB.out.size)⟩
    · have hn' : ¬ (n : Int) = 0 := by omega
      clear hn
      go_wp2_with fail
      go_ret
      exact ⟨rfl, HB2.out.1⟩
end Go.Proofs.YtdolpmmnjndfkaaGreatDoor
