/- Chapter 29, the walk: the examples of the document, as the law runs them. -/
import Derived.Test.YtdolpmmnjndfkaaGreatDoorPoPl
import Derived.Test.YtdolpmmnjndfkaaGreatDoorPoTxLen
import Derived.Test.YtdolpmmnjndfkaaGreatDoorPoParse
import Derived.Test.YtdolpmmnjndfkaaGreatDoorPoPt
namespace Go.Proofs.YtdolpmmnjndfkaaGreatDoor
open Go.RowKit
def Parses (w : World) (o : List Po.Nd) (n : Nat) (e : Ending) (w' : World) : Prop :=
  ∃ v, e = .returned (.tuple #[.agg #[v], .int .i64 n]) ∧ RNds w' w.heap.size w'.heap.size v o ∧ Below w.heap.size w w'
theorem ex_parse {l : List UInt8} {o : List Po.Nd} {n : Nat} (h : Po.parse l = (o, n)) (w : World) (hg : Gl w) : Calls Tryz.prog 10 #[.string ⟨l.toArray⟩] w (Parses w o n) := by
  refine (po_parse ⟨l.toArray⟩ w hg).mono ?_
  rintro e w' ⟨v, rfl, h1, _, h3⟩
  simp only [h] at h1 ⊢
  exact ⟨v, rfl, h1, h3⟩
theorem exN_ok : Po.OkAll Po.exN := by
  obtain ⟨l, t, _, hp, he, hk, _⟩ := Po.parse_tree Po.ex_a
  have := (Po.P_tree (6 * l.length + 6)).1 0 l [] default (by decide) (by decide)
  rw [hp] at this
  have h2 := (Po.P_ok _ _ _ _ _ _ hk .nil this).2.1
  simp only [List.nil_append, List.length_nil] at h2
  rw [he]; exact h2
/-- facts of one stage with two outcomes, as the law builds them -/
theorem two_facts {w : World} {x y : Int} {a b : Int} : ∀ W, (w.alloc (.cells #[.int .i64 x, .int .i64 y] 3)).alloc (.cells #[.slice (some ⟨w.heap.size, 0, none⟩) 2 2] 47) = W →
    RFacts W W.heap.size (.agg #[.int .i64 a, .int .i64 b, .slice none 0 0, .slice (some ⟨w.heap.size + 1, 0, none⟩) 1 1]) ⟨a, b, [], [[x, y]]⟩ ∧ Below w.heap.size w W ∧ W.heap.size = w.heap.size + 2 := by
  rintro W hW
  obtain ⟨h1, h2, h3, h4⟩ := two_boxes W hW
  refine ⟨⟨.slice none 0 0, .slice (some ⟨w.heap.size + 1, 0, none⟩) 1 1, rfl, ⟨none, 0, rfl, Nat.le_refl _, by simp [maxLen], fun h => by simp at h⟩, some ⟨w.heap.size + 1, 0, none⟩, 1, rfl, Nat.le_refl _, by simp [maxLen], fun _ => ⟨w.heap.size + 1, 0, rfl, by omega, fun i r hr => ?_⟩⟩, h3, h4⟩
  cases i with
  | succ i => simp at hr
  | zero =>
    simp at hr
    subst hr
    refine ⟨.slice (some ⟨w.heap.size, 0, none⟩) 2 2, cell_of_row _ _ 0 _ _ _ h2, some ⟨w.heap.size, 0, none⟩, 2, rfl, Nat.le_refl _, by simp [maxLen], fun _ => ⟨w.heap.size, 0, rfl, by omega, fun j z hz => ?_⟩⟩
    match j, hz with
    | 0, hz => simp at hz; subst hz; exact cell_of_row _ _ 0 _ _ _ h1
    | 1, hz => simp at hz; subst hz; exact cell_of_row _ _ 1 _ _ _ h1
    | j + 2, hz => simp at hz
theorem val_two {a b x y : Int} (h : -1 ≤ x ∧ x ≤ 3) (g : -1 ≤ y ∧ y ≤ 3) : ValidF ⟨a, b, [], [[x, y]]⟩ := by
  intro r hr z hz
  simp only [List.mem_cons, List.not_mem_nil, or_false] at hr
  subst hr
  simp only [List.mem_cons, List.not_mem_nil, or_false] at hz
  rcases hz with rfl | rfl
  · exact h
  · exact g
theorem one_point {w : World} : ∀ W, w.alloc (.cells #[.int .i64 0, .int .i64 1] 50) = W → RPts W 0 W.heap.size (.slice (some ⟨w.heap.size, 0, none⟩) 1 1) [(0, 1)] ∧ Below w.heap.size w W := by
  intro W hW
  obtain ⟨h1, h2, h3⟩ := one_box W hW
  refine ⟨⟨some ⟨w.heap.size, 0, none⟩, 1, rfl, Nat.le_refl _, by simp [maxLen], fun _ => ⟨w.heap.size, 0, rfl, Nat.zero_le _, by omega, fun i p hp => ?_⟩⟩, h2⟩
  cases i with
  | succ i => simp at hp
  | zero =>
    simp at hp
    subst hp
    exact ⟨cell_of_row _ _ 0 _ _ _ h1, cell_of_row _ _ 1 _ _ _ h1⟩
set_option maxRecDepth 1000000 in
set_option maxHeartbeats 4000000 in
theorem san_true (w : World) (hg : Gl w) : Calls Tryz.prog 9 #[] w fun e w' => e = .returned (.bool true) ∧ Below w.heap.size w w' := by
  have HG := Lib.hid hg
  clear hg
  go_enter Tryz.func9, Tryz.ntmps9
  go_wp2_with fail
  refine (ex_parse Po.ex_a w HG.out).mono ?_
  rintro e w1 ⟨v1, rfl, hn1, hb1⟩
  obtain ⟨A1, c1, rfl, -, -⟩ := hn1.form
  have hN : Po.exN.length = 4 := rfl
  rw [hN] at hn1 ⊢
  obtain ⟨W1, hW1⟩ : ∃ W1, w1.alloc (.cells #[.slice A1 4 c1] 25) = W1 := ⟨_, rfl⟩
  obtain ⟨x1, hB1, s1⟩ := one_box W1 hW1
  have hwW1 := hb1.trans (hB1.mono hb1.size)
  have HN1 := Lib.hid hn1
  have HB1 := Lib.hid (And.intro hb1 (And.intro hB1 (And.intro x1 (And.intro hwW1 s1))))
  have HG1 := Lib.hid (HG.out.mem hwW1)
  clear hn1 hb1 x1 hB1 hwW1 s1
  go_wp2_with fail
  clear hW1
  refine (ex_parse Po.ex_b W1 HG1.out).mono ?_
  rintro e w2 ⟨v2, rfl, hn2, hb2⟩
  obtain ⟨A2, c2, rfl, -, -⟩ := hn2.form
  obtain ⟨W2, hW2⟩ : ∃ W2, w2.alloc (.cells #[.slice A2 0 c2] 25) = W2 := ⟨_, rfl⟩
  obtain ⟨x2, hB2, s2⟩ := one_box W2 hW2
  have hwW2 := hb2.trans (hB2.mono hb2.size)
  have HB2 := Lib.hid hwW2
  have HG2 := Lib.hid (HG1.out.mem hwW2)
  clear hn2 hb2 x2 hB2 hwW2 s2
  go_wp2_with fail
  clear hW2
  have hc := Po.ex_c
  refine (ex_parse (l := Po.exC) (o := (Po.parse Po.exC).1) (n := 0) (by rw [← hc]) W2 HG2.out).mono ?_
  clear hc
  rintro e w3 ⟨v3, rfl, hn3, hb3⟩
  obtain ⟨A3, c3, rfl, -, -⟩ := hn3.form
  generalize (Po.parse Po.exC).1.length = n3
  obtain ⟨W3, hW3⟩ : ∃ W3, w3.alloc (.cells #[.slice A3 n3 c3] 25) = W3 := ⟨_, rfl⟩
  obtain ⟨x3, hB3, s3⟩ := one_box W3 hW3
  have hwW3 := HB2.out.trans ((hb3.trans (hB3.mono hb3.size)).mono HB2.out.size)
  have HB3 := Lib.hid hwW3
  have HG3 := Lib.hid (HG1.out.mem hwW3)
  clear hn3 hb3 x3 hB3 hwW3 s3
  have HBX : Hid (∀ W', Below W1.heap.size W1 W' → W'.cell? ⟨w1.heap.size, 0, none⟩ = some (.slice A1 4 c1)) := Lib.hid fun W' h => (h.cell (p := ⟨w1.heap.size, 0, none⟩) (show w1.heap.size < W1.heap.size by have := HB1.out.2.2.2.2; omega)).trans (cell_of_row _ _ 0 _ _ _ HB1.out.2.2.1)
  have HNX : Hid (∀ W', Below W1.heap.size W1 W' → RNds W' w.heap.size W'.heap.size (.slice A1 4 c1) Po.exN) := Lib.hid fun W' h => by
    have hb := HB1.out.2.1
    exact ((HN1.out.below hb).below (h.mono hb.size)).more (Nat.le_refl _) (Nat.le_trans hb.size h.size)
  have q3 := HBX.out _ HB3.out
  obtain ⟨W4, hW4⟩ : ∃ W4, (W3.alloc (.cells #[.int .i64 3, .int .i64 2] 3)).alloc (.cells #[.slice (some ⟨W3.heap.size, 0, none⟩) 2 2] 47) = W4 := ⟨_, rfl⟩
  obtain ⟨hf4, hB4, s4⟩ := two_facts (a := 2) (b := 0) W4 hW4
  have HB4 := Lib.hid (HB3.out.trans (hB4.mono HB3.out.size))
  have HG4 := Lib.hid (HG1.out.mem HB4.out)
  have HF4 := Lib.hid hf4
  clear hf4 hB4 s4
  go_wp2_with fail
  clear hW4
  have c5 := po_eval (.slice A1 4 c1) _ Po.exN _ W4 w.heap.size HG4.out (HNX.out _ HB4.out) exN_ok (by decide) HF4.out (val_two (by omega) (by omega))
  rw [Po.ex_1] at c5
  refine c5.mono ?_
  rintro e w5 ⟨rfl, hb5⟩
  clear c5
  have HB5 := Lib.hid (HB4.out.trans (hb5.mono HB4.out.size))
  have HG5 := Lib.hid (HG1.out.mem HB5.out)
  have q5 := HBX.out _ HB5.out
  clear hb5
  obtain ⟨W6, hW6⟩ : ∃ W6, (w5.alloc (.cells #[.int .i64 3, .int .i64 (-1)] 3)).alloc (.cells #[.slice (some ⟨w5.heap.size, 0, none⟩) 2 2] 47) = W6 := ⟨_, rfl⟩
  obtain ⟨hf6, hB6, s6⟩ := two_facts (a := 2) (b := 0) W6 hW6
  have HB6 := Lib.hid (HB5.out.trans (hB6.mono HB5.out.size))
  have HG6 := Lib.hid (HG1.out.mem HB6.out)
  have HF6 := Lib.hid hf6
  clear hf6 hB6 s6
  go_wp2_with fail
  clear hW6
  have c7 := po_eval (.slice A1 4 c1) _ Po.exN _ W6 w.heap.size HG6.out (HNX.out _ HB6.out) exN_ok (by decide) HF6.out (val_two (by omega) (by omega))
  rw [Po.ex_2] at c7
  refine c7.mono ?_
  rintro e w7 ⟨rfl, hb7⟩
  clear c7
  have HB7 := Lib.hid (HB6.out.trans (hb7.mono HB6.out.size))
  have HG7 := Lib.hid (HG1.out.mem HB7.out)
  have q7 := HBX.out _ HB7.out
  clear hb7
  obtain ⟨W8, hW8⟩ : ∃ W8, (w7.alloc (.cells #[.int .i64 3, .int .i64 (-1)] 3)).alloc (.cells #[.slice (some ⟨w7.heap.size, 0, none⟩) 2 2] 47) = W8 := ⟨_, rfl⟩
  obtain ⟨hf8, hB8, s8⟩ := two_facts (a := 1) (b := 0) W8 hW8
  have HB8 := Lib.hid (HB7.out.trans (hB8.mono HB7.out.size))
  have HG8 := Lib.hid (HG1.out.mem HB8.out)
  have HF8 := Lib.hid hf8
  clear hf8 hB8 s8
  go_wp2_with fail
  clear hW8
  have c9 := po_eval (.slice A1 4 c1) _ Po.exN _ W8 w.heap.size HG8.out (HNX.out _ HB8.out) exN_ok (by decide) HF8.out (val_two (by omega) (by omega))
  rw [Po.ex_3] at c9
  refine c9.mono ?_
  rintro e w9 ⟨rfl, hb9⟩
  clear c9
  have HB9 := Lib.hid (HB8.out.trans (hb9.mono HB8.out.size))
  have HG9 := Lib.hid (HG1.out.mem HB9.out)
  have q9 := HBX.out _ HB9.out
  clear hb9
  go_wp2_with fail
  have ct := po_text (.slice A1 4 c1) Po.exN w9 w.heap.size HG9.out (HNX.out _ HB9.out) exN_ok (by decide) (parse_short Po.ex_a)
  rw [Po.ex_t] at ct
  refine ct.mono ?_
  rintro e w10 ⟨rfl, hb10⟩
  clear ct
  have HB10 := Lib.hid (HB9.out.trans (hb10.mono HB9.out.size))
  have q10 := HBX.out _ HB10.out
  clear hb10
  go_wp2_with fail
  refine (po_points (.slice A1 4 c1) Po.exN w10 w.heap.size (HNX.out _ HB10.out) exN_ok (by decide)).mono ?_
  rintro e w11 ⟨v11, rfl, hp11, hb11⟩
  rw [Po.ex_p] at hp11
  obtain ⟨A11, c11, rfl, -, -⟩ := hp11.form
  obtain ⟨W12, hW12⟩ : ∃ W12, w11.alloc (.cells #[.int .i64 0, .int .i64 1] 50) = W12 := ⟨_, rfl⟩
  obtain ⟨hp12, hB12⟩ := one_point W12 hW12
  have HB12 := Lib.hid (HB10.out.trans ((hb11.trans (hB12.mono hb11.size)).mono HB10.out.size))
  have HP11 := Lib.hid ((hp11.below hB12).more (Nat.le_refl _) hB12.size)
  have HP12 := Lib.hid hp12
  clear hp11 hb11 hp12 hB12
  have hl1 : ([(0, 1)] : List (Nat × Nat)).length = 1 := rfl
  rw [hl1] at HP11 ⊢
  clear hl1
  go_wp2_with fail
  clear hW12
  refine (ref_pairs _ _ _ _ W12 _ _ HP11.out HP12.out).mono ?_
  rintro e w13 ⟨rfl, q, rfl⟩
  go_wp2_with fail
  go_ret
  exact ⟨rfl, below_drewN (HB1.out.2.2.2.1.trans (HB12.out.mono HB1.out.2.2.2.1.size)) _⟩
end Go.Proofs.YtdolpmmnjndfkaaGreatDoor
