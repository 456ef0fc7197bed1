/- Chapter 29, the walk: the law PolicyDependsOnPoints. -/
import Derived.Test.YtdolpmmnjndfkaaGreatDoorPoDepA
namespace Go.Proofs.YtdolpmmnjndfkaaGreatDoor
open Go.RowKit
theorem valid_tt {vf : Value} {f : Po.Facts} {w : World} (h : VF f) (hf : RFacts w w.heap.size vf f) : Calls Tryz.prog 21 #[vf] w fun e w' => e = .returned (.bool true) ∧ Below w.heap.size w w' := by
  have := ref_valid vf f w hf
  rw [show decide (VF f) = true by simpa using h] at this
  exact this
theorem valid_ff {vf : Value} {f : Po.Facts} {w : World} (h : ¬ VF f) (hf : RFacts w w.heap.size vf f) : Calls Tryz.prog 21 #[vf] w fun e w' => e = .returned (.bool false) ∧ Below w.heap.size w w' := by
  have := ref_valid vf f w hf
  rw [vf_false h] at this
  exact this
theorem own_form {w : World} {B : Nat} {e : TypeId} {s n : Nat} {v : Value} {x : List Value} (h : w.ownsRow B e s v n x) : ∃ A c, v = .slice A n c := by
  obtain ⟨-, ⟨rfl, rfl⟩ | ⟨g, cap, cur, rfl, -⟩⟩ := h
  · exact ⟨_, _, rfl⟩
  · exact ⟨_, _, rfl⟩
theorem wrap_succ {k l : Nat} (h : (k : Int) < l) (hl : l ≤ 9223372036854775807) : wrap64 ((k : Int) + 1) = (k : Int) + 1 := by unfold wrap64; omega
theorem small_of {t : Int} (h : -128 ≤ t ∧ t ≤ 127) : -1000 ≤ t ∧ t ≤ 1000 := by omega
theorem small_u {u : Int} (h : -4 ≤ u ∧ u ≤ 4) : -1000 ≤ u - 1 ∧ u - 1 ≤ 1000 := by omega
theorem small_v {u : Int} (h : -4 ≤ u ∧ u ≤ 4) : -1000 ≤ u - 1 + 5 ∧ u - 1 + 5 ≤ 1000 := by omega
theorem le_big {l : Nat} (h : l ≤ 20) : l ≤ 9223372036854775807 := by omega
theorem lt_len {r : List Int} {k l : Nat} (h : r.length = l) (hk : (k : Int) < l) : k < r.length := by omega
theorem lt_lenp {r : List (Nat × Nat)} {k l : Nat} (h : r.length = l) (hk : (k : Int) < l) : k < r.length := by omega
theorem eq_of_gas {k l : Nat} (h : k + 0 = l) : k = l := by omega
theorem not_lt_self (k : Nat) : ¬ (k : Int) < k := by omega
theorem lt_of_gas {k l g : Nat} (h : k + (g + 1) = l) : (k : Int) < l := by omega
theorem lt2_of_gas {k l g : Nat} (h : k + (g + 1) = l) : 0 ≤ (k : Int) ∧ (k : Int) < l := by omega
theorem gas_next {k l g : Nat} (h : k + (g + 1) = l) : k + 1 + g = l := by omega
theorem max20 {k l : Nat} (h : l ≤ 20) (hk : k + 0 < l + 1) : k + 1 ≤ maxLen ∧ (k + 1) * 8 ≤ 140737488355328 := by unfold maxLen; omega
theorem y0_of {q0 q5 : Int} (h : (q0 < -1 ∧ -1 ≤ q5 ∧ q5 ≤ 3) ∨ (-1 ≤ q0 ∧ q0 ≤ 3)) : ∃ y0 : Int, (-1 ≤ y0 ∧ y0 ≤ 3) ∧ ((q0 < -1 ∧ y0 = q5) ∨ (¬ q0 < -1 ∧ y0 = q0)) := by
  by_cases hq : q0 < -1
  · exact ⟨q5, by omega, .inl ⟨hq, rfl⟩⟩
  · exact ⟨q0, by omega, .inr ⟨hq, rfl⟩⟩
theorem dec_t {pa pb i k : Nat} (h : i = pa ∧ k = pb) : decide (((pa : Int) = i) ∧ ((pb : Int) = k)) = true := by rw [decide_eq_true_iff]; omega
theorem dec_f {pa pb i k : Nat} (h : ¬ (i = pa ∧ k = pb)) : decide (((pa : Int) = i) ∧ ((pb : Int) = k)) = false := by rw [decide_eq_false_iff_not]; omega
theorem max_k {k l : Nat} (h : l ≤ 20) (hk : (k : Int) < l) : k + 1 ≤ maxLen ∧ (k + 1) * 8 ≤ 140737488355328 := by unfold maxLen; omega
theorem alloc_le {a : Nat} {w : World} (o : Obj) (h : a ≤ w.heap.size) : a ≤ (w.alloc o).heap.size := by rw [World.size_alloc]; omega
theorem tmod_all : ∀ j : Fin 256, -4 ≤ ((j.val : Int) - 128).tmod 5 ∧ ((j.val : Int) - 128).tmod 5 ≤ 4 := by decide +kernel
theorem tmod_in {t : Int} (h : -128 ≤ t ∧ t ≤ 127) : -4 ≤ t.tmod 5 ∧ t.tmod 5 ≤ 4 := by
  have := tmod_all ⟨(t + 128).toNat, by omega⟩
  have e : (((t + 128).toNat : Nat) : Int) - 128 = t := by omega
  simp only [e] at this
  exact this
theorem wrap_small {x : Int} (h : -1000 ≤ x ∧ x ≤ 1000) : wrap64 x = x := by unfold wrap64; omega
theorem q_in {tk q0 q5 : Int} (h : -128 ≤ tk ∧ tk ≤ 127) (h0 : wrap64 ((wrap64 tk).tmod 5 - 1) = q0) (h5 : wrap64 (q0 + 5) = q5) : (q0 < -1 ∧ -1 ≤ q5 ∧ q5 ≤ 3) ∨ (-1 ≤ q0 ∧ q0 ≤ 3) := by
  have h1 := tmod_in h
  rw [wrap_small (small_of h)] at h0
  generalize tk.tmod 5 = u at h0 h1
  rw [wrap_small (small_u h1)] at h0
  subst h0
  rw [wrap_small (small_v h1)] at h5
  subst h5
  clear h
  omega
theorem cast_succ (k : Nat) : Value.int .i64 ((k : Int) + 1) = Value.int .i64 ((k + 1 : Nat) : Int) := by rw [Int.natCast_succ]
theorem len_snoc {q : List Int} {z : Int} {k : Nat} (h : q.length = k) : (q ++ [z]).length = k + 1 := by rw [List.length_append, h]; rfl
theorem box_fr {w : World} {b : Nat} {cs : Array Value} {t : TypeId} (h : w.heap[b]? = some (.cells cs t)) (o : Nat) : w.frozen? ⟨b, o, none⟩ = false := by simp [World.frozen?, h]
theorem row_snoc {o : List Po.Nd} {i : Nat} {r0 q : List Int} {z y : Int} (h : RowOk o i r0 q) (hy : r0[q.length]? = some y) (hz : -1 ≤ z ∧ z ≤ 3) (hn : (i, q.length) ∈ Po.points o → z = y) : RowOk o i r0 (q ++ [z]) := by
  intro k x hx
  by_cases hk : k < q.length
  · rw [List.getElem?_append_left hk] at hx
    exact h k x hx
  · have : k = q.length := by
      have := (List.getElem?_eq_some_iff.1 hx).1
      simp at this
      omega
    subst this
    rw [List.getElem?_append_right (Nat.le_refl _), Nat.sub_self] at hx
    simp only [List.getElem?_cons_zero, Option.some.injEq] at hx
    subst hx
    exact ⟨hz, fun hm => by rw [hn hm]; exact hy⟩
theorem push_box {wx w5 : World} {Bx i : Nat} {V v0 v1 v2 : Value} {us : List Value} {ob : Obj} (h2 : wx.heap[Bx]? = some (.cells #[v0, v1, v2, V] 42))
    (c : wx.ownsRow (Bx + 1) 47 1 V i us) (hg : (wx.alloc ob).grownBy w5 V.ownBlock) : w5.heap[Bx]? = some (.cells #[v0, v1, v2, V] 42) := by
  have hlt : Bx < wx.heap.size := (Array.getElem?_eq_some_iff.1 h2).1
  rw [hg.block Bx (by simp; omega) (fun e => by have := (c.lt Bx e.symm).1; omega), Below.heap_alloc _ _ _ hlt]
  exact h2
set_option maxRecDepth 1000000 in
set_option maxHeartbeats 16000000 in
theorem law_deps (text : ByteArray) (f : Po.Facts) (tk : Int) {cf : Array Value} (w : World) (hg : Gl w) (hsz : text.size ≤ maxLen) (hf : FactsIn w cf f) (htk : (Lit.int .i8 tk).wf = true) :
    Calls Tryz.prog 7 #[.string text, .agg cf, .int .i8 tk] w fun e w' => e = .returned (.bool true) ∧ Below w.heap.size w w' := by
  obtain ⟨vs, vp, hcs, hfs, hfp⟩ := hf
  cases hcs
  have htk2 : -128 ≤ tk ∧ tk ≤ 127 := by simpa [Lit.wf, IntKind.min, IntKind.max, IntKind.signed, IntKind.bits] using htk
  obtain ⟨A1, c1, rfl, hl1, hm1⟩ := hfp.form
  obtain ⟨A0, c0, rfl, -, -⟩ := hfs.form
  obtain ⟨k0, hk0⟩ : ∃ k, f.stages.length = k := ⟨_, rfl⟩
  rw [hk0] at hfs ⊢
  clear hk0
  obtain ⟨n, hn⟩ : ∃ n, f.points.length = n := ⟨_, rfl⟩
  rw [hn] at hfp hl1 ⊢
  obtain ⟨⟨o, en⟩, hpr⟩ : ∃ r, Po.parse text.data.toList = r := ⟨_, rfl⟩
  have HPR := Lib.hid hpr
  have HN := Lib.hid hn
  unfold maxLen at hsz hm1
  have hlim : n ≤ 9223372036854775807 := by omega
  have HLIM := Lib.hid hlim
  obtain ⟨W0, hW0⟩ : ∃ W0, w.alloc (.cells #[.int .i64 f.version, .int .i64 f.epoch, .slice A0 k0 c0, .slice A1 n c1] 42) = W0 := ⟨_, rfl⟩
  obtain ⟨x0, hB0, s0⟩ := one_box W0 hW0
  have HB0 := Lib.hid (And.intro hB0 (And.intro x0 s0))
  have HG0 := Lib.hid (hg.mem hB0)
  have HF : Hid (∀ W', Und W0 W' → RFacts W' W'.heap.size (.agg #[.int .i64 f.version, .int .i64 f.epoch, .slice A0 k0 c0, .slice A1 n c1]) f ∧ Gl W' ∧ RInt2 W' w.heap.size (.slice A1 n c1) f.points ∧ RDigs W' W'.heap.size (.slice A0 k0 c0) f.stages) := Lib.hid fun W' h => by
    have hb' : Below w.heap.size w W' := hB0.trans (h.mono hB0.size)
    exact ⟨⟨_, _, rfl, (hfs.below hb').mono hb'.size, (hfp.below hb').mono hb'.size⟩, hg.mem hb', hfp.below hb', (hfs.below hb').mono hb'.size⟩
  have HC : Hid (∀ W', Und W0 W' → W'.cell? ⟨w.heap.size, 0, none⟩ = some (.int .i64 f.version) ∧ W'.cell? ⟨w.heap.size, 1, none⟩ = some (.int .i64 f.epoch) ∧ W'.cell? ⟨w.heap.size, 2, none⟩ = some (.slice A0 k0 c0) ∧ W'.cell? ⟨w.heap.size, 3, none⟩ = some (.slice A1 n c1)) := Lib.hid fun W' h => by
    have hx := ((h.mono (Nat.le_refl _)).block w.heap.size (by omega)).trans x0
    exact ⟨cell_of_row _ _ 0 _ _ _ hx, cell_of_row _ _ 1 _ _ _ hx, cell_of_row _ _ 2 _ _ _ hx, cell_of_row _ _ 3 _ _ _ hx⟩
  have HBW : Hid (∀ W', Und W0 W' → Below w.heap.size w W') := Lib.hid fun W' h => HB0.out.1.trans (h.mono HB0.out.1.size)
  clear hpr hg x0 hB0 s0 hfs hfp hn hl1 hm1 hlim htk
  obtain ⟨i0, hi0, hz0, hz1, hz2⟩ := info_parts int_info
  obtain ⟨j0, hj0, hy0, hy1, hy2⟩ := info_parts rows_info
  obtain ⟨q0, hq0⟩ : ∃ q, wrap64 ((wrap64 tk).tmod 5 - 1) = q := ⟨_, rfl⟩
  obtain ⟨q5, hq5⟩ : ∃ q, wrap64 (q0 + 5) = q := ⟨_, rfl⟩
  have hqq := q_in htk2 hq0 hq5
  have HQQ := Lib.hid hqq
  have HQ0 := Lib.hid (And.intro hq0 hq5)
  clear hqq htk2 hq0 hq5
  go_enter Tryz.func7, Tryz.ntmps7
  go_wp2_with fail
  clear hW0
  refine (san_true W0 HG0.out).mono ?_
  rintro e w1 ⟨rfl, hb1⟩
  have hu1 : Und W0 w1 := hb1
  have HU1 := Lib.hid hu1
  clear hb1 hu1
  have hsz2 : (text.size : Int) ≤ 9223372036854775807 := by omega
  by_cases la : (600 : Int) < text.size
  · go_wp2_with fail
    go_ret
    exact ⟨rfl, HBW.out _ HU1.out⟩
  obtain ⟨p0, p1, p2, p3⟩ := HC.out _ HU1.out
  by_cases v1 : VF f
  rotate_left
  · have V1 := Lib.hid v1
    clear v1
    go_wp2_with (go_at_call 21; (with_reducible refine (valid_ff V1.out (HF.out _ HU1.out).1).mono ?_); rintro e w2 ⟨rfl, hb2⟩; have HU2 : Hid (Und W0 w2) := Lib.hid (HU1.out.trans (hb2.mono HU1.out.size)))
    go_ret
    exact ⟨rfl, HBW.out _ HU2.out⟩
  have V1 := Lib.hid v1
  clear v1
  go_wp2_with (go_at_call 21; (with_reducible refine (valid_tt V1.out (HF.out _ HU1.out).1).mono ?_); rintro e w4 ⟨rfl, hb2⟩; have HU4 : Hid (Und W0 w4) := Lib.hid (HU1.out.trans (hb2.mono HU1.out.size)); clear hb2 p0 p1 p2 p3)
  refine (parse_any text HPR.out w4 (HF.out _ HU4.out).2.1).mono ?_
  rintro e w5 ⟨v5, rfl, hn5, hb5⟩
  obtain ⟨A5, c5, rfl, -, -⟩ := hn5.form
  obtain ⟨m, hm⟩ : ∃ m, o.length = m := ⟨_, rfl⟩
  rw [hm] at hn5 ⊢
  obtain ⟨W5, hW5⟩ : ∃ W5, w5.alloc (.cells #[.slice A5 m c5] 25) = W5 := ⟨_, rfl⟩
  obtain ⟨x5, hB5, s5⟩ := one_box W5 hW5
  have HU5 : Hid (Und W0 W5) := Lib.hid (HU4.out.trans ((hb5.trans (hB5.mono hb5.size)).mono HU4.out.size))
  have HN5 := Lib.hid ((hn5.below hB5).more (Nat.le_refl _) hB5.size)
  have HX5 := Lib.hid (And.intro x5 s5)
  clear hn5 hb5 x5 hB5 s5 hm
  by_cases hn : (en : Int) = 0
  rotate_left
  · go_wp2_with fail
    go_ret
    exact ⟨rfl, HBW.out _ HU5.out⟩
  obtain rfl : en = 0 := by omega
  clear hn
  have HO := Lib.hid (And.intro (parse_ok_all HPR.out) (show o.length ≤ 100000 by have := parse_len HPR.out; omega))
  have HX : Hid (∀ W', Und W5 W' → Und W0 W' ∧ W'.cell? ⟨w5.heap.size, 0, none⟩ = some (.slice A5 m c5) ∧ RNds W' w4.heap.size W'.heap.size (.slice A5 m c5) o) := Lib.hid fun W' h => by
    have s5 := HX5.out.2
    exact ⟨HU5.out.trans (h.mono HU5.out.size), (h.cell (p := ⟨w5.heap.size, 0, none⟩) (show w5.heap.size < W5.heap.size by omega)).trans (cell_of_row _ _ 0 _ _ _ HX5.out.1), (HN5.out.below h).more (Nat.le_refl _) h.size⟩
  have HZ5 : Hid (Und W5 W5) := Lib.hid (Below.refl _ _)
  obtain ⟨-, d5, -⟩ := HX.out _ HZ5.out
  go_wp2_with fail
  clear hW5
  refine (po_points (.slice A5 m c5) o W5 w4.heap.size (HX.out _ HZ5.out).2.2 HO.out.1 HO.out.2).mono ?_
  rintro e w7 ⟨v7, rfl, hp7, hb7⟩
  obtain ⟨A7, c7, rfl, hl7, hm7⟩ := hp7.form
  obtain ⟨np, hnp⟩ : ∃ m, (Po.points o).length = m := ⟨_, rfl⟩
  rw [hnp] at hp7 hl7 ⊢
  unfold maxLen at hm7
  have hnl : np ≤ 9223372036854775807 := by omega
  have HNL := Lib.hid hnl
  clear hl7 hm7 hnl
  have HZ7 : Hid (Und W5 w7) := Lib.hid hb7
  have HP7 := Lib.hid (And.intro hp7 hnp)
  clear hb7 hp7 hnp d5
  obtain ⟨p0, p1, p2, p3⟩ := HC.out _ (HX.out _ HZ7.out).1
  go_wp2_with fail
  obtain ⟨W8, hW8⟩ : ∃ W8, w7.alloc (.cells #[.int .i64 f.version, .int .i64 f.epoch, .slice A0 k0 c0, .slice none 0 0] 42) = W8 := ⟨_, rfl⟩
  obtain ⟨x8, hB8, s8⟩ := one_box W8 hW8
  have HS8 := Lib.hid (DepAt.start (o := o) x8)
  have HZ8 : Hid (Und W5 W8) := Lib.hid (HZ7.out.trans (hB8.mono HZ7.out.size))
  have HU8 : Hid (Und W0 W8) := Lib.hid (HX.out _ HZ8.out).1
  have HP8 := Lib.hid (HP7.out.1.frame (w' := W8) (fun k _ hk => hB8.block k hk))
  have HSZ := Lib.hid (And.intro s8 (And.intro HZ7.out.size (HX.out _ HZ7.out).1.size))
  clear x8 hB8 s8
  go_loopg [12] n (fun g s12 wr => ∃ (i : Nat) (V : Value), i + g = n ∧ s12 = .int .i64 i ∧ Hid (DepAt W8 w7.heap.size o f (.slice A0 k0 c0) wr i V))
  case atStart => subst hW8; exact ⟨0, _, by omega, rfl, HS8⟩
  case round =>
    clear hW8 p0 p1 p2 p3
    obtain ⟨i, V, hig, rfl, HD⟩ := hrel
    obtain ⟨wo, hwo⟩ : ∃ X, X = wr := ⟨_, rfl⟩
    subst hwo
    have HUR : Hid (Und W0 wo) := Lib.hid (HU8.out.trans (HD.out.below.mono (HSZ.out.2.2)))
    cases gk with
    | zero =>
      obtain rfl : i = n := by omega
      have hi : ¬ (i : Int) < i := by omega
      have hDf := HD.out
      rw [← HN.out] at hDf
      obtain ⟨gf, -, -, hal, hval, hrf⟩ := hDf.fin (HF.out _ HUR.out).2.2.2
      have HGF := Lib.hid (And.intro (Po.eval_alike hal) (And.intro hval hrf))
      clear hDf hal hval hrf
      obtain ⟨-, hbox, us, rs, -, -, hown, -⟩ := HD.out
      obtain ⟨AV, cV, hV⟩ := own_form hown
      subst hV
      have HBX := Lib.hid hbox
      have HU5W : Hid (Und W5 wo) := Lib.hid (HZ8.out.trans (HD.out.below.mono HSZ.out.2.1))
      have hlt := HD.out.lt
      have HLT := Lib.hid hlt
      clear hown hbox hlt us rs
      have HSS : Hid (∀ W', Und wo W' → (W'.cell? ⟨w5.heap.size, 0, none⟩ = some (.slice A5 m c5) ∧ W'.cell? ⟨w.heap.size, 0, none⟩ = some (.int .i64 f.version) ∧ W'.cell? ⟨w.heap.size, 1, none⟩ = some (.int .i64 f.epoch) ∧ W'.cell? ⟨w.heap.size, 2, none⟩ = some (.slice A0 k0 c0) ∧ W'.cell? ⟨w.heap.size, 3, none⟩ = some (.slice A1 i c1) ∧ W'.cell? ⟨w7.heap.size, 0, none⟩ = some (.int .i64 f.version) ∧ W'.cell? ⟨w7.heap.size, 1, none⟩ = some (.int .i64 f.epoch) ∧ W'.cell? ⟨w7.heap.size, 2, none⟩ = some (.slice A0 k0 c0) ∧ W'.cell? ⟨w7.heap.size, 3, none⟩ = some (.slice AV i cV) ∧ Und wo W')) := Lib.hid fun W' h => by
        have h5 : Und W5 W' := HU5W.out.trans (h.mono HU5W.out.size)
        obtain ⟨h0, hd, -⟩ := HX.out _ h5
        obtain ⟨p0, p1, p2, p3⟩ := HC.out _ h0
        have hb := (Below.block h w7.heap.size HLT.out).trans HBX.out
        exact ⟨hd, p0, p1, p2, p3, cell_of_row _ _ 0 _ _ _ hb, cell_of_row _ _ 1 _ _ _ hb, cell_of_row _ _ 2 _ _ _ hb, cell_of_row _ _ 3 _ _ _ hb, h⟩
      have HNS : Hid (∀ W', Und wo W' → Gl W' ∧ RNds W' w4.heap.size W'.heap.size (.slice A5 m c5) o ∧ RFacts W' W'.heap.size (.agg #[.int .i64 f.version, .int .i64 f.epoch, .slice A0 k0 c0, .slice A1 i c1]) f ∧ RFacts W' W'.heap.size (.agg #[.int .i64 f.version, .int .i64 f.epoch, .slice A0 k0 c0, .slice AV i cV]) gf) := Lib.hid fun W' h => by
        have h5 : Und W5 W' := HU5W.out.trans (h.mono HU5W.out.size)
        obtain ⟨h0, -, hn⟩ := HX.out _ h5
        exact ⟨(HF.out _ h0).2.1, hn, (HF.out _ h0).1, HGF.out.2.2 _ h⟩
      have HEND : Hid (∀ W', Und wo W' → Below w.heap.size w W') := Lib.hid fun W' h => HBW.out _ (HUR.out.trans (h.mono HUR.out.size))
      have hU00 : Und wo wo := Below.refl _ _
      obtain ⟨d5, p0, p1, p2, p3, -⟩ := HSS.out _ hU00
      clear hU00
      go_upto_region 27 with fail
      clear d5 p0 p1 p2 p3
      have hU0 : Und wo wo.drew := (Below.refl _ _).drew
      go_region_held3 (fun W' => W'.cell? ⟨w5.heap.size, 0, none⟩ = some (.slice A5 m c5) ∧ W'.cell? ⟨w.heap.size, 0, none⟩ = some (.int .i64 f.version) ∧ W'.cell? ⟨w.heap.size, 1, none⟩ = some (.int .i64 f.epoch) ∧ W'.cell? ⟨w.heap.size, 2, none⟩ = some (.slice A0 k0 c0) ∧ W'.cell? ⟨w.heap.size, 3, none⟩ = some (.slice A1 i c1) ∧ W'.cell? ⟨w7.heap.size, 0, none⟩ = some (.int .i64 f.version) ∧ W'.cell? ⟨w7.heap.size, 1, none⟩ = some (.int .i64 f.epoch) ∧ W'.cell? ⟨w7.heap.size, 2, none⟩ = some (.slice A0 k0 c0) ∧ W'.cell? ⟨w7.heap.size, 3, none⟩ = some (.slice AV i cV) ∧ Und wo W') (first | assumption | exact HSS.out _ hU0 | exact HSS.out _ hU9 | exact HSS.out _ hU8) (first
        | (go_at_call 22; (with_reducible refine (po_eval (.slice A5 m c5) (.agg #[.int .i64 f.version, .int .i64 f.epoch, .slice A0 k0 c0, .slice A1 i c1]) o f _ w4.heap.size (HNS.out _ hU8).1 (HNS.out _ hU8).2.1 HO.out.1 HO.out.2 (HNS.out _ hU8).2.2.1 V1.out.val).mono ?_); rintro e w9 ⟨rfl, hbw9⟩; have hU9 : Und wo w9 := hU8.trans (hbw9.mono hU8.size))
        | (go_at_call 22; (with_reducible refine (po_eval (.slice A5 m c5) (.agg #[.int .i64 f.version, .int .i64 f.epoch, .slice A0 k0 c0, .slice AV i cV]) o gf _ w4.heap.size (HNS.out _ hU8).1 (HNS.out _ hU8).2.1 HO.out.1 HO.out.2 (HNS.out _ hU8).2.2.2 HGF.out.2.1).mono ?_); rintro e w9 ⟨rfl, hbw9⟩; have hU9 : Und wo w9 := hU8.trans (hbw9.mono hU8.size))
        | (go_at_call 22; (with_reducible refine (po_eval (.slice A5 m c5) (.agg #[.int .i64 f.version, .int .i64 f.epoch, .slice A0 k0 c0, .slice A1 i c1]) o f _ w4.heap.size (HNS.out _ hU0).1 (HNS.out _ hU0).2.1 HO.out.1 HO.out.2 (HNS.out _ hU0).2.2.1 V1.out.val).mono ?_); rintro e w8 ⟨rfl, hbw8⟩; have hU8 : Und wo w8 := hU0.trans (hbw8.mono hU0.size))
        | (go_at_call 22; (with_reducible refine (po_eval (.slice A5 m c5) (.agg #[.int .i64 f.version, .int .i64 f.epoch, .slice A0 k0 c0, .slice AV i cV]) o gf _ w4.heap.size (HNS.out _ hU0).1 (HNS.out _ hU0).2.1 HO.out.1 HO.out.2 (HNS.out _ hU0).2.2.2 HGF.out.2.1).mono ?_); rintro e w8 ⟨rfl, hbw8⟩; have hU8 : Und wo w8 := hU0.trans (hbw8.mono hU0.size)))
      all_goals
        rw [HGF.out.1]
        go_wp2_with fail
        go_ret
        exact ⟨ret_bool (a := (Po.eval o gf == Po.eval o gf)) (by simp), HEND.out _ hU9⟩
    | succ g =>
      obtain ⟨p0, p1, p2, p3⟩ := HC.out _ HUR.out
      have hi : (i : Int) < n := by omega
      have hi2 : 0 ≤ (i : Int) ∧ (i : Int) < n := by omega
      have wi : wrap64 ((i : Int) + 1) = (i : Int) + 1 := wrap_succ hi HLIM.out
      obtain ⟨r0, hr0⟩ : ∃ r, f.points[i]? = some r := ⟨_, List.getElem?_eq_getElem (by have := HN.out; omega)⟩
      obtain ⟨bb, oo, R1, c3, rfl, hbb, -, gr1, hr1⟩ := (HF.out _ HUR.out).2.2.1.at hr0
      obtain ⟨l, hl⟩ : ∃ l, r0.length = l := ⟨_, rfl⟩
      rw [hl] at gr1 hr1
      have hl20 : l ≤ 20 := by
        have := (V1.out.2.2 r0 (List.mem_of_getElem? hr0)).1
        omega
      have hi10 : i < 10 := by
        have h1 := V1.out.2.1
        have h2 := (List.getElem?_eq_some_iff.1 hr0).1
        omega
      have HR0 := Lib.hid (And.intro hr0 (And.intro hl (And.intro hl20 (And.intro (fun y (hy : y ∈ r0) => (V1.out.2.2 r0 (List.mem_of_getElem? hr0)).2 y hy) hi10))))
      have HR1 := Lib.hid hr1
      have HBB := Lib.hid hbb
      have HG1 := Lib.hid gr1
      have HP3 := Lib.hid p3
      clear hr0 hl hl20 hr1 hbb p0 p1 p2 hi10
      go_wp2_with fail
      go_loopg [13, 14] l (fun g2 s13 s14 wx => ∃ (k : Nat) (q : List Int), k + g2 = l ∧ s14 = .int .i64 k ∧ q.length = k ∧ Hid (wx.ownsRow wo.heap.size 3 1 s13 k (iv q) ∧ Below wo.heap.size wo wx ∧ RowOk o i r0 q))
      case atStart => exact ⟨0, [], Nat.zero_add _, rfl, rfl, Lib.hid ⟨World.ownsRow_nil _ _ _ _, Below.refl _ _, fun k x h => by simp at h⟩⟩
      case round =>
        obtain ⟨k, q, hkg, rfl, hql, HE⟩ := hrel
        obtain ⟨wm, hwm⟩ : ∃ X, X = wr := ⟨_, rfl⟩
        subst hwm
        have hwl : w.heap.size < wo.heap.size := by
          have h1 := HUR.out.size
          have h2 := HB0.out.2.2
          omega
        have r3 := (HE.out.2.1.cell (p := ⟨w.heap.size, 3, none⟩) hwl).trans HP3.out
        have r1 := (HE.out.2.1.cell (p := ⟨bb, oo + i, none⟩) (show bb < wo.heap.size from Nat.lt_trans HBB.out hwl)).trans HG1.out
        have HWL := Lib.hid hwl
        have HDX := Lib.hid (HD.out.more HE.out.2.1)
        clear gr1 p3 hwl
        cases gk with
        | zero =>
          obtain rfl : k = l := eq_of_gas hkg
          have hk : ¬ (k : Int) < k := not_lt_self k
          obtain ⟨Au, cu, hu13⟩ := own_form HE.out.1
          subst hu13
          obtain ⟨hbl, hbox, us, rs, ha, hb, hc, hd⟩ := HDX.out
          obtain ⟨AV, cV, hV⟩ := own_form hc
          subst hV
          have e3 : wm.cell? ⟨w7.heap.size, 3, none⟩ = some (.slice AV i cV) := cell_of_row _ _ 3 _ _ _ hbox
          have HBX := Lib.hid (And.intro hbl (And.intro hbox (And.intro ha (And.intro hb (And.intro hc hd)))))
          have HOWN := Lib.hid (hc.alloc (.cells #[.slice Au k cu] 47))
          have HNEW := Lib.hid (World.news_of_block (show (wm.alloc (.cells #[.slice Au k cu] 47)).heap[wm.heap.size]? = _ from heap_alloc_new wm _))
          have HNE := Lib.hid (fun (u : Value) (hu : u ∈ [Value.slice Au k cu]) => show u.oneCell' = true by
            simp only [List.mem_cons, List.not_mem_nil, or_false] at hu
            subst hu
            rfl)
          have HMX := Lib.hid (show i + 1 ≤ maxLen by have := HR0.out.2.2.2.2; unfold maxLen; omega)
          have HBY := Lib.hid (show (i + 1) * 24 ≤ 140737488355328 by have := HR0.out.2.2.2.2; omega)
          have HBA := Lib.hid (show w7.heap.size + 1 ≤ (wm.alloc (.cells #[.slice Au k cu] 47)).heap.size by have := HDX.out.lt; simp; omega)
          clear hbl hbox ha hb hc hd
          go_wp2_with (at_builtin; refine wpList_append_own _ rfl (.tmp 91) (.tmp 93) 40 rfl (w7.heap.size + 1) 47 j0 (.slice none 0 0) 1 24 Tryz.underlying40 hj0 hy0 hy1 hy2 rfl (by decide) _ _ _ rfl HOWN.out ⟨wm.heap.size, 0, none⟩ 1 1 [.slice Au k cu] rfl rfl HNEW.out HNE.out HMX.out HBY.out HBA.out ?_)
          intro v' w9 hown hgr _
          obtain ⟨A9, c9, rfl⟩ := own_form hown
          have hb9 := push_box HBX.out.2.1 HBX.out.2.2.2.2.1 hgr
          have t3 : w9.cell? ⟨w7.heap.size, 3, none⟩ = some (.slice AV i cV) := cell_of_row _ _ 3 _ _ _ hb9
          have tf : w9.frozen? ⟨w7.heap.size, 3, none⟩ = false := box_fr hb9 3
          have HPU := Lib.hid (DepAt.push (r0 := r0) (r := q) (Bi := wo.heap.size) HBX.out.1 HBX.out.2.1 HBX.out.2.2.1 HBX.out.2.2.2.1 HBX.out.2.2.2.2.1 HBX.out.2.2.2.2.2 (by rw [hql]; exact HE.out.1) HD.out.lt HR0.out.1 (hql.trans HR0.out.2.1.symm) HE.out.2.2 hown hgr)
          clear hown hgr hb9 r1 r3
          go_wp2_with fail
          go_roundg g
          case measure => first | with_reducible exact Nat.lt_succ_self _ | with_reducible exact Nat.le_refl _
          case rel => exact ⟨i + 1, _, gas_next hig, by first | rfl | go_num, HPU⟩
        | succ g2 =>
          have hk : (k : Int) < l := lt_of_gas hkg
          have hk2 : 0 ≤ (k : Int) ∧ (k : Int) < l := lt2_of_gas hkg
          have wk : wrap64 ((k : Int) + 1) = (k : Int) + 1 := wrap_succ hk (le_big HR0.out.2.2.1)
          obtain ⟨y, hy⟩ : ∃ y, r0[k]? = some y := ⟨_, List.getElem?_eq_getElem (lt_len HR0.out.2.1 hk)⟩
          obtain ⟨b4, o4, rfl, hb4, gr4⟩ := HR1.out.at hy
          have r4 := (HE.out.2.1.cell (p := ⟨b4, o4 + k, none⟩) (show b4 < wo.heap.size from Nat.lt_trans hb4 HWL.out)).trans gr4
          have HY := Lib.hid hy
          have HPW := Lib.hid (HP8.out.frame (w' := wm) (fun k' _ hk' => (HE.out.2.1.block k' (Nat.lt_trans hk' HD.out.lt)).trans (HD.out.below.block k' hk')))
          clear hy hb4 gr4
          obtain ⟨y0, hyb, hcs⟩ := y0_of HQQ.out
          have HYB := Lib.hid hyb
          clear hyb
          rcases hcs with ⟨hq1, hq3⟩ | ⟨hq1, hq3⟩
          · subst hq3
            have hq0 := HQ0.out.1
            have hq5 := HQ0.out.2
            go_wp2_with fail
            clear hq0 hq5
            go_loopg [15, 16] np (fun g3 s15 s16 wz => ∃ (c : Nat) (z : Int), c + g3 = np ∧ s15 = .int .i64 z ∧ s16 = .int .i64 c ∧ wz = wm ∧ Aside ((z = y ∨ z = y0) ∧ ((∃ j, j < c ∧ (Po.points o)[j]? = some (i, k)) → z = y)))
            case atStart => exact ⟨0, y0, Nat.zero_add _, by first | with_reducible rfl | exact congrArg (Value.int .i64) HQ0.out.2, rfl, rfl, ⟨.inr rfl, fun ⟨j, hj, _⟩ => absurd hj (Nat.not_lt_zero j)⟩⟩
            case round =>
              obtain ⟨c, z, hcg, rfl, rfl, hwz, hz⟩ := hrel
              subst hwz
              cases gk with
              | zero =>
                obtain rfl : c = np := eq_of_gas hcg
                have hc : ¬ (c : Int) < c := not_lt_self c
                have hzy : (i, q.length) ∈ Po.points o → z = y := fun hm => by
                  obtain ⟨j, hj, hj2⟩ := List.getElem_of_mem hm
                  exact hz.out.2 ⟨j, by rw [← HP7.out.2]; exact hj, by rw [List.getElem?_eq_getElem hj, hj2, hql]⟩
                have hzb : -1 ≤ z ∧ z ≤ 3 := by
                  rcases hz.out.1 with rfl | rfl
                  · exact HR0.out.2.2.2.1 _ (List.mem_of_getElem? HY.out)
                  · exact HYB.out
                have HROW := Lib.hid (row_snoc HE.out.2.2 (by rw [hql]; exact HY.out) hzb hzy)
                have HOWN := Lib.hid (HE.out.1.alloc (.cells #[.int .i64 z] 3))
                have HNEW := Lib.hid (World.news_of_block (show (wr.alloc (.cells #[.int .i64 z] 3)).heap[wr.heap.size]? = _ from heap_alloc_new wr _))
                have HNE := Lib.hid (fun (u : Value) (hu : u ∈ [Value.int .i64 z]) => show u.oneCell' = true by
                  simp only [List.mem_cons, List.not_mem_nil, or_false] at hu
                  subst hu
                  rfl)
                have HMX := Lib.hid (max_k HR0.out.2.2.1 hk).1
                have HBY := Lib.hid (max_k HR0.out.2.2.1 hk).2
                have HBA := Lib.hid (alloc_le (.cells #[.int .i64 z] 3) HE.out.2.1.size)
                clear hzy hzb hz
                go_wp2_with (at_builtin; refine wpList_append_own _ rfl (.tmp 86) (.tmp 88) 47 rfl wo.heap.size 3 i0 (.int .i64 0) 1 8 Tryz.underlying47 hi0 hz0 hz1 hz2 rfl (by decide) _ _ _ rfl HOWN.out ⟨wr.heap.size, 0, none⟩ 1 1 [.int .i64 z] rfl rfl HNEW.out HNE.out HMX.out HBY.out HBA.out ?_)
                intro v' w9 hown hgr _
                have HNX := Lib.hid (And.intro (show w9.ownsRow wo.heap.size 3 1 v' (k + 1) (iv (q ++ [z])) by unfold iv; rw [List.map_append]; exact hown) (And.intro ((HE.out.2.1.alloc HE.out.2.1.size _).grown hgr HBA.out (fun j hj => (HE.out.1.lt j hj).1)) HROW.out))
                clear hown hgr
                go_wp2_with fail
                go_roundg g2
                case measure => first | with_reducible exact Nat.lt_succ_self _ | with_reducible exact Nat.le_refl _
                case rel => exact ⟨k + 1, q ++ [z], gas_next hkg, by first | with_reducible exact cast_succ k | with_reducible exact (congrArg (Value.int .i64) wk).trans (cast_succ k), len_snoc hql, HNX⟩
              | succ g3 =>
                have hc : (c : Int) < np := lt_of_gas hcg
                have hc2 : 0 ≤ (c : Int) ∧ (c : Int) < np := lt2_of_gas hcg
                have wc : wrap64 ((c : Int) + 1) = (c : Int) + 1 := wrap_succ hc HNL.out
                obtain ⟨⟨pa, pb⟩, hp⟩ : ∃ p, (Po.points o)[c]? = some p := ⟨_, List.getElem?_eq_getElem (lt_lenp HP7.out.2 hc)⟩
                obtain ⟨bp, op, rfl, -, f0, f1⟩ := HPW.out.at hp
                simp only at f0 f1
                have hE := fun w => pt_equal (pa : Int) pb i k w
                have HPP := Lib.hid hp
                clear hp
                by_cases e : i = pa ∧ k = pb
                · rw [dec_t e] at hE
                  clear e
                  go_wp2_with fail
                  go_roundg g3
                  case measure => first | with_reducible exact Nat.lt_succ_self _ | with_reducible exact Nat.le_refl _
                  case rel => exact ⟨c + 1, y, gas_next hcg, rfl, by first | with_reducible exact cast_succ c | with_reducible exact (congrArg (Value.int .i64) wc).trans (cast_succ c), rfl, ⟨.inl rfl, fun _ => rfl⟩⟩
                · rw [dec_f e] at hE
                  have HNEQ := Lib.hid e
                  clear e
                  go_wp2_with fail
                  go_roundg g3
                  case measure => first | with_reducible exact Nat.lt_succ_self _ | with_reducible exact Nat.le_refl _
                  case rel => exact ⟨c + 1, z, gas_next hcg, rfl, by first | with_reducible exact cast_succ c | with_reducible exact (congrArg (Value.int .i64) wc).trans (cast_succ c), rfl, ⟨hz.out.1, fun ⟨j, hj, hj2⟩ => hz.out.2 ⟨j, by
                    by_cases ej : j = c
                    · subst ej
                      rw [HPP.out] at hj2
                      simp only [Option.some.injEq, Prod.mk.injEq] at hj2
                      exact absurd ⟨hj2.1.symm, hj2.2.symm⟩ HNEQ.out
                    · exact Nat.lt_of_le_of_ne (Nat.le_of_lt_succ hj) ej, hj2⟩⟩⟩
          · subst hq3
            have hq0 := HQ0.out.1
            have hq5 := HQ0.out.2
            go_wp2_with fail
            clear hq0 hq5
            go_loopg [15, 16] np (fun g3 s15 s16 wz => ∃ (c : Nat) (z : Int), c + g3 = np ∧ s15 = .int .i64 z ∧ s16 = .int .i64 c ∧ wz = wm ∧ Aside ((z = y ∨ z = y0) ∧ ((∃ j, j < c ∧ (Po.points o)[j]? = some (i, k)) → z = y)))
            case atStart => exact ⟨0, y0, Nat.zero_add _, by first | with_reducible rfl | exact congrArg (Value.int .i64) HQ0.out.2, rfl, rfl, ⟨.inr rfl, fun ⟨j, hj, _⟩ => absurd hj (Nat.not_lt_zero j)⟩⟩
            case round =>
              obtain ⟨c, z, hcg, rfl, rfl, hwz, hz⟩ := hrel
              subst hwz
              cases gk with
              | zero =>
                obtain rfl : c = np := eq_of_gas hcg
                have hc : ¬ (c : Int) < c := not_lt_self c
                have hzy : (i, q.length) ∈ Po.points o → z = y := fun hm => by
                  obtain ⟨j, hj, hj2⟩ := List.getElem_of_mem hm
                  exact hz.out.2 ⟨j, by rw [← HP7.out.2]; exact hj, by rw [List.getElem?_eq_getElem hj, hj2, hql]⟩
                have hzb : -1 ≤ z ∧ z ≤ 3 := by
                  rcases hz.out.1 with rfl | rfl
                  · exact HR0.out.2.2.2.1 _ (List.mem_of_getElem? HY.out)
                  · exact HYB.out
                have HROW := Lib.hid (row_snoc HE.out.2.2 (by rw [hql]; exact HY.out) hzb hzy)
                have HOWN := Lib.hid (HE.out.1.alloc (.cells #[.int .i64 z] 3))
                have HNEW := Lib.hid (World.news_of_block (show (wr.alloc (.cells #[.int .i64 z] 3)).heap[wr.heap.size]? = _ from heap_alloc_new wr _))
                have HNE := Lib.hid (fun (u : Value) (hu : u ∈ [Value.int .i64 z]) => show u.oneCell' = true by
                  simp only [List.mem_cons, List.not_mem_nil, or_false] at hu
                  subst hu
                  rfl)
                have HMX := Lib.hid (max_k HR0.out.2.2.1 hk).1
                have HBY := Lib.hid (max_k HR0.out.2.2.1 hk).2
                have HBA := Lib.hid (alloc_le (.cells #[.int .i64 z] 3) HE.out.2.1.size)
                clear hzy hzb hz
                go_wp2_with (at_builtin; refine wpList_append_own _ rfl (.tmp 86) (.tmp 88) 47 rfl wo.heap.size 3 i0 (.int .i64 0) 1 8 Tryz.underlying47 hi0 hz0 hz1 hz2 rfl (by decide) _ _ _ rfl HOWN.out ⟨wr.heap.size, 0, none⟩ 1 1 [.int .i64 z] rfl rfl HNEW.out HNE.out HMX.out HBY.out HBA.out ?_)
                intro v' w9 hown hgr _
                have HNX := Lib.hid (And.intro (show w9.ownsRow wo.heap.size 3 1 v' (k + 1) (iv (q ++ [z])) by unfold iv; rw [List.map_append]; exact hown) (And.intro ((HE.out.2.1.alloc HE.out.2.1.size _).grown hgr HBA.out (fun j hj => (HE.out.1.lt j hj).1)) HROW.out))
                clear hown hgr
                go_wp2_with fail
                go_roundg g2
                case measure => first | with_reducible exact Nat.lt_succ_self _ | with_reducible exact Nat.le_refl _
                case rel => exact ⟨k + 1, q ++ [z], gas_next hkg, by first | with_reducible exact cast_succ k | with_reducible exact (congrArg (Value.int .i64) wk).trans (cast_succ k), len_snoc hql, HNX⟩
              | succ g3 =>
                have hc : (c : Int) < np := lt_of_gas hcg
                have hc2 : 0 ≤ (c : Int) ∧ (c : Int) < np := lt2_of_gas hcg
                have wc : wrap64 ((c : Int) + 1) = (c : Int) + 1 := wrap_succ hc HNL.out
                obtain ⟨⟨pa, pb⟩, hp⟩ : ∃ p, (Po.points o)[c]? = some p := ⟨_, List.getElem?_eq_getElem (lt_lenp HP7.out.2 hc)⟩
                obtain ⟨bp, op, rfl, -, f0, f1⟩ := HPW.out.at hp
                simp only at f0 f1
                have hE := fun w => pt_equal (pa : Int) pb i k w
                have HPP := Lib.hid hp
                clear hp
                by_cases e : i = pa ∧ k = pb
                · rw [dec_t e] at hE
                  clear e
                  go_wp2_with fail
                  go_roundg g3
                  case measure => first | with_reducible exact Nat.lt_succ_self _ | with_reducible exact Nat.le_refl _
                  case rel => exact ⟨c + 1, y, gas_next hcg, rfl, by first | with_reducible exact cast_succ c | with_reducible exact (congrArg (Value.int .i64) wc).trans (cast_succ c), rfl, ⟨.inl rfl, fun _ => rfl⟩⟩
                · rw [dec_f e] at hE
                  have HNEQ := Lib.hid e
                  clear e
                  go_wp2_with fail
                  go_roundg g3
                  case measure => first | with_reducible exact Nat.lt_succ_self _ | with_reducible exact Nat.le_refl _
                  case rel => exact ⟨c + 1, z, gas_next hcg, rfl, by first | with_reducible exact cast_succ c | with_reducible exact (congrArg (Value.int .i64) wc).trans (cast_succ c), rfl, ⟨hz.out.1, fun ⟨j, hj, hj2⟩ => hz.out.2 ⟨j, by
                    by_cases ej : j = c
                    · subst ej
                      rw [HPP.out] at hj2
                      simp only [Option.some.injEq, Prod.mk.injEq] at hj2
                      exact absurd ⟨hj2.1.symm, hj2.2.symm⟩ HNEQ.out
                    · exact Nat.lt_of_le_of_ne (Nat.le_of_lt_succ hj) ej, hj2⟩⟩⟩
end Go.Proofs.YtdolpmmnjndfkaaGreatDoor
