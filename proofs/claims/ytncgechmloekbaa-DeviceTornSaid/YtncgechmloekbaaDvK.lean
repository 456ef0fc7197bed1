/- Device: Do of package device. -/
import Derived.Test.YtncgechmloekbaaDvK1
namespace Go.Proofs.Ytncgechmloekbaa
open Go.RowKit

set_option maxRecDepth 100000 in
set_option maxHeartbeats 4000000 in
theorem do_any (k b c : Int) (s : ByteArray) (cut noise : Bool) (nb : Int) (cs : Array Value) (hs : cs.size = 18) (h1 : cs.all (·.oneCell') = true) (f : List (List Nat)) (m : List ByteArray) (w : World) (ok : Nat → Prop)
    (hok : ∀ x, ok x → x < w.heap.size) (hrow : ∃ v, cs[0]? = some v ∧ RRowsK w ok v f) (hstr : ∃ u, cs[1]? = some u ∧ StrsK w ok u m) (hS : Fz.small f) (hlen : m.length ≤ 1000) (hbm : s.size ≤ maxLen) :
    Calls Try.prog 10 #[.agg cs, .agg #[.int .i64 k, .int .i64 b, .int .i64 c, .string s], .agg #[.bool cut, .int .i64 nb, .bool noise]] w (DoSays w ok cs f m k b c s cut nb noise) := by
  have HS := Lib.hid hs
  have H1 := Lib.hid h1
  have HOK := Lib.hid hok
  have HR := Lib.hid hrow
  have HM := Lib.hid hstr
  clear hs h1 hok hrow hstr
  go_enter Try.func10, Try.ntmps10
  go_wp2_with fail
  refine (accesses_any _).mono ?_
  rintro e w1 ⟨he, hb1⟩
  obtain ⟨tbl, htbl⟩ : ∃ t : Array Value, t = #[.nilFunc, .nilFunc, .func (.func 38) #[] #[], .func (.func 39) #[] #[], .func (.func 38) #[] #[], .func (.func 41) #[] #[], .func (.func 43) #[] #[], .func (.func 44) #[] #[], .func (.func 46) #[] #[], .func (.func 47) #[] #[]] := ⟨_, rfl⟩
  rw [← htbl] at he
  subst he
  have HTB := Lib.hid htbl
  have hTn : tbl.size = 10 := by rw [htbl]; rfl
  have hT1 : tbl.all (·.oneCell') = true := by rw [htbl]; simp [Value.oneCell']
  clear htbl
  have hst := cells_row (cs := tbl) (heap_alloc_new w1 (.cells #[.nilFunc, .nilFunc, .nilFunc, .nilFunc, .nilFunc, .nilFunc, .nilFunc, .nilFunc, .nilFunc, .nilFunc] 65)) (by simp [hTn]) hT1
  clear hT1
  go_upto_region 2 with fail
  clear hst
  obtain ⟨q3, q4, q5, q6, q7, qz, qb⟩ := five w (.cells cs 31) (.cells #[.int .i64 k, .int .i64 b, .int .i64 c, .string s] 33) (.cells #[.bool cut, .int .i64 nb, .bool noise] 35) (.cells #[.slice none 0 0, .slice none 0 0, .int .u8 0, .int .u8 0, .int .u8 0, .int .u8 0, .int .u8 0, .int .u8 0, .int .u8 0, .int .u8 0, .int .u8 0, .int .u8 0, .int .u8 0, .int .u8 0, .int .u8 0, .int .u8 0, .int .u8 0, .int .u8 0] 31) (.cells #[.int .i64 0, .string ⟨#[]⟩] 40) _ rfl
  have hz1 := hb1.size
  rw [qz] at hz1
  obtain ⟨W, hW⟩ : ∃ W, W = putRow (w1.alloc (.cells #[.nilFunc, .nilFunc, .nilFunc, .nilFunc, .nilFunc, .nilFunc, .nilFunc, .nilFunc, .nilFunc, .nilFunc] 65)) w1.heap.size tbl := ⟨_, rfl⟩
  have keep : ∀ x, x < w1.heap.size → W.heap[x]? = w1.heap[x]? := fun x hx => by rw [hW]; exact (put_other (by omega)).trans (Below.heap_alloc _ _ _ hx)
  have P3 := Lib.hid ((keep _ (by omega)).trans ((hb1.block _ (by rw [qz]; omega)).trans q3))
  have P4 := Lib.hid ((keep _ (by omega)).trans ((hb1.block _ (by rw [qz]; omega)).trans q4))
  have P5 := Lib.hid ((keep _ (by omega)).trans ((hb1.block _ (by rw [qz]; omega)).trans q5))
  have P6 := Lib.hid ((keep _ (by omega)).trans ((hb1.block _ (by rw [qz]; omega)).trans q6))
  have P7 := Lib.hid ((keep _ (by omega)).trans ((hb1.block _ (by rw [qz]; omega)).trans q7))
  have P9 : Hid (W.heap[w1.heap.size]? = some (.cells tbl 65 (0, 0))) := Lib.hid (by rw [hW]; exact put_same (heap_alloc_new _ _) (by simp [hTn]))
  have HB : Below w.heap.size w W := by rw [hW]; exact put_below ((qb.trans (hb1.mono (by rw [qz]; omega))).alloc (by omega) _) (by omega)
  have hQ : w1.heap.size < W.heap.size := by
    have := P9.out
    exact (Array.getElem?_eq_some_iff.1 this).1
  rw [← hW]
  clear hW hb1 q3 q4 q5 q6 q7 qz qb keep
  have hP1 : w.heap.size + 1 < W.heap.size := by omega
  have hU0 : Und W W := ⟨Below.refl _ _⟩
  go_cut [31] (fun v Wc => v = .bool (!kindOK k b s) ∧ Und W Wc)
  case first =>
    rcases (by omega : k < 1 ∨ 5 ≤ k ∨ k = 1 ∨ k = 2 ∨ k = 3 ∨ k = 4) with hk | hk | hk | hk | hk | hk
    · have g0 := cell_block (i := 0) P4.out rfl
      have hd : decide (k < 1) = true := by simp [hk]
      have HK := Lib.hid (show kindOK k b s = false by simp [kindOK]; omega)
      clear hk
      go_quiet (fail)
      go_wp2_with fail
      go_meet
      exact ⟨by rw [HK.out]; rfl, Und.drewN hU0 _⟩
    · have g0 := cell_block (i := 0) P4.out rfl
      have hd : decide (k < 1) = false := by simp; omega
      have hd2 : decide (5 ≤ k) = true := by simp [hk]
      have HK := Lib.hid (show kindOK k b s = false by simp [kindOK]; omega)
      clear hk
      go_quiet (fail)
      go_wp2_with fail
      go_meet
      exact ⟨by rw [HK.out]; rfl, Und.drewN hU0 _⟩
    · subst hk
      have g0 := cell_block (i := 0) P4.out rfl
      have g1 := cell_block (i := 1) P4.out rfl
      have g2 := cell_block (i := 2) P4.out rfl
      have g3 := cell_block (i := 3) P4.out rfl
      have gf : W.cell? ⟨w1.heap.size, 2, none⟩ = some (.func (.func 38) #[] #[]) := cell_block (i := 2) P9.out (by rw [HTB.out]; rfl)
      go_region_held3 (fun W' => W'.cell? ⟨w.heap.size + 1, 0, none⟩ = some (.int .i64 1) ∧ W'.cell? ⟨w.heap.size + 1, 1, none⟩ = some (.int .i64 b) ∧ W'.cell? ⟨w.heap.size + 1, 2, none⟩ = some (.int .i64 c) ∧ W'.cell? ⟨w.heap.size + 1, 3, none⟩ = some (.string s) ∧ W'.cell? ⟨w1.heap.size, 2, none⟩ = some (.func (.func 38) #[] #[]) ∧ Und W W') (first | assumption | exact ⟨Und.cell hU0.drew g0 hP1, Und.cell hU0.drew g1 hP1, Und.cell hU0.drew g2 hP1, Und.cell hU0.drew g3 hP1, Und.cell hU0.drew gf hQ, hU0.drew⟩ | exact ⟨Und.cell hU g0 hP1, Und.cell hU g1 hP1, Und.cell hU g2 hP1, Und.cell hU g3 hP1, Und.cell hU gf hQ, hU⟩) ((go_at_call 38; go_split_ands; (with_reducible refine (valid1_any 1 b c s _).mono ?_); rintro e w7 ⟨rfl, hb7⟩; have hU := Und.below (by assumption) hb7))
      go_wp2_with fail
      go_meet
      exact ⟨by simp [kindOK], hU⟩
    · subst hk
      have g0 := cell_block (i := 0) P4.out rfl
      have g1 := cell_block (i := 1) P4.out rfl
      have g2 := cell_block (i := 2) P4.out rfl
      have g3 := cell_block (i := 3) P4.out rfl
      have gf : W.cell? ⟨w1.heap.size, 4, none⟩ = some (.func (.func 38) #[] #[]) := cell_block (i := 4) P9.out (by rw [HTB.out]; rfl)
      go_region_held3 (fun W' => W'.cell? ⟨w.heap.size + 1, 0, none⟩ = some (.int .i64 2) ∧ W'.cell? ⟨w.heap.size + 1, 1, none⟩ = some (.int .i64 b) ∧ W'.cell? ⟨w.heap.size + 1, 2, none⟩ = some (.int .i64 c) ∧ W'.cell? ⟨w.heap.size + 1, 3, none⟩ = some (.string s) ∧ W'.cell? ⟨w1.heap.size, 4, none⟩ = some (.func (.func 38) #[] #[]) ∧ Und W W') (first | assumption | exact ⟨Und.cell hU0.drew g0 hP1, Und.cell hU0.drew g1 hP1, Und.cell hU0.drew g2 hP1, Und.cell hU0.drew g3 hP1, Und.cell hU0.drew gf hQ, hU0.drew⟩ | exact ⟨Und.cell hU g0 hP1, Und.cell hU g1 hP1, Und.cell hU g2 hP1, Und.cell hU g3 hP1, Und.cell hU gf hQ, hU⟩) ((go_at_call 38; go_split_ands; (with_reducible refine (valid1_any 2 b c s _).mono ?_); rintro e w7 ⟨rfl, hb7⟩; have hU := Und.below (by assumption) hb7))
      go_wp2_with fail
      go_meet
      exact ⟨by simp [kindOK], hU⟩
    · subst hk
      have g0 := cell_block (i := 0) P4.out rfl
      have g1 := cell_block (i := 1) P4.out rfl
      have g2 := cell_block (i := 2) P4.out rfl
      have g3 := cell_block (i := 3) P4.out rfl
      have gf : W.cell? ⟨w1.heap.size, 6, none⟩ = some (.func (.func 43) #[] #[]) := cell_block (i := 6) P9.out (by rw [HTB.out]; rfl)
      go_region_held3 (fun W' => W'.cell? ⟨w.heap.size + 1, 0, none⟩ = some (.int .i64 3) ∧ W'.cell? ⟨w.heap.size + 1, 1, none⟩ = some (.int .i64 b) ∧ W'.cell? ⟨w.heap.size + 1, 2, none⟩ = some (.int .i64 c) ∧ W'.cell? ⟨w.heap.size + 1, 3, none⟩ = some (.string s) ∧ W'.cell? ⟨w1.heap.size, 6, none⟩ = some (.func (.func 43) #[] #[]) ∧ Und W W') (first | assumption | exact ⟨Und.cell hU0.drew g0 hP1, Und.cell hU0.drew g1 hP1, Und.cell hU0.drew g2 hP1, Und.cell hU0.drew g3 hP1, Und.cell hU0.drew gf hQ, hU0.drew⟩ | exact ⟨Und.cell hU g0 hP1, Und.cell hU g1 hP1, Und.cell hU g2 hP1, Und.cell hU g3 hP1, Und.cell hU gf hQ, hU⟩) ((go_at_call 43; go_split_ands; (with_reducible refine (valid4_any 3 b c s _).mono ?_); rintro e w7 ⟨rfl, hb7⟩; have hU := Und.below (by assumption) hb7))
      go_wp2_with fail
      go_meet
      exact ⟨by simp [kindOK], hU⟩
    · subst hk
      have g0 := cell_block (i := 0) P4.out rfl
      have g1 := cell_block (i := 1) P4.out rfl
      have g2 := cell_block (i := 2) P4.out rfl
      have g3 := cell_block (i := 3) P4.out rfl
      have gf : W.cell? ⟨w1.heap.size, 8, none⟩ = some (.func (.func 46) #[] #[]) := cell_block (i := 8) P9.out (by rw [HTB.out]; rfl)
      go_region_held3 (fun W' => W'.cell? ⟨w.heap.size + 1, 0, none⟩ = some (.int .i64 4) ∧ W'.cell? ⟨w.heap.size + 1, 1, none⟩ = some (.int .i64 b) ∧ W'.cell? ⟨w.heap.size + 1, 2, none⟩ = some (.int .i64 c) ∧ W'.cell? ⟨w.heap.size + 1, 3, none⟩ = some (.string s) ∧ W'.cell? ⟨w1.heap.size, 8, none⟩ = some (.func (.func 46) #[] #[]) ∧ Und W W') (first | assumption | exact ⟨Und.cell hU0.drew g0 hP1, Und.cell hU0.drew g1 hP1, Und.cell hU0.drew g2 hP1, Und.cell hU0.drew g3 hP1, Und.cell hU0.drew gf hQ, hU0.drew⟩ | exact ⟨Und.cell hU g0 hP1, Und.cell hU g1 hP1, Und.cell hU g2 hP1, Und.cell hU g3 hP1, Und.cell hU gf hQ, hU⟩) ((go_at_call 46; go_split_ands; (with_reducible refine (valid6_any 4 b c s _).mono ?_); rintro e w7 ⟨rfl, hb7⟩; have hU := Und.below (by assumption) hb7))
      go_wp2_with fail
      go_meet
      exact ⟨by simp [kindOK], hU⟩

  case rest =>
    obtain ⟨rfl, hU⟩ := hcut
    rename World => W2
    have P3 := Lib.hid ((hU.keeps.block _ (by omega)).trans P3.out)
    have P4 := Lib.hid ((hU.keeps.block _ (by omega)).trans P4.out)
    have P5 := Lib.hid ((hU.keeps.block _ (by omega)).trans P5.out)
    have P6 := Lib.hid ((hU.keeps.block _ (by omega)).trans P6.out)
    have P7 := Lib.hid ((hU.keeps.block _ (by omega)).trans P7.out)
    have P9 := Lib.hid ((hU.keeps.block _ (by omega)).trans P9.out)
    have hQ2 := Nat.lt_of_lt_of_le hQ hU.keeps.size
    have HB2 := HB.trans (hU.keeps.mono HB.size)
    clear hU hU0 HB hP1 hQ
    cases hko : kindOK k b s
    · have HKO := Lib.hid hko
      clear hko
      have hst := cells_row (cs := cs) P6.out (by simp [HS.out]) H1.out
      have hs := HS.out
      go_upto_region 3 with fail
      refine wp_region_list ?_
      simp only []
      refine wpList_load_hw rfl (.tmp 3) rfl rfl P3.out HS.out ?_
      have q7 := (put_other (w := W2) (b := w.heap.size + 1 + 1 + 1) (cs := cs) (k := w.heap.size + 1 + 1 + 1 + 1) (by omega)).trans P7.out
      have c0 := cell_block (i := 0) q7 rfl
      have c1 := cell_block (i := 1) q7 rfl
      have d0 := free_block (i := 0) q7
      have d1 := free_block (i := 1) q7
      clear q7
      go_wp2
      have HE := ends_at (V := .int .i64 0) (B := .string ⟨#[]⟩) P6.out (by rw [hs]; rfl) P7.out (by omega)
      have HBE : Below w.heap.size w (((putRow W2 (w.heap.size + 1 + 1 + 1) cs).setCell ⟨w.heap.size + 1 + 1 + 1 + 1, 0, none⟩ (.int .i64 0)).setCell ⟨w.heap.size + 1 + 1 + 1 + 1, 1, none⟩ (.string ⟨#[]⟩)) := ((put_below HB2 (by omega)).setCell (p := ⟨w.heap.size + 1 + 1 + 1 + 1, 0, none⟩) (by simp; omega) _).setCell (p := ⟨w.heap.size + 1 + 1 + 1 + 1, 1, none⟩) (by simp; omega) _
      obtain ⟨WE, hWE⟩ : ∃ WE, WE = (((putRow W2 (w.heap.size + 1 + 1 + 1) cs).setCell ⟨w.heap.size + 1 + 1 + 1 + 1, 0, none⟩ (.int .i64 0)).setCell ⟨w.heap.size + 1 + 1 + 1 + 1, 1, none⟩ (.string ⟨#[]⟩)) := ⟨_, rfl⟩
      rw [← hWE] at HE HBE ⊢
      clear hWE hst c0 c1 d0 d1
      refine bodyPost_ret (v := .tuple #[.agg cs, .agg #[.int .i64 0, .string ⟨#[]⟩], .int .i64 1]) (by simp [results, Try.results10, asAddr, loadVar_hw HE.1 hs, loadVar_res HE.2]) rfl ?_
      exact says_back HOK.out HR.out HM.out HBE (by simp [doneB, HKO.out]) (by simp [doE, HKO.out])
    · have HKO := Lib.hid hko
      have hk4 : k = 1 ∨ k = 2 ∨ k = 3 ∨ k = 4 := by
        by_cases h1 : k = 1; · exact .inl h1
        by_cases h2 : k = 2; · exact .inr (.inl h2)
        by_cases h3 : k = 3; · exact .inr (.inr (.inl h3))
        by_cases h4 : k = 4; · exact .inr (.inr (.inr h4))
        simp [kindOK, h1, h2, h3, h4] at hko
      clear hko
      have hs := HS.out
      have hst := cells_row (cs := cs) (heap_alloc_new W2 (.cells #[.slice none 0 0, .slice none 0 0, .int .u8 0, .int .u8 0, .int .u8 0, .int .u8 0, .int .u8 0, .int .u8 0, .int .u8 0, .int .u8 0, .int .u8 0, .int .u8 0, .int .u8 0, .int .u8 0, .int .u8 0, .int .u8 0, .int .u8 0, .int .u8 0] 31)) (by rw [hs]; decide) H1.out
      go_upto_region 4 with fail
      refine wp_region_list ?_
      simp only []
      refine wpList_load_hw rfl (.tmp 3) rfl rfl P3.out HS.out ?_
      go_upto_region 5 with fail
      obtain ⟨W5, hW5⟩ : ∃ W5, W5 = putRow (W2.alloc (.cells #[.slice none 0 0, .slice none 0 0, .int .u8 0, .int .u8 0, .int .u8 0, .int .u8 0, .int .u8 0, .int .u8 0, .int .u8 0, .int .u8 0, .int .u8 0, .int .u8 0, .int .u8 0, .int .u8 0, .int .u8 0, .int .u8 0, .int .u8 0, .int .u8 0] 31)) W2.heap.size cs := ⟨_, rfl⟩
      have keep : ∀ x, x < W2.heap.size → W5.heap[x]? = W2.heap[x]? := fun x hx => by rw [hW5]; exact (put_other (by omega)).trans (Below.heap_alloc _ _ _ hx)
      have hpl : W5.heap[W2.heap.size]? = some (.cells cs 31 (0, 0)) := by rw [hW5]; exact put_same (heap_alloc_new _ _) (by rw [hs]; rfl)
      have HB5 : Below w.heap.size w W5 := by rw [hW5]; exact put_below (HB2.alloc HB2.size _) HB2.size
      obtain ⟨p, hp⟩ : ∃ p, p = W2.heap.size := ⟨_, rfl⟩
      rw [← hW5]
      clear hW5 hst
      rw [← hp] at hpl keep hQ2 ⊢
      have hpw : w.heap.size ≤ p := by rw [hp]; exact HB2.size
      clear hp
      have P3 := Lib.hid ((keep _ (by omega)).trans P3.out)
      have P4 := Lib.hid ((keep _ (by omega)).trans P4.out)
      have P5 := Lib.hid ((keep _ (by omega)).trans P5.out)
      have P6 := Lib.hid ((keep _ (by omega)).trans P6.out)
      have P7 := Lib.hid ((keep _ (by omega)).trans P7.out)
      have P9 := Lib.hid ((keep _ (by omega)).trans P9.out)
      have HH := Lib.hid (hw_in HOK.out HR.out HM.out HB5 hpw hpl)
      have hp5 : p < W5.heap.size := HH.out.lt
      have HO5 : Hid (∀ x, ok x → x < W5.heap.size) := Lib.hid (fun x hx => (HH.out.bar x hx).1)
      clear hpl keep HB2
      have hU0 : Und W5 W5 := ⟨Below.refl _ _⟩
      have n1 : w.heap.size + 1 ≠ p := by omega
      have n2 : w.heap.size + 1 + 1 ≠ p := by omega
      have n3 : w1.heap.size ≠ p := by omega
      have n4 : W5.heap.size ≠ p := by omega
      clear hs
      go_cut [11, 12] (fun x y Wc => RanAt W5 p ok cs (runV k f b c noise) (runB k m c) (runE k f m b c s) (runF k f b c cut) (runM k m c s cut nb) x y Wc)
      case first =>
        have f0 := cell_block (i := 0) P5.out rfl
        have f1 := cell_block (i := 1) P5.out rfl
        have f2 := cell_block (i := 2) P5.out rfl
        rcases hk4 with hk | hk | hk | hk
        · subst hk
          have g0 := cell_block (i := 0) P4.out rfl
          have g1 := cell_block (i := 1) P4.out rfl
          have g2 := cell_block (i := 2) P4.out rfl
          have g3 := cell_block (i := 3) P4.out rfl
          have gf : W5.cell? ⟨w1.heap.size, 3, none⟩ = some (.func (.func 39) #[] #[]) := cell_block (i := 3) P9.out (by rw [HTB.out]; rfl)
          go_region_held3 (fun W' => W'.cell? ⟨w.heap.size + 1, 0, none⟩ = some (.int .i64 1) ∧ W'.cell? ⟨w.heap.size + 1, 1, none⟩ = some (.int .i64 b) ∧ W'.cell? ⟨w.heap.size + 1, 2, none⟩ = some (.int .i64 c) ∧ W'.cell? ⟨w.heap.size + 1, 3, none⟩ = some (.string s) ∧ W'.cell? ⟨w.heap.size + 1 + 1, 0, none⟩ = some (.bool cut) ∧ W'.cell? ⟨w.heap.size + 1 + 1, 1, none⟩ = some (.int .i64 nb) ∧ W'.cell? ⟨w.heap.size + 1 + 1, 2, none⟩ = some (.bool noise) ∧ W'.cell? ⟨w1.heap.size, 3, none⟩ = some (.func (.func 39) #[] #[]) ∧ W5.grownBy W' (some p)) (first | assumption | exact ⟨gcell (gr_und hU0.drew) g0 n1, gcell (gr_und hU0.drew) g1 n1, gcell (gr_und hU0.drew) g2 n1, gcell (gr_und hU0.drew) g3 n1, gcell (gr_und hU0.drew) f0 n2, gcell (gr_und hU0.drew) f1 n2, gcell (gr_und hU0.drew) f2 n2, gcell (gr_und hU0.drew) gf n3, (gr_und hU0.drew)⟩ | exact ⟨gcell hG g0 n1, gcell hG g1 n1, gcell hG g2 n1, gcell hG g3 n1, gcell hG f0 n2, gcell hG f1 n2, gcell hG f2 n2, gcell hG gf n3, hG⟩ | (go_split_ands; exact ⟨gcell (gr_alloc (by assumption) _) g0 n1, gcell (gr_alloc (by assumption) _) g1 n1, gcell (gr_alloc (by assumption) _) g2 n1, gcell (gr_alloc (by assumption) _) g3 n1, gcell (gr_alloc (by assumption) _) f0 n2, gcell (gr_alloc (by assumption) _) f1 n2, gcell (gr_alloc (by assumption) _) f2 n2, gcell (gr_alloc (by assumption) _) gf n3, (gr_alloc (by assumption) _)⟩) | (go_split_ands; exact ⟨gcell (grown_setCell (grown_setCell (by assumption) (.inr hG.size) _) (.inr hG.size) _) g0 n1, gcell (grown_setCell (grown_setCell (by assumption) (.inr hG.size) _) (.inr hG.size) _) g1 n1, gcell (grown_setCell (grown_setCell (by assumption) (.inr hG.size) _) (.inr hG.size) _) g2 n1, gcell (grown_setCell (grown_setCell (by assumption) (.inr hG.size) _) (.inr hG.size) _) g3 n1, gcell (grown_setCell (grown_setCell (by assumption) (.inr hG.size) _) (.inr hG.size) _) f0 n2, gcell (grown_setCell (grown_setCell (by assumption) (.inr hG.size) _) (.inr hG.size) _) f1 n2, gcell (grown_setCell (grown_setCell (by assumption) (.inr hG.size) _) (.inr hG.size) _) f2 n2, gcell (grown_setCell (grown_setCell (by assumption) (.inr hG.size) _) (.inr hG.size) _) gf n3, (grown_setCell (grown_setCell (by assumption) (.inr hG.size) _) (.inr hG.size) _)⟩) | (go_split_ands; exact ⟨gcell (grown_setCell (grown_setCell (by assumption) (.inr (Nat.le_refl _)) _) (.inr (Nat.le_refl _)) _) g0 n1, gcell (grown_setCell (grown_setCell (by assumption) (.inr (Nat.le_refl _)) _) (.inr (Nat.le_refl _)) _) g1 n1, gcell (grown_setCell (grown_setCell (by assumption) (.inr (Nat.le_refl _)) _) (.inr (Nat.le_refl _)) _) g2 n1, gcell (grown_setCell (grown_setCell (by assumption) (.inr (Nat.le_refl _)) _) (.inr (Nat.le_refl _)) _) g3 n1, gcell (grown_setCell (grown_setCell (by assumption) (.inr (Nat.le_refl _)) _) (.inr (Nat.le_refl _)) _) f0 n2, gcell (grown_setCell (grown_setCell (by assumption) (.inr (Nat.le_refl _)) _) (.inr (Nat.le_refl _)) _) f1 n2, gcell (grown_setCell (grown_setCell (by assumption) (.inr (Nat.le_refl _)) _) (.inr (Nat.le_refl _)) _) f2 n2, gcell (grown_setCell (grown_setCell (by assumption) (.inr (Nat.le_refl _)) _) (.inr (Nat.le_refl _)) _) gf n3, (grown_setCell (grown_setCell (by assumption) (.inr (Nat.le_refl _)) _) (.inr (Nat.le_refl _)) _)⟩)) ((go_at_call 39; go_split_ands; (with_reducible refine (run2_says b c s cut noise nb (by first | exact HwAt.und HH.out hU0.drew | exact HwAt.und HH.out (hU0.alloc _).drew)).mono ?_); rintro e w7 ⟨v7, u7, rfl, hk7, hm7, hp7, hg7⟩; obtain ⟨hk3, hk4⟩ := gold hg7; (try simp only [World.size_alloc, World.size_drew] at hk3 hk4); have hz7 := hg7.size; have hG : W5.grownBy w7 (some p) := (by first | exact gr_trans hU0.drew hg7 | exact gr_trans (hU0.alloc _).drew hg7)))
          all_goals
            go_wp2_with fail
            go_meet
            first
              | exact ran_new hp5 (Nat.le_refl _) hG hk7 hm7 hp7
              | exact ran_old hp5 HO5.out rfl hG hk7 hm7 hp7 ((hg7.block _ (by simp) (by simpa using n4)).trans (heap_alloc_new _ _))
        · subst hk
          have g0 := cell_block (i := 0) P4.out rfl
          have g1 := cell_block (i := 1) P4.out rfl
          have g2 := cell_block (i := 2) P4.out rfl
          have g3 := cell_block (i := 3) P4.out rfl
          have gf : W5.cell? ⟨w1.heap.size, 5, none⟩ = some (.func (.func 41) #[] #[]) := cell_block (i := 5) P9.out (by rw [HTB.out]; rfl)
          go_region_held3 (fun W' => W'.cell? ⟨w.heap.size + 1, 0, none⟩ = some (.int .i64 2) ∧ W'.cell? ⟨w.heap.size + 1, 1, none⟩ = some (.int .i64 b) ∧ W'.cell? ⟨w.heap.size + 1, 2, none⟩ = some (.int .i64 c) ∧ W'.cell? ⟨w.heap.size + 1, 3, none⟩ = some (.string s) ∧ W'.cell? ⟨w.heap.size + 1 + 1, 0, none⟩ = some (.bool cut) ∧ W'.cell? ⟨w.heap.size + 1 + 1, 1, none⟩ = some (.int .i64 nb) ∧ W'.cell? ⟨w.heap.size + 1 + 1, 2, none⟩ = some (.bool noise) ∧ W'.cell? ⟨w1.heap.size, 5, none⟩ = some (.func (.func 41) #[] #[]) ∧ W5.grownBy W' (some p)) (first | assumption | exact ⟨gcell (gr_und hU0.drew) g0 n1, gcell (gr_und hU0.drew) g1 n1, gcell (gr_und hU0.drew) g2 n1, gcell (gr_und hU0.drew) g3 n1, gcell (gr_und hU0.drew) f0 n2, gcell (gr_und hU0.drew) f1 n2, gcell (gr_und hU0.drew) f2 n2, gcell (gr_und hU0.drew) gf n3, (gr_und hU0.drew)⟩ | exact ⟨gcell hG g0 n1, gcell hG g1 n1, gcell hG g2 n1, gcell hG g3 n1, gcell hG f0 n2, gcell hG f1 n2, gcell hG f2 n2, gcell hG gf n3, hG⟩ | (go_split_ands; exact ⟨gcell (gr_alloc (by assumption) _) g0 n1, gcell (gr_alloc (by assumption) _) g1 n1, gcell (gr_alloc (by assumption) _) g2 n1, gcell (gr_alloc (by assumption) _) g3 n1, gcell (gr_alloc (by assumption) _) f0 n2, gcell (gr_alloc (by assumption) _) f1 n2, gcell (gr_alloc (by assumption) _) f2 n2, gcell (gr_alloc (by assumption) _) gf n3, (gr_alloc (by assumption) _)⟩) | (go_split_ands; exact ⟨gcell (grown_setCell (grown_setCell (by assumption) (.inr hG.size) _) (.inr hG.size) _) g0 n1, gcell (grown_setCell (grown_setCell (by assumption) (.inr hG.size) _) (.inr hG.size) _) g1 n1, gcell (grown_setCell (grown_setCell (by assumption) (.inr hG.size) _) (.inr hG.size) _) g2 n1, gcell (grown_setCell (grown_setCell (by assumption) (.inr hG.size) _) (.inr hG.size) _) g3 n1, gcell (grown_setCell (grown_setCell (by assumption) (.inr hG.size) _) (.inr hG.size) _) f0 n2, gcell (grown_setCell (grown_setCell (by assumption) (.inr hG.size) _) (.inr hG.size) _) f1 n2, gcell (grown_setCell (grown_setCell (by assumption) (.inr hG.size) _) (.inr hG.size) _) f2 n2, gcell (grown_setCell (grown_setCell (by assumption) (.inr hG.size) _) (.inr hG.size) _) gf n3, (grown_setCell (grown_setCell (by assumption) (.inr hG.size) _) (.inr hG.size) _)⟩) | (go_split_ands; exact ⟨gcell (grown_setCell (grown_setCell (by assumption) (.inr (Nat.le_refl _)) _) (.inr (Nat.le_refl _)) _) g0 n1, gcell (grown_setCell (grown_setCell (by assumption) (.inr (Nat.le_refl _)) _) (.inr (Nat.le_refl _)) _) g1 n1, gcell (grown_setCell (grown_setCell (by assumption) (.inr (Nat.le_refl _)) _) (.inr (Nat.le_refl _)) _) g2 n1, gcell (grown_setCell (grown_setCell (by assumption) (.inr (Nat.le_refl _)) _) (.inr (Nat.le_refl _)) _) g3 n1, gcell (grown_setCell (grown_setCell (by assumption) (.inr (Nat.le_refl _)) _) (.inr (Nat.le_refl _)) _) f0 n2, gcell (grown_setCell (grown_setCell (by assumption) (.inr (Nat.le_refl _)) _) (.inr (Nat.le_refl _)) _) f1 n2, gcell (grown_setCell (grown_setCell (by assumption) (.inr (Nat.le_refl _)) _) (.inr (Nat.le_refl _)) _) f2 n2, gcell (grown_setCell (grown_setCell (by assumption) (.inr (Nat.le_refl _)) _) (.inr (Nat.le_refl _)) _) gf n3, (grown_setCell (grown_setCell (by assumption) (.inr (Nat.le_refl _)) _) (.inr (Nat.le_refl _)) _)⟩)) ((go_at_call 41; go_split_ands; (with_reducible refine (run3_says b c s cut noise nb (by first | exact HwAt.und HH.out hU0.drew | exact HwAt.und HH.out (hU0.alloc _).drew) hS).mono ?_); rintro e w7 ⟨v7, u7, rfl, hk7, hm7, hp7, hg7⟩; obtain ⟨hk3, hk4⟩ := gold hg7; (try simp only [World.size_alloc, World.size_drew] at hk3 hk4); have hz7 := hg7.size; have hG : W5.grownBy w7 (some p) := (by first | exact gr_trans hU0.drew hg7 | exact gr_trans (hU0.alloc _).drew hg7)))
          all_goals
            go_wp2_with fail
            go_meet
            first
              | exact ran_new hp5 (Nat.le_refl _) hG hk7 hm7 hp7
              | exact ran_old hp5 HO5.out rfl hG hk7 hm7 hp7 ((hg7.block _ (by simp) (by simpa using n4)).trans (heap_alloc_new _ _))
        · subst hk
          have g0 := cell_block (i := 0) P4.out rfl
          have g1 := cell_block (i := 1) P4.out rfl
          have g2 := cell_block (i := 2) P4.out rfl
          have g3 := cell_block (i := 3) P4.out rfl
          have gf : W5.cell? ⟨w1.heap.size, 7, none⟩ = some (.func (.func 44) #[] #[]) := cell_block (i := 7) P9.out (by rw [HTB.out]; rfl)
          go_region_held3 (fun W' => W'.cell? ⟨w.heap.size + 1, 0, none⟩ = some (.int .i64 3) ∧ W'.cell? ⟨w.heap.size + 1, 1, none⟩ = some (.int .i64 b) ∧ W'.cell? ⟨w.heap.size + 1, 2, none⟩ = some (.int .i64 c) ∧ W'.cell? ⟨w.heap.size + 1, 3, none⟩ = some (.string s) ∧ W'.cell? ⟨w.heap.size + 1 + 1, 0, none⟩ = some (.bool cut) ∧ W'.cell? ⟨w.heap.size + 1 + 1, 1, none⟩ = some (.int .i64 nb) ∧ W'.cell? ⟨w.heap.size + 1 + 1, 2, none⟩ = some (.bool noise) ∧ W'.cell? ⟨w1.heap.size, 7, none⟩ = some (.func (.func 44) #[] #[]) ∧ W5.grownBy W' (some p)) (first | assumption | exact ⟨gcell (gr_und hU0.drew) g0 n1, gcell (gr_und hU0.drew) g1 n1, gcell (gr_und hU0.drew) g2 n1, gcell (gr_und hU0.drew) g3 n1, gcell (gr_und hU0.drew) f0 n2, gcell (gr_und hU0.drew) f1 n2, gcell (gr_und hU0.drew) f2 n2, gcell (gr_und hU0.drew) gf n3, (gr_und hU0.drew)⟩ | exact ⟨gcell hG g0 n1, gcell hG g1 n1, gcell hG g2 n1, gcell hG g3 n1, gcell hG f0 n2, gcell hG f1 n2, gcell hG f2 n2, gcell hG gf n3, hG⟩ | (go_split_ands; exact ⟨gcell (gr_alloc (by assumption) _) g0 n1, gcell (gr_alloc (by assumption) _) g1 n1, gcell (gr_alloc (by assumption) _) g2 n1, gcell (gr_alloc (by assumption) _) g3 n1, gcell (gr_alloc (by assumption) _) f0 n2, gcell (gr_alloc (by assumption) _) f1 n2, gcell (gr_alloc (by assumption) _) f2 n2, gcell (gr_alloc (by assumption) _) gf n3, (gr_alloc (by assumption) _)⟩) | (go_split_ands; exact ⟨gcell (grown_setCell (grown_setCell (by assumption) (.inr hG.size) _) (.inr hG.size) _) g0 n1, gcell (grown_setCell (grown_setCell (by assumption) (.inr hG.size) _) (.inr hG.size) _) g1 n1, gcell (grown_setCell (grown_setCell (by assumption) (.inr hG.size) _) (.inr hG.size) _) g2 n1, gcell (grown_setCell (grown_setCell (by assumption) (.inr hG.size) _) (.inr hG.size) _) g3 n1, gcell (grown_setCell (grown_setCell (by assumption) (.inr hG.size) _) (.inr hG.size) _) f0 n2, gcell (grown_setCell (grown_setCell (by assumption) (.inr hG.size) _) (.inr hG.size) _) f1 n2, gcell (grown_setCell (grown_setCell (by assumption) (.inr hG.size) _) (.inr hG.size) _) f2 n2, gcell (grown_setCell (grown_setCell (by assumption) (.inr hG.size) _) (.inr hG.size) _) gf n3, (grown_setCell (grown_setCell (by assumption) (.inr hG.size) _) (.inr hG.size) _)⟩) | (go_split_ands; exact ⟨gcell (grown_setCell (grown_setCell (by assumption) (.inr (Nat.le_refl _)) _) (.inr (Nat.le_refl _)) _) g0 n1, gcell (grown_setCell (grown_setCell (by assumption) (.inr (Nat.le_refl _)) _) (.inr (Nat.le_refl _)) _) g1 n1, gcell (grown_setCell (grown_setCell (by assumption) (.inr (Nat.le_refl _)) _) (.inr (Nat.le_refl _)) _) g2 n1, gcell (grown_setCell (grown_setCell (by assumption) (.inr (Nat.le_refl _)) _) (.inr (Nat.le_refl _)) _) g3 n1, gcell (grown_setCell (grown_setCell (by assumption) (.inr (Nat.le_refl _)) _) (.inr (Nat.le_refl _)) _) f0 n2, gcell (grown_setCell (grown_setCell (by assumption) (.inr (Nat.le_refl _)) _) (.inr (Nat.le_refl _)) _) f1 n2, gcell (grown_setCell (grown_setCell (by assumption) (.inr (Nat.le_refl _)) _) (.inr (Nat.le_refl _)) _) f2 n2, gcell (grown_setCell (grown_setCell (by assumption) (.inr (Nat.le_refl _)) _) (.inr (Nat.le_refl _)) _) gf n3, (grown_setCell (grown_setCell (by assumption) (.inr (Nat.le_refl _)) _) (.inr (Nat.le_refl _)) _)⟩)) ((go_at_call 44; go_split_ands; (with_reducible refine (run5_says b c s cut noise nb (by first | exact HwAt.und HH.out hU0.drew | exact HwAt.und HH.out (hU0.alloc _).drew)).mono ?_); rintro e w7 ⟨v7, u7, rfl, hk7, hm7, hp7, hg7⟩; obtain ⟨hk3, hk4⟩ := gold hg7; (try simp only [World.size_alloc, World.size_drew] at hk3 hk4); have hz7 := hg7.size; have hG : W5.grownBy w7 (some p) := (by first | exact gr_trans hU0.drew hg7 | exact gr_trans (hU0.alloc _).drew hg7)))
          all_goals
            go_wp2_with fail
            go_meet
            first
              | exact ran_new hp5 (Nat.le_refl _) hG hk7 hm7 hp7
              | exact ran_old hp5 HO5.out rfl hG hk7 hm7 hp7 ((hg7.block _ (by simp) (by simpa using n4)).trans (heap_alloc_new _ _))
        · subst hk
          have g0 := cell_block (i := 0) P4.out rfl
          have g1 := cell_block (i := 1) P4.out rfl
          have g2 := cell_block (i := 2) P4.out rfl
          have g3 := cell_block (i := 3) P4.out rfl
          have gf : W5.cell? ⟨w1.heap.size, 9, none⟩ = some (.func (.func 47) #[] #[]) := cell_block (i := 9) P9.out (by rw [HTB.out]; rfl)
          go_region_held3 (fun W' => W'.cell? ⟨w.heap.size + 1, 0, none⟩ = some (.int .i64 4) ∧ W'.cell? ⟨w.heap.size + 1, 1, none⟩ = some (.int .i64 b) ∧ W'.cell? ⟨w.heap.size + 1, 2, none⟩ = some (.int .i64 c) ∧ W'.cell? ⟨w.heap.size + 1, 3, none⟩ = some (.string s) ∧ W'.cell? ⟨w.heap.size + 1 + 1, 0, none⟩ = some (.bool cut) ∧ W'.cell? ⟨w.heap.size + 1 + 1, 1, none⟩ = some (.int .i64 nb) ∧ W'.cell? ⟨w.heap.size + 1 + 1, 2, none⟩ = some (.bool noise) ∧ W'.cell? ⟨w1.heap.size, 9, none⟩ = some (.func (.func 47) #[] #[]) ∧ W5.grownBy W' (some p)) (first | assumption | exact ⟨gcell (gr_und hU0.drew) g0 n1, gcell (gr_und hU0.drew) g1 n1, gcell (gr_und hU0.drew) g2 n1, gcell (gr_und hU0.drew) g3 n1, gcell (gr_und hU0.drew) f0 n2, gcell (gr_und hU0.drew) f1 n2, gcell (gr_und hU0.drew) f2 n2, gcell (gr_und hU0.drew) gf n3, (gr_und hU0.drew)⟩ | exact ⟨gcell hG g0 n1, gcell hG g1 n1, gcell hG g2 n1, gcell hG g3 n1, gcell hG f0 n2, gcell hG f1 n2, gcell hG f2 n2, gcell hG gf n3, hG⟩ | (go_split_ands; exact ⟨gcell (gr_alloc (by assumption) _) g0 n1, gcell (gr_alloc (by assumption) _) g1 n1, gcell (gr_alloc (by assumption) _) g2 n1, gcell (gr_alloc (by assumption) _) g3 n1, gcell (gr_alloc (by assumption) _) f0 n2, gcell (gr_alloc (by assumption) _) f1 n2, gcell (gr_alloc (by assumption) _) f2 n2, gcell (gr_alloc (by assumption) _) gf n3, (gr_alloc (by assumption) _)⟩) | (go_split_ands; exact ⟨gcell (grown_setCell (grown_setCell (by assumption) (.inr hG.size) _) (.inr hG.size) _) g0 n1, gcell (grown_setCell (grown_setCell (by assumption) (.inr hG.size) _) (.inr hG.size) _) g1 n1, gcell (grown_setCell (grown_setCell (by assumption) (.inr hG.size) _) (.inr hG.size) _) g2 n1, gcell (grown_setCell (grown_setCell (by assumption) (.inr hG.size) _) (.inr hG.size) _) g3 n1, gcell (grown_setCell (grown_setCell (by assumption) (.inr hG.size) _) (.inr hG.size) _) f0 n2, gcell (grown_setCell (grown_setCell (by assumption) (.inr hG.size) _) (.inr hG.size) _) f1 n2, gcell (grown_setCell (grown_setCell (by assumption) (.inr hG.size) _) (.inr hG.size) _) f2 n2, gcell (grown_setCell (grown_setCell (by assumption) (.inr hG.size) _) (.inr hG.size) _) gf n3, (grown_setCell (grown_setCell (by assumption) (.inr hG.size) _) (.inr hG.size) _)⟩) | (go_split_ands; exact ⟨gcell (grown_setCell (grown_setCell (by assumption) (.inr (Nat.le_refl _)) _) (.inr (Nat.le_refl _)) _) g0 n1, gcell (grown_setCell (grown_setCell (by assumption) (.inr (Nat.le_refl _)) _) (.inr (Nat.le_refl _)) _) g1 n1, gcell (grown_setCell (grown_setCell (by assumption) (.inr (Nat.le_refl _)) _) (.inr (Nat.le_refl _)) _) g2 n1, gcell (grown_setCell (grown_setCell (by assumption) (.inr (Nat.le_refl _)) _) (.inr (Nat.le_refl _)) _) g3 n1, gcell (grown_setCell (grown_setCell (by assumption) (.inr (Nat.le_refl _)) _) (.inr (Nat.le_refl _)) _) f0 n2, gcell (grown_setCell (grown_setCell (by assumption) (.inr (Nat.le_refl _)) _) (.inr (Nat.le_refl _)) _) f1 n2, gcell (grown_setCell (grown_setCell (by assumption) (.inr (Nat.le_refl _)) _) (.inr (Nat.le_refl _)) _) f2 n2, gcell (grown_setCell (grown_setCell (by assumption) (.inr (Nat.le_refl _)) _) (.inr (Nat.le_refl _)) _) gf n3, (grown_setCell (grown_setCell (by assumption) (.inr (Nat.le_refl _)) _) (.inr (Nat.le_refl _)) _)⟩)) ((go_at_call 47; go_split_ands; (with_reducible refine (run7_says b c s cut noise nb (by first | exact HwAt.und HH.out hU0.drew | exact HwAt.und HH.out (hU0.alloc _).drew) hlen hbm).mono ?_); rintro e w7 ⟨v7, u7, rfl, hk7, hm7, hp7, hg7⟩; obtain ⟨hk3, hk4⟩ := gold hg7; (try simp only [World.size_alloc, World.size_drew] at hk3 hk4); have hz7 := hg7.size; have hG : W5.grownBy w7 (some p) := (by first | exact gr_trans hU0.drew hg7 | exact gr_trans (hU0.alloc _).drew hg7)))
          all_goals
            go_wp2_with fail
            go_meet
            first
              | exact ran_new hp5 (Nat.le_refl _) hG hk7 hm7 hp7
              | exact ran_old hp5 HO5.out rfl hG hk7 hm7 hp7 ((hg7.block _ (by simp) (by simpa using n4)).trans (heap_alloc_new _ _))

      case rest =>
        obtain ⟨r, v7, u7, rfl, rfl, hr, hrz, hpp, hk7, hm7, hG⟩ := hcut
        rename World => W6
        have P3 := Lib.hid ((hG.block _ (by omega) (by simp; omega)).trans P3.out)
        have P5 := Lib.hid ((hG.block _ (by omega) (by simpa using n2)).trans P5.out)
        have P6 := Lib.hid ((hG.block _ (by omega) (by simp; omega)).trans P6.out)
        have P7 := Lib.hid ((hG.block _ (by omega) (by simp; omega)).trans P7.out)
        have HB6 := below_gr HB5 hG hpw HB5.size
        have hz5 := HB5.size
        have H6 := Lib.hid (all_set (i := 1) (all_set (i := 0) H1.out hk7.one) hm7.one)
        have hs6 := size_set2 (v := v7) (u := u7) HS.out
        obtain ⟨c6, hc6⟩ : ∃ c6, c6 = (cs.setIfInBounds 0 v7).setIfInBounds 1 u7 := ⟨_, rfl⟩
        rw [← hc6] at hpp hs6
        have H6 : Hid (c6.all (·.oneCell') = true) := by rw [hc6]; exact H6
        have HC6 := Lib.hid hc6
        have HPP := Lib.hid hpp
        have HRR := Lib.hid hr
        have HK7 := Lib.hid hk7
        have HM7 := Lib.hid hm7
        have HS6 := Lib.hid hs6
        clear hc6 hpp hr hk7 hm7 hs6 hG P9 HH HO5 hU0
        by_cases hE : runE k f m b c s = 0
        · have HD : Hid (doneB f m k b c s = true) := Lib.hid (by simp [doneB, HKO.out, hE])
          have HDE : Hid (doE f m k b c s = 0) := Lib.hid (by simp [doE, HKO.out, hE])
          have eE : (runE k f m b c s == 0) = true := by simp [hE]
          clear hE
          have f0 := cell_block (i := 0) P5.out rfl
          cases cut
          · go_upto_region 10 with fail
            obtain ⟨S, hS⟩ : ∃ S : World → Prop, S = fun W' => W'.heap[p]? = some (.cells c6 31 (0, 0)) ∧ W'.heap[r]? = some (.cells #[.int .i64 (runV k f b c noise), .string (runB k m c)] 40 (0, 0)) := ⟨_, rfl⟩
            have q7 := (put_other (w := W6.drew) (b := w.heap.size + 1 + 1 + 1) (cs := c6) (k := w.heap.size + 1 + 1 + 1 + 1) (by omega)).trans P7.out
            refine wp_region_held_drew (S := S) (by kernel_rfl) ?_ (fun hHeld => ?_)
            · rw [hS]; exact ⟨HPP.out, HRR.out⟩
            refine take_at 0 54 (.agg c6) rfl rfl (by kernel_rfl) (by kernel_rfl) (by kernel_rfl) (fun _ _ _ h => h) (yields_hw (by rfl) (.tmp 10) rfl rfl (fun w hw => by rw [hS] at hw; exact hw.1) HS6.out) (by assumption) ?_
            simp only [List.setIfInBounds_toArray, List.set_cons_zero, List.set_cons_succ]
            refine take_at 1 55 (.agg #[.int .i64 (runV k f b c noise), .string (runB k m c)]) rfl rfl (by kernel_rfl) (by kernel_rfl) (by kernel_rfl) (fun _ _ _ h => h) (yields_res (by rfl) (.tmp 11) rfl rfl (fun w hw => by rw [hS] at hw; exact hw.2)) (by assumption) ?_
            simp only [List.setIfInBounds_toArray, List.set_cons_zero, List.set_cons_succ]
            refine store_one 2 31 (.tmp 6) (.tmp 54) rfl (by kernel_rfl) rfl rfl (by rfl) rfl rfl P6.out (by rw [HS6.out]; decide) (by rw [HS6.out]; kernel_rfl) H6.out (by rw [hS]; exact ⟨(put_other (by omega)).trans HPP.out, (put_other (by omega)).trans HRR.out⟩) (fun hHeld2 => ?_)
            refine store_one 3 40 (.tmp 7) (.tmp 55) rfl (by kernel_rfl) rfl rfl (by rfl) rfl rfl q7 (by simp) (by kernel_rfl) (by simp [Value.oneCell']) (by rw [hS]; exact ⟨(put_other (by omega)).trans ((put_other (by omega)).trans HPP.out), (put_other (by omega)).trans ((put_other (by omega)).trans HRR.out)⟩) (fun hHeld3 => ?_)
            refine assign_one 4 8 (.int .i64 0) rfl (by kernel_rfl) rfl rfl (by rfl) (by assumption) ?_
            refine wpAnyH_done (by kernel_rfl) ?_ _
            have HE6 : (putRow (putRow W6.drew (w.heap.size + 1 + 1 + 1) c6) (w.heap.size + 1 + 1 + 1 + 1) #[.int .i64 (runV k f b c noise), .string (runB k m c)]).heap[w.heap.size + 1 + 1 + 1]? = some (.cells c6 31 (0, 0)) := (put_other (by omega)).trans (put_same P6.out (by rw [HS6.out]; rfl))
            have HE7 : (putRow (putRow W6.drew (w.heap.size + 1 + 1 + 1) c6) (w.heap.size + 1 + 1 + 1 + 1) #[.int .i64 (runV k f b c noise), .string (runB k m c)]).heap[w.heap.size + 1 + 1 + 1 + 1]? = some (.cells #[.int .i64 (runV k f b c noise), .string (runB k m c)] 40 (0, 0)) := put_same q7 rfl
            have far : ∀ x, x ≠ w.heap.size + 1 + 1 + 1 → x ≠ w.heap.size + 1 + 1 + 1 + 1 → (putRow (putRow W6.drew (w.heap.size + 1 + 1 + 1) c6) (w.heap.size + 1 + 1 + 1 + 1) #[.int .i64 (runV k f b c noise), .string (runB k m c)]).heap[x]? = W6.heap[x]? := fun x h1 h2 => (put_other h2).trans (put_other h1)
            have HBE : Below w.heap.size w (putRow (putRow W6.drew (w.heap.size + 1 + 1 + 1) c6) (w.heap.size + 1 + 1 + 1 + 1) #[.int .i64 (runV k f b c noise), .string (runB k m c)]) := put_below (put_below HB6.drew (by omega)) (by omega)
            obtain ⟨WE, hWE⟩ : ∃ WE, WE = putRow (putRow W6.drew (w.heap.size + 1 + 1 + 1) c6) (w.heap.size + 1 + 1 + 1 + 1) #[.int .i64 (runV k f b c noise), .string (runB k m c)] := ⟨_, rfl⟩
            rw [← hWE] at HE6 HE7 far HBE ⊢
            simp only [List.setIfInBounds_toArray, List.set_cons_zero, List.set_cons_succ]
            have HE6 := Lib.hid HE6
            have HE7 := Lib.hid HE7
            have FAR := Lib.hid far
            clear hWE q7 far hHeld hHeld2 hHeld3 hS
            go_wp2
            refine bodyPost_ret (v := .tuple #[.agg c6, .agg #[.int .i64 (runV k f b c noise), .string (runB k m c)], .int .i64 0]) (by simp [results, Try.results10, asAddr, loadVar_hw HE6.out HS6.out, loadVar_res HE7.out]) rfl ?_
            refine ⟨v7, u7, ?_, ?_, ?_, HBE⟩
            · rw [← HC6.out, HDE.out]
              simp [doV, doB, HD.out]
            · rw [doF, HD.out, if_pos rfl]
              exact HK7.out.keep (fun x hx => FAR.out x (by rcases hx.1 with h | h; (have := HOK.out x h; omega); omega) (by rcases hx.1 with h | h; (have := HOK.out x h; omega); omega)) (fun x hx => hx.1.imp id (fun h => Nat.le_trans hz5 h))
            · rw [doM, HD.out, if_pos rfl]
              exact HM7.out.keep (fun x hx => FAR.out x (by rcases hx.1 with h | h; (have := HOK.out x h; omega); omega) (by rcases hx.1 with h | h; (have := HOK.out x h; omega); omega)) (fun x hx => hx.1.imp id (fun h => Nat.le_trans hz5 h))
          · have r0 := cell_block (i := 0) HRR.out rfl
            have r1 := cell_block (i := 1) HRR.out rfl
            have s0 := free_block (i := 0) HRR.out
            have s1 := free_block (i := 1) HRR.out
            go_upto_region 10 with fail
            clear r0 r1 s0 s1
            obtain ⟨W8, hW8⟩ : ∃ W8, W8 = (W6.setCell ⟨r, 0, none⟩ (.int .i64 0)).setCell ⟨r, 1, none⟩ (.string ⟨#[]⟩) := ⟨_, rfl⟩
            have far : ∀ x, x ≠ r → W8.heap[x]? = W6.heap[x]? := fun x hx => by rw [hW8]; exact (heap_setCell_other _ ⟨r, 1, none⟩ x _ hx).trans (heap_setCell_other _ ⟨r, 0, none⟩ x _ hx)
            have HRR : Hid (W8.heap[r]? = some (.cells #[.int .i64 0, .string ⟨#[]⟩] 40 (0, 0))) := Lib.hid (by rw [hW8]; exact heap_setCell_same _ _ 1 _ _ _ (heap_setCell_same _ _ 0 _ _ _ HRR.out))
            have HPP := Lib.hid ((far p (by omega)).trans HPP.out)
            have P6 := Lib.hid ((far _ (by omega)).trans P6.out)
            have P7 := Lib.hid ((far _ (by omega)).trans P7.out)
            have HB6 : Below w.heap.size w W8 := by rw [hW8]; exact (HB6.setCell (p := ⟨r, 0, none⟩) (by simp; omega) _).setCell (p := ⟨r, 1, none⟩) (by simp; omega) _
            have HK7 := Lib.hid (HK7.out.keep (fun x hx => far x hx.2) (fun _ h => h))
            have HM7 := Lib.hid (HM7.out.keep (fun x hx => far x hx.2) (fun _ h => h))
            rw [← hW8]
            clear hW8 far
            obtain ⟨S, hS⟩ : ∃ S : World → Prop, S = fun W' => W'.heap[p]? = some (.cells c6 31 (0, 0)) ∧ W'.heap[r]? = some (.cells #[.int .i64 0, .string ⟨#[]⟩] 40 (0, 0)) := ⟨_, rfl⟩
            have q7 := (put_other (w := W8.drew) (b := w.heap.size + 1 + 1 + 1) (cs := c6) (k := w.heap.size + 1 + 1 + 1 + 1) (by omega)).trans P7.out
            refine wp_region_held_drew (S := S) (by kernel_rfl) ?_ (fun hHeld => ?_)
            · rw [hS]; exact ⟨HPP.out, HRR.out⟩
            refine take_at 0 54 (.agg c6) rfl rfl (by kernel_rfl) (by kernel_rfl) (by kernel_rfl) (fun _ _ _ h => h) (yields_hw (by rfl) (.tmp 10) rfl rfl (fun w hw => by rw [hS] at hw; exact hw.1) HS6.out) (by assumption) ?_
            simp only [List.setIfInBounds_toArray, List.set_cons_zero, List.set_cons_succ]
            refine take_at 1 55 (.agg #[.int .i64 0, .string ⟨#[]⟩]) rfl rfl (by kernel_rfl) (by kernel_rfl) (by kernel_rfl) (fun _ _ _ h => h) (yields_res (by rfl) (.tmp 11) rfl rfl (fun w hw => by rw [hS] at hw; exact hw.2)) (by assumption) ?_
            simp only [List.setIfInBounds_toArray, List.set_cons_zero, List.set_cons_succ]
            refine store_one 2 31 (.tmp 6) (.tmp 54) rfl (by kernel_rfl) rfl rfl (by rfl) rfl rfl P6.out (by rw [HS6.out]; decide) (by rw [HS6.out]; kernel_rfl) H6.out (by rw [hS]; exact ⟨(put_other (by omega)).trans HPP.out, (put_other (by omega)).trans HRR.out⟩) (fun hHeld2 => ?_)
            refine store_one 3 40 (.tmp 7) (.tmp 55) rfl (by kernel_rfl) rfl rfl (by rfl) rfl rfl q7 (by simp) (by kernel_rfl) (by simp [Value.oneCell']) (by rw [hS]; exact ⟨(put_other (by omega)).trans ((put_other (by omega)).trans HPP.out), (put_other (by omega)).trans ((put_other (by omega)).trans HRR.out)⟩) (fun hHeld3 => ?_)
            refine assign_one 4 8 (.int .i64 0) rfl (by kernel_rfl) rfl rfl (by rfl) (by assumption) ?_
            refine wpAnyH_done (by kernel_rfl) ?_ _
            have HE6 : (putRow (putRow W8.drew (w.heap.size + 1 + 1 + 1) c6) (w.heap.size + 1 + 1 + 1 + 1) #[.int .i64 0, .string ⟨#[]⟩]).heap[w.heap.size + 1 + 1 + 1]? = some (.cells c6 31 (0, 0)) := (put_other (by omega)).trans (put_same P6.out (by rw [HS6.out]; rfl))
            have HE7 : (putRow (putRow W8.drew (w.heap.size + 1 + 1 + 1) c6) (w.heap.size + 1 + 1 + 1 + 1) #[.int .i64 0, .string ⟨#[]⟩]).heap[w.heap.size + 1 + 1 + 1 + 1]? = some (.cells #[.int .i64 0, .string ⟨#[]⟩] 40 (0, 0)) := put_same q7 rfl
            have far : ∀ x, x ≠ w.heap.size + 1 + 1 + 1 → x ≠ w.heap.size + 1 + 1 + 1 + 1 → (putRow (putRow W8.drew (w.heap.size + 1 + 1 + 1) c6) (w.heap.size + 1 + 1 + 1 + 1) #[.int .i64 0, .string ⟨#[]⟩]).heap[x]? = W8.heap[x]? := fun x h1 h2 => (put_other h2).trans (put_other h1)
            have HBE : Below w.heap.size w (putRow (putRow W8.drew (w.heap.size + 1 + 1 + 1) c6) (w.heap.size + 1 + 1 + 1 + 1) #[.int .i64 0, .string ⟨#[]⟩]) := put_below (put_below HB6.drew (by omega)) (by omega)
            obtain ⟨WE, hWE⟩ : ∃ WE, WE = putRow (putRow W8.drew (w.heap.size + 1 + 1 + 1) c6) (w.heap.size + 1 + 1 + 1 + 1) #[.int .i64 0, .string ⟨#[]⟩] := ⟨_, rfl⟩
            rw [← hWE] at HE6 HE7 far HBE ⊢
            simp only [List.setIfInBounds_toArray, List.set_cons_zero, List.set_cons_succ]
            have HE6 := Lib.hid HE6
            have HE7 := Lib.hid HE7
            have FAR := Lib.hid far
            clear hWE q7 far hHeld hHeld2 hHeld3 hS
            go_wp2
            refine bodyPost_ret (v := .tuple #[.agg c6, .agg #[.int .i64 0, .string ⟨#[]⟩], .int .i64 0]) (by simp [results, Try.results10, asAddr, loadVar_hw HE6.out HS6.out, loadVar_res HE7.out]) rfl ?_
            refine ⟨v7, u7, ?_, ?_, ?_, HBE⟩
            · rw [← HC6.out, HDE.out]
              simp [doV, doB, HD.out]
            · rw [doF, HD.out, if_pos rfl]
              exact HK7.out.keep (fun x hx => FAR.out x (by rcases hx.1 with h | h; (have := HOK.out x h; omega); omega) (by rcases hx.1 with h | h; (have := HOK.out x h; omega); omega)) (fun x hx => hx.1.imp id (fun h => Nat.le_trans hz5 h))
            · rw [doM, HD.out, if_pos rfl]
              exact HM7.out.keep (fun x hx => FAR.out x (by rcases hx.1 with h | h; (have := HOK.out x h; omega); omega) (by rcases hx.1 with h | h; (have := HOK.out x h; omega); omega)) (fun x hx => hx.1.imp id (fun h => Nat.le_trans hz5 h))
        · have HD : Hid (doneB f m k b c s = false) := Lib.hid (by simp [doneB, hE])
          have HDE : Hid (doE f m k b c s = runE k f m b c s) := Lib.hid (by simp [doE, HKO.out])
          have eE : (runE k f m b c s == 0) = false := by simp [hE]
          clear hE
          have hs := HS.out
          have hst := cells_row (cs := cs) P6.out (by rw [hs]; decide) H1.out
          go_upto_region 7 with fail
          refine wp_region_list ?_
          simp only []
          refine wpList_load_hw rfl (.tmp 3) rfl rfl P3.out HS.out ?_
          have q7 := (put_other (w := W6) (b := w.heap.size + 1 + 1 + 1) (cs := cs) (k := w.heap.size + 1 + 1 + 1 + 1) (by omega)).trans P7.out
          have c0 := cell_block (i := 0) q7 rfl
          have c1 := cell_block (i := 1) q7 rfl
          have d0 := free_block (i := 0) q7
          have d1 := free_block (i := 1) q7
          clear q7
          go_wp2
          have HE := ends_at (V := .int .i64 0) (B := .string ⟨#[]⟩) P6.out (by rw [hs]; rfl) P7.out (by omega)
          have HBE : Below w.heap.size w (((putRow W6 (w.heap.size + 1 + 1 + 1) cs).setCell ⟨w.heap.size + 1 + 1 + 1 + 1, 0, none⟩ (.int .i64 0)).setCell ⟨w.heap.size + 1 + 1 + 1 + 1, 1, none⟩ (.string ⟨#[]⟩)) := ((put_below HB6 (by omega)).setCell (p := ⟨w.heap.size + 1 + 1 + 1 + 1, 0, none⟩) (by simp; omega) _).setCell (p := ⟨w.heap.size + 1 + 1 + 1 + 1, 1, none⟩) (by simp; omega) _
          obtain ⟨WE, hWE⟩ : ∃ WE, WE = (((putRow W6 (w.heap.size + 1 + 1 + 1) cs).setCell ⟨w.heap.size + 1 + 1 + 1 + 1, 0, none⟩ (.int .i64 0)).setCell ⟨w.heap.size + 1 + 1 + 1 + 1, 1, none⟩ (.string ⟨#[]⟩)) := ⟨_, rfl⟩
          rw [← hWE] at HE HBE ⊢
          clear hWE hst c0 c1 d0 d1
          refine bodyPost_ret (v := .tuple #[.agg cs, .agg #[.int .i64 0, .string ⟨#[]⟩], .int .i64 (runE k f m b c s)]) (by simp [results, Try.results10, asAddr, loadVar_hw HE.1 hs, loadVar_res HE.2]) rfl ?_
          exact says_back HOK.out HR.out HM.out HBE HD.out HDE.out.symm

end Go.Proofs.Ytncgechmloekbaa
