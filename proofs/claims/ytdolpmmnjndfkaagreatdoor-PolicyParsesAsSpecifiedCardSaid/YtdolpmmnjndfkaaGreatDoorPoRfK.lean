/- Chapter 29, the walk: Depth and Parse of the reference. -/
import Derived.Test.YtdolpmmnjndfkaaGreatDoorPoRfJ
import Derived.Test.YtdolpmmnjndfkaaGreatDoorPoRfC
import Derived.Test.YtdolpmmnjndfkaaGreatDoorPoParse
import Derived.Test.YtdolpmmnjndfkaaGreatDoorPoTxB
namespace Go.Proofs.YtdolpmmnjndfkaaGreatDoor
open Go.RowKit
def dep1 (x : Po.Tok) (d : Int) : Int := if x.k = 3 then (if x.t = [40] then d + 1 else if x.t = [41] then d - 1 else d) else d
theorem dep1_bound (x : Po.Tok) (d : Int) : d - 1 ≤ dep1 x d ∧ dep1 x d ≤ d + 1 := by
  unfold dep1
  split
  · split
    · omega
    · split <;> omega
  · omega
theorem max_lt {m d : Int} (h : m < d) : d = max m d := by omega
theorem max_ge {m d : Int} (h : ¬ m < d) : m = max m d := by omega
theorem dep_nums {i n : Nat} {d : Int} (h : -(i : Int) ≤ d ∧ d ≤ i) (hi : i < n) (hn : n ≤ 100000) : wrap64 (d + 1) = d + 1 ∧ wrap64 (d - 1) = d - 1 ∧ wrap64 ((i : Int) + 1) = (i : Int) + 1 := by
  refine ⟨?_, ?_, ?_⟩ <;> (unfold wrap64; omega)
theorem dep_next {i : Nat} {d m : Int} (x : Po.Tok) (h : -(i : Int) ≤ d ∧ d ≤ i ∧ 0 ≤ m ∧ m ≤ i) : -((i + 1 : Nat) : Int) ≤ dep1 x d ∧ dep1 x d ≤ ((i + 1 : Nat) : Int) ∧ 0 ≤ max m (dep1 x d) ∧ max m (dep1 x d) ≤ ((i + 1 : Nat) : Int) := by
  have := dep1_bound x d
  omega
set_option maxRecDepth 1000000 in
set_option maxHeartbeats 1000000 in
theorem rf_depth (v : Value) (l : List Po.Tok) (w : World) (h : RToks w w.heap.size v l) (hl : l.length ≤ 100000) :
    Calls Tryz.prog 15 #[v] w fun e w' => e = .returned (.int .i64 (Po.depth l)) ∧ w' = w := by
  obtain ⟨A, c, rfl, -, -⟩ := h.form
  have H := Lib.hid h
  obtain ⟨n, hn⟩ : ∃ n, l.length = n := ⟨_, rfl⟩
  have HN := Lib.hid hn
  rw [hn] at hl
  have HL := Lib.hid hl
  have hl2 : (n : Int) ≤ 100000 := by omega
  clear h hl hl2
  rw [HN.out]
  go_enter Tryz.func15, Tryz.ntmps15
  go_wp2_with fail
  go_loopg [3, 4, 5] n (fun g s3 s4 s5 wr => ∃ (i : Nat) (d m : Int), i + g = n ∧ s3 = .int .i64 d ∧ s4 = .int .i64 m ∧ s5 = .int .i64 i ∧ Aside (Po.depthF (l.drop i) d m = Po.depth l ∧ -(i : Int) ≤ d ∧ d ≤ i ∧ 0 ≤ m ∧ m ≤ i) ∧ wr = w)
  case atStart => exact ⟨0, 0, 0, by omega, rfl, rfl, rfl, ⟨rfl, by omega, by omega, by omega, by omega⟩, rfl⟩
  case round =>
    obtain ⟨i, d, m, hig, rfl, rfl, rfl, HA, rfl⟩ := hrel
    cases gk with
    | zero =>
      have hi : ¬ (i : Int) < n := by omega
      have HX := Lib.hid (show m = Po.depth l by
        have h := HA.out.1
        rw [List.drop_eq_nil_of_le (by rw [HN.out]; omega)] at h
        exact h)
      go_wp2_with fail
      go_ret
      exact ⟨ret_int HX.out, rfl⟩
    | succ g =>
      have hi : (i : Int) < n := by omega
      have hi2 : 0 ≤ (i : Int) ∧ (i : Int) < n := by omega
      obtain ⟨x, hx⟩ : ∃ x, l[i]? = some x := ⟨_, List.getElem?_eq_getElem (by rw [HN.out]; omega)⟩
      have hd : l.drop i = x :: l.drop (i + 1) := Po.drop_at hx
      have HX := Lib.hid (show Po.depthF (l.drop (i + 1)) (dep1 x d) (max m (dep1 x d)) = Po.depth l by
        rw [← HA.out.1, hd, Po_depth_step]; rfl)
      obtain ⟨w1, w2, w3⟩ := dep_nums (i := i) (n := n) ⟨HA.out.2.1, HA.out.2.2.1⟩ (by omega) HL.out
      have HNX := Lib.hid (dep_next x HA.out.2)
      have hcells := H.out.at hx
      rw [HN.out] at *
      obtain ⟨b, o, rfl, hbl, a, q0, q1, q2, q3⟩ := hcells
      have HIG := Lib.hid hig
      clear hx hd hig
      have hcase : (x.k ≠ 3 ∧ dep1 x d = d) ∨ (x.k = 3 ∧ x.t = [40] ∧ dep1 x d = d + 1) ∨ (x.k = 3 ∧ x.t = [41] ∧ dep1 x d = d - 1) ∨ (x.k = 3 ∧ x.t ≠ [40] ∧ x.t ≠ [41] ∧ dep1 x d = d) := by
        unfold dep1
        by_cases h3 : x.k = 3
        · by_cases h40 : x.t = [40]
          · exact .inr (.inl ⟨h3, h40, by rw [if_pos h3, if_pos h40]⟩)
          · by_cases h41 : x.t = [41]
            · exact .inr (.inr (.inl ⟨h3, h41, by rw [if_pos h3, if_neg h40, if_pos h41]⟩))
            · exact .inr (.inr (.inr ⟨h3, h40, h41, by rw [if_pos h3, if_neg h40, if_neg h41]⟩))
        · exact .inl ⟨h3, by rw [if_neg h3]⟩
      rcases hcase with ⟨h3, hdd⟩ | ⟨h3, h40, hdd⟩ | ⟨h3, h41, hdd⟩ | ⟨h3, h40, h41, hdd⟩
      · have e3 : ((x.k : Int) == 3) = false := by simp; omega
        have HD := Lib.hid hdd
        clear h3 hdd
        go_wp2_with fail
        all_goals
          rename_i hlt
          have HLT := Lib.hid hlt
          clear hlt
          go_roundg g
          case measure => exact Nat.lt_succ_self _
          case rel => exact ⟨i + 1, dep1 x d, max m (dep1 x d), (Nat.add_right_comm i 1 g).trans HIG.out, congrArg (Value.int .i64) HD.out.symm, by rw [HD.out]; exact congrArg (Value.int .i64) (by have := HLT.out; omega), by first | rfl | simp [w3], ⟨HX.out, HNX.out⟩, rfl⟩
      · have e3 : ((x.k : Int) == 3) = true := by simp; omega
        have HD := Lib.hid hdd
        rw [h40] at q1
        clear h3 hdd h40
        go_wp2_with fail
        all_goals
          rename_i hlt
          have HLT := Lib.hid hlt
          clear hlt
          go_roundg g
          case measure => exact Nat.lt_succ_self _
          case rel => exact ⟨i + 1, dep1 x d, max m (dep1 x d), (Nat.add_right_comm i 1 g).trans HIG.out, congrArg (Value.int .i64) HD.out.symm, by rw [HD.out]; exact congrArg (Value.int .i64) (by have := HLT.out; omega), by first | rfl | simp [w3], ⟨HX.out, HNX.out⟩, rfl⟩
      · have e3 : ((x.k : Int) == 3) = true := by simp; omega
        have HD := Lib.hid hdd
        rw [h41] at q1
        clear h3 hdd h41
        go_wp2_with fail
        all_goals
          rename_i hlt
          have HLT := Lib.hid hlt
          clear hlt
          go_roundg g
          case measure => exact Nat.lt_succ_self _
          case rel => exact ⟨i + 1, dep1 x d, max m (dep1 x d), (Nat.add_right_comm i 1 g).trans HIG.out, congrArg (Value.int .i64) HD.out.symm, by rw [HD.out]; exact congrArg (Value.int .i64) (by have := HLT.out; omega), by first | rfl | simp [w3], ⟨HX.out, HNX.out⟩, rfl⟩
      · have e3 : ((x.k : Int) == 3) = true := by simp; omega
        have e40 : (x.t == [40]) = false := by simpa using h40
        have e41 : (x.t == [41]) = false := by simpa using h41
        have HD := Lib.hid hdd
        clear h3 hdd h40 h41
        go_wp2_with fail
        all_goals
          rename_i hlt
          have HLT := Lib.hid hlt
          clear hlt
          go_roundg g
          case measure => exact Nat.lt_succ_self _
          case rel => exact ⟨i + 1, dep1 x d, max m (dep1 x d), (Nat.add_right_comm i 1 g).trans HIG.out, congrArg (Value.int .i64) HD.out.symm, by rw [HD.out]; exact congrArg (Value.int .i64) (by have := HLT.out; omega), by first | rfl | simp [w3], ⟨HX.out, HNX.out⟩, rfl⟩
/-- what the reference's Parse answers -/
def RParse (T : List UInt8) (w : World) (e : Ending) (w' : World) : Prop :=
  ∃ v, e = .returned (.tuple #[.agg #[v], .int .i64 ((Po.parse T).2 : Nat)]) ∧ RNds w' 0 w'.heap.size v (Po.parse T).1 ∧ Po.OkAll (Po.parse T).1 ∧ Below w.heap.size w w'
theorem rparse_end {T : List UInt8} {w W : World} {A : Option Addr} {n c : Nat} {a : Act} {e : Nat} {o : List Po.Nd} {V : Value} (hd : a.defers = []) (h2 : a.tmps[2]?.getD undef = .pointer (some ⟨w.heap.size, 0, none⟩)) (h3 : a.tmps[3]?.getD undef = .int .i64 e)
    (hw : Below w.heap.size w W) (hc : W.heap[w.heap.size]? = some (.cells #[V] 25 (0, 0))) (hp : Po.parse T = (o, e)) (hr : ∀ W', (∀ k, k ≠ w.heap.size → W'.heap[k]? = W.heap[k]?) → W'.heap.size = W.heap.size → RNds W' 0 W'.heap.size (.slice A n c) o) (hok : Po.OkAll o) :
    bodyPost Tryz.prog Tryz.f11 (RParse T w) Exit.ret a (W.setCell ⟨w.heap.size, 0, none⟩ (.slice A n c)) := by
  have hs : (W.setCell ⟨w.heap.size, 0, none⟩ (.slice A n c)).heap.size = W.heap.size := by simp [World.setCell]
  have hc2 := set_one (v := .slice A n c) hc
  have hB : Below w.heap.size w (W.setCell ⟨w.heap.size, 0, none⟩ (.slice A n c)) := hw.setCell (p := ⟨w.heap.size, 0, none⟩) (Nat.le_refl _) _
  have hR := hr (W.setCell ⟨w.heap.size, 0, none⟩ (.slice A n c)) (fun k hk => set_other _ _ _ _ _ hk) hs
  revert hs hc2 hB hR
  generalize W.setCell ⟨w.heap.size, 0, none⟩ (.slice A n c) = W'
  intro hs hc2 hB hR
  obtain ⟨c0, -⟩ := one_cell hc2
  refine bodyPost_ret (v := .tuple #[.agg #[.slice A n c], .int .i64 e]) ?_ hd ⟨.slice A n c, by rw [hp], by rw [hp]; exact hR, by rw [hp]; exact hok, hB⟩
  simp [results, Tryz.results11, go_sem, h2, h3, c0, asAddr]
theorem toks_three (T : List UInt8) : (Po.toks T).2 = 0 ∨ (Po.toks T).2 = 2 ∨ (Po.toks T).2 = 3 := by
  unfold Po.toks
  split
  · exact .inr (.inl rfl)
  · cases Po.lex T <;> simp
theorem RNds.off1 {w w' : World} {L B p : Nat} {v : Value} {o : List Po.Nd} {z : Value} {A : Option Addr} {n c : Nat} {t : TypeId} (h : RNds w L B v o) (hz : z = .slice A n c) (hp : w.heap[p]? = some (.cells #[z] t (0, 0))) (hW : ∀ k, k ≠ p → w'.heap[k]? = w.heap[k]?) : RNds w' L B v o := by
  subst hz
  obtain ⟨A', c', h1, h2, h3, h4⟩ := h
  refine ⟨A', c', h1, h2, h3, fun hn => ?_⟩
  obtain ⟨b, off, hA, hL, hlt, hc⟩ := h4 hn
  refine ⟨b, off, hA, hL, hlt, fun i x hx => ?_⟩
  obtain ⟨u, hu, ho⟩ := hc i x hx
  have hb : b ≠ p := by
    rintro rfl
    obtain ⟨q, hq⟩ : ∃ q, (ndVals x u)[4]? = some q := ⟨_, List.getElem?_eq_getElem (by simp [ndVals])⟩
    have h6 := hu 4 q hq
    rw [cell_of_row _ _ _ _ _ _ hp] at h6
    rw [Array.getElem?_eq_none (by simp)] at h6
    cases h6
  refine ⟨u, fun j z hz => (World.cell?_of_block (a := ⟨b, _, none⟩) (hW b hb)).trans (hu j z hz), ?_⟩
  rcases ho with h | ⟨b, cap, h1, hL, h2, h3, h4, h5⟩
  · exact .inl h
  · refine .inr ⟨b, cap, h1, hL, h2, h3, h4, fun i x hx => ?_⟩
    have hb : b ≠ p := by
      rintro rfl
      obtain ⟨x0, hx0⟩ := List.getElem?_eq_some_iff.1 hx
      have h6 := h5 0 _ (List.getElem?_eq_getElem (by omega))
      rw [cell_of_row _ _ 0 _ _ _ hp] at h6
      simp at h6
    exact (World.cell?_of_block (a := ⟨b, i, none⟩) (hW b hb)).trans (h5 i x hx)
theorem rf_tokens (text : ByteArray) (w : World) (hm : text.size ≤ 600) : Calls Tryz.prog 12 #[.string text] w (TokSays text.data.toList w) := ref_tokens text w (by omega)
set_option maxRecDepth 1000000 in
set_option maxHeartbeats 4000000 in
theorem rf_parse (text : ByteArray) (w : World) (hm : text.size ≤ 600) :
    Calls Tryz.prog 11 #[.string text] w (RParse text.data.toList w) := by
  obtain ⟨T, hT⟩ : ∃ T, text.data.toList = T := ⟨_, rfl⟩
  have hTl : T.length ≤ 600 := by rw [← hT]; simpa using hm
  rw [hT]
  obtain ⟨S, hS⟩ : ∃ S, RParse T w = S := ⟨_, rfl⟩
  rw [hS]
  have hP := Lib.hid (parse_toks T)
  have cTok := rf_tokens text (w.alloc (.cells #[.slice none 0 0] 25)) hm
  rw [hT] at cTok
  obtain ⟨tk, hk⟩ : ∃ tk, Po.toks T = tk := ⟨_, rfl⟩
  have HK := Lib.hid hk
  have hok := toks_ok T
  rw [hk] at hok
  have HOK := Lib.hid hok
  unfold TokSays at cTok
  rw [hk] at cTok
  obtain ⟨tl, te⟩ := tk
  simp only at cTok
  have HC := Lib.hid cTok
  have HTL := Lib.hid hTl
  clear hT hk hok cTok hm hTl
  go_enter Tryz.func11, Tryz.ntmps11
  go_upto_region 2 with (go_at_call 12; refine HC.out.mono ?_; rintro e w1 ⟨v, rfl, hrt, hb1⟩; have H1 := Lib.hid (And.intro hrt hb1); clear hrt hb1)
  have hr0 := (H1.out.2.block w.heap.size (by simp)).trans (heap_alloc_new _ _)
  have hs1 := H1.out.2.size
  simp only [World.size_alloc] at hs1
  have HB1 := Lib.hid ((Below.new (w := w) (.cells #[.slice none 0 0] 25)).trans (H1.out.2.mono (by simp)))
  obtain ⟨A, c, rfl, -, -⟩ := H1.out.1.form
  obtain ⟨r0, rz⟩ := one_cell hr0
  have hw1 : w.heap.size < w1.heap.size := by omega
  have HW1 := Lib.hid hw1
  have HR0 := Lib.hid hr0
  clear hr0 hs1
  have hnil : ∀ W', RNds W' 0 W'.heap.size (.slice none 0 0) [] := fun W' => rnds_nil _ _ _
  have HNIL := Lib.hid hnil
  clear hnil
  by_cases he : te = 0
  rotate_left
  · have he' : ¬ ((te : Int) = 0) := by omega
    have hne : ((te : Int) != 0) = true := by simp; omega
    have HX := Lib.hid (show Po.parse T = ([], te) by rw [hP.out, HK.out]; simp [he])
    clear he
    go_wp2_with fail
    rw [← hS]
    exact rparse_end rfl rfl rfl HB1.out HR0.out HX.out (fun W' _ _ => HNIL.out W') .nil
  subst he
  have HX := Lib.hid (show Po.parse T = if 30 < Po.depth tl then ([], 2) else treeEnd (Po.tree tl) by rw [hP.out, HK.out]; simp)
  have HD := Lib.hid (rf_depth (.slice A tl.length c) tl w1 H1.out.1 (by have := HOK.out.2; omega))
  by_cases hd : 30 < Po.depth tl
  · have HY := Lib.hid (show Po.parse T = ([], 2) by rw [HX.out, if_pos hd])
    go_wp2_with (go_at_call 15; refine HD.out.mono ?_; rintro e w2 ⟨rfl, hw⟩; rw [hw]; clear hw w2)
    rw [← hS]
    exact rparse_end rfl rfl rfl HB1.out HR0.out HY.out (fun W' _ _ => HNIL.out W') .nil
  have HY := Lib.hid (show Po.parse T = treeEnd (Po.tree tl) by rw [HX.out, if_neg hd])
  obtain ⟨r, hr⟩ : ∃ r, Po.P (6 * tl.length + 6) 0 tl [] = some r := by
    cases hq : Po.P (6 * tl.length + 6) 0 tl [] with
    | none => exact absurd hq (Po.P_total _ _ _ _ (by simp [Po.bar]))
    | some r => exact ⟨r, rfl⟩
  have HTR := Lib.hid (And.intro hr (tree_eq hr))
  have HC0 := (rch_all (6 * tl.length + 6)).2 _ (Nat.le_refl _) 0 (by decide) tl (.slice A tl.length c) w1.heap.size 0 [] none 0 w1 r (by rw [Po.rest_zero]; exact hr) ⟨Nat.le_refl _, H1.out.1, by have := HOK.out.2; omega, HOK.out.1, by decide, ⟨by decide, by omega⟩, rnds_nil _ _ _, .nil, by rw [Po.rest_zero]; have := HOK.out.2; simp; omega⟩
  have HC0 := Lib.hid HC0
  clear hr
  go_upto_region 6 with (go_at_call 15; refine HD.out.mono ?_; rintro e w2 ⟨rfl, hw⟩; rw [hw]; clear hw w2)
  clear hd
  go_upto_region 7 with (go_at_call 27; refine HC0.out.mono ?_; rintro e w3 ⟨k3, o3, A3, c3, rfl, hn3, hp3, h03, hd3, hb3⟩; have H3 := Lib.hid (And.intro hn3 (And.intro hp3 (And.intro h03 (And.intro hd3 hb3)))); clear hn3 hp3 h03 hd3 hb3)
  obtain ⟨W7, hW7⟩ : ∃ W7, w3.alloc (.cells #[.slice A tl.length c, .int .i64 k3, .slice A3 o3.length c3] 57) = W7 := ⟨_, rfl⟩
  rw [hW7]
  obtain ⟨x7, hB7, hs7⟩ := one_box W7 hW7
  have hb17 : Below w1.heap.size w1 W7 := H3.out.2.2.2.2.trans (hB7.mono H3.out.2.2.2.2.size)
  have hr7 := (hb17.block w.heap.size HW1.out).trans HR0.out
  have HB7 := Lib.hid (And.intro (HB1.out.trans (hb17.mono HB1.out.size)) hr7)
  have HN7 : Hid (∀ W', (∀ k, k ≠ w.heap.size → W'.heap[k]? = W7.heap[k]?) → W'.heap.size = W7.heap.size → RNds W' 0 W'.heap.size (.slice A3 o3.length c3) o3) := Lib.hid fun W' h hs => by
    rw [hs]
    exact ((H3.out.1.below hB7).more (Nat.le_refl _) hB7.size).off1 rfl hr7 h
  obtain ⟨x0, x1, x2, xz⟩ := three_cells x7
  clear r0 rz
  obtain ⟨r0, rz⟩ := one_cell hr7
  clear hW7 x7 hB7 hs7 hb17 hr7
  by_cases hk : k3 = (tl.length : Int)
  rotate_left
  · have hne : (k3 != (tl.length : Int)) = true := by simpa using hk
    have HZ := Lib.hid (show Po.parse T = ([], 3) by
      rw [HY.out, HTR.out.2]
      have hp := H3.out.2.1
      cases r with
      | none => rfl
      | some x =>
        obtain ⟨x1, x2⟩ := x
        obtain ⟨q1, q2, q3, q4⟩ := hp
        cases x1 with
        | cons y l => rfl
        | nil =>
          exfalso
          have := (Po.rest_end (L := tl) (k := k3) ⟨by omega, q2⟩).2 ⟨q1, q3⟩
          exact hk this)
    clear hk
    go_wp2_with fail
    rw [← hS]
    exact rparse_end rfl rfl rfl HB7.out.1 HB7.out.2 HZ.out (fun W' _ _ => HNIL.out W') .nil
  have hne : (k3 != (tl.length : Int)) = false := by simpa using hk
  have HO := Lib.hid (show Po.parse T = treeEnd (some o3) ∧ Po.OkAll o3 by
    have hp := H3.out.2.1
    cases r with
    | none => exfalso; have : k3 = -1 := hp.1; omega
    | some x =>
      obtain ⟨x1, x2⟩ := x
      obtain ⟨q1, q2, q3, q4⟩ := hp
      have hz : x1 = [] := by
        have := (Po.rest_end (L := tl) (k := k3) ⟨by omega, q2⟩).1 hk
        exact q3.symm.trans this.2
      subst hz
      simp only at q4
      subst q4
      exact ⟨by rw [HY.out, HTR.out.2]; rfl, (Po.P_ok _ _ _ _ _ _ HOK.out.1 .nil HTR.out.1).2.1⟩)
  clear hk
  by_cases h4 : 400 < o3.length
  · have h4' : (400 : Int) < o3.length := by omega
    have HZ := Lib.hid (show Po.parse T = ([], 2) by rw [HO.out.1, treeEnd, if_pos h4])
    clear h4
    go_wp2_with fail
    rw [← hS]
    exact rparse_end rfl rfl rfl HB7.out.1 HB7.out.2 HZ.out (fun W' _ _ => HNIL.out W') .nil
  · have h4' : ¬ (400 : Int) < o3.length := by omega
    have HZ := Lib.hid (show Po.parse T = (o3, 0) by rw [HO.out.1, treeEnd, if_neg h4])
    clear h4
    go_wp2_with fail
    rw [← hS]
    exact rparse_end rfl rfl rfl HB7.out.1 HB7.out.2 HZ.out HN7.out HO.out.2
end Go.Proofs.YtdolpmmnjndfkaaGreatDoor
