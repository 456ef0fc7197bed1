/- Chapter 29, the walk: Digests of the reference and refines of the laws. -/
import Derived.Test.YtdolpmmnjndfkaaGreatDoorPoVal
import Derived.BigQuiet
namespace Go.Proofs.YtdolpmmnjndfkaaGreatDoor
open Go.RowKit
set_option maxRecDepth 1000000 in
set_option maxHeartbeats 2000000 in
theorem ref_digs (v1 v2 : Value) (ps qs : List (List Nat)) (w : World) (h1 : RDigs w w.heap.size v1 ps) (h2 : RDigs w w.heap.size v2 qs) :
    Calls Tryz.prog 42 #[v1, v2] w fun e w' => e = .returned (.bool (decide (ps = qs))) ∧ ∃ n, w' = w.drewN n := by
  obtain ⟨T, N, R, K, LT⟩ := letters
  obtain ⟨A1, c1, rfl, hl1, hm1⟩ := h1.form
  obtain ⟨A2, c2, rfl, hl2, hm2⟩ := h2.form
  have H := Lib.hid (And.intro h1 h2)
  clear h1 h2
  obtain ⟨n, hn⟩ : ∃ n, ps.length = n := ⟨_, rfl⟩
  obtain ⟨m, hm⟩ : ∃ m, qs.length = m := ⟨_, rfl⟩
  have HN := Lib.hid (And.intro hn hm)
  rw [hn] at hl1 H ⊢
  rw [hm] at hl2 H ⊢
  unfold maxLen at hm1 hm2
  have hlim : n ≤ 9223372036854775807 := by omega
  have HLIM := Lib.hid hlim
  clear hn hm hm1 hm2 hl1 hl2 hlim
  by_cases hnm : (n : Int) = m
  · obtain rfl : n = m := by omega
    clear hnm
    go_enter Tryz.func42, Tryz.ntmps42
    have hop : ∀ a b, Op.binOp BinOp.neq 65 a b 65 = Op.binOp BinOp.neq R a b R := fun a b => by rw [LT.tyR]
    simp only [LT.loadR, hop]
    clear hop
    go_wp2_with fail
    go_loopg [5] n (fun g s5 wr => ∃ i q : Nat, i + g = n ∧ s5 = .int .i64 i ∧ wr = w.drewN q ∧ Aside (∀ j, j < i → ps[j]? = qs[j]?))
    case atStart => exact ⟨0, 0, by omega, rfl, rfl, fun j hj => by omega⟩
    case round =>
      obtain ⟨i, q, hig, rfl, rfl, hall⟩ := hrel
      cases gk with
      | zero =>
        obtain rfl : i = n := by omega
        have hX := Lib.hid (show decide (ps = qs) = true by
          rw [decide_eq_true_iff]
          apply List.ext_getElem?
          intro j
          by_cases hj : j < i
          · exact hall.out j hj
          · rw [List.getElem?_eq_none (by have := HN.out.1; omega), List.getElem?_eq_none (by have := HN.out.2; omega)])
        have hi : ¬ (i : Int) < i := by omega
        go_wp2_with fail
        go_ret
        exact ⟨ret_bool hX.out.symm, q, rfl⟩
      | succ g =>
        obtain ⟨p, hp⟩ : ∃ p, ps[i]? = some p := ⟨_, List.getElem?_eq_getElem (by have := HN.out.1; omega)⟩
        obtain ⟨r, hr⟩ : ∃ r, qs[i]? = some r := ⟨_, List.getElem?_eq_getElem (by have := HN.out.2; omega)⟩
        obtain ⟨b1, o1, rfl, -, -, hd1, hr1⟩ := H.out.1.at hp
        obtain ⟨b2, o2, rfl, -, -, hd2, hr2⟩ := H.out.2.at hr
        have hi : (i : Int) < n := by omega
        have hi2 : 0 ≤ (i : Int) ∧ (i : Int) < n := by omega
        have w3 : wrap64 ((i : Int) + 1) = (i : Int) + 1 := by have := HLIM.out; unfold wrap64; omega
        have HPR := Lib.hid (And.intro hp hr)
        have la := LT.aggR
        have lz := LT.sizeR
        have hl1 := fun k => LT.ldR (w := w.drewN k) hr1 hd1
        have hl2 := fun k => LT.ldR (w := w.drewN k) hr2 hd2
        have hE := fun w => run_dig hd1 hd2 w
        have hG : ∀ w, Sem.run Tryz.prog (eqGuard BinOp.neq 65 (.tmp 20) (.tmp 24) (.agg (dgVals p).toArray) (.agg (dgVals r).toArray)) w = .ok () w := fun w => by kernel_rfl
        rw [← LT.tyR] at hE hG
        clear hp hr hr1 hr2 hd1 hd2
        by_cases e : p = r
        · subst e
          rw [show (p == p) = true by simp] at hE
          go_upto_region 6 with fail
          go_region
          go_wp2_with fail
          go_roundg g
          case measure => omega
          case rel => exact ⟨i + 1, q + 1, by omega, by first | rfl | go_num, rfl, fun j hj => by
            by_cases e : j = i
            · subst e; rw [HPR.out.1, HPR.out.2]
            · exact hall.out j (by omega)⟩
        · rw [show (p == r) = false by simpa using e] at hE
          have HX := Lib.hid (list_ne HPR.out.1 HPR.out.2 e)
          go_upto_region 6 with fail
          go_region
          go_wp2_with fail
          go_ret
          exact ⟨ret_bool HX.out.symm, q + 1, rfl⟩
  · have HX := Lib.hid (show decide (ps = qs) = false by
      rw [decide_eq_false_iff_not]
      rintro rfl
      exact hnm (by have := HN.out; omega))
    go_enter Tryz.func42, Tryz.ntmps42
    go_wp2_with fail
    go_ret
    exact ⟨ret_bool HX.out.symm, 0, rfl⟩
def RefSays (f t : Po.Facts) (w : World) (e : Ending) (w' : World) : Prop := ∃ b : Bool, e = .returned (.bool b) ∧ (b = true → Po.Refines f t) ∧ Below w.heap.size w w'
theorem refines_of {f t : Po.Facts} (h1 : f.version = t.version) (h2 : f.epoch = t.epoch) (h3 : f.stages = t.stages) (h4 : f.points.length = t.points.length)
    (h5 : ∀ (j : Nat) (r s : List Int), f.points[j]? = some r → t.points[j]? = some s → r.length = s.length ∧ ∀ (k : Nat) x y, r[k]? = some x → s[k]? = some y → y = -1 ∨ x = y) : Po.Refines f t := by
  have hrow : ∀ i, ∃ r s : List Int, f.points.getD i [] = r ∧ t.points.getD i [] = s ∧ r.length = s.length ∧ ∀ (k : Nat) x y, r[k]? = some x → s[k]? = some y → y = -1 ∨ x = y := by
    intro i
    by_cases hi : i < f.points.length
    · have e1 := List.getElem?_eq_getElem hi
      have e2 := List.getElem?_eq_getElem (show i < t.points.length by omega)
      have := h5 i _ _ e1 e2
      exact ⟨_, _, by rw [List.getD_eq_getElem?_getD, e1]; rfl, by rw [List.getD_eq_getElem?_getD, e2]; rfl, this⟩
    · exact ⟨[], [], by rw [List.getD_eq_getElem?_getD, List.getElem?_eq_none (by omega)]; rfl, by rw [List.getD_eq_getElem?_getD, List.getElem?_eq_none (by omega)]; rfl, rfl, fun k x y h => by simp at h⟩
  refine ⟨h1, h2, h3, h4, fun i => ?_, fun i k => ?_⟩
  · obtain ⟨r, s, e1, e2, hl, -⟩ := hrow i
    rw [e1, e2, hl]
  · obtain ⟨r, s, e1, e2, hl, hk⟩ := hrow i
    rw [e1, e2]
    unfold Po.at_
    rw [List.getD_eq_getElem?_getD, List.getD_eq_getElem?_getD]
    by_cases hlt : k < r.length
    · have g1 := List.getElem?_eq_getElem hlt
      have g2 := List.getElem?_eq_getElem (show k < s.length by omega)
      rw [g1, g2]
      exact hk k _ _ g1 g2
    · rw [List.getElem?_eq_none (by omega), List.getElem?_eq_none (by omega)]
      exact .inr rfl
set_option maxRecDepth 1000000 in
set_option maxHeartbeats 8000000 in
theorem law_refines (v1 v2 : Value) (f t : Po.Facts) (w : World) (hf : RFacts w w.heap.size v1 f) (ht : RFacts w w.heap.size v2 t) :
    Calls Tryz.prog 24 #[v1, v2] w (RefSays f t w) := by
  obtain ⟨vs1, vp1, rfl, hs1, hp1⟩ := hf
  obtain ⟨vs2, vp2, rfl, hs2, hp2⟩ := ht
  obtain ⟨S1, d1, rfl, -, -⟩ := hs1.form
  obtain ⟨S2, d2, rfl, -, -⟩ := hs2.form
  obtain ⟨A1, c1, rfl, hl1, hm1⟩ := hp1.form
  obtain ⟨A2, c2, rfl, hl2, hm2⟩ := hp2.form
  obtain ⟨n, hn⟩ : ∃ n, f.points.length = n := ⟨_, rfl⟩
  obtain ⟨m, hm⟩ : ∃ m, t.points.length = m := ⟨_, rfl⟩
  obtain ⟨k1, hk1⟩ : ∃ n, f.stages.length = n := ⟨_, rfl⟩
  obtain ⟨k2, hk2⟩ : ∃ n, t.stages.length = n := ⟨_, rfl⟩
  rw [hk1] at hs1 ⊢
  rw [hk2] at hs2 ⊢
  rw [hn] at hp1 hl1 ⊢
  rw [hm] at hp2 hl2 ⊢
  have HN := Lib.hid (And.intro hn hm)
  unfold maxLen at hm1 hm2
  have hlim : n ≤ 9223372036854775807 := by omega
  have HLIM := Lib.hid hlim
  obtain ⟨W, hW⟩ : ∃ W, (w.alloc (.cells #[.int .i64 f.version, .int .i64 f.epoch, .slice S1 k1 d1, .slice A1 n c1] 42)).alloc (.cells #[.int .i64 t.version, .int .i64 t.epoch, .slice S2 k2 d2, .slice A2 m c2] 42) = W := ⟨_, rfl⟩
  obtain ⟨b1, b2, hB, hsz⟩ := two_boxes W hW
  have p0 := cell_of_row _ _ 0 _ _ _ b1
  have p1 := cell_of_row _ _ 1 _ _ _ b1
  have p2 := cell_of_row _ _ 2 _ _ _ b1
  have p3 := cell_of_row _ _ 3 _ _ _ b1
  have q0 := cell_of_row _ _ 0 _ _ _ b2
  have q1 := cell_of_row _ _ 1 _ _ _ b2
  have q2 := cell_of_row _ _ 2 _ _ _ b2
  have q3 := cell_of_row _ _ 3 _ _ _ b2
  simp only [List.getElem?_toArray, List.getElem?_cons_zero, List.getElem?_cons_succ] at p0 p1 p2 p3 q0 q1 q2 q3
  have HD := Lib.hid (ref_digs _ _ f.stages t.stages W ((hs1.below hB).mono hB.size) ((hs2.below hB).mono hB.size))
  have HP := Lib.hid (And.intro (hp1.below hB) (hp2.below hB))
  have HB := Lib.hid hB
  clear hs1 hs2 hp1 hp2 hn hm hk1 hk2 hl1 hl2 hm1 hm2 hlim b1 b2 hB hsz
  obtain ⟨x0, hx0⟩ : ∃ x, f.version = x := ⟨_, rfl⟩
  obtain ⟨y0, hy0⟩ : ∃ x, t.version = x := ⟨_, rfl⟩
  obtain ⟨x1, hx1⟩ : ∃ x, f.epoch = x := ⟨_, rfl⟩
  obtain ⟨y1, hy1⟩ : ∃ x, t.epoch = x := ⟨_, rfl⟩
  rw [hx0] at p0 hW ⊢
  rw [hx1] at p1 hW ⊢
  rw [hy0] at q0 hW ⊢
  rw [hy1] at q1 hW ⊢
  have HV := Lib.hid (And.intro hx0 (And.intro hy0 (And.intro hx1 hy1)))
  clear hx0 hy0 hx1 hy1
  go_enter Tryz.func24, Tryz.ntmps24
  by_cases e0 : x0 = y0
  rotate_left
  · have hne : (x0 != y0) = true := by simpa using e0
    go_wp2_with fail
    go_ret
    exact ⟨false, rfl, (fun h => by cases h), HB.out⟩
  by_cases e1 : x1 = y1
  rotate_left
  · have hne : (x1 != y1) = true := by simpa using e1
    subst e0
    go_wp2_with fail
    go_ret
    exact ⟨false, rfl, (fun h => by cases h), HB.out⟩
  subst e0
  subst e1
  by_cases e2 : f.stages = t.stages
  rotate_left
  · rw [show decide (f.stages = t.stages) = false by simpa using e2] at HD
    go_wp2_with (go_at_call 42; refine HD.out.mono ?_; rintro e w' ⟨rfl, q, rfl⟩)
    go_ret
    exact ⟨false, rfl, (fun h => by cases h), below_drewN HB.out _⟩
  rw [show decide (f.stages = t.stages) = true by simpa using e2] at HD
  have HE2 := Lib.hid e2
  clear e2
  by_cases hnm : (n : Int) = m
  rotate_left
  · have hne : ((n : Int) != m) = true := by simpa using hnm
    go_wp2_with (go_at_call 42; refine HD.out.mono ?_; rintro e w' ⟨rfl, q, rfl⟩)
    go_ret
    exact ⟨false, rfl, (fun h => by cases h), below_drewN HB.out _⟩
  obtain rfl : n = m := by omega
  clear hnm
  go_wp2_with (go_at_call 42; refine HD.out.mono ?_; rintro e w' ⟨rfl, q, rfl⟩)
  clear hW
  go_loopg [5] n (fun g s5 wr => ∃ i q : Nat, i + g = n ∧ s5 = .int .i64 i ∧ wr = W.drewN q ∧ Aside (∀ (j : Nat) (r s : List Int), j < i → f.points[j]? = some r → t.points[j]? = some s → r.length = s.length ∧ ∀ (k : Nat) x y, r[k]? = some x → s[k]? = some y → y = -1 ∨ x = y))
  case atStart => exact ⟨0, q, by omega, rfl, rfl, fun j r s hj => by omega⟩
  case round =>
    obtain ⟨i, q, hig, rfl, rfl, hall⟩ := hrel
    cases gk with
    | zero =>
      obtain rfl : i = n := by omega
      have hi : ¬ (i : Int) < i := by omega
      have HX := Lib.hid (refines_of (HV.out.1.trans HV.out.2.1.symm) (HV.out.2.2.1.trans HV.out.2.2.2.symm) HE2.out (by have := HN.out; omega) (fun j r s h1 h2 => hall.out j r s (by have := (List.getElem?_eq_some_iff.1 h1).1; have := HN.out; omega) h1 h2))
      go_wp2_with fail
      go_ret
      exact ⟨true, rfl, fun _ => HX.out, below_drewN HB.out _⟩
    | succ g =>
      have hi : (i : Int) < n := by omega
      have hi2 : 0 ≤ (i : Int) ∧ (i : Int) < n := by omega
      have w5 : wrap64 ((i : Int) + 1) = (i : Int) + 1 := by have := HLIM.out; unfold wrap64; omega
      obtain ⟨r, hr⟩ : ∃ r, f.points[i]? = some r := ⟨_, List.getElem?_eq_getElem (by have := HN.out.1; omega)⟩
      obtain ⟨s, hs⟩ : ∃ r, t.points[i]? = some r := ⟨_, List.getElem?_eq_getElem (by have := HN.out.2; omega)⟩
      obtain ⟨b, o, R1, c3, rfl, -, -, gr1, hr1⟩ := HP.out.1.at hr
      obtain ⟨b', o', R2, c4, rfl, -, -, gr2, hs1⟩ := HP.out.2.at hs
      obtain ⟨l, hl⟩ : ∃ l, r.length = l := ⟨_, rfl⟩
      obtain ⟨l', hl'⟩ : ∃ l, s.length = l := ⟨_, rfl⟩
      rw [hl] at gr1 hr1
      rw [hl'] at gr2 hs1
      have HL : l ≤ 9223372036854775807 := by
        obtain ⟨_, _, e, h1, h2, _⟩ := hr1
        cases e
        unfold maxLen at h2
        omega
      have HR := Lib.hid (And.intro hr (And.intro hs (And.intro hl hl')))
      have HR1 := Lib.hid (And.intro hr1 hs1)
      have HLL := Lib.hid HL
      clear hr hs hl hl' hr1 hs1 HL
      by_cases hll : (l : Int) = l'
      rotate_left
      · have hne : ((l : Int) != l') = true := by simpa using hll
        go_upto_region 6 with fail
        go_region
        go_wp2_with fail
        go_ret
        exact ⟨false, rfl, (fun h => by cases h), below_drewN HB.out _⟩
      obtain rfl : l = l' := by omega
      clear hll
      go_upto_region 6 with fail
      go_region
      go_wp2_with fail
      go_loopg [6] l (fun g2 s6 wx => ∃ k q2 : Nat, k + g2 = l ∧ s6 = .int .i64 k ∧ wx = W.drewN q2 ∧ Aside (∀ (j : Nat) x y, j < k → r[j]? = some x → s[j]? = some y → y = -1 ∨ x = y))
      case atStart => exact ⟨0, q + 1, by omega, rfl, rfl, fun j x y hj => by omega⟩
      case round =>
        obtain ⟨k, q2, hkg, rfl, rfl, hin⟩ := hrel
        cases gk with
        | zero =>
          obtain rfl : k = l := by omega
          have hk : ¬ (k : Int) < k := by omega
          go_wp2_with fail
          go_roundg g
          case measure => omega
          case rel => exact ⟨i + 1, q2, by omega, by first | rfl | go_num, rfl, fun j r' s' hj hr' hs' => by
            by_cases e : j = i
            · subst e
              rw [HR.out.1] at hr'
              rw [HR.out.2.1] at hs'
              cases hr'
              cases hs'
              exact ⟨HR.out.2.2.1.trans HR.out.2.2.2.symm, fun k' x y hx hy => hin.out k' x y (by have := (List.getElem?_eq_some_iff.1 hx).1; have := HR.out.2.2.1; omega) hx hy⟩
            · exact hall.out j r' s' (by omega) hr' hs'⟩
        | succ g2 =>
          have hk : (k : Int) < l := by omega
          have hk2 : 0 ≤ (k : Int) ∧ (k : Int) < l := by omega
          have w6 : wrap64 ((k : Int) + 1) = (k : Int) + 1 := by have := HLL.out; unfold wrap64; omega
          obtain ⟨x, hx⟩ : ∃ x, r[k]? = some x := ⟨_, List.getElem?_eq_getElem (by have := HR.out.2.2.1; omega)⟩
          obtain ⟨y, hy⟩ : ∃ x, s[k]? = some x := ⟨_, List.getElem?_eq_getElem (by have := HR.out.2.2.2; omega)⟩
          obtain ⟨b4, o4, rfl, -, g4⟩ := HR1.out.1.at hx
          obtain ⟨b5, o5, rfl, -, g5⟩ := HR1.out.2.at hy
          have HXY := Lib.hid (And.intro hx hy)
          clear hx hy
          have fin : ∀ (h : y = -1 ∨ x = y) (j : Nat) (x' y' : Int), j < k + 1 → r[j]? = some x' → s[j]? = some y' → y' = -1 ∨ x' = y' := fun h j x' y' hj hx' hy' => by
            by_cases e : j = k
            · subst e
              rw [HXY.out.1] at hx'
              rw [HXY.out.2] at hy'
              cases hx'
              cases hy'
              exact h
            · exact hin.out j x' y' (by omega) hx' hy'
          have HFIN := Lib.hid fin
          clear fin
          by_cases h1 : y = -1
          · have hd : (y != -1) = false := by simpa using h1
            have hd2 : decide (y = -1) = true := by simpa using h1
            have HH := Lib.hid (HFIN.out (.inl h1))
            clear h1
            go_upto_region 11 with fail
            go_quiet (fail)
            go_wp2_with fail
            go_roundg g2
            case measure => omega
            case rel => exact ⟨k + 1, _, by omega, by first | rfl | go_num, rfl, fun j x' y' hj => HH.out j x' y' hj⟩
          · have hd : (y != -1) = true := by simpa using h1
            have hd2 : decide (y = -1) = false := by simpa using h1
            by_cases h2 : x = y
            · have HH := Lib.hid (HFIN.out (.inr h2))
              subst h2
              clear h1
              go_upto_region 11 with fail
              go_quiet (fail)
              go_wp2_with fail
              go_roundg g2
              case measure => omega
              case rel => exact ⟨k + 1, _, by omega, by first | rfl | go_num, rfl, fun j x' y' hj => HH.out j x' y' hj⟩
            · have hd3 : (x != y) = true := by simpa using h2
              clear h1
              go_upto_region 11 with fail
              go_quiet (fail)
              go_wp2_with fail
              go_ret
              exact ⟨false, rfl, (fun h => by cases h), below_drewN (below_drewN HB.out _) _⟩
end Go.Proofs.YtdolpmmnjndfkaaGreatDoor
