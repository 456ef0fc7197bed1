/- Chapter 29, the walk: Valid of the reference. -/
import Derived.Test.YtdolpmmnjndfkaaGreatDoorPoPt
namespace Go.Proofs.YtdolpmmnjndfkaaGreatDoor
open Go.RowKit
def VF (f : Po.Facts) : Prop := f.stages.length ≤ 10 ∧ f.points.length ≤ 10 ∧ ∀ r ∈ f.points, r.length ≤ 20 ∧ ∀ y ∈ r, -1 ≤ y ∧ y ≤ 3
instance (f : Po.Facts) : Decidable (VF f) := by unfold VF; infer_instance
theorem VF.val {f : Po.Facts} (h : VF f) : ValidF f := fun r hr y hy => (h.2.2 r hr).2 y hy
theorem vf_false {f : Po.Facts} (h : ¬ VF f) : decide (VF f) = false := by simpa using h
theorem RDigs.form {w : World} {B : Nat} {v : Value} {ds : List (List Nat)} (h : RDigs w B v ds) : ∃ A c, v = .slice A ds.length c ∧ ds.length ≤ c ∧ c ≤ maxLen := by
  obtain ⟨A, c, h1, h2, h3, _⟩ := h
  exact ⟨A, c, h1, h2, h3⟩
theorem RInt2.form {w : World} {B : Nat} {v : Value} {rs : List (List Int)} (h : RInt2 w B v rs) : ∃ A c, v = .slice A rs.length c ∧ rs.length ≤ c ∧ c ≤ maxLen := by
  obtain ⟨A, c, h1, h2, h3, _⟩ := h
  exact ⟨A, c, h1, h2, h3⟩
set_option maxRecDepth 1000000 in
set_option maxHeartbeats 4000000 in
theorem ref_valid (vf : Value) (f : Po.Facts) (w : World) (hf : RFacts w w.heap.size vf f) :
    Calls Tryz.prog 21 #[vf] w fun e w' => e = .returned (.bool (decide (VF f))) ∧ Below w.heap.size w w' := by
  obtain ⟨vs, vp, rfl, hs, hp⟩ := hf
  obtain ⟨A1, c1, rfl, -, hm1⟩ := hs.form
  obtain ⟨A2, c2, rfl, hl2, hm2⟩ := hp.form
  obtain ⟨n, hn⟩ : ∃ n, f.stages.length = n := ⟨_, rfl⟩
  obtain ⟨m, hm⟩ : ∃ m, f.points.length = m := ⟨_, rfl⟩
  have HN := Lib.hid (And.intro hn hm)
  rw [hn, hm]
  rw [hm] at hl2
  obtain ⟨W, hW⟩ : ∃ W, w.alloc (.cells #[.int .i64 f.version, .int .i64 f.epoch, .slice A1 n c1, .slice A2 m c2] 42) = W := ⟨_, rfl⟩
  obtain ⟨b1, hB, hsz⟩ := one_box W hW
  have e2 := cell_of_row _ _ 2 _ _ _ b1
  have e3 := cell_of_row _ _ 3 _ _ _ b1
  simp only [List.getElem?_toArray, List.getElem?_cons_zero, List.getElem?_cons_succ] at e2 e3
  have hpW := hp.below hB
  rw [hm] at hpW
  have HP := Lib.hid hpW
  have HB := Lib.hid hB
  unfold maxLen at hm2
  have hm3 : (m : Int) ≤ 9223372036854775807 := by omega
  clear hs hp hn hm hpW hB b1 hsz hm1 hm2 hl2
  have hVF : Hid (VF f ↔ n ≤ 10 ∧ m ≤ 10 ∧ ∀ r ∈ f.points, r.length ≤ 20 ∧ ∀ y ∈ r, -1 ≤ y ∧ y ≤ 3) := Lib.hid (by unfold VF; rw [HN.out.1, HN.out.2])
  by_cases h1 : (10 : Int) < n
  · have HX := Lib.hid (vf_false (f := f) (by rw [hVF.out]; omega))
    go_enter Tryz.func21, Tryz.ntmps21
    go_wp2_with fail
    go_ret
    exact ⟨ret_bool HX.out.symm, HB.out⟩
  by_cases h2 : (10 : Int) < m
  · have HX := Lib.hid (vf_false (f := f) (by rw [hVF.out]; omega))
    go_enter Tryz.func21, Tryz.ntmps21
    go_wp2_with fail
    go_ret
    exact ⟨ret_bool HX.out.symm, HB.out⟩
  go_enter Tryz.func21, Tryz.ntmps21
  go_wp2_with fail
  clear hW
  go_loopg [3] m (fun g s3 wr => ∃ i : Nat, i + g = m ∧ s3 = .int .i64 i ∧ wr = W ∧ Aside (∀ j r, j < i → f.points[j]? = some r → r.length ≤ 20 ∧ ∀ y ∈ r, -1 ≤ y ∧ y ≤ 3))
  case atStart => exact ⟨0, by omega, rfl, rfl, fun j r hj => by omega⟩
  case round =>
    obtain ⟨i, hig, rfl, rfl, hall⟩ := hrel
    cases gk with
    | zero =>
      obtain rfl : i = m := by omega
      have hi : ¬ (i : Int) < i := by omega
      have HX := Lib.hid (show decide (VF f) = true by
        rw [decide_eq_true_iff, hVF.out]
        refine ⟨by omega, by omega, fun r hr => ?_⟩
        obtain ⟨j, hj, rfl⟩ := List.getElem_of_mem hr
        exact hall.out j _ (by have := HN.out.2; omega) (List.getElem?_eq_getElem hj))
      go_wp2_with fail
      go_ret
      exact ⟨ret_bool HX.out.symm, HB.out⟩
    | succ g =>
      have hi : (i : Int) < m := by omega
      have hi2 : 0 ≤ (i : Int) ∧ (i : Int) < m := by omega
      obtain ⟨r, hr⟩ : ∃ r, f.points[i]? = some r := ⟨_, List.getElem?_eq_getElem (by have := HN.out.2; omega)⟩
      obtain ⟨b, o, A3, c3, rfl, -, -, g0, hr1⟩ := HP.out.at hr
      obtain ⟨l, hl⟩ : ∃ l, r.length = l := ⟨_, rfl⟩
      have HR := Lib.hid (And.intro hr (And.intro hl (List.mem_of_getElem? hr)))
      rw [hl] at g0 hr1
      have HR1 := Lib.hid hr1
      clear hr hl hr1
      by_cases h3 : (20 : Int) < l
      · have HX := Lib.hid (vf_false (f := f) (by rw [hVF.out]; intro h; have := (h.2.2 r HR.out.2.2).1; have := HR.out.2.1; omega))
        go_wp2_with fail
        go_ret
        exact ⟨ret_bool HX.out.symm, HB.out⟩
      · have w3 : wrap64 ((i : Int) + 1) = (i : Int) + 1 := by unfold wrap64; omega
        go_wp2_with fail
        go_loopg [4] l (fun g2 s4 wx => ∃ k : Nat, k + g2 = l ∧ s4 = .int .i64 k ∧ wx = wr ∧ Aside (∀ j y, j < k → r[j]? = some y → -1 ≤ y ∧ y ≤ 3))
        case atStart => exact ⟨0, by omega, rfl, rfl, fun j y hj => by omega⟩
        case round =>
          obtain ⟨k, hkg, rfl, rfl, hin⟩ := hrel
          cases gk with
          | zero =>
            obtain rfl : k = l := by omega
            have hk : ¬ (k : Int) < k := by omega
            go_wp2_with fail
            go_roundg g
            case measure => omega
            case rel => exact ⟨i + 1, by omega, by first | rfl | go_num, rfl, fun j r' hj hr' => by
              by_cases e : j = i
              · subst e
                rw [HR.out.1] at hr'
                simp only [Option.some.injEq] at hr'
                subst hr'
                refine ⟨by have := HR.out.2.1; omega, fun y hy => ?_⟩
                obtain ⟨q, hq, rfl⟩ := List.getElem_of_mem hy
                exact hin.out q _ (by have := HR.out.2.1; omega) (List.getElem?_eq_getElem hq)
              · exact hall.out j r' (by omega) hr'⟩
          | succ g2 =>
            have hk : (k : Int) < l := by omega
            have hk2 : 0 ≤ (k : Int) ∧ (k : Int) < l := by omega
            obtain ⟨y, hy⟩ : ∃ y, r[k]? = some y := ⟨_, List.getElem?_eq_getElem (by have := HR.out.2.1; omega)⟩
            obtain ⟨b4, o4, rfl, -, g4⟩ := HR1.out.at hy
            have hmem := List.mem_of_getElem? hy
            have HY := Lib.hid (And.intro hy hmem)
            clear hy hmem
            by_cases h5 : y < -1
            · have HX := Lib.hid (vf_false (f := f) (by rw [hVF.out]; intro h; have := (h.2.2 r HR.out.2.2).2 y HY.out.2; omega))
              go_wp2_with fail
              go_ret
              exact ⟨ret_bool HX.out.symm, HB.out⟩
            · by_cases h6 : 3 < y
              · have HX := Lib.hid (vf_false (f := f) (by rw [hVF.out]; intro h; have := (h.2.2 r HR.out.2.2).2 y HY.out.2; omega))
                go_wp2_with fail
                go_ret
                exact ⟨ret_bool HX.out.symm, HB.out⟩
              · have w4 : wrap64 ((k : Int) + 1) = (k : Int) + 1 := by unfold wrap64; omega
                go_wp2_with fail
                go_roundg g2
                case measure => omega
                case rel => exact ⟨k + 1, by omega, by first | rfl | go_num, rfl, fun j y' hj hy' => by
                  by_cases e : j = k
                  · subst e
                    rw [HY.out.1] at hy'
                    simp only [Option.some.injEq] at hy'
                    omega
                  · exact hin.out j y' (by omega) hy'⟩
theorem valid_t {vf : Value} {f : Po.Facts} {w : World} (h : VF f) (hf : RFacts w w.heap.size vf f) : Calls Tryz.prog 21 #[vf] w fun e w' => e = .returned (.bool true) ∧ Below w.heap.size w w' := by
  have := ref_valid vf f w hf
  rw [show decide (VF f) = true by simpa using h] at this
  exact this
theorem valid_f {vf : Value} {f : Po.Facts} {w : World} (h : ¬ VF f) (hf : RFacts w w.heap.size vf f) : Calls Tryz.prog 21 #[vf] w fun e w' => e = .returned (.bool false) ∧ Below w.heap.size w w' := by
  have := ref_valid vf f w hf
  rw [vf_false h] at this
  exact this
end Go.Proofs.YtdolpmmnjndfkaaGreatDoor
