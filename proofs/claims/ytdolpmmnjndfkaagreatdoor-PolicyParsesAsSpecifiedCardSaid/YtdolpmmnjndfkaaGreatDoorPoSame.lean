/- Chapter 29, the walk: Ints and Same of the references. -/
import Derived.Test.YtdolpmmnjndfkaaGreatDoorPoPt
namespace Go.Proofs.YtdolpmmnjndfkaaGreatDoor
open Go.RowKit
theorem RInt1.form {w : World} {B : Nat} {v : Value} {xs : List Int} (h : RInt1 w B v xs) : ∃ A c, v = .slice A xs.length c ∧ xs.length ≤ c ∧ c ≤ maxLen := by
  obtain ⟨A, c, h1, h2, h3, _⟩ := h
  exact ⟨A, c, h1, h2, h3⟩
theorem OfAt.ints {w : World} {L B : Nat} {u : Value} {xs : List Nat} (h : OfAt w L B u xs) : RInt1 w B u (xs.map fun (x : Nat) => (x : Int)) := by
  rcases h with ⟨rfl, rfl⟩ | ⟨b, cap, rfl, -, hb, hc, hm, hx⟩
  · exact ⟨none, 0, rfl, Nat.le_refl _, by simp [maxLen], fun h => by simp at h⟩
  · refine ⟨some ⟨b, 0, none⟩, cap, by simp, by simpa using hc, hm, fun _ => ⟨b, 0, rfl, hb, fun i x hi => ?_⟩⟩
    rw [List.getElem?_map] at hi
    obtain ⟨y, hy, rfl⟩ := Option.map_eq_some_iff.1 hi
    rw [Nat.zero_add]
    exact hx i y hy
theorem ints_inj {xs ys : List Nat} : decide (xs.map (fun (x : Nat) => (x : Int)) = ys.map fun (x : Nat) => (x : Int)) = decide (xs = ys) := by
  rw [decide_eq_decide]
  constructor
  · intro h
    apply List.ext_getElem?
    intro i
    have := congrArg (fun l : List Int => l[i]?) h
    simp only [List.getElem?_map] at this
    cases hx : xs[i]? <;> cases hy : ys[i]? <;> simp [hx, hy] at this ⊢
    omega
  · rintro rfl; rfl
set_option maxRecDepth 1000000 in
set_option maxHeartbeats 1000000 in
theorem ref_ints (v1 v2 : Value) (ps qs : List Int) (w : World) (h1 : RInt1 w w.heap.size v1 ps) (h2 : RInt1 w w.heap.size v2 qs) :
    Calls Tryz.prog 31 #[v1, v2] w fun e w' => e = .returned (.bool (decide (ps = qs))) ∧ ∃ n, w' = w.drewN n := by
  obtain ⟨A1, c1, rfl, hl1, hm1⟩ := h1.form
  obtain ⟨A2, c2, rfl, hl2, hm2⟩ := h2.form
  have H := Lib.hid (And.intro h1 h2)
  clear h1 h2
  obtain ⟨n, hn⟩ : ∃ n, ps.length = n := ⟨_, rfl⟩
  obtain ⟨m, hm⟩ : ∃ m, qs.length = m := ⟨_, rfl⟩
  have HN := Lib.hid (And.intro hn hm)
  rw [hn] at hl1 ⊢
  rw [hm] at hl2 ⊢
  unfold maxLen at hm1 hm2
  have hnm : (n : Int) ≤ 9223372036854775807 := by omega
  have hlim : n ≤ 9223372036854775807 := by omega
  have HLIM := Lib.hid hlim
  clear hn hm hm1 hm2 hl1 hl2 hnm hlim
  by_cases hnm : (n : Int) = m
  · obtain rfl : n = m := by omega
    clear hnm
    go_enter Tryz.func31, Tryz.ntmps31
    go_wp2_with fail
    go_loopg [5] n (fun g s5 wr => ∃ i q : Nat, i + g = n ∧ s5 = .int .i64 i ∧ wr = w.drewN q ∧ Aside (∀ j, j < i → ps[j]? = qs[j]?))
    case atStart => exact ⟨0, 0, by omega, rfl, rfl, fun j hj => by omega⟩
    case round =>
      obtain ⟨i, q, hig, rfl, rfl, hall⟩ := hrel
      cases gk with
      | zero =>
        obtain rfl : i = n := by omega
        have hX := Lib.hid (show decide (ps = qs) = true by
          rw [decide_eq_true_iff]
          apply List.ext_getElem?
          intro j
          by_cases hj : j < i
          · exact hall.out j hj
          · rw [List.getElem?_eq_none (by have := HN.out.1; omega), List.getElem?_eq_none (by have := HN.out.2; omega)])
        have hi : ¬ (i : Int) < i := by omega
        go_wp2_with fail
        go_ret
        exact ⟨ret_bool hX.out.symm, q, rfl⟩
      | succ g =>
        obtain ⟨p, hp⟩ : ∃ p, ps[i]? = some p := ⟨_, List.getElem?_eq_getElem (by have := HN.out.1; omega)⟩
        obtain ⟨r, hr⟩ : ∃ r, qs[i]? = some r := ⟨_, List.getElem?_eq_getElem (by have := HN.out.2; omega)⟩
        obtain ⟨b1, o1, rfl, -, a0⟩ := H.out.1.at hp
        obtain ⟨b2, o2, rfl, -, y0⟩ := H.out.2.at hr
        have hi : (i : Int) < n := by omega
        have hi2 : 0 ≤ (i : Int) ∧ (i : Int) < n := by omega
        have w3 : wrap64 ((i : Int) + 1) = (i : Int) + 1 := by have := HLIM.out; unfold wrap64; omega
        have HPR := Lib.hid (And.intro hp hr)
        clear hp hr
        by_cases e : p = r
        · subst e
          go_upto_region 6 with fail
          go_region
          go_wp2_with fail
          go_roundg g
          case measure => omega
          case rel => exact ⟨i + 1, q + 1, by omega, by first | rfl | go_num, rfl, fun j hj => by
            by_cases e : j = i
            · subst e; rw [HPR.out.1, HPR.out.2]
            · exact hall.out j (by omega)⟩
        · have he : (p == r) = false := by simpa using e
          have HX := Lib.hid (list_ne HPR.out.1 HPR.out.2 e)
          go_upto_region 6 with fail
          go_region
          go_wp2_with fail
          go_ret
          exact ⟨ret_bool HX.out.symm, q + 1, rfl⟩
  · have HX := Lib.hid (show decide (ps = qs) = false by
      rw [decide_eq_false_iff_not]
      rintro rfl
      exact hnm (by have := HN.out; omega))
    go_enter Tryz.func31, Tryz.ntmps31
    go_wp2_with fail
    go_ret
    exact ⟨ret_bool HX.out.symm, 0, rfl⟩
end Go.Proofs.YtdolpmmnjndfkaaGreatDoor
