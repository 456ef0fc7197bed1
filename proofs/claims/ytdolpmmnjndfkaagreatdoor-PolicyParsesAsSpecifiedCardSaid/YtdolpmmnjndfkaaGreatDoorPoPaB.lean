/- Chapter 29, the walk: Depth; digit of the parser. -/
import Derived.Test.YtdolpmmnjndfkaaGreatDoorPoPaA
import Derived.Deep.LoopGhost
namespace Go.Proofs.YtdolpmmnjndfkaaGreatDoor
open Go.RowKit
theorem pa_digit (b : UInt8) (w : World) :
    Calls Tryz.prog 129 #[.int .u8 (b.toNat : Int)] w fun e w' => (match Po.hexd b with
      | some n => e = .returned (.int .u8 n)
      | none => Fails e) ∧ w' = w := by
  have hb := b.toNat_lt
  have HD := Lib.hid (show Po.hexd b = if 48 ≤ b.toNat ∧ b.toNat ≤ 57 then some (b.toNat - 48) else if 97 ≤ b.toNat ∧ b.toNat ≤ 102 then some (b.toNat - 87) else none by
    simp only [Po.hexd, Po.le_iff, UInt8.toNat_ofNat, Nat.reducePow, Nat.reduceMod, Bool.and_eq_true, decide_eq_true_eq])
  obtain ⟨n, hn⟩ : ∃ n, b.toNat = n := ⟨_, rfl⟩
  rw [hn] at HD hb ⊢
  clear hn
  unfold Fails failV
  have panics : ∀ _ : ¬ (48 ≤ n ∧ n ≤ 57), ∀ _ : ¬ (97 ≤ n ∧ n ≤ 102), Po.hexd b = none := fun a c => HD.out.trans ((if_neg a).trans (if_neg c))
  have HP := Lib.hid panics
  clear panics
  by_cases hA : 48 ≤ n ∧ n ≤ 57
  · have H := Lib.hid (HD.out.trans (if_pos hA))
    rw [H.out]
    have e1 : (48 : Int) ≤ n := by omega
    have e2 : (n : Int) ≤ 57 := by omega
    have H2 := Lib.hid hA
    clear HD HP hA hb H
    go_enter Tryz.func129, Tryz.ntmps129
    go_wp2_with fail
    go_ret
    refine ⟨ret_int ?_, rfl⟩
    have := H2.out
    first | omega | (unfold IntKind.wrap; simp [IntKind.bits, IntKind.signed]; omega)
  by_cases hB : 97 ≤ n ∧ n ≤ 102
  · have H := Lib.hid (HD.out.trans ((if_neg hA).trans (if_pos hB)))
    rw [H.out]
    have e1 : (48 : Int) ≤ n := by omega
    have e2 : ¬ (n : Int) ≤ 57 := by omega
    have e3 : (97 : Int) ≤ n := by omega
    have e4 : (n : Int) ≤ 102 := by omega
    have H2 := Lib.hid hB
    clear HD HP hA hB hb H
    go_enter Tryz.func129, Tryz.ntmps129
    go_wp2_with fail
    go_ret
    refine ⟨ret_int ?_, rfl⟩
    have := H2.out
    first | omega | (unfold IntKind.wrap; simp [IntKind.bits, IntKind.signed]; omega)
  have H := Lib.hid (HP.out hA hB)
  rw [H.out]
  clear HD HP H
  by_cases h1 : n < 48
  · have e1 : ¬ (48 : Int) ≤ n := by omega
    have e3 : ¬ (97 : Int) ≤ n := by omega
    clear hA hB hb h1
    go_enter Tryz.func129, Tryz.ntmps129
    go_wp2_with fail
    exact ⟨rfl, rfl, rfl⟩
  by_cases h2 : n < 97
  · have e1 : (48 : Int) ≤ n := by omega
    have e2 : ¬ (n : Int) ≤ 57 := by omega
    have e3 : ¬ (97 : Int) ≤ n := by omega
    clear hA hB hb h1 h2
    go_enter Tryz.func129, Tryz.ntmps129
    go_wp2_with fail
    exact ⟨rfl, rfl, rfl⟩
  · have e1 : (48 : Int) ≤ n := by omega
    have e2 : ¬ (n : Int) ≤ 57 := by omega
    have e3 : (97 : Int) ≤ n := by omega
    have e4 : ¬ (n : Int) ≤ 102 := by omega
    clear hA hB hb h1 h2
    go_enter Tryz.func129, Tryz.ntmps129
    go_wp2_with fail
    exact ⟨rfl, rfl, rfl⟩

theorem Po_depth_step (x : Po.Tok) (l : List Po.Tok) (n most : Int) : Po.depthF (x :: l) n most = Po.depthF l (if x.k = 3 then (if x.t = [40] then n + 1 else if x.t = [41] then n - 1 else n) else n) (max most (if x.k = 3 then (if x.t = [40] then n + 1 else if x.t = [41] then n - 1 else n) else n)) := rfl
theorem RToks.at {w : World} {B : Nat} {A : Option Addr} {n c : Nat} {l : List Po.Tok} (h : RToks w B (.slice A n c) l) {i : Nat} {x : Po.Tok} (hx : l[i]? = some x) :
    ∃ b o, A = some ⟨b, o, none⟩ ∧ b < B ∧ ∃ a : Int, w.cell? ⟨b, o + i * 4, none⟩ = some (.int .i64 x.k) ∧ w.cell? ⟨b, o + i * 4 + 1, none⟩ = some (.string ⟨x.t.toArray⟩) ∧ w.cell? ⟨b, o + i * 4 + 2, none⟩ = some (.int .i64 x.n) ∧ w.cell? ⟨b, o + i * 4 + 3, none⟩ = some (.int .i64 a) := by
  obtain ⟨A', c', h1, h2, h3, h4⟩ := h
  cases h1
  have hl : i < l.length := by
    rcases Nat.lt_or_ge i l.length with h | h
    · exact h
    · rw [List.getElem?_eq_none h] at hx; cases hx
  obtain ⟨b, o, hA, hlt, hc⟩ := h4 (by omega)
  obtain ⟨a, h⟩ := hc i x hx
  exact ⟨b, o, hA, hlt, a, h⟩
set_option maxRecDepth 1000000 in
theorem pa_depth (v : Value) (l : List Po.Tok) (w : World) (h : RToks w w.heap.size v l) (hl : l.length ≤ 100000) :
    Calls Tryz.prog 14 #[v] w fun e w' => e = .returned (.int .i64 (Po.depth l)) ∧ Below w.heap.size w w' := by
  obtain ⟨A, c, rfl, -, -⟩ := h.form
  have H := Lib.hid h
  obtain ⟨n, hn⟩ : ∃ n, l.length = n := ⟨_, rfl⟩
  have HN := Lib.hid hn
  rw [hn] at hl
  have HL := Lib.hid hl
  have hl2 : (n : Int) ≤ 100000 := by omega
  clear h hl hl2
  rw [HN.out]
  go_enter Tryz.func14, Tryz.ntmps14
  go_wp2_with fail
  go_loopg [3, 4, 9] n (fun g s3 s4 s9 wr => ∃ (i : Nat) (d m : Int), i + g = n ∧ s3 = .int .i64 d ∧ s4 = .int .i64 m ∧ s9 = .int .i64 i ∧ Aside (Po.depthF (l.drop i) d m = Po.depth l ∧ -(i : Int) ≤ d ∧ d ≤ i ∧ 0 ≤ m ∧ m ≤ i) ∧ Below w.heap.size w wr)
  case atStart => exact ⟨0, 0, 0, by omega, rfl, rfl, rfl, ⟨rfl, by omega, by omega, by omega, by omega⟩, Below.refl _ _⟩
  case round =>
    obtain ⟨i, d, m, hig, rfl, rfl, rfl, HA, hb⟩ := hrel
    cases gk with
    | zero =>
      have hi : ¬ (i : Int) < n := by omega
      have HX := Lib.hid (show m = Po.depth l by
        have h := HA.out.1
        rw [List.drop_eq_nil_of_le (by rw [HN.out]; omega)] at h
        exact h)
      go_wp2_with fail
      go_ret
      exact ⟨ret_int HX.out, hb⟩
    | succ g =>
      have hi : (i : Int) < n := by omega
      have hi2 : 0 ≤ (i : Int) ∧ (i : Int) < n := by omega
      obtain ⟨x, hx⟩ : ∃ x, l[i]? = some x := ⟨_, List.getElem?_eq_getElem (by rw [HN.out]; omega)⟩
      have hd : l.drop i = x :: l.drop (i + 1) := by
        have hlt : i < l.length := by rw [HN.out]; omega
        rw [List.drop_eq_getElem_cons hlt]
        rw [List.getElem?_eq_getElem hlt] at hx
        simp at hx
        rw [hx]
      have HX := Lib.hid (show Po.depthF (l.drop (i + 1)) (if x.k = 3 then (if x.t = [40] then d + 1 else if x.t = [41] then d - 1 else d) else d) (max m (if x.k = 3 then (if x.t = [40] then d + 1 else if x.t = [41] then d - 1 else d) else d)) = Po.depth l by
        rw [← HA.out.1, hd, Po_depth_step])
      have hcells := H.out.at hx
      rw [HN.out] at *
      obtain ⟨b, o, rfl, hbl, a, a0, a1, a2, a3⟩ := hcells
      have q0 : wr.cell? ⟨b, o + i * 4, none⟩ = some (.int .i64 x.k) := (hb.cell (p := ⟨b, _, none⟩) hbl).trans a0
      have q1 : wr.cell? ⟨b, o + i * 4 + 1, none⟩ = some (.string ⟨x.t.toArray⟩) := (hb.cell (p := ⟨b, _, none⟩) hbl).trans a1
      have q2 : wr.cell? ⟨b, o + i * 4 + 2, none⟩ = some (.int .i64 x.n) := (hb.cell (p := ⟨b, _, none⟩) hbl).trans a2
      have q3 : wr.cell? ⟨b, o + i * 4 + 3, none⟩ = some (.int .i64 a) := (hb.cell (p := ⟨b, _, none⟩) hbl).trans a3
      have w1 : wrap64 (d + 1) = d + 1 := by have := HA.out; have := HL.out; unfold wrap64; omega
      have w2 : wrap64 (d - 1) = d - 1 := by have := HA.out; have := HL.out; unfold wrap64; omega
      have w3 : wrap64 ((i : Int) + 1) = (i : Int) + 1 := by have := HL.out; unfold wrap64; omega
      clear hx hd a0 a1 a2 a3
      go_wp2_with fail
      · rename_i k1
        go_roundg g
        case measure => omega
        case rel =>
          refine ⟨i + 1, d, max m (d), by omega, rfl, rfl, by first | rfl | simp, ⟨?_, ?_, ?_, ?_, ?_⟩, hb.alloc hb.size _⟩
          · rw [← HX.out, if_neg (by simp at k1; omega)]
          all_goals (have := HA.out; omega)
      · rename_i k1 k2
        go_roundg g
        case measure => omega
        case rel =>
          refine ⟨i + 1, d + 1, max m (d + 1), by omega, rfl, rfl, by first | rfl | simp, ⟨?_, ?_, ?_, ?_, ?_⟩, hb.alloc hb.size _⟩
          · rw [← HX.out, if_pos (by simp at k1; omega), if_pos (by simpa using k2)]
          all_goals (have := HA.out; omega)
      · rename_i k1 k2 k3
        go_roundg g
        case measure => omega
        case rel =>
          refine ⟨i + 1, d - 1, max m (d - 1), by omega, rfl, rfl, by first | rfl | simp, ⟨?_, ?_, ?_, ?_, ?_⟩, hb.alloc hb.size _⟩
          · rw [← HX.out, if_pos (by simp at k1; omega), if_neg (by simpa using k2), if_pos (by simpa using k3)]
          all_goals (have := HA.out; omega)
      · rename_i k1 k2 k3
        go_roundg g
        case measure => omega
        case rel =>
          refine ⟨i + 1, d, max m (d), by omega, rfl, rfl, by first | rfl | simp, ⟨?_, ?_, ?_, ?_, ?_⟩, hb.alloc hb.size _⟩
          · rw [← HX.out, if_pos (by simp at k1; omega), if_neg (by simpa using k2), if_neg (by simpa using k3)]
          all_goals (have := HA.out; omega)
end Go.Proofs.YtdolpmmnjndfkaaGreatDoor
