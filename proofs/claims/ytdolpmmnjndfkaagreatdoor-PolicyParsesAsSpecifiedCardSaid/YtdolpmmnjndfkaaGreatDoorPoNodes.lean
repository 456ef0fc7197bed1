/- Chapter 29, plain: the parser lays no more nodes than it eats tokens. -/
import Derived.Test.YtdolpmmnjndfkaaGreatDoorPoPl
namespace Go.Proofs.YtdolpmmnjndfkaaGreatDoor
namespace Po
theorem P_nodes : ∀ (f lv : Nat) (l : List Tok) (o : List Nd) (l' : List Tok) (o' : List Nd), P f lv l o = some (some (l', o')) → o'.length + l'.length ≤ o.length + l.length
  | 0, _, _, _, _, _, h => by simp [P] at h
  | f + 1, lv, l, o, l', o', h => by
    have I := P_nodes f
    simp only [P] at h
    by_cases c0 : lv = 0
    · subst c0
      simp only [if_true] at h
      cases h1 : P f 1 l o with
      | none => simp [h1] at h
      | some r => cases r with
        | none => simp [h1] at h
        | some x =>
          obtain ⟨x1, x2⟩ := x
          simp only [h1] at h
          have a := I _ _ _ _ _ h1
          have b := I _ _ _ _ _ h
          simp at a b ⊢
          omega
    · simp only [if_neg c0] at h
      by_cases c1 : lv = 1
      · subst c1
        simp only [if_true] at h
        cases h1 : P f 2 l o with
        | none => simp [h1] at h
        | some r => cases r with
          | none => simp [h1] at h
          | some x =>
            obtain ⟨x1, x2⟩ := x
            simp only [h1] at h
            have a := I _ _ _ _ _ h1
            have b := I _ _ _ _ _ h
            simp at a b ⊢
            omega
      · simp only [if_neg c1] at h
        by_cases c3 : lv = 3
        · subst c3
          simp only [if_true] at h
          split at h
          · rename_i ht
            have := isT_len ht
            cases h1 : P f 1 l.tail o with
            | none => simp [h1] at h
            | some r => cases r with
              | none => simp [h1] at h
              | some x =>
                obtain ⟨x1, x2⟩ := x
                simp only [h1] at h
                have a := I _ _ _ _ _ h1
                have b := I _ _ _ _ _ h
                simp only [List.length_append, List.length_singleton] at a b ⊢
                omega
          · simp at h
            rw [h.1, h.2]; exact Nat.le_refl _
        · simp only [if_neg c3] at h
          by_cases c4 : lv = 4
          · subst c4
            simp only [if_true] at h
            split at h
            · rename_i ht
              have := isT_len ht
              cases h1 : P f 2 l.tail o with
              | none => simp [h1] at h
              | some r => cases r with
                | none => simp [h1] at h
                | some x =>
                  obtain ⟨x1, x2⟩ := x
                  simp only [h1] at h
                  have a := I _ _ _ _ _ h1
                  have b := I _ _ _ _ _ h
                  simp only [List.length_append, List.length_singleton] at a b ⊢
                  omega
            · simp at h
              rw [h.1, h.2]; exact Nat.le_refl _
          · simp only [if_neg c4] at h
            split at h
            · rename_i ht
              have := isT_len ht
              cases h1 : P f 2 l.tail o with
              | none => simp [h1] at h
              | some r => cases r with
                | none => simp [h1] at h
                | some x =>
                  obtain ⟨x1, x2⟩ := x
                  simp only [h1] at h
                  have a := I _ _ _ _ _ h1
                  simp at h
                  rw [← h.1, ← h.2]
                  simp only [List.length_append, List.length_singleton]
                  omega
            · split at h
              · rename_i ht
                have := isT_len ht
                cases h1 : P f 0 l.tail o with
                | none => simp [h1] at h
                | some r => cases r with
                  | none => simp [h1] at h
                  | some x =>
                    obtain ⟨x1, x2⟩ := x
                    simp only [h1] at h
                    have a := I _ _ _ _ _ h1
                    cases h2 : must 3 [41] x1 with
                    | none => simp [h2] at h
                    | some y =>
                      obtain ⟨y, r2⟩ := y
                      have := must_len h2
                      simp [h2] at h
                      rw [← h.1, ← h.2]; omega
              · cases h2 : atom l with
                | none => simp [h2] at h
                | some y =>
                  obtain ⟨y, r2⟩ := y
                  have := atom_len h2
                  simp [h2] at h
                  rw [← h.1, ← h.2]
                  simp only [List.length_append, List.length_singleton]
                  omega
/-- what follows a run -/
def bindP (r : Option (Option (List Tok × List Nd))) (g : List Tok × List Nd → Option (Option (List Tok × List Nd))) : Option (Option (List Tok × List Nd)) := match r with
  | some (some x) => g x
  | r => r
theorem P_bang {f : Nat} {l : List Tok} {o : List Nd} (hb : isT l 3 [33] = true) : P (f + 1) 2 l o = bindP (P f 2 l.tail o) fun x => some (some (x.1, x.2 ++ [⟨8, 0, 0, 0, zero16, [x.2.length - 1]⟩])) := by
  simp only [P]
  rw [if_neg (by decide), if_neg (by decide), if_neg (by decide), if_neg (by decide), if_pos hb]
  rfl
theorem P_paren {f : Nat} {l : List Tok} {o : List Nd} (hb : isT l 3 [33] = false) (hc : isT l 3 [40] = true) : P (f + 1) 2 l o = bindP (P f 0 l.tail o) fun x => some ((must 3 [41] x.1).map fun y => (y.2, x.2)) := by
  simp only [P]
  rw [if_neg (by decide), if_neg (by decide), if_neg (by decide), if_neg (by decide), if_neg (by rw [hb]; decide), if_pos hc]
  rfl
theorem P_atom {f : Nat} {l : List Tok} {o : List Nd} (hb : isT l 3 [33] = false) (hc : isT l 3 [40] = false) : P (f + 1) 2 l o = some ((atom l).map fun x => (x.2, o ++ [x.1])) := by
  simp only [P]
  rw [if_neg (by decide), if_neg (by decide), if_neg (by decide), if_neg (by decide), if_neg (by rw [hb]; decide), if_neg (by rw [hc]; decide)]
theorem P_or {f : Nat} {l : List Tok} {o : List Nd} : P (f + 1) 0 l o = bindP (P f 1 l o) fun x => P f 3 x.1 x.2 := by
  simp only [P]
  rw [if_pos (by first | trivial | rfl)]
  rfl
theorem P_and {f : Nat} {l : List Tok} {o : List Nd} : P (f + 1) 1 l o = bindP (P f 2 l o) fun x => P f 4 x.1 x.2 := by
  simp only [P]
  rw [if_neg (by decide), if_pos (by first | trivial | rfl)]
  rfl
theorem P_more3 {f : Nat} {l : List Tok} {o : List Nd} (h : isT l 3 [124, 124] = true) : P (f + 1) 3 l o = bindP (P f 1 l.tail o) fun x => P f 3 x.1 (x.2 ++ [⟨10, 0, 0, 0, zero16, [o.length - 1, x.2.length - 1]⟩]) := by
  simp only [P]
  rw [if_neg (by decide), if_neg (by decide), if_pos (by first | trivial | rfl), if_pos h]
  rfl
theorem P_more4 {f : Nat} {l : List Tok} {o : List Nd} (h : isT l 3 [38, 38] = true) : P (f + 1) 4 l o = bindP (P f 2 l.tail o) fun x => P f 4 x.1 (x.2 ++ [⟨9, 0, 0, 0, zero16, [o.length - 1, x.2.length - 1]⟩]) := by
  simp only [P]
  rw [if_neg (by decide), if_neg (by decide), if_neg (by decide), if_pos (by first | trivial | rfl), if_pos h]
  rfl
theorem P_stop3 {f : Nat} {l : List Tok} {o : List Nd} (h : isT l 3 [124, 124] = false) : P (f + 1) 3 l o = some (some (l, o)) := by
  simp only [P]
  rw [if_neg (by decide), if_neg (by decide), if_pos (by first | trivial | rfl), if_neg (by rw [h]; decide)]
theorem P_stop4 {f : Nat} {l : List Tok} {o : List Nd} (h : isT l 3 [38, 38] = false) : P (f + 1) 4 l o = some (some (l, o)) := by
  simp only [P]
  rw [if_neg (by decide), if_neg (by decide), if_neg (by decide), if_pos (by first | trivial | rfl), if_neg (by rw [h]; decide)]
theorem compare_of {a b : Nat} {l r : List Tok} {x : Nd} (h : compare a b l = some (x, r)) : x.of = [] := by
  unfold compare at h
  split at h
  · simp only [Option.map_eq_some_iff] at h
    obtain ⟨y, _, h⟩ := h
    simp only [Prod.mk.injEq] at h
    rw [← h.1]
  · simp only [Option.bind_eq_some_iff, Option.map_eq_some_iff] at h
    obtain ⟨z, _, y, _, h⟩ := h
    simp only [Prod.mk.injEq] at h
    rw [← h.1]
theorem atom_of {l r : List Tok} {x : Nd} (h : atom l = some (x, r)) : x.of = [] := by
  unfold atom at h
  simp only [Option.bind_eq_some_iff] at h
  obtain ⟨a, _, h⟩ := h
  split at h
  · simp only [Option.some.injEq, Prod.mk.injEq] at h; rw [← h.1]
  · split at h
    · exact compare_of h
    · split at h
      · exact compare_of h
      · split at h
        · simp only [Option.bind_eq_some_iff, Option.map_eq_some_iff] at h
          obtain ⟨b, _, c, _, d, _, h⟩ := h
          simp only [Prod.mk.injEq] at h
          rw [← h.1]
        · split at h
          · simp only [Option.bind_eq_some_iff] at h
            obtain ⟨b, _, c, _, d, _, h⟩ := h
            split at h
            · simp only [Option.some.injEq, Prod.mk.injEq] at h; rw [← h.1]
            · simp only [Option.map_eq_some_iff] at h
              obtain ⟨u, _, h⟩ := h
              simp only [Prod.mk.injEq] at h
              rw [← h.1]
          · cases h
theorem ok_not {i a : Nat} (h : a < i) : OkNd i ⟨8, 0, 0, 0, zero16, [a]⟩ :=
  ⟨by simp only; omega, by simp only; omega, by simp only; omega, by simp only; omega, fun h => by simp at h, by simp only; omega, rfl, zero16_lt, fun h => by simp at h, fun _ => ⟨a, rfl, h⟩, fun h => by simp at h⟩
theorem ok_bin {i k a b : Nat} (hk : k = 9 ∨ k = 10) (ha : a < i) (hb : b < i) : OkNd i ⟨k, 0, 0, 0, zero16, [a, b]⟩ := by
  rcases hk with rfl | rfl
  · exact ⟨by simp only; omega, by simp only; omega, by simp only; omega, by simp only; omega, fun h => by simp at h, by simp only; omega, rfl, zero16_lt, fun h => by simp at h, fun h => by simp at h, fun _ => ⟨a, b, rfl, ha, hb⟩⟩
  · exact ⟨by simp only; omega, by simp only; omega, by simp only; omega, by simp only; omega, fun h => by simp at h, by simp only; omega, rfl, zero16_lt, fun h => by simp at h, fun h => by simp at h, fun _ => ⟨a, b, rfl, ha, hb⟩⟩
end Po
end Go.Proofs.YtdolpmmnjndfkaaGreatDoor
