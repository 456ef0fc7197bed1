/- Chapter 29, plain: one round of the lexer. -/
import Derived.Test.YtdolpmmnjndfkaaGreatDoorPoTok
namespace Go.Proofs.YtdolpmmnjndfkaaGreatDoor
namespace Po
def LexRel (T : List UInt8) (g : Nat) (ks : List (Tok × Nat)) : Prop :=
  lex T = (lexF g (T.drop (endPos ks))).map (ks.map (·.1) ++ ·) ∧ endPos ks ≤ T.length ∧ T.length < endPos ks + g ∧ ks.length ≤ endPos ks
theorem LexRel.start (T : List UInt8) : LexRel T (T.length + 1) [] := by
  refine ⟨?_, Nat.zero_le _, by simp [endPos], Nat.zero_le _⟩
  simp [lex, endPos]
theorem LexRel.pos {T : List UInt8} {g : Nat} {ks : List (Tok × Nat)} (h : LexRel T g ks) : g ≠ 0 := by
  intro e
  have := h.2.1; have := h.2.2.1
  omega
theorem LexRel.stop {T : List UInt8} {g : Nat} {ks : List (Tok × Nat)} (h : LexRel T (g + 1) ks) (hs : (T.drop (endPos ks)).dropWhile blank = []) : lex T = some (ks.map (·.1)) := by
  rw [h.1, lexF, hs]
  simp
theorem LexRel.fail {T : List UInt8} {g : Nat} {ks : List (Tok × Nat)} {c : UInt8} {r : List UInt8} (h : LexRel T (g + 1) ks) (hs : (T.drop (endPos ks)).dropWhile blank = c :: r) (hn : next (c :: r) = none) : lex T = none := by
  rw [h.1, lexF, hs]
  simp [hn]
theorem find_op {s : List UInt8} : ∀ {os : List (List UInt8)} {w : List UInt8}, os.find? (fun w => w.isPrefixOf s) = some w → w ∈ os ∧ w.isPrefixOf s = true := by
  intro os w h
  exact ⟨List.mem_of_find?_eq_some h, by simpa using List.find?_some h⟩
theorem next_len {s : List UInt8} {t : Tok} (h : next s = some t) : 1 ≤ t.t.length ∧ t.t.length ≤ s.length := by
  cases s with
  | nil => simp [next] at h
  | cons c s =>
    simp only [next] at h
    have tw : ∀ p : UInt8 → Bool, p c = true → 1 ≤ ((c :: s).takeWhile p).length ∧ ((c :: s).takeWhile p).length ≤ (c :: s).length := by
      intro p hp
      refine ⟨by simp [List.takeWhile, hp], (List.takeWhile_prefix p).length_le⟩
    split at h
    · rename_i hl
      split at h
      · cases h
      · simp at h; rw [← h]; exact tw word (by simp [word, hl])
    · split at h
      · rename_i hd
        split at h
        · simp at h; rw [← h]; exact tw digit hd
        · cases h
      · simp only [Option.map_eq_some_iff] at h
        obtain ⟨w, hw, rfl⟩ := h
        obtain ⟨hm, hp⟩ := find_op hw
        refine ⟨?_, (List.isPrefixOf_iff_prefix.1 hp).length_le⟩
        have : ∀ w ∈ ops, 1 ≤ w.length := by decide
        exact this w hm
theorem dropWhile_eq_drop {α : Type} (p : α → Bool) (l : List α) : l.dropWhile p = l.drop (l.length - (l.dropWhile p).length) := by
  induction l with
  | nil => rfl
  | cons x l ih =>
    by_cases h : p x
    · simp only [List.dropWhile, h]
      have := (List.dropWhile_suffix (l := l) p).length_le
      rw [List.length_cons, Nat.succ_sub this, List.drop_succ_cons]
      exact ih
    · simp [List.dropWhile, h]
theorem LexRel.step {T : List UInt8} {g : Nat} {ks : List (Tok × Nat)} {c : UInt8} {r : List UInt8} {t : Tok} (h : LexRel T (g + 1) ks) (hs : (T.drop (endPos ks)).dropWhile blank = c :: r) (hn : next (c :: r) = some t) :
    LexRel T g (ks ++ [(t, T.length - (c :: r).length)]) := by
  obtain ⟨h1, h2, h3, h4⟩ := h
  have hl := next_len hn
  have hd := dropWhile_eq_drop blank (T.drop (endPos ks))
  have hle : (c :: r).length ≤ T.length - endPos ks := by
    rw [← hs, ← List.length_drop]
    exact (List.dropWhile_suffix blank).length_le
  rw [hs, List.length_drop, List.drop_drop] at hd
  have hpos : endPos ks + (T.length - endPos ks - (c :: r).length) = T.length - (c :: r).length := by omega
  rw [hpos] at hd
  have he : endPos (ks ++ [(t, T.length - (c :: r).length)]) = T.length - (c :: r).length + t.t.length := endPos_snoc _ _
  refine ⟨?_, by rw [he]; omega, by rw [he]; omega, by rw [he]; simp only [List.length_append, List.length_singleton]; omega⟩
  rw [h1, lexF, hs, he, ← List.drop_drop, ← hd]
  simp only [hn]
  rw [Option.map_map]
  congr 1
  funext l
  simp
theorem LexRel.len {T : List UInt8} {g : Nat} {ks : List (Tok × Nat)} (h : LexRel T g ks) : endPos ks ≤ T.length := h.2.1
theorem LexRel.count {T : List UInt8} {g : Nat} {ks : List (Tok × Nat)} (h : LexRel T g ks) : ks.length ≤ T.length := Nat.le_trans h.2.2.2 h.2.1
theorem find_at {s : List UInt8} : ∀ {os : List (List UInt8)} {i : Nat} {w : List UInt8}, (∀ j, j < i → ∃ v, os[j]? = some v ∧ v.isPrefixOf s = false) → os[i]? = some w → w.isPrefixOf s = true → os.find? (fun w => w.isPrefixOf s) = some w
  | [], i, w, _, h, _ => by simp at h
  | o :: os, 0, w, _, h, hp => by simp at h; subst h; simp [hp]
  | o :: os, i + 1, w, ha, h, hp => by
    obtain ⟨v, hv, hq⟩ := ha 0 (by omega)
    simp at hv
    subst hv
    rw [List.find?_cons, hq]
    exact find_at (i := i) (fun j hj => by obtain ⟨v, hv, hq⟩ := ha (j + 1) (by omega); exact ⟨v, by simpa using hv, hq⟩) (by simpa using h) hp
theorem find_no {s : List UInt8} {os : List (List UInt8)} (h : ∀ j, j < os.length → ∃ v, os[j]? = some v ∧ v.isPrefixOf s = false) : os.find? (fun w => w.isPrefixOf s) = none := by
  rw [List.find?_eq_none]
  intro x hx
  obtain ⟨j, hj, rfl⟩ := List.getElem_of_mem hx
  obtain ⟨v, hv, hq⟩ := h j hj
  rw [List.getElem?_eq_getElem hj] at hv
  simp at hv
  rw [hv, hq]
  simp
theorem next_sign {c : UInt8} {r : List UInt8} (h1 : letter c = false) (h2 : digit c = false) : next (c :: r) = (ops.find? fun w => w.isPrefixOf (c :: r)).map fun w => ⟨3, w, 0⟩ := by
  simp [next, h1, h2]
theorem ops_len : ops.length = 15 := rfl
end Po
end Go.Proofs.YtdolpmmnjndfkaaGreatDoor
