/- Chapter 29, plain: the tokens of a text: few, and their numbers small. -/
import Derived.Test.YtdolpmmnjndfkaaGreatDoorPoLexStep
import Derived.Test.YtdolpmmnjndfkaaGreatDoorPoPl
namespace Go.Proofs.YtdolpmmnjndfkaaGreatDoor
namespace Po
theorem next_ok {s : List UInt8} {t : Tok} (h : next s = some t) : t.n < 65536 := by
  cases s with
  | nil => simp [next] at h
  | cons c s =>
    simp only [next] at h
    split at h
    · split at h
      · cases h
      · simp at h; rw [← h]; simp only; omega
    · split at h
      · split at h
        · rename_i hn
          simp only [numOK, Bool.and_eq_true, decide_eq_true_eq] at hn
          simp at h
          rw [← h]
          exact hn.1.2
        · cases h
      · simp only [Option.map_eq_some_iff] at h
        obtain ⟨w, hw, rfl⟩ := h
        simp only
        omega
theorem lexF_ok : ∀ (f : Nat) (s : List UInt8) (l : List Tok), lexF f s = some l → OkToks l ∧ l.length ≤ s.length
  | 0, s, l, h => by simp [lexF] at h; subst h; exact ⟨fun x hx => by simp at hx, by simp⟩
  | f + 1, s, l, h => by
    have hd := (List.dropWhile_suffix (l := s) blank).length_le
    simp only [lexF] at h
    cases hs : s.dropWhile blank with
    | nil => rw [hs] at h; simp at h; subst h; exact ⟨fun x hx => by simp at hx, by simp⟩
    | cons c r =>
      rw [hs] at h
      simp only at h
      cases hn : next (c :: r) with
      | none => rw [hn] at h; cases h
      | some t =>
        rw [hn] at h
        simp only [Option.map_eq_some_iff] at h
        obtain ⟨m, hm, rfl⟩ := h
        have I := lexF_ok f _ m hm
        have hl := next_len hn
        rw [hs] at hd
        rw [List.length_drop] at I
        refine ⟨fun x hx => ?_, by simp only [List.length_cons] at hd hl I ⊢; omega⟩
        rcases List.mem_cons.1 hx with h | h
        · rw [h]; exact next_ok hn
        · exact I.1 x h
theorem lex_ok {s : List UInt8} {l : List Tok} (h : lex s = some l) : OkToks l ∧ l.length ≤ s.length := lexF_ok _ _ _ h
end Po
end Go.Proofs.YtdolpmmnjndfkaaGreatDoor
