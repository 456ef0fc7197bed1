/- Chapter 29: the texts of an accepted policy are short. -/
import Derived.Test.YtdolpmmnjndfkaaGreatDoorPoTxB
import Derived.Test.YtdolpmmnjndfkaaGreatDoorPoRoundB
namespace Go.Proofs.YtdolpmmnjndfkaaGreatDoor
theorem leaf_len {n : Po.Nd} (h : Po.Canon n) : (Po.textNd n []).length ≤ 100 := by
  have d1 := Po.dec_len 4 n.n (by have := h.nb; omega)
  have d2 := Po.dec_len 4 n.m (by have := h.mb; omega)
  have d3 : (Po.hexF 0 n.dg).length ≤ 64 := by
    have hh : ∀ (l : List Nat) (i : Nat), (Po.hexF i l).length ≤ 4 * l.length := by
      intro l
      induction l with
      | nil => intro i; simp [Po.hexF]
      | cons b l ih =>
        intro i
        have := ih (i + 1)
        simp only [Po.hexF]
        split <;> simp <;> omega
    have := hh n.dg 0
    rw [h.dl] at this
    omega
  have hk := h.c
  have : n.k = 1 ∨ n.k = 2 ∨ n.k = 3 ∨ n.k = 4 ∨ n.k = 5 ∨ n.k = 6 ∨ n.k = 7 := by omega
  rcases this with e | e | e | e | e | e | e
  · rw [tx_1 e]; simp
  · rw [tx_2 e]; simp; omega
  · rw [tx_3 e]; simp; omega
  · rw [tx_4 e]; simp; omega
  · rw [tx_5 e]; simp; omega
  · rw [tx_6 e]; simp; omega
  · rw [tx_7 e]; split <;> simp <;> omega
theorem txT_len : ∀ (t : Po.T), t.can → (Po.txT t).length ≤ 100 * t.size
  | .at n, h => by
    have := leaf_len (n := n) h
    simpa [Po.T.size, Po.txT] using this
  | .no t, h => by
    have := txT_len t h
    simp only [Po.txT, Po.T.size, List.length_append, strs.2.2.2.2.2.2.2.2.2.2.2.2.1, List.length_singleton]; omega
  | .an a b, h => by
    have := txT_len a h.1
    have := txT_len b h.2
    obtain ⟨-, -, -, -, -, -, -, -, -, -, -, -, -, e1, e2, e3, -⟩ := strs
    simp only [Po.txT, Po.T.size, List.length_append, e1, e2, e3, List.length_cons, List.length_nil]; omega
  | .or a b, h => by
    have := txT_len a h.1
    have := txT_len b h.2
    obtain ⟨-, -, -, -, -, -, -, -, -, -, -, -, -, e1, e2, -, e3⟩ := strs
    simp only [Po.txT, Po.T.size, List.length_append, e1, e2, e3, List.length_cons, List.length_nil]; omega
theorem snoc_bound {o : List Po.Nd} {nd : Po.Nd} {M : Nat} (h : ∀ j, (Po.sub (Po.textAll o) j).length ≤ M) (hl : (Po.sub (Po.textAll (o ++ [nd])) o.length).length ≤ M) : ∀ j, (Po.sub (Po.textAll (o ++ [nd])) j).length ≤ M := by
  intro j
  by_cases e : j = o.length
  · subst e; exact hl
  · rw [Po.textAll_snoc, Po.sub_snoc, Po.textAll_len]
    split
    · exact h j
    · simp
theorem tx_bound : ∀ (t : Po.T) (o : List Po.Nd) (M : Nat), t.can → (∀ j, (Po.sub (Po.textAll o) j).length ≤ M) → 100 * t.size ≤ M → ∀ j, (Po.sub (Po.textAll (o ++ t.flat o.length)) j).length ≤ M
  | .at n, o, M, h, ho, hM => by
    refine snoc_bound ho ?_
    have e := Po.txT_at (.at n) o (Po.T.can.ok h)
    have := txT_len (.at n) h
    simp only [Po.T.flat, Po.T.size, Nat.add_sub_cancel] at e this hM
    rw [e]; omega
  | .no t, o, M, h, ho, hM => by
    have e := Po.txT_at (.no t) o (Po.T.can.ok h)
    have l := txT_len (.no t) h
    have I := tx_bound t o M h ho (by simp only [Po.T.size] at hM; omega)
    simp only [Po.T.flat] at e ⊢
    rw [← List.append_assoc] at e ⊢
    refine snoc_bound I ?_
    rw [show (o ++ t.flat o.length).length = o.length + (Po.T.no t).size - 1 by simp [Po.T.flat_len, Po.T.size], e]
    omega
  | .an a b, o, M, h, ho, hM => by
    have e := Po.txT_at (.an a b) o (Po.T.can.ok h)
    have l := txT_len (.an a b) h
    have hs : 100 * (a.size + b.size + 1) ≤ M := hM
    have I := tx_bound a o M h.1 ho (by omega)
    have J := tx_bound b (o ++ a.flat o.length) M h.2 I (by omega)
    rw [show (o ++ a.flat o.length).length = o.length + a.size by simp [Po.T.flat_len]] at J
    simp only [Po.T.flat] at e ⊢
    rw [← List.append_assoc, ← List.append_assoc] at e ⊢
    refine snoc_bound J ?_
    rw [show (o ++ a.flat o.length ++ b.flat (o.length + a.size)).length = o.length + (Po.T.an a b).size - 1 by simp only [List.length_append, Po.T.flat_len, Po.T.size]; omega, e]
    omega
  | .or a b, o, M, h, ho, hM => by
    have e := Po.txT_at (.or a b) o (Po.T.can.ok h)
    have l := txT_len (.or a b) h
    have hs : 100 * (a.size + b.size + 1) ≤ M := hM
    have I := tx_bound a o M h.1 ho (by omega)
    have J := tx_bound b (o ++ a.flat o.length) M h.2 I (by omega)
    rw [show (o ++ a.flat o.length).length = o.length + a.size by simp [Po.T.flat_len]] at J
    simp only [Po.T.flat] at e ⊢
    rw [← List.append_assoc, ← List.append_assoc] at e ⊢
    refine snoc_bound J ?_
    rw [show (o ++ a.flat o.length ++ b.flat (o.length + a.size)).length = o.length + (Po.T.or a b).size - 1 by simp only [List.length_append, Po.T.flat_len, Po.T.size]; omega, e]
    omega
theorem parse_len {s : List UInt8} {o : List Po.Nd} (h : Po.parse s = (o, 0)) : o.length ≤ 400 := by
  unfold Po.parse at h
  split at h
  · simp at h
  · cases hl : Po.lex s with
    | none => rw [hl] at h; simp at h
    | some l =>
      rw [hl] at h
      simp only at h
      split at h
      · simp at h
      · cases ht : Po.tree l with
        | none => rw [ht] at h; simp at h
        | some o' =>
          rw [ht] at h
          simp only at h
          split at h
          · simp at h
          · simp at h
            subst h
            omega
theorem parse_short {s : List UInt8} {o : List Po.Nd} (h : Po.parse s = (o, 0)) : ∀ k j, (Po.sub (Po.textAll (o.take k)) j).length ≤ 100000 := by
  have hl := parse_len h
  obtain ⟨l, t, _, _, rfl, _, ht⟩ := Po.parse_tree h
  rw [Po.T.flat_len] at hl
  have hb := tx_bound t [] 100000 ht (fun j => by simp [Po.textAll, Po.sub]) (by omega)
  simp only [List.nil_append, List.length_nil] at hb
  intro k j
  by_cases hj : j < ((t.flat 0).take k).length
  · have := Po.textAll_app_at ((t.flat 0).take k) j hj ((t.flat 0).drop k)
    rw [List.take_append_drop] at this
    rw [← this]
    exact hb j
  · rw [sub_ge (by rw [Po.textAll_len]; omega)]; simp
end Go.Proofs.YtdolpmmnjndfkaaGreatDoor
