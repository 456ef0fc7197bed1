/- Chapter 29, plain: numbers: what strconv.Atoi and strconv.Itoa say of a row of digits. -/
import Derived.Test.YtdolpmmnjndfkaaGreatDoorPoLxA
import Derived.Test.YtdolpmmnjndfkaaGreatDoorPoPl
import Derived.Lib.AtoiAll
import Derived.Lib.ItoaMem
namespace Go.Proofs.YtdolpmmnjndfkaaGreatDoor
open Go
namespace Po
def valueF (a : Nat) (w : List UInt8) : Nat := w.foldl (fun n b => 10 * n + (b.toNat - 48)) a
theorem valueF_le (a : Nat) : ∀ (w : List UInt8), a ≤ valueF a w
  | [] => Nat.le_refl _
  | c :: r => by
    have := valueF_le (10 * a + (c.toNat - 48)) r
    simp only [valueF, List.foldl_cons] at this ⊢
    omega
theorem parse_eq : ∀ (w : List UInt8) (a : Nat), (∀ b ∈ w, digit b = true) → a < 18446744073709551616 → Lib.parseUint10 a w = if valueF a w < 18446744073709551616 then .ok (valueF a w) else .range
  | [], a, _, ha => by simp [Lib.parseUint10, valueF, ha]
  | c :: r, a, h, ha => by
    have hc := h c (by simp)
    rw [digit_nat] at hc
    simp at hc
    have hv : valueF a (c :: r) = valueF (a * 10 + (c.toNat - 48)) r := by simp [valueF, Nat.mul_comm]
    have hle := valueF_le (a * 10 + (c.toNat - 48)) r
    simp only [Lib.parseUint10, if_pos hc]
    by_cases h1 : 1844674407370955162 ≤ a
    · rw [if_pos h1, if_neg (by omega)]
    · rw [if_neg h1]
      by_cases h2 : 18446744073709551616 ≤ a * 10 + (c.toNat - 48)
      · rw [if_pos h2, if_neg (by omega)]
      · rw [if_neg h2, parse_eq r _ (fun b hb => h b (by simp [hb])) (by omega), ← hv]
theorem atoi_eq {w : List UInt8} (h : ∀ b ∈ w, digit b = true) (h0 : w ≠ []) : Lib.atoiAll w = if value w < 9223372036854775808 then .ok (value w : Int) else .range := by
  cases w with
  | nil => exact absurd rfl h0
  | cons c r =>
    have hc := h c (by simp)
    rw [digit_nat] at hc
    simp at hc
    have e1 : ¬ c.toNat = 43 := by omega
    have e2 : ¬ c.toNat = 45 := by omega
    simp only [Lib.atoiAll, e1, e2, or_self, if_false, Lib.parseMag, if_neg h0, parse_eq (c :: r) 0 h (by omega), not_false_eq_true, true_and, false_and]
    have : valueF 0 (c :: r) = value (c :: r) := rfl
    rw [this]
    by_cases h1 : value (c :: r) < 18446744073709551616
    · rw [if_pos h1]
      by_cases h2 : value (c :: r) < 9223372036854775808
      · simp only [if_pos h2]
        simp; omega
      · simp only [if_neg h2]
        simp; omega
    · rw [if_neg h1, if_neg (by omega)]
theorem value_snoc (w : List UInt8) (d : UInt8) : value (w ++ [d]) = 10 * value w + (d.toNat - 48) := by simp [value, List.foldl_append]
theorem digit_range {b : UInt8} (h : digit b = true) : 48 ≤ b.toNat ∧ b.toNat ≤ 57 := by rw [digit_nat] at h; simpa using h
theorem value_pos : ∀ {w : List UInt8}, (∀ b ∈ w, digit b = true) → w ≠ [] → w.head? ≠ some 48 → 0 < value w := by
  intro w h h0 hh
  cases w with
  | nil => exact absurd rfl h0
  | cons c r =>
    have hc := digit_range (h c (by simp))
    have hn : c ≠ 48 := by intro e; subst e; simp at hh
    have : c.toNat ≠ 48 := by intro e; apply hn; rw [eq_iff8, e]; rfl
    have h1 := valueF_le (c.toNat - 48) r
    have : value (c :: r) = valueF (c.toNat - 48) r := by simp [value, valueF]
    omega
/-- a row of digits without a leading zero is the numeral of its value -/
theorem dec_value (w : List UInt8) : (∀ b ∈ w, digit b = true) → w ≠ [] → (w.head? ≠ some 48 ∨ w.length = 1) → Lib.decDigits (value w) = w := by
  induction w using snoc_ind with
  | nil => intro _ h _; exact absurd rfl h
  | append_singleton w d ih =>
    intro h _ hh
    have hd := digit_range (h d (by simp))
    have hw : ∀ b ∈ w, digit b = true := fun b hb => h b (by simp [hb])
    rw [value_snoc]
    by_cases e : w = []
    · subst e
      have : value [] = 0 := rfl
      rw [this, Lib.decDigits, dif_pos (by omega)]
      simp only [List.nil_append, List.cons.injEq, and_true]
      rw [eq_iff8]
      simp
      omega
    · have hh2 : w.head? ≠ some 48 := by
        rcases hh with h1 | h1
        · cases w with
          | nil => exact absurd rfl e
          | cons c r => simpa using h1
        · cases w with
          | nil => exact absurd rfl e
          | cons c r => simp at h1
      have hp := value_pos hw e hh2
      have I := ih hw e (.inl hh2)
      rw [Lib.decDigits, dif_neg (by omega)]
      have q : (10 * value w + (d.toNat - 48)) / 10 = value w := by omega
      have r : (10 * value w + (d.toNat - 48)) % 10 = d.toNat - 48 := by omega
      rw [q, r, I]
      congr 1
      simp only [List.cons.injEq, and_true]
      rw [eq_iff8]
      simp
      omega
theorem dec_head (n : Nat) : n < 10 ∨ (Lib.decDigits n).head? ≠ some 48 := by
  induction n using Nat.strongRecOn with
  | _ n ih =>
    by_cases h : n < 10
    · exact .inl h
    · right
      rw [Lib.decDigits, dif_neg h]
      rcases ih (n / 10) (by omega) with h1 | h1
      · rw [Lib.decDigits, dif_pos h1]
        simp only [List.cons_append, List.nil_append, List.head?_cons, ne_eq, Option.some.injEq]
        rw [eq_iff8]
        simp
        omega
      · cases hq : Lib.decDigits (n / 10) with
        | nil => rw [Lib.decDigits] at hq; split at hq <;> simp at hq
        | cons c r => rw [hq] at h1; simpa using h1
/-- the program's test of a number and mine -/
theorem num_iff {w : List UInt8} (h : ∀ b ∈ w, digit b = true) (h0 : w ≠ []) : numOK w = (decide (w.length ≤ 5) && (decide (value w < 65536) && decide (Lib.decDigits (value w) = w))) := by
  unfold numOK
  rw [Bool.and_assoc]
  congr 1
  rw [Bool.and_comm]
  congr 1
  by_cases c : w.head? ≠ some 48 ∨ w.length = 1
  · have h1 : w.length ≠ 0 := by simpa using h0
    rw [dec_value w h h0 c]
    rcases c with c | c
    · simp [c]
    · simp [c]
  · simp only [not_or, ne_eq, Decidable.not_not] at c
    have h1 : w.length ≠ 0 := by simpa using h0
    have : ¬ Lib.decDigits (value w) = w := by
      intro e
      rcases dec_head (value w) with h2 | h2
      · rw [Lib.decDigits, dif_pos h2] at e
        rw [← e] at c
        simp at c
      · rw [e] at h2
        exact h2 c.1
    simp [c.1, this]
    omega
end Po
end Go.Proofs.YtdolpmmnjndfkaaGreatDoor
