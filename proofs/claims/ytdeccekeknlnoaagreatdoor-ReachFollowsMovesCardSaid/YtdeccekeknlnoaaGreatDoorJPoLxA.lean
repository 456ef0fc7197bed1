/- Chapter 29, the walk: letters, digits, prefixes of package lex. | Chapter 29, plain: numbers: what strconv.Atoi and strconv.Itoa say of a row of digits. -/
import Derived.Test.YtdeccekeknlnoaaGreatDoorJPoMem
import Derived.Test.YtdeccekeknlnoaaGreatDoorJPoPl
import Derived.Laws.RangeString
import Derived.Laws.Runes
import Derived.Deep.LoopGhost
import Derived.Shelf.RegionOpen
import Derived.Lib.AtoiAll
import Derived.Lib.ItoaMem
namespace Go.Proofs.YtdeccekeknlnoaaGreatDoor
open Go.RowKit
namespace Po
def letterR (c : Int) : Bool := (decide (97 ≤ c) && decide (c ≤ 122)) || (decide (65 ≤ c) && decide (c ≤ 90))
def digitR (c : Int) : Bool := decide (48 ≤ c) && decide (c ≤ 57)
def wordR (c : Int) : Bool := letterR c || digitR c || decide (c = 95)
end Po
theorem ret_bool {a b : Bool} (h : a = b) : Ending.returned (.bool a) = .returned (.bool b) := by rw [h]
theorem ret_int {k : IntKind} {a b : Int} (h : a = b) : Ending.returned (.int k a) = .returned (.int k b) := by rw [h]

theorem lx_letter (c : Int) (w : World) :
    Calls Tryz.prog 111 #[.int .i32 c] w fun e w' => e = .returned (.bool (Po.letterR c)) ∧ w' = w := by
  go_enter Tryz.func111, Tryz.ntmps111
  go_wp2
  all_goals (go_ret; refine ⟨ret_bool ?_, rfl⟩; simp only [Po.letterR]; grind)
theorem lx_digit (c : Int) (w : World) :
    Calls Tryz.prog 114 #[.int .i32 c] w fun e w' => e = .returned (.bool (Po.digitR c)) ∧ w' = w := by
  go_enter Tryz.func114, Tryz.ntmps114
  go_wp2
  all_goals (go_ret; refine ⟨ret_bool ?_, rfl⟩; simp only [Po.digitR]; grind)
theorem lx_within (c : Int) (w : World) :
    Calls Tryz.prog 113 #[.int .i32 c] w fun e w' => e = .returned (.bool (Po.wordR c)) ∧ w' = w := by
  go_enter Tryz.func113, Tryz.ntmps113
  go_wp2_with (first
    | (go_at_call 111; refine (lx_letter _ _).mono ?_; rintro e w' ⟨rfl, rfl⟩)
    | (go_at_call 114; refine (lx_digit _ _).mono ?_; rintro e w' ⟨rfl, rfl⟩))
  all_goals (go_ret; refine ⟨ret_bool ?_, rfl⟩; simp only [Po.wordR]; first | (simp_all; done) | (simp_all; rfl))

namespace Po
theorem takeWhile_len {α : Type} (p : α → Bool) : ∀ (l : List α) (k : Nat), (∀ i, i < k → ∃ b, l[i]? = some b ∧ p b = true) → (∀ b, l[k]? = some b → p b = false) → (l.takeWhile p).length = k
  | [], k, h1, _ => by
    cases k with
    | zero => rfl
    | succ k => obtain ⟨b, hb, _⟩ := h1 0 (by omega); simp at hb
  | x :: l, 0, _, h2 => by
    have := h2 x rfl
    simp [List.takeWhile, this]
  | x :: l, k + 1, h1, h2 => by
    obtain ⟨b, hb, hp⟩ := h1 0 (by omega)
    simp at hb
    subst hb
    have I := takeWhile_len p l k (fun i hi => by obtain ⟨b, hb, hp⟩ := h1 (i + 1) (by omega); exact ⟨b, by simpa using hb, hp⟩) (fun b hb => h2 b (by simpa using hb))
    simp [List.takeWhile, hp, I]
theorem le_iff (a b : UInt8) : a ≤ b ↔ a.toNat ≤ b.toNat := UInt8.le_iff_toNat_le
theorem eq_iff8 (a b : UInt8) : a = b ↔ a.toNat = b.toNat := UInt8.toNat_inj.symm
theorem letter_nat (b : UInt8) : letter b = (decide (97 ≤ b.toNat ∧ b.toNat ≤ 122) || decide (65 ≤ b.toNat ∧ b.toNat ≤ 90)) := by
  simp only [letter, le_iff, UInt8.toNat_ofNat, Nat.reducePow, Nat.reduceMod, Bool.decide_and]
theorem digit_nat (b : UInt8) : digit b = decide (48 ≤ b.toNat ∧ b.toNat ≤ 57) := by
  simp only [digit, le_iff, UInt8.toNat_ofNat, Nat.reducePow, Nat.reduceMod, Bool.decide_and]
theorem word_nat (b : UInt8) : word b = (letter b || digit b || decide (b.toNat = 95)) := by
  simp only [word]
  congr 1
  rw [Bool.eq_iff_iff]
  simp [eq_iff8]
theorem letterR_nat (b : UInt8) : letterR b.toNat = letter b := by
  rw [letter_nat, letterR, Bool.eq_iff_iff]
  simp
  omega
theorem digitR_nat (b : UInt8) : digitR b.toNat = digit b := by
  rw [digit_nat, digitR, Bool.eq_iff_iff]
  simp
  omega
theorem wordR_nat (b : UInt8) : wordR b.toNat = word b := by
  rw [word_nat, wordR, letterR_nat, digitR_nat]
  congr 1
  rw [Bool.eq_iff_iff]
  simp
  omega
theorem wordR_high {c : Int} (h : 128 ≤ c) : wordR c = false := by
  simp [wordR, letterR, digitR]; omega
theorem digitR_high {c : Int} (h : 128 ≤ c) : digitR c = false := by
  simp [digitR]; omega
theorem word_high {b : UInt8} (h : 128 ≤ b.toNat) : word b = false := by rw [← wordR_nat]; exact wordR_high (by omega)
theorem digit_high {b : UInt8} (h : 128 ≤ b.toNat) : digit b = false := by rw [← digitR_nat]; exact digitR_high (by omega)
theorem at_byte {s : ByteArray} {pos : Nat} (h : pos < s.size) : s.data.toList[pos]? = some (s[pos]'h) := by
  have : pos < s.data.size := h
  simp only [Array.getElem?_toList, Array.getElem?_eq_getElem this]
  rfl
theorem at_end {s : ByteArray} {pos : Nat} (h : ¬ pos < s.size) : s.data.toList[pos]? = none := by
  have : ¬ pos < s.data.size := h
  simp only [Array.getElem?_toList]
  exact Array.getElem?_eq_none (by omega)
end Po

set_option maxRecDepth 1000000 in
theorem lx_prefix_word (s : ByteArray) (w : World) :
    Calls Tryz.prog 112 #[.string s, .func (.func 113) #[] #[]] w fun e w' => e = .returned (.int .i64 ((s.data.toList.takeWhile Po.word).length : Nat)) ∧ Below w.heap.size w w' := by
  have hB : ∀ pos, Below w.heap.size w (w.iter s pos) := fun pos => (Below.refl _ _).alloc (Nat.le_refl _) _
  go_enter Tryz.func112, Tryz.ntmps112
  go_wp2_with fail
  go_loopg [] s.size (fun g wr => ∃ pos : Nat, pos + g = s.size ∧ wr = w.iter s pos ∧ Aside (∀ i, i < pos → ∃ b, s.data.toList[i]? = some b ∧ Po.word b = true))
  case atStart => exact ⟨0, by omega, rfl, fun i hi => absurd hi (by omega)⟩
  case round =>
    obtain ⟨pos, hg, rfl, HA⟩ := hrel
    by_cases hp : pos < s.size
    · by_cases ha : (s[pos]'hp).toNat < 128
      · have hnx : ∀ ty, (Instr.next (.pointer (some ⟨w.heap.size, 0, none⟩)) true ty).run Tryz.prog (w.iter s pos) = _ := fun ty => run_next_ascii w s pos ty hp ha
        cases hw : Po.word (s[pos]'hp) with
        | true =>
          have hr : Po.wordR ((s[pos]'hp).toNat : Int) = true := by rw [Po.wordR_nat, hw]
          have HW := Lib.hid hw
          clear hw
          go_wp2_with fail
          refine (lx_within _ _).mono ?_
          rintro e w' ⟨rfl, rfl⟩
          rw [hr]
          go_wp2_with fail
          go_roundg (gk - 1)
          case measure => omega
          case rel => exact ⟨pos + 1, by omega, rfl, fun i hi => by
            by_cases h : i < pos
            · exact HA.out i h
            · have : i = pos := by omega
              subst this
              exact ⟨_, Po.at_byte hp, HW.out⟩⟩
        | false =>
          have hr : Po.wordR ((s[pos]'hp).toNat : Int) = false := by rw [Po.wordR_nat, hw]
          have HW := Lib.hid (Po.takeWhile_len Po.word s.data.toList pos HA.out (fun b hb => by rw [Po.at_byte hp] at hb; simp at hb; rw [← hb]; exact hw))
          clear hw
          go_wp2_with fail
          refine (lx_within _ _).mono ?_
          rintro e w' ⟨rfl, rfl⟩
          rw [hr]
          go_wp2_with fail
          go_ret
          exact ⟨by rw [HW.out]; rfl, hB _⟩
      · obtain ⟨h1, h2⟩ := decode_high s pos hp (by omega)
        have hnx : ∀ ty, (Instr.next (.pointer (some ⟨w.heap.size, 0, none⟩)) true ty).run Tryz.prog (w.iter s pos) = _ := fun ty => run_next_any w s pos ty hp
        have HW := Lib.hid (Po.takeWhile_len Po.word s.data.toList pos HA.out (fun b hb => by rw [Po.at_byte hp] at hb; simp at hb; rw [← hb]; exact Po.word_high (by omega)))
        have hr : Po.wordR ((Utf8.decode s pos).1 : Int) = false := Po.wordR_high (by omega)
        go_wp2_with fail
        refine (lx_within _ _).mono ?_
        rintro e w' ⟨rfl, rfl⟩
        rw [hr]
        go_wp2_with fail
        go_ret
        exact ⟨by rw [HW.out]; rfl, hB _⟩
    · have hnx : ∀ ty, (Instr.next (.pointer (some ⟨w.heap.size, 0, none⟩)) true ty).run Tryz.prog (w.iter s pos) = _ := fun ty => run_next_end w s pos ty hp
      have HW := Lib.hid (Po.takeWhile_len Po.word s.data.toList pos HA.out (fun b hb => by rw [Po.at_end hp] at hb; cases hb))
      have he : pos = s.size := by omega
      have HE := Lib.hid he
      clear he
      go_wp2_with fail
      go_ret
      exact ⟨by rw [HW.out, HE.out]; rfl, hB _⟩

set_option maxRecDepth 1000000 in
theorem lx_prefix_digit (s : ByteArray) (w : World) :
    Calls Tryz.prog 112 #[.string s, .func (.func 114) #[] #[]] w fun e w' => e = .returned (.int .i64 ((s.data.toList.takeWhile Po.digit).length : Nat)) ∧ Below w.heap.size w w' := by
  have hB : ∀ pos, Below w.heap.size w (w.iter s pos) := fun pos => (Below.refl _ _).alloc (Nat.le_refl _) _
  go_enter Tryz.func112, Tryz.ntmps112
  go_wp2_with fail
  go_loopg [] s.size (fun g wr => ∃ pos : Nat, pos + g = s.size ∧ wr = w.iter s pos ∧ Aside (∀ i, i < pos → ∃ b, s.data.toList[i]? = some b ∧ Po.digit b = true))
  case atStart => exact ⟨0, by omega, rfl, fun i hi => absurd hi (by omega)⟩
  case round =>
    obtain ⟨pos, hg, rfl, HA⟩ := hrel
    by_cases hp : pos < s.size
    · by_cases ha : (s[pos]'hp).toNat < 128
      · have hnx : ∀ ty, (Instr.next (.pointer (some ⟨w.heap.size, 0, none⟩)) true ty).run Tryz.prog (w.iter s pos) = _ := fun ty => run_next_ascii w s pos ty hp ha
        cases hw : Po.digit (s[pos]'hp) with
        | true =>
          have hr : Po.digitR ((s[pos]'hp).toNat : Int) = true := by rw [Po.digitR_nat, hw]
          have HW := Lib.hid hw
          clear hw
          go_wp2_with fail
          refine (lx_digit _ _).mono ?_
          rintro e w' ⟨rfl, rfl⟩
          rw [hr]
          go_wp2_with fail
          go_roundg (gk - 1)
          case measure => omega
          case rel => exact ⟨pos + 1, by omega, rfl, fun i hi => by
            by_cases h : i < pos
            · exact HA.out i h
            · have : i = pos := by omega
              subst this
              exact ⟨_, Po.at_byte hp, HW.out⟩⟩
        | false =>
          have hr : Po.digitR ((s[pos]'hp).toNat : Int) = false := by rw [Po.digitR_nat, hw]
          have HW := Lib.hid (Po.takeWhile_len Po.digit s.data.toList pos HA.out (fun b hb => by rw [Po.at_byte hp] at hb; simp at hb; rw [← hb]; exact hw))
          clear hw
          go_wp2_with fail
          refine (lx_digit _ _).mono ?_
          rintro e w' ⟨rfl, rfl⟩
          rw [hr]
          go_wp2_with fail
          go_ret
          exact ⟨by rw [HW.out]; rfl, hB _⟩
      · obtain ⟨h1, h2⟩ := decode_high s pos hp (by omega)
        have hnx : ∀ ty, (Instr.next (.pointer (some ⟨w.heap.size, 0, none⟩)) true ty).run Tryz.prog (w.iter s pos) = _ := fun ty => run_next_any w s pos ty hp
        have HW := Lib.hid (Po.takeWhile_len Po.digit s.data.toList pos HA.out (fun b hb => by rw [Po.at_byte hp] at hb; simp at hb; rw [← hb]; exact Po.digit_high (by omega)))
        have hr : Po.digitR ((Utf8.decode s pos).1 : Int) = false := Po.digitR_high (by omega)
        go_wp2_with fail
        refine (lx_digit _ _).mono ?_
        rintro e w' ⟨rfl, rfl⟩
        rw [hr]
        go_wp2_with fail
        go_ret
        exact ⟨by rw [HW.out]; rfl, hB _⟩
    · have hnx : ∀ ty, (Instr.next (.pointer (some ⟨w.heap.size, 0, none⟩)) true ty).run Tryz.prog (w.iter s pos) = _ := fun ty => run_next_end w s pos ty hp
      have HW := Lib.hid (Po.takeWhile_len Po.digit s.data.toList pos HA.out (fun b hb => by rw [Po.at_end hp] at hb; cases hb))
      have he : pos = s.size := by omega
      have HE := Lib.hid he
      clear he
      go_wp2_with fail
      go_ret
      exact ⟨by rw [HW.out, HE.out]; rfl, hB _⟩
end Go.Proofs.YtdeccekeknlnoaaGreatDoor

namespace Go.Proofs.YtdeccekeknlnoaaGreatDoor
open Go
namespace Po
def valueF (a : Nat) (w : List UInt8) : Nat := w.foldl (fun n b => 10 * n + (b.toNat - 48)) a
theorem valueF_le (a : Nat) : ∀ (w : List UInt8), a ≤ valueF a w
  | [] => Nat.le_refl _
  | c :: r => by
    have := valueF_le (10 * a + (c.toNat - 48)) r
    simp only [valueF, List.foldl_cons] at this ⊢
    omega
theorem parse_eq : ∀ (w : List UInt8) (a : Nat), (∀ b ∈ w, digit b = true) → a < 18446744073709551616 → Lib.parseUint10 a w = if valueF a w < 18446744073709551616 then .ok (valueF a w) else .range
  | [], a, _, ha => by simp [Lib.parseUint10, valueF, ha]
  | c :: r, a, h, ha => by
    have hc := h c (by simp)
    rw [digit_nat] at hc
    simp at hc
    have hv : valueF a (c :: r) = valueF (a * 10 + (c.toNat - 48)) r := by simp [valueF, Nat.mul_comm]
    have hle := valueF_le (a * 10 + (c.toNat - 48)) r
    simp only [Lib.parseUint10, if_pos hc]
    by_cases h1 : 1844674407370955162 ≤ a
    · rw [if_pos h1, if_neg (by omega)]
    · rw [if_neg h1]
      by_cases h2 : 18446744073709551616 ≤ a * 10 + (c.toNat - 48)
      · rw [if_pos h2, if_neg (by omega)]
      · rw [if_neg h2, parse_eq r _ (fun b hb => h b (by simp [hb])) (by omega), ← hv]
theorem atoi_eq {w : List UInt8} (h : ∀ b ∈ w, digit b = true) (h0 : w ≠ []) : Lib.atoiAll w = if value w < 9223372036854775808 then .ok (value w : Int) else .range := by
  cases w with
  | nil => exact absurd rfl h0
  | cons c r =>
    have hc := h c (by simp)
    rw [digit_nat] at hc
    simp at hc
    have e1 : ¬ c.toNat = 43 := by omega
    have e2 : ¬ c.toNat = 45 := by omega
    simp only [Lib.atoiAll, e1, e2, or_self, if_false, Lib.parseMag, if_neg h0, parse_eq (c :: r) 0 h (by omega), not_false_eq_true, true_and, false_and]
    have : valueF 0 (c :: r) = value (c :: r) := rfl
    rw [this]
    by_cases h1 : value (c :: r) < 18446744073709551616
    · rw [if_pos h1]
      by_cases h2 : value (c :: r) < 9223372036854775808
      · simp only [if_pos h2]
        simp; omega
      · simp only [if_neg h2]
        simp; omega
    · rw [if_neg h1, if_neg (by omega)]
theorem value_snoc (w : List UInt8) (d : UInt8) : value (w ++ [d]) = 10 * value w + (d.toNat - 48) := by simp [value, List.foldl_append]
theorem digit_range {b : UInt8} (h : digit b = true) : 48 ≤ b.toNat ∧ b.toNat ≤ 57 := by rw [digit_nat] at h; simpa using h
theorem value_pos : ∀ {w : List UInt8}, (∀ b ∈ w, digit b = true) → w ≠ [] → w.head? ≠ some 48 → 0 < value w := by
  intro w h h0 hh
  cases w with
  | nil => exact absurd rfl h0
  | cons c r =>
    have hc := digit_range (h c (by simp))
    have hn : c ≠ 48 := by intro e; subst e; simp at hh
    have : c.toNat ≠ 48 := by intro e; apply hn; rw [eq_iff8, e]; rfl
    have h1 := valueF_le (c.toNat - 48) r
    have : value (c :: r) = valueF (c.toNat - 48) r := by simp [value, valueF]
    omega
/-- a row of digits without a leading zero is the numeral of its value -/
theorem dec_value (w : List UInt8) : (∀ b ∈ w, digit b = true) → w ≠ [] → (w.head? ≠ some 48 ∨ w.length = 1) → Lib.decDigits (value w) = w := by
  induction w using snoc_ind with
  | nil => intro _ h _; exact absurd rfl h
  | append_singleton w d ih =>
    intro h _ hh
    have hd := digit_range (h d (by simp))
    have hw : ∀ b ∈ w, digit b = true := fun b hb => h b (by simp [hb])
    rw [value_snoc]
    by_cases e : w = []
    · subst e
      have : value [] = 0 := rfl
      rw [this, Lib.decDigits, dif_pos (by omega)]
      simp only [List.nil_append, List.cons.injEq, and_true]
      rw [eq_iff8]
      simp
      omega
    · have hh2 : w.head? ≠ some 48 := by
        rcases hh with h1 | h1
        · cases w with
          | nil => exact absurd rfl e
          | cons c r => simpa using h1
        · cases w with
          | nil => exact absurd rfl e
          | cons c r => simp at h1
      have hp := value_pos hw e hh2
      have I := ih hw e (.inl hh2)
      rw [Lib.decDigits, dif_neg (by omega)]
      have q : (10 * value w + (d.toNat - 48)) / 10 = value w := by omega
      have r : (10 * value w + (d.toNat - 48)) % 10 = d.toNat - 48 := by omega
      rw [q, r, I]
      congr 1
      simp only [List.cons.injEq, and_true]
      rw [eq_iff8]
      simp
      omega
theorem dec_head (n : Nat) : n < 10 ∨ (Lib.decDigits n).head? ≠ some 48 := by
  induction n using Nat.strongRecOn with
  | _ n ih =>
    by_cases h : n < 10
    · exact .inl h
    · right
      rw [Lib.decDigits, dif_neg h]
      rcases ih (n / 10) (by omega) with h1 | h1
      · rw [Lib.decDigits, dif_pos h1]
        simp only [List.cons_append, List.nil_append, List.head?_cons, ne_eq, Option.some.injEq]
        rw [eq_iff8]
        simp
        omega
      · cases hq : Lib.decDigits (n / 10) with
        | nil => rw [Lib.decDigits] at hq; split at hq <;> simp at hq
        | cons c r => rw [hq] at h1; simpa using h1
/-- the program's test of a number and mine -/
theorem num_iff {w : List UInt8} (h : ∀ b ∈ w, digit b = true) (h0 : w ≠ []) : numOK w = (decide (w.length ≤ 5) && (decide (value w < 65536) && decide (Lib.decDigits (value w) = w))) := by
  unfold numOK
  rw [Bool.and_assoc]
  congr 1
  rw [Bool.and_comm]
  congr 1
  by_cases c : w.head? ≠ some 48 ∨ w.length = 1
  · have h1 : w.length ≠ 0 := by simpa using h0
    rw [dec_value w h h0 c]
    rcases c with c | c
    · simp [c]
    · simp [c]
  · simp only [not_or, ne_eq, Decidable.not_not] at c
    have h1 : w.length ≠ 0 := by simpa using h0
    have : ¬ Lib.decDigits (value w) = w := by
      intro e
      rcases dec_head (value w) with h2 | h2
      · rw [Lib.decDigits, dif_pos h2] at e
        rw [← e] at c
        simp at c
      · rw [e] at h2
        exact h2 c.1
    simp [c.1, this]
    omega
end Po
end Go.Proofs.YtdeccekeknlnoaaGreatDoor
