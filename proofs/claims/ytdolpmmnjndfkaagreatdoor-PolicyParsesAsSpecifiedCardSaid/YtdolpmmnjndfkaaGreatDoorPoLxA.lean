/- Chapter 29, the walk: letters, digits, prefixes of package lex. -/
import Derived.Test.YtdolpmmnjndfkaaGreatDoorPoMem
import Derived.Test.YtdolpmmnjndfkaaGreatDoorPoPl
import Derived.Laws.RangeString
import Derived.Laws.Runes
import Derived.Deep.LoopGhost
import Derived.Shelf.RegionOpen
namespace Go.Proofs.YtdolpmmnjndfkaaGreatDoor
open Go.RowKit
namespace Po
def letterR (c : Int) : Bool := (decide (97 ≤ c) && decide (c ≤ 122)) || (decide (65 ≤ c) && decide (c ≤ 90))
def digitR (c : Int) : Bool := decide (48 ≤ c) && decide (c ≤ 57)
def wordR (c : Int) : Bool := letterR c || digitR c || decide (c = 95)
end Po
theorem ret_bool {a b : Bool} (h : a = b) : Ending.returned (.bool a) = .returned (.bool b) := by rw [h]
theorem ret_int {k : IntKind} {a b : Int} (h : a = b) : Ending.returned (.int k a) = .returned (.int k b) := by rw [h]

theorem lx_letter (c : Int) (w : World) :
    Calls Tryz.prog 45 #[.int .i32 c] w fun e w' => e = .returned (.bool (Po.letterR c)) ∧ w' = w := by
  go_enter Tryz.func45, Tryz.ntmps45
  go_wp2
  all_goals (go_ret; refine ⟨ret_bool ?_, rfl⟩; simp only [Po.letterR]; grind)
theorem lx_digit (c : Int) (w : World) :
    Calls Tryz.prog 48 #[.int .i32 c] w fun e w' => e = .returned (.bool (Po.digitR c)) ∧ w' = w := by
  go_enter Tryz.func48, Tryz.ntmps48
  go_wp2
  all_goals (go_ret; refine ⟨ret_bool ?_, rfl⟩; simp only [Po.digitR]; grind)
theorem lx_within (c : Int) (w : World) :
    Calls Tryz.prog 47 #[.int .i32 c] w fun e w' => e = .returned (.bool (Po.wordR c)) ∧ w' = w := by
  go_enter Tryz.func47, Tryz.ntmps47
  go_wp2_with (first
    | (go_at_call 45; refine (lx_letter _ _).mono ?_; rintro e w' ⟨rfl, rfl⟩)
    | (go_at_call 48; refine (lx_digit _ _).mono ?_; rintro e w' ⟨rfl, rfl⟩))
  all_goals (go_ret; refine ⟨ret_bool ?_, rfl⟩; simp only [Po.wordR]; first | (simp_all; done) | (simp_all; rfl))

namespace Po
theorem takeWhile_len {α : Type} (p : α → Bool) : ∀ (l : List α) (k : Nat), (∀ i, i < k → ∃ b, l[i]? = some b ∧ p b = true) → (∀ b, l[k]? = some b → p b = false) → (l.takeWhile p).length = k
  | [], k, h1, _ => by
    cases k with
    | zero => rfl
    | succ k => obtain ⟨b, hb, _⟩ := h1 0 (by omega); simp at hb
  | x :: l, 0, _, h2 => by
    have := h2 x rfl
    simp [List.takeWhile, this]
  | x :: l, k + 1, h1, h2 => by
    obtain ⟨b, hb, hp⟩ := h1 0 (by omega)
    simp at hb
    subst hb
    have I := takeWhile_len p l k (fun i hi => by obtain ⟨b, hb, hp⟩ := h1 (i + 1) (by omega); exact ⟨b, by simpa using hb, hp⟩) (fun b hb => h2 b (by simpa using hb))
    simp [List.takeWhile, hp, I]
theorem le_iff (a b : UInt8) : a ≤ b ↔ a.toNat ≤ b.toNat := UInt8.le_iff_toNat_le
theorem eq_iff8 (a b : UInt8) : a = b ↔ a.toNat = b.toNat := UInt8.toNat_inj.symm
theorem letter_nat (b : UInt8) : letter b = (decide (97 ≤ b.toNat ∧ b.toNat ≤ 122) || decide (65 ≤ b.toNat ∧ b.toNat ≤ 90)) := by
  simp only [letter, le_iff, UInt8.toNat_ofNat, Nat.reducePow, Nat.reduceMod, Bool.decide_and]
theorem digit_nat (b : UInt8) : digit b = decide (48 ≤ b.toNat ∧ b.toNat ≤ 57) := by
  simp only [digit, le_iff, UInt8.toNat_ofNat, Nat.reducePow, Nat.reduceMod, Bool.decide_and]
theorem word_nat (b : UInt8) : word b = (letter b || digit b || decide (b.toNat = 95)) := by
  simp only [word]
  congr 1
  rw [Bool.eq_iff_iff]
  simp [eq_iff8]
theorem letterR_nat (b : UInt8) : letterR b.toNat = letter b := by
  rw [letter_nat, letterR, Bool.eq_iff_iff]
  simp
  omega
theorem digitR_nat (b : UInt8) : digitR b.toNat = digit b := by
  rw [digit_nat, digitR, Bool.eq_iff_iff]
  simp
  omega
theorem wordR_nat (b : UInt8) : wordR b.toNat = word b := by
  rw [word_nat, wordR, letterR_nat, digitR_nat]
  congr 1
  rw [Bool.eq_iff_iff]
  simp
  omega
theorem wordR_high {c : Int} (h : 128 ≤ c) : wordR c = false := by
  simp [wordR, letterR, digitR]; omega
theorem digitR_high {c : Int} (h : 128 ≤ c) : digitR c = false := by
  simp [digitR]; omega
theorem word_high {b : UInt8} (h : 128 ≤ b.toNat) : word b = false := by rw [← wordR_nat]; exact wordR_high (by omega)
theorem digit_high {b : UInt8} (h : 128 ≤ b.toNat) : digit b = false := by rw [← digitR_nat]; exact digitR_high (by omega)
theorem at_byte {s : ByteArray} {pos : Nat} (h : pos < s.size) : s.data.toList[pos]? = some (s[pos]'h) := by
  have : pos < s.data.size := h
  simp only [Array.getElem?_toList, Array.getElem?_eq_getElem this]
  rfl
theorem at_end {s : ByteArray} {pos : Nat} (h : ¬ pos < s.size) : s.data.toList[pos]? = none := by
  have : ¬ pos < s.data.size := h
  simp only [Array.getElem?_toList]
  exact Array.getElem?_eq_none (by omega)
end Po

set_option maxRecDepth 1000000 in
theorem lx_prefix_word (s : ByteArray) (w : World) :
    Calls Tryz.prog 46 #[.string s, .func (.func 47) #[] #[]] w fun e w' => e = .returned (.int .i64 ((s.data.toList.takeWhile Po.word).length : Nat)) ∧ Below w.heap.size w w' := by
  have hB : ∀ pos, Below w.heap.size w (w.iter s pos) := fun pos => (Below.refl _ _).alloc (Nat.le_refl _) _
  go_enter Tryz.func46, Tryz.ntmps46
  go_wp2_with fail
  go_loopg [] s.size (fun g wr => ∃ pos : Nat, pos + g = s.size ∧ wr = w.iter s pos ∧ Aside (∀ i, i < pos → ∃ b, s.data.toList[i]? = some b ∧ Po.word b = true))
  case atStart => exact ⟨0, by omega, rfl, fun i hi => absurd hi (by omega)⟩
  case round =>
    obtain ⟨pos, hg, rfl, HA⟩ := hrel
    by_cases hp : pos < s.size
    · by_cases ha : (s[pos]'hp).toNat < 128
      · have hnx : ∀ ty, (Instr.next (.pointer (some ⟨w.heap.size, 0, none⟩)) true ty).run Tryz.prog (w.iter s pos) = _ := fun ty => run_next_ascii w s pos ty hp ha
        cases hw : Po.word (s[pos]'hp) with
        | true =>
          have hr : Po.wordR ((s[pos]'hp).toNat : Int) = true := by rw [Po.wordR_nat, hw]
          have HW := Lib.hid hw
          clear hw
          go_wp2_with fail
          refine (lx_within _ _).mono ?_
          rintro e w' ⟨rfl, rfl⟩
          rw [hr]
          go_wp2_with fail
          go_roundg (gk - 1)
          case measure => omega
          case rel => exact ⟨pos + 1, by omega, rfl, fun i hi => by
            by_cases h : i < pos
            · exact HA.out i h
            · have : i = pos := by omega
              subst this
              exact ⟨_, Po.at_byte hp, HW.out⟩⟩
        | false =>
          have hr : Po.wordR ((s[pos]'hp).toNat : Int) = false := by rw [Po.wordR_nat, hw]
          have HW := Lib.hid (Po.takeWhile_len Po.word s.data.toList pos HA.out (fun b hb => by rw [Po.at_byte hp] at hb; simp at hb; rw [← hb]; exact hw))
          clear hw
          go_wp2_with fail
          refine (lx_within _ _).mono ?_
          rintro e w' ⟨rfl, rfl⟩
          rw [hr]
          go_wp2_with fail
          go_ret
          exact ⟨by rw [HW.out]; rfl, hB _⟩
      · obtain ⟨h1, h2⟩ := decode_high s pos hp (by omega)
        have hnx : ∀ ty, (Instr.next (.pointer (some ⟨w.heap.size, 0, none⟩)) true ty).run Tryz.prog (w.iter s pos) = _ := fun ty => run_next_any w s pos ty hp
        have HW := Lib.hid (Po.takeWhile_len Po.word s.data.toList pos HA.out (fun b hb => by rw [Po.at_byte hp] at hb; simp at hb; rw [← hb]; exact Po.word_high (by omega)))
        have hr : Po.wordR ((Utf8.decode s pos).1 : Int) = false := Po.wordR_high (by omega)
        go_wp2_with fail
        refine (lx_within _ _).mono ?_
        rintro e w' ⟨rfl, rfl⟩
        rw [hr]
        go_wp2_with fail
        go_ret
        exact ⟨by rw [HW.out]; rfl, hB _⟩
    · have hnx : ∀ ty, (Instr.next (.pointer (some ⟨w.heap.size, 0, none⟩)) true ty).run Tryz.prog (w.iter s pos) = _ := fun ty => run_next_end w s pos ty hp
      have HW := Lib.hid (Po.takeWhile_len Po.word s.data.toList pos HA.out (fun b hb => by rw [Po.at_end hp] at hb; cases hb))
      have he : pos = s.size := by omega
      have HE := Lib.hid he
      clear he
      go_wp2_with fail
      go_ret
      exact ⟨by rw [HW.out, HE.out]; rfl, hB _⟩

set_option maxRecDepth 1000000 in
theorem lx_prefix_digit (s : ByteArray) (w : World) :
    Calls Tryz.prog 46 #[.string s, .func (.func 48) #[] #[]] w fun e w' => e = .returned (.int .i64 ((s.data.toList.takeWhile Po.digit).length : Nat)) ∧ Below w.heap.size w w' := by
  have hB : ∀ pos, Below w.heap.size w (w.iter s pos) := fun pos => (Below.refl _ _).alloc (Nat.le_refl _) _
  go_enter Tryz.func46, Tryz.ntmps46
  go_wp2_with fail
  go_loopg [] s.size (fun g wr => ∃ pos : Nat, pos + g = s.size ∧ wr = w.iter s pos ∧ Aside (∀ i, i < pos → ∃ b, s.data.toList[i]? = some b ∧ Po.digit b = true))
  case atStart => exact ⟨0, by omega, rfl, fun i hi => absurd hi (by omega)⟩
  case round =>
    obtain ⟨pos, hg, rfl, HA⟩ := hrel
    by_cases hp : pos < s.size
    · by_cases ha : (s[pos]'hp).toNat < 128
      · have hnx : ∀ ty, (Instr.next (.pointer (some ⟨w.heap.size, 0, none⟩)) true ty).run Tryz.prog (w.iter s pos) = _ := fun ty => run_next_ascii w s pos ty hp ha
        cases hw : Po.digit (s[pos]'hp) with
        | true =>
          have hr : Po.digitR ((s[pos]'hp).toNat : Int) = true := by rw [Po.digitR_nat, hw]
          have HW := Lib.hid hw
          clear hw
          go_wp2_with fail
          refine (lx_digit _ _).mono ?_
          rintro e w' ⟨rfl, rfl⟩
          rw [hr]
          go_wp2_with fail
          go_roundg (gk - 1)
          case measure => omega
          case rel => exact ⟨pos + 1, by omega, rfl, fun i hi => by
            by_cases h : i < pos
            · exact HA.out i h
            · have : i = pos := by omega
              subst this
              exact ⟨_, Po.at_byte hp, HW.out⟩⟩
        | false =>
          have hr : Po.digitR ((s[pos]'hp).toNat : Int) = false := by rw [Po.digitR_nat, hw]
          have HW := Lib.hid (Po.takeWhile_len Po.digit s.data.toList pos HA.out (fun b hb => by rw [Po.at_byte hp] at hb; simp at hb; rw [← hb]; exact hw))
          clear hw
          go_wp2_with fail
          refine (lx_digit _ _).mono ?_
          rintro e w' ⟨rfl, rfl⟩
          rw [hr]
          go_wp2_with fail
          go_ret
          exact ⟨by rw [HW.out]; rfl, hB _⟩
      · obtain ⟨h1, h2⟩ := decode_high s pos hp (by omega)
        have hnx : ∀ ty, (Instr.next (.pointer (some ⟨w.heap.size, 0, none⟩)) true ty).run Tryz.prog (w.iter s pos) = _ := fun ty => run_next_any w s pos ty hp
        have HW := Lib.hid (Po.takeWhile_len Po.digit s.data.toList pos HA.out (fun b hb => by rw [Po.at_byte hp] at hb; simp at hb; rw [← hb]; exact Po.digit_high (by omega)))
        have hr : Po.digitR ((Utf8.decode s pos).1 : Int) = false := Po.digitR_high (by omega)
        go_wp2_with fail
        refine (lx_digit _ _).mono ?_
        rintro e w' ⟨rfl, rfl⟩
        rw [hr]
        go_wp2_with fail
        go_ret
        exact ⟨by rw [HW.out]; rfl, hB _⟩
    · have hnx : ∀ ty, (Instr.next (.pointer (some ⟨w.heap.size, 0, none⟩)) true ty).run Tryz.prog (w.iter s pos) = _ := fun ty => run_next_end w s pos ty hp
      have HW := Lib.hid (Po.takeWhile_len Po.digit s.data.toList pos HA.out (fun b hb => by rw [Po.at_end hp] at hb; cases hb))
      have he : pos = s.size := by omega
      have HE := Lib.hid he
      clear he
      go_wp2_with fail
      go_ret
      exact ⟨by rw [HW.out, HE.out]; rfl, hB _⟩
end Go.Proofs.YtdolpmmnjndfkaaGreatDoor
