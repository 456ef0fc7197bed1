/- Chapter 29, the walk: digits, hex, text and Text of the reference. -/
import Derived.Test.YtdolpmmnjndfkaaGreatDoorPoTxB
namespace Go.Proofs.YtdolpmmnjndfkaaGreatDoor
open Go.RowKit
theorem dig_slice : ∀ n : Fin 10, (⟨#[48, 49, 50, 51, 52, 53, 54, 55, 56, 57]⟩ : ByteArray).extract n.val (n.val + 1) = ⟨#[UInt8.ofNat (48 + n.val)]⟩ := by decide +kernel
theorem hex_slice : ∀ n : Fin 16, (⟨#[48, 49, 50, 51, 52, 53, 54, 55, 56, 57, 97, 98, 99, 100, 101, 102]⟩ : ByteArray).extract n.val (n.val + 1) = ⟨#[Po.hexc n.val]⟩ := by decide +kernel
theorem hex_at (n : Nat) (h : n < 16) : (⟨#[48, 49, 50, 51, 52, 53, 54, 55, 56, 57, 97, 98, 99, 100, 101, 102]⟩ : ByteArray).extract n (n + 1) = ⟨#[Po.hexc n]⟩ := hex_slice ⟨n, h⟩
theorem dec_small {n : Nat} (h : n ≤ 9) : Po.dec n = [UInt8.ofNat (48 + n)] := by rw [Po.dec_step, if_pos h]
theorem dec_big {n : Nat} (h : ¬ n ≤ 9) : Po.dec n = Po.dec (n / 10) ++ Po.dec (n % 10) := by
  rw [Po.dec_step, if_neg h, dec_small (n := n % 10) (by omega)]
set_option maxRecDepth 1000000 in
set_option maxHeartbeats 1000000 in
theorem rf_digits : ∀ (m n : Nat), n < m → n < 65536 → ∀ w, Calls Tryz.prog 59 #[.int .i64 n] w fun e w' => e = .returned (.string ⟨(Po.dec n).toArray⟩) ∧ w' = w
  | 0, n, h, _, _ => absurd h (Nat.not_lt_zero n)
  | m + 1, n, h, hn, w => by
    by_cases h9 : n ≤ 9
    · have hz := dig_slice ⟨n, by omega⟩
      simp only at hz
      have w1 : wrap64 ((n : Int) + 1) = (n : Int) + 1 := by unfold wrap64; omega
      have i9 : ¬ (9 : Int) < n := by omega
      have HX := Lib.hid (dec_small h9)
      have HZ := Lib.hid hz
      clear h h9 hn hz
      go_enter Tryz.func59, Tryz.ntmps59
      go_wp2_with fail
      go_ret
      exact ⟨by rw [HX.out]; exact congrArg (fun z => Ending.returned (Value.string z)) HZ.out, rfl⟩
    · have HX := Lib.hid (dec_big h9)
      have I1 := Lib.hid (rf_digits m (n / 10) (by omega) (by omega) w)
      have I2 := Lib.hid (rf_digits m (n % 10) (by omega) (by omega) w)
      have hl1 := Po.dec_len 4 (n / 10) (by omega)
      have hl2 := Po.dec_len 4 (n % 10) (by omega)
      obtain ⟨l1, e1⟩ : ∃ l, Po.dec (n / 10) = l := ⟨_, rfl⟩
      obtain ⟨l2, e2⟩ : ∃ l, Po.dec (n % 10) = l := ⟨_, rfl⟩
      rw [e1] at HX I1 hl1
      rw [e2] at HX I2 hl2
      have z1 : ¬ 9223372036854775807 < l1.length + l2.length := by omega
      have i9 : (9 : Int) < n := by omega
      obtain ⟨q, hq⟩ : ∃ q, n / 10 = q := ⟨_, rfl⟩
      obtain ⟨rr, hr⟩ : ∃ rr, n % 10 = rr := ⟨_, rfl⟩
      rw [hq] at I1
      rw [hr] at I2
      have d1 : Int.tdiv (n : Int) 10 = (q : Int) := by rw [Int.tdiv_eq_ediv_of_nonneg (by omega)]; omega
      have d2 : Int.tmod (n : Int) 10 = (rr : Int) := by rw [Int.tmod_eq_emod_of_nonneg (by omega)]; omega
      have d3 : (n : Int) / 10 = (q : Int) := by omega
      have d4 : (n : Int) % 10 = (rr : Int) := by omega
      have w1 : wrap64 (q : Int) = (q : Int) := by unfold wrap64; omega
      have w2 : wrap64 (rr : Int) = (rr : Int) := by unfold wrap64; omega
      clear h h9 hn e1 e2 hq hr hl1 hl2
      go_enter Tryz.func59, Tryz.ntmps59
      go_wp2_with (first
        | (go_at_call 59; (with_reducible refine I1.out.mono ?_); rintro e w' ⟨rfl, hw⟩; subst hw)
        | (go_at_call 59; (with_reducible refine I2.out.mono ?_); rintro e w' ⟨rfl, hw⟩; subst hw))
      go_ret
      exact ⟨by rw [HX.out]; rfl, rfl⟩
theorem hex_take {d : List Nat} {i b : Nat} (hb : d[i]? = some b) : Po.hexF 0 (d.take (i + 1)) = Po.hexF 0 (d.take i) ++ Po.hexAt i b := by
  have hi : i < d.length := (List.getElem?_eq_some_iff.1 hb).1
  rw [List.take_succ_eq_append_getElem hi, Po.hexF_snoc]
  rw [List.getElem?_eq_getElem hi] at hb
  simp only [Option.some.injEq] at hb
  rw [hb, Nat.zero_add, List.length_take, Nat.min_eq_left (Nat.le_of_lt hi)]
theorem cat_hex4 (l : List UInt8) (a b : UInt8) : (⟨l.toArray⟩ : ByteArray) ++ ⟨#[32, 120]⟩ ++ ⟨#[a]⟩ ++ ⟨#[b]⟩ = ⟨(l ++ ([32, 120] ++ [a, b])).toArray⟩ := by
  apply ByteArray.ext; simp
theorem cat_hex2 (l : List UInt8) (a b : UInt8) : (⟨l.toArray⟩ : ByteArray) ++ ⟨#[a]⟩ ++ ⟨#[b]⟩ = ⟨(l ++ ([] ++ [a, b])).toArray⟩ := by
  apply ByteArray.ext; simp
theorem hex_nums {b x y x1 y1 : Nat} (hb : b < 256) (hx : b / 16 = x) (hy : b % 16 = y) (h1 : x + 1 = x1) (h2 : y + 1 = y1) :
    IntKind.u8.wrap ((b : Int) / 16) = (x : Int) ∧ IntKind.u8.wrap ((b : Int) % 16) = (y : Int) ∧ IntKind.u8.wrap ((x : Int) + 1) = (x1 : Int) ∧ IntKind.u8.wrap ((y : Int) + 1) = (y1 : Int) ∧ (0 ≤ (x : Int) ∧ (x : Int) ≤ (x1 : Int) ∧ (x1 : Int) ≤ 16) ∧ (0 ≤ (y : Int) ∧ (y : Int) ≤ (y1 : Int) ∧ (y1 : Int) ≤ 16) := by
  subst hx; subst hy; subst h1; subst h2
  refine ⟨?_, ?_, ?_, ?_, by omega, by omega⟩ <;> (simp [IntKind.wrap, IntKind.bits, IntKind.signed]; omega)
theorem mod4_yes {i : Nat} (h : i % 4 = 0) : (i : Int) % 4 = 0 := by omega
theorem mod4_no {i : Nat} (h : ¬ i % 4 = 0) : ¬ (i : Int) % 4 = 0 := by omega
theorem mod4_t {i : Nat} (h : i % 4 = 0) : Int.tmod (i : Int) 4 = 0 := by rw [Int.tmod_eq_emod_of_nonneg (by omega)]; omega
theorem mod4_tn {i : Nat} (h : ¬ i % 4 = 0) : ¬ Int.tmod (i : Int) 4 = 0 := by rw [Int.tmod_eq_emod_of_nonneg (by omega)]; omega
set_option maxRecDepth 1000000 in
set_option maxHeartbeats 2000000 in
theorem rf_hex (d : List Nat) (hd : d.length = 16) (hdb : ∀ b ∈ d, b < 256) (w : World) :
    Calls Tryz.prog 60 #[.agg (dgVals d).toArray] w fun e w' => e = .returned (.string ⟨(Po.hexF 0 d).toArray⟩) ∧ Below w.heap.size w w' := by
  obtain ⟨cs, hcs⟩ : ∃ cs, (dgVals d).toArray = cs := ⟨_, rfl⟩
  rw [hcs]
  obtain ⟨W, hW⟩ : ∃ W, w.alloc (.cells cs 65) = W := ⟨_, rfl⟩
  obtain ⟨b0, hB, hs⟩ := one_box W hW
  have HC : Hid (∀ (i b : Nat), d[i]? = some b → W.cell? ⟨w.heap.size, i, none⟩ = some (.int .u8 b)) := Lib.hid fun i b h => by
    rw [cell_of_row _ _ i _ _ _ b0, ← hcs]
    simp [dgVals, h]
  have HB := Lib.hid hB
  have HD := Lib.hid (And.intro hd hdb)
  clear b0 hB hs hcs hd hdb
  go_enter Tryz.func60, Tryz.ntmps60
  go_wp2_with fail
  clear hW
  go_loopg [3, 4] 16 (fun g s3 s4 wr => ∃ i q : Nat, i + g = 16 ∧ s3 = .string ⟨(Po.hexF 0 (d.take i)).toArray⟩ ∧ s4 = .int .i64 i ∧ wr = W.drewN q)
  case atStart => exact ⟨0, 0, rfl, rfl, rfl, rfl⟩
  case round =>
    obtain ⟨i, q, hig, rfl, rfl, rfl⟩ := hrel
    cases gk with
    | zero =>
      obtain rfl : i = 16 := by omega
      have hi : ¬ ((16 : Nat) : Int) < 16 := by omega
      have HX := Lib.hid (show d.take 16 = d from List.take_of_length_le (by rw [HD.out.1]; exact Nat.le_refl _))
      go_wp2_with fail
      go_ret
      exact ⟨by rw [HX.out]; rfl, below_drewN HB.out _⟩
    | succ g =>
      have hi : (i : Int) < 16 := by omega
      obtain ⟨b, hbd⟩ : ∃ b, d[i]? = some b := ⟨_, List.getElem?_eq_getElem (by rw [HD.out.1]; omega)⟩
      have hbl : b < 256 := HD.out.2 b (List.mem_of_getElem? hbd)
      obtain ⟨x, hx⟩ : ∃ x : Nat, b / 16 = x := ⟨_, rfl⟩
      obtain ⟨y, hy⟩ : ∃ y : Nat, b % 16 = y := ⟨_, rfl⟩
      obtain ⟨x1, hx1⟩ : ∃ x1 : Nat, x + 1 = x1 := ⟨_, rfl⟩
      obtain ⟨y1, hy1⟩ : ∃ y1 : Nat, y + 1 = y1 := ⟨_, rfl⟩
      have zx := hex_at x (by omega)
      have zy := hex_at y (by omega)
      have HZY := Lib.hid zy
      simp only [hx1] at zx
      simp only [hy1] at zy
      have HT := Lib.hid (hex_take hbd)
      have HXY := Lib.hid (And.intro hx hy)
      have HA := Lib.hid (hex_nums hbl hx hy hx1 hy1)
      have c0 := HC.out i b hbd
      have hlen : (Po.hexF 0 (d.take i)).length ≤ 100 := hexF_len _ _ (by rw [List.length_take, HD.out.1]; omega)
      obtain ⟨l, hl⟩ : ∃ l, Po.hexF 0 (d.take i) = l := ⟨_, rfl⟩
      rw [hl] at HT hlen ⊢
      have z1 : ¬ 9223372036854775807 < l.length + 2 := by omega
      have z2 : ¬ 9223372036854775807 < l.length + 1 := by omega
      have z3 : ¬ 9223372036854775807 < l.length + 1 + 1 := by omega
      have z4 : ¬ 9223372036854775807 < l.length + 2 + 1 := by omega
      have z5 : ¬ 9223372036854775807 < l.length + 2 + 1 + 1 := by omega
      have j1 : 0 ≤ (i : Int) ∧ (i : Int) < 16 := ⟨by omega, hi⟩
      have wi : wrap64 ((i : Int) + 1) = (i : Int) + 1 := by unfold wrap64; omega
      have HIG := Lib.hid hig
      by_cases h4 : i % 4 = 0
      · have hm := mod4_yes h4
        have hm2 := mod4_t h4
        have H4 := Lib.hid h4
        clear hbd hbl hx hy hx1 hy1 hl hlen hig h4
        go_upto_region 7 with fail
        obtain ⟨a1, a2, a3, a4, i1, i2⟩ := HA.out
        go_quiet (fail)
        clear a1 a2 a3 a4 i1 i2 zx zy
        all_goals
          go_wp2_with fail
          go_roundg g
          case measure => exact Nat.lt_succ_self _
          case rel => exact ⟨i + 1, _, (Nat.add_right_comm i 1 g).trans HIG.out, by rw [HT.out, Po.hexAt, if_pos H4.out, HXY.out.1, HXY.out.2, HZY.out]; exact congrArg Value.string (cat_hex4 l _ _), by first | rfl | simp [wi], rfl⟩
      · have hm := mod4_no h4
        have hm2 := mod4_tn h4
        have H4 := Lib.hid h4
        clear hbd hbl hx hy hx1 hy1 hl hlen hig h4
        go_upto_region 7 with fail
        obtain ⟨a1, a2, a3, a4, i1, i2⟩ := HA.out
        go_quiet (fail)
        clear a1 a2 a3 a4 i1 i2 zx zy
        all_goals
          go_wp2_with fail
          go_roundg g
          case measure => exact Nat.lt_succ_self _
          case rel => exact ⟨i + 1, _, (Nat.add_right_comm i 1 g).trans HIG.out, by rw [HT.out, Po.hexAt, if_neg H4.out, HXY.out.1, HXY.out.2, HZY.out]; exact congrArg Value.string (cat_hex2 l _ _), by first | rfl | simp [wi], rfl⟩
end Go.Proofs.YtdolpmmnjndfkaaGreatDoor
