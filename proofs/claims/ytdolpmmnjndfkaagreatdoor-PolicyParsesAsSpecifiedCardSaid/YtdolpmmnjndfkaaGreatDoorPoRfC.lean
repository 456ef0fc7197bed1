/- Chapter 29, the walk: class, sign, number and Tokens of the reference. -/
import Derived.Test.YtdolpmmnjndfkaaGreatDoorPoRfA
import Derived.Test.YtdolpmmnjndfkaaGreatDoorPoLxA
import Derived.Test.YtdolpmmnjndfkaaGreatDoorPoTok
import Derived.Deep.LoopGhost
import Derived.Lib.Strings
import Derived.Test.YtdolpmmnjndfkaaGreatDoorPoLxD
import Derived.Maps.AppendAt
import Derived.OwnWalk
namespace Go.Proofs.YtdolpmmnjndfkaaGreatDoor
open Go.RowKit
theorem cls_nat (b : UInt8) : Po.cls b = if (97 ≤ b.toNat ∧ b.toNat ≤ 122) ∨ (65 ≤ b.toNat ∧ b.toNat ≤ 90) then 1 else if 48 ≤ b.toNat ∧ b.toNat ≤ 57 then 2 else if b.toNat = 95 then 3 else if b.toNat = 9 ∨ b.toNat = 10 ∨ b.toNat = 32 then 4 else 0 := by
  unfold Po.cls Po.blank
  rw [Po.letter_nat, Po.digit_nat]
  simp only [Bool.or_eq_true, decide_eq_true_eq, Po.eq_iff8, beq_iff_eq, UInt8.toNat_ofNat, Nat.reducePow, Nat.reduceMod]
  repeat' split
  all_goals first | rfl | omega
theorem rl_class (b : UInt8) (w : World) :
    Calls Tryz.prog 28 #[.int .u8 (b.toNat : Int)] w fun e w' => e = .returned (.int .i64 (Po.cls b : Nat)) ∧ w' = w := by
  have HC := Lib.hid (cls_nat b)
  have hb := b.toNat_lt
  obtain ⟨n, hn⟩ : ∃ n, b.toNat = n := ⟨_, rfl⟩
  rw [hn] at HC hb ⊢
  have HB := Lib.hid hb
  clear hn hb
  go_enter Tryz.func28, Tryz.ntmps28
  go_wp2_with fail
  all_goals (go_ret; refine ⟨ret_int ?_, rfl⟩; rw [HC.out]; have := HB.out; (try simp only [beq_iff_eq, beq_eq_false_iff_ne, ne_eq] at *); (repeat' split); all_goals first | rfl | omega)
namespace Po
def signOne (n : Nat) : Nat := if n = 123 ∨ n = 125 ∨ n = 40 ∨ n = 41 ∨ n = 59 ∨ n = 61 ∨ n = 43 ∨ n = 45 ∨ n = 42 ∨ n = 60 ∨ n = 33 then 1 else 0
def signTwo (l : List UInt8) : Bool := l = [61, 61] ∨ l = [38, 38] ∨ l = [124, 124] ∨ l = [62, 61]
theorem signOne_find (c : UInt8) : lenOf (([[123], [125], [40], [41], [59], [61], [43], [45], [42], [60], [33]] : List (List UInt8)).find? fun w => w.isPrefixOf [c]) = signOne c.toNat := by
  revert c
  have h : ∀ n : Fin 256, lenOf (([[123], [125], [40], [41], [59], [61], [43], [45], [42], [60], [33]] : List (List UInt8)).find? fun w => w.isPrefixOf [UInt8.ofNat n.val]) = signOne n.val := by decide +kernel
  intro c
  have := h ⟨c.toNat, c.toNat_lt⟩
  simpa using this
theorem pre_one (a c : UInt8) (r : List UInt8) : [a].isPrefixOf (c :: r) = [a].isPrefixOf [c] := by simp [List.isPrefixOf]
theorem pre_two (a b c d : UInt8) (r : List UInt8) : [a, b].isPrefixOf (c :: d :: r) = decide ([c, d] = [a, b]) := by
  simp only [List.isPrefixOf, Bool.and_true]
  rw [Bool.eq_iff_iff]
  simp
  exact ⟨fun h => ⟨h.1.symm, h.2.symm⟩, fun h => ⟨h.1.symm, h.2.symm⟩⟩
theorem pre_short (a b c : UInt8) : [a, b].isPrefixOf [c] = false := by simp [List.isPrefixOf]
theorem signLen_one (c : UInt8) : signLen [c] = signOne c.toNat := by
  rw [← signOne_find]
  unfold signLen ops
  simp only [List.find?_cons, pre_short]
theorem signLen_two (c d : UInt8) (r : List UInt8) : signLen (c :: d :: r) = if signTwo [c, d] then 2 else signOne c.toNat := by
  rw [← signOne_find]
  unfold signLen ops signTwo
  simp only [List.find?_cons, pre_two, pre_one _ c (d :: r)]
  by_cases h1 : [c, d] = [61, 61]
  · simp [h1, lenOf]
  by_cases h2 : [c, d] = [38, 38]
  · simp [h2, lenOf]
  by_cases h3 : [c, d] = [124, 124]
  · simp [h3, lenOf]
  by_cases h4 : [c, d] = [62, 61]
  · simp [h4, lenOf]
  simp only [h1, h2, h3, h4, decide_false, or_self, Bool.false_eq_true, if_false, List.find?_nil]
end Po
set_option maxRecDepth 1000000 in
theorem rl_sign (s : ByteArray) (i : Nat) (w : World) (h : i < s.size) (hm : s.size ≤ 1500) :
    Calls Tryz.prog 29 #[.string s, .int .i64 i] w fun e w' => e = .returned (.int .i64 (Po.signLen (s.data.toList.drop i) : Nat)) ∧ w' = w := by
  have w2 : wrap64 ((i : Int) + 2) = (i : Int) + 2 := by unfold wrap64; omega
  have hi2 : 0 ≤ (i : Int) ∧ (i : Int) < s.size := by omega
  obtain ⟨c, hc⟩ : ∃ c, s.data.toList[i]? = some c := ⟨_, Po.at_byte h⟩
  have hcn : s[i].toNat = c.toNat := by
    have := Po.at_byte h
    rw [hc] at this
    simp at this
    rw [this]
  obtain ⟨n, hn⟩ : ∃ n, c.toNat = n := ⟨_, rfl⟩
  have hd := Po.drop_at hc
  by_cases h2 : i + 2 ≤ s.size
  · have h2' : (i : Int) + 2 ≤ s.size := by omega
    obtain ⟨d, hdd⟩ : ∃ d, s.data.toList[i + 1]? = some d := ⟨_, Po.at_byte (by omega)⟩
    have hd2 := Po.drop_at hdd
    obtain ⟨z, hz⟩ : ∃ z : ByteArray, s.extract i (i + 2) = z := ⟨_, rfl⟩
    have hzd : z.data.toList = [c, d] := by
      rw [← hz]
      simp only [ByteArray.data_extract, Array.toList_extract, List.extract_eq_take_drop]
      rw [hd, hd2, show i + 2 - i = 2 by omega]
      rfl
    have HX := Lib.hid (show Po.signLen (s.data.toList.drop i) = if Po.signTwo z.toList then 2 else Po.signOne n by
      rw [hd, hd2, Po.signLen_two, hn, Lib.toList_data, hzd])
    clear hd hd2 hzd hdd h2 hc
    go_enter Tryz.func29, Tryz.ntmps29
    go_wp2_with fail
    all_goals (go_ret; refine ⟨ret_int ?_, rfl⟩; rw [HX.out]; clear HX; simp only [Po.signTwo, Po.signOne]; (try simp only [beq_iff_eq, beq_eq_false_iff_ne, ne_eq] at *); grind (splits := 30))
  · have h2' : (s.size : Int) < (i : Int) + 2 := by omega
    have HX := Lib.hid (show Po.signLen (s.data.toList.drop i) = Po.signOne n by
      rw [hd, List.drop_eq_nil_of_le (by simp; omega), Po.signLen_one, hn])
    clear hd h2 hc
    go_enter Tryz.func29, Tryz.ntmps29
    go_wp2_with fail
    all_goals (go_ret; refine ⟨ret_int ?_, rfl⟩; rw [HX.out]; clear HX; simp only [Po.signOne]; (try simp only [beq_iff_eq, beq_eq_false_iff_ne, ne_eq] at *); grind (splits := 30))
theorem wrap_s {x : Int} (h : -1000000000 ≤ x ∧ x ≤ 1000000000) : wrap64 x = x := by unfold wrap64; omega
theorem num_step {v x : Nat} (h1 : 48 ≤ x ∧ x ≤ 57) (h2 : v < 100000) : wrap64 (wrap64 (wrap64 (10 * (v : Int)) + wrap64 x) - 48) = ((10 * v + (x - 48) : Nat) : Int) := by
  rw [wrap_s (x := 10 * (v : Int)) (by omega), wrap_s (x := (x : Int)) (by omega), wrap_s (x := 10 * (v : Int) + x) (by omega), wrap_s (by omega)]
  omega
/-- the value of a word of digits, or -1 -/
def Po.numOf (l : List UInt8) : Int := if Po.numOK l then (Po.value l : Int) else -1
theorem Po.value_lt : ∀ (l : List UInt8), (∀ c ∈ l, Po.digit c = true) → Po.value l < 10 ^ l.length := by
  intro l
  induction l using Po.snoc_ind with
  | nil => intro _; simp [Po.value]
  | append_singleton l c ih =>
    intro h
    have hc := h c (by simp)
    have I := ih (fun x hx => h x (by simp [hx]))
    rw [Po.digit_nat] at hc
    simp only [decide_eq_true_eq] at hc
    rw [Po.value_app1, List.length_append, List.length_singleton, Nat.pow_succ]
    omega
set_option maxRecDepth 1000000 in
set_option maxHeartbeats 2000000 in
theorem rl_number (s : ByteArray) (w : World) (h : ∀ c ∈ s.data.toList, Po.digit c = true) (h0 : 0 < s.size) (hm : s.size ≤ 1500) :
    Calls Tryz.prog 30 #[.string s] w fun e w' => e = .returned (.int .i64 (Po.numOf s.data.toList)) ∧ w' = w := by
  have hl : s.data.toList.length = s.size := by simp
  obtain ⟨c, hc⟩ : ∃ c, s.data.toList[0]? = some c := ⟨_, Po.at_byte h0⟩
  have hcn : (s[0]'h0).toNat = c.toNat := by
    have := Po.at_byte h0
    rw [hc] at this
    simp at this
    rw [this]
  have hhd : s.data.toList.head? = some c := by rw [List.head?_eq_getElem?]; exact hc
  have H0 := Lib.hid (And.intro hl (And.intro hhd h))
  by_cases h5 : (5 : Int) < s.size
  · have HX := Lib.hid (show Po.numOf s.data.toList = -1 by
      unfold Po.numOf Po.numOK
      rw [if_neg (by rw [hl]; simp; omega)])
    go_enter Tryz.func30, Tryz.ntmps30
    go_wp2_with fail
    go_ret
    exact ⟨ret_int HX.out.symm, rfl⟩
  have H5 := Lib.hid h5
  clear hl hhd h hc
  obtain ⟨c0, hc0⟩ : ∃ c0, c.toNat = c0 := ⟨_, rfl⟩
  by_cases hz : c0 = 48 ∧ 1 < s.size
  · have HX := Lib.hid (show Po.numOf s.data.toList = -1 by
      unfold Po.numOf Po.numOK
      have e1 : c = 48 := by rw [Po.eq_iff8]; exact hc0.trans hz.1
      have h2 : 1 < s.data.toList.length := by rw [H0.out.1]; omega
      rw [if_neg (by rw [H0.out.2.1, e1]; simp at h2; simp [h2])])
    obtain ⟨hz1, hz2⟩ := hz
    have hz2' : (1 : Int) < s.size := by omega
    subst hz1
    clear hz2
    go_enter Tryz.func30, Tryz.ntmps30
    go_wp2_with fail
    go_ret
    exact ⟨ret_int HX.out.symm, rfl⟩
  · have HX := Lib.hid (show Po.numOf s.data.toList = if (65535 : Int) < Po.value s.data.toList then -1 else (Po.value s.data.toList : Int) by
      unfold Po.numOf Po.numOK
      have e1 : (c = 48 ∧ 1 < s.data.toList.length) ↔ (c0 = 48 ∧ 1 < s.size) := by rw [Po.eq_iff8, H0.out.1, hc0]; rfl
      have e2 : s.data.toList.length ≤ 5 := by rw [H0.out.1]; omega
      rw [H0.out.2.1]
      simp only [e2, decide_true, Bool.true_and]
      have e3 : (!(some c == some (48 : UInt8) && decide (1 < s.data.toList.length))) = true := by
        simp only [Bool.not_eq_true', Bool.and_eq_false_iff, beq_eq_false_iff_ne, ne_eq, Option.some.injEq, decide_eq_false_iff_not]
        by_cases hcc : c = 48
        · right; intro h; exact hz (e1.1 ⟨hcc, h⟩)
        · left; exact hcc
      rw [e3, Bool.true_and]
      by_cases h65 : Po.value s.data.toList < 65536
      · have h66 : ¬ (65535 : Int) < Po.value s.data.toList := by omega
        rw [if_neg h66, if_pos (by simpa using h65)]
      · have h66 : (65535 : Int) < Po.value s.data.toList := by omega
        rw [if_pos h66, if_neg (by simpa using h65)])
    have HV := Lib.hid (fun i (hi : i ≤ s.size) => show Po.value (s.data.toList.take i) < 100000 by
      have h1 := Po.value_lt (s.data.toList.take i) (fun c hc => H0.out.2.2 c (List.mem_of_mem_take hc))
      have h2 : (s.data.toList.take i).length ≤ 5 := by rw [List.length_take, H0.out.1]; omega
      exact Nat.lt_of_lt_of_le h1 (Nat.pow_le_pow_right (by decide) h2))
    have HQ := Lib.hid hz
    clear hz
    have hdec : ((c0 : Int) == 48) = false ∨ (((c0 : Int) == 48) = true ∧ ¬ (1 : Int) < s.size) := by
      by_cases h : (c0 : Int) = 48
      · right; exact ⟨by simpa using h, by have := HQ.out; omega⟩
      · left; simpa using h
    have HD := Lib.hid hdec
    clear hdec
    obtain ⟨A, hA⟩ : ∃ A, Po.numOf s.data.toList = A := ⟨_, rfl⟩
    rw [hA] at HX ⊢
    clear hA
    have H0S := Lib.hid h0
    have HM := Lib.hid hm
    rcases HD.out with hd | ⟨hd, hd1⟩
    all_goals
      go_enter Tryz.func30, Tryz.ntmps30
      go_wp2_with fail
      go_loopg [3, 4] s.size (fun g s3 s4 wr => ∃ i : Nat, i + g = s.size ∧ s3 = .int .i64 ((Po.value (s.data.toList.take i) : Nat) : Int) ∧ s4 = .int .i64 i ∧ wr = w)
      case atStart => exact ⟨0, by omega, rfl, rfl, rfl⟩
      case round =>
        obtain ⟨i, hig, rfl, rfl, rfl⟩ := hrel
        cases gk with
        | zero =>
          have hi : ¬ (i : Int) < s.size := by omega
          have ht : s.data.toList.take i = s.data.toList := List.take_of_length_le (by rw [H0.out.1]; omega)
          rw [ht]
          clear ht hig
          obtain ⟨v, hv⟩ : ∃ v, Po.value s.data.toList = v := ⟨_, rfl⟩
          rw [hv] at HX ⊢
          clear hv
          by_cases h65 : (65535 : Int) < v
          · have HY := Lib.hid (HX.out.trans (if_pos h65))
            go_wp2_with fail
            go_ret
            exact ⟨ret_int HY.out.symm, rfl⟩
          · have HY := Lib.hid (HX.out.trans (if_neg h65))
            go_wp2_with fail
            go_ret
            exact ⟨ret_int HY.out.symm, rfl⟩
        | succ g =>
          have hi : i < s.size := by omega
          have hi1 : (i : Int) < s.size := by omega
          have hi2 : 0 ≤ (i : Int) ∧ (i : Int) < s.size := by omega
          have hil : i < s.data.toList.length := by rw [H0.out.1]; exact hi
          have hx := Po.at_byte hi
          have HN := Lib.hid (show Po.value (s.data.toList.take (i + 1)) = 10 * Po.value (s.data.toList.take i) + ((s[i]'hi).toNat - 48) by
            rw [List.take_succ_eq_append_getElem hil, Po.value_app1]
            rw [List.getElem?_eq_getElem hil] at hx
            simp only [Option.some.injEq] at hx
            rw [hx])
          have HDG := Lib.hid (show 48 ≤ (s[i]'hi).toNat ∧ (s[i]'hi).toNat ≤ 57 by
            have h1 := H0.out.2.2 _ (List.mem_of_getElem? hx)
            rw [Po.digit_nat] at h1
            simpa using h1)
          have HVI := Lib.hid (HV.out i (Nat.le_of_lt hi))
          have w1 : wrap64 ((i : Int) + 1) = (i : Int) + 1 := by have := HM.out; unfold wrap64; omega
          obtain ⟨x, hxx⟩ : ∃ x, (s[i]'hi).toNat = x := ⟨_, rfl⟩
          obtain ⟨v, hv⟩ : ∃ v, Po.value (s.data.toList.take i) = v := ⟨_, rfl⟩
          rw [hxx] at HN HDG
          rw [hv] at HN HVI ⊢
          have HIG := Lib.hid hig
          clear hx hv hil hig
          go_wp2_with fail
          go_roundg g
          case measure => exact Nat.lt_succ_self _
          case rel =>
            refine ⟨i + 1, by have := HIG.out; omega, ?_, by first | rfl | exact congrArg (Value.int .i64) w1, rfl⟩
            rw [HN.out]
            have h1 := HDG.out
            have h2 := HVI.out
            refine congrArg (Value.int .i64) ?_
            exact num_step h1 h2
end Go.Proofs.YtdolpmmnjndfkaaGreatDoor
namespace Go.Proofs.YtdolpmmnjndfkaaGreatDoor
open Go.RowKit
namespace Po
theorem run_stop {T : List UInt8} {i n : Nat} (p : UInt8 → Bool) (hin : i ≤ n) (hall : ∀ j, i ≤ j → j < n → ∃ b, T[j]? = some b ∧ p b = true) (hstop : ∀ b, T[n]? = some b → p b = false) :
    (T.drop i).takeWhile p = (T.drop i).take (n - i) ∧ ((T.drop i).takeWhile p).length = n - i ∧ (T.drop i).dropWhile p = T.drop n := by
  have hl : ((T.drop i).takeWhile p).length = n - i := takeWhile_len p _ _ (fun j hj => by
    obtain ⟨b, h1, h2⟩ := hall (i + j) (by omega) (by omega)
    exact ⟨b, by rw [List.getElem?_drop]; exact h1, h2⟩) (fun b hb => by
    rw [List.getElem?_drop, show i + (n - i) = n by omega] at hb
    exact hstop b hb)
  have ht : (T.drop i).takeWhile p = (T.drop i).take (n - i) := by
    rw [← hl]
    exact (List.prefix_iff_eq_take.1 (List.takeWhile_prefix (l := T.drop i) p))
  refine ⟨ht, hl, ?_⟩
  have := List.takeWhile_append_dropWhile (p := p) (l := T.drop i)
  have h2 := congrArg (List.drop (n - i)) this
  rw [List.drop_append_of_le_length (by omega), List.drop_eq_nil_of_le (by omega), List.nil_append, List.drop_drop, show i + (n - i) = n by omega] at h2
  exact h2
theorem next_word {T : List UInt8} {i n : Nat} {c : UInt8} (hc : T[i]? = some c) (h1 : cls c = 1) (hin : i < n) (hall : ∀ j, i < j → j < n → ∃ b, T[j]? = some b ∧ word b = true) (hstop : ∀ b, T[n]? = some b → word b = false) :
    next (T.drop i) = if 12 < n - i then none else some ⟨1, (T.drop i).take (n - i), 0⟩ := by
  obtain ⟨e1, e2, -⟩ := run_stop word (Nat.le_of_lt hin) (fun j h2 h3 => by
    by_cases e : j = i
    · subst e; exact ⟨c, hc, by rw [cls_word]; exact .inl h1⟩
    · exact hall j (by omega) h3) hstop
  rw [← e1, ← e2]
  have hd := drop_at hc
  rw [hd]
  simp only [next, cls_letter.1 h1, if_true]
theorem next_num {T : List UInt8} {i n : Nat} {c : UInt8} (hc : T[i]? = some c) (h1 : cls c = 2) (hin : i < n) (hall : ∀ j, i < j → j < n → ∃ b, T[j]? = some b ∧ digit b = true) (hstop : ∀ b, T[n]? = some b → digit b = false) :
    next (T.drop i) = (if numOK ((T.drop i).take (n - i)) && !T[n]?.any word then some ⟨2, (T.drop i).take (n - i), value ((T.drop i).take (n - i))⟩ else none) ∧ ∀ x ∈ (T.drop i).take (n - i), digit x = true := by
  have hl : letter c = false := by cases h : letter c <;> simp_all [cls]
  have hdg := (cls_digit hl).1 h1
  obtain ⟨e1, e2, e3⟩ := run_stop digit (Nat.le_of_lt hin) (fun j h2 h3 => by
    by_cases e : j = i
    · subst e; exact ⟨c, hc, hdg⟩
    · exact hall j (by omega) h3) hstop
  refine ⟨?_, fun x hx => ?_⟩
  · rw [← e1]
    have e4 : ((T.drop i).dropWhile digit).head? = T[n]? := by rw [e3, List.head?_drop]
    rw [← e4]
    have hd := drop_at hc
    rw [hd]
    simp only [next, hl, hdg, if_true, Bool.false_eq_true, if_false]
  · rw [← e1] at hx
    exact List.all_eq_true.1 List.all_takeWhile x hx
end Po
theorem tok_info : (Tryz.prog.info? 62).map (fun i => (i.zero, i.size, i.bytes)) = some (some (.agg #[.int .i64 0, .string ⟨#[]⟩, .int .i64 0, .int .i64 0]), 4, 40) := by kernel_rfl
theorem ext_mid (s : ByteArray) (i n : Nat) : (s.extract i n).data.toList = (s.data.toList.drop i).take (n - i) := by
  simp only [ByteArray.data_extract, Array.toList_extract, List.extract_eq_take_drop]

theorem nums {i m n s : Nat} (hn : i + (m + 1) = n) (h : n ≤ s) (hs : s ≤ 1500) : wrap64 ((i : Int) + ((m : Int) + 1)) = n ∧ (0 ≤ (i : Int) ∧ (i : Int) ≤ (n : Int) ∧ (n : Int) ≤ s) ∧ n - i = m + 1 ∧ i < n := by
  refine ⟨?_, by omega, by omega, by omega⟩
  rw [wrap_s (by omega)]
  omega
theorem fits {n : Nat} (h : n ≤ 1500) : n + 1 ≤ maxLen ∧ (n + 1) * 40 ≤ 140737488355328 := by unfold maxLen; omega
theorem few {i s n : Nat} (h : n ≤ i) (hi : i < s) (hs : s ≤ 1500) : n ≤ 1500 := by omega
theorem gas_down {s i n g : Nat} (h : s - i < g) (hi : i < s) (hn : i < n) : s - n + 1 < g := by omega
theorem gas_down' {s i n g : Nat} (h : s - i < g) (hi : i < s) (hn : i < n) : s - n + 1 + 1 ≤ g := by omega
theorem wrap_one {i s : Nat} (h : i < s) (hs : s ≤ 1500) : wrap64 ((i : Int) + 1) = ((i + 1 : Nat) : Int) := by rw [wrap_s (by omega)]; omega
theorem len_take {T : List UInt8} {i m s n : Nat} (hT : T.length = s) (hn : i + (m + 1) = n) (h : n ≤ s) : ((T.drop i).take (m + 1)).length = n - i := by rw [List.length_take, List.length_drop, hT]; omega
theorem cls_cases (b : UInt8) : Po.cls b = 0 ∨ Po.cls b = 1 ∨ Po.cls b = 2 ∨ Po.cls b = 3 ∨ Po.cls b = 4 := by have := Po.cls_le b; omega
theorem cls_nw {b : UInt8} (h : Po.cls b = 0 ∨ Po.cls b = 4) : Po.word b = false := by
  cases e : Po.word b with
  | false => rfl
  | true => rw [Po.cls_word] at e; omega
theorem cls_nd {b : UInt8} (h : Po.cls b ≠ 2) : Po.digit b = false := by
  cases e : Po.digit b with
  | false => rfl
  | true =>
    cases hl : Po.letter b with
    | true =>
      rw [Po.digit_nat] at e
      rw [Po.letter_nat] at hl
      simp at e hl
      omega
    | false => exact absurd ((Po.cls_digit hl).2 e) h
theorem cls_d {b : UInt8} (h : Po.cls b = 2) : Po.digit b = true := by
  cases hl : Po.letter b with
  | true => rw [Po.cls_letter.2 hl] at h; cases h
  | false => exact (Po.cls_digit hl).1 h
theorem size_facts {i n s : Nat} (h : i < n) (hn : n ≤ s) (hs : s ≤ 1500) : wrap64 ((n : Int) - (i : Int)) = (n : Int) - (i : Int) ∧ (0 ≤ (i : Int) ∧ (i : Int) ≤ (n : Int) ∧ (n : Int) ≤ s) ∧ n - i ≤ 1500 ∧ 0 < n - i := by
  refine ⟨?_, by omega, by omega, by omega⟩
  rw [wrap_s (by omega)]
theorem at_pos {n s : Nat} (h : n < s) : (n : Int) < s ∧ (0 ≤ (n : Int) ∧ (n : Int) < s) := by omega
theorem at_end' {n s : Nat} (h : n ≤ s) (h2 : ¬ n < s) : n = s ∧ ¬ (n : Int) < s := by omega
theorem more_in {i n : Nat} {T : List UInt8} {p : UInt8 → Bool} {b : UInt8} (hall : ∀ j, i < j → j < n → ∃ b, T[j]? = some b ∧ p b = true) (hb : T[n]? = some b) (hp : p b = true) : ∀ j, i < j → j < n + 1 → ∃ b, T[j]? = some b ∧ p b = true := fun j h1 h2 => by
  by_cases e : j = n
  · subst e; exact ⟨b, hb, hp⟩
  · exact hall j h1 (by omega)
theorem gas3 {s n g : Nat} (h : s - n ≤ g) (hn : n < s) : s - (n + 1) ≤ g - 1 ∧ g - 1 < g := by omega
theorem not_in (i n : Nat) (h : n = i + 1) {P : Nat → Prop} : ∀ j, i < j → j < n → P j := fun j h1 h2 => by omega
theorem ge_none {T : List UInt8} {n : Nat} (h : T.length ≤ n) (b : UInt8) : T[n]? ≠ some b := by rw [List.getElem?_eq_none h]; simp
theorem cast12 {n i : Nat} (h : 12 < n - i) : (12 : Int) < (n : Int) - (i : Int) := by omega
theorem ncast12 {n i : Nat} (h : ¬ 12 < n - i) (_ : i < n) : ¬ (12 : Int) < (n : Int) - (i : Int) := by omega
theorem len_mid {T : List UInt8} {i n s : Nat} (hT : T.length = s) (hin : i < n) (h : n ≤ s) : ((T.drop i).take (n - i)).length = n - i := by rw [List.length_take, List.length_drop, hT]; omega
theorem cast_s (k : Nat) : Value.int .i64 ((k : Int) + 1) = Value.int .i64 ((k + 1 : Nat) : Int) := by rw [Int.natCast_succ]
theorem not_neg (v : Nat) : ¬ (v : Int) < 0 := by omega
/-- the state at the head of the loop -/
def LexSt (w : World) (T : List UInt8) (i : Nat) (ks : List (Po.Tok × Nat)) (v : Value) (wr : World) : Prop :=
  Po.LexAt T i (ks.map (·.1)) ∧ wr.ownsRow w.heap.size 62 4 v ks.length (toksFlat ks) ∧ Below w.heap.size w wr
theorem lex_fails {T : List UInt8} {w w' : World} (hT : T.length ≤ 1500) (h : Po.lex T = none) (hb : Below w.heap.size w w') : TokSays T w (.returned (.tuple #[.slice none 0 0, .int .i64 3])) w' := by
  unfold TokSays Po.toks
  rw [if_neg (by omega), h]
  exact ⟨_, rfl, ⟨none, 0, rfl, Nat.le_refl _, Nat.zero_le _, fun h => by simp at h⟩, hb⟩
theorem lex_done {T : List UInt8} {w wr : World} {ks : List (Po.Tok × Nat)} {v : Value} (hT : T.length ≤ 1500) (h : LexSt w T T.length ks v wr) : TokSays T w (.returned (.tuple #[v, .int .i64 0])) wr := by
  unfold TokSays Po.toks
  rw [if_neg (by omega), h.1.fin]
  exact ⟨v, rfl, RToks.of_own h.2.1, h.2.2⟩
/-- one token more -/
theorem lex_push {T : List UInt8} {w wr wx w4 : World} {i n : Nat} {ks : List (Po.Tok × Nat)} {v v' : Value} {t : Po.Tok} {c : UInt8} {news : List Value} (h : LexSt w T i ks v wr) (hc : T[i]? = some c) (hb : Po.cls c ≠ 4) (hn : Po.next (T.drop i) = some t) (hin : i < n) (hl : n ≤ T.length) (ht : t.t.length = n - i)
    (hx : Below wr.heap.size wr wx) (hown : w4.ownsRow w.heap.size 62 4 v' (ks.length + 1) (toksFlat ks ++ news)) (hnw : news = tokCells (t, i)) (hg : wx.grownBy w4 v.ownBlock) : LexSt w T n (ks ++ [(t, i)]) v' w4 := by
  refine ⟨?_, own_snoc hown hnw, ?_⟩
  · have := h.1.step hc hb hn (by omega) (by omega)
    rw [ht, show i + (n - i) = n by omega] at this
    simpa using this
  · exact (h.2.2.trans (hx.mono h.2.2.size)).grown hg (Nat.le_trans h.2.2.size hx.size) (fun j hj => (h.2.1.lt j hj).1)
set_option maxRecDepth 1000000 in
set_option maxHeartbeats 8000000 in
theorem ref_tokens (text : ByteArray) (w : World) (hm : text.size ≤ 1500) :
    Calls Tryz.prog 12 #[.string text] w (TokSays text.data.toList w) := by
  obtain ⟨S, hS⟩ : ∃ S, TokSays text.data.toList w = S := ⟨_, rfl⟩
  rw [hS]
  have hT : text.data.toList.length = text.size := by simp
  obtain ⟨i0, hi, hz0, hz1, hz2⟩ := info_parts tok_info
  have hsz' : ¬ (1500 : Int) < text.size := by omega
  have HT := Lib.hid (And.intro hT hm)
  have HFAIL := Lib.hid (fun (h : Po.lex text.data.toList = none) w' (hb : Below w.heap.size w w') => show S (.returned (.tuple #[.slice none 0 0, .int .i64 3])) w' by
    rw [← hS]; exact lex_fails (by rw [hT]; exact hm) h hb)
  have HDONE := Lib.hid (fun ks v wr (h : LexSt w text.data.toList text.size ks v wr) => show S (.returned (.tuple #[v, .int .i64 0])) wr by
    rw [← hS]; rw [← hT] at h; exact lex_done (by rw [hT]; exact hm) h)
  clear hS hT hm
  go_enter Tryz.func12, Tryz.ntmps12
  go_wp2_with fail
  go_loopg [4, 5] (text.size + 1) (fun g s4 s5 wr => ∃ (i : Nat) (ks : List (Po.Tok × Nat)), s5 = .int .i64 i ∧ Aside (text.size - i < g) ∧ Hid (LexSt w text.data.toList i ks s4 wr))
  case atStart => exact ⟨0, [], rfl, show text.size - 0 < text.size + 1 by omega, Lib.hid ⟨Po.LexAt.start _, World.ownsRow_nil _ _ _ _, Below.refl _ _⟩⟩
  case round =>
    obtain ⟨i, ks, rfl, HGK, HL⟩ := hrel
    have hile : i ≤ text.size := by have := HL.out.1.1; rw [HT.out.1] at this; exact this
    by_cases hit : i < text.size
    rotate_left
    · obtain rfl : i = text.size := by omega
      have hn : ¬ (text.size : Int) < text.size := by omega
      clear hile hit
      go_wp2_with fail
      exact HDONE.out _ _ _ HL.out
    have hi1 : (i : Int) < text.size := by omega
    have hi2 : 0 ≤ (i : Int) ∧ (i : Int) < text.size := by omega
    have hx := Po.at_byte hit
    obtain ⟨c, hc⟩ : ∃ c, (text[i]'hit) = c := ⟨_, rfl⟩
    rw [hc] at hx
    have hcn : (text[i]'hit).toNat = c.toNat := by rw [hc]
    have HX := Lib.hid hx
    have HI := Lib.hid (And.intro hit hile)
    have W1 := Lib.hid (wrap_one hit HT.out.2)
    obtain ⟨K, hK⟩ : ∃ K, Po.cls c = K := ⟨_, rfl⟩
    have HK := Lib.hid hK
    have hKle := Po.cls_le c
    rw [hK] at hKle
    clear hc hile
    have hcase : K = 4 ∨ K = 3 ∨ K = 0 ∨ K = 1 ∨ K = 2 := by omega
    clear hKle
    rcases hcase with rfl | rfl | rfl | rfl | rfl
    · go_wp2_with (go_at_call 28; refine (rl_class c _).mono ?_; rintro e w' ⟨rfl, hw⟩; rw [hw]; clear hw w'; rw [hK])
      go_roundg (text.size - (i + 1) + 1)
      case measure => exact gas_down HGK.out HI.out.1 (Nat.lt_succ_self _)
      case rel => exact ⟨i + 1, ks, by first | with_reducible rfl | exact congrArg (Value.int .i64) W1.out | exact cast_s i, Nat.lt_succ_self _, Lib.hid ⟨HL.out.1.skip HX.out HK.out, HL.out.2⟩⟩
    · go_wp2_with (go_at_call 28; refine (rl_class c _).mono ?_; rintro e w' ⟨rfl, hw⟩; rw [hw]; clear hw w'; rw [hK])
      exact HFAIL.out (HL.out.1.fail HX.out (by rw [HK.out]; decide) (by rw [Po.drop_at HX.out]; exact Po.next_cls3 HK.out)) _ HL.out.2.2
    · obtain ⟨m, hmm⟩ : ∃ m, Po.signLen (text.data.toList.drop i) = m := ⟨_, rfl⟩
      have HMM := Lib.hid hmm
      have HNX := Lib.hid (show Po.next (text.data.toList.drop i) = (Po.ops.find? fun w => w.isPrefixOf (text.data.toList.drop i)).map fun w => ⟨3, w, 0⟩ by
        rw [Po.drop_at HX.out]; exact Po.next_cls0 HK.out)
      cases m with
      | zero =>
        go_wp2_with (first
          | (go_at_call 28; refine (rl_class c _).mono ?_; rintro e w' ⟨rfl, hw⟩; rw [hw]; clear hw w'; rw [hK])
          | (go_at_call 29; refine (rl_sign text i _ HI.out.1 HT.out.2).mono ?_; rintro e w' ⟨rfl, hw⟩; rw [hw]; clear hw w'; rw [hmm]))
        exact HFAIL.out (HL.out.1.fail HX.out (by rw [HK.out]; decide) (by rw [HNX.out, Po.signLen_none HMM.out]; rfl)) _ HL.out.2.2
      | succ m =>
        have hso := Po.signLen_some hmm
        obtain ⟨n, hn⟩ : ∃ n, i + (m + 1) = n := ⟨_, rfl⟩
        have hnl : n ≤ text.size := by have := hso.2.1; rw [List.length_drop, HT.out.1] at this; omega
        obtain ⟨w2, hsl, hni, hin⟩ := nums hn hnl HT.out.2
        have HIN := Lib.hid hin
        obtain ⟨z, hz⟩ : ∃ z : ByteArray, text.extract i n = z := ⟨_, rfl⟩
        have hzd : z.data.toList = (text.data.toList.drop i).take (m + 1) := by rw [← hz, ext_mid, hni]
        have HNT := Lib.hid (show Po.next (text.data.toList.drop i) = some ⟨3, z.data.toList, 0⟩ by rw [HNX.out, hso.1, hzd]; rfl)
        have HNL := Lib.hid (And.intro hn hnl)
        have HZL := Lib.hid (show z.data.toList.length = n - i by rw [hzd]; exact len_take HT.out.1 hn hnl)
        have HLEN := Lib.hid (fits (few (show ks.length ≤ i by have := HL.out.1.2.1; rwa [List.length_map] at this) HI.out.1 HT.out.2))
        have HBW := Lib.hid HL.out.2.2.size
        clear hso hn hnl hzd hni hin
        go_wp2_with (first
          | (go_at_call 28; refine (rl_class c _).mono ?_; rintro e w' ⟨rfl, hw⟩; rw [hw]; clear hw w'; rw [hK])
          | (go_at_call 29; refine (rl_sign text i _ HI.out.1 HT.out.2).mono ?_; rintro e w' ⟨rfl, hw⟩; rw [hw]; clear hw w'; rw [hmm])
          | (at_builtin; refine wpList_append_own_at _ rfl (.tmp 36) (.tmp 45) 29 rfl w.heap.size 62 i0 _ 4 40 Tryz.underlying29 hi hz0 hz1 hz2 rfl (by decide) u4 ks.length (toksFlat ks) (by rfl) (HL.out.2.1.alloc _) ⟨wr.heap.size, 0, none⟩ 1 1 [.int .i64 3, .string z, .int .i64 0, .int .i64 i] (by rfl) (by rfl) (news_four _ _ _ _ _ _) (by simp [Value.oneCell']) HLEN.out.1 HLEN.out.2 (by rw [World.size_alloc]; exact Nat.le_succ_of_le HBW.out) ?_; intro v' w4 hown hgrow _ hat; have HO := Lib.hid hown; have HG := Lib.hid hgrow; clear hown hgrow hat))
        go_roundg (text.size - n + 1)
        case measure => exact gas_down HGK.out HI.out.1 HIN.out
        case rel => exact ⟨n, ks ++ [(⟨3, z.data.toList, 0⟩, i)], by first | rfl | exact congrArg (Value.int .i64) w2, Nat.lt_succ_self _, Lib.hid (lex_push HL.out HX.out (by rw [HK.out]; decide) HNT.out HIN.out (by rw [HT.out.1]; exact HNL.out.2) HZL.out (Below.new _) HO.out rfl HG.out)⟩
    · go_wp2_with (go_at_call 28; refine (rl_class c _).mono ?_; rintro e w' ⟨rfl, hw⟩; rw [hw]; clear hw w'; rw [hK])
      go_loopg [8] text.size (fun g s8 wx => ∃ n : Nat, s8 = .int .i64 n ∧ wx = wr ∧ Aside (i < n ∧ n ≤ text.size ∧ text.size - n ≤ g ∧ ∀ j, i < j → j < n → ∃ b, text.data.toList[j]? = some b ∧ Po.word b = true))
      case atStart => exact ⟨i + 1, by first | with_reducible rfl | exact congrArg (Value.int .i64) W1.out | exact cast_s i, rfl, ⟨Nat.lt_succ_self _, HI.out.1, Nat.sub_le _ _, not_in i _ rfl⟩⟩
      case round =>
        obtain ⟨n, rfl, hwx, HN⟩ := hrel
        subst hwx
        have hst : (∃ b, text.data.toList[n]? = some b ∧ n < text.size ∧ (Po.cls b = 1 ∨ Po.cls b = 2 ∨ Po.cls b = 3)) ∨ (∃ b, text.data.toList[n]? = some b ∧ n < text.size ∧ (Po.cls b = 0 ∨ Po.cls b = 4)) ∨ (n = text.size ∧ ¬ (n : Int) < text.size) := by
          by_cases hns : n < text.size
          · have hx := Po.at_byte hns
            rcases cls_cases (text[n]'hns) with h | h | h | h | h
            · exact .inr (.inl ⟨_, hx, hns, .inl h⟩)
            · exact .inl ⟨_, hx, hns, .inl h⟩
            · exact .inl ⟨_, hx, hns, .inr (.inl h)⟩
            · exact .inl ⟨_, hx, hns, .inr (.inr h)⟩
            · exact .inr (.inl ⟨_, hx, hns, .inr h⟩)
          · exact .inr (.inr (at_end' HN.out.2.1 hns))
        have wn : n < text.size → wrap64 ((n : Int) + 1) = ((n + 1 : Nat) : Int) := fun h => wrap_one h HT.out.2
        have WN := Lib.hid wn
        clear wn
        rcases hst with ⟨b, hb, hns, hcl⟩ | hst
        · have hbn : (text[n]'hns).toNat = b.toNat := by
            have := Po.at_byte hns
            rw [hb] at this
            simp only [Option.some.injEq] at this
            rw [this]
          have HB := Lib.hid (And.intro hb (And.intro hns (Po.cls_word.2 hcl)))
          obtain ⟨n1, n2⟩ := at_pos hns
          clear hb
          rcases hcl with hcl | hcl | hcl
          all_goals
            go_wp2_with (go_at_call 28; refine (rl_class b _).mono ?_; rintro e w' ⟨rfl, hw⟩; rw [hw]; clear hw w'; rw [hcl])
            go_roundg (gk - 1)
            case measure => exact (gas3 HN.out.2.2.1 HB.out.2.1).2
            case rel => exact ⟨n + 1, by first | with_reducible rfl | exact congrArg (Value.int .i64) (WN.out HB.out.2.1) | exact cast_s n, rfl, ⟨Nat.lt_succ_of_lt HN.out.1, HB.out.2.1, (gas3 HN.out.2.2.1 HB.out.2.1).1, more_in HN.out.2.2.2 HB.out.1 HB.out.2.2⟩⟩
        · have HSTOP := Lib.hid (show ∀ b, text.data.toList[n]? = some b → Po.word b = false by
            rcases hst with ⟨b, hb, -, hcl⟩ | ⟨h1, -⟩
            · intro b' hb'
              rw [hb] at hb'
              simp only [Option.some.injEq] at hb'
              subst hb'
              exact cls_nw hcl
            · intro b' hb'
              exact absurd hb' (ge_none (by rw [HT.out.1, h1]; exact Nat.le_refl _) b'))
          have HNXT := Lib.hid (Po.next_word HX.out HK.out HN.out.1 HN.out.2.2.2 HSTOP.out)
          obtain ⟨-, hsl, hsm, hsp⟩ := size_facts HN.out.1 HN.out.2.1 HT.out.2
          obtain ⟨z, hz⟩ : ∃ z : ByteArray, text.extract i n = z := ⟨_, rfl⟩
          have hzd : z.data.toList = (text.data.toList.drop i).take (n - i) := by rw [← hz, ext_mid]
          have HZ := Lib.hid hzd
          have HLEN := Lib.hid (fits (few (show ks.length ≤ i by have := HL.out.1.2.1; rwa [List.length_map] at this) HI.out.1 HT.out.2))
          have HBW := Lib.hid HL.out.2.2.size
          clear hzd hsm hsp
          by_cases h12 : 12 < n - i
          · have h12' : (12 : Int) < (n : Int) - (i : Int) := cast12 h12
            have HF := Lib.hid (HFAIL.out (HL.out.1.fail HX.out (by rw [HK.out]; decide) (by rw [HNXT.out, if_pos h12])) _ (HL.out.2.2.alloc HL.out.2.2.size (.cells #[.int .i64 1, .string z, .int .i64 0, .int .i64 i] 62)))
            clear h12
            rcases hst with ⟨b, hb, hns, hcl | hcl⟩ | ⟨-, h1⟩
            rotate_left 2
            · go_wp2_with fail
              exact HF.out
            all_goals
              have hbn : (text[n]'hns).toNat = b.toNat := by
                have := Po.at_byte hns
                rw [hb] at this
                simp only [Option.some.injEq] at this
                rw [this]
              obtain ⟨n1, n2⟩ := at_pos hns
              clear hb
              go_wp2_with (go_at_call 28; refine (rl_class b _).mono ?_; rintro e w' ⟨rfl, hw⟩; rw [hw]; clear hw w'; rw [hcl])
              exact HF.out
          · have h12' : ¬ (12 : Int) < (n : Int) - (i : Int) := ncast12 h12 HN.out.1
            have HNT := Lib.hid (show Po.next (text.data.toList.drop i) = some ⟨1, z.data.toList, 0⟩ by rw [HNXT.out, if_neg h12, HZ.out])
            have HZL := Lib.hid (show z.data.toList.length = n - i by rw [HZ.out]; exact len_mid HT.out.1 HN.out.1 HN.out.2.1)
            clear h12
            have HFIT := HLEN
            rcases hst with ⟨b, hb, hns, hcl | hcl⟩ | ⟨-, h1⟩
            rotate_left 2
            · go_upto_region 25 with fail
              have hb4 : Below wr.heap.size wr (wr.alloc (.cells #[.int .i64 1, .string z, .int .i64 0, .int .i64 i] 62)) := Below.new _
              have hr4 : (wr.alloc (.cells #[.int .i64 1, .string z, .int .i64 0, .int .i64 i] 62)).ownsRow w.heap.size 62 4 u4 ks.length (toksFlat ks) := HL.out.2.1.alloc _
              have hc4 : (wr.alloc (.cells #[.int .i64 1, .string z, .int .i64 0, .int .i64 i] 62)).heap[wr.heap.size]? = some (.cells #[.int .i64 1, .string z, .int .i64 0, .int .i64 i] 62 (0, 0)) := heap_alloc_new _ _
              revert hb4 hr4 hc4
              generalize wr.alloc (.cells #[.int .i64 1, .string z, .int .i64 0, .int .i64 i] 62) = W4
              intro hb4 hr4 hc4
              have HB4 := Lib.hid hb4
              have HR4 := Lib.hid hr4
              have HW4 := Lib.hid (Nat.le_trans HBW.out hb4.size)
              obtain ⟨d0, d1, d2, d3, -⟩ := four_cells hc4
              clear hb4 hr4 hc4
              go_wp2_with (at_builtin; refine wpList_append_own_at _ rfl (.tmp 118) (.tmp 120) 29 rfl w.heap.size 62 i0 _ 4 40 Tryz.underlying29 hi hz0 hz1 hz2 rfl (by decide) u4 ks.length (toksFlat ks) (by rfl) (HR4.out.alloc _) ⟨W4.heap.size, 0, none⟩ 1 1 [.int .i64 1, .string z, .int .i64 0, .int .i64 i] (by rfl) (by rfl) (news_four _ _ _ _ _ _) (by simp [Value.oneCell']) HLEN.out.1 HLEN.out.2 (by rw [World.size_alloc]; exact Nat.le_succ_of_le HW4.out) ?_; intro v' w4 hown hgrow _ hat; have HO := Lib.hid hown; have HG := Lib.hid hgrow; clear hown hgrow hat)
              go_roundg (text.size - n + 1)
              case measure => exact gas_down HGK.out HI.out.1 HN.out.1
              case rel => exact ⟨n, ks ++ [(⟨1, z.data.toList, 0⟩, i)], rfl, Nat.lt_succ_self _, Lib.hid (lex_push HL.out HX.out (by rw [HK.out]; decide) HNT.out HN.out.1 (by rw [HT.out.1]; exact HN.out.2.1) HZL.out (HB4.out.trans ((Below.new _).mono HB4.out.size)) HO.out rfl HG.out)⟩
            all_goals
              have hbn : (text[n]'hns).toNat = b.toNat := by
                have := Po.at_byte hns
                rw [hb] at this
                simp only [Option.some.injEq] at this
                rw [this]
              obtain ⟨n1, n2⟩ := at_pos hns
              clear hb
              go_upto_region 25 with (go_at_call 28; refine (rl_class b _).mono ?_; rintro e w' ⟨rfl, hw⟩; rw [hw]; clear hw w'; rw [hcl])
              clear hbn n1 n2
              have hb4 : Below wr.heap.size wr (wr.alloc (.cells #[.int .i64 1, .string z, .int .i64 0, .int .i64 i] 62)) := Below.new _
              have hr4 : (wr.alloc (.cells #[.int .i64 1, .string z, .int .i64 0, .int .i64 i] 62)).ownsRow w.heap.size 62 4 u4 ks.length (toksFlat ks) := HL.out.2.1.alloc _
              have hc4 : (wr.alloc (.cells #[.int .i64 1, .string z, .int .i64 0, .int .i64 i] 62)).heap[wr.heap.size]? = some (.cells #[.int .i64 1, .string z, .int .i64 0, .int .i64 i] 62 (0, 0)) := heap_alloc_new _ _
              revert hb4 hr4 hc4
              generalize wr.alloc (.cells #[.int .i64 1, .string z, .int .i64 0, .int .i64 i] 62) = W4
              intro hb4 hr4 hc4
              have HB4 := Lib.hid hb4
              have HR4 := Lib.hid hr4
              have HW4 := Lib.hid (Nat.le_trans HBW.out hb4.size)
              obtain ⟨d0, d1, d2, d3, -⟩ := four_cells hc4
              clear hb4 hr4 hc4
              go_wp2_with (at_builtin; refine wpList_append_own_at _ rfl (.tmp 118) (.tmp 120) 29 rfl w.heap.size 62 i0 _ 4 40 Tryz.underlying29 hi hz0 hz1 hz2 rfl (by decide) u4 ks.length (toksFlat ks) (by rfl) (HR4.out.alloc _) ⟨W4.heap.size, 0, none⟩ 1 1 [.int .i64 1, .string z, .int .i64 0, .int .i64 i] (by rfl) (by rfl) (news_four _ _ _ _ _ _) (by simp [Value.oneCell']) HLEN.out.1 HLEN.out.2 (by rw [World.size_alloc]; exact Nat.le_succ_of_le HW4.out) ?_; intro v' w4 hown hgrow _ hat; have HO := Lib.hid hown; have HG := Lib.hid hgrow; clear hown hgrow hat)
              go_roundg (text.size - n + 1)
              case measure => exact gas_down HGK.out HI.out.1 HN.out.1
              case rel => exact ⟨n, ks ++ [(⟨1, z.data.toList, 0⟩, i)], rfl, Nat.lt_succ_self _, Lib.hid (lex_push HL.out HX.out (by rw [HK.out]; decide) HNT.out HN.out.1 (by rw [HT.out.1]; exact HN.out.2.1) HZL.out (HB4.out.trans ((Below.new _).mono HB4.out.size)) HO.out rfl HG.out)⟩
    · go_wp2_with (go_at_call 28; refine (rl_class c _).mono ?_; rintro e w' ⟨rfl, hw⟩; rw [hw]; clear hw w'; rw [hK])
      go_loopg [8] text.size (fun g s8 wx => ∃ n : Nat, s8 = .int .i64 n ∧ wx = wr ∧ Aside (i < n ∧ n ≤ text.size ∧ text.size - n ≤ g ∧ ∀ j, i < j → j < n → ∃ b, text.data.toList[j]? = some b ∧ Po.digit b = true))
      case atStart => exact ⟨i + 1, by first | with_reducible rfl | exact congrArg (Value.int .i64) W1.out | exact cast_s i, rfl, ⟨Nat.lt_succ_self _, HI.out.1, Nat.sub_le _ _, not_in i _ rfl⟩⟩
      case round =>
        obtain ⟨n, rfl, hwx, HN⟩ := hrel
        subst hwx
        have hst : (∃ b, text.data.toList[n]? = some b ∧ n < text.size ∧ Po.cls b = 2) ∨ (∃ b, text.data.toList[n]? = some b ∧ n < text.size ∧ (Po.cls b = 0 ∨ Po.cls b = 1 ∨ Po.cls b = 3 ∨ Po.cls b = 4)) ∨ (n = text.size ∧ ¬ (n : Int) < text.size) := by
          by_cases hns : n < text.size
          · have hx := Po.at_byte hns
            rcases cls_cases (text[n]'hns) with h | h | h | h | h
            · exact .inr (.inl ⟨_, hx, hns, .inl h⟩)
            · exact .inr (.inl ⟨_, hx, hns, .inr (.inl h)⟩)
            · exact .inl ⟨_, hx, hns, h⟩
            · exact .inr (.inl ⟨_, hx, hns, .inr (.inr (.inl h))⟩)
            · exact .inr (.inl ⟨_, hx, hns, .inr (.inr (.inr h))⟩)
          · exact .inr (.inr (at_end' HN.out.2.1 hns))
        have WN := Lib.hid (fun h : n < text.size => wrap_one h HT.out.2)
        rcases hst with ⟨b, hb, hns, hcl⟩ | hst
        · have hbn : (text[n]'hns).toNat = b.toNat := by
            have := Po.at_byte hns
            rw [hb] at this
            simp only [Option.some.injEq] at this
            rw [this]
          have HB := Lib.hid (And.intro hb (And.intro hns (cls_d hcl)))
          obtain ⟨n1, n2⟩ := at_pos hns
          clear hb
          go_wp2_with (go_at_call 28; refine (rl_class b _).mono ?_; rintro e w' ⟨rfl, hw⟩; rw [hw]; clear hw w'; rw [hcl])
          go_roundg (gk - 1)
          case measure => exact (gas3 HN.out.2.2.1 HB.out.2.1).2
          case rel => exact ⟨n + 1, by first | with_reducible rfl | exact congrArg (Value.int .i64) (WN.out HB.out.2.1) | exact cast_s n, rfl, ⟨Nat.lt_succ_of_lt HN.out.1, HB.out.2.1, (gas3 HN.out.2.2.1 HB.out.2.1).1, more_in HN.out.2.2.2 HB.out.1 HB.out.2.2⟩⟩
        · have HSTOP := Lib.hid (show ∀ b, text.data.toList[n]? = some b → Po.digit b = false by
            rcases hst with ⟨b, hb, -, hcl⟩ | ⟨h1, -⟩
            · intro b' hb'
              rw [hb] at hb'
              simp only [Option.some.injEq] at hb'
              subst hb'
              exact cls_nd (by rcases hcl with h | h | h | h <;> rw [h] <;> decide)
            · intro b' hb'
              exact absurd hb' (ge_none (by rw [HT.out.1, h1]; exact Nat.le_refl _) b'))
          have HNXT := Lib.hid (Po.next_num HX.out HK.out HN.out.1 HN.out.2.2.2 HSTOP.out)
          obtain ⟨-, hsl, hsm, hsp⟩ := size_facts HN.out.1 HN.out.2.1 HT.out.2
          obtain ⟨z, hz⟩ : ∃ z : ByteArray, text.extract i n = z := ⟨_, rfl⟩
          have hzd : z.data.toList = (text.data.toList.drop i).take (n - i) := by rw [← hz, ext_mid]
          have HZ := Lib.hid hzd
          have HZL := Lib.hid (show z.data.toList.length = n - i by rw [HZ.out]; exact len_mid HT.out.1 HN.out.1 HN.out.2.1)
          have HZP := Lib.hid (show 0 < z.size ∧ z.size ≤ 1500 by
            have e : z.size = n - i := by rw [← HZL.out]; simp
            rw [e]; exact ⟨hsp, hsm⟩)
          have HDG := Lib.hid (show ∀ c ∈ z.data.toList, Po.digit c = true by rw [HZ.out]; exact HNXT.out.2)
          have HLEN := Lib.hid (fits (few (show ks.length ≤ i by have := HL.out.1.2.1; rwa [List.length_map] at this) HI.out.1 HT.out.2))
          have HBW := Lib.hid HL.out.2.2.size
          have HFF := Lib.hid (fun (hq : Po.next (text.data.toList.drop i) = none) w' hb => HFAIL.out (HL.out.1.fail HX.out (by rw [HK.out]; decide) hq) w' hb)
          clear hzd hsm hsp
          cases hok : Po.numOK z.data.toList with
          | false =>
            have hnum : Po.numOf z.data.toList = -1 := by unfold Po.numOf; rw [hok]; rfl
            have HFF := Lib.hid (HFF.out (by rw [HNXT.out.1, ← HZ.out, hok]; rfl))
            clear hok
            rcases hst with ⟨b, hb, hns, hcl | hcl | hcl | hcl⟩ | ⟨-, h1⟩
            rotate_left 4
            · go_upto_region 27 with (go_at_call 30; refine (rl_number z _ HDG.out HZP.out.1 HZP.out.2).mono ?_; rintro e w' ⟨rfl, hw⟩; rw [hw]; clear hw w'; rw [hnum])
              clear hnum
              have hb4 : Below wr.heap.size wr (wr.alloc (.cells #[.int .i64 2, .string z, .int .i64 (-1), .int .i64 i] 62)) := Below.new _
              have hr4 : (wr.alloc (.cells #[.int .i64 2, .string z, .int .i64 (-1), .int .i64 i] 62)).ownsRow w.heap.size 62 4 u4 ks.length (toksFlat ks) := HL.out.2.1.alloc _
              have hc4 : (wr.alloc (.cells #[.int .i64 2, .string z, .int .i64 (-1), .int .i64 i] 62)).heap[wr.heap.size]? = some (.cells #[.int .i64 2, .string z, .int .i64 (-1), .int .i64 i] 62 (0, 0)) := heap_alloc_new _ _
              revert hb4 hr4 hc4
              generalize wr.alloc (.cells #[.int .i64 2, .string z, .int .i64 (-1), .int .i64 i] 62) = W4
              intro hb4 hr4 hc4
              have HB4 := Lib.hid hb4
              have HR4 := Lib.hid hr4
              have HW4 := Lib.hid (Nat.le_trans HBW.out hb4.size)
              obtain ⟨d0, d1, d2, d3, -⟩ := four_cells hc4
              clear hb4 hr4 hc4
              go_wp2_with fail
              exact HFF.out W4 (HL.out.2.2.trans (HB4.out.mono HL.out.2.2.size))
            all_goals
              have hbn : (text[n]'hns).toNat = b.toNat := by
                have := Po.at_byte hns
                rw [hb] at this
                simp only [Option.some.injEq] at this
                rw [this]
              obtain ⟨n1, n2⟩ := at_pos hns
              clear hb
              go_upto_region 27 with (first | (go_at_call 28; refine (rl_class b _).mono ?_; rintro e w' ⟨rfl, hw⟩; rw [hw]; clear hw w'; rw [hcl]) | (go_at_call 30; refine (rl_number z _ HDG.out HZP.out.1 HZP.out.2).mono ?_; rintro e w' ⟨rfl, hw⟩; rw [hw]; clear hw w'; rw [hnum]))
              clear hnum
              have hb4 : Below wr.heap.size wr (wr.alloc (.cells #[.int .i64 2, .string z, .int .i64 (-1), .int .i64 i] 62)) := Below.new _
              have hr4 : (wr.alloc (.cells #[.int .i64 2, .string z, .int .i64 (-1), .int .i64 i] 62)).ownsRow w.heap.size 62 4 u4 ks.length (toksFlat ks) := HL.out.2.1.alloc _
              have hc4 : (wr.alloc (.cells #[.int .i64 2, .string z, .int .i64 (-1), .int .i64 i] 62)).heap[wr.heap.size]? = some (.cells #[.int .i64 2, .string z, .int .i64 (-1), .int .i64 i] 62 (0, 0)) := heap_alloc_new _ _
              revert hb4 hr4 hc4
              generalize wr.alloc (.cells #[.int .i64 2, .string z, .int .i64 (-1), .int .i64 i] 62) = W4
              intro hb4 hr4 hc4
              have HB4 := Lib.hid hb4
              have HR4 := Lib.hid hr4
              have HW4 := Lib.hid (Nat.le_trans HBW.out hb4.size)
              obtain ⟨d0, d1, d2, d3, -⟩ := four_cells hc4
              clear hb4 hr4 hc4
              go_wp2_with (go_at_call 28; refine (rl_class b _).mono ?_; rintro e w' ⟨rfl, hw⟩; rw [hw]; clear hw w'; rw [hcl])
              exact HFF.out W4 (HL.out.2.2.trans (HB4.out.mono HL.out.2.2.size))
          | true =>
            obtain ⟨v, hv⟩ : ∃ v, Po.value z.data.toList = v := ⟨_, rfl⟩
            have hnum : Po.numOf z.data.toList = (v : Int) := by unfold Po.numOf; rw [hok, hv]; rfl
            have hv0 : ¬ (v : Int) < 0 := not_neg v
            have HFW := Lib.hid (fun b (hb : text.data.toList[n]? = some b) (hw : Po.word b = true) => HFF.out (by rw [HNXT.out.1, ← HZ.out, hok, hb]; simp [hw]))
            have HNT := Lib.hid (fun (hw : text.data.toList[n]?.any Po.word = false) => show Po.next (text.data.toList.drop i) = some ⟨2, z.data.toList, v⟩ by rw [HNXT.out.1, ← HZ.out, hok, hw, hv]; rfl)
            clear hok hv
            rcases hst with ⟨b, hb, hns, hcl | hcl | hcl | hcl⟩ | ⟨h0, h1⟩
            rotate_left 4
            · have HWD := Lib.hid (show text.data.toList[n]?.any Po.word = false by rw [List.getElem?_eq_none (by rw [HT.out.1, h0]; exact Nat.le_refl _)]; rfl)
              clear h0
              go_upto_region 27 with (go_at_call 30; refine (rl_number z _ HDG.out HZP.out.1 HZP.out.2).mono ?_; rintro e w' ⟨rfl, hw⟩; rw [hw]; clear hw w'; rw [hnum])
              clear hnum
              have hb4 : Below wr.heap.size wr (wr.alloc (.cells #[.int .i64 2, .string z, .int .i64 v, .int .i64 i] 62)) := Below.new _
              have hr4 : (wr.alloc (.cells #[.int .i64 2, .string z, .int .i64 v, .int .i64 i] 62)).ownsRow w.heap.size 62 4 u4 ks.length (toksFlat ks) := HL.out.2.1.alloc _
              have hc4 : (wr.alloc (.cells #[.int .i64 2, .string z, .int .i64 v, .int .i64 i] 62)).heap[wr.heap.size]? = some (.cells #[.int .i64 2, .string z, .int .i64 v, .int .i64 i] 62 (0, 0)) := heap_alloc_new _ _
              revert hb4 hr4 hc4
              generalize wr.alloc (.cells #[.int .i64 2, .string z, .int .i64 v, .int .i64 i] 62) = W4
              intro hb4 hr4 hc4
              have HB4 := Lib.hid hb4
              have HR4 := Lib.hid hr4
              have HW4 := Lib.hid (Nat.le_trans HBW.out hb4.size)
              obtain ⟨d0, d1, d2, d3, -⟩ := four_cells hc4
              clear hb4 hr4 hc4
              go_wp2_with (first
                | fail
                | (at_builtin; refine wpList_append_own_at _ rfl (.tmp 118) (.tmp 120) 29 rfl w.heap.size 62 i0 _ 4 40 Tryz.underlying29 hi hz0 hz1 hz2 rfl (by decide) u4 ks.length (toksFlat ks) (by rfl) (HR4.out.alloc _) ⟨W4.heap.size, 0, none⟩ 1 1 [.int .i64 2, .string z, .int .i64 v, .int .i64 i] (by rfl) (by rfl) (news_four _ _ _ _ _ _) (by simp [Value.oneCell']) HLEN.out.1 HLEN.out.2 (by rw [World.size_alloc]; exact Nat.le_succ_of_le HW4.out) ?_; intro v' w4 hown hgrow _ hat; have HO := Lib.hid hown; have HG := Lib.hid hgrow; clear hown hgrow hat))
              go_roundg (text.size - n + 1)
              case measure => exact gas_down HGK.out HI.out.1 HN.out.1
              case rel => exact ⟨n, ks ++ [(⟨2, z.data.toList, v⟩, i)], rfl, Nat.lt_succ_self _, Lib.hid (lex_push HL.out HX.out (by rw [HK.out]; decide) (HNT.out HWD.out) HN.out.1 (by rw [HT.out.1]; exact HN.out.2.1) HZL.out (HB4.out.trans ((Below.new _).mono HB4.out.size)) HO.out rfl HG.out)⟩
            · have HWD := Lib.hid (show text.data.toList[n]?.any Po.word = false by rw [hb]; exact cls_nw (.inl hcl))
              have hbn : (text[n]'hns).toNat = b.toNat := by
                have := Po.at_byte hns
                rw [hb] at this
                simp only [Option.some.injEq] at this
                rw [this]
              obtain ⟨n1, n2⟩ := at_pos hns
              clear hb
              go_upto_region 27 with (first | (go_at_call 28; refine (rl_class b _).mono ?_; rintro e w' ⟨rfl, hw⟩; rw [hw]; clear hw w'; rw [hcl]) | (go_at_call 30; refine (rl_number z _ HDG.out HZP.out.1 HZP.out.2).mono ?_; rintro e w' ⟨rfl, hw⟩; rw [hw]; clear hw w'; rw [hnum]))
              clear hnum
              have hb4 : Below wr.heap.size wr (wr.alloc (.cells #[.int .i64 2, .string z, .int .i64 v, .int .i64 i] 62)) := Below.new _
              have hr4 : (wr.alloc (.cells #[.int .i64 2, .string z, .int .i64 v, .int .i64 i] 62)).ownsRow w.heap.size 62 4 u4 ks.length (toksFlat ks) := HL.out.2.1.alloc _
              have hc4 : (wr.alloc (.cells #[.int .i64 2, .string z, .int .i64 v, .int .i64 i] 62)).heap[wr.heap.size]? = some (.cells #[.int .i64 2, .string z, .int .i64 v, .int .i64 i] 62 (0, 0)) := heap_alloc_new _ _
              revert hb4 hr4 hc4
              generalize wr.alloc (.cells #[.int .i64 2, .string z, .int .i64 v, .int .i64 i] 62) = W4
              intro hb4 hr4 hc4
              have HB4 := Lib.hid hb4
              have HR4 := Lib.hid hr4
              have HW4 := Lib.hid (Nat.le_trans HBW.out hb4.size)
              obtain ⟨d0, d1, d2, d3, -⟩ := four_cells hc4
              clear hb4 hr4 hc4
              go_wp2_with (first
                | (go_at_call 28; refine (rl_class b _).mono ?_; rintro e w' ⟨rfl, hw⟩; rw [hw]; clear hw w'; rw [hcl])
                | (at_builtin; refine wpList_append_own_at _ rfl (.tmp 118) (.tmp 120) 29 rfl w.heap.size 62 i0 _ 4 40 Tryz.underlying29 hi hz0 hz1 hz2 rfl (by decide) u4 ks.length (toksFlat ks) (by rfl) (HR4.out.alloc _) ⟨W4.heap.size, 0, none⟩ 1 1 [.int .i64 2, .string z, .int .i64 v, .int .i64 i] (by rfl) (by rfl) (news_four _ _ _ _ _ _) (by simp [Value.oneCell']) HLEN.out.1 HLEN.out.2 (by rw [World.size_alloc]; exact Nat.le_succ_of_le HW4.out) ?_; intro v' w4 hown hgrow _ hat; have HO := Lib.hid hown; have HG := Lib.hid hgrow; clear hown hgrow hat))
              go_roundg (text.size - n + 1)
              case measure => exact gas_down HGK.out HI.out.1 HN.out.1
              case rel => exact ⟨n, ks ++ [(⟨2, z.data.toList, v⟩, i)], rfl, Nat.lt_succ_self _, Lib.hid (lex_push HL.out HX.out (by rw [HK.out]; decide) (HNT.out HWD.out) HN.out.1 (by rw [HT.out.1]; exact HN.out.2.1) HZL.out (HB4.out.trans ((Below.new _).mono HB4.out.size)) HO.out rfl HG.out)⟩
            · have HFF := Lib.hid (HFW.out b hb (Po.cls_word.2 (.inl hcl)))
              have hbn : (text[n]'hns).toNat = b.toNat := by
                have := Po.at_byte hns
                rw [hb] at this
                simp only [Option.some.injEq] at this
                rw [this]
              obtain ⟨n1, n2⟩ := at_pos hns
              clear hb
              go_upto_region 27 with (first | (go_at_call 28; refine (rl_class b _).mono ?_; rintro e w' ⟨rfl, hw⟩; rw [hw]; clear hw w'; rw [hcl]) | (go_at_call 30; refine (rl_number z _ HDG.out HZP.out.1 HZP.out.2).mono ?_; rintro e w' ⟨rfl, hw⟩; rw [hw]; clear hw w'; rw [hnum]))
              clear hnum
              have hb4 : Below wr.heap.size wr (wr.alloc (.cells #[.int .i64 2, .string z, .int .i64 v, .int .i64 i] 62)) := Below.new _
              have hr4 : (wr.alloc (.cells #[.int .i64 2, .string z, .int .i64 v, .int .i64 i] 62)).ownsRow w.heap.size 62 4 u4 ks.length (toksFlat ks) := HL.out.2.1.alloc _
              have hc4 : (wr.alloc (.cells #[.int .i64 2, .string z, .int .i64 v, .int .i64 i] 62)).heap[wr.heap.size]? = some (.cells #[.int .i64 2, .string z, .int .i64 v, .int .i64 i] 62 (0, 0)) := heap_alloc_new _ _
              revert hb4 hr4 hc4
              generalize wr.alloc (.cells #[.int .i64 2, .string z, .int .i64 v, .int .i64 i] 62) = W4
              intro hb4 hr4 hc4
              have HB4 := Lib.hid hb4
              have HR4 := Lib.hid hr4
              have HW4 := Lib.hid (Nat.le_trans HBW.out hb4.size)
              obtain ⟨d0, d1, d2, d3, -⟩ := four_cells hc4
              clear hb4 hr4 hc4
              go_wp2_with (go_at_call 28; refine (rl_class b _).mono ?_; rintro e w' ⟨rfl, hw⟩; rw [hw]; clear hw w'; rw [hcl])
              exact HFF.out W4 (HL.out.2.2.trans (HB4.out.mono HL.out.2.2.size))
            · have HFF := Lib.hid (HFW.out b hb (Po.cls_word.2 (.inr (.inr hcl))))
              have hbn : (text[n]'hns).toNat = b.toNat := by
                have := Po.at_byte hns
                rw [hb] at this
                simp only [Option.some.injEq] at this
                rw [this]
              obtain ⟨n1, n2⟩ := at_pos hns
              clear hb
              go_upto_region 27 with (first | (go_at_call 28; refine (rl_class b _).mono ?_; rintro e w' ⟨rfl, hw⟩; rw [hw]; clear hw w'; rw [hcl]) | (go_at_call 30; refine (rl_number z _ HDG.out HZP.out.1 HZP.out.2).mono ?_; rintro e w' ⟨rfl, hw⟩; rw [hw]; clear hw w'; rw [hnum]))
              clear hnum
              have hb4 : Below wr.heap.size wr (wr.alloc (.cells #[.int .i64 2, .string z, .int .i64 v, .int .i64 i] 62)) := Below.new _
              have hr4 : (wr.alloc (.cells #[.int .i64 2, .string z, .int .i64 v, .int .i64 i] 62)).ownsRow w.heap.size 62 4 u4 ks.length (toksFlat ks) := HL.out.2.1.alloc _
              have hc4 : (wr.alloc (.cells #[.int .i64 2, .string z, .int .i64 v, .int .i64 i] 62)).heap[wr.heap.size]? = some (.cells #[.int .i64 2, .string z, .int .i64 v, .int .i64 i] 62 (0, 0)) := heap_alloc_new _ _
              revert hb4 hr4 hc4
              generalize wr.alloc (.cells #[.int .i64 2, .string z, .int .i64 v, .int .i64 i] 62) = W4
              intro hb4 hr4 hc4
              have HB4 := Lib.hid hb4
              have HR4 := Lib.hid hr4
              have HW4 := Lib.hid (Nat.le_trans HBW.out hb4.size)
              obtain ⟨d0, d1, d2, d3, -⟩ := four_cells hc4
              clear hb4 hr4 hc4
              go_wp2_with (go_at_call 28; refine (rl_class b _).mono ?_; rintro e w' ⟨rfl, hw⟩; rw [hw]; clear hw w'; rw [hcl])
              exact HFF.out W4 (HL.out.2.2.trans (HB4.out.mono HL.out.2.2.size))
            · have HWD := Lib.hid (show text.data.toList[n]?.any Po.word = false by rw [hb]; exact cls_nw (.inr hcl))
              have hbn : (text[n]'hns).toNat = b.toNat := by
                have := Po.at_byte hns
                rw [hb] at this
                simp only [Option.some.injEq] at this
                rw [this]
              obtain ⟨n1, n2⟩ := at_pos hns
              clear hb
              go_upto_region 27 with (first | (go_at_call 28; refine (rl_class b _).mono ?_; rintro e w' ⟨rfl, hw⟩; rw [hw]; clear hw w'; rw [hcl]) | (go_at_call 30; refine (rl_number z _ HDG.out HZP.out.1 HZP.out.2).mono ?_; rintro e w' ⟨rfl, hw⟩; rw [hw]; clear hw w'; rw [hnum]))
              clear hnum
              have hb4 : Below wr.heap.size wr (wr.alloc (.cells #[.int .i64 2, .string z, .int .i64 v, .int .i64 i] 62)) := Below.new _
              have hr4 : (wr.alloc (.cells #[.int .i64 2, .string z, .int .i64 v, .int .i64 i] 62)).ownsRow w.heap.size 62 4 u4 ks.length (toksFlat ks) := HL.out.2.1.alloc _
              have hc4 : (wr.alloc (.cells #[.int .i64 2, .string z, .int .i64 v, .int .i64 i] 62)).heap[wr.heap.size]? = some (.cells #[.int .i64 2, .string z, .int .i64 v, .int .i64 i] 62 (0, 0)) := heap_alloc_new _ _
              revert hb4 hr4 hc4
              generalize wr.alloc (.cells #[.int .i64 2, .string z, .int .i64 v, .int .i64 i] 62) = W4
              intro hb4 hr4 hc4
              have HB4 := Lib.hid hb4
              have HR4 := Lib.hid hr4
              have HW4 := Lib.hid (Nat.le_trans HBW.out hb4.size)
              obtain ⟨d0, d1, d2, d3, -⟩ := four_cells hc4
              clear hb4 hr4 hc4
              go_wp2_with (first
                | (go_at_call 28; refine (rl_class b _).mono ?_; rintro e w' ⟨rfl, hw⟩; rw [hw]; clear hw w'; rw [hcl])
                | (at_builtin; refine wpList_append_own_at _ rfl (.tmp 118) (.tmp 120) 29 rfl w.heap.size 62 i0 _ 4 40 Tryz.underlying29 hi hz0 hz1 hz2 rfl (by decide) u4 ks.length (toksFlat ks) (by rfl) (HR4.out.alloc _) ⟨W4.heap.size, 0, none⟩ 1 1 [.int .i64 2, .string z, .int .i64 v, .int .i64 i] (by rfl) (by rfl) (news_four _ _ _ _ _ _) (by simp [Value.oneCell']) HLEN.out.1 HLEN.out.2 (by rw [World.size_alloc]; exact Nat.le_succ_of_le HW4.out) ?_; intro v' w4 hown hgrow _ hat; have HO := Lib.hid hown; have HG := Lib.hid hgrow; clear hown hgrow hat))
              go_roundg (text.size - n + 1)
              case measure => exact gas_down HGK.out HI.out.1 HN.out.1
              case rel => exact ⟨n, ks ++ [(⟨2, z.data.toList, v⟩, i)], rfl, Nat.lt_succ_self _, Lib.hid (lex_push HL.out HX.out (by rw [HK.out]; decide) (HNT.out HWD.out) HN.out.1 (by rw [HT.out.1]; exact HN.out.2.1) HZL.out (HB4.out.trans ((Below.new _).mono HB4.out.size)) HO.out rfl HG.out)⟩
end Go.Proofs.YtdolpmmnjndfkaaGreatDoor
