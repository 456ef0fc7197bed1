/- Chapter 29, the walk: number of package lex. -/
import Derived.Test.YtdeccekeknlnoaaGreatDoorJPoLxA
import Derived.Test.YtdeccekeknlnoaaGreatDoorJPoShelf
import Derived.Deep.Cut
import Derived.Deep.DeepCutAuto
namespace Go.Proofs.YtdeccekeknlnoaaGreatDoor
open Go.RowKit Go.Sort

def tok0 : Array Value := #[.int .i64 0, .string ⟨#[]⟩, .int .i64 0, .int .i64 0]
/-- a variable of four cells: there, and not frozen -/
theorem four_cells {W : World} {B : Nat} {a b c d : Value} {t : TypeId} (h : W.heap[B]? = some (.cells #[a, b, c, d] t (0, 0))) :
    W.cell? ⟨B, 0, none⟩ = some a ∧ W.cell? ⟨B, 1, none⟩ = some b ∧ W.cell? ⟨B, 2, none⟩ = some c ∧ W.cell? ⟨B, 3, none⟩ = some d ∧ ∀ o, W.frozen? ⟨B, o, none⟩ = false := by
  refine ⟨?_, ?_, ?_, ?_, fun o => ?_⟩ <;> simp [World.cell?, World.frozen?, h]
theorem ext_take (s : ByteArray) (k : Nat) : (s.extract 0 k).data.toList = s.data.toList.take k := by
  simp [ByteArray.data_extract]
theorem take_while_take {α : Type} (p : α → Bool) (l : List α) : l.take (l.takeWhile p).length = l.takeWhile p := by
  induction l with
  | nil => rfl
  | cons x l ih => by_cases h : p x <;> simp [List.takeWhile, h, ih]
theorem drop_while_drop {α : Type} (p : α → Bool) (l : List α) : l.drop (l.takeWhile p).length = l.dropWhile p := by
  induction l with
  | nil => rfl
  | cons x l ih => by_cases h : p x <;> simp [List.takeWhile, List.dropWhile, h, ih]
theorem number_end {s p : ByteArray} {w W : World} {v B : Nat} {n : Int} {b : Bool} {a : Act} (hp : p.data.toList = s.data.toList.takeWhile Po.digit) (hv : Po.value (s.data.toList.takeWhile Po.digit) = v)
    (hW : Below w.heap.size w W) (hd : a.defers = []) (h3 : a.tmps[3]?.getD undef = .bool b) (h2 : a.tmps[2]?.getD undef = .pointer (some ⟨B, 0, none⟩)) (hr : W.heap[B]? = some (.cells #[.int .i64 2, .string p, .int .i64 n, .int .i64 0] 202 (0, 0)))
    (hb : b = (Po.numOK (s.data.toList.takeWhile Po.digit) && !(s.data.toList.dropWhile Po.digit).head?.any Po.word)) (hn : Po.numOK (s.data.toList.takeWhile Po.digit) = true → n = v) :
    bodyPost Tryz.prog Tryz.f115 (fun e w' => ∃ n : Int, e = .returned (.tuple #[.agg #[.int .i64 2, .string ⟨(s.data.toList.takeWhile Po.digit).toArray⟩, .int .i64 n, .int .i64 0], .bool (Po.numOK (s.data.toList.takeWhile Po.digit) && !(s.data.toList.dropWhile Po.digit).head?.any Po.word)]) ∧ Below w.heap.size w w' ∧ (Po.numOK (s.data.toList.takeWhile Po.digit) = true → n = Po.value (s.data.toList.takeWhile Po.digit))) Exit.ret a W := by
  obtain ⟨c0, c1, c2, c3, -⟩ := four_cells hr
  refine bodyPost_ret (v := .tuple #[.agg #[.int .i64 2, .string p, .int .i64 n, .int .i64 0], .bool b]) ?_ hd ⟨n, ?_, hW, ?_⟩
  · simp [results, Tryz.results115, go_sem, h2, h3, c0, c1, c2, c3, asAddr]
  · rw [← hb, ← hp]
  · rw [hv]; exact hn

theorem lx_number_pre (s : ByteArray) : ∃ (p : ByteArray) (k v : Nat), (s.data.toList.takeWhile Po.digit).length = k ∧ s.extract 0 k = p ∧ p.data.toList = s.data.toList.takeWhile Po.digit ∧ Po.value (s.data.toList.takeWhile Po.digit) = v ∧ k ≤ s.size ∧ p.size = k ∧ s.data.toList.drop k = s.data.toList.dropWhile Po.digit ∧ (∀ b ∈ s.data.toList.takeWhile Po.digit, Po.digit b = true) := by
  have hle : (s.data.toList.takeWhile Po.digit).length ≤ s.size := by
    have := (List.takeWhile_prefix (l := s.data.toList) Po.digit).length_le
    simpa using this
  have hp : (s.extract 0 (s.data.toList.takeWhile Po.digit).length).data.toList = s.data.toList.takeWhile Po.digit := by rw [ext_take, take_while_take]
  refine ⟨_, _, _, rfl, rfl, hp, rfl, hle, ?_, drop_while_drop _ _, fun b hb => ?_⟩
  · rw [← hp]; simp
  · exact (List.all_eq_true.1 (List.all_takeWhile (l := s.data.toList) (p := Po.digit))) b hb

theorem digits_first {l : List UInt8} (h : l.takeWhile Po.digit ≠ []) : ∀ {k : Nat}, (l.takeWhile Po.digit).length = k → 0 < k := by
  intro k hk
  have : (l.takeWhile Po.digit).length ≠ 0 := fun e => h (List.eq_nil_of_length_eq_zero e)
  omega
theorem follows_some {s : ByteArray} {k : Nat} (hd : s.data.toList.drop k = s.data.toList.dropWhile Po.digit) (h : k < s.size) : (s.data.toList.dropWhile Po.digit).head?.any Po.word = Po.word (s[k]'h) := by
  rw [← hd, List.head?_drop, Po.at_byte h]
  rfl
theorem follows_none {s : ByteArray} {k : Nat} (hd : s.data.toList.drop k = s.data.toList.dropWhile Po.digit) (h : ¬ k < s.size) : (s.data.toList.dropWhile Po.digit).head?.any Po.word = false := by
  rw [← hd, List.head?_drop, Po.at_end h]
  rfl
theorem set4 {W : World} {B : Nat} {a b c d a' b' c' d' : Value} {t : TypeId} (h : W.heap[B]? = some (.cells #[a, b, c, d] t (0, 0))) :
    ((((W.setCell ⟨B, 0, none⟩ a').setCell ⟨B, 1, none⟩ b').setCell ⟨B, 2, none⟩ c').setCell ⟨B, 3, none⟩ d').heap[B]? = some (.cells #[a', b', c', d'] t (0, 0)) := by
  simp only [World.setCell, Array.getElem?_modify, h]
  simp

theorem below4 {w W : World} {a b c d : Value} (h : Below w.heap.size w W) : Below w.heap.size w ((((W.setCell ⟨w.heap.size, 0, none⟩ a).setCell ⟨w.heap.size, 1, none⟩ b).setCell ⟨w.heap.size, 2, none⟩ c).setCell ⟨w.heap.size, 3, none⟩ d) :=
  (((h.setCell (Nat.le_refl _) _).setCell (Nat.le_refl _) _).setCell (Nat.le_refl _) _).setCell (Nat.le_refl _) _
theorem num_say {N : Bool} {w : List UInt8} {p : ByteArray} {k v : Nat} {F : Bool} (h : Hid (N = (decide (w.length ≤ 5) && (decide (Po.value w < 65536) && decide (Lib.decDigits (Po.value w) = w))))) (hk : Hid (w.length = k)) (hv : Hid (Po.value w = v)) (hp : Hid (p.data.toList = w)) :
    (N && !F) = (decide (k ≤ 5) && decide (v < 65536) && decide (Lib.decDigits v = p.toList) && !F) := by
  rw [h.out, hk.out, hv.out, ← hp.out, Lib.toList_data]
  simp only [Bool.and_assoc]
theorem num_val {N : Bool} {w : List UInt8} {v : Nat} (h : Hid (N = (decide (w.length ≤ 5) && (decide (Po.value w < 65536) && decide (Lib.decDigits (Po.value w) = w))))) (hv : Hid (Po.value w = v)) : N = true → v < 65536 := by
  rw [h.out, hv.out]
  intro hN
  simp at hN
  exact hN.2.1

set_option maxRecDepth 1000000 in
set_option maxHeartbeats 1000000 in
theorem lx_number (s : ByteArray) (w : World) (hg : Gl w) (hs : s.size ≤ 1500) (h0 : s.data.toList.takeWhile Po.digit ≠ []) :
    Calls Tryz.prog 115 #[.string s] w fun e w' => ∃ n : Int, e = .returned (.tuple #[.agg #[.int .i64 2, .string ⟨(s.data.toList.takeWhile Po.digit).toArray⟩, .int .i64 n, .int .i64 0], .bool (Po.numOK (s.data.toList.takeWhile Po.digit) && !(s.data.toList.dropWhile Po.digit).head?.any Po.word)]) ∧ Below w.heap.size w w' ∧ (Po.numOK (s.data.toList.takeWhile Po.digit) = true → n = Po.value (s.data.toList.takeWhile Po.digit)) := by
  obtain ⟨p, k, v, hk, hp, hpl, hv, hks, hps, hdr, hdg⟩ := lx_number_pre s
  have hks1 : (k : Int) ≤ s.size := by omega
  have hk0 := digits_first h0 hk
  have HK := Lib.hid hk
  have HP := Lib.hid hpl
  have HV := Lib.hid hv
  have HD := Lib.hid hdr
  have HG := Lib.hid hdg
  have H0 := Lib.hid h0
  have HS := Lib.hid (And.intro hs (And.intro hks (And.intro hps hk0)))
  have hgA := hg.mem (Below.new (w := w) (.cells #[.int .i64 0, .string ⟨#[]⟩, .int .i64 0, .int .i64 0] 202))
  have hn := Lib.hid (Po.num_iff hdg h0)
  obtain ⟨F, hF⟩ : ∃ F, (s.data.toList.dropWhile Po.digit).head?.any Po.word = F := ⟨_, rfl⟩
  have HF := Lib.hid hF
  clear hk hpl hv hdr hdg h0 hks hs hps hk0 hg hF
  go_enter Tryz.func115, Tryz.ntmps115
  go_wp2_with fail
  refine (lx_prefix_digit _ _).mono ?_
  rintro e w1 ⟨rfl, hb1⟩
  rw [HK.out]
  have hg1 := hgA.mem hb1
  have hh1 := hb1.block w.heap.size (by simp)
  rw [heap_alloc_new] at hh1
  have hs1 := hb1.size
  simp only [World.size_alloc] at hs1
  have hw1 : w.heap.size < w1.heap.size := by omega
  have HB1 := Lib.hid ((Below.new (w := w) (.cells #[.int .i64 0, .string ⟨#[]⟩, .int .i64 0, .int .i64 0] 202)).trans (hb1.mono (by simp)))
  clear hs1 hb1 hgA
  go_wp2_with fail
  by_cases hv : v < 9223372036854775808
  · refine (Tryz.strconv_Atoi_ok p (by have := HS.out; omega) v (by rw [HP.out, Po.atoi_eq HG.out H0.out, HV.out, if_pos hv]) _).mono ?_
    rintro e w2 ⟨rfl, hw2⟩
    have hb2 : Below w1.heap.size w1 w2 := by
      rcases hw2 with rfl | ⟨t, rfl⟩
      · exact Below.refl _ _
      · exact Lib.bytesWorld_below _ _ _
    clear hw2
    have hg2 := hg1.mem hb2
    have hh2 := (hb2.block w.heap.size hw1).trans hh1
    have hw2 : w.heap.size < w2.heap.size := Nat.lt_of_lt_of_le hw1 hb2.size
    have HB := Lib.hid (HB1.out.trans (hb2.mono (Nat.le_of_lt hw1)))
    clear hb2 hh1 hg1
    go_upto_region 4 with fail
    go_cut [8] (fun a wc => a = .bool F ∧ wc = w2)
    case first =>
      by_cases hk2 : (k : Int) < s.size
      · have hk3 : 0 ≤ (k : Int) ∧ (k : Int) < s.size := ⟨by omega, hk2⟩
        have hR : Po.wordR (wrap32 ((s[k]'(by omega)).toNat : Int)) = F := by
          rw [← HF.out, follows_some HD.out (by omega), ← Po.wordR_nat]
          congr 1
          have := (s[k]'(by omega)).toNat_lt
          unfold wrap32
          omega
        go_wp2_with (go_at_call 113; refine (lx_within _ _).mono ?_; rintro e w' ⟨rfl, hw'⟩; subst hw'; rw [hR])
        go_meet
        exact ⟨rfl, rfl⟩
      · have hR : F = false := by rw [← HF.out, follows_none HD.out (by omega)]
        go_wp2_with fail
        go_meet
        exact ⟨by rw [hR], rfl⟩
    case rest =>
      obtain ⟨ha, hw⟩ := hcut
      subst ha; subst hw
      obtain ⟨c0, c1, c2, c3, cz⟩ := four_cells hh2
      have HH := Lib.hid hh2
      clear hh2
      go_wp2_with (go_at_call 151; refine (itoa_any _ (by omega) _ hg2).mono ?_; rintro e w3 ⟨rfl, hb3⟩; have hh3 := (hb3.block w.heap.size hw2).trans HH.out; obtain ⟨d0, d1, d2, d3, dz⟩ := four_cells hh3; have HH3 := Lib.hid hh3; have HB3 := Lib.hid (HB.out.trans (hb3.mono (Nat.le_of_lt hw2))); clear hb3 hh3)
      all_goals clear c0 c1 c2 c3 cz
      all_goals (first
        | refine number_end (n := v) HP.out HV.out (below4 HB3.out) rfl rfl rfl (set4 HH3.out) ?_ (fun _ => rfl)
        | refine number_end (n := v) HP.out HV.out (below4 HB.out) rfl rfl rfl (set4 HH.out) ?_ (fun _ => rfl))
      all_goals (rw [HF.out, num_say hn HK HV HP]; first | (simp [*]; done) | grind)
  · obtain ⟨ev, hev, hk⟩ := hg1.er
    refine (Tryz.strconv_Atoi_range p (by have := HS.out; omega) (by rw [HP.out, Po.atoi_eq HG.out H0.out, HV.out, if_neg hv]) ev _ hev hk).mono ?_
    rintro e w2 ⟨M, rfl, hM, hM2, hb2⟩
    have hh2 := (hb2.block w.heap.size hw1).trans hh1
    have HB := Lib.hid (HB1.out.trans (hb2.mono (Nat.le_of_lt hw1)))
    clear hb2 hh1 hg1 hM hM2 hev hk
    go_upto_region 4 with fail
    go_cut [8] (fun a wc => a = .bool F ∧ wc = w2)
    case first =>
      by_cases hk2 : (k : Int) < s.size
      · have hk3 : 0 ≤ (k : Int) ∧ (k : Int) < s.size := ⟨by omega, hk2⟩
        have hR : Po.wordR (wrap32 ((s[k]'(by omega)).toNat : Int)) = F := by
          rw [← HF.out, follows_some HD.out (by omega), ← Po.wordR_nat]
          congr 1
          have := (s[k]'(by omega)).toNat_lt
          unfold wrap32
          omega
        go_wp2_with (go_at_call 113; refine (lx_within _ _).mono ?_; rintro e w' ⟨rfl, hw'⟩; subst hw'; rw [hR])
        go_meet
        exact ⟨rfl, rfl⟩
      · have hR : F = false := by rw [← HF.out, follows_none HD.out (by omega)]
        go_wp2_with fail
        go_meet
        exact ⟨by rw [hR], rfl⟩
    case rest =>
      obtain ⟨ha, hw⟩ := hcut
      subst ha; subst hw
      obtain ⟨c0, c1, c2, c3, cz⟩ := four_cells hh2
      have HH := Lib.hid hh2
      clear hh2
      go_wp2_with fail
      refine number_end (n := Lib.atoiSat p.data.toList) HP.out HV.out (below4 HB.out) rfl rfl rfl (set4 HH.out) ?_ ?_
      · rw [HF.out, num_say hn HK HV HP]
        have : ¬ v < 65536 := by omega
        simp [this]
      · intro hN
        have := num_val hn HV hN
        omega
end Go.Proofs.YtdeccekeknlnoaaGreatDoor
