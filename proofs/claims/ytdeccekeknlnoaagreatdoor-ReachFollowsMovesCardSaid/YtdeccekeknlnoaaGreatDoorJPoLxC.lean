/- Chapter 29, the walk: at and operators of package lex. | Chapter 29, the walk: Tokens of package lex. -/
import Derived.Test.YtdeccekeknlnoaaGreatDoorJPoTok
import Derived.Test.YtdeccekeknlnoaaGreatDoorJPoLxA
import Derived.Test.YtdeccekeknlnoaaGreatDoorJPoLxB
import Derived.Test.YtdeccekeknlnoaaGreatDoorJPoShelf
import Derived.Deep.Cut
namespace Go.Proofs.YtdeccekeknlnoaaGreatDoor
open Go.RowKit
theorem snoc_cases {α : Type} (l : List α) : l = [] ∨ ∃ m x, l = m ++ [x] := by
  rcases List.eq_nil_or_concat l with h | ⟨m, x, h⟩
  · exact .inl h
  · exact .inr ⟨m, x, by simpa using h⟩
set_option maxRecDepth 1000000 in
theorem lx_at {B : Nat} (v : Value) (ks : List (Po.Tok × Nat)) (w : World) (h : w.ownsRow B 202 4 v ks.length (toksFlat ks)) (hp : endPos ks < 4294967296) :
    Calls Tryz.prog 110 #[v] w fun e w' => e = .returned (.int .i64 (endPos ks : Nat)) ∧ Below w.heap.size w w' := by
  rcases snoc_cases ks with hk | ⟨m, p, hk⟩
  · subst hk
    obtain ⟨A, c, hv, h1, h2, -⟩ := RToks.of_own h
    have H := Lib.hid (show endPos [] = 0 from rfl)
    simp only [List.map_nil, List.length_nil] at hv
    subst hv
    clear h hp
    go_enter Tryz.func110, Tryz.ntmps110
    go_wp2_with fail
    go_ret
    exact ⟨by rw [H.out]; rfl, Below.refl _ _⟩
  · subst hk
    have hlen : (m ++ [p]).length = m.length + 1 := by simp
    rw [hlen] at h
    obtain ⟨g, cap, hv, hg, hlt, hc, hm, hx⟩ := own_cells h (by omega)
    subst hv
    have hat : (m ++ [p])[m.length]? = some p := by simp
    have c0 := hx (m.length * 4) _ (toksFlat_at _ m.length p 0 _ hat rfl)
    have c1 := hx (m.length * 4 + 1) _ (toksFlat_at _ m.length p 1 _ hat rfl)
    have c2 := hx (m.length * 4 + 2) _ (toksFlat_at _ m.length p 2 _ hat rfl)
    have c3 := hx (m.length * 4 + 3) _ (toksFlat_at _ m.length p 3 _ hat rfl)
    have hE : endPos (m ++ [p]) = p.2 + p.1.t.length := endPos_snoc m p
    have HE := Lib.hid hE
    have hp' : p.2 + p.1.t.length < 4294967296 := by rw [← hE]; exact hp
    clear hx h hat hE hp
    have q1 : wrap64 (m.length : Int) = m.length := by unfold wrap64; unfold maxLen at hm; omega
    have q2 : (0 : Int) ≤ (m.length : Int) ∧ (m.length : Int) < (m.length : Int) + 1 := by omega
    have q3 : wrap64 ((p.2 : Int) + (p.1.t.length : Int)) = ((p.2 + p.1.t.length : Nat) : Int) := by unfold wrap64; omega
    clear hm hlen hg hp'
    go_enter Tryz.func110, Tryz.ntmps110
    go_wp2_with fail
    go_ret
    exact ⟨by rw [HE.out]; exact ret_int q3, Below.new _⟩

def opsVal : Array Value := #[.string ⟨#[61, 61]⟩, .string ⟨#[38, 38]⟩, .string ⟨#[124, 124]⟩, .string ⟨#[62, 61]⟩, .string ⟨#[123]⟩, .string ⟨#[125]⟩, .string ⟨#[40]⟩, .string ⟨#[41]⟩, .string ⟨#[59]⟩, .string ⟨#[61]⟩, .string ⟨#[43]⟩, .string ⟨#[45]⟩, .string ⟨#[42]⟩, .string ⟨#[60]⟩, .string ⟨#[33]⟩]
theorem lx_operators (w : World) :
    Calls Tryz.prog 116 #[] w fun e w' => e = .returned (.agg opsVal) ∧ Below w.heap.size w w' := by
  unfold opsVal
  go_enter Tryz.func116, Tryz.ntmps116
  go_wp2_with fail
  refine bodyPost_ret (v := .agg #[.string ⟨#[61, 61]⟩, .string ⟨#[38, 38]⟩, .string ⟨#[124, 124]⟩, .string ⟨#[62, 61]⟩, .string ⟨#[123]⟩, .string ⟨#[125]⟩, .string ⟨#[40]⟩, .string ⟨#[41]⟩, .string ⟨#[59]⟩, .string ⟨#[61]⟩, .string ⟨#[43]⟩, .string ⟨#[45]⟩, .string ⟨#[42]⟩, .string ⟨#[60]⟩, .string ⟨#[33]⟩]) ?_ rfl ⟨rfl, ?_⟩
  · simp [results, Tryz.results116, go_sem, asAddr]
  · exact Below.new _
end Go.Proofs.YtdeccekeknlnoaaGreatDoor

namespace Go.Proofs.YtdeccekeknlnoaaGreatDoor
open Go.RowKit Go.Sort
/-- what Tokens answers: the tokens and the error -/
def Po.toks (T : List UInt8) : List Po.Tok × Nat := if 1500 < T.length then ([], 2) else match Po.lex T with
  | none => ([], 3)
  | some l => (l, 0)
def TokSays (T : List UInt8) (w : World) (e : Ending) (w' : World) : Prop :=
  ∃ v, e = .returned (.tuple #[v, .int .i64 ((Po.toks T).2 : Nat)]) ∧ RToks w' w'.heap.size v (Po.toks T).1 ∧ Below w.heap.size w w'
theorem rtoks_nil (w : World) (B : Nat) : RToks w B (.slice none 0 0) [] := ⟨none, 0, rfl, Nat.le_refl _, Nat.zero_le _, fun h => by simp at h⟩
theorem blanks_eq (l : List UInt8) : Lib.trimLeftS l [32, 9, 10] = l.dropWhile Po.blank := by
  unfold Lib.trimLeftS
  congr 1
  funext b
  simp only [Po.blank, List.contains_eq_any_beq, List.any_cons, List.any_nil, Bool.or_false, Bool.or_assoc]

theorem opsVal_get {i : Nat} {w : List UInt8} (hi : Po.ops[i]? = some w) : opsVal[i]? = some (Value.string ⟨w.toArray⟩) := by
  have hl : i < 15 := by
    rcases Nat.lt_or_ge i 15 with h | h
    · exact h
    · rw [List.getElem?_eq_none (by rw [Po.ops_len]; exact h)] at hi; cases hi
  match i, hl with
  | 0, _ | 1, _ | 2, _ | 3, _ | 4, _ | 5, _ | 6, _ | 7, _ | 8, _ | 9, _ | 10, _ | 11, _ | 12, _ | 13, _ | 14, _ => simp [Po.ops] at hi; subst hi; rfl
theorem index_op {oa : Array Value} (hz : oa.size = 15) {i : Nat} {v : Value} (hi : oa[i]? = some v) (w : World) : (Instr.index 205 (.agg oa) (.int .i64 i)).run Tryz.prog w = .ok v w := by
  have hl : i < oa.size := by
    rcases Nat.lt_or_ge i oa.size with h | h
    · exact h
    · rw [Array.getElem?_eq_none h] at hi; cases hi
  simp [Instr.index, run_underlying Tryz.underlying205, asIntOf, go_sem, hi]
  intro h
  omega
set_option maxRecDepth 1000000 in
set_option maxHeartbeats 4000000 in
theorem lx_tokens (text : ByteArray) (w : World) (hg : Gl w) :
    Calls Tryz.prog 67 #[.string text] w (TokSays text.data.toList w) := by
  have hT : text.data.toList.length = text.size := by simp
  by_cases hsz : 1500 < text.size
  · have H := Lib.hid (show Po.toks text.data.toList = ([], 2) by rw [Po.toks, if_pos (by rw [hT]; exact hsz)])
    have hsz' : (1500 : Int) < text.size := by omega
    unfold TokSays
    clear hT hsz
    go_enter Tryz.func67, Tryz.ntmps67
    go_wp2_with fail
    try (go_step3; go_wp2_with fail)
    try (go_step3; go_wp2_with fail)
    try rw [Exit.noGoto_ret]
    go_ret2
    exact ⟨_, by rw [H.out]; rfl, by rw [H.out]; exact rtoks_nil _ _, Below.refl _ _⟩
  · have hi0 : (Tryz.prog.info? 202).map (fun i => (i.zero, i.size, i.bytes)) = some (some (.agg #[.int .i64 0, .string ⟨#[]⟩, .int .i64 0, .int .i64 0]), 4, 40) := by kernel_rfl
    obtain ⟨i0, hi, hx⟩ := Option.map_eq_some_iff.1 hi0
    simp only [Prod.mk.injEq] at hx
    obtain ⟨hz0, hz1, hz2⟩ := hx
    clear hi0
    have hsz' : ¬ (1500 : Int) < text.size := by omega
    have HT := Lib.hid (And.intro hT (show text.size ≤ 1500 by omega))
    clear hT hsz
    unfold TokSays
    go_enter Tryz.func67, Tryz.ntmps67
    go_wp2_with fail
    try (go_step3; go_wp2_with fail)
    try (go_step3; go_wp2_with fail)
    go_loopg [4] (text.size + 1) (fun g s4 wr => ∃ ks : List (Po.Tok × Nat), Aside (Po.LexRel text.data.toList g ks) ∧ wr.ownsRow w.heap.size 202 4 s4 ks.length (toksFlat ks) ∧ Below w.heap.size w wr)
    case atStart => exact ⟨[], (by have := Po.LexRel.start text.data.toList; rwa [HT.out.1] at this), World.ownsRow_nil _ _ _ _, Below.refl _ _⟩
    case round =>
      obtain ⟨ks, HL, hrow, hbx⟩ := hrel
      obtain ⟨g, rfl⟩ : ∃ g, gk = g + 1 := ⟨gk - 1, by have := HL.out.pos; omega⟩
      obtain ⟨n, hn⟩ : ∃ n, endPos ks = n := ⟨_, rfl⟩
      have hn1 : n ≤ text.size := by have := HL.out.len; rw [HT.out.1, hn] at this; exact this
      have hn2 : 0 ≤ (n : Int) ∧ (n : Int) ≤ text.size := by omega
      have cAt := lx_at _ ks wr hrow (by rw [hn]; have := HT.out.2; omega)
      rw [hn] at cAt
      obtain ⟨p, hp⟩ : ∃ p, text.extract n text.size = p := ⟨_, rfl⟩
      have hpd : p.data.toList = text.data.toList.drop n := by
        rw [← hp]; simp only [ByteArray.data_extract, Array.toList_extract, List.extract_eq_take_drop]; exact List.take_of_length_le (by rw [List.length_drop, HT.out.1]; omega)
      obtain ⟨L, hL⟩ : ∃ L, (text.data.toList.drop n).dropWhile Po.blank = L := ⟨_, rfl⟩
      have cTrim : ∀ w, Calls Tryz.prog 109 #[.string p, .string ⟨#[32, 9, 10]⟩] w fun e w' => e = .returned (.string ⟨L.toArray⟩) ∧ Below w.heap.size w w' := by
        intro w
        have := trimLeft_any p ⟨#[32, 9, 10]⟩ w (by decide) (ascii_of_all (by decide))
        rwa [show (⟨#[32, 9, 10]⟩ : ByteArray).data.toList = [32, 9, 10] from rfl, blanks_eq, hpd, hL] at this
      have HN := Lib.hid hn
      have HLL := Lib.hid hL
      have HR := Lib.hid hrow
      have HB := Lib.hid hbx
      clear hrow hbx hn hL hpd
      cases L with
      | nil =>
        go_wp2_with (first
          | (go_at_call 110; refine cAt.mono ?_; rintro e w1 ⟨rfl, hb1⟩)
          | (go_at_call 109; refine (cTrim _).mono ?_; rintro e w2 ⟨rfl, hb2⟩))
        try rw [Exit.noGoto_ret]
        go_ret2
        have hlex : Po.toks text.data.toList = (ks.map (·.1), 0) := by
          rw [Po.toks, if_neg (by have := HT.out; omega), HL.out.stop (by rw [HN.out]; exact HLL.out)]
        have hb3 := hb1.trans (hb2.mono hb1.size)
        exact ⟨u4, by rw [hlex]; rfl, by rw [hlex]; exact ((RToks.of_own HR.out).below hb3).more hb3.size, HB.out.trans (hb3.mono HB.out.size)⟩
      | cons c r =>
        obtain ⟨S, hSd⟩ : ∃ S : ByteArray, S.data.toList = c :: r := ⟨⟨(c :: r).toArray⟩, by simp⟩
        have hSS : (⟨(c :: r).toArray⟩ : ByteArray) = S := by
          cases S with
          | mk d => simp only [ByteArray.mk.injEq]; rw [← Array.toArray_toList (xs := d)]; exact congrArg _ hSd.symm
        rw [hSS] at cTrim
        have hSz : S.size = r.length + 1 := by
          have := congrArg List.length hSd
          simpa using this
        have hS0 : 0 < S.size := by omega
        have hc0 : (S[0]'hS0) = c := by
          have h := Po.at_byte hS0
          rw [hSd] at h
          simpa using h.symm
        have hSle : S.size ≤ text.size - n := by
          have h := (List.dropWhile_suffix (l := text.data.toList.drop n) Po.blank).length_le
          rw [HLL.out, List.length_drop, HT.out.1] at h
          simp only [List.length_cons] at h
          omega
        obtain ⟨q, hq⟩ : ∃ q : Nat, text.size - S.size = q := ⟨_, rfl⟩
        have hq1 : wrap64 ((text.size : Int) - (S.size : Int)) = q := by have := HT.out.2; unfold wrap64; omega
        have hc1 : wrap32 ((S[0]'hS0).toNat : Int) = c.toNat := by
          rw [hc0]
          have := c.toNat_lt
          unfold wrap32
          omega
        have hne : (S.toList == []) = false := by
          rw [Lib.toList_data, hSd]
          rfl
        have HS := Lib.hid (And.intro hSd (And.intro hSz (And.intro hSle hq)))
        clear hSd hSz hSle hq hSS hc0
        go_upto_region 9 with (first
          | (go_at_call 110; refine cAt.mono ?_; rintro e w1 ⟨rfl, hb1⟩)
          | (go_at_call 109; refine (cTrim _).mono ?_; rintro e w2 ⟨rfl, hb2⟩))
        rw [hq1, hc1]
        have hb3 : Below wr.heap.size wr w2 := hb1.trans (hb2.mono hb1.size)
        have HB2 := Lib.hid (HB.out.trans (hb3.mono HB.out.size))
        have HR2 := Lib.hid (own_below HR.out hb3)
        have hg2 : Gl w2 := hg.below HB2.out hg.size
        have hw2 : w.heap.size ≤ w2.heap.size := HB2.out.size
        have HLEN := Lib.hid (show ks.length ≤ 1500 by have := HL.out.count; have := HT.out; omega)
        have HFAIL := Lib.hid (fun (hnx : Po.next (c :: r) = none) => show Po.toks text.data.toList = ([], 3) by
          rw [Po.toks, if_neg (by have := HT.out; omega), HL.out.fail (by rw [HN.out]; exact HLL.out) hnx])
        have HSTEP := Lib.hid (fun (t : Po.Tok) (hnx : Po.next (c :: r) = some t) => show Po.LexRel text.data.toList g (ks ++ [(t, q)]) by
          have h := HL.out.step (by rw [HN.out]; exact HLL.out) hnx
          have e : text.data.toList.length - (c :: r).length = q := by rw [HT.out.1, ← HS.out.2.2.2, HS.out.2.1]; rfl
          rw [e] at h
          exact h)
        clear hb1 hb2 hb3 HR HB cAt cTrim hq1 hc1 hp hn1 hn2
        cases hlt : Po.letter c with
        | true =>
          have hlR : Po.letterR (c.toNat : Int) = true := by rw [Po.letterR_nat, hlt]
          obtain ⟨k, hk⟩ : ∃ k : Nat, ((c :: r).takeWhile Po.word).length = k := ⟨_, rfl⟩
          have cPre : ∀ w, Calls Tryz.prog 112 #[.string S, .func (.func 113) #[] #[]] w fun e w' => e = .returned (.int .i64 k) ∧ Below w.heap.size w w' := by
            intro w
            have h := lx_prefix_word S w
            rwa [HS.out.1, hk] at h
          by_cases h12 : 12 < k
          · have h12' : (12 : Int) < k := by omega
            have HX := Lib.hid (HFAIL.out (by simp only [Po.next, hlt, if_true]; rw [if_pos (by rw [hk]; exact h12)]))
            clear hlt hk h12
            go_wp2_with (first
              | (go_at_call 111; refine (lx_letter _ _).mono ?_; rintro e w' ⟨rfl, hw'⟩; subst hw'; rw [hlR])
              | (go_at_call 112; refine (cPre _).mono ?_; rintro e w3 ⟨rfl, hb3⟩))
            try rw [Exit.noGoto_ret]
            go_ret2
            exact ⟨_, by rw [HX.out]; rfl, by rw [HX.out]; exact rtoks_nil _ _, HB2.out.trans (hb3.mono hw2)⟩
          · have h12' : ¬ (12 : Int) < k := by omega
            obtain ⟨z, hz⟩ : ∃ z : ByteArray, S.extract 0 k = z := ⟨_, rfl⟩
            have hzd : z.data.toList = (c :: r).takeWhile Po.word := by rw [← hz, ext_take, HS.out.1, ← hk, take_while_take]
            have hkS : (k : Int) ≤ S.size := by
              have h := (List.takeWhile_prefix (l := c :: r) Po.word).length_le
              rw [hk] at h
              have := HS.out.2.1
              simp only [List.length_cons] at h
              omega
            have HX := Lib.hid (HSTEP.out ⟨1, z.data.toList, 0⟩ (by simp only [Po.next, hlt, if_true]; rw [if_neg (by rw [hk]; exact h12), hzd]))
            clear hlt hk h12 hzd
            go_upto_region 13 with (first
              | (go_at_call 111; refine (lx_letter _ _).mono ?_; rintro e w' ⟨rfl, hw'⟩; subst hw'; rw [hlR])
              | (go_at_call 112; refine (cPre _).mono ?_; rintro e w3 ⟨rfl, hb3⟩))
            have HR3 := Lib.hid (own_below HR2.out hb3)
            have HB3 := Lib.hid (HB2.out.trans (hb3.mono hw2))
            have hw3 : w.heap.size ≤ w3.heap.size := Nat.le_trans hw2 hb3.size
            clear hb3
            go_wp2_with (at_builtin; refine wpList_append_own_at _ rfl _ _ 141 rfl w.heap.size 202 i0 _ 4 40 Tryz.underlying141 hi hz0 hz1 hz2 rfl (by decide) u4 ks.length (toksFlat ks) (by rfl) (HR3.out.alloc _) ⟨w3.heap.size, 0, none⟩ 1 1 [.int .i64 1, .string z, .int .i64 0, .int .i64 q] (by rfl) (by rfl) (news_four _ _ _ _ _ _) (by simp [Value.oneCell']) (by have := HLEN.out; unfold maxLen; omega) (by have := HLEN.out; omega) (by simp; omega) ?_; intro v' w4 hown hgrow _ hat; have HO := Lib.hid hown; have HG := Lib.hid hgrow; have HAT := Lib.hid hat; clear hown hgrow hat)
            go_roundg g
            case measure => omega
            case rel => exact ⟨ks ++ [((⟨1, z.data.toList, 0⟩ : Po.Tok), q)], HX.out, own_snoc HO.out (by simp [tokCells]), (HB3.out.alloc hw3 _).grown HG.out (by simp; omega) (fun j hj => (HR3.out.lt j hj).1)⟩
        | false =>
          have hlR : Po.letterR (c.toNat : Int) = false := by rw [Po.letterR_nat, hlt]
          cases hdg : Po.digit c with
          | true =>
            have hdR : Po.digitR (c.toNat : Int) = true := by rw [Po.digitR_nat, hdg]
            have h0 : S.data.toList.takeWhile Po.digit ≠ [] := by rw [HS.out.1]; simp [List.takeWhile, hdg]
            obtain ⟨z, hz⟩ : ∃ z : ByteArray, (⟨((c :: r).takeWhile Po.digit).toArray⟩ : ByteArray) = z := ⟨_, rfl⟩
            have hzd : z.data.toList = (c :: r).takeWhile Po.digit := by rw [← hz]
            obtain ⟨ok, hok⟩ : ∃ ok, (Po.numOK ((c :: r).takeWhile Po.digit) && !((c :: r).dropWhile Po.digit).head?.any Po.word) = ok := ⟨_, rfl⟩
            have cNum : ∀ w, Gl w → Calls Tryz.prog 115 #[.string S] w fun e w' => ∃ n : Int, e = .returned (.tuple #[.agg #[.int .i64 2, .string z, .int .i64 n, .int .i64 0], .bool ok]) ∧ Below w.heap.size w w' ∧ (ok = true → n = Po.value ((c :: r).takeWhile Po.digit)) := by
              intro w hg
              have h := lx_number S w hg (by have h1 := HS.out.2.2.1; have h2 := HT.out.2; omega) h0
              rw [HS.out.1, hz, hok] at h
              refine h.mono ?_
              rintro e w' ⟨m, h1, h2, h3⟩
              refine ⟨m, h1, h2, fun hh => h3 ?_⟩
              rw [← hok] at hh
              simp only [Bool.and_eq_true] at hh
              exact hh.1
            cases ok with
            | false =>
              have HX := Lib.hid (HFAIL.out (by simp only [Po.next, hlt, hdg, if_true]; rw [hok]; simp))
              clear hlt hdg hz hzd hok h0
              go_wp2_with (first
                | (go_at_call 111; refine (lx_letter _ _).mono ?_; rintro e w' ⟨rfl, hw'⟩; subst hw'; rw [hlR])
                | (go_at_call 114; refine (lx_digit _ _).mono ?_; rintro e w' ⟨rfl, hw'⟩; subst hw'; rw [hdR])
                | (go_at_call 115; refine (cNum _ hg2).mono ?_; rintro e w3 ⟨m, rfl, hb3, hm⟩))
              try rw [Exit.noGoto_ret]
              go_ret2
              exact ⟨_, by rw [HX.out]; rfl, by rw [HX.out]; exact rtoks_nil _ _, (HB2.out.trans (hb3.mono hw2)).alloc (Nat.le_trans hw2 hb3.size) _⟩
            | true =>
              have HX := Lib.hid (HSTEP.out ⟨2, z.data.toList, Po.value ((c :: r).takeWhile Po.digit)⟩ (by simp only [Po.next, hlt, hdg, if_true]; rw [hok, hzd]; simp))
              clear hlt hdg hz hzd hok h0
              go_upto_region 15 with (first
                | (go_at_call 111; refine (lx_letter _ _).mono ?_; rintro e w' ⟨rfl, hw'⟩; subst hw'; rw [hlR])
                | (go_at_call 114; refine (lx_digit _ _).mono ?_; rintro e w' ⟨rfl, hw'⟩; subst hw'; rw [hdR]))
              go_upto_region 16 with (go_at_call 115; refine (cNum _ hg2).mono ?_; rintro e w3 ⟨m, rfl, hb3, hm⟩)
              obtain ⟨vv, hvv⟩ : ∃ vv : Nat, Po.value ((c :: r).takeWhile Po.digit) = vv := ⟨_, rfl⟩
              rw [hvv] at HX ⊢
              have hb4 : Below w.heap.size w (w3.alloc (.cells #[.int .i64 2, .string z, .int .i64 vv, .int .i64 q] 202)) := (HB2.out.trans (hb3.mono hw2)).alloc (Nat.le_trans hw2 hb3.size) _
              have hr4 : (w3.alloc (.cells #[.int .i64 2, .string z, .int .i64 vv, .int .i64 q] 202)).ownsRow w.heap.size 202 4 u4 ks.length (toksFlat ks) := (own_below HR2.out hb3).alloc _
              have hc4 : (w3.alloc (.cells #[.int .i64 2, .string z, .int .i64 vv, .int .i64 q] 202)).heap[w3.heap.size]? = some (.cells #[.int .i64 2, .string z, .int .i64 vv, .int .i64 q] 202 (0, 0)) := heap_alloc_new _ _
              clear hm hvv hb3
              go_upto_region 19 with fail
              revert hb4 hr4 hc4
              generalize w3.alloc (.cells #[.int .i64 2, .string z, .int .i64 vv, .int .i64 q] 202) = W4
              intro hb4 hr4 hc4
              have HR3 := Lib.hid hr4
              have HB3 := Lib.hid hb4
              have hw4 : w.heap.size ≤ W4.heap.size := hb4.size
              obtain ⟨d0, d1, d2, d3, -⟩ := four_cells hc4
              clear hb4 hr4 hc4
              go_wp2_with (at_builtin; refine wpList_append_own_at _ rfl _ _ 141 rfl w.heap.size 202 i0 _ 4 40 Tryz.underlying141 hi hz0 hz1 hz2 rfl (by decide) u4 ks.length (toksFlat ks) (by rfl) (HR3.out.alloc _) ⟨W4.heap.size, 0, none⟩ 1 1 [.int .i64 2, .string z, .int .i64 vv, .int .i64 q] (by rfl) (by rfl) (news_four _ _ _ _ _ _) (by simp [Value.oneCell']) (by have := HLEN.out; unfold maxLen; omega) (by have := HLEN.out; omega) (by simp; omega) ?_; intro v' w4 hown hgrow _ hat; have HO := Lib.hid hown; have HG := Lib.hid hgrow; have HAT := Lib.hid hat; clear hown hgrow hat)
              go_roundg g
              case measure => omega
              case rel => exact ⟨ks ++ [((⟨2, z.data.toList, vv⟩ : Po.Tok), q)], HX.out, own_snoc HO.out (by simp [tokCells]), (HB3.out.alloc hw4 _).grown HG.out (by simp; omega) (fun j hj => (HR3.out.lt j hj).1)⟩
          | false =>
            have hdR : Po.digitR (c.toNat : Int) = false := by rw [Po.digitR_nat, hdg]
            have HNX := Lib.hid (Po.next_sign (r := r) hlt hdg)
            clear hlt hdg
            obtain ⟨oa, hoa⟩ : ∃ oa, opsVal = oa := ⟨_, rfl⟩
            have HOA := Lib.hid (fun (i : Nat) (w : List UInt8) (hi : Po.ops[i]? = some w) => show oa[i]? = some (Value.string ⟨w.toArray⟩) by rw [← hoa]; exact opsVal_get hi)
            have hoz : oa.size = 15 := by rw [← hoa]; rfl
            have cOps : ∀ w, Calls Tryz.prog 116 #[] w fun e w' => e = .returned (.agg oa) ∧ Below w.heap.size w w' := by
              intro w
              have h := lx_operators w
              rwa [hoa] at h
            clear hoa
            go_upto_region 20 with (first
              | (go_at_call 111; refine (lx_letter _ _).mono ?_; rintro e w' ⟨rfl, hw'⟩; subst hw'; rw [hlR])
              | (go_at_call 114; refine (lx_digit _ _).mono ?_; rintro e w' ⟨rfl, hw'⟩; subst hw'; rw [hdR]))
            go_wp2_with (go_at_call 116; refine (cOps _).mono ?_; rintro e w3 ⟨rfl, hb3⟩)
            have HR3 := Lib.hid (own_below HR2.out hb3)
            have HB3 := Lib.hid (HB2.out.trans (hb3.mono hw2))
            have hw3 : w.heap.size ≤ w3.heap.size := Nat.le_trans hw2 hb3.size
            clear hb3 cOps
            go_loopg [4, 64] 15 (fun g2 s4 s64 wx => ∃ i : Nat, i + g2 = 15 ∧ s4 = u4 ∧ s64 = .int .i64 i ∧ wx = w3 ∧ Aside (∀ j, j < i → ∃ v, Po.ops[j]? = some v ∧ v.isPrefixOf (c :: r) = false))
            case atStart => exact ⟨0, rfl, rfl, rfl, rfl, fun j hj => absurd hj (by omega)⟩
            case round =>
              obtain ⟨i, hig, h4, rfl, rfl, HA⟩ := hrel
              subst h4
              cases gk with
              | zero =>
                have hi15 : ¬ (i : Int) < 15 := by omega
                have HX := Lib.hid (HFAIL.out (by rw [HNX.out, Po.find_no (fun j hj => HA.out j (by rw [Po.ops_len] at hj; omega))]; rfl))
                go_wp2_with fail
                try rw [Exit.noGoto_ret]
                go_ret2
                exact ⟨_, by rw [HX.out]; rfl, by rw [HX.out]; exact rtoks_nil _ _, HB3.out⟩
              | succ g2 =>
                have hi15 : (i : Int) < 15 := by omega
                have hiN : i < 15 := by omega
                obtain ⟨wd, hwd⟩ : ∃ wd, Po.ops[i]? = some wd := ⟨_, List.getElem?_eq_getElem (by rw [Po.ops_len]; exact hiN)⟩
                have hget := HOA.out i wd hwd
                have hbd : 0 ≤ (i : Int) ∧ (i : Int) < 15 := by omega
                have HWD := Lib.hid hwd
                clear hwd
                obtain ⟨z, hz⟩ : ∃ z : ByteArray, (⟨wd.toArray⟩ : ByteArray) = z := ⟨_, rfl⟩
                have hzd : z.data.toList = wd := by rw [← hz]
                rw [hz] at hget
                have HZ := Lib.hid hzd
                have hix := fun w => index_op hoz hget w
                clear hz hzd hget hoz
                have hpx : ∀ w, Calls Tryz.prog 117 #[.string S, .string z] w fun e w' => e = .returned (.bool (wd.isPrefixOf (c :: r))) ∧ w' = w := by
                  intro w
                  have h := Tryz.strings_HasPrefix S z w
                  rwa [HS.out.1, HZ.out] at h
                cases hpre : wd.isPrefixOf (c :: r) with
                | true =>
                  have HX := Lib.hid (HSTEP.out ⟨3, wd, 0⟩ (by rw [HNX.out, Po.find_at HA.out HWD.out hpre]; rfl))
                  rw [hpre] at hpx
                  clear hpre
                  go_wp2_with fail
                  refine (hpx _).mono ?_
                  rintro e w5 ⟨rfl, hw5⟩
                  subst hw5
                  go_wp2_with (at_builtin; refine wpList_append_own_at _ rfl _ _ 141 rfl w.heap.size 202 i0 _ 4 40 Tryz.underlying141 hi hz0 hz1 hz2 rfl (by decide) _ ks.length (toksFlat ks) (by rfl) (HR3.out.alloc _) ⟨w5.heap.size, 0, none⟩ 1 1 [.int .i64 3, .string z, .int .i64 0, .int .i64 q] (by rfl) (by rfl) (news_four _ _ _ _ _ _) (by simp [Value.oneCell']) (by have := HLEN.out; unfold maxLen; omega) (by have := HLEN.out; omega) (by simp; omega) ?_; intro v' w4 hown hgrow _ hat; have HO := Lib.hid hown; have HG := Lib.hid hgrow; have HAT := Lib.hid hat; clear hown hgrow hat)
                  go_roundg g
                  case measure => omega
                  case rel => exact ⟨ks ++ [((⟨3, wd, 0⟩ : Po.Tok), q)], HX.out, own_snoc HO.out (by simp [tokCells, ← HZ.out]), (HB3.out.alloc hw3 _).grown HG.out (by simp; omega) (fun j hj => (HR3.out.lt j hj).1)⟩
                | false =>
                  have HX := Lib.hid hpre
                  rw [hpre] at hpx
                  clear hpre
                  go_wp2_with fail
                  refine (hpx _).mono ?_
                  rintro e w5 ⟨rfl, hw5⟩
                  subst hw5
                  go_wp2_with fail
                  go_roundg g2
                  case measure => omega
                  case rel => exact ⟨i + 1, by omega, rfl, by first | rfl | simp, rfl, fun j hj => by
                    by_cases h : j < i
                    · exact HA.out j h
                    · have : j = i := by omega
                      subst this
                      exact ⟨wd, HWD.out, HX.out⟩⟩
end Go.Proofs.YtdeccekeknlnoaaGreatDoor
