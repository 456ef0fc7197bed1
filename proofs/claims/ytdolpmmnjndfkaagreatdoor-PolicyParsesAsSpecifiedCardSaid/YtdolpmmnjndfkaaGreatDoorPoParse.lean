/- Chapter 29, the walk: Parse of package policy. -/
import Derived.Test.YtdolpmmnjndfkaaGreatDoorPoLexOk
import Derived.Test.YtdolpmmnjndfkaaGreatDoorPoLxD
import Derived.Test.YtdolpmmnjndfkaaGreatDoorPoTreeX
namespace Go.Proofs.YtdolpmmnjndfkaaGreatDoor
open Go.RowKit
def ParseSays (T : List UInt8) (w : World) (e : Ending) (w' : World) : Prop :=
  ∃ v, e = .returned (.tuple #[.agg #[v], .int .i64 ((Po.parse T).2 : Nat)]) ∧ RNds w' w.heap.size w'.heap.size v (Po.parse T).1 ∧ Po.OkAll (Po.parse T).1 ∧ Below w.heap.size w w'
def treeEnd : Option (List Po.Nd) → List Po.Nd × Nat
  | none => ([], 3)
  | some o => if 400 < o.length then ([], 2) else (o, 0)
theorem parse_toks (T : List UInt8) : Po.parse T = if (Po.toks T).2 ≠ 0 then ([], (Po.toks T).2) else if 30 < Po.depth (Po.toks T).1 then ([], 2) else treeEnd (Po.tree (Po.toks T).1) := by
  unfold Po.parse Po.toks
  split
  · rfl
  · cases Po.lex T with
    | none => rfl
    | some l =>
      simp only [ne_eq, not_true_eq_false, if_false]
      split
      · rfl
      · cases Po.tree l <;> rfl
theorem toks_ok (T : List UInt8) : Po.OkToks (Po.toks T).1 ∧ (Po.toks T).1.length ≤ 1500 := by
  unfold Po.toks
  split
  · exact ⟨fun x hx => by simp at hx, by simp⟩
  · cases h : Po.lex T with
    | none => exact ⟨fun x hx => by simp at hx, by simp⟩
    | some l => exact ⟨(Po.lex_ok h).1, by have := (Po.lex_ok h).2; simp only; omega⟩
theorem one_cell {W : World} {B : Nat} {a : Value} {t : TypeId} (h : W.heap[B]? = some (.cells #[a] t (0, 0))) : W.cell? ⟨B, 0, none⟩ = some a ∧ ∀ o, W.frozen? ⟨B, o, none⟩ = false := by
  constructor <;> simp [World.cell?, World.frozen?, h]
/-- how Parse hands back -/
theorem parse_end {T : List UInt8} {w W : World} {A : Option Addr} {n c : Nat} {a : Act} {e : Nat} {o : List Po.Nd} {V : Value} (hd : a.defers = []) (h2 : a.tmps[2]?.getD undef = .pointer (some ⟨w.heap.size, 0, none⟩)) (h3 : a.tmps[3]?.getD undef = .int .i64 e)
    (hw : Below w.heap.size w W) (hc : W.heap[w.heap.size]? = some (.cells #[V] 25 (0, 0))) (hp : Po.parse T = (o, e)) (hr : RNds W (w.heap.size + 1) W.heap.size (.slice A n c) o) (hok : Po.OkAll o) :
    bodyPost Tryz.prog Tryz.f10 (ParseSays T w) Exit.ret a (W.setCell ⟨w.heap.size, 0, none⟩ (.slice A n c)) := by
  have hs : (W.setCell ⟨w.heap.size, 0, none⟩ (.slice A n c)).heap.size = W.heap.size := by simp [World.setCell]
  have hc2 := set_one (v := .slice A n c) hc
  have hB : Below w.heap.size w (W.setCell ⟨w.heap.size, 0, none⟩ (.slice A n c)) := hw.setCell (p := ⟨w.heap.size, 0, none⟩) (Nat.le_refl _) _
  have hR : RNds (W.setCell ⟨w.heap.size, 0, none⟩ (.slice A n c)) (w.heap.size + 1) W.heap.size (.slice A n c) o := hr.frame fun k hk _ => set_other _ _ _ _ _ (by omega)
  revert hs hc2 hB hR
  generalize W.setCell ⟨w.heap.size, 0, none⟩ (.slice A n c) = W'
  intro hs hc2 hB hR
  obtain ⟨c0, -⟩ := one_cell hc2
  refine bodyPost_ret (v := .tuple #[.agg #[.slice A n c], .int .i64 e]) ?_ hd ⟨.slice A n c, by rw [hp], by rw [hp]; exact hR.more (Nat.le_succ _) (by rw [hs]; exact Nat.le_refl _), by rw [hp]; exact hok, hB⟩
  simp [results, Tryz.results10, go_sem, h2, h3, c0, asAddr]
set_option maxRecDepth 1000000 in
set_option maxHeartbeats 4000000 in
theorem po_parse (text : ByteArray) (w : World) (hg : Gl w) :
    Calls Tryz.prog 10 #[.string text] w (ParseSays text.data.toList w) := by
  obtain ⟨T, hT⟩ : ∃ T, text.data.toList = T := ⟨_, rfl⟩
  rw [hT]
  obtain ⟨S, hS⟩ : ∃ S, ParseSays T w = S := ⟨_, rfl⟩
  rw [hS]
  have hP := Lib.hid (parse_toks T)
  have hg0 := hg.mem (Below.new (w := w) (.cells #[.slice none 0 0] 25))
  have cTok := lx_tokens text (w.alloc (.cells #[.slice none 0 0] 25)) hg0
  rw [hT] at cTok
  obtain ⟨tk, hk⟩ : ∃ tk, Po.toks T = tk := ⟨_, rfl⟩
  have HK := Lib.hid hk
  have hok := toks_ok T
  rw [hk] at hok
  have HOK := Lib.hid hok
  unfold TokSays at cTok
  rw [hk] at cTok
  obtain ⟨tl, te⟩ := tk
  simp only at cTok
  clear hT hg hg0 hk hok
  go_enter Tryz.func10, Tryz.ntmps10
  go_wp2_with fail
  refine cTok.mono ?_
  rintro e w1 ⟨v, rfl, hrt, hb1⟩
  have HR := Lib.hid hrt
  have hr0 := (hb1.block w.heap.size (by simp)).trans (heap_alloc_new _ _)
  have hs1 := hb1.size
  simp only [World.size_alloc] at hs1
  have HB1 := Lib.hid ((Below.new (w := w) (.cells #[.slice none 0 0] 25)).trans (hb1.mono (by simp)))
  obtain ⟨A, c, rfl, -, -⟩ := hrt.form
  obtain ⟨r0, rz⟩ := one_cell hr0
  have hw1 : w.heap.size < w1.heap.size := by omega
  have HR0 := Lib.hid hr0
  clear hrt hb1 hs1 cTok hr0
  by_cases he : te = 0
  · subst he
    have HX := Lib.hid (show Po.parse T = if 30 < Po.depth tl then ([], 2) else treeEnd (Po.tree tl) by rw [hP.out, HK.out]; simp)
    have cDep := pa_depth (.slice A tl.length c) tl w1 HR.out (by have := HOK.out.2; omega)
    have cTree := pa_tree (.slice A tl.length c) tl
    by_cases hd : 30 < Po.depth tl
    · have HY := Lib.hid (show Po.parse T = ([], 2) by rw [HX.out, if_pos hd])
      go_upto_region 4 with fail
      go_wp2_with fail
      refine cDep.mono ?_
      rintro e w2 ⟨rfl, hb2⟩
      have hr2 := (hb2.block w.heap.size hw1).trans HR0.out
      obtain ⟨q0, qz⟩ := one_cell hr2
      have HR2 := Lib.hid hr2
      have HB2 := Lib.hid (HB1.out.trans (hb2.mono (Nat.le_of_lt hw1)))
      clear hb2 hr2 cDep cTree
      go_wp2_with fail
      rw [← hS]
      exact parse_end rfl rfl rfl HB2.out HR2.out HY.out (rnds_nil _ _ _) .nil
    · have HY := Lib.hid (show Po.parse T = treeEnd (Po.tree tl) by rw [HX.out, if_neg hd])
      go_upto_region 4 with fail
      go_wp2_with fail
      refine cDep.mono ?_
      rintro e w2 ⟨rfl, hb2⟩
      have hr2 := (hb2.block w.heap.size hw1).trans HR0.out
      have HB2 := Lib.hid (HB1.out.trans (hb2.mono (Nat.le_of_lt hw1)))
      have hw2 : w.heap.size < w2.heap.size := Nat.lt_of_lt_of_le hw1 hb2.size
      have ct := cTree w2 ((HR.out.below hb2).more hb2.size) HOK.out.1 (by have := HOK.out.2; omega)
      have HR2 := Lib.hid hr2
      clear hb2 hr2 cDep cTree
      go_wp2_with fail
      refine ct.mono ?_
      intro e w3 hn
      clear ct
      cases ht : Po.tree tl with
      | none =>
        rw [ht] at hn
        obtain ⟨A3, n3, c3, rfl, hb3⟩ := hn
        have HZ := Lib.hid (show Po.parse T = ([], 3) by rw [HY.out, ht]; rfl)
        have hr3 := (hb3.block w.heap.size hw2).trans HR2.out
        obtain ⟨q0, qz⟩ := one_cell hr3
        have HR3 := Lib.hid hr3
        have HB3 := Lib.hid (HB2.out.trans (hb3.mono (Nat.le_of_lt hw2)))
        clear hb3 hr3 ht
        go_wp2_with fail
        rw [← hS]
        exact parse_end rfl rfl rfl HB3.out HR3.out HZ.out (rnds_nil _ _ _) .nil
      | some o =>
        rw [ht] at hn
        obtain ⟨v3, rfl, hnd, hok, hb3⟩ := hn
        obtain ⟨A3, c3, rfl, -, -⟩ := hnd.form
        have HN := Lib.hid (And.intro hnd hok)
        have hr3 := (hb3.block w.heap.size hw2).trans HR2.out
        obtain ⟨q0, qz⟩ := one_cell hr3
        have HR3 := Lib.hid hr3
        have HB3 := Lib.hid (HB2.out.trans (hb3.mono (Nat.le_of_lt hw2)))
        by_cases h4 : 400 < o.length
        · have HZ := Lib.hid (show Po.parse T = ([], 2) by rw [HY.out, ht, treeEnd, if_pos h4])
          have h4' : (400 : Int) < o.length := by omega
          clear hb3 hr3 ht hnd hok h4
          go_wp2_with fail
          rw [← hS]
          exact parse_end rfl rfl rfl HB3.out HR3.out HZ.out (rnds_nil _ _ _) .nil
        · have HZ := Lib.hid (show Po.parse T = (o, 0) by rw [HY.out, ht, treeEnd, if_neg h4])
          have h4' : ¬ (400 : Int) < o.length := by omega
          clear hb3 hr3 ht hnd hok h4
          go_wp2_with fail
          rw [← hS]
          exact parse_end rfl rfl rfl HB3.out HR3.out HZ.out (HN.out.1.more (by omega) (Nat.le_refl _)) HN.out.2
  · have he' : ¬ ((te : Int) = 0) := by omega
    have HX := Lib.hid (show Po.parse T = ([], te) by rw [hP.out, HK.out]; simp [he])
    clear he
    go_wp2_with fail
    rw [← hS]
    exact parse_end rfl rfl rfl HB1.out HR0.out HX.out (rnds_nil _ _ _) .nil
end Go.Proofs.YtdolpmmnjndfkaaGreatDoor
