/- Chapter 29: what the listed variables give the walks. -/
import Derived.Test.YtdolpmmnjndfkaaGreatDoorRows
import Derived.Test.YtdolpmmnjndfkaaGreatDoorPoShelf
import Derived.Lib.LaidTab
import Derived.LaidMore
import Derived.LaidHandle
import Derived.LaidLaws
import Derived.OpenShut
namespace Go.Proofs.YtdolpmmnjndfkaaGreatDoor
open Go.ChangeShapes Go.WideShapes Go.RowKit
namespace La
theorem gEv : Tryz.prog.globalNamed "bootchain/policy.evaluators" = some 0 := by kernel_rfl
theorem tEv : (Tryz.prog.globals[0]?).map (·.type) = some 79 := by kernel_rfl
theorem cEv : Tryz.prog.cellsOf 79 = 11 := by kernel_rfl
theorem cFn : Tryz.prog.cellsOf 78 = 1 := by kernel_rfl
theorem gTab : Tryz.prog.globalNamed "internal/strconv.uint64pow10" = some 1 := by kernel_rfl
theorem tTab : (Tryz.prog.globals[1]?).map (·.type) = some 165 := by kernel_rfl
theorem gEr : Tryz.prog.globalNamed "strconv.ErrRange" = some 5 := by kernel_rfl
theorem tEr : (Tryz.prog.globals[5]?).map (·.type) = some 113 := by kernel_rfl
theorem g64 : Tryz.prog.globalNamed "math/bits.deBruijn64tab" = some 8 := by kernel_rfl
end La
def laidAll : List (String × DataW Unit) := Rows.policyRoundTripRow.laid
def laidPlain : List (String × DataW Unit) := [("math/bits.deBruijn32tab", Rows.laid_math_bits_deBruijn32tab), ("math/bits.deBruijn64tab", Rows.laid_math_bits_deBruijn64tab), ("internal/strconv.uint64pow10", Rows.laid_internal_strconv_uint64pow10), ("unicode/utf8.acceptRanges", Rows.laid_unicode_utf8_acceptRanges), ("strconv.ErrRange", Rows.laid_strconv_ErrRange), ("strconv.ErrSyntax", Rows.laid_strconv_ErrSyntax), ("unicode/utf8.first", Rows.laid_unicode_utf8_first)]
theorem laid_plain {W : World} (h : laidMetH Tryz.prog laidAll W) : laidMet Tryz.prog laidPlain W := by
  unfold laidMetH at h
  have e1 : (laidAll.filter fun x => x.2.handleName?.isSome) = [("bootchain/policy.evaluators", Rows.laid_bootchain_policy_evaluators)] := by kernel_rfl
  have e2 : (laidAll.filter fun x => x.2.handleName?.isNone) = laidPlain := by kernel_rfl
  rw [e1, e2] at h
  exact h.1
def evNames : List (List UInt8) := (List.range 10).map fun k => "bootchain/policy.evaluators$".toUTF8.data.toList ++ (if k = 9 then [49, 48] else [UInt8.ofNat (49 + k)])
theorem ev_out : (DataW.funcsOut (match (Rows.laid_bootchain_policy_evaluators : DataW Unit) with | .iface _ d => d | d => d)) = (.agg (.nil :: evNames.map .held) : DataW (List UInt8)) := by kernel_rfl
theorem ev_mem : ("bootchain/policy.evaluators", (DataW.iface "func table" (match (Rows.laid_bootchain_policy_evaluators : DataW Unit) with | .iface _ d => d | d => d) : DataW Unit)) ∈ laidAll := List.mem_of_getElem? (i := 6) rfl
theorem ev_cells {W : World} (h : laidMetH Tryz.prog laidAll W) : ∀ (k f : Nat), evalFns[k]? = some f → W.cell? ⟨0, k + 1, none⟩ = some (.func (.func f) #[] #[]) := by
  obtain ⟨g, t, cs, fuel, p, hg, ht, hv, hd⟩ := h.funcs ev_mem
  obtain rfl := Option.some.inj (La.gEv.symm.trans hg)
  obtain rfl := Option.some.inj (La.tEv.symm.trans ht)
  rw [ev_out] at hd
  obtain ⟨xs, m, rfl, hx1, hlen, hn, hel⟩ := DataW.trod_array Tryz.underlying79 hd
  simp only [Prod.mk.injEq, DataW.agg.injEq] at hx1
  rw [La.cEv] at hlen
  rw [La.cFn] at hel
  have hcell := fun i => World.var?_cell hg hv i
  have step : ∀ (k f : Nat) {b : UInt8} {r : List UInt8}, k < 10 → evNames[k]? = some (b :: r) → ((List.range Tryz.prog.funcs.size).filter fun f => (Tryz.prog.funcs[f]?).any (·.name.toUTF8.data.toList == b :: r)) = [f] → W.cell? ⟨0, k + 1, none⟩ = some (.func (.func f) #[] #[]) := by
    intro k f b r hk hname hone
    have hx : (xs.map (·.1))[k + 1]? = some (.held (b :: r)) := by rw [← hx1.1]; simp [hname]
    rw [List.getElem?_map] at hx
    obtain ⟨⟨d, q⟩, hxs, hdd⟩ := Option.map_eq_some_iff.1 hx
    simp only at hdd
    subst hdd
    have he := hel (k + 1) (by omega)
    rw [hxs, Nat.mul_one] at he
    have hc : k + 1 < cs.toList.length := by omega
    have ht1 : (cs.toList.drop (k + 1)).take 1 = [cs.toList[k + 1]] := by
      rw [List.drop_eq_getElem_cons hc]; rfl
    rw [ht1] at he
    have hv := func_of_trod Tryz.underlying78 hone he
    have := hcell (k + 1)
    rw [this, ← hv]
    simp
  intro k f hf
  match k, hf with
  | 0, hf =>
    simp only [evalFns, List.getElem?_cons_zero, Option.some.injEq] at hf
    subst hf
    exact step 0 _ (b := 98) (r := [111, 111, 116, 99, 104, 97, 105, 110, 47, 112, 111, 108, 105, 99, 121, 46, 101, 118, 97, 108, 117, 97, 116, 111, 114, 115, 36, 49]) (by decide) rfl (by kernel_rfl)
  | 1, hf =>
    simp only [evalFns, List.getElem?_cons_zero, List.getElem?_cons_succ, Option.some.injEq] at hf
    subst hf
    exact step 1 _ (b := 98) (r := [111, 111, 116, 99, 104, 97, 105, 110, 47, 112, 111, 108, 105, 99, 121, 46, 101, 118, 97, 108, 117, 97, 116, 111, 114, 115, 36, 50]) (by decide) rfl (by kernel_rfl)
  | 2, hf =>
    simp only [evalFns, List.getElem?_cons_zero, List.getElem?_cons_succ, Option.some.injEq] at hf
    subst hf
    exact step 2 _ (b := 98) (r := [111, 111, 116, 99, 104, 97, 105, 110, 47, 112, 111, 108, 105, 99, 121, 46, 101, 118, 97, 108, 117, 97, 116, 111, 114, 115, 36, 51]) (by decide) rfl (by kernel_rfl)
  | 3, hf =>
    simp only [evalFns, List.getElem?_cons_zero, List.getElem?_cons_succ, Option.some.injEq] at hf
    subst hf
    exact step 3 _ (b := 98) (r := [111, 111, 116, 99, 104, 97, 105, 110, 47, 112, 111, 108, 105, 99, 121, 46, 101, 118, 97, 108, 117, 97, 116, 111, 114, 115, 36, 52]) (by decide) rfl (by kernel_rfl)
  | 4, hf =>
    simp only [evalFns, List.getElem?_cons_zero, List.getElem?_cons_succ, Option.some.injEq] at hf
    subst hf
    exact step 4 _ (b := 98) (r := [111, 111, 116, 99, 104, 97, 105, 110, 47, 112, 111, 108, 105, 99, 121, 46, 101, 118, 97, 108, 117, 97, 116, 111, 114, 115, 36, 53]) (by decide) rfl (by kernel_rfl)
  | 5, hf =>
    simp only [evalFns, List.getElem?_cons_zero, List.getElem?_cons_succ, Option.some.injEq] at hf
    subst hf
    exact step 5 _ (b := 98) (r := [111, 111, 116, 99, 104, 97, 105, 110, 47, 112, 111, 108, 105, 99, 121, 46, 101, 118, 97, 108, 117, 97, 116, 111, 114, 115, 36, 54]) (by decide) rfl (by kernel_rfl)
  | 6, hf =>
    simp only [evalFns, List.getElem?_cons_zero, List.getElem?_cons_succ, Option.some.injEq] at hf
    subst hf
    exact step 6 _ (b := 98) (r := [111, 111, 116, 99, 104, 97, 105, 110, 47, 112, 111, 108, 105, 99, 121, 46, 101, 118, 97, 108, 117, 97, 116, 111, 114, 115, 36, 55]) (by decide) rfl (by kernel_rfl)
  | 7, hf =>
    simp only [evalFns, List.getElem?_cons_zero, List.getElem?_cons_succ, Option.some.injEq] at hf
    subst hf
    exact step 7 _ (b := 98) (r := [111, 111, 116, 99, 104, 97, 105, 110, 47, 112, 111, 108, 105, 99, 121, 46, 101, 118, 97, 108, 117, 97, 116, 111, 114, 115, 36, 56]) (by decide) rfl (by kernel_rfl)
  | 8, hf =>
    simp only [evalFns, List.getElem?_cons_zero, List.getElem?_cons_succ, Option.some.injEq] at hf
    subst hf
    exact step 8 _ (b := 98) (r := [111, 111, 116, 99, 104, 97, 105, 110, 47, 112, 111, 108, 105, 99, 121, 46, 101, 118, 97, 108, 117, 97, 116, 111, 114, 115, 36, 57]) (by decide) rfl (by kernel_rfl)
  | 9, hf =>
    simp only [evalFns, List.getElem?_cons_zero, List.getElem?_cons_succ, Option.some.injEq] at hf
    subst hf
    exact step 9 _ (b := 98) (r := [111, 111, 116, 99, 104, 97, 105, 110, 47, 112, 111, 108, 105, 99, 121, 46, 101, 118, 97, 108, 117, 97, 116, 111, 114, 115, 36, 49, 48]) (by decide) rfl (by kernel_rfl)
  | k + 10, hf => simp [evalFns] at hf
theorem gl_of_laid {W : World} (h : laidMetH Tryz.prog laidAll W) : Gl W := by
  have hev := ev_cells h
  obtain ⟨ps, ⟨g0, t0, cs0, f0, p0, q0, hg0, ht0, hv0, hd0, ⟨g1, t1, cs1, f1, p1, q1, hg1, ht1, hv1, hd1, ⟨g2, t2, cs2, f2, p2, q2, hg2, ht2, hv2, hd2, ⟨g3, t3, cs3, f3, p3, q3, hg3, ht3, hv3, hd3, ⟨g4, t4, cs4, f4, p4, q4, hg4, ht4, hv4, hd4, -⟩, -⟩, -⟩, -⟩, -⟩, -⟩ := laid_plain h
  refine ⟨?_, ?_, hev, ?_⟩
  · obtain rfl := Option.some.inj (La.gTab.symm.trans hg2)
    obtain rfl := Option.some.inj (La.tTab.symm.trans ht2)
    have e : (Rows.laid_internal_strconv_uint64pow10 : DataW Unit) = Lib.tabData .u64 Lib.pow10Tab := by kernel_rfl
    rw [e] at hd2
    have hc := Lib.cells_of_tab Tryz.underlying165 Tryz.underlying133 (by kernel_rfl) (by kernel_rfl) hd2
    unfold Lib.TabIs
    rw [hv2, ← hc]
  · obtain rfl := Option.some.inj (La.gEr.symm.trans hg4)
    obtain rfl := Option.some.inj (La.tEr.symm.trans ht4)
    obtain ⟨fu, u, v, hcs, -⟩ := iface_of_trod Tryz.underlying113 hd4
    have := World.var?_cell La.gEr hv4 0
    rw [Array.eq_one_of_toList hcs] at this
    exact ⟨_, by simpa using this, .inr ⟨u, v, rfl⟩⟩
  · obtain rfl := Option.some.inj (La.g64.symm.trans hg1)
    have : W.heap[8]? ≠ none := by
      intro e
      unfold World.var? at hv1
      rw [La.g64] at hv1
      simp [e] at hv1
    rcases Nat.lt_or_ge 8 W.heap.size with hh | hh
    · exact hh
    · exact absurd (Array.getElem?_eq_none hh) this
end Go.Proofs.YtdolpmmnjndfkaaGreatDoor
