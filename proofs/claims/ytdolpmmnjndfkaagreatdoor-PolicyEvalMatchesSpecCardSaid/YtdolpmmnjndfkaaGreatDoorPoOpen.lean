/- Chapter 29: from the form's reading of facts to this proof's words. -/
import Derived.Test.YtdolpmmnjndfkaaGreatDoorPoEv
import Derived.ProofKit
import Derived.OpenShut
import Derived.ChangeOld
import Derived.Below
import Derived.Carry
import Derived.Deep.Matrix
import Derived.Deep.Slices
namespace Go.Proofs.YtdolpmmnjndfkaaGreatDoor
open Go.ChangeShapes Go.WideShapes Go.ChangeAt Go.RowKit Go.Deep
theorem laidOut : laidOutB Tryz.prog = true := by kernel_rfl
def FactsIn (w : World) (cs : Array Value) (f : Po.Facts) : Prop := RFacts w w.heap.size (.agg cs) f
section
variable {H : Type} {enc : TypeId × Value → H} {w : World} {base : Nat} {held : Bool}
theorem addr_plain {a : Addr} {v : Value} (h : w.cell? (a.add 0) = some v) : ∃ b o, a = ⟨b, o, none⟩ ∧ b < w.heap.size := by
  obtain ⟨b, off, spot⟩ := a
  have hspot : spot = none := by simpa [Addr.add] using World.cell?_spot h
  subst hspot
  have := World.block_lt_of_cell? w _ h
  exact ⟨b, off, rfl, by simpa [Addr.add] using this⟩
theorem add_at (b o i : Nat) : (⟨b, o, none⟩ : Addr).add i = ⟨b, o + i, none⟩ := by unfold Addr.add; split <;> simp_all
theorem four_of {α : Type} {l : List α} (h : l.length = 4) : ∃ a b c d, l = [a, b, c, d] := by
  match l, h with
  | [a, b, c, d], _ => exact ⟨a, b, c, d, rfl⟩
theorem reads_int1 {fuel : Nat} {cs : List Value} {x : DataW H × List MemPlace} (h : DataW.trod enc Tryz.prog w base (fun _ => true) held fuel 47 cs = some x) : ∃ v xs, cs = [v] ∧ RInt1 w w.heap.size v xs := by
  rcases open_ints Tryz.underlying47 Tryz.underlying3 (by kernel_rfl) h with ⟨rfl, _⟩ | ⟨a, len, cap, zs, rfl, _, hl, hm, hz, _, hc, _⟩
  · exact ⟨_, [], rfl, none, 0, rfl, by simp, by simp [maxLen], fun h => absurd h (by simp)⟩
  · simp only [if_true] at hz
    have hlen : (zs.take len).length = len := by simp; omega
    refine ⟨_, zs.take len, rfl, some a, cap, by rw [hlen], by omega, hm, ?_⟩
    rw [hlen]
    intro hn
    obtain ⟨b, o, rfl, hb⟩ := addr_plain (hc 0 (by omega))
    refine ⟨b, o, rfl, hb, fun i y hy => ?_⟩
    have hi : i < len := by have := (List.getElem?_eq_some_iff.1 hy).1; omega
    have := hc i (by omega)
    rw [add_at] at this
    rw [this]
    rw [List.getElem?_take_of_lt hi] at hy
    simp [hy]
theorem reads_int2 {fuel : Nat} {cs : List Value} {x : DataW H × List MemPlace} (h : DataW.trod enc Tryz.prog w base (fun _ => true) held fuel 40 cs = some x) : ∃ v f, cs = [v] ∧ RInt2 w w.heap.size v f := by
  rcases open_slice Tryz.underlying40 h with ⟨rfl, _⟩ | ⟨a, len, cap, m, n, D, Pl, rfl, _, hl, hm, hmm, _, hi⟩
  · exact ⟨_, [], rfl, none, 0, rfl, by simp, by simp [maxLen], fun h => absurd h (by simp)⟩
  · simp only [if_true] at hmm
    have hC : Tryz.prog.cellsOf 47 = 1 := by kernel_rfl
    rw [hC] at hi
    have each : ∀ i, i < len → ∃ y : Value × List Int, w.cell? (a.add i) = some y.1 ∧ RInt1 w w.heap.size y.1 y.2 := by
      intro i hil
      obtain ⟨cs', hcs, ht⟩ := hi i (by omega)
      obtain ⟨v, xs, rfl, hr⟩ := reads_int1 ht
      obtain ⟨_, _, hat⟩ := World.cells?_some hcs
      have := hat 0 (by omega)
      refine ⟨(v, xs), ?_, hr⟩
      simpa [Addr.add] using this
    obtain ⟨y, hy⟩ := choose_lt each
    have hlen : ((List.range len).map fun i => (y i).2).length = len := by simp
    refine ⟨_, (List.range len).map fun i => (y i).2, rfl, some a, cap, by rw [hlen], by omega, hm, ?_⟩
    rw [hlen]
    intro hn
    obtain ⟨b, o, rfl, hb⟩ := addr_plain (hy 0 hn).1
    refine ⟨b, o, rfl, hb, fun i r hr => ?_⟩
    have hil : i < len := by have := (List.getElem?_eq_some_iff.1 hr).1; omega
    rw [List.getElem?_map, List.getElem?_range hil] at hr
    simp only [Option.map_some, Option.some.injEq] at hr
    subst hr
    have := (hy i hil).1
    rw [add_at] at this
    exact ⟨(y i).1, this, (hy i hil).2⟩
theorem reads_digs {fuel : Nat} {cs : List Value} {x : DataW H × List MemPlace} (h : DataW.trod enc Tryz.prog w base (fun _ => true) held fuel 39 cs = some x) : ∃ v ds, cs = [v] ∧ RDigs w w.heap.size v ds := by
  rcases open_slice Tryz.underlying39 h with ⟨rfl, _⟩ | ⟨a, len, cap, m, n, D, Pl, rfl, _, hl, hm, hmm, _, hi⟩
  · exact ⟨_, [], rfl, none, 0, rfl, by simp, by simp [maxLen], fun h => absurd h (by simp)⟩
  · simp only [if_true] at hmm
    have hC : Tryz.prog.cellsOf 65 = 16 := by kernel_rfl
    have hC1 : Tryz.prog.cellsOf 5 = 1 := by kernel_rfl
    rw [hC] at hi
    have each : ∀ i, i < len → ∃ y : List Nat, y.length = 16 ∧ ∀ j z, y[j]? = some z → w.cell? ((a.add (i * 16)).add j) = some (.int .u8 (z : Nat)) := by
      intro i hil
      obtain ⟨cs', hcs, ht⟩ := hi i (by omega)
      obtain ⟨_, hcl, hat⟩ := World.cells?_some hcs
      obtain ⟨xs, m', _, _, hlen, hxl, hel⟩ := DataW.trod_array Tryz.underlying65 ht
      rw [hC1] at hel
      have eachj : ∀ j, j < 16 → ∃ z : Nat, cs'[j]? = some (.int .u8 (z : Nat)) := by
        intro j hj
        have he := hel j hj
        rw [Nat.mul_one, List.getElem?_eq_getElem (by omega)] at he
        obtain ⟨z, e1, _, hw⟩ := DataW.trod_int Tryz.underlying5 he
        have hz : 0 ≤ z ∧ z ≤ 255 := by simpa [Lit.wf, IntKind.min, IntKind.max, IntKind.signed, IntKind.bits] using hw
        refine ⟨z.toNat, ?_⟩
        have h0 : ((cs'.drop j).take 1)[0]? = some (.int .u8 z) := by rw [e1]; rfl
        have : cs'[j]? = some (.int .u8 z) := by simpa using h0
        rw [this]
        exact congrArg (fun t => some (Value.int .u8 t)) (Int.toNat_of_nonneg hz.1).symm
      obtain ⟨z, hz⟩ := choose_lt eachj
      refine ⟨(List.range 16).map z, by simp, fun j y hy => ?_⟩
      have hj : j < 16 := by have := (List.getElem?_eq_some_iff.1 hy).1; simpa using this
      rw [List.getElem?_map, List.getElem?_range hj] at hy
      simp only [Option.map_some, Option.some.injEq] at hy
      subst hy
      rw [hat j (by omega)]
      exact hz j hj
    obtain ⟨y, hy⟩ := choose_lt each
    have hlen : ((List.range len).map y).length = len := by simp
    refine ⟨_, (List.range len).map y, rfl, some a, cap, by rw [hlen], by omega, hm, ?_⟩
    rw [hlen]
    intro hn
    have h00 : ∃ z0, (y 0)[0]? = some z0 := ⟨_, List.getElem?_eq_getElem (by rw [(hy 0 hn).1]; omega)⟩
    obtain ⟨z0, hz0⟩ := h00
    have hfirst := (hy 0 hn).2 0 z0 hz0
    obtain ⟨b, o, rfl, hb⟩ : ∃ b o, a = ⟨b, o, none⟩ ∧ b < w.heap.size := by
      rw [Nat.zero_mul] at hfirst
      have e : (a.add 0).add 0 = a.add 0 := by unfold Addr.add; split <;> simp_all
      rw [e] at hfirst
      exact addr_plain hfirst
    refine ⟨b, o, rfl, hb, fun i d hd => ?_⟩
    have hil : i < len := by have := (List.getElem?_eq_some_iff.1 hd).1; omega
    rw [List.getElem?_map, List.getElem?_range hil] at hd
    simp only [Option.map_some, Option.some.injEq] at hd
    subst hd
    refine ⟨(hy i hil).1, fun j z hz => ?_⟩
    have := (hy i hil).2 j z hz
    rw [add_at, add_at] at this
    exact this
theorem reads_facts {fuel : Nat} {cs : List Value} {x : DataW H × List MemPlace} (h : DataW.trod enc Tryz.prog w base (fun _ => true) held fuel 42 cs = some x) : ∃ (f : Po.Facts) (c : Array Value), cs = c.toList ∧ FactsIn w c f := by
  obtain ⟨xs, n, _, _, hlen, hxl, hf⟩ := DataW.trod_struct Tryz.underlying42 h
  have hC : Tryz.prog.cellsOf 42 = 4 := by kernel_rfl
  rw [hC] at hlen
  obtain ⟨c0, c1, c2, c3, rfl⟩ := four_of hlen
  clear hlen
  obtain ⟨y0, y1, y2, y3, rfl⟩ := four_of (hxl.trans rfl)
  clear hxl
  have hC3 : Tryz.prog.cellsOf 3 = 1 := by kernel_rfl
  have hC4 : Tryz.prog.cellsOf 39 = 1 := by kernel_rfl
  have hC5 : Tryz.prog.cellsOf 40 = 1 := by kernel_rfl
  have h0 : DataW.trod enc Tryz.prog w base (fun _ => true) held n 3 (([c0, c1, c2, c3].drop 0).take (Tryz.prog.cellsOf 3)) = [y0, y1, y2, y3][0]? := hf 0 _ rfl
  have h1 : DataW.trod enc Tryz.prog w base (fun _ => true) held n 3 (([c0, c1, c2, c3].drop 1).take (Tryz.prog.cellsOf 3)) = [y0, y1, y2, y3][1]? := hf 1 _ rfl
  have h2 : DataW.trod enc Tryz.prog w base (fun _ => true) held n 39 (([c0, c1, c2, c3].drop 2).take (Tryz.prog.cellsOf 39)) = [y0, y1, y2, y3][2]? := hf 2 _ rfl
  have h3 : DataW.trod enc Tryz.prog w base (fun _ => true) held n 40 (([c0, c1, c2, c3].drop 3).take (Tryz.prog.cellsOf 40)) = [y0, y1, y2, y3][3]? := hf 3 _ rfl
  rw [hC3] at h0 h1
  rw [hC4] at h2
  rw [hC5] at h3
  obtain ⟨n0, e0, _⟩ := DataW.trod_int Tryz.underlying3 h0
  obtain ⟨n1, e1, _⟩ := DataW.trod_int Tryz.underlying3 h1
  obtain ⟨v2, ds, e2, r2⟩ := reads_digs h2
  obtain ⟨v3, rs, e3, r3⟩ := reads_int2 h3
  simp at e0 e1 e2 e3
  subst e0; subst e1; subst e2; subst e3
  exact ⟨⟨n0, n1, ds, rs⟩, #[.int .i64 n0, .int .i64 n1, _, _], rfl, _, _, rfl, r2, r3⟩
end
end Go.Proofs.YtdolpmmnjndfkaaGreatDoor
