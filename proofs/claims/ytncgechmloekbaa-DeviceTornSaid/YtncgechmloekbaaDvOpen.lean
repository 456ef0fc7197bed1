/- From the form's reading of an argument to this proof's words: a Hardware, an Access, a Fault, ints. -/
import Derived.Test.YtncgechmloekbaaDvQ
import Derived.ProofKit
import Derived.OpenShut
import Derived.ChangeOld
import Derived.Below
import Derived.Carry
import Derived.Deep.Matrix
import Derived.Deep.Slices
import Derived.SliceStrings
import Derived.ChangeMaps5
namespace Go.Proofs.Ytncgechmloekbaa
open Go.ChangeShapes Go.WideShapes Go.ChangeAt Go.RowKit Go.Deep

theorem cells_of_add {w : World} {a : Addr} {n : Nat} {f : Nat → Value} (h : ∀ i, i < n → w.cell? (a.add i) = some (f i)) : Cells w w.heap.size (some a) n f := by
  intro hn
  obtain ⟨b, off, spot⟩ := a
  have hc := h 0 hn
  have hspot : spot = none := by simpa [Addr.add] using World.cell?_spot hc
  subst hspot
  refine ⟨b, off, rfl, ?_, fun i hi => ?_⟩
  · have := World.block_lt_of_cell? w _ hc
    simpa [Addr.add] using this
  · have hadd : (⟨b, off, none⟩ : Addr).add i = ⟨b, off + i, none⟩ := by unfold Addr.add; split <;> simp_all
    rw [← hadd]
    exact h i hi

section
variable {H : Type} {enc : TypeId × Value → H} {w : World} {base : Nat} {held : Bool}

set_option maxRecDepth 100000 in
theorem reads_ints {fuel : Nat} {cs : List Value} {x : DataW H × List MemPlace} (h : DataW.trod enc Try.prog w base (fun _ => true) held fuel 36 cs = some x) : ∃ v xs, cs = [v] ∧ RInts w w.heap.size v xs := by
  rcases open_ints Try.underlying36 Try.underlying3 (by kernel_rfl) h with ⟨rfl, _⟩ | ⟨a, len, cap, zs, rfl, _, hl, hm, hz, _, hc, _⟩
  · exact ⟨_, [], rfl, none, 0, rfl, by simp, by simp [maxLen], fun h => absurd h (by simp)⟩
  · simp only [if_true] at hz
    have hlen : (zs.take len).length = len := by simp; omega
    refine ⟨_, zs.take len, rfl, some a, cap, by rw [hlen], by omega, hm, ?_⟩
    rw [hlen]
    refine cells_of_add fun i hi => ?_
    rw [hc i (by omega)]
    simp [nthI, hi]

set_option maxRecDepth 100000 in
theorem reads_bytes {fuel : Nat} {cs : List Value} {x : DataW H × List MemPlace} (h : DataW.trod enc Try.prog w base (fun _ => true) held fuel 56 cs = some x) : ∃ v xs, cs = [v] ∧ RBytes w w.heap.size v xs := by
  rcases open_ints Try.underlying56 Try.underlying5 (by kernel_rfl) h with ⟨rfl, _⟩ | ⟨a, len, cap, zs, rfl, _, hl, hm, hz, _, hc, hw⟩
  · exact ⟨_, [], rfl, none, 0, rfl, by simp, by simp [maxLen], by simp, fun h => absurd h (by simp)⟩
  · simp only [if_true] at hz
    have hlen : ((zs.take len).map Int.toNat).length = len := by simp; omega
    have hwf : ∀ n ∈ zs, 0 ≤ n ∧ n ≤ 255 := fun n hn => by simpa [Lit.wf, IntKind.min, IntKind.max, IntKind.signed, IntKind.bits] using hw n hn
    refine ⟨_, (zs.take len).map Int.toNat, rfl, some a, cap, by rw [hlen], by omega, hm, ?_, ?_⟩
    · intro y hy
      obtain ⟨n, hn, rfl⟩ := List.mem_map.1 hy
      have := hwf n (List.mem_of_mem_take hn)
      omega
    · rw [hlen]
      refine cells_of_add fun i hi => ?_
      rw [hc i (by omega)]
      have hi' : i < zs.length := by omega
      have := hwf zs[i] (List.getElem_mem hi')
      simp [nth, hi, hi']
      omega

set_option maxRecDepth 100000 in
theorem reads_rows {fuel : Nat} {cs : List Value} {x : DataW H × List MemPlace} (h : DataW.trod enc Try.prog w base (fun _ => true) held fuel 22 cs = some x) : ∃ v f, cs = [v] ∧ RRows w w.heap.size v f := by
  rcases open_slice Try.underlying22 h with ⟨rfl, _⟩ | ⟨a, len, cap, m, n, D, Pl, rfl, _, hl, hm, hmm, _, hi⟩
  · exact ⟨_, [], rfl, none, 0, fun _ => .nilFunc, rfl, by simp, by simp [maxLen], fun h => absurd h (by simp), fun i hi => absurd hi (by simp)⟩
  · simp only [if_true] at hmm
    have hC : Try.prog.cellsOf 56 = 1 := by kernel_rfl
    rw [hC] at hi
    have each : ∀ i, i < len → ∃ y : Value × List Nat, w.cell? (a.add i) = some y.1 ∧ RBytes w w.heap.size y.1 y.2 := by
      intro i hil
      obtain ⟨cs', hcs, ht⟩ := hi i (by omega)
      obtain ⟨v, xs, rfl, hr⟩ := reads_bytes ht
      obtain ⟨_, _, hat⟩ := World.cells?_some hcs
      have := hat 0 (by omega)
      refine ⟨(v, xs), ?_, hr⟩
      simpa [Addr.add] using this
    obtain ⟨y, hy⟩ := choose_lt each
    have hlen : ((List.range len).map fun i => (y i).2).length = len := by simp
    refine ⟨_, (List.range len).map fun i => (y i).2, rfl, some a, cap, fun i => (y i).1, by rw [hlen], by omega, hm, ?_, ?_⟩
    · rw [hlen]
      exact cells_of_add fun i hi => (hy i hi).1
    · rw [hlen]
      intro i hi
      have : nthRow ((List.range len).map fun i => (y i).2) i = (y i).2 := by simp [nthRow, hi]
      rw [this]
      exact (hy i hi).2

set_option maxRecDepth 100000 in
theorem reads_fuses {fuel : Nat} {cs : List Value} {x : DataW H × List MemPlace} (h : DataW.trod enc Try.prog w base (fun _ => true) held fuel 24 cs = some x) : ∃ v f, cs = [v] ∧ RRows w w.heap.size v f := by
  obtain ⟨xs, n, _, _, hlen, hxl, hf⟩ := DataW.trod_struct Try.underlying24 h
  have hC : Try.prog.cellsOf 24 = 1 := by kernel_rfl
  rw [hC] at hlen
  match cs, hlen with
  | [c], _ =>
    match xs, hxl with
    | [y], _ =>
      have h1 : DataW.trod enc Try.prog w base (fun _ => true) held n 22 (([c].drop 0).take (Try.prog.cellsOf 22)) = [y][0]? := hf 0 _ rfl
      have hC2 : Try.prog.cellsOf 22 = 1 := by kernel_rfl
      rw [hC2] at h1
      exact reads_rows h1

set_option maxRecDepth 100000 in
theorem reads_strs {fuel : Nat} {cs : List Value} {x : DataW H × List MemPlace} (h : DataW.trod enc Try.prog w base (fun _ => true) held fuel 25 cs = some x) : ∃ v f, cs = [v] ∧ Fm.RStrs w w.heap.size v f := by
  rcases open_strings Try.underlying25 Try.underlying9 (by kernel_rfl) h with ⟨rfl, _⟩ | ⟨a, len, cap, ss, rfl, _, hl, hm, hz, _, hc, hs⟩
  · exact ⟨_, [], rfl, none, 0, rfl, by simp, by simp [maxLen], by simp, fun h => absurd h (by simp)⟩
  · simp only [if_true] at hz
    have hlen : (ss.take len).length = len := by simp; omega
    refine ⟨_, ss.take len, rfl, some a, cap, by rw [hlen], by omega, hm, fun s h => hs s (List.mem_of_mem_take h), ?_⟩
    rw [hlen]
    refine cells_of_add fun i hi => ?_
    rw [hc i (by omega)]
    simp [Fm.nthS, hi]

set_option maxRecDepth 100000 in
theorem reads_flash {fuel : Nat} {cs : List Value} {x : DataW H × List MemPlace} (h : DataW.trod enc Try.prog w base (fun _ => true) held fuel 27 cs = some x) : ∃ v f, cs = [v] ∧ Fm.RStrs w w.heap.size v f := by
  obtain ⟨xs, n, _, _, hlen, hxl, hf⟩ := DataW.trod_struct Try.underlying27 h
  have hC : Try.prog.cellsOf 27 = 1 := by kernel_rfl
  rw [hC] at hlen
  match cs, hlen with
  | [c], _ =>
    match xs, hxl with
    | [y], _ =>
      have h1 : DataW.trod enc Try.prog w base (fun _ => true) held n 25 (([c].drop 0).take (Try.prog.cellsOf 25)) = [y][0]? := hf 0 _ rfl
      have hC2 : Try.prog.cellsOf 25 = 1 := by kernel_rfl
      rw [hC2] at h1
      exact reads_strs h1

set_option maxRecDepth 100000 in
theorem reads_root {fuel : Nat} {cs : List Value} {x : DataW H × List MemPlace} (h : DataW.trod enc Try.prog w base (fun _ => true) held fuel 29 cs = some x) : ∃ r : Nat → Int, cs = (rootOf r).toList := by
  obtain ⟨xs, n, _, _, hlen, hxl, hf⟩ := DataW.trod_array Try.underlying29 h
  have hC : Try.prog.cellsOf 29 = 16 := by kernel_rfl
  have hC1 : Try.prog.cellsOf 5 = 1 := by kernel_rfl
  rw [hC] at hlen
  rw [hC1] at hf
  have each : ∀ i, i < 16 → ∃ n : Int, cs[i]? = some (.int .u8 n) := by
    intro i hi
    have h1 := hf i hi
    rw [List.getElem?_eq_getElem (by omega)] at h1
    obtain ⟨n0, e0, _⟩ := DataW.trod_int Try.underlying5 h1
    refine ⟨n0, ?_⟩
    have := congrArg (fun l : List Value => l[0]?) e0
    simpa using this
  obtain ⟨r, hr⟩ := choose_lt each
  refine ⟨r, List.ext_getElem? fun i => ?_⟩
  by_cases hi : i < 16
  · rw [hr i hi]
    have := rootCells_at r hi
    rw [← this]
    simp [rootOf, rootCells]
  · rw [List.getElem?_eq_none (by omega), List.getElem?_eq_none (by simp [rootOf]; omega)]

set_option maxRecDepth 100000 in
theorem reads_hw {fuel : Nat} {cs : List Value} {x : DataW H × List MemPlace} (h : DataW.trod enc Try.prog w base (fun _ => true) held fuel 31 cs = some x) :
    ∃ (cs' : Array Value) (f : List (List Nat)) (m : List ByteArray) (r : Nat → Int), cs = cs'.toList ∧ HwB w cs' f m r := by
  obtain ⟨xs, n, _, _, hlen, hxl, hf⟩ := DataW.trod_struct Try.underlying31 h
  have hC : Try.prog.cellsOf 31 = 18 := by kernel_rfl
  rw [hC] at hlen
  match xs, hxl with
  | [y0, y1, y2], _ =>
    have hC0 : Try.prog.cellsOf 24 = 1 := by kernel_rfl
    have hC1 : Try.prog.cellsOf 27 = 1 := by kernel_rfl
    have hC2 : Try.prog.cellsOf 29 = 16 := by kernel_rfl
    have h0 : DataW.trod enc Try.prog w base (fun _ => true) held n 24 ((cs.drop 0).take (Try.prog.cellsOf 24)) = [y0, y1, y2][0]? := hf 0 _ rfl
    have h1 : DataW.trod enc Try.prog w base (fun _ => true) held n 27 ((cs.drop 1).take (Try.prog.cellsOf 27)) = [y0, y1, y2][1]? := hf 1 _ rfl
    have h2 : DataW.trod enc Try.prog w base (fun _ => true) held n 29 ((cs.drop 2).take (Try.prog.cellsOf 29)) = [y0, y1, y2][2]? := hf 2 _ rfl
    rw [hC0] at h0
    rw [hC1] at h1
    rw [hC2] at h2
    obtain ⟨v, f, e0, q0⟩ := reads_fuses h0
    obtain ⟨u, m, e1, q1⟩ := reads_flash h1
    obtain ⟨r, e2⟩ := reads_root h2
    refine ⟨(v :: u :: (rootOf r).toList).toArray, f, m, r, ?_, v, u, rfl, q0.barred, strsK_barred q1⟩
    match cs, hlen with
    | a :: b :: l, hl =>
      simp at e0 e1 e2
      have hl' : l.length = 16 := by simpa using hl
      rw [List.take_of_length_le (by omega)] at e2
      simp [e0, e1, e2]

set_option maxRecDepth 100000 in
theorem reads_acc {fuel : Nat} {cs : List Value} {x : DataW H × List MemPlace} (h : DataW.trod enc Try.prog w base (fun _ => true) held fuel 33 cs = some x) :
    ∃ (k b c : Int) (s : ByteArray), cs = [.int .i64 k, .int .i64 b, .int .i64 c, .string s] ∧ s.size ≤ maxLen := by
  obtain ⟨xs, n, _, _, hlen, hxl, hf⟩ := DataW.trod_struct Try.underlying33 h
  have hC : Try.prog.cellsOf 33 = 4 := by kernel_rfl
  rw [hC] at hlen
  match cs, hlen with
  | [c0, c1, c2, c3], _ =>
    match xs, hxl with
    | [y0, y1, y2, y3], _ =>
      have hC0 : Try.prog.cellsOf 3 = 1 := by kernel_rfl
      have h0 : DataW.trod enc Try.prog w base (fun _ => true) held n 3 (([c0, c1, c2, c3].drop 0).take (Try.prog.cellsOf 3)) = [y0, y1, y2, y3][0]? := hf 0 _ rfl
      rw [hC0] at h0
      obtain ⟨n0, e0, _, q0⟩ := DataW.trod_int Try.underlying3 h0
      have hC1 : Try.prog.cellsOf 3 = 1 := by kernel_rfl
      have h1 : DataW.trod enc Try.prog w base (fun _ => true) held n 3 (([c0, c1, c2, c3].drop 1).take (Try.prog.cellsOf 3)) = [y0, y1, y2, y3][1]? := hf 1 _ rfl
      rw [hC1] at h1
      obtain ⟨n1, e1, _, q1⟩ := DataW.trod_int Try.underlying3 h1
      have hC2 : Try.prog.cellsOf 3 = 1 := by kernel_rfl
      have h2 : DataW.trod enc Try.prog w base (fun _ => true) held n 3 (([c0, c1, c2, c3].drop 2).take (Try.prog.cellsOf 3)) = [y0, y1, y2, y3][2]? := hf 2 _ rfl
      rw [hC2] at h2
      obtain ⟨n2, e2, _, q2⟩ := DataW.trod_int Try.underlying3 h2
      have hC3 : Try.prog.cellsOf 9 = 1 := by kernel_rfl
      have h3 : DataW.trod enc Try.prog w base (fun _ => true) held n 9 (([c0, c1, c2, c3].drop 3).take (Try.prog.cellsOf 9)) = [y0, y1, y2, y3][3]? := hf 3 _ rfl
      rw [hC3] at h3
      obtain ⟨s3, e3, _, q3⟩ := DataW.trod_string Try.underlying9 h3
      simp at e0 e1 e2 e3
      exact ⟨n0, n1, n2, s3, by rw [e0, e1, e2, e3], q3⟩

set_option maxRecDepth 100000 in
theorem reads_flt {fuel : Nat} {cs : List Value} {x : DataW H × List MemPlace} (h : DataW.trod enc Try.prog w base (fun _ => true) held fuel 35 cs = some x) :
    ∃ (cut : Bool) (nb : Int) (noise : Bool), cs = [.bool cut, .int .i64 nb, .bool noise] := by
  obtain ⟨xs, n, _, _, hlen, hxl, hf⟩ := DataW.trod_struct Try.underlying35 h
  have hC : Try.prog.cellsOf 35 = 3 := by kernel_rfl
  rw [hC] at hlen
  match cs, hlen with
  | [c0, c1, c2], _ =>
    match xs, hxl with
    | [y0, y1, y2], _ =>
      have hC0 : Try.prog.cellsOf 4 = 1 := by kernel_rfl
      have h0 : DataW.trod enc Try.prog w base (fun _ => true) held n 4 (([c0, c1, c2].drop 0).take (Try.prog.cellsOf 4)) = [y0, y1, y2][0]? := hf 0 _ rfl
      rw [hC0] at h0
      obtain ⟨b0, e0, _⟩ := DataW.trod_bool Try.underlying4 h0
      have hC1 : Try.prog.cellsOf 3 = 1 := by kernel_rfl
      have h1 : DataW.trod enc Try.prog w base (fun _ => true) held n 3 (([c0, c1, c2].drop 1).take (Try.prog.cellsOf 3)) = [y0, y1, y2][1]? := hf 1 _ rfl
      rw [hC1] at h1
      obtain ⟨n1, e1, _, q1⟩ := DataW.trod_int Try.underlying3 h1
      have hC2 : Try.prog.cellsOf 4 = 1 := by kernel_rfl
      have h2 : DataW.trod enc Try.prog w base (fun _ => true) held n 4 (([c0, c1, c2].drop 2).take (Try.prog.cellsOf 4)) = [y0, y1, y2][2]? := hf 2 _ rfl
      rw [hC2] at h2
      obtain ⟨b2, e2, _⟩ := DataW.trod_bool Try.underlying4 h2
      simp at e0 e1 e2
      exact ⟨b0, n1, b2, by rw [e0, e1, e2]⟩

end

theorem own : ownKnob Try.prog.godebug = none := by kernel_rfl
theorem laidOut : laidOutB Try.prog = true := by kernel_rfl

end Go.Proofs.Ytncgechmloekbaa
