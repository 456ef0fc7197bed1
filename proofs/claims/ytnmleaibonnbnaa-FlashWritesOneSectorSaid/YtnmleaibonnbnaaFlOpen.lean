/- From the form's reading of an argument to this proof's words: flash memories, and the laws' records. -/
import Derived.Test.YtnmleaibonnbnaaFlN
import Derived.Test.YtnmleaibonnbnaaFlLaw
import Derived.ProofKit
import Derived.OpenShut
import Derived.ChangeOld
import Derived.Below
import Derived.Carry
import Derived.Deep.Matrix
import Derived.Deep.Slices
import Derived.SliceStrings
import Derived.ChangeMaps5
namespace Go.Proofs.Ytnmleaibonnbnaa
open Go.ChangeShapes Go.WideShapes Go.ChangeAt Go.RowKit Go.Deep

theorem cells_of_add {w : World} {a : Addr} {n : Nat} {f : Nat → Value} (h : ∀ i, i < n → w.cell? (a.add i) = some (f i)) : Cells w w.heap.size (some a) n f := by
  intro hn
  obtain ⟨b, off, spot⟩ := a
  have hc := h 0 hn
  have hspot : spot = none := by simpa [Addr.add] using World.cell?_spot hc
  subst hspot
  refine ⟨b, off, rfl, ?_, fun i hi => ?_⟩
  · have := World.block_lt_of_cell? w _ hc
    simpa [Addr.add] using this
  · have hadd : (⟨b, off, none⟩ : Addr).add i = ⟨b, off + i, none⟩ := by unfold Addr.add; split <;> simp_all
    rw [← hadd]
    exact h i hi

section
variable {H : Type} {enc : TypeId × Value → H} {w : World} {base : Nat} {held : Bool}

theorem reads_strs {fuel : Nat} {cs : List Value} {x : DataW H × List MemPlace} (h : DataW.trod enc Try.prog w base (fun _ => true) held fuel 22 cs = some x) : ∃ v f, cs = [v] ∧ RStrs w w.heap.size v f := by
  rcases open_strings Try.underlying22 Try.underlying9 (by kernel_rfl) h with ⟨rfl, _⟩ | ⟨a, len, cap, ss, rfl, _, hl, hm, hz, _, hc, hs⟩
  · exact ⟨_, [], rfl, none, 0, rfl, by simp, by simp [maxLen], by simp, fun h => absurd h (by simp)⟩
  · simp only [if_true] at hz
    have hlen : (ss.take len).length = len := by simp; omega
    refine ⟨_, ss.take len, rfl, some a, cap, by rw [hlen], by omega, hm, fun s h => hs s (List.mem_of_mem_take h), ?_⟩
    rw [hlen]
    refine cells_of_add fun i hi => ?_
    rw [hc i (by omega)]
    simp [nthS, hi]

theorem reads_bytes {fuel : Nat} {cs : List Value} {x : DataW H × List MemPlace} (h : DataW.trod enc Try.prog w base (fun _ => true) held fuel 44 cs = some x) : ∃ v xs, cs = [v] ∧ RBytes w w.heap.size v xs := by
  rcases open_ints Try.underlying44 Try.underlying5 (by kernel_rfl) h with ⟨rfl, _⟩ | ⟨a, len, cap, zs, rfl, _, hl, hm, hz, _, hc, hw⟩
  · exact ⟨_, [], rfl, none, 0, rfl, by simp, by simp [maxLen], by simp, fun h => absurd h (by simp)⟩
  · simp only [if_true] at hz
    have hlen : ((zs.take len).map Int.toNat).length = len := by simp; omega
    have hwf : ∀ n ∈ zs, 0 ≤ n ∧ n ≤ 255 := fun n hn => by simpa [Lit.wf, IntKind.min, IntKind.max, IntKind.signed, IntKind.bits] using hw n hn
    refine ⟨_, (zs.take len).map Int.toNat, rfl, some a, cap, by rw [hlen], by omega, hm, ?_, ?_⟩
    · intro y hy
      obtain ⟨n, hn, rfl⟩ := List.mem_map.1 hy
      have := hwf n (List.mem_of_mem_take hn)
      omega
    · rw [hlen]
      refine cells_of_add fun i hi => ?_
      rw [hc i (by omega)]
      have hi' : i < zs.length := by omega
      have := hwf zs[i] (List.getElem_mem hi')
      simp [nth, hi, hi']
      omega

theorem reads_flash {fuel : Nat} {cs : List Value} {x : DataW H × List MemPlace} (h : DataW.trod enc Try.prog w base (fun _ => true) held fuel 24 cs = some x) : ∃ v f, cs = [v] ∧ RStrs w w.heap.size v f := by
  obtain ⟨xs, n, _, _, hlen, hxl, hf⟩ := DataW.trod_struct Try.underlying24 h
  have hC : Try.prog.cellsOf 24 = 1 := by kernel_rfl
  rw [hC] at hlen
  match cs, hlen with
  | [c], _ =>
    match xs, hxl with
    | [y], _ =>
      have h1 : DataW.trod enc Try.prog w base (fun _ => true) held n 22 (([c].drop 0).take (Try.prog.cellsOf 22)) = [y][0]? := hf 0 _ rfl
      have hC2 : Try.prog.cellsOf 22 = 1 := by kernel_rfl
      rw [hC2] at h1
      exact reads_strs h1

theorem reads_FlashMatchesSpecIn {fuel : Nat} {cs : List Value} {x : DataW H × List MemPlace} (h : DataW.trod enc Try.prog w base (fun _ => true) held fuel 26 cs = some x) :
    ∃ (v0 : Value) (f0 : List ByteArray) (v1 : Value) (f1 : List ByteArray) (n2 : Int) (s3 : ByteArray) (n4 : Int), cs = [v0, v1, .int .i64 n2, .string s3, .int .i64 n4] ∧ RStrs w w.heap.size v0 f0 ∧ RStrs w w.heap.size v1 f1 ∧ (Lit.int .i64 n2).wf = true ∧ s3.size ≤ maxLen ∧ (Lit.int .i64 n4).wf = true := by
  obtain ⟨xs, n, _, _, hlen, hxl, hf⟩ := DataW.trod_struct Try.underlying26 h
  have hC : Try.prog.cellsOf 26 = 5 := by kernel_rfl
  rw [hC] at hlen
  match cs, hlen with
  | [c0, c1, c2, c3, c4], _ =>
    match xs, hxl with
    | [y0, y1, y2, y3, y4], _ =>
      have hC0 : Try.prog.cellsOf 24 = 1 := by kernel_rfl
      have h0 : DataW.trod enc Try.prog w base (fun _ => true) held n 24 (([c0, c1, c2, c3, c4].drop 0).take (Try.prog.cellsOf 24)) = [y0, y1, y2, y3, y4][0]? := hf 0 _ rfl
      rw [hC0] at h0
      obtain ⟨v0, f0, e0, q0⟩ := reads_flash h0
      have hC1 : Try.prog.cellsOf 24 = 1 := by kernel_rfl
      have h1 : DataW.trod enc Try.prog w base (fun _ => true) held n 24 (([c0, c1, c2, c3, c4].drop 1).take (Try.prog.cellsOf 24)) = [y0, y1, y2, y3, y4][1]? := hf 1 _ rfl
      rw [hC1] at h1
      obtain ⟨v1, f1, e1, q1⟩ := reads_flash h1
      have hC2 : Try.prog.cellsOf 3 = 1 := by kernel_rfl
      have h2 : DataW.trod enc Try.prog w base (fun _ => true) held n 3 (([c0, c1, c2, c3, c4].drop 2).take (Try.prog.cellsOf 3)) = [y0, y1, y2, y3, y4][2]? := hf 2 _ rfl
      rw [hC2] at h2
      obtain ⟨n2, e2, _, q2⟩ := DataW.trod_int Try.underlying3 h2
      have hC3 : Try.prog.cellsOf 9 = 1 := by kernel_rfl
      have h3 : DataW.trod enc Try.prog w base (fun _ => true) held n 9 (([c0, c1, c2, c3, c4].drop 3).take (Try.prog.cellsOf 9)) = [y0, y1, y2, y3, y4][3]? := hf 3 _ rfl
      rw [hC3] at h3
      obtain ⟨s3, e3, _, q3⟩ := DataW.trod_string Try.underlying9 h3
      have hC4 : Try.prog.cellsOf 3 = 1 := by kernel_rfl
      have h4 : DataW.trod enc Try.prog w base (fun _ => true) held n 3 (([c0, c1, c2, c3, c4].drop 4).take (Try.prog.cellsOf 3)) = [y0, y1, y2, y3, y4][4]? := hf 4 _ rfl
      rw [hC4] at h4
      obtain ⟨n4, e4, _, q4⟩ := DataW.trod_int Try.underlying3 h4
      simp at e0 e1 e2 e3 e4
      exact ⟨v0, f0, v1, f1, n2, s3, n4, by rw [e0, e1, e2, e3, e4], q0, q1, q2, q3, q4⟩

theorem reads_FlashWritesOneSectorIn {fuel : Nat} {cs : List Value} {x : DataW H × List MemPlace} (h : DataW.trod enc Try.prog w base (fun _ => true) held fuel 38 cs = some x) :
    ∃ (v0 : Value) (f0 : List ByteArray) (n1 : Int) (n2 : Int) (n3 : Int), cs = [v0, .int .i64 n1, .int .u8 n2, .int .i64 n3] ∧ RStrs w w.heap.size v0 f0 ∧ (Lit.int .i64 n1).wf = true ∧ (Lit.int .u8 n2).wf = true ∧ (Lit.int .i64 n3).wf = true := by
  obtain ⟨xs, n, _, _, hlen, hxl, hf⟩ := DataW.trod_struct Try.underlying38 h
  have hC : Try.prog.cellsOf 38 = 4 := by kernel_rfl
  rw [hC] at hlen
  match cs, hlen with
  | [c0, c1, c2, c3], _ =>
    match xs, hxl with
    | [y0, y1, y2, y3], _ =>
      have hC0 : Try.prog.cellsOf 24 = 1 := by kernel_rfl
      have h0 : DataW.trod enc Try.prog w base (fun _ => true) held n 24 (([c0, c1, c2, c3].drop 0).take (Try.prog.cellsOf 24)) = [y0, y1, y2, y3][0]? := hf 0 _ rfl
      rw [hC0] at h0
      obtain ⟨v0, f0, e0, q0⟩ := reads_flash h0
      have hC1 : Try.prog.cellsOf 3 = 1 := by kernel_rfl
      have h1 : DataW.trod enc Try.prog w base (fun _ => true) held n 3 (([c0, c1, c2, c3].drop 1).take (Try.prog.cellsOf 3)) = [y0, y1, y2, y3][1]? := hf 1 _ rfl
      rw [hC1] at h1
      obtain ⟨n1, e1, _, q1⟩ := DataW.trod_int Try.underlying3 h1
      have hC2 : Try.prog.cellsOf 5 = 1 := by kernel_rfl
      have h2 : DataW.trod enc Try.prog w base (fun _ => true) held n 5 (([c0, c1, c2, c3].drop 2).take (Try.prog.cellsOf 5)) = [y0, y1, y2, y3][2]? := hf 2 _ rfl
      rw [hC2] at h2
      obtain ⟨n2, e2, _, q2⟩ := DataW.trod_int Try.underlying5 h2
      have hC3 : Try.prog.cellsOf 3 = 1 := by kernel_rfl
      have h3 : DataW.trod enc Try.prog w base (fun _ => true) held n 3 (([c0, c1, c2, c3].drop 3).take (Try.prog.cellsOf 3)) = [y0, y1, y2, y3][3]? := hf 3 _ rfl
      rw [hC3] at h3
      obtain ⟨n3, e3, _, q3⟩ := DataW.trod_int Try.underlying3 h3
      simp at e0 e1 e2 e3
      exact ⟨v0, f0, n1, n2, n3, by rw [e0, e1, e2, e3], q0, q1, q2, q3⟩

theorem reads_FlashTearsAtByteIn {fuel : Nat} {cs : List Value} {x : DataW H × List MemPlace} (h : DataW.trod enc Try.prog w base (fun _ => true) held fuel 42 cs = some x) :
    ∃ (v0 : Value) (f0 : List ByteArray) (n1 : Int) (n2 : Int) (n3 : Int), cs = [v0, .int .u8 n1, .int .u8 n2, .int .i64 n3] ∧ RStrs w w.heap.size v0 f0 ∧ (Lit.int .u8 n1).wf = true ∧ (Lit.int .u8 n2).wf = true ∧ (Lit.int .i64 n3).wf = true := by
  obtain ⟨xs, n, _, _, hlen, hxl, hf⟩ := DataW.trod_struct Try.underlying42 h
  have hC : Try.prog.cellsOf 42 = 4 := by kernel_rfl
  rw [hC] at hlen
  match cs, hlen with
  | [c0, c1, c2, c3], _ =>
    match xs, hxl with
    | [y0, y1, y2, y3], _ =>
      have hC0 : Try.prog.cellsOf 24 = 1 := by kernel_rfl
      have h0 : DataW.trod enc Try.prog w base (fun _ => true) held n 24 (([c0, c1, c2, c3].drop 0).take (Try.prog.cellsOf 24)) = [y0, y1, y2, y3][0]? := hf 0 _ rfl
      rw [hC0] at h0
      obtain ⟨v0, f0, e0, q0⟩ := reads_flash h0
      have hC1 : Try.prog.cellsOf 5 = 1 := by kernel_rfl
      have h1 : DataW.trod enc Try.prog w base (fun _ => true) held n 5 (([c0, c1, c2, c3].drop 1).take (Try.prog.cellsOf 5)) = [y0, y1, y2, y3][1]? := hf 1 _ rfl
      rw [hC1] at h1
      obtain ⟨n1, e1, _, q1⟩ := DataW.trod_int Try.underlying5 h1
      have hC2 : Try.prog.cellsOf 5 = 1 := by kernel_rfl
      have h2 : DataW.trod enc Try.prog w base (fun _ => true) held n 5 (([c0, c1, c2, c3].drop 2).take (Try.prog.cellsOf 5)) = [y0, y1, y2, y3][2]? := hf 2 _ rfl
      rw [hC2] at h2
      obtain ⟨n2, e2, _, q2⟩ := DataW.trod_int Try.underlying5 h2
      have hC3 : Try.prog.cellsOf 3 = 1 := by kernel_rfl
      have h3 : DataW.trod enc Try.prog w base (fun _ => true) held n 3 (([c0, c1, c2, c3].drop 3).take (Try.prog.cellsOf 3)) = [y0, y1, y2, y3][3]? := hf 3 _ rfl
      rw [hC3] at h3
      obtain ⟨n3, e3, _, q3⟩ := DataW.trod_int Try.underlying3 h3
      simp at e0 e1 e2 e3
      exact ⟨v0, f0, n1, n2, n3, by rw [e0, e1, e2, e3], q0, q1, q2, q3⟩

theorem reads_FlashCutCompletesIn {fuel : Nat} {cs : List Value} {x : DataW H × List MemPlace} (h : DataW.trod enc Try.prog w base (fun _ => true) held fuel 46 cs = some x) :
    ∃ (v0 : Value) (f0 : List ByteArray) (n1 : Int) (n2 : Int) (n3 : Int), cs = [v0, .int .u8 n1, .int .u8 n2, .int .i64 n3] ∧ RStrs w w.heap.size v0 f0 ∧ (Lit.int .u8 n1).wf = true ∧ (Lit.int .u8 n2).wf = true ∧ (Lit.int .i64 n3).wf = true := by
  obtain ⟨xs, n, _, _, hlen, hxl, hf⟩ := DataW.trod_struct Try.underlying46 h
  have hC : Try.prog.cellsOf 46 = 4 := by kernel_rfl
  rw [hC] at hlen
  match cs, hlen with
  | [c0, c1, c2, c3], _ =>
    match xs, hxl with
    | [y0, y1, y2, y3], _ =>
      have hC0 : Try.prog.cellsOf 24 = 1 := by kernel_rfl
      have h0 : DataW.trod enc Try.prog w base (fun _ => true) held n 24 (([c0, c1, c2, c3].drop 0).take (Try.prog.cellsOf 24)) = [y0, y1, y2, y3][0]? := hf 0 _ rfl
      rw [hC0] at h0
      obtain ⟨v0, f0, e0, q0⟩ := reads_flash h0
      have hC1 : Try.prog.cellsOf 5 = 1 := by kernel_rfl
      have h1 : DataW.trod enc Try.prog w base (fun _ => true) held n 5 (([c0, c1, c2, c3].drop 1).take (Try.prog.cellsOf 5)) = [y0, y1, y2, y3][1]? := hf 1 _ rfl
      rw [hC1] at h1
      obtain ⟨n1, e1, _, q1⟩ := DataW.trod_int Try.underlying5 h1
      have hC2 : Try.prog.cellsOf 5 = 1 := by kernel_rfl
      have h2 : DataW.trod enc Try.prog w base (fun _ => true) held n 5 (([c0, c1, c2, c3].drop 2).take (Try.prog.cellsOf 5)) = [y0, y1, y2, y3][2]? := hf 2 _ rfl
      rw [hC2] at h2
      obtain ⟨n2, e2, _, q2⟩ := DataW.trod_int Try.underlying5 h2
      have hC3 : Try.prog.cellsOf 3 = 1 := by kernel_rfl
      have h3 : DataW.trod enc Try.prog w base (fun _ => true) held n 3 (([c0, c1, c2, c3].drop 3).take (Try.prog.cellsOf 3)) = [y0, y1, y2, y3][3]? := hf 3 _ rfl
      rw [hC3] at h3
      obtain ⟨n3, e3, _, q3⟩ := DataW.trod_int Try.underlying3 h3
      simp at e0 e1 e2 e3
      exact ⟨v0, f0, n1, n2, n3, by rw [e0, e1, e2, e3], q0, q1, q2, q3⟩

theorem reads_FlashCutsComposeIn {fuel : Nat} {cs : List Value} {x : DataW H × List MemPlace} (h : DataW.trod enc Try.prog w base (fun _ => true) held fuel 50 cs = some x) :
    ∃ (v0 : Value) (f0 : List ByteArray) (n1 : Int) (n2 : Int) (n3 : Int) (n4 : Int), cs = [v0, .int .u8 n1, .int .u8 n2, .int .u16 n3, .int .u16 n4] ∧ RStrs w w.heap.size v0 f0 ∧ (Lit.int .u8 n1).wf = true ∧ (Lit.int .u8 n2).wf = true ∧ (Lit.int .u16 n3).wf = true ∧ (Lit.int .u16 n4).wf = true := by
  obtain ⟨xs, n, _, _, hlen, hxl, hf⟩ := DataW.trod_struct Try.underlying50 h
  have hC : Try.prog.cellsOf 50 = 5 := by kernel_rfl
  rw [hC] at hlen
  match cs, hlen with
  | [c0, c1, c2, c3, c4], _ =>
    match xs, hxl with
    | [y0, y1, y2, y3, y4], _ =>
      have hC0 : Try.prog.cellsOf 24 = 1 := by kernel_rfl
      have h0 : DataW.trod enc Try.prog w base (fun _ => true) held n 24 (([c0, c1, c2, c3, c4].drop 0).take (Try.prog.cellsOf 24)) = [y0, y1, y2, y3, y4][0]? := hf 0 _ rfl
      rw [hC0] at h0
      obtain ⟨v0, f0, e0, q0⟩ := reads_flash h0
      have hC1 : Try.prog.cellsOf 5 = 1 := by kernel_rfl
      have h1 : DataW.trod enc Try.prog w base (fun _ => true) held n 5 (([c0, c1, c2, c3, c4].drop 1).take (Try.prog.cellsOf 5)) = [y0, y1, y2, y3, y4][1]? := hf 1 _ rfl
      rw [hC1] at h1
      obtain ⟨n1, e1, _, q1⟩ := DataW.trod_int Try.underlying5 h1
      have hC2 : Try.prog.cellsOf 5 = 1 := by kernel_rfl
      have h2 : DataW.trod enc Try.prog w base (fun _ => true) held n 5 (([c0, c1, c2, c3, c4].drop 2).take (Try.prog.cellsOf 5)) = [y0, y1, y2, y3, y4][2]? := hf 2 _ rfl
      rw [hC2] at h2
      obtain ⟨n2, e2, _, q2⟩ := DataW.trod_int Try.underlying5 h2
      have hC3 : Try.prog.cellsOf 48 = 1 := by kernel_rfl
      have h3 : DataW.trod enc Try.prog w base (fun _ => true) held n 48 (([c0, c1, c2, c3, c4].drop 3).take (Try.prog.cellsOf 48)) = [y0, y1, y2, y3, y4][3]? := hf 3 _ rfl
      rw [hC3] at h3
      obtain ⟨n3, e3, _, q3⟩ := DataW.trod_int Try.underlying48 h3
      have hC4 : Try.prog.cellsOf 48 = 1 := by kernel_rfl
      have h4 : DataW.trod enc Try.prog w base (fun _ => true) held n 48 (([c0, c1, c2, c3, c4].drop 4).take (Try.prog.cellsOf 48)) = [y0, y1, y2, y3, y4][4]? := hf 4 _ rfl
      rw [hC4] at h4
      obtain ⟨n4, e4, _, q4⟩ := DataW.trod_int Try.underlying48 h4
      simp at e0 e1 e2 e3 e4
      exact ⟨v0, f0, n1, n2, n3, n4, by rw [e0, e1, e2, e3, e4], q0, q1, q2, q3, q4⟩

end

theorem wrap_small {n : Nat} (h : n ≤ 65535) : IntKind.i64.wrap (n : Int) = n := (Go.IntWalk.i64_left _).trans (Go.IntWalk.wrap64_in _ ⟨by omega, by omega⟩)

theorem own : ownKnob Try.prog.godebug = none := by kernel_rfl
theorem laidOut : laidOutB Try.prog = true := by kernel_rfl

end Go.Proofs.Ytnmleaibonnbnaa
