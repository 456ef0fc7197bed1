/- From the form's reading of an argument to this proof's words: ints, fuses, pulses. -/
import Derived.Test.YtnahokblbpppeaaFzU
import Derived.ProofKit
import Derived.OpenShut
import Derived.ChangeOld
import Derived.Below
import Derived.Carry
import Derived.Deep.Matrix
import Derived.Deep.Slices
namespace Go.Proofs.Ytnahokblbpppeaa
open Go.ChangeShapes Go.WideShapes Go.ChangeAt Go.RowKit Go.Deep

theorem cells_of_add {w : World} {a : Addr} {n : Nat} {f : Nat → Value} (h : ∀ i, i < n → w.cell? (a.add i) = some (f i)) : Cells w w.heap.size (some a) n f := by
  intro hn
  obtain ⟨b, off, spot⟩ := a
  have hc := h 0 hn
  have hspot : spot = none := by simpa [Addr.add] using World.cell?_spot hc
  subst hspot
  refine ⟨b, off, rfl, ?_, fun i hi => ?_⟩
  · have := World.block_lt_of_cell? w _ hc
    simpa [Addr.add] using this
  · have hadd : (⟨b, off, none⟩ : Addr).add i = ⟨b, off + i, none⟩ := by unfold Addr.add; split <;> simp_all
    rw [← hadd]
    exact h i hi

section
variable {H : Type} {enc : TypeId × Value → H} {w : World} {base : Nat} {held : Bool}

theorem reads_ints {fuel : Nat} {cs : List Value} {x : DataW H × List MemPlace} (h : DataW.trod enc Try.prog w base (fun _ => true) held fuel 36 cs = some x) : ∃ v xs, cs = [v] ∧ RInts w w.heap.size v xs := by
  rcases open_ints Try.underlying36 Try.underlying3 (by kernel_rfl) h with ⟨rfl, _⟩ | ⟨a, len, cap, zs, rfl, _, hl, hm, hz, _, hc, _⟩
  · exact ⟨_, [], rfl, none, 0, rfl, by simp, by simp [maxLen], fun h => absurd h (by simp)⟩
  · simp only [if_true] at hz
    have hlen : (zs.take len).length = len := by simp; omega
    refine ⟨_, zs.take len, rfl, some a, cap, by rw [hlen], by omega, hm, ?_⟩
    rw [hlen]
    refine cells_of_add fun i hi => ?_
    rw [hc i (by omega)]
    simp [nthI, hi]

theorem reads_bytes {fuel : Nat} {cs : List Value} {x : DataW H × List MemPlace} (h : DataW.trod enc Try.prog w base (fun _ => true) held fuel 26 cs = some x) : ∃ v xs, cs = [v] ∧ RBytes w w.heap.size v xs := by
  rcases open_ints Try.underlying26 Try.underlying5 (by kernel_rfl) h with ⟨rfl, _⟩ | ⟨a, len, cap, zs, rfl, _, hl, hm, hz, _, hc, hw⟩
  · exact ⟨_, [], rfl, none, 0, rfl, by simp, by simp [maxLen], by simp, fun h => absurd h (by simp)⟩
  · simp only [if_true] at hz
    have hlen : ((zs.take len).map Int.toNat).length = len := by simp; omega
    have hwf : ∀ n ∈ zs, 0 ≤ n ∧ n ≤ 255 := fun n hn => by simpa [Lit.wf, IntKind.min, IntKind.max, IntKind.signed, IntKind.bits] using hw n hn
    refine ⟨_, (zs.take len).map Int.toNat, rfl, some a, cap, by rw [hlen], by omega, hm, ?_, ?_⟩
    · intro y hy
      obtain ⟨n, hn, rfl⟩ := List.mem_map.1 hy
      have := hwf n (List.mem_of_mem_take hn)
      omega
    · rw [hlen]
      refine cells_of_add fun i hi => ?_
      rw [hc i (by omega)]
      have hi' : i < zs.length := by omega
      have := hwf zs[i] (List.getElem_mem hi')
      simp [nth, hi, hi']
      omega

theorem reads_rows {fuel : Nat} {cs : List Value} {x : DataW H × List MemPlace} (h : DataW.trod enc Try.prog w base (fun _ => true) held fuel 22 cs = some x) : ∃ v f, cs = [v] ∧ RRows w w.heap.size v f := by
  rcases open_slice Try.underlying22 h with ⟨rfl, _⟩ | ⟨a, len, cap, m, n, D, Pl, rfl, _, hl, hm, hmm, _, hi⟩
  · exact ⟨_, [], rfl, none, 0, fun _ => .nilFunc, rfl, by simp, by simp [maxLen], fun h => absurd h (by simp), fun i hi => absurd hi (by simp)⟩
  · simp only [if_true] at hmm
    have hC : Try.prog.cellsOf 26 = 1 := by kernel_rfl
    rw [hC] at hi
    have each : ∀ i, i < len → ∃ y : Value × List Nat, w.cell? (a.add i) = some y.1 ∧ RBytes w w.heap.size y.1 y.2 := by
      intro i hil
      obtain ⟨cs', hcs, ht⟩ := hi i (by omega)
      obtain ⟨v, xs, rfl, hr⟩ := reads_bytes ht
      obtain ⟨_, _, hat⟩ := World.cells?_some hcs
      have := hat 0 (by omega)
      refine ⟨(v, xs), ?_, hr⟩
      simpa [Addr.add] using this
    obtain ⟨y, hy⟩ := choose_lt each
    have hlen : ((List.range len).map fun i => (y i).2).length = len := by simp
    refine ⟨_, (List.range len).map fun i => (y i).2, rfl, some a, cap, fun i => (y i).1, by rw [hlen], by omega, hm, ?_, ?_⟩
    · rw [hlen]
      exact cells_of_add fun i hi => (hy i hi).1
    · rw [hlen]
      intro i hi
      have : nthRow ((List.range len).map fun i => (y i).2) i = (y i).2 := by simp [nthRow, hi]
      rw [this]
      exact (hy i hi).2

theorem reads_fuses {fuel : Nat} {cs : List Value} {x : DataW H × List MemPlace} (h : DataW.trod enc Try.prog w base (fun _ => true) held fuel 24 cs = some x) : ∃ v f, cs = [v] ∧ RRows w w.heap.size v f := by
  obtain ⟨xs, n, _, _, hlen, hxl, hf⟩ := DataW.trod_struct Try.underlying24 h
  have hC : Try.prog.cellsOf 24 = 1 := by kernel_rfl
  rw [hC] at hlen
  match cs, hlen with
  | [c], _ =>
    match xs, hxl with
    | [y], _ =>
      have h1 : DataW.trod enc Try.prog w base (fun _ => true) held n 22 (([c].drop 0).take (Try.prog.cellsOf 22)) = [y][0]? := hf 0 _ rfl
      have hC2 : Try.prog.cellsOf 22 = 1 := by kernel_rfl
      rw [hC2] at h1
      exact reads_rows h1

theorem reads_hits {fuel : Nat} {cs : List Value} {x : DataW H × List MemPlace} (h : DataW.trod enc Try.prog w base (fun _ => true) held fuel 40 cs = some x) : ∃ v l, cs = [v] ∧ RHits w w.heap.size v l := by
  rcases open_slice Try.underlying40 h with ⟨rfl, _⟩ | ⟨a, len, cap, m, n, D, Pl, rfl, _, hl, hm, hmm, _, hi⟩
  · exact ⟨_, [], rfl, none, 0, rfl, by simp, by simp [maxLen], fun h => absurd h (by simp)⟩
  · simp only [if_true] at hmm
    have hC : Try.prog.cellsOf 47 = 3 := by kernel_rfl
    rw [hC] at hi
    have each : ∀ i, i < len → ∃ y : Fz.Hit, w.cell? (a.add (i * 3)) = some (.int .i64 y.bank) ∧ w.cell? ((a.add (i * 3)).add 1) = some (.int .i64 y.cell) ∧ w.cell? ((a.add (i * 3)).add 2) = some (.bool y.cut) := by
      intro i hil
      obtain ⟨cs', hcs, ht⟩ := hi i (by omega)
      obtain ⟨_, hcl, hat⟩ := World.cells?_some hcs
      obtain ⟨xs, n', _, _, hlen, hxl, hf⟩ := DataW.trod_struct Try.underlying47 ht
      match cs', hcl with
      | [c0, c1, c2], _ =>
        match xs, hxl with
        | [y0, y1, y2], _ =>
          have hC3 : Try.prog.cellsOf 3 = 1 := by kernel_rfl
          have hC4 : Try.prog.cellsOf 4 = 1 := by kernel_rfl
          have h0 : DataW.trod enc Try.prog w base (fun _ => true) held n' 3 (([c0, c1, c2].drop 0).take (Try.prog.cellsOf 3)) = [y0, y1, y2][0]? := hf 0 _ rfl
          have h1 : DataW.trod enc Try.prog w base (fun _ => true) held n' 3 (([c0, c1, c2].drop 1).take (Try.prog.cellsOf 3)) = [y0, y1, y2][1]? := hf 1 _ rfl
          have h2 : DataW.trod enc Try.prog w base (fun _ => true) held n' 4 (([c0, c1, c2].drop 2).take (Try.prog.cellsOf 4)) = [y0, y1, y2][2]? := hf 2 _ rfl
          rw [hC3] at h0 h1
          rw [hC4] at h2
          obtain ⟨n0, e0, _⟩ := DataW.trod_int Try.underlying3 h0
          obtain ⟨n1, e1, _⟩ := DataW.trod_int Try.underlying3 h1
          obtain ⟨n2, e2, _⟩ := DataW.trod_bool Try.underlying4 h2
          have g0 := hat 0 (by omega)
          have g1 := hat 1 (by omega)
          have g2 := hat 2 (by omega)
          simp at e0 e1 e2 g0 g1 g2
          refine ⟨⟨n0, n1, n2⟩, ?_, ?_, ?_⟩
          · rw [← e0]; simpa [Addr.add] using g0
          · rw [← e1]; exact g1
          · rw [← e2]; exact g2
    haveI : Inhabited Fz.Hit := ⟨⟨0, 0, false⟩⟩
    obtain ⟨y, hy⟩ := choose_lt each
    have hlen : ((List.range len).map y).length = len := by simp
    refine ⟨_, (List.range len).map y, rfl, some a, cap, by rw [hlen], by omega, hm, ?_⟩
    rw [hlen]
    intro hpos
    obtain ⟨b, off, spot⟩ := a
    have hc := (hy 0 hpos).1
    have hspot : spot = none := by simpa [Addr.add] using World.cell?_spot hc
    subst hspot
    have hadd : ∀ b off i, (⟨b, off, none⟩ : Addr).add i = ⟨b, off + i, none⟩ := by intro b off i; unfold Addr.add; split <;> simp_all
    refine ⟨b, off, rfl, ?_, fun i hi => ?_⟩
    · have := World.block_lt_of_cell? w _ hc
      simpa [Addr.add] using this
    · obtain ⟨q0, q1, q2⟩ := hy i hi
      rw [hadd] at q0
      rw [hadd, hadd] at q1 q2
      have e : Fz.nthH ((List.range len).map y) i = y i := by simp [Fz.nthH, hi]
      rw [e]
      exact ⟨q0, q1, q2⟩
end

theorem own : ownKnob Try.prog.godebug = none := by kernel_rfl
theorem laidOut : laidOutB Try.prog = true := by kernel_rfl

end Go.Proofs.Ytnahokblbpppeaa
