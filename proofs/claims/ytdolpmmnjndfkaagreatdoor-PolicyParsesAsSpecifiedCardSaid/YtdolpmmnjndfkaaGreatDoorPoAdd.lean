/- Chapter 29, the walk: add of the parser. -/
import Derived.Test.YtdolpmmnjndfkaaGreatDoorPoPaD
import Derived.Deep.AppendLies
import Derived.Deep.RegionLaw
import Derived.Deep.RegionHeldLaw
namespace Go.Proofs.YtdolpmmnjndfkaaGreatDoor
open Go.RowKit
/-- what adding a node leaves -/
def AddSays (p : Nat) (w : World) (l : List Po.Tok) (o : List Po.Nd) (own : Option Nat) (x : Po.Nd) (e : Ending) (w' : World) : Prop :=
  e = .returned (.int .i64 (o.length : Nat)) ∧ ∃ own', PsAt p w' l (o ++ [x]) own' ∧ NewOwn w own own' ∧ Fr p own w w'
theorem add_done {p : Nat} {l : List Po.Tok} {o : List Po.Nd} {own : Option Nat} {x : Po.Nd} {v vl vo : Value} {ofs : List Value} {w Wp w1 : World} {g cap : Nat} (hc : w.heap[p]? = some (.cells #[vl, vo] 94 (0, 0))) (ht : RToks w p vl l) (hn : Nds p w vo o ofs) (hown : vo.ownBlock = own) (hv : OfIs w p own v x.of)
    (hW : Below w.heap.size w Wp) (hO : w1.ownsRow (p + 1) 67 21 (.slice (some ⟨g, 0, none⟩) (o.length + 1) cap) (o.length + 1) (ndFlat o ofs ++ ndVals x v)) (hG : Wp.grownBy w1 vo.ownBlock) (hA : vo.ownBlock = some g ∨ g = w.heap.size + 2) (hP : w1.heap[p]? = some (.cells #[vl, vo] 94 (0, 0))) :
    AddSays p w l o own x (.returned (.int .i64 (o.length : Nat))) (w1.setCell ⟨p, 1, none⟩ (.slice (some ⟨g, 0, none⟩) (o.length + 1) cap)) := by
  have hp := lt_of_block hc
  have hgt := hO.lt g rfl
  have hN : NewOwn w own (some g) := by
    rcases hA with h | h
    · exact .inl (h.symm.trans hown)
    · exact .inr ⟨g, rfl, by omega⟩
  have hF : Fr p own w (w1.setCell ⟨p, 1, none⟩ (.slice (some ⟨g, 0, none⟩) (o.length + 1) cap)) := by
    refine ⟨hG.os.trans hW.os, hG.tape.trans hW.tape, hG.output.trans hW.output, ?_, fun k hk hkp hko => ?_⟩
    · have := hW.size; have := hG.size; simp [World.setCell]; omega
    · rw [set_other _ _ _ _ _ hkp, hG.block k (Nat.lt_of_lt_of_le hk hW.size) (by rw [hown]; exact hko)]
      exact hW.block k hk
  have hb : ∀ k, k < p → (w1.setCell ⟨p, 1, none⟩ (.slice (some ⟨g, 0, none⟩) (o.length + 1) cap)).heap[k]? = w.heap[k]? := fun k hk => hF.block k (by omega) (by omega) (by
    intro e
    have := hn.row.lt k (hown.trans e.symm)
    omega)
  refine ⟨rfl, some g, ⟨vl, .slice (some ⟨g, 0, none⟩) (o.length + 1) cap, ofs ++ [v], set_second hP, rtoks_frame ht hb, ⟨?_, by simp [hn.len], fun i y u hy hu => ?_⟩, rfl⟩, hN, hF⟩
  · rw [ndFlat_snoc _ _ _ _ hn.len, List.length_append]
    refine own_frame hO (fun k hk => set_other _ _ _ _ _ ?_)
    have := hO.lt k hk
    omega
  · by_cases hi : i < o.length
    · rw [List.getElem?_append_left hi] at hy
      rw [List.getElem?_append_left (by rw [hn.len]; exact hi)] at hu
      have := hn.of i y u hy hu
      rw [hown] at this
      exact this.frame hF hN
    · have hi2 : i = o.length := by
        have := (List.getElem?_eq_some_iff.1 hy).1
        simp at this
        omega
      subst hi2
      rw [List.getElem?_append_right (Nat.le_refl _)] at hy
      rw [← hn.len, List.getElem?_append_right (Nat.le_refl _)] at hu
      simp at hy hu
      subst hy; subst hu
      exact hv.frame hF hN
set_option maxRecDepth 1000000 in
set_option maxHeartbeats 4000000 in
theorem pa_add {p : Nat} {l : List Po.Tok} {o : List Po.Nd} {own : Option Nat} (x : Po.Nd) (v : Value) (w : World) (h : PsAt p w l o own) (hx : x.dg.length = 16) (hv : OfIs w p own v x.of) (ho : o.length ≤ 100000) :
    Calls Tryz.prog 93 #[.pointer (some ⟨p, 0, none⟩), .agg (ndVals x v).toArray] w (AddSays p w l o own x) := by
  have hp := h.lt
  have HH := Lib.hid h
  obtain ⟨vl, vo, ofs, hc, ht, hn, hown⟩ := h
  have hi0 : (Tryz.prog.info? 67).map (fun i => (i.zero, i.size, i.bytes)) = some (some (.agg nd0), 21, 72) := by kernel_rfl
  obtain ⟨i0, hi, hxx⟩ := Option.map_eq_some_iff.1 hi0
  simp only [Prod.mk.injEq] at hxx
  obtain ⟨hz0, hz1, hz2⟩ := hxx
  clear hi0
  obtain ⟨S, hS⟩ : ∃ S, AddSays p w l o own x = S := ⟨_, rfl⟩
  rw [hS]
  have hone : (ndVals x v).toArray.all (·.oneCell') = true := nd_one (by rcases hv with ⟨_, h⟩ | ⟨b, cap, h, _⟩ <;> rw [h] <;> rfl)
  obtain ⟨xk, xn, xm, xs, xd, xo⟩ := x
  obtain ⟨a0, a1, a2, a3, a4, a5, a6, a7, a8, a9, b0, b1, b2, b3, b4, b5, hd⟩ := sixteen hx
  simp only at hd
  subst hd
  have hcs : (ndVals ⟨xk, xn, xm, xs, [a0, a1, a2, a3, a4, a5, a6, a7, a8, a9, b0, b1, b2, b3, b4, b5], xo⟩ v).toArray = #[.int .i64 xk, .int .i64 xn, .int .i64 xm, .int .i64 xs, .int .u8 (a0 : Nat), .int .u8 (a1 : Nat), .int .u8 (a2 : Nat), .int .u8 (a3 : Nat), .int .u8 (a4 : Nat), .int .u8 (a5 : Nat), .int .u8 (a6 : Nat), .int .u8 (a7 : Nat), .int .u8 (a8 : Nat), .int .u8 (a9 : Nat), .int .u8 (b0 : Nat), .int .u8 (b1 : Nat), .int .u8 (b2 : Nat), .int .u8 (b3 : Nat), .int .u8 (b4 : Nat), .int .u8 (b5 : Nat), v] := rfl
  rw [hcs] at hone ⊢
  obtain ⟨T, N, R, K, L⟩ := letters
  have hbox : (w.alloc (.cells #[.int .i64 xk, .int .i64 xn, .int .i64 xm, .int .i64 xs, .int .u8 (a0 : Nat), .int .u8 (a1 : Nat), .int .u8 (a2 : Nat), .int .u8 (a3 : Nat), .int .u8 (a4 : Nat), .int .u8 (a5 : Nat), .int .u8 (a6 : Nat), .int .u8 (a7 : Nat), .int .u8 (a8 : Nat), .int .u8 (a9 : Nat), .int .u8 (b0 : Nat), .int .u8 (b1 : Nat), .int .u8 (b2 : Nat), .int .u8 (b3 : Nat), .int .u8 (b4 : Nat), .int .u8 (b5 : Nat), v] 67)).heap[w.heap.size]? = some (.cells #[.int .i64 xk, .int .i64 xn, .int .i64 xm, .int .i64 xs, .int .u8 (a0 : Nat), .int .u8 (a1 : Nat), .int .u8 (a2 : Nat), .int .u8 (a3 : Nat), .int .u8 (a4 : Nat), .int .u8 (a5 : Nat), .int .u8 (a6 : Nat), .int .u8 (a7 : Nat), .int .u8 (a8 : Nat), .int .u8 (a9 : Nat), .int .u8 (b0 : Nat), .int .u8 (b1 : Nat), .int .u8 (b2 : Nat), .int .u8 (b3 : Nat), .int .u8 (b4 : Nat), .int .u8 (b5 : Nat), v] 67 (0, 0)) := heap_alloc_new _ _
  obtain ⟨c0, c1, cz⟩ := two_cells ((Below.heap_alloc w (.cells #[.int .i64 xk, .int .i64 xn, .int .i64 xm, .int .i64 xs, .int .u8 (a0 : Nat), .int .u8 (a1 : Nat), .int .u8 (a2 : Nat), .int .u8 (a3 : Nat), .int .u8 (a4 : Nat), .int .u8 (a5 : Nat), .int .u8 (a6 : Nat), .int .u8 (a7 : Nat), .int .u8 (a8 : Nat), .int .u8 (a9 : Nat), .int .u8 (b0 : Nat), .int .u8 (b1 : Nat), .int .u8 (b2 : Nat), .int .u8 (b3 : Nat), .int .u8 (b4 : Nat), .int .u8 (b5 : Nat), v] 67) p hp).trans hc)
  have hrow := hn.row.alloc (.cells #[.int .i64 xk, .int .i64 xn, .int .i64 xm, .int .i64 xs, .int .u8 (a0 : Nat), .int .u8 (a1 : Nat), .int .u8 (a2 : Nat), .int .u8 (a3 : Nat), .int .u8 (a4 : Nat), .int .u8 (a5 : Nat), .int .u8 (a6 : Nat), .int .u8 (a7 : Nat), .int .u8 (a8 : Nat), .int .u8 (a9 : Nat), .int .u8 (b0 : Nat), .int .u8 (b1 : Nat), .int .u8 (b2 : Nat), .int .u8 (b3 : Nat), .int .u8 (b4 : Nat), .int .u8 (b5 : Nat), v] 67)
  go_enter Tryz.func93, Tryz.ntmps93
  simp only [L.load]
  have la := L.agg
  have lz := L.size
  have hboxd : (w.alloc (.cells #[.int .i64 xk, .int .i64 xn, .int .i64 xm, .int .i64 xs, .int .u8 (a0 : Nat), .int .u8 (a1 : Nat), .int .u8 (a2 : Nat), .int .u8 (a3 : Nat), .int .u8 (a4 : Nat), .int .u8 (a5 : Nat), .int .u8 (a6 : Nat), .int .u8 (a7 : Nat), .int .u8 (a8 : Nat), .int .u8 (a9 : Nat), .int .u8 (b0 : Nat), .int .u8 (b1 : Nat), .int .u8 (b2 : Nat), .int .u8 (b3 : Nat), .int .u8 (b4 : Nat), .int .u8 (b5 : Nat), v] 67)).drew.heap[w.heap.size]? = some (.cells #[.int .i64 xk, .int .i64 xn, .int .i64 xm, .int .i64 xs, .int .u8 (a0 : Nat), .int .u8 (a1 : Nat), .int .u8 (a2 : Nat), .int .u8 (a3 : Nat), .int .u8 (a4 : Nat), .int .u8 (a5 : Nat), .int .u8 (a6 : Nat), .int .u8 (a7 : Nat), .int .u8 (a8 : Nat), .int .u8 (a9 : Nat), .int .u8 (b0 : Nat), .int .u8 (b1 : Nat), .int .u8 (b2 : Nat), .int .u8 (b3 : Nat), .int .u8 (b4 : Nat), .int .u8 (b5 : Nat), v] 67 (0, 0)) := hbox
  have hld := L.ld hboxd rfl
  clear hboxd
  have HL := Lib.hid L
  have HC := Lib.hid (And.intro hc (And.intro ht (And.intro hn hown)))
  have HSZ := Lib.hid (And.intro hone hcs)
  have HV := Lib.hid hv
  clear L hc ht hn hown hone hcs hv
  go_upto_region 1 with fail
  have hlen : o.length + 1 ≤ maxLen := by unfold maxLen; omega
  have HLEN := Lib.hid (And.intro ho hlen)
  have HROW := Lib.hid (show (w.alloc (.cells #[.int .i64 xk, .int .i64 xn, .int .i64 xm, .int .i64 xs, .int .u8 (a0 : Nat), .int .u8 (a1 : Nat), .int .u8 (a2 : Nat), .int .u8 (a3 : Nat), .int .u8 (a4 : Nat), .int .u8 (a5 : Nat), .int .u8 (a6 : Nat), .int .u8 (a7 : Nat), .int .u8 (a8 : Nat), .int .u8 (a9 : Nat), .int .u8 (b0 : Nat), .int .u8 (b1 : Nat), .int .u8 (b2 : Nat), .int .u8 (b3 : Nat), .int .u8 (b4 : Nat), .int .u8 (b5 : Nat), v] 67)).drew.ownsRow (p + 1) 67 21 vo o.length (ndFlat o ofs) from hrow)
  clear ho hlen hrow
  have HONE := Lib.hid (show ∀ u ∈ ([.int .i64 xk, .int .i64 xn, .int .i64 xm, .int .i64 xs, .int .u8 (a0 : Nat), .int .u8 (a1 : Nat), .int .u8 (a2 : Nat), .int .u8 (a3 : Nat), .int .u8 (a4 : Nat), .int .u8 (a5 : Nat), .int .u8 (a6 : Nat), .int .u8 (a7 : Nat), .int .u8 (a8 : Nat), .int .u8 (a9 : Nat), .int .u8 (b0 : Nat), .int .u8 (b1 : Nat), .int .u8 (b2 : Nat), .int .u8 (b3 : Nat), .int .u8 (b4 : Nat), .int .u8 (b5 : Nat), v] : List Value), u.oneCell' = true from fun u hu => (Array.all_eq_true_iff_forall_mem.1 HSZ.out.1) u (by simpa using hu))
  have hb2 : ((w.alloc (.cells #[.int .i64 xk, .int .i64 xn, .int .i64 xm, .int .i64 xs, .int .u8 (a0 : Nat), .int .u8 (a1 : Nat), .int .u8 (a2 : Nat), .int .u8 (a3 : Nat), .int .u8 (a4 : Nat), .int .u8 (a5 : Nat), .int .u8 (a6 : Nat), .int .u8 (a7 : Nat), .int .u8 (a8 : Nat), .int .u8 (a9 : Nat), .int .u8 (b0 : Nat), .int .u8 (b1 : Nat), .int .u8 (b2 : Nat), .int .u8 (b3 : Nat), .int .u8 (b4 : Nat), .int .u8 (b5 : Nat), v] 67)).drew.alloc (.cells #[.int .i64 xk, .int .i64 xn, .int .i64 xm, .int .i64 xs, .int .u8 (a0 : Nat), .int .u8 (a1 : Nat), .int .u8 (a2 : Nat), .int .u8 (a3 : Nat), .int .u8 (a4 : Nat), .int .u8 (a5 : Nat), .int .u8 (a6 : Nat), .int .u8 (a7 : Nat), .int .u8 (a8 : Nat), .int .u8 (a9 : Nat), .int .u8 (b0 : Nat), .int .u8 (b1 : Nat), .int .u8 (b2 : Nat), .int .u8 (b3 : Nat), .int .u8 (b4 : Nat), .int .u8 (b5 : Nat), v] 67)).heap[w.heap.size + 1]? = some (.cells #[.int .i64 xk, .int .i64 xn, .int .i64 xm, .int .i64 xs, .int .u8 (a0 : Nat), .int .u8 (a1 : Nat), .int .u8 (a2 : Nat), .int .u8 (a3 : Nat), .int .u8 (a4 : Nat), .int .u8 (a5 : Nat), .int .u8 (a6 : Nat), .int .u8 (a7 : Nat), .int .u8 (a8 : Nat), .int .u8 (a9 : Nat), .int .u8 (b0 : Nat), .int .u8 (b1 : Nat), .int .u8 (b2 : Nat), .int .u8 (b3 : Nat), .int .u8 (b4 : Nat), .int .u8 (b5 : Nat), v] 67 (0, 0)) := by
    have e := heap_alloc_new (w.alloc (.cells #[.int .i64 xk, .int .i64 xn, .int .i64 xm, .int .i64 xs, .int .u8 (a0 : Nat), .int .u8 (a1 : Nat), .int .u8 (a2 : Nat), .int .u8 (a3 : Nat), .int .u8 (a4 : Nat), .int .u8 (a5 : Nat), .int .u8 (a6 : Nat), .int .u8 (a7 : Nat), .int .u8 (a8 : Nat), .int .u8 (a9 : Nat), .int .u8 (b0 : Nat), .int .u8 (b1 : Nat), .int .u8 (b2 : Nat), .int .u8 (b3 : Nat), .int .u8 (b4 : Nat), .int .u8 (b5 : Nat), v] 67)).drew (.cells #[.int .i64 xk, .int .i64 xn, .int .i64 xm, .int .i64 xs, .int .u8 (a0 : Nat), .int .u8 (a1 : Nat), .int .u8 (a2 : Nat), .int .u8 (a3 : Nat), .int .u8 (a4 : Nat), .int .u8 (a5 : Nat), .int .u8 (a6 : Nat), .int .u8 (a7 : Nat), .int .u8 (a8 : Nat), .int .u8 (a9 : Nat), .int .u8 (b0 : Nat), .int .u8 (b1 : Nat), .int .u8 (b2 : Nat), .int .u8 (b3 : Nat), .int .u8 (b4 : Nat), .int .u8 (b5 : Nat), v] 67)
    rwa [show (w.alloc (.cells #[.int .i64 xk, .int .i64 xn, .int .i64 xm, .int .i64 xs, .int .u8 (a0 : Nat), .int .u8 (a1 : Nat), .int .u8 (a2 : Nat), .int .u8 (a3 : Nat), .int .u8 (a4 : Nat), .int .u8 (a5 : Nat), .int .u8 (a6 : Nat), .int .u8 (a7 : Nat), .int .u8 (a8 : Nat), .int .u8 (a9 : Nat), .int .u8 (b0 : Nat), .int .u8 (b1 : Nat), .int .u8 (b2 : Nat), .int .u8 (b3 : Nat), .int .u8 (b4 : Nat), .int .u8 (b5 : Nat), v] 67)).drew.heap.size = w.heap.size + 1 by simp] at e
  have HNEW := Lib.hid (World.news_of_block hb2)
  have HPP := Lib.hid (show ((w.alloc (.cells #[.int .i64 xk, .int .i64 xn, .int .i64 xm, .int .i64 xs, .int .u8 (a0 : Nat), .int .u8 (a1 : Nat), .int .u8 (a2 : Nat), .int .u8 (a3 : Nat), .int .u8 (a4 : Nat), .int .u8 (a5 : Nat), .int .u8 (a6 : Nat), .int .u8 (a7 : Nat), .int .u8 (a8 : Nat), .int .u8 (a9 : Nat), .int .u8 (b0 : Nat), .int .u8 (b1 : Nat), .int .u8 (b2 : Nat), .int .u8 (b3 : Nat), .int .u8 (b4 : Nat), .int .u8 (b5 : Nat), v] 67)).drew.alloc (.cells #[.int .i64 xk, .int .i64 xn, .int .i64 xm, .int .i64 xs, .int .u8 (a0 : Nat), .int .u8 (a1 : Nat), .int .u8 (a2 : Nat), .int .u8 (a3 : Nat), .int .u8 (a4 : Nat), .int .u8 (a5 : Nat), .int .u8 (a6 : Nat), .int .u8 (a7 : Nat), .int .u8 (a8 : Nat), .int .u8 (a9 : Nat), .int .u8 (b0 : Nat), .int .u8 (b1 : Nat), .int .u8 (b2 : Nat), .int .u8 (b3 : Nat), .int .u8 (b4 : Nat), .int .u8 (b5 : Nat), v] 67)).heap[p]? = some (.cells #[vl, vo] 94 (0, 0)) from (Below.heap_alloc _ _ _ (by simp; omega)).trans ((Below.heap_alloc w _ _ hp).trans HC.out.1))
  have HNE := Lib.hid (show some p ≠ vo.ownBlock by
    intro e
    have := HC.out.2.2.1.row.lt p e.symm
    omega)
  have HPL := Lib.hid (show p < ((w.alloc (.cells #[.int .i64 xk, .int .i64 xn, .int .i64 xm, .int .i64 xs, .int .u8 (a0 : Nat), .int .u8 (a1 : Nat), .int .u8 (a2 : Nat), .int .u8 (a3 : Nat), .int .u8 (a4 : Nat), .int .u8 (a5 : Nat), .int .u8 (a6 : Nat), .int .u8 (a7 : Nat), .int .u8 (a8 : Nat), .int .u8 (a9 : Nat), .int .u8 (b0 : Nat), .int .u8 (b1 : Nat), .int .u8 (b2 : Nat), .int .u8 (b3 : Nat), .int .u8 (b4 : Nat), .int .u8 (b5 : Nat), v] 67)).drew.alloc (.cells #[.int .i64 xk, .int .i64 xn, .int .i64 xm, .int .i64 xs, .int .u8 (a0 : Nat), .int .u8 (a1 : Nat), .int .u8 (a2 : Nat), .int .u8 (a3 : Nat), .int .u8 (a4 : Nat), .int .u8 (a5 : Nat), .int .u8 (a6 : Nat), .int .u8 (a7 : Nat), .int .u8 (a8 : Nat), .int .u8 (a9 : Nat), .int .u8 (b0 : Nat), .int .u8 (b1 : Nat), .int .u8 (b2 : Nat), .int .u8 (b3 : Nat), .int .u8 (b4 : Nat), .int .u8 (b5 : Nat), v] 67)).heap.size by simp; omega)
  clear hb2
  have HBY := Lib.hid (show (o.length + 1) * 72 ≤ 140737488355328 by have := HLEN.out; omega)
  have HBA := Lib.hid (show p + 1 ≤ ((w.alloc (.cells #[.int .i64 xk, .int .i64 xn, .int .i64 xm, .int .i64 xs, .int .u8 (a0 : Nat), .int .u8 (a1 : Nat), .int .u8 (a2 : Nat), .int .u8 (a3 : Nat), .int .u8 (a4 : Nat), .int .u8 (a5 : Nat), .int .u8 (a6 : Nat), .int .u8 (a7 : Nat), .int .u8 (a8 : Nat), .int .u8 (a9 : Nat), .int .u8 (b0 : Nat), .int .u8 (b1 : Nat), .int .u8 (b2 : Nat), .int .u8 (b3 : Nat), .int .u8 (b4 : Nat), .int .u8 (b5 : Nat), v] 67)).drew.alloc (.cells #[.int .i64 xk, .int .i64 xn, .int .i64 xm, .int .i64 xs, .int .u8 (a0 : Nat), .int .u8 (a1 : Nat), .int .u8 (a2 : Nat), .int .u8 (a3 : Nat), .int .u8 (a4 : Nat), .int .u8 (a5 : Nat), .int .u8 (a6 : Nat), .int .u8 (a7 : Nat), .int .u8 (a8 : Nat), .int .u8 (a9 : Nat), .int .u8 (b0 : Nat), .int .u8 (b1 : Nat), .int .u8 (b2 : Nat), .int .u8 (b3 : Nat), .int .u8 (b4 : Nat), .int .u8 (b5 : Nat), v] 67)).heap.size by simp; omega)
  have HSI := Lib.hid (show ((w.alloc (.cells #[.int .i64 xk, .int .i64 xn, .int .i64 xm, .int .i64 xs, .int .u8 (a0 : Nat), .int .u8 (a1 : Nat), .int .u8 (a2 : Nat), .int .u8 (a3 : Nat), .int .u8 (a4 : Nat), .int .u8 (a5 : Nat), .int .u8 (a6 : Nat), .int .u8 (a7 : Nat), .int .u8 (a8 : Nat), .int .u8 (a9 : Nat), .int .u8 (b0 : Nat), .int .u8 (b1 : Nat), .int .u8 (b2 : Nat), .int .u8 (b3 : Nat), .int .u8 (b4 : Nat), .int .u8 (b5 : Nat), v] 67)).drew.alloc (.cells #[.int .i64 xk, .int .i64 xn, .int .i64 xm, .int .i64 xs, .int .u8 (a0 : Nat), .int .u8 (a1 : Nat), .int .u8 (a2 : Nat), .int .u8 (a3 : Nat), .int .u8 (a4 : Nat), .int .u8 (a5 : Nat), .int .u8 (a6 : Nat), .int .u8 (a7 : Nat), .int .u8 (a8 : Nat), .int .u8 (a9 : Nat), .int .u8 (b0 : Nat), .int .u8 (b1 : Nat), .int .u8 (b2 : Nat), .int .u8 (b3 : Nat), .int .u8 (b4 : Nat), .int .u8 (b5 : Nat), v] 67)).heap.size = w.heap.size + 2 by simp)
  go_region_law (refine step_append_lies _ rfl (.tmp 9) (.tmp 11) 23 rfl (p + 1) 67 i0 _ 21 72 Tryz.underlying23 hi hz0 hz1 hz2 rfl (by decide) vo o.length (ndFlat o ofs) rfl (HROW.out.alloc _) ⟨w.heap.size + 1, 0, none⟩ 1 1 [.int .i64 xk, .int .i64 xn, .int .i64 xm, .int .i64 xs, .int .u8 (a0 : Nat), .int .u8 (a1 : Nat), .int .u8 (a2 : Nat), .int .u8 (a3 : Nat), .int .u8 (a4 : Nat), .int .u8 (a5 : Nat), .int .u8 (a6 : Nat), .int .u8 (a7 : Nat), .int .u8 (a8 : Nat), .int .u8 (a9 : Nat), .int .u8 (b0 : Nat), .int .u8 (b1 : Nat), .int .u8 (b2 : Nat), .int .u8 (b3 : Nat), .int .u8 (b4 : Nat), .int .u8 (b5 : Nat), v] rfl rfl HNEW.out HONE.out (by decide) HLEN.out.2 HBY.out HBA.out (w.heap.size + 2) HSI.out ?_; intro g cap w1 hown1 hgrow hat hlt; have hp1 := (hgrow.block p HPL.out HNE.out).trans HPP.out; obtain ⟨d0, d1, dz⟩ := two_cells hp1; have HP1 := Lib.hid hp1; have HO1 := Lib.hid hown1; have HG1 := Lib.hid hgrow; have HAT := Lib.hid hat; clear hp1 hown1 hgrow hat)
  all_goals
    have w1l : wrap64 ((o.length : Int) + 1 - 1) = o.length := by have := HLEN.out; unfold wrap64; omega
    have w2l : wrap64 (o.length : Int) = o.length := by have := HLEN.out; unfold wrap64; omega
    go_wp2_with fail
    rw [← hS]
    exact add_done HC.out.1 HC.out.2.1 HC.out.2.2.1 HC.out.2.2.2 HV.out (((Below.new _).drew).trans ((Below.new _).mono (by simp))) HO1.out HG1.out HAT.out HP1.out
end Go.Proofs.YtdolpmmnjndfkaaGreatDoor
