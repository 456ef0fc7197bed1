/- Chapter 29, the walk: add of the parser. | Chapter 29, the walk: an operand of the parser: the contracts of the recursion, and 'not' one call deeper. | Chapter 29, the walk: chain and policy of the parser; the recursion closed. -/
import Derived.Test.YtdeccekeknlnoaaGreatDoorJPoDig
import Derived.Test.YtdeccekeknlnoaaGreatDoorJPoPl
import Derived.Deep.AppendLies
import Derived.Deep.RegionLaw
import Derived.Deep.RegionHeldLaw
import Derived.Deep.LoopGhost
namespace Go.Proofs.YtdeccekeknlnoaaGreatDoor
open Go.RowKit
/-- what adding a node leaves -/
def AddSays (p : Nat) (w : World) (l : List Po.Tok) (o : List Po.Nd) (own : Option Nat) (x : Po.Nd) (e : Ending) (w' : World) : Prop :=
  e = .returned (.int .i64 (o.length : Nat)) ∧ ∃ own', PsAt p w' l (o ++ [x]) own' ∧ NewOwn w own own' ∧ Fr p own w w'
theorem add_done {p : Nat} {l : List Po.Tok} {o : List Po.Nd} {own : Option Nat} {x : Po.Nd} {v vl vo : Value} {ofs : List Value} {w Wp w1 : World} {g cap : Nat} (hc : w.heap[p]? = some (.cells #[vl, vo] 212 (0, 0))) (ht : RToks w p vl l) (hn : Nds p w vo o ofs) (hown : vo.ownBlock = own) (hv : OfIs w p own v x.of)
    (hW : Below w.heap.size w Wp) (hO : w1.ownsRow (p + 1) 155 21 (.slice (some ⟨g, 0, none⟩) (o.length + 1) cap) (o.length + 1) (ndFlat o ofs ++ ndVals x v)) (hG : Wp.grownBy w1 vo.ownBlock) (hA : vo.ownBlock = some g ∨ g = w.heap.size + 2) (hP : w1.heap[p]? = some (.cells #[vl, vo] 212 (0, 0))) :
    AddSays p w l o own x (.returned (.int .i64 (o.length : Nat))) (w1.setCell ⟨p, 1, none⟩ (.slice (some ⟨g, 0, none⟩) (o.length + 1) cap)) := by
  have hp := lt_of_block hc
  have hgt := hO.lt g rfl
  have hN : NewOwn w own (some g) := by
    rcases hA with h | h
    · exact .inl (h.symm.trans hown)
    · exact .inr ⟨g, rfl, by omega⟩
  have hF : Fr p own w (w1.setCell ⟨p, 1, none⟩ (.slice (some ⟨g, 0, none⟩) (o.length + 1) cap)) := by
    refine ⟨hG.os.trans hW.os, hG.tape.trans hW.tape, hG.output.trans hW.output, ?_, fun k hk hkp hko => ?_⟩
    · have := hW.size; have := hG.size; simp [World.setCell]; omega
    · rw [set_other _ _ _ _ _ hkp, hG.block k (Nat.lt_of_lt_of_le hk hW.size) (by rw [hown]; exact hko)]
      exact hW.block k hk
  have hb : ∀ k, k < p → (w1.setCell ⟨p, 1, none⟩ (.slice (some ⟨g, 0, none⟩) (o.length + 1) cap)).heap[k]? = w.heap[k]? := fun k hk => hF.block k (by omega) (by omega) (by
    intro e
    have := hn.row.lt k (hown.trans e.symm)
    omega)
  refine ⟨rfl, some g, ⟨vl, .slice (some ⟨g, 0, none⟩) (o.length + 1) cap, ofs ++ [v], set_second hP, rtoks_frame ht hb, ⟨?_, by simp [hn.len], fun i y u hy hu => ?_⟩, rfl⟩, hN, hF⟩
  · rw [ndFlat_snoc _ _ _ _ hn.len, List.length_append]
    refine own_frame hO (fun k hk => set_other _ _ _ _ _ ?_)
    have := hO.lt k hk
    omega
  · by_cases hi : i < o.length
    · rw [List.getElem?_append_left hi] at hy
      rw [List.getElem?_append_left (by rw [hn.len]; exact hi)] at hu
      have := hn.of i y u hy hu
      rw [hown] at this
      exact this.frame hF hN
    · have hi2 : i = o.length := by
        have := (List.getElem?_eq_some_iff.1 hy).1
        simp at this
        omega
      subst hi2
      rw [List.getElem?_append_right (Nat.le_refl _)] at hy
      rw [← hn.len, List.getElem?_append_right (Nat.le_refl _)] at hu
      simp at hy hu
      subst hy; subst hu
      exact hv.frame hF hN
set_option maxRecDepth 1000000 in
set_option maxHeartbeats 4000000 in
theorem pa_add {p : Nat} {l : List Po.Tok} {o : List Po.Nd} {own : Option Nat} (x : Po.Nd) (v : Value) (w : World) (h : PsAt p w l o own) (hx : x.dg.length = 16) (hv : OfIs w p own v x.of) (ho : o.length ≤ 100000) :
    Calls Tryz.prog 184 #[.pointer (some ⟨p, 0, none⟩), .agg (ndVals x v).toArray] w (AddSays p w l o own x) := by
  have hp := h.lt
  have HH := Lib.hid h
  obtain ⟨vl, vo, ofs, hc, ht, hn, hown⟩ := h
  have hi0 : (Tryz.prog.info? 155).map (fun i => (i.zero, i.size, i.bytes)) = some (some (.agg nd0), 21, 72) := by kernel_rfl
  obtain ⟨i0, hi, hxx⟩ := Option.map_eq_some_iff.1 hi0
  simp only [Prod.mk.injEq] at hxx
  obtain ⟨hz0, hz1, hz2⟩ := hxx
  clear hi0
  obtain ⟨S, hS⟩ : ∃ S, AddSays p w l o own x = S := ⟨_, rfl⟩
  rw [hS]
  have hone : (ndVals x v).toArray.all (·.oneCell') = true := nd_one (by rcases hv with ⟨_, h⟩ | ⟨b, cap, h, _⟩ <;> rw [h] <;> rfl)
  obtain ⟨xk, xn, xm, xs, xd, xo⟩ := x
  obtain ⟨a0, a1, a2, a3, a4, a5, a6, a7, a8, a9, b0, b1, b2, b3, b4, b5, hd⟩ := sixteen hx
  simp only at hd
  subst hd
  have hcs : (ndVals ⟨xk, xn, xm, xs, [a0, a1, a2, a3, a4, a5, a6, a7, a8, a9, b0, b1, b2, b3, b4, b5], xo⟩ v).toArray = #[.int .i64 xk, .int .i64 xn, .int .i64 xm, .int .i64 xs, .int .u8 (a0 : Nat), .int .u8 (a1 : Nat), .int .u8 (a2 : Nat), .int .u8 (a3 : Nat), .int .u8 (a4 : Nat), .int .u8 (a5 : Nat), .int .u8 (a6 : Nat), .int .u8 (a7 : Nat), .int .u8 (a8 : Nat), .int .u8 (a9 : Nat), .int .u8 (b0 : Nat), .int .u8 (b1 : Nat), .int .u8 (b2 : Nat), .int .u8 (b3 : Nat), .int .u8 (b4 : Nat), .int .u8 (b5 : Nat), v] := rfl
  rw [hcs] at hone ⊢
  obtain ⟨T, N, R, K, L⟩ := letters
  have hbox : (w.alloc (.cells #[.int .i64 xk, .int .i64 xn, .int .i64 xm, .int .i64 xs, .int .u8 (a0 : Nat), .int .u8 (a1 : Nat), .int .u8 (a2 : Nat), .int .u8 (a3 : Nat), .int .u8 (a4 : Nat), .int .u8 (a5 : Nat), .int .u8 (a6 : Nat), .int .u8 (a7 : Nat), .int .u8 (a8 : Nat), .int .u8 (a9 : Nat), .int .u8 (b0 : Nat), .int .u8 (b1 : Nat), .int .u8 (b2 : Nat), .int .u8 (b3 : Nat), .int .u8 (b4 : Nat), .int .u8 (b5 : Nat), v] 155)).heap[w.heap.size]? = some (.cells #[.int .i64 xk, .int .i64 xn, .int .i64 xm, .int .i64 xs, .int .u8 (a0 : Nat), .int .u8 (a1 : Nat), .int .u8 (a2 : Nat), .int .u8 (a3 : Nat), .int .u8 (a4 : Nat), .int .u8 (a5 : Nat), .int .u8 (a6 : Nat), .int .u8 (a7 : Nat), .int .u8 (a8 : Nat), .int .u8 (a9 : Nat), .int .u8 (b0 : Nat), .int .u8 (b1 : Nat), .int .u8 (b2 : Nat), .int .u8 (b3 : Nat), .int .u8 (b4 : Nat), .int .u8 (b5 : Nat), v] 155 (0, 0)) := heap_alloc_new _ _
  obtain ⟨c0, c1, cz⟩ := two_cells ((Below.heap_alloc w (.cells #[.int .i64 xk, .int .i64 xn, .int .i64 xm, .int .i64 xs, .int .u8 (a0 : Nat), .int .u8 (a1 : Nat), .int .u8 (a2 : Nat), .int .u8 (a3 : Nat), .int .u8 (a4 : Nat), .int .u8 (a5 : Nat), .int .u8 (a6 : Nat), .int .u8 (a7 : Nat), .int .u8 (a8 : Nat), .int .u8 (a9 : Nat), .int .u8 (b0 : Nat), .int .u8 (b1 : Nat), .int .u8 (b2 : Nat), .int .u8 (b3 : Nat), .int .u8 (b4 : Nat), .int .u8 (b5 : Nat), v] 155) p hp).trans hc)
  have hrow := hn.row.alloc (.cells #[.int .i64 xk, .int .i64 xn, .int .i64 xm, .int .i64 xs, .int .u8 (a0 : Nat), .int .u8 (a1 : Nat), .int .u8 (a2 : Nat), .int .u8 (a3 : Nat), .int .u8 (a4 : Nat), .int .u8 (a5 : Nat), .int .u8 (a6 : Nat), .int .u8 (a7 : Nat), .int .u8 (a8 : Nat), .int .u8 (a9 : Nat), .int .u8 (b0 : Nat), .int .u8 (b1 : Nat), .int .u8 (b2 : Nat), .int .u8 (b3 : Nat), .int .u8 (b4 : Nat), .int .u8 (b5 : Nat), v] 155)
  go_enter Tryz.func184, Tryz.ntmps184
  simp only [L.load]
  have la := L.agg
  have lz := L.size
  have hboxd : (w.alloc (.cells #[.int .i64 xk, .int .i64 xn, .int .i64 xm, .int .i64 xs, .int .u8 (a0 : Nat), .int .u8 (a1 : Nat), .int .u8 (a2 : Nat), .int .u8 (a3 : Nat), .int .u8 (a4 : Nat), .int .u8 (a5 : Nat), .int .u8 (a6 : Nat), .int .u8 (a7 : Nat), .int .u8 (a8 : Nat), .int .u8 (a9 : Nat), .int .u8 (b0 : Nat), .int .u8 (b1 : Nat), .int .u8 (b2 : Nat), .int .u8 (b3 : Nat), .int .u8 (b4 : Nat), .int .u8 (b5 : Nat), v] 155)).drew.heap[w.heap.size]? = some (.cells #[.int .i64 xk, .int .i64 xn, .int .i64 xm, .int .i64 xs, .int .u8 (a0 : Nat), .int .u8 (a1 : Nat), .int .u8 (a2 : Nat), .int .u8 (a3 : Nat), .int .u8 (a4 : Nat), .int .u8 (a5 : Nat), .int .u8 (a6 : Nat), .int .u8 (a7 : Nat), .int .u8 (a8 : Nat), .int .u8 (a9 : Nat), .int .u8 (b0 : Nat), .int .u8 (b1 : Nat), .int .u8 (b2 : Nat), .int .u8 (b3 : Nat), .int .u8 (b4 : Nat), .int .u8 (b5 : Nat), v] 155 (0, 0)) := hbox
  have hld := L.ld hboxd rfl
  clear hboxd
  have HL := Lib.hid L
  have HC := Lib.hid (And.intro hc (And.intro ht (And.intro hn hown)))
  have HSZ := Lib.hid (And.intro hone hcs)
  have HV := Lib.hid hv
  clear L hc ht hn hown hone hcs hv
  go_upto_region 1 with fail
  have hlen : o.length + 1 ≤ maxLen := by unfold maxLen; omega
  have HLEN := Lib.hid (And.intro ho hlen)
  have HROW := Lib.hid (show (w.alloc (.cells #[.int .i64 xk, .int .i64 xn, .int .i64 xm, .int .i64 xs, .int .u8 (a0 : Nat), .int .u8 (a1 : Nat), .int .u8 (a2 : Nat), .int .u8 (a3 : Nat), .int .u8 (a4 : Nat), .int .u8 (a5 : Nat), .int .u8 (a6 : Nat), .int .u8 (a7 : Nat), .int .u8 (a8 : Nat), .int .u8 (a9 : Nat), .int .u8 (b0 : Nat), .int .u8 (b1 : Nat), .int .u8 (b2 : Nat), .int .u8 (b3 : Nat), .int .u8 (b4 : Nat), .int .u8 (b5 : Nat), v] 155)).drew.ownsRow (p + 1) 155 21 vo o.length (ndFlat o ofs) from hrow)
  clear ho hlen hrow
  have HONE := Lib.hid (show ∀ u ∈ ([.int .i64 xk, .int .i64 xn, .int .i64 xm, .int .i64 xs, .int .u8 (a0 : Nat), .int .u8 (a1 : Nat), .int .u8 (a2 : Nat), .int .u8 (a3 : Nat), .int .u8 (a4 : Nat), .int .u8 (a5 : Nat), .int .u8 (a6 : Nat), .int .u8 (a7 : Nat), .int .u8 (a8 : Nat), .int .u8 (a9 : Nat), .int .u8 (b0 : Nat), .int .u8 (b1 : Nat), .int .u8 (b2 : Nat), .int .u8 (b3 : Nat), .int .u8 (b4 : Nat), .int .u8 (b5 : Nat), v] : List Value), u.oneCell' = true from fun u hu => (Array.all_eq_true_iff_forall_mem.1 HSZ.out.1) u (by simpa using hu))
  have hb2 : ((w.alloc (.cells #[.int .i64 xk, .int .i64 xn, .int .i64 xm, .int .i64 xs, .int .u8 (a0 : Nat), .int .u8 (a1 : Nat), .int .u8 (a2 : Nat), .int .u8 (a3 : Nat), .int .u8 (a4 : Nat), .int .u8 (a5 : Nat), .int .u8 (a6 : Nat), .int .u8 (a7 : Nat), .int .u8 (a8 : Nat), .int .u8 (a9 : Nat), .int .u8 (b0 : Nat), .int .u8 (b1 : Nat), .int .u8 (b2 : Nat), .int .u8 (b3 : Nat), .int .u8 (b4 : Nat), .int .u8 (b5 : Nat), v] 155)).drew.alloc (.cells #[.int .i64 xk, .int .i64 xn, .int .i64 xm, .int .i64 xs, .int .u8 (a0 : Nat), .int .u8 (a1 : Nat), .int .u8 (a2 : Nat), .int .u8 (a3 : Nat), .int .u8 (a4 : Nat), .int .u8 (a5 : Nat), .int .u8 (a6 : Nat), .int .u8 (a7 : Nat), .int .u8 (a8 : Nat), .int .u8 (a9 : Nat), .int .u8 (b0 : Nat), .int .u8 (b1 : Nat), .int .u8 (b2 : Nat), .int .u8 (b3 : Nat), .int .u8 (b4 : Nat), .int .u8 (b5 : Nat), v] 155)).heap[w.heap.size + 1]? = some (.cells #[.int .i64 xk, .int .i64 xn, .int .i64 xm, .int .i64 xs, .int .u8 (a0 : Nat), .int .u8 (a1 : Nat), .int .u8 (a2 : Nat), .int .u8 (a3 : Nat), .int .u8 (a4 : Nat), .int .u8 (a5 : Nat), .int .u8 (a6 : Nat), .int .u8 (a7 : Nat), .int .u8 (a8 : Nat), .int .u8 (a9 : Nat), .int .u8 (b0 : Nat), .int .u8 (b1 : Nat), .int .u8 (b2 : Nat), .int .u8 (b3 : Nat), .int .u8 (b4 : Nat), .int .u8 (b5 : Nat), v] 155 (0, 0)) := by
    have e := heap_alloc_new (w.alloc (.cells #[.int .i64 xk, .int .i64 xn, .int .i64 xm, .int .i64 xs, .int .u8 (a0 : Nat), .int .u8 (a1 : Nat), .int .u8 (a2 : Nat), .int .u8 (a3 : Nat), .int .u8 (a4 : Nat), .int .u8 (a5 : Nat), .int .u8 (a6 : Nat), .int .u8 (a7 : Nat), .int .u8 (a8 : Nat), .int .u8 (a9 : Nat), .int .u8 (b0 : Nat), .int .u8 (b1 : Nat), .int .u8 (b2 : Nat), .int .u8 (b3 : Nat), .int .u8 (b4 : Nat), .int .u8 (b5 : Nat), v] 155)).drew (.cells #[.int .i64 xk, .int .i64 xn, .int .i64 xm, .int .i64 xs, .int .u8 (a0 : Nat), .int .u8 (a1 : Nat), .int .u8 (a2 : Nat), .int .u8 (a3 : Nat), .int .u8 (a4 : Nat), .int .u8 (a5 : Nat), .int .u8 (a6 : Nat), .int .u8 (a7 : Nat), .int .u8 (a8 : Nat), .int .u8 (a9 : Nat), .int .u8 (b0 : Nat), .int .u8 (b1 : Nat), .int .u8 (b2 : Nat), .int .u8 (b3 : Nat), .int .u8 (b4 : Nat), .int .u8 (b5 : Nat), v] 155)
    rwa [show (w.alloc (.cells #[.int .i64 xk, .int .i64 xn, .int .i64 xm, .int .i64 xs, .int .u8 (a0 : Nat), .int .u8 (a1 : Nat), .int .u8 (a2 : Nat), .int .u8 (a3 : Nat), .int .u8 (a4 : Nat), .int .u8 (a5 : Nat), .int .u8 (a6 : Nat), .int .u8 (a7 : Nat), .int .u8 (a8 : Nat), .int .u8 (a9 : Nat), .int .u8 (b0 : Nat), .int .u8 (b1 : Nat), .int .u8 (b2 : Nat), .int .u8 (b3 : Nat), .int .u8 (b4 : Nat), .int .u8 (b5 : Nat), v] 155)).drew.heap.size = w.heap.size + 1 by simp] at e
  have HNEW := Lib.hid (World.news_of_block hb2)
  have HPP := Lib.hid (show ((w.alloc (.cells #[.int .i64 xk, .int .i64 xn, .int .i64 xm, .int .i64 xs, .int .u8 (a0 : Nat), .int .u8 (a1 : Nat), .int .u8 (a2 : Nat), .int .u8 (a3 : Nat), .int .u8 (a4 : Nat), .int .u8 (a5 : Nat), .int .u8 (a6 : Nat), .int .u8 (a7 : Nat), .int .u8 (a8 : Nat), .int .u8 (a9 : Nat), .int .u8 (b0 : Nat), .int .u8 (b1 : Nat), .int .u8 (b2 : Nat), .int .u8 (b3 : Nat), .int .u8 (b4 : Nat), .int .u8 (b5 : Nat), v] 155)).drew.alloc (.cells #[.int .i64 xk, .int .i64 xn, .int .i64 xm, .int .i64 xs, .int .u8 (a0 : Nat), .int .u8 (a1 : Nat), .int .u8 (a2 : Nat), .int .u8 (a3 : Nat), .int .u8 (a4 : Nat), .int .u8 (a5 : Nat), .int .u8 (a6 : Nat), .int .u8 (a7 : Nat), .int .u8 (a8 : Nat), .int .u8 (a9 : Nat), .int .u8 (b0 : Nat), .int .u8 (b1 : Nat), .int .u8 (b2 : Nat), .int .u8 (b3 : Nat), .int .u8 (b4 : Nat), .int .u8 (b5 : Nat), v] 155)).heap[p]? = some (.cells #[vl, vo] 212 (0, 0)) from (Below.heap_alloc _ _ _ (by simp; omega)).trans ((Below.heap_alloc w _ _ hp).trans HC.out.1))
  have HNE := Lib.hid (show some p ≠ vo.ownBlock by
    intro e
    have := HC.out.2.2.1.row.lt p e.symm
    omega)
  have HPL := Lib.hid (show p < ((w.alloc (.cells #[.int .i64 xk, .int .i64 xn, .int .i64 xm, .int .i64 xs, .int .u8 (a0 : Nat), .int .u8 (a1 : Nat), .int .u8 (a2 : Nat), .int .u8 (a3 : Nat), .int .u8 (a4 : Nat), .int .u8 (a5 : Nat), .int .u8 (a6 : Nat), .int .u8 (a7 : Nat), .int .u8 (a8 : Nat), .int .u8 (a9 : Nat), .int .u8 (b0 : Nat), .int .u8 (b1 : Nat), .int .u8 (b2 : Nat), .int .u8 (b3 : Nat), .int .u8 (b4 : Nat), .int .u8 (b5 : Nat), v] 155)).drew.alloc (.cells #[.int .i64 xk, .int .i64 xn, .int .i64 xm, .int .i64 xs, .int .u8 (a0 : Nat), .int .u8 (a1 : Nat), .int .u8 (a2 : Nat), .int .u8 (a3 : Nat), .int .u8 (a4 : Nat), .int .u8 (a5 : Nat), .int .u8 (a6 : Nat), .int .u8 (a7 : Nat), .int .u8 (a8 : Nat), .int .u8 (a9 : Nat), .int .u8 (b0 : Nat), .int .u8 (b1 : Nat), .int .u8 (b2 : Nat), .int .u8 (b3 : Nat), .int .u8 (b4 : Nat), .int .u8 (b5 : Nat), v] 155)).heap.size by simp; omega)
  clear hb2
  have HBY := Lib.hid (show (o.length + 1) * 72 ≤ 140737488355328 by have := HLEN.out; omega)
  have HBA := Lib.hid (show p + 1 ≤ ((w.alloc (.cells #[.int .i64 xk, .int .i64 xn, .int .i64 xm, .int .i64 xs, .int .u8 (a0 : Nat), .int .u8 (a1 : Nat), .int .u8 (a2 : Nat), .int .u8 (a3 : Nat), .int .u8 (a4 : Nat), .int .u8 (a5 : Nat), .int .u8 (a6 : Nat), .int .u8 (a7 : Nat), .int .u8 (a8 : Nat), .int .u8 (a9 : Nat), .int .u8 (b0 : Nat), .int .u8 (b1 : Nat), .int .u8 (b2 : Nat), .int .u8 (b3 : Nat), .int .u8 (b4 : Nat), .int .u8 (b5 : Nat), v] 155)).drew.alloc (.cells #[.int .i64 xk, .int .i64 xn, .int .i64 xm, .int .i64 xs, .int .u8 (a0 : Nat), .int .u8 (a1 : Nat), .int .u8 (a2 : Nat), .int .u8 (a3 : Nat), .int .u8 (a4 : Nat), .int .u8 (a5 : Nat), .int .u8 (a6 : Nat), .int .u8 (a7 : Nat), .int .u8 (a8 : Nat), .int .u8 (a9 : Nat), .int .u8 (b0 : Nat), .int .u8 (b1 : Nat), .int .u8 (b2 : Nat), .int .u8 (b3 : Nat), .int .u8 (b4 : Nat), .int .u8 (b5 : Nat), v] 155)).heap.size by simp; omega)
  have HSI := Lib.hid (show ((w.alloc (.cells #[.int .i64 xk, .int .i64 xn, .int .i64 xm, .int .i64 xs, .int .u8 (a0 : Nat), .int .u8 (a1 : Nat), .int .u8 (a2 : Nat), .int .u8 (a3 : Nat), .int .u8 (a4 : Nat), .int .u8 (a5 : Nat), .int .u8 (a6 : Nat), .int .u8 (a7 : Nat), .int .u8 (a8 : Nat), .int .u8 (a9 : Nat), .int .u8 (b0 : Nat), .int .u8 (b1 : Nat), .int .u8 (b2 : Nat), .int .u8 (b3 : Nat), .int .u8 (b4 : Nat), .int .u8 (b5 : Nat), v] 155)).drew.alloc (.cells #[.int .i64 xk, .int .i64 xn, .int .i64 xm, .int .i64 xs, .int .u8 (a0 : Nat), .int .u8 (a1 : Nat), .int .u8 (a2 : Nat), .int .u8 (a3 : Nat), .int .u8 (a4 : Nat), .int .u8 (a5 : Nat), .int .u8 (a6 : Nat), .int .u8 (a7 : Nat), .int .u8 (a8 : Nat), .int .u8 (a9 : Nat), .int .u8 (b0 : Nat), .int .u8 (b1 : Nat), .int .u8 (b2 : Nat), .int .u8 (b3 : Nat), .int .u8 (b4 : Nat), .int .u8 (b5 : Nat), v] 155)).heap.size = w.heap.size + 2 by simp)
  go_region_law (refine step_append_lies _ rfl (.tmp 9) (.tmp 11) 87 rfl (p + 1) 155 i0 _ 21 72 Tryz.underlying87 hi hz0 hz1 hz2 rfl (by decide) vo o.length (ndFlat o ofs) rfl (HROW.out.alloc _) ⟨w.heap.size + 1, 0, none⟩ 1 1 [.int .i64 xk, .int .i64 xn, .int .i64 xm, .int .i64 xs, .int .u8 (a0 : Nat), .int .u8 (a1 : Nat), .int .u8 (a2 : Nat), .int .u8 (a3 : Nat), .int .u8 (a4 : Nat), .int .u8 (a5 : Nat), .int .u8 (a6 : Nat), .int .u8 (a7 : Nat), .int .u8 (a8 : Nat), .int .u8 (a9 : Nat), .int .u8 (b0 : Nat), .int .u8 (b1 : Nat), .int .u8 (b2 : Nat), .int .u8 (b3 : Nat), .int .u8 (b4 : Nat), .int .u8 (b5 : Nat), v] rfl rfl HNEW.out HONE.out (by decide) HLEN.out.2 HBY.out HBA.out (w.heap.size + 2) HSI.out ?_; intro g cap w1 hown1 hgrow hat hlt; have hp1 := (hgrow.block p HPL.out HNE.out).trans HPP.out; obtain ⟨d0, d1, dz⟩ := two_cells hp1; have HP1 := Lib.hid hp1; have HO1 := Lib.hid hown1; have HG1 := Lib.hid hgrow; have HAT := Lib.hid hat; clear hp1 hown1 hgrow hat)
  all_goals
    have w1l : wrap64 ((o.length : Int) + 1 - 1) = o.length := by have := HLEN.out; unfold wrap64; omega
    have w2l : wrap64 (o.length : Int) = o.length := by have := HLEN.out; unfold wrap64; omega
    go_wp2_with fail
    rw [← hS]
    exact add_done HC.out.1 HC.out.2.1 HC.out.2.2.1 HC.out.2.2.2 HV.out (((Below.new _).drew).trans ((Below.new _).mono (by simp))) HO1.out HG1.out HAT.out HP1.out
end Go.Proofs.YtdeccekeknlnoaaGreatDoor

namespace Go.Proofs.YtdeccekeknlnoaaGreatDoor
open Go.RowKit
structure Pin (p : Nat) (w : World) (l : List Po.Tok) (o : List Po.Nd) (own : Option Nat) : Prop where
  at_ : PsAt p w l o own
  toks : Po.OkToks l
  nds : Po.OkAll o
  few : o.length + l.length ≤ 100000
def PSays (p : Nat) (w : World) (own : Option Nat) (r : Option (List Po.Tok × List Po.Nd)) (e : Ending) (w' : World) : Prop := match r with
  | some x => e = .returned (.int .i64 ((x.2.length - 1 : Nat) : Int)) ∧ ∃ own', Pin p w' x.1 x.2 own' ∧ NewOwn w own own' ∧ Fr p own w w'
  | none => Fails e ∧ Fr p own w w'
theorem PSays.after {p : Nat} {w w1 w' : World} {own own1 : Option Nat} {r : Option (List Po.Tok × List Po.Nd)} {e : Ending} (hF : Fr p own w w1) (hN : NewOwn w own own1) (h : PSays p w1 own1 r e w') : PSays p w own r e w' := by
  cases r with
  | none => exact ⟨h.1, hF.trans h.2 hN⟩
  | some x =>
    obtain ⟨h1, own', h2, h3, h4⟩ := h
    exact ⟨h1, own', h2, hN.trans h3 hF.size, hF.trans h4 hN⟩
theorem Pin.eat {p : Nat} {w w1 : World} {l l1 : List Po.Tok} {o : List Po.Nd} {own : Option Nat} (h : Pin p w l o own) (he : Eats p w l1 w1) (ht : Po.OkToks l1) (hl : l1.length ≤ l.length) : Pin p w1 l1 o own :=
  ⟨he.at_ h.at_, ht, h.nds, by have := h.few; omega⟩
theorem Pin.keep {p : Nat} {w w1 : World} {l : List Po.Tok} {o : List Po.Nd} {own : Option Nat} (h : Pin p w l o own) (hb : Below w.heap.size w w1) : Pin p w1 l o own := ⟨h.at_.keep hb, h.toks, h.nds, h.few⟩
theorem Pin.tail {p : Nat} {w w1 : World} {l : List Po.Tok} {o : List Po.Nd} {own : Option Nat} (h : Pin p w l o own) (he : Eats p w l.tail w1) : Pin p w1 l.tail o own := h.eat he h.toks.tail (by simp)
/-- a node with operands is added -/
theorem pa_add_op {p : Nat} {l : List Po.Tok} {o : List Po.Nd} {own : Option Nat} (k : Nat) (of : List Nat) (v : Value) (w : World) (h : PsAt p w l o own) (hv : OfIs w p own v of) (ho : o.length ≤ 100000) :
    Calls Tryz.prog 184 #[.pointer (some ⟨p, 0, none⟩), .agg #[.int .i64 k, .int .i64 0, .int .i64 0, .int .i64 0, .int .u8 0, .int .u8 0, .int .u8 0, .int .u8 0, .int .u8 0, .int .u8 0, .int .u8 0, .int .u8 0, .int .u8 0, .int .u8 0, .int .u8 0, .int .u8 0, .int .u8 0, .int .u8 0, .int .u8 0, .int .u8 0, v]] w (AddSays p w l o own ⟨k, 0, 0, 0, Po.zero16, of⟩) :=
  pa_add ⟨k, 0, 0, 0, Po.zero16, of⟩ v w h rfl hv ho
/-- what is added behind an operand -/
theorem PSays.added {p : Nat} {w w1 w2 : World} {l : List Po.Tok} {o : List Po.Nd} {own own1 : Option Nat} {x : Po.Nd} {e : Ending} (hF : Fr p own w w1) (hN : NewOwn w own own1) (h : AddSays p w1 l o own1 x e w2) (ht : Po.OkToks l) (ho : Po.OkAll o) (hx : Po.OkNd o.length x) (hf : o.length + 1 + l.length ≤ 100000) :
    PSays p w own (some (l, o ++ [x])) e w2 := by
  obtain ⟨h1, own', h2, h3, h4⟩ := h
  refine ⟨?_, own', ⟨h2, ht, ho.snoc hx, by simp; omega⟩, hN.trans h3 hF.size, hF.trans h4 hN⟩
  rw [h1]
  simp
theorem ofIs_one {p : Nat} {w : World} {own : Option Nat} {a : Nat} (hp : p < w.heap.size) (ho : ∀ k, own = some k → k < w.heap.size) : OfIs (w.alloc (.cells #[.int .i64 a] 3)) p own (.slice (some ⟨w.heap.size, 0, none⟩) 1 1) [a] := by
  refine .inr ⟨w.heap.size, 1, rfl, hp, by simp, fun e => ?_, by simp, by simp [maxLen], fun i x hx => ?_⟩
  · have := ho _ e.symm; omega
  · match i, hx with
    | 0, hx => simp at hx; subst hx; simp
theorem ofIs_two {p : Nat} {w : World} {own : Option Nat} {a b : Nat} (hp : p < w.heap.size) (ho : ∀ k, own = some k → k < w.heap.size) : OfIs (w.alloc (.cells #[.int .i64 a, .int .i64 b] 3)) p own (.slice (some ⟨w.heap.size, 0, none⟩) 2 2) [a, b] := by
  refine .inr ⟨w.heap.size, 2, rfl, hp, by simp, fun e => ?_, by simp, by simp [maxLen], fun i x hx => ?_⟩
  · have := ho _ e.symm; omega
  · match i, hx with
    | 0, hx => simp at hx; subst hx; simp
    | 1, hx => simp at hx; subst hx; simp
def NotC (f : Nat) : Prop := ∀ (p : Nat) (l : List Po.Tok) (o : List Po.Nd) (own : Option Nat) (w : World) (r : Option (List Po.Tok × List Po.Nd)), Po.P f 2 l o = some r → Pin p w l o own → Calls Tryz.prog 155 #[.pointer (some ⟨p, 0, none⟩)] w (PSays p w own r)
def PolC (f : Nat) : Prop := ∀ (p : Nat) (l : List Po.Tok) (o : List Po.Nd) (own : Option Nat) (w : World) (r : Option (List Po.Tok × List Po.Nd)), Po.P f 0 l o = some r → Pin p w l o own → Calls Tryz.prog 119 #[.pointer (some ⟨p, 0, none⟩)] w (PSays p w own r)
def AndC (f : Nat) : Prop := ∀ (p c : Nat) (l : List Po.Tok) (o : List Po.Nd) (own : Option Nat) (w : World) (r : Option (List Po.Tok × List Po.Nd)), Po.P f 1 l o = some r → Pin p w l o own → w.heap[c]? = some (.cells #[.pointer (some ⟨p, 0, none⟩)] 210 (0, 0)) → c ≠ p → some c ≠ own → Calls Tryz.prog 153 #[.pointer (some ⟨c, 0, none⟩)] w (PSays p w own r)
theorem isT_tail {l : List Po.Tok} {k : Nat} {t : List UInt8} (h : Po.isT l k t = true) : l.tail.length + 1 = l.length := Po.isT_len h
theorem must_ok1 {k : Nat} {t : List UInt8} {l r : List Po.Tok} {x : Po.Tok} (h : Po.must k t l = some (x, r)) (hl : Po.OkToks l) : Po.OkToks r ∧ r.length ≤ l.length := ⟨(Po.must_ok hl h).1, by have := Po.must_len h; omega⟩

set_option maxRecDepth 1000000 in
set_option maxHeartbeats 4000000 in
theorem not_step (f : Nat) (IN : NotC f) (IP : PolC f) : NotC (f + 1) := by
  intro p l o own w r hr hin
  have hp := hin.at_.lt
  have HI := Lib.hid hin
  obtain ⟨S, hS⟩ : ∃ S, PSays p w own r = S := ⟨_, rfl⟩
  rw [hS]
  have h33 : ¬ (2 = 0) := by decide
  cases hb : Po.isT l 3 [33] with
  | true =>
    have HB := Lib.hid hb
    rw [Po.P_bang hb] at hr
    clear hb h33
    cases hq : Po.P f 2 l.tail o with
    | none => rw [hq] at hr; cases hr
    | some q =>
      have HQ := Lib.hid hq
      rw [hq] at hr
      have HR1 := Lib.hid hr
      clear hq hr hin
      go_enter Tryz.func155, Tryz.ntmps155
      go_upto_region 2 with (go_at_call 183; refine (pa_accept_yes 3 ⟨#[33]⟩ _ HI.out.at_ HB.out).mono ?_; rintro e w1 ⟨rfl, he1⟩; have HE1 := Lib.hid he1; clear he1)
      go_wp2_with fail
      refine (IN p l.tail o own _ q HQ.out (HI.out.tail HE1.out)).mono ?_
      intro e w2 hn
      cases q with
      | none =>
        obtain ⟨hf, hfr⟩ := hn
        have HX := Lib.hid (show r = none from (Option.some.inj HR1.out).symm)
        unfold Fails at hf
        subst hf
        go_wp2_with fail
        rw [← hS, HX.out]
        exact ⟨rfl, rfl, HE1.out.fr.weaken.trans hfr (.refl _ _)⟩
      | some x =>
        obtain ⟨hf, own1, hin1, hnw1, hfr1⟩ := hn
        have HX := Lib.hid (show r = some (x.1, x.2 ++ [⟨8, 0, 0, 0, Po.zero16, [x.2.length - 1]⟩]) from (Option.some.inj HR1.out).symm)
        subst hf
        have HIN := Lib.hid hin1
        have HFR := Lib.hid (And.intro (hnw1.more HE1.out.fr.size) (HE1.out.fr.weaken.trans hfr1 (.refl _ _)))
        have HOK := Lib.hid (And.intro ((Po.P_ok f 2 l.tail o x.1 x.2 HI.out.toks.tail HI.out.nds HQ.out).2.2.2 (by decide) (by decide)) (Po.P_nodes f 2 l.tail o x.1 x.2 HQ.out))
        have HTL := Lib.hid (isT_tail HB.out)
        clear hin1 hnw1 hfr1
        go_wp2_with fail
        have hlt1 := HIN.out.at_.lt
        have hgt1 := HIN.out.at_.own_gt
        refine (pa_add_op 8 [x.2.length - 1] _ _ (HIN.out.keep (Below.new _)).at_ (ofIs_one hlt1 (fun k hk => (hgt1 k hk).2)) (by have := HIN.out.few; omega)).mono ?_
        intro e w3 ha
        have HA := Lib.hid ha
        have he := ha.1
        subst he
        clear ha hlt1 hgt1
        go_wp2_with fail
        try go_ret
        rw [← hS, HX.out]
        refine PSays.added (HFR.out.2.trans (.of_below (Below.new _)) (.refl _ _)) HFR.out.1 HA.out HIN.out.toks HIN.out.nds (Po.ok_not (by have := HOK.out; omega)) ?_
        have := HOK.out.2; have := HI.out.few; have := HTL.out
        omega
  | false =>
    have HB := Lib.hid hb
    cases hc : Po.isT l 3 [40] with
    | true =>
      have HC := Lib.hid hc
      rw [Po.P_paren hb hc] at hr
      clear hb hc h33
      cases hq : Po.P f 0 l.tail o with
      | none => rw [hq] at hr; cases hr
      | some q =>
        have HQ := Lib.hid hq
        rw [hq] at hr
        have HR1 := Lib.hid hr
        clear hq hr hin
        go_enter Tryz.func155, Tryz.ntmps155
        go_upto_region 4 with (go_at_call 183; refine (pa_accept_no 3 ⟨#[33]⟩ _ HI.out.at_ HB.out).mono ?_; rintro e w1 ⟨rfl, he1⟩; have HE1 := Lib.hid he1; clear he1)
        go_upto_region 5 with (go_at_call 183; refine (pa_accept_yes 3 ⟨#[40]⟩ _ (HE1.out.at_ HI.out.at_) HC.out).mono ?_; rintro e w2 ⟨rfl, he2⟩; have HE2 := Lib.hid (HE1.out.trans he2); clear he2)
        go_wp2_with fail
        refine (IP p l.tail o own _ q HQ.out (HI.out.tail HE2.out)).mono ?_
        intro e w3 hn
        cases q with
        | none =>
          obtain ⟨hf, hfr⟩ := hn
          have HX := Lib.hid (show r = none from (Option.some.inj HR1.out).symm)
          unfold Fails at hf
          subst hf
          go_wp2_with fail
          rw [← hS, HX.out]
          exact ⟨rfl, rfl, HE2.out.fr.weaken.trans hfr (.refl _ _)⟩
        | some x =>
          obtain ⟨hf, own1, hin1, hnw1, hfr1⟩ := hn
          subst hf
          have HIN := Lib.hid hin1
          have HFR := Lib.hid (And.intro (hnw1.more HE2.out.fr.size) (HE2.out.fr.weaken.trans hfr1 (.refl _ _)))
          have hR2 : r = (Po.must 3 [41] x.1).map fun y => (y.2, x.2) := (Option.some.inj HR1.out).symm
          clear hin1 hnw1 hfr1
          cases hm : Po.must 3 [41] x.1 with
          | none =>
            have HM := Lib.hid hm
            have HX := Lib.hid (show r = none by rw [hR2, hm]; rfl)
            clear hm hR2
            go_wp2_with (go_at_call 185; refine (pa_must_no 3 ⟨#[41]⟩ _ HIN.out.at_ HM.out).mono ?_; rintro e w9 ⟨hf, hfr⟩; unfold Fails at hf; subst hf)
            rw [← hS, HX.out]
            exact ⟨rfl, rfl, HFR.out.2.trans hfr.weaken HFR.out.1⟩
          | some y =>
            obtain ⟨y, r2⟩ := y
            have HM := Lib.hid hm
            have HX := Lib.hid (show r = some (r2, x.2) by rw [hR2, hm]; rfl)
            clear hm hR2
            go_wp2_with (go_at_call 185; refine (pa_must_ok 3 ⟨#[41]⟩ _ HIN.out.at_ HM.out).mono ?_; rintro e w4 ⟨⟨a4, rfl⟩, he4⟩; have HE4 := Lib.hid he4; clear he4)
            try go_ret
            rw [← hS, HX.out]
            have hm1 := must_ok1 HM.out HIN.out.toks
            exact ⟨rfl, own1, HIN.out.eat HE4.out hm1.1 hm1.2, HFR.out.1, HFR.out.2.trans HE4.out.fr.weaken HFR.out.1⟩
    | false =>
      have HC := Lib.hid hc
      rw [Po.P_atom hb hc] at hr
      have hR2 : r = (Po.atom l).map fun x => (x.2, o ++ [x.1]) := (Option.some.inj hr).symm
      clear hb hc h33 hr hin
      go_enter Tryz.func155, Tryz.ntmps155
      go_upto_region 4 with (go_at_call 183; refine (pa_accept_no 3 ⟨#[33]⟩ _ HI.out.at_ HB.out).mono ?_; rintro e w1 ⟨rfl, he1⟩; have HE1 := Lib.hid he1; clear he1)
      go_upto_region 8 with (go_at_call 183; refine (pa_accept_no 3 ⟨#[40]⟩ _ (HE1.out.at_ HI.out.at_) HC.out).mono ?_; rintro e w2 ⟨rfl, he2⟩; have HE2 := Lib.hid (HE1.out.trans he2); clear he2)
      go_wp2_with fail
      refine (pa_atom _ (HE2.out.at_ HI.out.at_)).mono ?_
      intro e w3 hn
      unfold NodeSays at hn
      cases ha : Po.atom l with
      | none =>
        rw [ha] at hn
        obtain ⟨hf, hfr⟩ := hn
        have HX := Lib.hid (show r = none by rw [hR2, ha]; rfl)
        clear ha hR2
        unfold Fails at hf
        subst hf
        go_wp2_with fail
        rw [← hS, HX.out]
        exact ⟨rfl, rfl, HE2.out.fr.weaken.trans hfr.weaken (.refl _ _)⟩
      | some x =>
        obtain ⟨x, r2⟩ := x
        rw [ha] at hn
        obtain ⟨hf, he3⟩ := hn
        have HX := Lib.hid (show r = some (r2, o ++ [x]) by rw [hR2, ha]; rfl)
        have hok := Po.atom_ok (i := o.length) HI.out.toks ha
        have hlen := Po.atom_len ha
        have HOK := Lib.hid (And.intro hok hlen)
        have HE3 := Lib.hid (HE2.out.trans he3)
        have hof := Po.atom_of ha
        clear ha hR2 he3 hok hlen
        simp only at hf
        subst hf
        go_wp2_with fail
        refine (pa_add x _ _ (HE3.out.at_ HI.out.at_) HOK.out.1.2.dg (.inl ⟨hof, rfl⟩) (by have := HI.out.few; omega)).mono ?_
        intro e w4 hd
        have HA := Lib.hid hd
        have he := hd.1
        subst he
        clear hd
        go_wp2_with fail
        try go_ret
        rw [← hS, HX.out]
        refine PSays.added HE3.out.fr.weaken (.refl _ _) HA.out HOK.out.1.1 HI.out.nds HOK.out.1.2 ?_
        have := HI.out.few; have := HOK.out.2
        omega
end Go.Proofs.YtdeccekeknlnoaaGreatDoor

namespace Go.Proofs.YtdeccekeknlnoaaGreatDoor
open Go.RowKit
theorem cap_keep {p c : Nat} {own own' : Option Nat} {w wr : World} {ob : Obj} (h : w.heap[c]? = some ob) (hp : c ≠ p) (ho : some c ≠ own) (hF : Fr p own w wr) (hN : NewOwn w own own') : wr.heap[c]? = some ob ∧ some c ≠ own' := by
  have hc := lt_of_block h
  refine ⟨(hF.block c hc hp ho).trans h, ?_⟩
  rcases hN with e | ⟨b, e, hb⟩
  · rw [e]; exact ho
  · rw [e]; intro e2; simp only [Option.some.injEq] at e2; omega

set_option maxRecDepth 1000000 in
set_option maxHeartbeats 4000000 in
theorem chain_and (f : Nat) (IH : ∀ g, g ≤ f → NotC g) (p : Nat) (l : List Po.Tok) (o : List Po.Nd) (own : Option Nat) (w : World) (r : Option (List Po.Tok × List Po.Nd)) (hr : Po.P (f + 1) 1 l o = some r) (hin : Pin p w l o own) :
    Calls Tryz.prog 154 #[.pointer (some ⟨p, 0, none⟩), .string ⟨#[38, 38]⟩, .int .i64 9, .func (.func 155) #[.pointer (some ⟨p, 0, none⟩)] #[]] w (PSays p w own r) := by
  have HI := Lib.hid hin
  obtain ⟨S, hS⟩ : ∃ S, PSays p w own r = S := ⟨_, rfl⟩
  rw [hS]
  rw [Po.P_and] at hr
  cases hq : Po.P f 2 l o with
  | none => rw [hq] at hr; cases hr
  | some q =>
    have HQ := Lib.hid hq
    rw [hq] at hr
    have HR1 := Lib.hid hr
    clear hq hr hin
    go_enter Tryz.func154, Tryz.ntmps154
    go_wp2_with fail
    refine (IH f (Nat.le_refl _) p l o own _ q HQ.out HI.out).mono ?_
    intro e w1 hn
    cases q with
    | none =>
      obtain ⟨hf, hfr⟩ := hn
      have HX := Lib.hid (show r = none from (Option.some.inj HR1.out).symm)
      unfold Fails at hf
      subst hf
      go_wp2_with fail
      rw [← hS, HX.out]
      exact ⟨rfl, rfl, hfr⟩
    | some x =>
      obtain ⟨hf, own1, hin1, hnw1, hfr1⟩ := hn
      subst hf
      have HX := Lib.hid (show Po.P f 4 x.1 x.2 = some r from HR1.out)
      have HOK := Lib.hid ((Po.P_ok f 2 l o x.1 x.2 HI.out.toks HI.out.nds HQ.out).2.2.2 (by decide) (by decide))
      have HIN := Lib.hid hin1
      have HFR := Lib.hid (And.intro hnw1 hfr1)
      clear hin1 hnw1 hfr1 HR1 HQ
      go_wp2_with fail
      go_loopg [9] f (fun g s9 wr => ∃ (l1 : List Po.Tok) (o1 : List Po.Nd) (own1 : Option Nat), s9 = .int .i64 ((o1.length - 1 : Nat) : Int) ∧ Aside (Po.P g 4 l1 o1 = some r ∧ g ≤ f ∧ 0 < o1.length) ∧ Hid (Pin p wr l1 o1 own1) ∧ Hid (NewOwn w own own1 ∧ Fr p own w wr))
      case atStart => exact ⟨x.1, x.2, own1, rfl, ⟨HX.out, Nat.le_refl _, Nat.lt_of_le_of_lt (Nat.zero_le _) HOK.out⟩, HIN, HFR⟩
      case round =>
        clear HX HOK HIN HFR
        obtain ⟨l1, o1, own1, rfl, HA, HIN, HFR⟩ := hrel
        cases gk with
        | zero => have := HA.out.1; simp [Po.P] at this
        | succ g =>
          have HG := Lib.hid HA.out.2.1
          cases hi : Po.isT l1 3 [38, 38] with
          | false =>
            have HB := Lib.hid hi
            have HX := Lib.hid (show r = some (l1, o1) by
              have h := HA.out.1
              rw [Po.P_stop4 hi] at h
              exact (Option.some.inj h).symm)
            clear hi
            go_wp2_with (go_at_call 183; refine (pa_accept_no 3 ⟨#[38, 38]⟩ _ HIN.out.at_ HB.out).mono ?_; rintro e w2 ⟨rfl, he1⟩; have HE1 := Lib.hid he1; clear he1)
            try go_ret
            rw [← hS, HX.out]
            exact ⟨rfl, own1, HIN.out.eat HE1.out HIN.out.toks (Nat.le_refl _), HFR.out.1, HFR.out.2.trans HE1.out.fr.weaken HFR.out.1⟩
          | true =>
            have HB := Lib.hid hi
            have hr := HA.out.1
            rw [Po.P_more4 hi] at hr
            clear hi
            go_upto_region 3 with (go_at_call 183; refine (pa_accept_yes 3 ⟨#[38, 38]⟩ _ HIN.out.at_ HB.out).mono ?_; rintro e w2 ⟨rfl, he1⟩; have HE1 := Lib.hid he1; clear he1)
            cases hq : Po.P g 2 l1.tail o1 with
            | none => rw [hq] at hr; cases hr
            | some q =>
              have HQ := Lib.hid hq
              rw [hq] at hr
              have HR1 := Lib.hid hr
              clear hq hr
              go_wp2_with fail
              refine (IH g (by have := HG.out; omega) p l1.tail o1 own1 _ q HQ.out (HIN.out.tail HE1.out)).mono ?_
              intro e w3 hn
              cases q with
              | none =>
                obtain ⟨hf, hfr⟩ := hn
                have HX := Lib.hid (show r = none from (Option.some.inj HR1.out).symm)
                unfold Fails at hf
                subst hf
                go_wp2_with fail
                rw [← hS, HX.out]
                exact ⟨rfl, rfl, (HFR.out.2.trans HE1.out.fr.weaken HFR.out.1).trans hfr HFR.out.1⟩
              | some y =>
                obtain ⟨hf, own2, hin2, hnw2, hfr2⟩ := hn
                subst hf
                have HX := Lib.hid (show Po.P g 4 y.1 (y.2 ++ [⟨9, 0, 0, 0, Po.zero16, [o1.length - 1, y.2.length - 1]⟩]) = some r from HR1.out)
                have hFR2 := (HFR.out.2.trans HE1.out.fr.weaken HFR.out.1).trans hfr2 HFR.out.1
                have hNW2 := HFR.out.1.trans (hnw2.more HE1.out.fr.size) HFR.out.2.size
                have hOK := (Po.P_ok g 2 l1.tail o1 y.1 y.2 HIN.out.toks.tail HIN.out.nds HQ.out).2.2.2 (by decide) (by decide)
                have hNO := Po.P_nodes g 2 l1.tail o1 y.1 y.2 HQ.out
                have hTL := isT_tail HB.out
                have hFW := HIN.out.few
                have H0L := HA.out.2.2
                have HNUM := Lib.hid (And.intro hOK (And.intro hNO (And.intro hTL (And.intro hFW H0L))))
                have HIN2 := Lib.hid hin2
                have HFR2 := Lib.hid (And.intro hNW2 hFR2)
                clear hin2 hnw2 hfr2 hFR2 hNW2 hOK hNO hTL hFW H0L HR1 HQ
                go_wp2_with fail
                have hlt2 := HIN2.out.at_.lt
                have hgt2 := HIN2.out.at_.own_gt
                refine (pa_add_op 9 [o1.length - 1, y.2.length - 1] _ _ (HIN2.out.keep (Below.new _)).at_ (ofIs_two hlt2 (fun k hk => (hgt2 k hk).2)) (by have := HIN2.out.few; omega)).mono ?_
                intro e w4 ha
                have hsay := PSays.added (HFR2.out.2.trans (.of_below (Below.new _)) (.refl _ _)) HFR2.out.1 ha HIN2.out.toks HIN2.out.nds (Po.ok_bin (.inl rfl) (by have := HNUM.out; omega) (by have := HNUM.out; omega)) (by have := HNUM.out; omega)
                obtain ⟨-, own3, hin3, hnw3, hfr3⟩ := hsay
                have he := ha.1
                subst he
                have HIN3 := Lib.hid hin3
                have HFR3 := Lib.hid (And.intro hnw3 hfr3)
                clear ha hin3 hnw3 hfr3 hlt2 hgt2
                go_wp2_with fail
                go_roundg g
                case measure => omega
                case rel => exact ⟨y.1, y.2 ++ [⟨9, 0, 0, 0, Po.zero16, [o1.length - 1, y.2.length - 1]⟩], own3, by simp, ⟨HX.out, by have := HG.out; omega, by simp⟩, HIN3, HFR3⟩

set_option maxRecDepth 1000000 in
set_option maxHeartbeats 4000000 in
theorem chain_or (f : Nat) (IH : ∀ g, g ≤ f → AndC g) (p : Nat) (l : List Po.Tok) (o : List Po.Nd) (own : Option Nat) (w : World) (r : Option (List Po.Tok × List Po.Nd)) (c : Nat) (hc : w.heap[c]? = some (.cells #[.pointer (some ⟨p, 0, none⟩)] 210 (0, 0))) (hcp : c ≠ p) (hco : some c ≠ own) (hr : Po.P (f + 1) 0 l o = some r) (hin : Pin p w l o own) :
    Calls Tryz.prog 154 #[.pointer (some ⟨p, 0, none⟩), .string ⟨#[124, 124]⟩, .int .i64 10, .func (.func 153) #[] #[.pointer (some ⟨c, 0, none⟩)]] w (PSays p w own r) := by
  have HI := Lib.hid hin
  have HCC := Lib.hid (And.intro hc (And.intro hcp hco))
  clear hc hcp hco
  obtain ⟨S, hS⟩ : ∃ S, PSays p w own r = S := ⟨_, rfl⟩
  rw [hS]
  rw [Po.P_or] at hr
  cases hq : Po.P f 1 l o with
  | none => rw [hq] at hr; cases hr
  | some q =>
    have HQ := Lib.hid hq
    rw [hq] at hr
    have HR1 := Lib.hid hr
    clear hq hr hin
    go_enter Tryz.func154, Tryz.ntmps154
    go_wp2_with fail
    refine (IH f (Nat.le_refl _) p c l o own _ q HQ.out HI.out HCC.out.1 HCC.out.2.1 HCC.out.2.2).mono ?_
    intro e w1 hn
    cases q with
    | none =>
      obtain ⟨hf, hfr⟩ := hn
      have HX := Lib.hid (show r = none from (Option.some.inj HR1.out).symm)
      unfold Fails at hf
      subst hf
      go_wp2_with fail
      rw [← hS, HX.out]
      exact ⟨rfl, rfl, hfr⟩
    | some x =>
      obtain ⟨hf, own1, hin1, hnw1, hfr1⟩ := hn
      subst hf
      have HX := Lib.hid (show Po.P f 3 x.1 x.2 = some r from HR1.out)
      have HOK := Lib.hid ((Po.P_ok f 1 l o x.1 x.2 HI.out.toks HI.out.nds HQ.out).2.2.2 (by decide) (by decide))
      have HIN := Lib.hid hin1
      have HFR := Lib.hid (And.intro hnw1 hfr1)
      clear hin1 hnw1 hfr1 HR1 HQ
      go_wp2_with fail
      go_loopg [9] f (fun g s9 wr => ∃ (l1 : List Po.Tok) (o1 : List Po.Nd) (own1 : Option Nat), s9 = .int .i64 ((o1.length - 1 : Nat) : Int) ∧ Aside (Po.P g 3 l1 o1 = some r ∧ g ≤ f ∧ 0 < o1.length) ∧ Hid (Pin p wr l1 o1 own1) ∧ Hid (NewOwn w own own1 ∧ Fr p own w wr))
      case atStart => exact ⟨x.1, x.2, own1, rfl, ⟨HX.out, Nat.le_refl _, Nat.lt_of_le_of_lt (Nat.zero_le _) HOK.out⟩, HIN, HFR⟩
      case round =>
        clear HX HOK HIN HFR
        obtain ⟨l1, o1, own1, rfl, HA, HIN, HFR⟩ := hrel
        cases gk with
        | zero => have := HA.out.1; simp [Po.P] at this
        | succ g =>
          have HG := Lib.hid HA.out.2.1
          cases hi : Po.isT l1 3 [124, 124] with
          | false =>
            have HB := Lib.hid hi
            have HX := Lib.hid (show r = some (l1, o1) by
              have h := HA.out.1
              rw [Po.P_stop3 hi] at h
              exact (Option.some.inj h).symm)
            clear hi
            go_wp2_with (go_at_call 183; refine (pa_accept_no 3 ⟨#[124, 124]⟩ _ HIN.out.at_ HB.out).mono ?_; rintro e w2 ⟨rfl, he1⟩; have HE1 := Lib.hid he1; clear he1)
            try go_ret
            rw [← hS, HX.out]
            exact ⟨rfl, own1, HIN.out.eat HE1.out HIN.out.toks (Nat.le_refl _), HFR.out.1, HFR.out.2.trans HE1.out.fr.weaken HFR.out.1⟩
          | true =>
            have HB := Lib.hid hi
            have hr := HA.out.1
            rw [Po.P_more3 hi] at hr
            clear hi
            go_upto_region 3 with (go_at_call 183; refine (pa_accept_yes 3 ⟨#[124, 124]⟩ _ HIN.out.at_ HB.out).mono ?_; rintro e w2 ⟨rfl, he1⟩; have HE1 := Lib.hid he1; clear he1)
            cases hq : Po.P g 1 l1.tail o1 with
            | none => rw [hq] at hr; cases hr
            | some q =>
              have HQ := Lib.hid hq
              rw [hq] at hr
              have HR1 := Lib.hid hr
              clear hq hr
              go_wp2_with fail
              refine (IH g (by have := HG.out; omega) p c l1.tail o1 own1 _ q HQ.out (HIN.out.tail HE1.out) (cap_keep HCC.out.1 HCC.out.2.1 HCC.out.2.2 (HFR.out.2.trans HE1.out.fr.weaken HFR.out.1) HFR.out.1).1 HCC.out.2.1 (cap_keep HCC.out.1 HCC.out.2.1 HCC.out.2.2 (HFR.out.2.trans HE1.out.fr.weaken HFR.out.1) HFR.out.1).2).mono ?_
              intro e w3 hn
              cases q with
              | none =>
                obtain ⟨hf, hfr⟩ := hn
                have HX := Lib.hid (show r = none from (Option.some.inj HR1.out).symm)
                unfold Fails at hf
                subst hf
                go_wp2_with fail
                rw [← hS, HX.out]
                exact ⟨rfl, rfl, (HFR.out.2.trans HE1.out.fr.weaken HFR.out.1).trans hfr HFR.out.1⟩
              | some y =>
                obtain ⟨hf, own2, hin2, hnw2, hfr2⟩ := hn
                subst hf
                have HX := Lib.hid (show Po.P g 3 y.1 (y.2 ++ [⟨10, 0, 0, 0, Po.zero16, [o1.length - 1, y.2.length - 1]⟩]) = some r from HR1.out)
                have hFR2 := (HFR.out.2.trans HE1.out.fr.weaken HFR.out.1).trans hfr2 HFR.out.1
                have hNW2 := HFR.out.1.trans (hnw2.more HE1.out.fr.size) HFR.out.2.size
                have hOK := (Po.P_ok g 1 l1.tail o1 y.1 y.2 HIN.out.toks.tail HIN.out.nds HQ.out).2.2.2 (by decide) (by decide)
                have hNO := Po.P_nodes g 1 l1.tail o1 y.1 y.2 HQ.out
                have hTL := isT_tail HB.out
                have hFW := HIN.out.few
                have H0L := HA.out.2.2
                have HNUM := Lib.hid (And.intro hOK (And.intro hNO (And.intro hTL (And.intro hFW H0L))))
                have HIN2 := Lib.hid hin2
                have HFR2 := Lib.hid (And.intro hNW2 hFR2)
                clear hin2 hnw2 hfr2 hFR2 hNW2 hOK hNO hTL hFW H0L HR1 HQ
                go_wp2_with fail
                have hlt2 := HIN2.out.at_.lt
                have hgt2 := HIN2.out.at_.own_gt
                refine (pa_add_op 10 [o1.length - 1, y.2.length - 1] _ _ (HIN2.out.keep (Below.new _)).at_ (ofIs_two hlt2 (fun k hk => (hgt2 k hk).2)) (by have := HIN2.out.few; omega)).mono ?_
                intro e w4 ha
                have hsay := PSays.added (HFR2.out.2.trans (.of_below (Below.new _)) (.refl _ _)) HFR2.out.1 ha HIN2.out.toks HIN2.out.nds (Po.ok_bin (.inr rfl) (by have := HNUM.out; omega) (by have := HNUM.out; omega)) (by have := HNUM.out; omega)
                obtain ⟨-, own3, hin3, hnw3, hfr3⟩ := hsay
                have he := ha.1
                subst he
                have HIN3 := Lib.hid hin3
                have HFR3 := Lib.hid (And.intro hnw3 hfr3)
                clear ha hin3 hnw3 hfr3 hlt2 hgt2
                go_wp2_with fail
                go_roundg g
                case measure => omega
                case rel => exact ⟨y.1, y.2 ++ [⟨10, 0, 0, 0, Po.zero16, [o1.length - 1, y.2.length - 1]⟩], own3, by simp, ⟨HX.out, by have := HG.out; omega, by simp⟩, HIN3, HFR3⟩

set_option maxRecDepth 1000000 in
theorem and_step (f : Nat) (IH : ∀ g, g ≤ f → NotC g) : AndC (f + 1) := by
  intro p c l o own w r hr hin hc hcp hco
  have hcell : w.cell? ⟨c, 0, none⟩ = some (.pointer (some ⟨p, 0, none⟩)) := by simp [World.cell?, hc]
  have HI := Lib.hid (And.intro hr hin)
  have hmf : ∀ (fn : Fn) (first cap : Array Value) (w : World), (Instr.makeFunc fn first cap).run Tryz.prog w = .ok (.func fn first cap) w := fun _ _ _ _ => rfl
  obtain ⟨S, hS⟩ : ∃ S, PSays p w own r = S := ⟨_, rfl⟩
  rw [hS]
  clear hr hin hc hcp hco
  go_enter Tryz.func153, Tryz.ntmps153
  go_wp2_with fail
  refine (chain_and f IH p l o own w r HI.out.1 HI.out.2).mono ?_
  intro e w1 hn
  rw [hS] at hn
  have HN := Lib.hid hn
  clear hn
  cases r with
  | none =>
    have h := HN.out
    rw [← hS] at h
    have hf := h.1
    unfold Fails at hf
    subst hf
    clear h
    go_wp2_with fail
    exact ⟨rfl, HN.out⟩
  | some x =>
    have h := HN.out
    rw [← hS] at h
    have hf := h.1
    subst hf
    clear h
    go_wp2_with fail
    try go_ret
    exact HN.out

set_option maxRecDepth 1000000 in
theorem pol_step (f : Nat) (IH : ∀ g, g ≤ f → AndC g) : PolC (f + 1) := by
  intro p l o own w r hr hin
  have hp := hin.at_.lt
  have hgt := hin.at_.own_gt
  have HI := Lib.hid (And.intro hr hin)
  have hmf : ∀ (fn : Fn) (first cap : Array Value) (w : World), (Instr.makeFunc fn first cap).run Tryz.prog w = .ok (.func fn first cap) w := fun _ _ _ _ => rfl
  obtain ⟨S, hS⟩ : ∃ S, PSays p w own r = S := ⟨_, rfl⟩
  rw [hS]
  have HP := Lib.hid (And.intro hp hgt)
  clear hr hin hp hgt
  go_enter Tryz.func119, Tryz.ntmps119
  go_wp2_with fail
  refine (chain_or f IH p l o own _ r w.heap.size (heap_alloc_new _ _) (by have := HP.out.1; omega) (fun e => by have := HP.out.2 _ e.symm; omega) HI.out.1 (HI.out.2.keep (Below.new _))).mono ?_
  intro e w1 hn
  have hn := PSays.after (.of_below (Below.new _)) (.refl _ _) hn
  rw [hS] at hn
  have HN := Lib.hid hn
  clear hn
  cases r with
  | none =>
    have h := HN.out
    rw [← hS] at h
    have hf := h.1
    unfold Fails at hf
    subst hf
    clear h
    go_wp2_with fail
    exact ⟨rfl, HN.out⟩
  | some x =>
    have h := HN.out
    rw [← hS] at h
    have hf := h.1
    subst hf
    clear h
    go_wp2_with fail
    try go_ret
    exact HN.out
theorem rec_all : ∀ f, (∀ g, g ≤ f → NotC g) ∧ (∀ g, g ≤ f → AndC g) ∧ (∀ g, g ≤ f → PolC g)
  | 0 => by
    have z : ∀ lv l o r, Po.P 0 lv l o = some r → False := fun lv l o r h => by simp [Po.P] at h
    refine ⟨fun g hg p l o own w r hr => ?_, fun g hg p c l o own w r hr => ?_, fun g hg p l o own w r hr => ?_⟩ <;>
      (have : g = 0 := by omega
       subst this
       exact absurd (z _ _ _ _ hr) id)
  | f + 1 => by
    obtain ⟨hN, hA, hP⟩ := rec_all f
    refine ⟨fun g hg => ?_, fun g hg => ?_, fun g hg => ?_⟩
    · by_cases h : g ≤ f
      · exact hN g h
      · have : g = f + 1 := by omega
        subst this
        exact not_step f (hN f (Nat.le_refl _)) (hP f (Nat.le_refl _))
    · by_cases h : g ≤ f
      · exact hA g h
      · have : g = f + 1 := by omega
        subst this
        exact and_step f hN
    · by_cases h : g ≤ f
      · exact hP g h
      · have : g = f + 1 := by omega
        subst this
        exact pol_step f hA
/-- the parser, from its start -/
theorem pa_policy {p : Nat} {l : List Po.Tok} {o : List Po.Nd} {own : Option Nat} {w : World} {r : Option (List Po.Tok × List Po.Nd)} (f : Nat) (hr : Po.P f 0 l o = some r) (hin : Pin p w l o own) :
    Calls Tryz.prog 119 #[.pointer (some ⟨p, 0, none⟩)] w (PSays p w own r) := (rec_all f).2.2 f (Nat.le_refl _) p l o own w r hr hin
end Go.Proofs.YtdeccekeknlnoaaGreatDoor
