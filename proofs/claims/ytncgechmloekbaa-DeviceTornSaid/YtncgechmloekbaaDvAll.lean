/- Device: All of both packages, their results, their readers. -/
import Derived.Test.YtncgechmloekbaaDvT
import Derived.Laws.OwnMore
import Derived.LoopTactic
import Derived.Maps.AppendAt
import Derived.Deep.RegionHeld3
import Derived.Deep.DeepCutAuto
import Derived.Test.YtncgechmloekbaaDvOpen
namespace Go.Proofs.Ytncgechmloekbaa
open Go.RowKit

namespace Dv
structure Acc where
  k : Int
  b : Int
  c : Int
  s : ByteArray
structure Flt where
  cut : Bool
  nb : Int
  noise : Bool
/-- what All has found: the device, the results, the error -/
structure Ran where
  f : List (List Nat)
  m : List ByteArray
  out : List (Int × ByteArray)
  e : Int
def nthA (l : List Acc) (i : Nat) : Acc := l.getD i ⟨0, 0, 0, ⟨#[]⟩⟩
def nthT (l : List Flt) (i : Nat) : Flt := l.getD i ⟨false, 0, false⟩
def E (f : List (List Nat)) (m : List ByteArray) (a : Acc) : Int := doE f m a.k a.b a.c a.s
def F (f : List (List Nat)) (m : List ByteArray) (a : Acc) (x : Flt) : List (List Nat) := doF f m a.k a.b a.c a.s x.cut
def M (f : List (List Nat)) (m : List ByteArray) (a : Acc) (x : Flt) : List ByteArray := doM f m a.k a.b a.c a.s x.cut x.nb
def V (f : List (List Nat)) (m : List ByteArray) (a : Acc) (x : Flt) : Int := doV f m a.k a.b a.c a.s x.cut x.noise
def B (f : List (List Nat)) (m : List ByteArray) (a : Acc) (x : Flt) : ByteArray := doB f m a.k a.b a.c a.s x.cut
def runFrom (l : List Acc) (fs : List Flt) : Nat → Nat → List (List Nat) → List ByteArray → List (Int × ByteArray) → Ran
  | 0, _, f, m, out => ⟨f, m, out, 0⟩
  | n + 1, k, f, m, out =>
    if E f m (nthA l k) = 0 then
      if (nthT fs k).cut then ⟨F f m (nthA l k) (nthT fs k), M f m (nthA l k) (nthT fs k), out, 0⟩
      else runFrom l fs n (k + 1) (F f m (nthA l k) (nthT fs k)) (M f m (nthA l k) (nthT fs k)) (out ++ [(V f m (nthA l k) (nthT fs k), B f m (nthA l k) (nthT fs k))])
    else ⟨f, m, out, E f m (nthA l k)⟩
def runAll (l : List Acc) (fs : List Flt) (f : List (List Nat)) (m : List ByteArray) : Ran := runFrom l fs l.length 0 f m []
section
variable {l : List Acc} {fs : List Flt} {f : List (List Nat)} {m : List ByteArray} {out : List (Int × ByteArray)} {k : Nat} {R : Ran}
theorem run_end (h : runFrom l fs (l.length - k) k f m out = R) (hk : ¬ k < l.length) : R = ⟨f, m, out, 0⟩ := by
  rw [show l.length - k = 0 by omega] at h
  exact h.symm
theorem run_err (h : runFrom l fs (l.length - k) k f m out = R) (hk : k < l.length) (he : E f m (nthA l k) ≠ 0) : R = ⟨f, m, out, E f m (nthA l k)⟩ := by
  obtain ⟨n, hn⟩ : ∃ n, l.length - k = n + 1 := ⟨l.length - k - 1, by omega⟩
  rw [hn, runFrom, if_neg he] at h
  exact h.symm
theorem run_cut (h : runFrom l fs (l.length - k) k f m out = R) (hk : k < l.length) (he : E f m (nthA l k) = 0) (hc : (nthT fs k).cut = true) : R = ⟨F f m (nthA l k) (nthT fs k), M f m (nthA l k) (nthT fs k), out, 0⟩ := by
  obtain ⟨n, hn⟩ : ∃ n, l.length - k = n + 1 := ⟨l.length - k - 1, by omega⟩
  rw [hn, runFrom, if_pos he, if_pos hc] at h
  exact h.symm
theorem run_on (h : runFrom l fs (l.length - k) k f m out = R) (hk : k < l.length) (he : E f m (nthA l k) = 0) (hc : (nthT fs k).cut = false) :
    runFrom l fs (l.length - (k + 1)) (k + 1) (F f m (nthA l k) (nthT fs k)) (M f m (nthA l k) (nthT fs k)) (out ++ [(V f m (nthA l k) (nthT fs k), B f m (nthA l k) (nthT fs k))]) = R := by
  obtain ⟨n, hn⟩ : ∃ n, l.length - k = n + 1 := ⟨l.length - k - 1, by omega⟩
  rw [hn, runFrom, if_pos he, if_neg (by simp [hc])] at h
  rw [show l.length - (k + 1) = n by omega]
  exact h
theorem valid_pulse {f : List (List Nat)} (h : Fz.valid f = true) (b c : Int) (cut : Bool) : Fz.valid (Fz.pulse f b c cut) = true := Fz.valid_hits h [⟨b, c, cut⟩]
theorem valid_F {f : List (List Nat)} (h : Fz.valid f = true) (m : List ByteArray) (a : Acc) (x : Flt) : Fz.valid (F f m a x) = true := by
  unfold F doF runF
  split
  · split
    · exact valid_pulse h _ _ _
    · exact h
  · exact h
theorem len_M (f : List (List Nat)) (m : List ByteArray) (a : Acc) (x : Flt) : (M f m a x).length = m.length := by
  unfold M doM runM
  split
  · split
    · exact Fm.Fl.write_length _ _ _ _
    · rfl
  · rfl
end
end Dv

/-- A slice of accesses. -/
def RAccs (w : World) (B : Nat) (v : Value) (l : List Dv.Acc) : Prop :=
  ∃ A c, v = .slice A l.length c ∧ l.length ≤ c ∧ c ≤ maxLen ∧ (∀ i, (Dv.nthA l i).s.size ≤ maxLen) ∧ (0 < l.length → ∃ b o, A = some ⟨b, o, none⟩ ∧ b < B ∧ ∀ i, i < l.length →
    w.cell? ⟨b, o + i * 4, none⟩ = some (.int .i64 (Dv.nthA l i).k) ∧ w.cell? ⟨b, o + i * 4 + 1, none⟩ = some (.int .i64 (Dv.nthA l i).b) ∧ w.cell? ⟨b, o + i * 4 + 2, none⟩ = some (.int .i64 (Dv.nthA l i).c) ∧ w.cell? ⟨b, o + i * 4 + 3, none⟩ = some (.string (Dv.nthA l i).s))
/-- A slice of faults. -/
def RFlts (w : World) (B : Nat) (v : Value) (l : List Dv.Flt) : Prop :=
  ∃ A c, v = .slice A l.length c ∧ l.length ≤ c ∧ c ≤ maxLen ∧ (0 < l.length → ∃ b o, A = some ⟨b, o, none⟩ ∧ b < B ∧ ∀ i, i < l.length →
    w.cell? ⟨b, o + i * 3, none⟩ = some (.bool (Dv.nthT l i).cut) ∧ w.cell? ⟨b, o + i * 3 + 1, none⟩ = some (.int .i64 (Dv.nthT l i).nb) ∧ w.cell? ⟨b, o + i * 3 + 2, none⟩ = some (.bool (Dv.nthT l i).noise))
def resCells (out : List (Int × ByteArray)) : List Value := out.flatMap fun x => [.int .i64 x.1, .string x.2]
def nthR (out : List (Int × ByteArray)) (i : Nat) : Int × ByteArray := out.getD i (0, ⟨#[]⟩)
theorem resCells_length (out : List (Int × ByteArray)) : (resCells out).length = out.length * 2 := by
  induction out with
  | nil => rfl
  | cons x out ih => simp only [resCells, List.flatMap_cons, List.length_append, List.length_cons, List.length_nil] at ih ⊢; omega
theorem resCells_snoc (out : List (Int × ByteArray)) (x : Int × ByteArray) : resCells (out ++ [x]) = resCells out ++ [.int .i64 x.1, .string x.2] := by simp [resCells]
theorem resCells_at : ∀ (out : List (Int × ByteArray)) (i : Nat), i < out.length → (resCells out)[i * 2]? = some (.int .i64 (nthR out i).1) ∧ (resCells out)[i * 2 + 1]? = some (.string (nthR out i).2)
  | [], i, h => absurd h (by simp)
  | x :: out, 0, _ => ⟨rfl, rfl⟩
  | x :: out, i + 1, h => by
    have ih := resCells_at out i (by simpa using h)
    have e : nthR (x :: out) (i + 1) = nthR out i := by simp [nthR]
    rw [e]
    have e1 : (i + 1) * 2 = i * 2 + 1 + 1 := by omega
    rw [e1]
    exact ⟨by simpa [resCells] using ih.1, by simpa [resCells] using ih.2⟩
/-- A slice of results. -/
def RRes (w : World) (B : Nat) (v : Value) (out : List (Int × ByteArray)) : Prop :=
  ∃ A c, v = .slice A out.length c ∧ out.length ≤ c ∧ c ≤ maxLen ∧ (0 < out.length → ∃ b o, A = some ⟨b, o, none⟩ ∧ b < B ∧ ∀ i, i < out.length →
    w.cell? ⟨b, o + i * 2, none⟩ = some (.int .i64 (nthR out i).1) ∧ w.cell? ⟨b, o + i * 2 + 1, none⟩ = some (.string (nthR out i).2))
section
variable {w w' : World} {Bd Bd' : Nat} {v : Value}
theorem RAccs.below {l : List Dv.Acc} (h : RAccs w Bd v l) (hb : Below Bd w w') : RAccs w' Bd v l := by
  obtain ⟨A, c, h1, h2, h3, h4, h5⟩ := h
  refine ⟨A, c, h1, h2, h3, h4, fun h0 => ?_⟩
  obtain ⟨b, o, hA, hlt, hc⟩ := h5 h0
  refine ⟨b, o, hA, hlt, fun i hi => ?_⟩
  obtain ⟨g1, g2, g3, g4⟩ := hc i hi
  exact ⟨(hb.cell (p := ⟨b, _, none⟩) hlt).trans g1, (hb.cell (p := ⟨b, _, none⟩) hlt).trans g2, (hb.cell (p := ⟨b, _, none⟩) hlt).trans g3, (hb.cell (p := ⟨b, _, none⟩) hlt).trans g4⟩
theorem RFlts.below {l : List Dv.Flt} (h : RFlts w Bd v l) (hb : Below Bd w w') : RFlts w' Bd v l := by
  obtain ⟨A, c, h1, h2, h3, h5⟩ := h
  refine ⟨A, c, h1, h2, h3, fun h0 => ?_⟩
  obtain ⟨b, o, hA, hlt, hc⟩ := h5 h0
  refine ⟨b, o, hA, hlt, fun i hi => ?_⟩
  obtain ⟨g1, g2, g3⟩ := hc i hi
  exact ⟨(hb.cell (p := ⟨b, _, none⟩) hlt).trans g1, (hb.cell (p := ⟨b, _, none⟩) hlt).trans g2, (hb.cell (p := ⟨b, _, none⟩) hlt).trans g3⟩
theorem RRes.below {l : List (Int × ByteArray)} (h : RRes w Bd v l) (hb : Below Bd w w') : RRes w' Bd v l := by
  obtain ⟨A, c, h1, h2, h3, h5⟩ := h
  refine ⟨A, c, h1, h2, h3, fun h0 => ?_⟩
  obtain ⟨b, o, hA, hlt, hc⟩ := h5 h0
  refine ⟨b, o, hA, hlt, fun i hi => ?_⟩
  obtain ⟨g1, g2⟩ := hc i hi
  exact ⟨(hb.cell (p := ⟨b, _, none⟩) hlt).trans g1, (hb.cell (p := ⟨b, _, none⟩) hlt).trans g2⟩
theorem RAccs.more {l : List Dv.Acc} (h : RAccs w Bd v l) (hB : Bd ≤ Bd') : RAccs w Bd' v l := by
  obtain ⟨A, c, h1, h2, h3, h4, h5⟩ := h
  exact ⟨A, c, h1, h2, h3, h4, fun h0 => by obtain ⟨b, o, hA, hlt, hc⟩ := h5 h0; exact ⟨b, o, hA, by omega, hc⟩⟩
theorem RFlts.more {l : List Dv.Flt} (h : RFlts w Bd v l) (hB : Bd ≤ Bd') : RFlts w Bd' v l := by
  obtain ⟨A, c, h1, h2, h3, h5⟩ := h
  exact ⟨A, c, h1, h2, h3, fun h0 => by obtain ⟨b, o, hA, hlt, hc⟩ := h5 h0; exact ⟨b, o, hA, by omega, hc⟩⟩
theorem RRes.more {l : List (Int × ByteArray)} (h : RRes w Bd v l) (hB : Bd ≤ Bd') : RRes w Bd' v l := by
  obtain ⟨A, c, h1, h2, h3, h5⟩ := h
  exact ⟨A, c, h1, h2, h3, fun h0 => by obtain ⟨b, o, hA, hlt, hc⟩ := h5 h0; exact ⟨b, o, hA, by omega, hc⟩⟩
theorem res_own {base : Nat} {out : List (Int × ByteArray)} (h : w.ownsRow base 40 2 v out.length (resCells out)) : RRes w w.heap.size v out := by
  rcases h.2 with ⟨rfl, h0⟩ | ⟨g, cap, cur, rfl, hb, hg, h1, h2, h3, h4⟩
  · exact ⟨none, 0, by rw [h0], by omega, by simp [maxLen], fun h => absurd h (by omega)⟩
  · refine ⟨_, cap, rfl, h1, h2, fun h0 => ⟨g, 0, rfl, lt_of_heap hg, fun i hi => ?_⟩⟩
    obtain ⟨r1, r2⟩ := resCells_at out i hi
    constructor
    · rw [Nat.zero_add, h.cellAt (i * 2) (by omega), r1]
    · rw [Nat.zero_add, h.cellAt (i * 2 + 1) (by omega), r2]
end

/-- what All says of its call -/
def AllSays (w : World) (r : Nat → Int) (R : Dv.Ran) (e : Ending) (w' : World) : Prop :=
  ∃ cs' v', e = .returned (.tuple #[.agg cs', v', .int .i64 R.e]) ∧ HwB w' cs' R.f R.m r ∧ RRes w' w'.heap.size v' R.out ∧ Below w.heap.size w w'

end Go.Proofs.Ytncgechmloekbaa

namespace Go.Proofs.Ytncgechmloekbaa
open Go.RowKit

theorem own_block {w : World} {base size n : Nat} {e : TypeId} {v : Value} {xs : List Value} (h : w.ownsRow base e size v n xs) {g : Nat} (hg : v.ownBlock = some g) : base ≤ g ∧ g < w.heap.size := by
  rcases h.2 with ⟨rfl, _⟩ | ⟨g', cap, cur, rfl, hb, hgg, _⟩
  · simp [Value.ownBlock] at hg
  · simp [Value.ownBlock] at hg
    subst hg
    exact ⟨hb, lt_of_heap hgg⟩
theorem grown_put (w : World) (b : Nat) (cs : Array Value) : w.grownBy (putRow w b cs) (some b) :=
  ⟨(put_below (Below.refl 0 w) (Nat.zero_le _)).os, (put_below (Below.refl 0 w) (Nat.zero_le _)).tape, (put_below (Below.refl 0 w) (Nat.zero_le _)).output, by rw [size_putRow]; exact Nat.le_refl _, fun k _ hne => put_other (by simpa using hne)⟩
theorem own_put {w : World} {base size n b : Nat} {e : TypeId} {v : Value} {xs : List Value} (h : w.ownsRow base e size v n xs) (hb : b < base) (cs : Array Value) : (putRow w b cs).ownsRow base e size v n xs :=
  h.kept (grown_put w b cs) (by
    cases hg : v.ownBlock with
    | none => exact .inl rfl
    | some g => right; have := (own_block h hg).1; simp; omega)
theorem ownR_below {w w' : World} {base size n : Nat} {e : TypeId} {v : Value} {xs : List Value} (h : w.ownsRow base e size v n xs) (hb : Below w.heap.size w w') : w'.ownsRow base e size v n xs :=
  h.kept (row := some w'.heap.size) ⟨hb.os, hb.tape, hb.output, hb.size, fun k hk _ => hb.block k hk⟩ (by
    cases hg : v.ownBlock with
    | none => exact .inl rfl
    | some g => right; have := (own_block h hg).2; have := hb.size; simp; omega)
theorem HwVal.bnd {W : World} {ok : Nat → Prop} {cs : Array Value} {f : List (List Nat)} {m : List ByteArray} {r : Nat → Int} (h : HwVal W ok cs f m r) : HwVal W (fun b => ok b ∧ b < W.heap.size) cs f m r := by
  obtain ⟨v, u, h0, h1, h2⟩ := h
  exact ⟨v, u, h0, h1.bnd, h2.bnd⟩
/-- a block that is none of All's own: neither of its two devices, nor the row of its results -/
def Free (n : Nat) (v : Value) (x : Nat) : Prop := x ≠ n ∧ x ≠ n + 1 ∧ some x ≠ v.ownBlock
/-- what holds at the head of each round of All -/
def AllRel (w wr : World) (r : Nat → Int) (l : List Dv.Acc) (fs : List Dv.Flt) (R : Dv.Ran) (k : Nat) (v : Value) : Prop :=
  ∃ (csk z : Array Value) (fk : List (List Nat)) (mk : List ByteArray) (outk : List (Int × ByteArray)), wr.heap[w.heap.size]? = some (.cells csk 31 (0, 0)) ∧ wr.heap[w.heap.size + 1]? = some (.cells z 31 (0, 0)) ∧ z.size = 18 ∧
    HwVal wr (Free w.heap.size v) csk fk mk r ∧ Fz.valid fk = true ∧ mk.length ≤ 1000 ∧ outk.length = k ∧ wr.ownsRow (w.heap.size + 2) 40 2 v outk.length (resCells outk) ∧
    Dv.runFrom l fs (l.length - k) k fk mk outk = R ∧ Below w.heap.size w wr
theorem all_end {w W : World} {r : Nat → Int} {R : Dv.Ran} {v : Value} {cs : Array Value} {f : List (List Nat)} {m : List ByteArray} {out : List (Int × ByteArray)} {E : Int} (hV : HwVal W (Free w.heap.size v) cs f m r)
    (ho : W.ownsRow (w.heap.size + 2) 40 2 v out.length (resCells out)) (hb : Below w.heap.size w W) (hR : R = ⟨f, m, out, E⟩) :
    AllSays w r R (.returned (.tuple #[.agg cs, v, .int .i64 E])) (putRow W (w.heap.size + 1) cs) := by
  subst hR
  refine ⟨cs, v, rfl, HwVal.b (hV.keep (fun b hb _ => put_other hb.2.1) (fun _ h => h)), ?_, put_below hb (by omega)⟩
  exact res_own (own_put ho (by omega) cs)
theorem free_more {W : World} {base n size k : Nat} {e : TypeId} {v : Value} {xs : List Value} (ho : W.ownsRow base e size v k xs) (hn : n + 1 < W.heap.size) {x : Nat} (hx : W.heap.size ≤ x) : Free n v x := by
  refine ⟨by omega, by omega, fun h => ?_⟩
  have := (own_block ho h.symm).2
  omega
theorem infoRes : (Try.prog.info? 40).map (fun i => (i.zero, i.size, i.bytes)) = some (some (.agg #[.int .i64 0, .string ⟨#[]⟩]), 2, 24) := by kernel_rfl
theorem news_two (w : World) (x y : Value) (t : TypeId) : ∀ j u, [x, y][j]? = some u → (w.alloc (.cells #[x, y] t)).cell? ((⟨w.heap.size, 0, none⟩ : Addr).add j) = some u := by
  intro j u hj
  have ha : ∀ j, (⟨w.heap.size, 0, none⟩ : Addr).add j = ⟨w.heap.size, j, none⟩ := fun j => by rw [Addr.add_mid, Nat.zero_add]
  rw [ha]
  match j, hj with
  | 0, hj => exact cell_block (heap_alloc_new w _) hj
  | 1, hj => exact cell_block (heap_alloc_new w _) hj
theorem all_next {w W4 w5 : World} {r : Nat → Int} {l : List Dv.Acc} {fs : List Dv.Flt} {R : Dv.Ran} {k : Nat} {v v' : Value} {cs z : Array Value} {f : List (List Nat)} {m : List ByteArray} {out : List (Int × ByteArray)} {V : Int} {B : ByteArray} {o : Obj}
    (h3 : W4.heap[w.heap.size]? = some (.cells cs 31 (0, 0))) (h6 : W4.heap[w.heap.size + 1]? = some (.cells z 31 (0, 0))) (hz : z.size = 18) (hV : HwVal W4 (Free w.heap.size v) cs f m r)
    (hval : Fz.valid f = true) (hm : m.length ≤ 1000) (hlen : out.length = k) (hn : w5.ownsRow (w.heap.size + 2) 40 2 v' (out.length + 1) (resCells out ++ [.int .i64 V, .string B])) (hg : (W4.alloc o).grownBy w5 v.ownBlock)
    (hat : v'.ownBlock = v.ownBlock ∨ v'.ownBlock = some (W4.alloc o).heap.size) (ho : W4.ownsRow (w.heap.size + 2) 40 2 v out.length (resCells out)) (hrun : Dv.runFrom l fs (l.length - (k + 1)) (k + 1) f m (out ++ [(V, B)]) = R) (hb : Below w.heap.size w W4) :
    AllRel w w5 r l fs R (k + 1) v' := by
  have hz6 := lt_of_heap h6
  have far : ∀ x, x < W4.heap.size → some x ≠ v.ownBlock → w5.heap[x]? = W4.heap[x]? := fun x hx hne => (hg.block x (by simp; omega) hne).trans (Below.heap_alloc _ _ _ hx)
  have hne : ∀ x, x < w.heap.size + 2 → some x ≠ v.ownBlock := fun x hx e => by have := (own_block ho e.symm).1; omega
  refine ⟨cs, z, f, m, out ++ [(V, B)], (far _ (by omega) (hne _ (by omega))).trans h3, (far _ hz6 (hne _ (by omega))).trans h6, hz, ?_, hval, hm, by simp [hlen], ?_, hrun, ?_⟩
  · refine hV.bnd.keep (fun b hb hlt => far b hlt hb.1.2.2) (fun b hb => ⟨hb.1.1, hb.1.2.1, fun e => ?_⟩)
    rcases hat with h | h
    · exact hb.1.2.2 (e.trans h)
    · rw [h] at e
      have hlt := hb.2
      simp at e
      omega
  · rw [resCells_snoc]
    simpa using hn
  · refine hb.trans ?_
    have hs := hb.size
    exact ⟨hg.os, hg.tape, hg.output, by have := hg.size; simp at this; omega, fun b hbl => far b (by omega) (hne b (by omega))⟩
theorem Dv.valid_len {f : List (List Nat)} (h : Fz.valid f = true) : f.length ≤ 4 := (Fz.valid_iff.1 h).1

end Go.Proofs.Ytncgechmloekbaa

namespace Go.Proofs.Ytncgechmloekbaa
open Go.RowKit

set_option maxRecDepth 100000 in
set_option maxHeartbeats 8000000 in
theorem all_any (cs : Array Value) (f : List (List Nat)) (m : List ByteArray) (r : Nat → Int) (vl vf : Value) (l : List Dv.Acc) (fs : List Dv.Flt) (w : World) (hh : HwB w cs f m r) (hval : Fz.valid f = true) (hml : m.length ≤ 1000) (hl : RAccs w w.heap.size vl l) (hf : RFlts w w.heap.size vf fs) (hl60 : l.length ≤ 1000) :
    Calls Try.prog 16 #[.agg cs, vl, vf] w (AllSays w r (Dv.runAll l fs f m)) := by
  obtain ⟨T, N, R, K, L⟩ := letters
  obtain ⟨Al, cl, rfl, hln, hlc, hls, hlcs⟩ := hl
  obtain ⟨Af, cf, rfl, hfn, hfc, hfcs⟩ := hf
  unfold maxLen at hlc hfc
  obtain ⟨Ra, hRa⟩ : ∃ Ra, Dv.runAll l fs f m = Ra := ⟨_, rfl⟩
  rw [hRa]
  have hst0 : AllRel w ((w.alloc (.cells cs 31)).alloc (.cells #[.slice none 0 0, .slice none 0 0, .int .u8 0, .int .u8 0, .int .u8 0, .int .u8 0, .int .u8 0, .int .u8 0, .int .u8 0, .int .u8 0, .int .u8 0, .int .u8 0, .int .u8 0, .int .u8 0, .int .u8 0, .int .u8 0, .int .u8 0, .int .u8 0] 31)) r l fs Ra 0 (.slice none 0 0) := by
    refine ⟨cs, #[.slice none 0 0, .slice none 0 0, .int .u8 0, .int .u8 0, .int .u8 0, .int .u8 0, .int .u8 0, .int .u8 0, .int .u8 0, .int .u8 0, .int .u8 0, .int .u8 0, .int .u8 0, .int .u8 0, .int .u8 0, .int .u8 0, .int .u8 0, .int .u8 0], f, m, [], blk_old (heap_alloc_new w _), heap_two _ _ _, rfl, ?_, hval, hml, rfl, World.ownsRow_nil _ _ _ _, hRa, ((Below.refl _ _).alloc (Nat.le_refl _) _).alloc (by simp) _⟩
    exact ((HwVal.below hh (Below.new _)).keep (fun b _ hlt => Below.heap_alloc _ _ _ hlt) (fun b hb => ⟨by omega, by omega, by simp [Value.ownBlock]⟩))
  have HST := Lib.hid hst0
  have HLS := Lib.hid hls
  have HLC := Lib.hid hlcs
  have HFC := Lib.hid hfcs
  clear hst0 hh hval hRa hls hlcs hfcs hml
  go_enter Try.func16, Try.ntmps16
  simp only [L.load, L.store]
  have la := L.agg
  have lz := L.size
  have HL := Lib.hid L
  clear L
  go_wp2
  go_loopw [9, 18] (fun v9 v18 wr => ∃ k : Nat, k ≤ l.length ∧ v18 = .int .i64 k ∧ Hid (AllRel w wr r l fs Ra k v9)) (fun _ i _ => l.length - (intOf i).toNat)
  case atStart => exact ⟨0, Nat.zero_le _, rfl, HST⟩
  case round =>
    clear HST
    obtain ⟨k, hk, rfl, HR⟩ := hrel
    obtain ⟨csk, z, fk, mk, outk, h3, h6, hz, hv, hval, hmk, hlen, hown, hrun, hbw⟩ := HR.out
    have HZ := Lib.hid hz
    have HRUN := Lib.hid hrun
    have HLEN := Lib.hid hlen
    have HVAL := Lib.hid hval
    have hz1 := lt_of_heap h6
    clear hz hrun hlen hval HR
    by_cases hlt : k < l.length
    · obtain ⟨bl, ol, rfl, hbl, hgl⟩ := HLC.out (by omega)
      obtain ⟨g1, g2, g3, g4⟩ := hgl k hlt
      have x1 := (hbw.cell (p := ⟨bl, _, none⟩) hbl).trans g1
      have x2 := (hbw.cell (p := ⟨bl, _, none⟩) hbl).trans g2
      have x3 := (hbw.cell (p := ⟨bl, _, none⟩) hbl).trans g3
      have x4 := (hbw.cell (p := ⟨bl, _, none⟩) hbl).trans g4
      have hbl2 : bl < wr.heap.size := by omega
      clear g1 g2 g3 g4 hgl
      by_cases hk2 : k < fs.length
      · obtain ⟨bf, of, rfl, hbf, hgf⟩ := HFC.out (by omega)
        obtain ⟨g1, g2, g3⟩ := hgf k hk2
        obtain ⟨xc, xn, xo, hx⟩ : ∃ c n o, Dv.nthT fs k = ⟨c, n, o⟩ := ⟨_, _, _, rfl⟩
        rw [hx] at g1 g2 g3
        have y1 := (hbw.cell (p := ⟨bf, _, none⟩) hbf).trans g1
        have y2 := (hbw.cell (p := ⟨bf, _, none⟩) hbf).trans g2
        have y3 := (hbw.cell (p := ⟨bf, _, none⟩) hbf).trans g3
        have hbf2 : bf < wr.heap.size := by omega
        have HX0 := Lib.hid hx
        clear g1 g2 g3 hgf hx
        have HX : Hid (Dv.nthT fs k = ⟨xc, xn, xo⟩) := Lib.hid (HX0.out)
        go_upto_region 8 with fail
        have hb1 : Below wr.heap.size wr ((wr.alloc (.cells #[.int .i64 (Dv.nthA l k).k, .int .i64 (Dv.nthA l k).b, .int .i64 (Dv.nthA l k).c, .string (Dv.nthA l k).s] 33)).alloc (.cells #[.bool xc, .int .i64 xn, .bool xo] 35)) := (Below.new _).trans ((Below.new _).mono (by simp))
        have PA : ((wr.alloc (.cells #[.int .i64 (Dv.nthA l k).k, .int .i64 (Dv.nthA l k).b, .int .i64 (Dv.nthA l k).c, .string (Dv.nthA l k).s] 33)).alloc (.cells #[.bool xc, .int .i64 xn, .bool xo] 35)).heap[wr.heap.size]? = some (.cells #[.int .i64 (Dv.nthA l k).k, .int .i64 (Dv.nthA l k).b, .int .i64 (Dv.nthA l k).c, .string (Dv.nthA l k).s] 33 (0, 0)) := blk_old (heap_alloc_new wr _)
        have PF : ((wr.alloc (.cells #[.int .i64 (Dv.nthA l k).k, .int .i64 (Dv.nthA l k).b, .int .i64 (Dv.nthA l k).c, .string (Dv.nthA l k).s] 33)).alloc (.cells #[.bool xc, .int .i64 xn, .bool xo] 35)).heap[wr.heap.size + 1]? = some (.cells #[.bool xc, .int .i64 xn, .bool xo] 35 (0, 0)) := heap_two _ _ _
        obtain ⟨W1, hW1⟩ : ∃ W, W = (wr.alloc (.cells #[.int .i64 (Dv.nthA l k).k, .int .i64 (Dv.nthA l k).b, .int .i64 (Dv.nthA l k).c, .string (Dv.nthA l k).s] 33)).alloc (.cells #[.bool xc, .int .i64 xn, .bool xo] 35) := ⟨_, rfl⟩
        obtain ⟨pa, hpa⟩ : ∃ p, p = wr.heap.size := ⟨_, rfl⟩
        have hzp : w.heap.size + 1 < pa := by omega
        rw [← hW1] at hb1 PA PF
        rw [← hpa] at PA PF
        rw [← hW1, ← hpa]
        clear hW1
        have P3 := (hb1.block _ (by omega)).trans h3
        have P6 := (hb1.block _ hz1).trans h6
        have V0 := (HwVal.below hv hb1).bnd
        have own1 := ownR_below hown hb1
        have HB1 := hbw.trans (hb1.mono hbw.size)
        clear hb1 hpa h3 h6 hv hown hbw hz1 x1 x2 x3 x4 y1 y2 y3
        have l0 := HL.out.ld P3 (HwVal.size V0)
        have a0 := cell_block (i := 0) PA rfl
        have a1 := cell_block (i := 1) PA rfl
        have a2 := cell_block (i := 2) PA rfl
        have a3 := cell_block (i := 3) PA rfl
        have f0 := cell_block (i := 0) PF rfl
        have f1 := cell_block (i := 1) PF rfl
        have f2 := cell_block (i := 2) PF rfl
        go_wp2_with fail
        refine (doC V0 (fun _ h => h.2) (Fz.valid_small HVAL.out) hmk (Dv.nthA l k).k (Dv.nthA l k).b (Dv.nthA l k).c (Dv.nthA l k).s xc xo xn (HLS.out k)).mono ?_
        rintro e w2 ⟨cs2, rfl, hv2, hb2⟩
        have z2 := sz18 T N R K HL.out (HwVal.size hv2)
        have s2 := st2 (HwVal.size hv2) (HwVal.ones hv2) #[.slice none 0 0, .slice none 0 0, .int .u8 0, .int .u8 0, .int .u8 0, .int .u8 0, .int .u8 0, .int .u8 0, .int .u8 0, .int .u8 0, .int .u8 0, .int .u8 0, .int .u8 0, .int .u8 0, .int .u8 0, .int .u8 0, .int .u8 0, .int .u8 0] rfl
        obtain ⟨E, hE⟩ : ∃ E, E = doE fk mk (Dv.nthA l k).k (Dv.nthA l k).b (Dv.nthA l k).c (Dv.nthA l k).s := ⟨_, rfl⟩
        rw [← hE]
        clear l0 a0 a1 a2 a3 f0 f1 f2
        have HE := Lib.hid hE
        clear hE
        go_upto_region 9 with fail
        have hb3 : Below w2.heap.size w2 ((w2.alloc (.cells cs2 31)).alloc (.cells #[.int .i64 (doV fk mk (Dv.nthA l k).k (Dv.nthA l k).b (Dv.nthA l k).c (Dv.nthA l k).s xc xo), .string (doB fk mk (Dv.nthA l k).k (Dv.nthA l k).b (Dv.nthA l k).c (Dv.nthA l k).s xc)] 40)) := (Below.new _).trans ((Below.new _).mono (by simp))
        have P13 : ((w2.alloc (.cells cs2 31)).alloc (.cells #[.int .i64 (doV fk mk (Dv.nthA l k).k (Dv.nthA l k).b (Dv.nthA l k).c (Dv.nthA l k).s xc xo), .string (doB fk mk (Dv.nthA l k).k (Dv.nthA l k).b (Dv.nthA l k).c (Dv.nthA l k).s xc)] 40)).heap[w2.heap.size]? = some (.cells cs2 31 (0, 0)) := blk_old (heap_alloc_new w2 _)
        have P14 : ((w2.alloc (.cells cs2 31)).alloc (.cells #[.int .i64 (doV fk mk (Dv.nthA l k).k (Dv.nthA l k).b (Dv.nthA l k).c (Dv.nthA l k).s xc xo), .string (doB fk mk (Dv.nthA l k).k (Dv.nthA l k).b (Dv.nthA l k).c (Dv.nthA l k).s xc)] 40)).heap[w2.heap.size + 1]? = some (.cells #[.int .i64 (doV fk mk (Dv.nthA l k).k (Dv.nthA l k).b (Dv.nthA l k).c (Dv.nthA l k).s xc xo), .string (doB fk mk (Dv.nthA l k).k (Dv.nthA l k).b (Dv.nthA l k).c (Dv.nthA l k).s xc)] 40 (0, 0)) := heap_two _ _ _
        have hb4 : Below W1.heap.size W1 ((w2.alloc (.cells cs2 31)).alloc (.cells #[.int .i64 (doV fk mk (Dv.nthA l k).k (Dv.nthA l k).b (Dv.nthA l k).c (Dv.nthA l k).s xc xo), .string (doB fk mk (Dv.nthA l k).k (Dv.nthA l k).b (Dv.nthA l k).c (Dv.nthA l k).s xc)] 40)) := hb2.trans (hb3.mono hb2.size)
        have V2 := HwVal.below hv2 hb3
        have hzW : W1.heap.size ≤ w2.heap.size := hb2.size
        obtain ⟨W3, hW3⟩ : ∃ W, W = (w2.alloc (.cells cs2 31)).alloc (.cells #[.int .i64 (doV fk mk (Dv.nthA l k).k (Dv.nthA l k).b (Dv.nthA l k).c (Dv.nthA l k).s xc xo), .string (doB fk mk (Dv.nthA l k).k (Dv.nthA l k).b (Dv.nthA l k).c (Dv.nthA l k).s xc)] 40) := ⟨_, rfl⟩
        obtain ⟨pb, hpb⟩ : ∃ p, p = w2.heap.size := ⟨_, rfl⟩
        have hpw : W1.heap.size ≤ pb := by omega
        rw [← hW3] at hb4 P13 P14 V2
        rw [← hpb] at P13 P14
        rw [← hW3, ← hpb]
        clear hW3 hpb hb2 hb3 hzW s2 z2 hv2
        have hf1 := lt_of_heap PF
        have P3 := (hb4.block _ (lt_of_heap P3)).trans P3
        have P6 := (hb4.block _ (lt_of_heap P6)).trans P6
        have PF := (hb4.block _ hf1).trans PF
        have V0 := (HwVal.below V0 hb4).more (fun _ h => h.1)
        have V2 := V2.more (ok' := Free w.heap.size u9) (fun x hx => by
          rcases hx with hx | hx
          · exact hx.1
          · exact free_more own1 (by omega) hx)
        have own3 := ownR_below own1 hb4
        have HB3 := HB1.trans (hb4.mono HB1.size)
        clear own1 HB1 PA hb4
        by_cases hE0 : E = 0
        · have eE : (E == 0) = true := by simp [hE0]
          have HE0 := Lib.hid hE0
          clear hE0
          have HEA : Hid (Dv.E fk mk (Dv.nthA l k) = 0) := Lib.hid (by rw [← HE0.out]; exact HE.out.symm)
          have l13 := HL.out.ld P13 (HwVal.size V2)
          have z13 := sz18 T N R K HL.out (HwVal.size V2)
          have hst := cells_row (cs := cs2) P3 (by rw [HwVal.size V2, HwVal.size V0]; decide) (HwVal.ones V2)
          go_upto_region 12 with fail
          clear l13 z13 hst
          have Q3 := put_same (cs := cs2) P3 (by rw [HwVal.size V2, HwVal.size V0])
          have far : ∀ x, x ≠ w.heap.size → (putRow W3 w.heap.size cs2).heap[x]? = W3.heap[x]? := fun x hx => put_other hx
          have Q6 := (far _ (by omega)).trans P6
          have QF := (far _ (by omega)).trans PF
          have Q14 := (far (pb + 1) (by omega)).trans P14
          have V4 := V2.keep (W' := putRow W3 w.heap.size cs2) (fun b hb _ => far b hb.1) (fun _ h => h)
          have own4 := own_put own3 (by omega : w.heap.size < w.heap.size + 2) cs2
          have HB4 := put_below HB3 (Nat.le_refl _) (cs := cs2)
          obtain ⟨W4, hW4⟩ : ∃ W, W = putRow W3 w.heap.size cs2 := ⟨_, rfl⟩
          rw [← hW4] at Q3 Q6 QF Q14 V4 own4 HB4
          rw [← hW4]
          clear hW4 far P3 P6 PF P14 P13 V0 V2 own3 HB3
          have f0 := cell_block (i := 0) QF rfl
          cases xc
          · have c0 := cell_block (i := 0) Q14 rfl
            have c1 := cell_block (i := 1) Q14 rfl
            obtain ⟨i0, hi0, hy0, hy1, hy2⟩ := info_parts infoRes
            have hz4 := lt_of_heap Q14
            have HOW := Lib.hid own4
            have HQ := Lib.hid Q3
            have HQ6 := Lib.hid Q6
            have HV4 := Lib.hid V4
            have HB4' := Lib.hid HB4
            have hz4w := HB4.size
            clear own4 Q3 Q6 V4 HB4 QF Q14
            go_wp2_with (at_builtin; refine wpList_append_own_at _ rfl _ _ 51 rfl (w.heap.size + 2) 40 i0 _ 2 24 Try.underlying51 hi0 hy0 hy1 hy2 rfl (by decide) u9 outk.length (resCells outk) (by rfl) (HOW.out.alloc _) ⟨W4.heap.size, 0, none⟩ 1 1 [.int .i64 (doV fk mk (Dv.nthA l k).k (Dv.nthA l k).b (Dv.nthA l k).c (Dv.nthA l k).s false xo), .string (doB fk mk (Dv.nthA l k).k (Dv.nthA l k).b (Dv.nthA l k).c (Dv.nthA l k).s false)] (by rfl) (by rfl) (news_two _ _ _ _) (by simp [Value.oneCell']) (by have := HLEN.out; unfold maxLen; omega) (by have := HLEN.out; omega) (by simp; omega) ?_; intro v' w5 hown1 hgrow _ hat; have HN := Lib.hid hown1; have HG := Lib.hid hgrow; have HT := Lib.hid hat; clear hown1 hgrow hat)
            go_roundw
            case rel => exact ⟨k + 1, by omega, by go_num, Lib.hid (all_next HQ.out HQ6.out HZ.out HV4.out ((by have h := Dv.valid_F HVAL.out mk (Dv.nthA l k) (Dv.nthT fs k); rw [HX.out] at h; exact h)) ((by have h := Dv.len_M fk mk (Dv.nthA l k) (Dv.nthT fs k); rw [HX.out] at h; exact Nat.le_trans (Nat.le_of_eq h) hmk)) HLEN.out HN.out HG.out HT.out HOW.out ((by have h := Dv.run_on HRUN.out hlt HEA.out (by rw [HX.out]); rw [HX.out] at h; exact h)) HB4'.out)⟩
            case measure => simp [intOf]; omega
          · have l0 := HL.out.ld Q3 (HwVal.size V4)
            have zc := sz18 T N R K HL.out (HwVal.size V4)
            have hst := cells_row (cs := cs2) Q6 (by rw [HwVal.size V4, HZ.out]; decide) (HwVal.ones V4)
            have HV := Lib.hid V4
            have HO := Lib.hid own4
            have HBh := Lib.hid HB4
            have HE6 := Lib.hid (put_same (cs := cs2) Q6 (by rw [HwVal.size V4, HZ.out]))
            clear own4 Q3 Q6 V4 HB4 QF Q14
            go_wp2
            refine bodyPost_ret (v := .tuple #[.agg cs2, u9, .int .i64 0]) (by simp [results, Try.results16, asAddr, loadVar_hw HE6.out (HwVal.size HV.out)]) rfl ?_
            exact all_end HV.out HO.out HBh.out (by have h := Dv.run_cut HRUN.out hlt HEA.out (by rw [HX.out]); rw [HX.out] at h; exact h)
        · have eE : (E == 0) = false := by simp [hE0]
          have HEA : Hid (Dv.E fk mk (Dv.nthA l k) = E) := Lib.hid HE.out.symm
          have HNE : Hid (E ≠ 0) := Lib.hid hE0
          have l0 := HL.out.ld P3 (HwVal.size V0)
          have zc := sz18 T N R K HL.out (HwVal.size V0)
          have hst := cells_row (cs := csk) P6 (by rw [HwVal.size V0, HZ.out]; decide) (HwVal.ones V0)
          have HV := Lib.hid V0
          have HO := Lib.hid own3
          have HBh := Lib.hid HB3
          have HE6 := Lib.hid (put_same (cs := csk) P6 (by rw [HwVal.size V0, HZ.out]))
          clear own3 P3 P6 V0 HB3 PF P14 P13 V2
          go_wp2
          refine bodyPost_ret (v := .tuple #[.agg csk, u9, .int .i64 E]) (by simp [results, Try.results16, asAddr, loadVar_hw HE6.out (HwVal.size HV.out)]) rfl ?_
          exact all_end HV.out HO.out HBh.out (by have h := Dv.run_err HRUN.out hlt (by rw [HEA.out]; exact HNE.out); rw [HEA.out] at h; exact h)
      · have hx : Dv.nthT fs k = ⟨false, 0, false⟩ := by
          rw [Dv.nthT, List.getD_eq_getElem?_getD, List.getElem?_eq_none (by omega)]; rfl
        have HX0 := Lib.hid hx
        clear hx
        have HX : Hid (Dv.nthT fs k = ⟨false, 0, false⟩) := Lib.hid (HX0.out)
        go_upto_region 8 with fail
        have hb1 : Below wr.heap.size wr ((wr.alloc (.cells #[.int .i64 (Dv.nthA l k).k, .int .i64 (Dv.nthA l k).b, .int .i64 (Dv.nthA l k).c, .string (Dv.nthA l k).s] 33)).alloc (.cells #[.bool false, .int .i64 0, .bool false] 35)) := (Below.new _).trans ((Below.new _).mono (by simp))
        have PA : ((wr.alloc (.cells #[.int .i64 (Dv.nthA l k).k, .int .i64 (Dv.nthA l k).b, .int .i64 (Dv.nthA l k).c, .string (Dv.nthA l k).s] 33)).alloc (.cells #[.bool false, .int .i64 0, .bool false] 35)).heap[wr.heap.size]? = some (.cells #[.int .i64 (Dv.nthA l k).k, .int .i64 (Dv.nthA l k).b, .int .i64 (Dv.nthA l k).c, .string (Dv.nthA l k).s] 33 (0, 0)) := blk_old (heap_alloc_new wr _)
        have PF : ((wr.alloc (.cells #[.int .i64 (Dv.nthA l k).k, .int .i64 (Dv.nthA l k).b, .int .i64 (Dv.nthA l k).c, .string (Dv.nthA l k).s] 33)).alloc (.cells #[.bool false, .int .i64 0, .bool false] 35)).heap[wr.heap.size + 1]? = some (.cells #[.bool false, .int .i64 0, .bool false] 35 (0, 0)) := heap_two _ _ _
        obtain ⟨W1, hW1⟩ : ∃ W, W = (wr.alloc (.cells #[.int .i64 (Dv.nthA l k).k, .int .i64 (Dv.nthA l k).b, .int .i64 (Dv.nthA l k).c, .string (Dv.nthA l k).s] 33)).alloc (.cells #[.bool false, .int .i64 0, .bool false] 35) := ⟨_, rfl⟩
        obtain ⟨pa, hpa⟩ : ∃ p, p = wr.heap.size := ⟨_, rfl⟩
        have hzp : w.heap.size + 1 < pa := by omega
        rw [← hW1] at hb1 PA PF
        rw [← hpa] at PA PF
        rw [← hW1, ← hpa]
        clear hW1
        have P3 := (hb1.block _ (by omega)).trans h3
        have P6 := (hb1.block _ hz1).trans h6
        have V0 := (HwVal.below hv hb1).bnd
        have own1 := ownR_below hown hb1
        have HB1 := hbw.trans (hb1.mono hbw.size)
        clear hb1 hpa h3 h6 hv hown hbw hz1 x1 x2 x3 x4
        have l0 := HL.out.ld P3 (HwVal.size V0)
        have a0 := cell_block (i := 0) PA rfl
        have a1 := cell_block (i := 1) PA rfl
        have a2 := cell_block (i := 2) PA rfl
        have a3 := cell_block (i := 3) PA rfl
        have f0 := cell_block (i := 0) PF rfl
        have f1 := cell_block (i := 1) PF rfl
        have f2 := cell_block (i := 2) PF rfl
        go_wp2_with fail
        refine (doC V0 (fun _ h => h.2) (Fz.valid_small HVAL.out) hmk (Dv.nthA l k).k (Dv.nthA l k).b (Dv.nthA l k).c (Dv.nthA l k).s false false 0 (HLS.out k)).mono ?_
        rintro e w2 ⟨cs2, rfl, hv2, hb2⟩
        have z2 := sz18 T N R K HL.out (HwVal.size hv2)
        have s2 := st2 (HwVal.size hv2) (HwVal.ones hv2) #[.slice none 0 0, .slice none 0 0, .int .u8 0, .int .u8 0, .int .u8 0, .int .u8 0, .int .u8 0, .int .u8 0, .int .u8 0, .int .u8 0, .int .u8 0, .int .u8 0, .int .u8 0, .int .u8 0, .int .u8 0, .int .u8 0, .int .u8 0, .int .u8 0] rfl
        obtain ⟨E, hE⟩ : ∃ E, E = doE fk mk (Dv.nthA l k).k (Dv.nthA l k).b (Dv.nthA l k).c (Dv.nthA l k).s := ⟨_, rfl⟩
        rw [← hE]
        clear l0 a0 a1 a2 a3 f0 f1 f2
        have HE := Lib.hid hE
        clear hE
        go_upto_region 9 with fail
        have hb3 : Below w2.heap.size w2 ((w2.alloc (.cells cs2 31)).alloc (.cells #[.int .i64 (doV fk mk (Dv.nthA l k).k (Dv.nthA l k).b (Dv.nthA l k).c (Dv.nthA l k).s false false), .string (doB fk mk (Dv.nthA l k).k (Dv.nthA l k).b (Dv.nthA l k).c (Dv.nthA l k).s false)] 40)) := (Below.new _).trans ((Below.new _).mono (by simp))
        have P13 : ((w2.alloc (.cells cs2 31)).alloc (.cells #[.int .i64 (doV fk mk (Dv.nthA l k).k (Dv.nthA l k).b (Dv.nthA l k).c (Dv.nthA l k).s false false), .string (doB fk mk (Dv.nthA l k).k (Dv.nthA l k).b (Dv.nthA l k).c (Dv.nthA l k).s false)] 40)).heap[w2.heap.size]? = some (.cells cs2 31 (0, 0)) := blk_old (heap_alloc_new w2 _)
        have P14 : ((w2.alloc (.cells cs2 31)).alloc (.cells #[.int .i64 (doV fk mk (Dv.nthA l k).k (Dv.nthA l k).b (Dv.nthA l k).c (Dv.nthA l k).s false false), .string (doB fk mk (Dv.nthA l k).k (Dv.nthA l k).b (Dv.nthA l k).c (Dv.nthA l k).s false)] 40)).heap[w2.heap.size + 1]? = some (.cells #[.int .i64 (doV fk mk (Dv.nthA l k).k (Dv.nthA l k).b (Dv.nthA l k).c (Dv.nthA l k).s false false), .string (doB fk mk (Dv.nthA l k).k (Dv.nthA l k).b (Dv.nthA l k).c (Dv.nthA l k).s false)] 40 (0, 0)) := heap_two _ _ _
        have hb4 : Below W1.heap.size W1 ((w2.alloc (.cells cs2 31)).alloc (.cells #[.int .i64 (doV fk mk (Dv.nthA l k).k (Dv.nthA l k).b (Dv.nthA l k).c (Dv.nthA l k).s false false), .string (doB fk mk (Dv.nthA l k).k (Dv.nthA l k).b (Dv.nthA l k).c (Dv.nthA l k).s false)] 40)) := hb2.trans (hb3.mono hb2.size)
        have V2 := HwVal.below hv2 hb3
        have hzW : W1.heap.size ≤ w2.heap.size := hb2.size
        obtain ⟨W3, hW3⟩ : ∃ W, W = (w2.alloc (.cells cs2 31)).alloc (.cells #[.int .i64 (doV fk mk (Dv.nthA l k).k (Dv.nthA l k).b (Dv.nthA l k).c (Dv.nthA l k).s false false), .string (doB fk mk (Dv.nthA l k).k (Dv.nthA l k).b (Dv.nthA l k).c (Dv.nthA l k).s false)] 40) := ⟨_, rfl⟩
        obtain ⟨pb, hpb⟩ : ∃ p, p = w2.heap.size := ⟨_, rfl⟩
        have hpw : W1.heap.size ≤ pb := by omega
        rw [← hW3] at hb4 P13 P14 V2
        rw [← hpb] at P13 P14
        rw [← hW3, ← hpb]
        clear hW3 hpb hb2 hb3 hzW s2 z2 hv2
        have hf1 := lt_of_heap PF
        have P3 := (hb4.block _ (lt_of_heap P3)).trans P3
        have P6 := (hb4.block _ (lt_of_heap P6)).trans P6
        have PF := (hb4.block _ hf1).trans PF
        have V0 := (HwVal.below V0 hb4).more (fun _ h => h.1)
        have V2 := V2.more (ok' := Free w.heap.size u9) (fun x hx => by
          rcases hx with hx | hx
          · exact hx.1
          · exact free_more own1 (by omega) hx)
        have own3 := ownR_below own1 hb4
        have HB3 := HB1.trans (hb4.mono HB1.size)
        clear own1 HB1 PA hb4
        by_cases hE0 : E = 0
        · have eE : (E == 0) = true := by simp [hE0]
          have HE0 := Lib.hid hE0
          clear hE0
          have HEA : Hid (Dv.E fk mk (Dv.nthA l k) = 0) := Lib.hid (by rw [← HE0.out]; exact HE.out.symm)
          have l13 := HL.out.ld P13 (HwVal.size V2)
          have z13 := sz18 T N R K HL.out (HwVal.size V2)
          have hst := cells_row (cs := cs2) P3 (by rw [HwVal.size V2, HwVal.size V0]; decide) (HwVal.ones V2)
          go_upto_region 12 with fail
          clear l13 z13 hst
          have Q3 := put_same (cs := cs2) P3 (by rw [HwVal.size V2, HwVal.size V0])
          have far : ∀ x, x ≠ w.heap.size → (putRow W3 w.heap.size cs2).heap[x]? = W3.heap[x]? := fun x hx => put_other hx
          have Q6 := (far _ (by omega)).trans P6
          have QF := (far _ (by omega)).trans PF
          have Q14 := (far (pb + 1) (by omega)).trans P14
          have V4 := V2.keep (W' := putRow W3 w.heap.size cs2) (fun b hb _ => far b hb.1) (fun _ h => h)
          have own4 := own_put own3 (by omega : w.heap.size < w.heap.size + 2) cs2
          have HB4 := put_below HB3 (Nat.le_refl _) (cs := cs2)
          obtain ⟨W4, hW4⟩ : ∃ W, W = putRow W3 w.heap.size cs2 := ⟨_, rfl⟩
          rw [← hW4] at Q3 Q6 QF Q14 V4 own4 HB4
          rw [← hW4]
          clear hW4 far P3 P6 PF P14 P13 V0 V2 own3 HB3
          have f0 := cell_block (i := 0) QF rfl
          have c0 := cell_block (i := 0) Q14 rfl
          have c1 := cell_block (i := 1) Q14 rfl
          obtain ⟨i0, hi0, hy0, hy1, hy2⟩ := info_parts infoRes
          have hz4 := lt_of_heap Q14
          have HOW := Lib.hid own4
          have HQ := Lib.hid Q3
          have HQ6 := Lib.hid Q6
          have HV4 := Lib.hid V4
          have HB4' := Lib.hid HB4
          have hz4w := HB4.size
          clear own4 Q3 Q6 V4 HB4 QF Q14
          go_wp2_with (at_builtin; refine wpList_append_own_at _ rfl _ _ 51 rfl (w.heap.size + 2) 40 i0 _ 2 24 Try.underlying51 hi0 hy0 hy1 hy2 rfl (by decide) u9 outk.length (resCells outk) (by rfl) (HOW.out.alloc _) ⟨W4.heap.size, 0, none⟩ 1 1 [.int .i64 (doV fk mk (Dv.nthA l k).k (Dv.nthA l k).b (Dv.nthA l k).c (Dv.nthA l k).s false false), .string (doB fk mk (Dv.nthA l k).k (Dv.nthA l k).b (Dv.nthA l k).c (Dv.nthA l k).s false)] (by rfl) (by rfl) (news_two _ _ _ _) (by simp [Value.oneCell']) (by have := HLEN.out; unfold maxLen; omega) (by have := HLEN.out; omega) (by simp; omega) ?_; intro v' w5 hown1 hgrow _ hat; have HN := Lib.hid hown1; have HG := Lib.hid hgrow; have HT := Lib.hid hat; clear hown1 hgrow hat)
          go_roundw
          case rel => exact ⟨k + 1, by omega, by go_num, Lib.hid (all_next HQ.out HQ6.out HZ.out HV4.out ((by have h := Dv.valid_F HVAL.out mk (Dv.nthA l k) (Dv.nthT fs k); rw [HX.out] at h; exact h)) ((by have h := Dv.len_M fk mk (Dv.nthA l k) (Dv.nthT fs k); rw [HX.out] at h; exact Nat.le_trans (Nat.le_of_eq h) hmk)) HLEN.out HN.out HG.out HT.out HOW.out ((by have h := Dv.run_on HRUN.out hlt HEA.out (by rw [HX.out]); rw [HX.out] at h; exact h)) HB4'.out)⟩
          case measure => simp [intOf]; omega
        · have eE : (E == 0) = false := by simp [hE0]
          have HEA : Hid (Dv.E fk mk (Dv.nthA l k) = E) := Lib.hid HE.out.symm
          have HNE : Hid (E ≠ 0) := Lib.hid hE0
          have l0 := HL.out.ld P3 (HwVal.size V0)
          have zc := sz18 T N R K HL.out (HwVal.size V0)
          have hst := cells_row (cs := csk) P6 (by rw [HwVal.size V0, HZ.out]; decide) (HwVal.ones V0)
          have HV := Lib.hid V0
          have HO := Lib.hid own3
          have HBh := Lib.hid HB3
          have HE6 := Lib.hid (put_same (cs := csk) P6 (by rw [HwVal.size V0, HZ.out]))
          clear own3 P3 P6 V0 HB3 PF P14 P13 V2
          go_wp2
          refine bodyPost_ret (v := .tuple #[.agg csk, u9, .int .i64 E]) (by simp [results, Try.results16, asAddr, loadVar_hw HE6.out (HwVal.size HV.out)]) rfl ?_
          exact all_end HV.out HO.out HBh.out (by have h := Dv.run_err HRUN.out hlt (by rw [HEA.out]; exact HNE.out); rw [HEA.out] at h; exact h)
    · have hk3 : k = l.length := by omega
      have HK3 := Lib.hid (Dv.run_end HRUN.out (by omega))
      have hle : ¬ k < l.length := by omega
      clear hk3
      have l0 := HL.out.ld h3 (HwVal.size hv)
      have zc := sz18 T N R K HL.out (HwVal.size hv)
      have hst := cells_row (cs := csk) h6 (by rw [HwVal.size hv, HZ.out]; decide) (HwVal.ones hv)
      have HV := Lib.hid hv
      have HO := Lib.hid hown
      have HBh := Lib.hid hbw
      have HE6 := Lib.hid (put_same (cs := csk) h6 (by rw [HwVal.size hv, HZ.out]))
      clear hown h3 h6 hv hbw
      go_wp2
      refine bodyPost_ret (v := .tuple #[.agg csk, u9, .int .i64 0]) (by simp [results, Try.results16, asAddr, loadVar_hw HE6.out (HwVal.size HV.out)]) rfl ?_
      exact all_end HV.out HO.out HBh.out HK3.out
end Go.Proofs.Ytncgechmloekbaa

namespace Go.Proofs.Ytncgechmloekbaa
open Go.RowKit

/-- behind the region that runs an access and lays what it returned into two new variables -/
def RanHw (G : Nat → Prop) (W1 : World) (V : Int) (B : ByteArray) (E : Int) (f : List (List Nat)) (m : List ByteArray) (r : Nat → Int) (x y z : Value) (W : World) : Prop :=
  ∃ p q cs, x = .pointer (some ⟨p, 0, none⟩) ∧ y = .pointer (some ⟨q, 0, none⟩) ∧ z = .int .i64 E ∧ W.heap[p]? = some (.cells cs 31 (0, 0)) ∧ W.heap[q]? = some (.cells #[.int .i64 V, .string B] 40 (0, 0)) ∧
    W1.heap.size ≤ p ∧ W1.heap.size ≤ q ∧ HwVal W G cs f m r ∧ Below W1.heap.size W1 W
section
variable {W1 w7 : World} {S0 X Y : Nat} {cs z : Array Value} {G : Nat → Prop} {V : Int} {B : ByteArray} {E : Int} {f : List (List Nat)} {m : List ByteArray} {r : Nat → Int} {ok : Nat → Prop} {a b : Value}
theorem rh1 (hG : ∀ x, ok x ∨ S0 ≤ x → G x) (hv : HwVal w7 (fun x => ok x ∨ S0 ≤ x) cs f m r) (hU : Und W1 w7) : RanHw G W1 V B E f m r (.pointer (some ⟨w7.heap.size, 0, none⟩)) (.pointer (some ⟨w7.heap.size + 1, 0, none⟩)) (.int .i64 E) ((w7.alloc (.cells cs 31)).alloc (.cells #[.int .i64 V, .string B] 40)) :=
  ⟨_, _, cs, rfl, rfl, rfl, blk_old (heap_alloc_new w7 _), blk_second _ _ _, hU.keeps.size, Nat.le_succ_of_le hU.keeps.size, ((HwVal.below hv (Below.new _)).below (Below.new _)).more hG, ((hU.alloc _).alloc _).keeps⟩
theorem rh2 (hG : ∀ x, ok x ∨ S0 ≤ x → G x) (hv : HwVal w7 (fun x => ok x ∨ S0 ≤ x) cs f m r) (hU : Und W1 w7) : RanHw G W1 V B E f m r (.pointer (some ⟨w7.heap.size + 1, 0, none⟩)) (.pointer (some ⟨w7.heap.size, 0, none⟩)) (.int .i64 E) ((w7.alloc (.cells #[.int .i64 V, .string B] 40)).alloc (.cells cs 31)) :=
  ⟨_, _, cs, rfl, rfl, rfl, blk_second _ _ _, blk_old (heap_alloc_new w7 _), Nat.le_succ_of_le hU.keeps.size, hU.keeps.size, ((HwVal.below hv (Below.new _)).below (Below.new _)).more hG, ((hU.alloc _).alloc _).keeps⟩
theorem rh3 (hok : ∀ x, ok x → x < W1.heap.size) (hG : ∀ x, ok x ∨ S0 ≤ x → G x) (hv : HwVal w7 (fun x => ok x ∨ S0 ≤ x) cs f m r) (hU : Und W1 w7) (hX : W1.heap.size ≤ X) (hS : X < S0) (hz : z.size = 18) (qZ : Blk w7 X (.cells z 31)) : RanHw G W1 V B E f m r (.pointer (some ⟨X, 0, none⟩)) (.pointer (some ⟨w7.heap.size, 0, none⟩)) (.int .i64 E) ((putRow w7 X cs).alloc (.cells #[.int .i64 V, .string B] 40)) := by
  have hB := hv.keep (W' := putRow w7 X cs) (fun b hb _ => put_other (by rcases hb with h | h; (have := hok b h; omega); omega)) (fun _ h => h)
  have hn := heap_alloc_new (putRow w7 X cs) (.cells #[.int .i64 V, .string B] 40)
  rw [size_putRow] at hn
  exact ⟨_, _, cs, rfl, rfl, rfl, blk_old (put_same qZ (hv.size.trans hz.symm)), hn, hX, hU.keeps.size, (HwVal.below hB (Below.new _)).more hG, ((hU.put hX _).alloc _).keeps⟩
theorem rh4 (hok : ∀ x, ok x → x < W1.heap.size) (hG : ∀ x, ok x ∨ S0 ≤ x → G x) (hv : HwVal w7 (fun x => ok x ∨ S0 ≤ x) cs f m r) (hU : Und W1 w7) (hX : W1.heap.size ≤ X) (hS : X < S0) (hY : W1.heap.size ≤ Y) (hT : Y < S0) (hz : z.size = 18) (qZ : Blk w7 X (.cells z 31)) (qR : Blk w7 Y (.cells #[a, b] 40)) (hne : X ≠ Y) :
    RanHw G W1 V B E f m r (.pointer (some ⟨X, 0, none⟩)) (.pointer (some ⟨Y, 0, none⟩)) (.int .i64 E) (((putRow w7 X cs).setCell ⟨Y, 0, none⟩ (.int .i64 V)).setCell ⟨Y, 1, none⟩ (.string B)) := by
  have far : ∀ b, b ≠ Y → (((putRow w7 X cs).setCell ⟨Y, 0, none⟩ (.int .i64 V)).setCell ⟨Y, 1, none⟩ (.string B)).heap[b]? = (putRow w7 X cs).heap[b]? := fun b hb => (heap_setCell_other _ ⟨Y, 1, none⟩ b _ hb).trans (heap_setCell_other _ ⟨Y, 0, none⟩ b _ hb)
  have hB := hv.keep (W' := ((putRow w7 X cs).setCell ⟨Y, 0, none⟩ (.int .i64 V)).setCell ⟨Y, 1, none⟩ (.string B)) (fun b hb _ => (far b (by rcases hb with h | h; (have := hok b h; omega); omega)).trans (put_other (by rcases hb with h | h; (have := hok b h; omega); omega))) (fun _ h => h)
  exact ⟨_, _, cs, rfl, rfl, rfl, (far X hne).trans (put_same qZ (hv.size.trans hz.symm)), heap_setCell_same _ _ 1 _ _ _ (heap_setCell_same _ _ 0 _ _ _ ((put_other hne.symm).trans qR)), hX, hY, hB.more hG, (((hU.put hX _).set hY _ _).set hY _ _).keeps⟩
theorem rh5 (hok : ∀ x, ok x → x < W1.heap.size) (hG : ∀ x, ok x ∨ S0 ≤ x → G x) (hv : HwVal w7 (fun x => ok x ∨ S0 ≤ x) cs f m r) (hU : Und W1 w7) (hY : W1.heap.size ≤ Y) (hT : Y < S0) (qR : Blk w7 Y (.cells #[a, b] 40)) :
    RanHw G W1 V B E f m r (.pointer (some ⟨w7.heap.size, 0, none⟩)) (.pointer (some ⟨Y, 0, none⟩)) (.int .i64 E) (((w7.setCell ⟨Y, 0, none⟩ (.int .i64 V)).setCell ⟨Y, 1, none⟩ (.string B)).alloc (.cells cs 31)) := by
  have far : ∀ b, b ≠ Y → ((w7.setCell ⟨Y, 0, none⟩ (.int .i64 V)).setCell ⟨Y, 1, none⟩ (.string B)).heap[b]? = w7.heap[b]? := fun b hb => (heap_setCell_other _ ⟨Y, 1, none⟩ b _ hb).trans (heap_setCell_other _ ⟨Y, 0, none⟩ b _ hb)
  have hB := hv.keep (W' := (w7.setCell ⟨Y, 0, none⟩ (.int .i64 V)).setCell ⟨Y, 1, none⟩ (.string B)) (fun b hb _ => far b (by rcases hb with h | h; (have := hok b h; omega); omega)) (fun _ h => h)
  have hn := heap_alloc_new ((w7.setCell ⟨Y, 0, none⟩ (.int .i64 V)).setCell ⟨Y, 1, none⟩ (.string B)) (.cells cs 31)
  simp only [World.size_setCell] at hn
  exact ⟨_, _, cs, rfl, rfl, rfl, hn, blk_old (heap_setCell_same _ _ 1 _ _ _ (heap_setCell_same _ _ 0 _ _ _ qR)), hU.keeps.size, hY, (HwVal.below hB (Below.new _)).more hG, (((hU.set hY _ _).set hY _ _).alloc _).keeps⟩
end

end Go.Proofs.Ytncgechmloekbaa

namespace Go.Proofs.Ytncgechmloekbaa
open Go.RowKit

set_option maxRecDepth 100000 in
set_option maxHeartbeats 8000000 in
theorem rall_any (cs : Array Value) (f : List (List Nat)) (m : List ByteArray) (r : Nat → Int) (vl vf : Value) (l : List Dv.Acc) (fs : List Dv.Flt) (w : World) (hh : HwB w cs f m r) (hval : Fz.valid f = true) (hml : m.length ≤ 1000) (hl : RAccs w w.heap.size vl l) (hf : RFlts w w.heap.size vf fs) (hl60 : l.length ≤ 1000) :
    Calls Try.prog 17 #[.agg cs, vl, vf] w (AllSays w r (Dv.runAll l fs f m)) := by
  obtain ⟨T, N, R, K, L⟩ := letters
  obtain ⟨Al, cl, rfl, hln, hlc, hls, hlcs⟩ := hl
  obtain ⟨Af, cf, rfl, hfn, hfc, hfcs⟩ := hf
  unfold maxLen at hlc hfc
  obtain ⟨Ra, hRa⟩ : ∃ Ra, Dv.runAll l fs f m = Ra := ⟨_, rfl⟩
  rw [hRa]
  have hst0 : AllRel w ((w.alloc (.cells cs 31)).alloc (.cells #[.slice none 0 0, .slice none 0 0, .int .u8 0, .int .u8 0, .int .u8 0, .int .u8 0, .int .u8 0, .int .u8 0, .int .u8 0, .int .u8 0, .int .u8 0, .int .u8 0, .int .u8 0, .int .u8 0, .int .u8 0, .int .u8 0, .int .u8 0, .int .u8 0] 31)) r l fs Ra 0 (.slice none 0 0) := by
    refine ⟨cs, #[.slice none 0 0, .slice none 0 0, .int .u8 0, .int .u8 0, .int .u8 0, .int .u8 0, .int .u8 0, .int .u8 0, .int .u8 0, .int .u8 0, .int .u8 0, .int .u8 0, .int .u8 0, .int .u8 0, .int .u8 0, .int .u8 0, .int .u8 0, .int .u8 0], f, m, [], blk_old (heap_alloc_new w _), heap_two _ _ _, rfl, ?_, hval, hml, rfl, World.ownsRow_nil _ _ _ _, hRa, ((Below.refl _ _).alloc (Nat.le_refl _) _).alloc (by simp) _⟩
    exact ((HwVal.below hh (Below.new _)).keep (fun b _ hlt => Below.heap_alloc _ _ _ hlt) (fun b hb => ⟨by omega, by omega, by simp [Value.ownBlock]⟩))
  have HST := Lib.hid hst0
  have HLS := Lib.hid hls
  have HLC := Lib.hid hlcs
  have HFC := Lib.hid hfcs
  clear hst0 hh hval hRa hls hlcs hfcs hml
  go_enter Try.func17, Try.ntmps17
  simp only [L.load, L.store]
  have la := L.agg
  have lz := L.size
  have HL := Lib.hid L
  clear L
  go_wp2
  go_loopw [9, 10] (fun v9 v10 wr => ∃ k : Nat, k ≤ l.length ∧ v10 = .int .i64 k ∧ Hid (AllRel w wr r l fs Ra k v9)) (fun _ i _ => l.length - (intOf i).toNat)
  case atStart => exact ⟨0, Nat.zero_le _, rfl, HST⟩
  case round =>
    clear HST
    obtain ⟨k, hk, rfl, HR⟩ := hrel
    obtain ⟨csk, z, fk, mk, outk, h3, h6, hz, hv, hval, hmk, hlen, hown, hrun, hbw⟩ := HR.out
    have HZ := Lib.hid hz
    have HRUN := Lib.hid hrun
    have HLEN := Lib.hid hlen
    have HVAL := Lib.hid hval
    have hz1 := lt_of_heap h6
    clear hz hrun hlen hval HR
    by_cases hlt : k < l.length
    · obtain ⟨bl, ol, rfl, hbl, hgl⟩ := HLC.out (by omega)
      obtain ⟨g1, g2, g3, g4⟩ := hgl k hlt
      have x1 := (hbw.cell (p := ⟨bl, _, none⟩) hbl).trans g1
      have x2 := (hbw.cell (p := ⟨bl, _, none⟩) hbl).trans g2
      have x3 := (hbw.cell (p := ⟨bl, _, none⟩) hbl).trans g3
      have x4 := (hbw.cell (p := ⟨bl, _, none⟩) hbl).trans g4
      have hbl2 : bl < wr.heap.size := by omega
      clear g1 g2 g3 g4 hgl
      by_cases hk2 : k < fs.length
      · obtain ⟨bf, of, rfl, hbf, hgf⟩ := HFC.out (by omega)
        obtain ⟨g1, g2, g3⟩ := hgf k hk2
        obtain ⟨xc, xn, xo, hx⟩ : ∃ c n o, Dv.nthT fs k = ⟨c, n, o⟩ := ⟨_, _, _, rfl⟩
        rw [hx] at g1 g2 g3
        have y1 := (hbw.cell (p := ⟨bf, _, none⟩) hbf).trans g1
        have y2 := (hbw.cell (p := ⟨bf, _, none⟩) hbf).trans g2
        have y3 := (hbw.cell (p := ⟨bf, _, none⟩) hbf).trans g3
        have hbf2 : bf < wr.heap.size := by omega
        have HX0 := Lib.hid hx
        clear g1 g2 g3 hgf hx
        have HX : Hid (Dv.nthT fs k = ⟨xc, xn, xo⟩) := Lib.hid (HX0.out)
        go_upto_region 8 with fail
        have hb1 : Below wr.heap.size wr (wr.alloc (.cells #[.bool xc, .int .i64 xn, .bool xo] 35)) := Below.new _
        have PF : (wr.alloc (.cells #[.bool xc, .int .i64 xn, .bool xo] 35)).heap[wr.heap.size]? = some (.cells #[.bool xc, .int .i64 xn, .bool xo] 35 (0, 0)) := heap_alloc_new wr _
        have x1 := (hb1.cell (p := ⟨bl, _, none⟩) hbl2).trans x1
        have x2 := (hb1.cell (p := ⟨bl, _, none⟩) hbl2).trans x2
        have x3 := (hb1.cell (p := ⟨bl, _, none⟩) hbl2).trans x3
        have x4 := (hb1.cell (p := ⟨bl, _, none⟩) hbl2).trans x4
        obtain ⟨W1, hW1⟩ : ∃ W, W = wr.alloc (.cells #[.bool xc, .int .i64 xn, .bool xo] 35) := ⟨_, rfl⟩
        obtain ⟨pa, hpa⟩ : ∃ p, p = wr.heap.size := ⟨_, rfl⟩
        have hzp : w.heap.size + 1 < pa := by omega
        rw [← hW1] at hb1 PF x1 x2 x3 x4
        rw [← hpa] at PF
        rw [← hW1, ← hpa]
        clear hW1
        have P3 := (hb1.block _ (by omega)).trans h3
        have P6 := (hb1.block _ hz1).trans h6
        have V0 := (HwVal.below hv hb1).bnd
        have own1 := ownR_below hown hb1
        have HB1 := hbw.trans (hb1.mono hbw.size)
        have hbl3 : bl < W1.heap.size := Nat.lt_of_lt_of_le hbl2 hb1.size
        clear hb1 hpa h3 h6 hv hown hbw hz1 y1 y2 y3
        obtain ⟨E, hE⟩ : ∃ E, E = doE fk mk (Dv.nthA l k).k (Dv.nthA l k).b (Dv.nthA l k).c (Dv.nthA l k).s := ⟨_, rfl⟩
        have HE := Lib.hid hE
        clear hE
        have f0 := cell_block (i := 0) PF rfl
        have f1 := cell_block (i := 1) PF rfl
        have f2 := cell_block (i := 2) PF rfl
        have hfl := lt_of_heap PF
        have H33 : Hid (Fz.ex fk (Dv.nthA l k).b (Dv.nthA l k).c = true → Fz.cellOf fk (Dv.nthA l k).b (Dv.nthA l k).c ≤ 3) := Lib.hid (fun _ => Fz.at_le HVAL.out _ _)
        have HSM := Lib.hid (Fz.valid_small HVAL.out)
        have HG : Hid (∀ x, ((Free w.heap.size u9 x ∧ x < W1.heap.size) ∨ W1.heap.size ≤ x) → Free w.heap.size u9 x) := Lib.hid (fun x hx => by
          rcases hx with hx | hx
          · exact hx.1
          · exact free_more own1 (by omega) hx)
        have hU0 : Und W1 W1 := ⟨Below.refl _ _⟩
        have SU : Hid (∀ W', Und W1 W' → Sem.run Try.prog (loadCellsFrom ⟨w.heap.size, 0, none⟩ 0 N #[]) W' = .ok csk W' ∧ W'.cell? ⟨bl, ol + k * 4, none⟩ = some (.int .i64 (Dv.nthA l k).k) ∧ W'.cell? ⟨bl, ol + k * 4 + 1, none⟩ = some (.int .i64 (Dv.nthA l k).b) ∧ W'.cell? ⟨bl, ol + k * 4 + 2, none⟩ = some (.int .i64 (Dv.nthA l k).c) ∧ W'.cell? ⟨bl, ol + k * 4 + 3, none⟩ = some (.string (Dv.nthA l k).s) ∧ W'.cell? ⟨pa, 0, none⟩ = some (.bool xc) ∧ W'.cell? ⟨pa, 1, none⟩ = some (.int .i64 xn) ∧ W'.cell? ⟨pa, 2, none⟩ = some (.bool xo) ∧ Und W1 W') := Lib.hid (fun W' h => ⟨HL.out.ld ((h.keeps.block _ (lt_of_heap P3)).trans P3) (HwVal.size V0), Und.cell h x1 hbl3, Und.cell h x2 hbl3, Und.cell h x3 hbl3, Und.cell h x4 hbl3, Und.cell h f0 hfl, Und.cell h f1 hfl, Und.cell h f2 hfl, h⟩)
        have HP3 := Lib.hid P3
        have HP6 := Lib.hid P6
        have HPF := Lib.hid PF
        have HV0 := Lib.hid V0
        have HO1 := Lib.hid own1
        have HB1' := Lib.hid HB1
        clear P3 P6 PF V0 own1 HB1 x1 x2 x3 x4 f0 f1 f2
        go_cut [12, 13, 14] (fun x y z Wc => RanHw (Free w.heap.size u9) W1 (doV fk mk (Dv.nthA l k).k (Dv.nthA l k).b (Dv.nthA l k).c (Dv.nthA l k).s xc xo) (doB fk mk (Dv.nthA l k).k (Dv.nthA l k).b (Dv.nthA l k).c (Dv.nthA l k).s xc) E (doF fk mk (Dv.nthA l k).k (Dv.nthA l k).b (Dv.nthA l k).c (Dv.nthA l k).s xc) (doM fk mk (Dv.nthA l k).k (Dv.nthA l k).b (Dv.nthA l k).c (Dv.nthA l k).s xc xn) r x y z Wc)
        case first =>
          go_region_held3 (fun W' => Sem.run Try.prog (loadCellsFrom ⟨w.heap.size, 0, none⟩ 0 N #[]) W' = .ok csk W' ∧ W'.cell? ⟨bl, ol + k * 4, none⟩ = some (.int .i64 (Dv.nthA l k).k) ∧ W'.cell? ⟨bl, ol + k * 4 + 1, none⟩ = some (.int .i64 (Dv.nthA l k).b) ∧ W'.cell? ⟨bl, ol + k * 4 + 2, none⟩ = some (.int .i64 (Dv.nthA l k).c) ∧ W'.cell? ⟨bl, ol + k * 4 + 3, none⟩ = some (.string (Dv.nthA l k).s) ∧ W'.cell? ⟨pa, 0, none⟩ = some (.bool xc) ∧ W'.cell? ⟨pa, 1, none⟩ = some (.int .i64 xn) ∧ W'.cell? ⟨pa, 2, none⟩ = some (.bool xo) ∧ Und W1 W') (first | assumption | exact SU.out _ hU0.drew | exact SU.out _ (Und.alloc hU7 _) | exact SU.out _ (Und.alloc (Und.alloc hU7 _) _) | exact SU.out _ (Und.put hU7 (by first | exact Nat.le_refl _ | exact Nat.le_succ _) _) | exact SU.out _ (Und.alloc (Und.put hU7 (by first | exact Nat.le_refl _ | exact Nat.le_succ _) _) _) | exact SU.out _ (Und.set (Und.set hU7 (by first | exact Nat.le_refl _ | exact Nat.le_succ _) _ _) (by first | exact Nat.le_refl _ | exact Nat.le_succ _) _ _) | exact SU.out _ (Und.alloc (Und.set (Und.set hU7 (by first | exact Nat.le_refl _ | exact Nat.le_succ _) _ _) (by first | exact Nat.le_refl _ | exact Nat.le_succ _) _ _) _) | exact SU.out _ (Und.set (Und.set (Und.put hU7 (by first | exact Nat.le_refl _ | exact Nat.le_succ _) _) (by first | exact Nat.le_refl _ | exact Nat.le_succ _) _ _) (by first | exact Nat.le_refl _ | exact Nat.le_succ _) _ _) | exact SU.out _ (Und.set (Und.set (Und.alloc hU7 _) (by first | exact Nat.le_refl _ | exact Nat.le_succ _) _ _) (by first | exact Nat.le_refl _ | exact Nat.le_succ _) _ _) | (go_split_ands; exact SU.out _ (by assumption)) | (go_split_ands; exact SU.out _ (Und.alloc (by assumption) _))) (first
            | (go_at_call 11; go_split_ands; (with_reducible refine (rdoC (HwVal.below HV0.out (Und.keeps (by assumption))) (fun x hx => Nat.lt_of_lt_of_le hx.2 (Und.keeps (by assumption)).size) HSM.out (Dv.nthA l k).k (Dv.nthA l k).b (Dv.nthA l k).c H33.out hmk (Dv.nthA l k).s xc xo xn (HLS.out k)).mono ?_); rintro e w7 ⟨cs7, rfl, hv7, hb7⟩; rw [← HE.out]; have hU7 : Und W1 w7 := Und.below (by assumption) hb7; (first | (have qq := shape4 hb7; obtain ⟨qZ, qR⟩ := qq) | (have qq := shape5 hb7; obtain ⟨qR, qZ⟩ := qq) | (have qZ := shape2 hb7) | (have qR := shape3 hb7) | skip); have hz7 := hb7.size; (try simp only [World.size_alloc, World.size_drew] at hz7); have z7 := sz18 T N R K HL.out (HwVal.size hv7); have sA := st1 (HwVal.size hv7) (HwVal.ones hv7) #[.slice none 0 0, .slice none 0 0, .int .u8 0, .int .u8 0, .int .u8 0, .int .u8 0, .int .u8 0, .int .u8 0, .int .u8 0, .int .u8 0, .int .u8 0, .int .u8 0, .int .u8 0, .int .u8 0, .int .u8 0, .int .u8 0, .int .u8 0, .int .u8 0] rfl; have sB := st2 (HwVal.size hv7) (HwVal.ones hv7) #[.slice none 0 0, .slice none 0 0, .int .u8 0, .int .u8 0, .int .u8 0, .int .u8 0, .int .u8 0, .int .u8 0, .int .u8 0, .int .u8 0, .int .u8 0, .int .u8 0, .int .u8 0, .int .u8 0, .int .u8 0, .int .u8 0, .int .u8 0, .int .u8 0] rfl; have sC := st3 (HwVal.size hv7) (HwVal.ones hv7) #[.slice none 0 0, .slice none 0 0, .int .u8 0, .int .u8 0, .int .u8 0, .int .u8 0, .int .u8 0, .int .u8 0, .int .u8 0, .int .u8 0, .int .u8 0, .int .u8 0, .int .u8 0, .int .u8 0, .int .u8 0, .int .u8 0, .int .u8 0, .int .u8 0] rfl; (try have sD := st4 (HwVal.size hv7) (HwVal.ones hv7) #[.slice none 0 0, .slice none 0 0, .int .u8 0, .int .u8 0, .int .u8 0, .int .u8 0, .int .u8 0, .int .u8 0, .int .u8 0, .int .u8 0, .int .u8 0, .int .u8 0, .int .u8 0, .int .u8 0, .int .u8 0, .int .u8 0, .int .u8 0, .int .u8 0] rfl _ _ qZ); (try have sE := fun o => st5 (HwVal.size hv7) (HwVal.ones hv7) #[.slice none 0 0, .slice none 0 0, .int .u8 0, .int .u8 0, .int .u8 0, .int .u8 0, .int .u8 0, .int .u8 0, .int .u8 0, .int .u8 0, .int .u8 0, .int .u8 0, .int .u8 0, .int .u8 0, .int .u8 0, .int .u8 0, .int .u8 0, .int .u8 0] rfl _ _ o qZ); (try (have qP := blk_put cs7 qR qZ; have qq := res_facts qP; obtain ⟨qP0, qP1, qP2, qP3⟩ := qq; clear qP)); (try (have qq := res_facts qR; obtain ⟨qR0, qR1, qR2, qR3⟩ := qq; have qRl := lt_of_heap qR)); have hps : ∀ X, (putRow w7 X cs7).heap.size = w7.heap.size := (fun X => size_putRow w7 X cs7); have HV7 := Lib.hid hv7; clear hv7))
          all_goals
            go_wp2_with fail
            go_meet
          all_goals
            have hG : ∀ S0, W1.heap.size ≤ S0 → ∀ x, ((Free w.heap.size u9 x ∧ x < W1.heap.size) ∨ S0 ≤ x) → Free w.heap.size u9 x := fun S0 hS x hx => HG.out x (hx.imp id (fun h => Nat.le_trans hS h))
            have hk0 : ∀ x, (Free w.heap.size u9 x ∧ x < W1.heap.size) → x < W1.heap.size := fun x h => h.2
            first
              | exact rh1 (hG _ (by first | exact Nat.le_refl _ | (simp only [World.size_alloc, World.size_drew]; omega))) HV7.out hU7
              | exact rh2 (hG _ (by first | exact Nat.le_refl _ | (simp only [World.size_alloc, World.size_drew]; omega))) HV7.out hU7
              | exact rh3 hk0 (hG _ (by first | exact Nat.le_refl _ | (simp only [World.size_alloc, World.size_drew]; omega))) HV7.out hU7 (by first | exact Nat.le_refl _ | exact Nat.le_succ _) (by simp only [World.size_alloc, World.size_drew]; omega) rfl qZ
              | exact rh5 hk0 (hG _ (by first | exact Nat.le_refl _ | (simp only [World.size_alloc, World.size_drew]; omega))) HV7.out hU7 (by first | exact Nat.le_refl _ | exact Nat.le_succ _) (by simp only [World.size_alloc, World.size_drew]; omega) qR
              | exact rh4 hk0 (hG _ (by first | exact Nat.le_refl _ | (simp only [World.size_alloc, World.size_drew]; omega))) HV7.out hU7 (by first | exact Nat.le_refl _ | exact Nat.le_succ _) (by simp only [World.size_alloc, World.size_drew]; omega) (by first | exact Nat.le_refl _ | exact Nat.le_succ _) (by simp only [World.size_alloc, World.size_drew]; omega) rfl qZ qR (by omega)
        case rest =>
          obtain ⟨pb, qb, cs2, rfl, rfl, rfl, P13, P14, hpw, hqw, V2, hb4⟩ := hcut
          rename World => W3
          have P3 := HP3.out
          have P6 := HP6.out
          have PF := HPF.out
          have V0 := HV0.out
          have own1 := HO1.out
          have HB1 := HB1'.out
          clear HP3 HP6 HPF HV0 HO1 HB1' SU hU0 HG
          have hf1 := lt_of_heap PF
          have P3 := (hb4.block _ (lt_of_heap P3)).trans P3
          have P6 := (hb4.block _ (lt_of_heap P6)).trans P6
          have PF := (hb4.block _ hf1).trans PF
          have V0 := (HwVal.below V0 hb4).more (fun _ h => h.1)
          have own3 := ownR_below own1 hb4
          have HB3 := HB1.trans (hb4.mono HB1.size)
          clear own1 HB1 hb4
          by_cases hE0 : E = 0
          · have eE : (E == 0) = true := by simp [hE0]
            have HE0 := Lib.hid hE0
            clear hE0
            have HEA : Hid (Dv.E fk mk (Dv.nthA l k) = 0) := Lib.hid (by rw [← HE0.out]; exact HE.out.symm)
            have l13 := HL.out.ld P13 (HwVal.size V2)
            have z13 := sz18 T N R K HL.out (HwVal.size V2)
            have hst := cells_row (cs := cs2) P3 (by rw [HwVal.size V2, HwVal.size V0]; decide) (HwVal.ones V2)
            go_upto_region 12 with fail
            clear l13 z13 hst
            have Q3 := put_same (cs := cs2) P3 (by rw [HwVal.size V2, HwVal.size V0])
            have far : ∀ x, x ≠ w.heap.size → (putRow W3 w.heap.size cs2).heap[x]? = W3.heap[x]? := fun x hx => put_other hx
            have Q6 := (far _ (by omega)).trans P6
            have QF := (far _ (by omega)).trans PF
            have Q14 := (far qb (by omega)).trans P14
            have V4 := V2.keep (W' := putRow W3 w.heap.size cs2) (fun b hb _ => far b hb.1) (fun _ h => h)
            have own4 := own_put own3 (by omega : w.heap.size < w.heap.size + 2) cs2
            have HB4 := put_below HB3 (Nat.le_refl _) (cs := cs2)
            obtain ⟨W4, hW4⟩ : ∃ W, W = putRow W3 w.heap.size cs2 := ⟨_, rfl⟩
            rw [← hW4] at Q3 Q6 QF Q14 V4 own4 HB4
            rw [← hW4]
            clear hW4 far P3 P6 PF P14 P13 V0 V2 own3 HB3
            have f0 := cell_block (i := 0) QF rfl
            cases xc
            · have c0 := cell_block (i := 0) Q14 rfl
              have c1 := cell_block (i := 1) Q14 rfl
              obtain ⟨i0, hi0, hy0, hy1, hy2⟩ := info_parts infoRes
              have hz4 := lt_of_heap Q14
              have HOW := Lib.hid own4
              have HQ := Lib.hid Q3
              have HQ6 := Lib.hid Q6
              have HV4 := Lib.hid V4
              have HB4' := Lib.hid HB4
              have hz4w := HB4.size
              clear own4 Q3 Q6 V4 HB4 QF Q14
              go_wp2_with (at_builtin; refine wpList_append_own_at _ rfl _ _ 51 rfl (w.heap.size + 2) 40 i0 _ 2 24 Try.underlying51 hi0 hy0 hy1 hy2 rfl (by decide) u9 outk.length (resCells outk) (by rfl) (HOW.out.alloc _) ⟨W4.heap.size, 0, none⟩ 1 1 [.int .i64 (doV fk mk (Dv.nthA l k).k (Dv.nthA l k).b (Dv.nthA l k).c (Dv.nthA l k).s false xo), .string (doB fk mk (Dv.nthA l k).k (Dv.nthA l k).b (Dv.nthA l k).c (Dv.nthA l k).s false)] (by rfl) (by rfl) (news_two _ _ _ _) (by simp [Value.oneCell']) (by have := HLEN.out; unfold maxLen; omega) (by have := HLEN.out; omega) (by simp; omega) ?_; intro v' w5 hown1 hgrow _ hat; have HN := Lib.hid hown1; have HG := Lib.hid hgrow; have HT := Lib.hid hat; clear hown1 hgrow hat)
              go_roundw
              case rel => exact ⟨k + 1, by omega, by go_num, Lib.hid (all_next HQ.out HQ6.out HZ.out HV4.out ((by have h := Dv.valid_F HVAL.out mk (Dv.nthA l k) (Dv.nthT fs k); rw [HX.out] at h; exact h)) ((by have h := Dv.len_M fk mk (Dv.nthA l k) (Dv.nthT fs k); rw [HX.out] at h; exact Nat.le_trans (Nat.le_of_eq h) hmk)) HLEN.out HN.out HG.out HT.out HOW.out ((by have h := Dv.run_on HRUN.out hlt HEA.out (by rw [HX.out]); rw [HX.out] at h; exact h)) HB4'.out)⟩
              case measure => simp [intOf]; omega
            · have l0 := HL.out.ld Q3 (HwVal.size V4)
              have zc := sz18 T N R K HL.out (HwVal.size V4)
              have hst := cells_row (cs := cs2) Q6 (by rw [HwVal.size V4, HZ.out]; decide) (HwVal.ones V4)
              have HV := Lib.hid V4
              have HO := Lib.hid own4
              have HBh := Lib.hid HB4
              have HE6 := Lib.hid (put_same (cs := cs2) Q6 (by rw [HwVal.size V4, HZ.out]))
              clear own4 Q3 Q6 V4 HB4 QF Q14
              go_wp2
              refine bodyPost_ret (v := .tuple #[.agg cs2, u9, .int .i64 0]) (by simp [results, Try.results17, asAddr, loadVar_hw HE6.out (HwVal.size HV.out)]) rfl ?_
              exact all_end HV.out HO.out HBh.out (by have h := Dv.run_cut HRUN.out hlt HEA.out (by rw [HX.out]); rw [HX.out] at h; exact h)
          · have eE : (E == 0) = false := by simp [hE0]
            have HEA : Hid (Dv.E fk mk (Dv.nthA l k) = E) := Lib.hid HE.out.symm
            have HNE : Hid (E ≠ 0) := Lib.hid hE0
            have l0 := HL.out.ld P3 (HwVal.size V0)
            have zc := sz18 T N R K HL.out (HwVal.size V0)
            have hst := cells_row (cs := csk) P6 (by rw [HwVal.size V0, HZ.out]; decide) (HwVal.ones V0)
            have HV := Lib.hid V0
            have HO := Lib.hid own3
            have HBh := Lib.hid HB3
            have HE6 := Lib.hid (put_same (cs := csk) P6 (by rw [HwVal.size V0, HZ.out]))
            clear own3 P3 P6 V0 HB3 PF P14 P13 V2
            go_wp2
            refine bodyPost_ret (v := .tuple #[.agg csk, u9, .int .i64 E]) (by simp [results, Try.results17, asAddr, loadVar_hw HE6.out (HwVal.size HV.out)]) rfl ?_
            exact all_end HV.out HO.out HBh.out (by have h := Dv.run_err HRUN.out hlt (by rw [HEA.out]; exact HNE.out); rw [HEA.out] at h; exact h)
      · have hx : Dv.nthT fs k = ⟨false, 0, false⟩ := by
          rw [Dv.nthT, List.getD_eq_getElem?_getD, List.getElem?_eq_none (by omega)]; rfl
        have HX0 := Lib.hid hx
        clear hx
        have HX : Hid (Dv.nthT fs k = ⟨false, 0, false⟩) := Lib.hid (HX0.out)
        go_upto_region 8 with fail
        have hb1 : Below wr.heap.size wr (wr.alloc (.cells #[.bool false, .int .i64 0, .bool false] 35)) := Below.new _
        have PF : (wr.alloc (.cells #[.bool false, .int .i64 0, .bool false] 35)).heap[wr.heap.size]? = some (.cells #[.bool false, .int .i64 0, .bool false] 35 (0, 0)) := heap_alloc_new wr _
        have x1 := (hb1.cell (p := ⟨bl, _, none⟩) hbl2).trans x1
        have x2 := (hb1.cell (p := ⟨bl, _, none⟩) hbl2).trans x2
        have x3 := (hb1.cell (p := ⟨bl, _, none⟩) hbl2).trans x3
        have x4 := (hb1.cell (p := ⟨bl, _, none⟩) hbl2).trans x4
        obtain ⟨W1, hW1⟩ : ∃ W, W = wr.alloc (.cells #[.bool false, .int .i64 0, .bool false] 35) := ⟨_, rfl⟩
        obtain ⟨pa, hpa⟩ : ∃ p, p = wr.heap.size := ⟨_, rfl⟩
        have hzp : w.heap.size + 1 < pa := by omega
        rw [← hW1] at hb1 PF x1 x2 x3 x4
        rw [← hpa] at PF
        rw [← hW1, ← hpa]
        clear hW1
        have P3 := (hb1.block _ (by omega)).trans h3
        have P6 := (hb1.block _ hz1).trans h6
        have V0 := (HwVal.below hv hb1).bnd
        have own1 := ownR_below hown hb1
        have HB1 := hbw.trans (hb1.mono hbw.size)
        have hbl3 : bl < W1.heap.size := Nat.lt_of_lt_of_le hbl2 hb1.size
        clear hb1 hpa h3 h6 hv hown hbw hz1 hbl
        obtain ⟨E, hE⟩ : ∃ E, E = doE fk mk (Dv.nthA l k).k (Dv.nthA l k).b (Dv.nthA l k).c (Dv.nthA l k).s := ⟨_, rfl⟩
        have HE := Lib.hid hE
        clear hE
        have f0 := cell_block (i := 0) PF rfl
        have f1 := cell_block (i := 1) PF rfl
        have f2 := cell_block (i := 2) PF rfl
        have hfl := lt_of_heap PF
        have H33 : Hid (Fz.ex fk (Dv.nthA l k).b (Dv.nthA l k).c = true → Fz.cellOf fk (Dv.nthA l k).b (Dv.nthA l k).c ≤ 3) := Lib.hid (fun _ => Fz.at_le HVAL.out _ _)
        have HSM := Lib.hid (Fz.valid_small HVAL.out)
        have HG : Hid (∀ x, ((Free w.heap.size u9 x ∧ x < W1.heap.size) ∨ W1.heap.size ≤ x) → Free w.heap.size u9 x) := Lib.hid (fun x hx => by
          rcases hx with hx | hx
          · exact hx.1
          · exact free_more own1 (by omega) hx)
        have hU0 : Und W1 W1 := ⟨Below.refl _ _⟩
        have SU : Hid (∀ W', Und W1 W' → Sem.run Try.prog (loadCellsFrom ⟨w.heap.size, 0, none⟩ 0 N #[]) W' = .ok csk W' ∧ W'.cell? ⟨bl, ol + k * 4, none⟩ = some (.int .i64 (Dv.nthA l k).k) ∧ W'.cell? ⟨bl, ol + k * 4 + 1, none⟩ = some (.int .i64 (Dv.nthA l k).b) ∧ W'.cell? ⟨bl, ol + k * 4 + 2, none⟩ = some (.int .i64 (Dv.nthA l k).c) ∧ W'.cell? ⟨bl, ol + k * 4 + 3, none⟩ = some (.string (Dv.nthA l k).s) ∧ W'.cell? ⟨pa, 0, none⟩ = some (.bool false) ∧ W'.cell? ⟨pa, 1, none⟩ = some (.int .i64 0) ∧ W'.cell? ⟨pa, 2, none⟩ = some (.bool false) ∧ Und W1 W') := Lib.hid (fun W' h => ⟨HL.out.ld ((h.keeps.block _ (lt_of_heap P3)).trans P3) (HwVal.size V0), Und.cell h x1 hbl3, Und.cell h x2 hbl3, Und.cell h x3 hbl3, Und.cell h x4 hbl3, Und.cell h f0 hfl, Und.cell h f1 hfl, Und.cell h f2 hfl, h⟩)
        have HP3 := Lib.hid P3
        have HP6 := Lib.hid P6
        have HPF := Lib.hid PF
        have HV0 := Lib.hid V0
        have HO1 := Lib.hid own1
        have HB1' := Lib.hid HB1
        clear P3 P6 PF V0 own1 HB1 x1 x2 x3 x4 f0 f1 f2
        go_cut [12, 13, 14] (fun x y z Wc => RanHw (Free w.heap.size u9) W1 (doV fk mk (Dv.nthA l k).k (Dv.nthA l k).b (Dv.nthA l k).c (Dv.nthA l k).s false false) (doB fk mk (Dv.nthA l k).k (Dv.nthA l k).b (Dv.nthA l k).c (Dv.nthA l k).s false) E (doF fk mk (Dv.nthA l k).k (Dv.nthA l k).b (Dv.nthA l k).c (Dv.nthA l k).s false) (doM fk mk (Dv.nthA l k).k (Dv.nthA l k).b (Dv.nthA l k).c (Dv.nthA l k).s false 0) r x y z Wc)
        case first =>
          go_region_held3 (fun W' => Sem.run Try.prog (loadCellsFrom ⟨w.heap.size, 0, none⟩ 0 N #[]) W' = .ok csk W' ∧ W'.cell? ⟨bl, ol + k * 4, none⟩ = some (.int .i64 (Dv.nthA l k).k) ∧ W'.cell? ⟨bl, ol + k * 4 + 1, none⟩ = some (.int .i64 (Dv.nthA l k).b) ∧ W'.cell? ⟨bl, ol + k * 4 + 2, none⟩ = some (.int .i64 (Dv.nthA l k).c) ∧ W'.cell? ⟨bl, ol + k * 4 + 3, none⟩ = some (.string (Dv.nthA l k).s) ∧ W'.cell? ⟨pa, 0, none⟩ = some (.bool false) ∧ W'.cell? ⟨pa, 1, none⟩ = some (.int .i64 0) ∧ W'.cell? ⟨pa, 2, none⟩ = some (.bool false) ∧ Und W1 W') (first | assumption | exact SU.out _ hU0.drew | exact SU.out _ (Und.alloc hU7 _) | exact SU.out _ (Und.alloc (Und.alloc hU7 _) _) | exact SU.out _ (Und.put hU7 (by first | exact Nat.le_refl _ | exact Nat.le_succ _) _) | exact SU.out _ (Und.alloc (Und.put hU7 (by first | exact Nat.le_refl _ | exact Nat.le_succ _) _) _) | exact SU.out _ (Und.set (Und.set hU7 (by first | exact Nat.le_refl _ | exact Nat.le_succ _) _ _) (by first | exact Nat.le_refl _ | exact Nat.le_succ _) _ _) | exact SU.out _ (Und.alloc (Und.set (Und.set hU7 (by first | exact Nat.le_refl _ | exact Nat.le_succ _) _ _) (by first | exact Nat.le_refl _ | exact Nat.le_succ _) _ _) _) | exact SU.out _ (Und.set (Und.set (Und.put hU7 (by first | exact Nat.le_refl _ | exact Nat.le_succ _) _) (by first | exact Nat.le_refl _ | exact Nat.le_succ _) _ _) (by first | exact Nat.le_refl _ | exact Nat.le_succ _) _ _) | exact SU.out _ (Und.set (Und.set (Und.alloc hU7 _) (by first | exact Nat.le_refl _ | exact Nat.le_succ _) _ _) (by first | exact Nat.le_refl _ | exact Nat.le_succ _) _ _) | (go_split_ands; exact SU.out _ (by assumption)) | (go_split_ands; exact SU.out _ (Und.alloc (by assumption) _))) (first
            | (go_at_call 11; go_split_ands; (with_reducible refine (rdoC (HwVal.below HV0.out (Und.keeps (by assumption))) (fun x hx => Nat.lt_of_lt_of_le hx.2 (Und.keeps (by assumption)).size) HSM.out (Dv.nthA l k).k (Dv.nthA l k).b (Dv.nthA l k).c H33.out hmk (Dv.nthA l k).s false false 0 (HLS.out k)).mono ?_); rintro e w7 ⟨cs7, rfl, hv7, hb7⟩; rw [← HE.out]; have hU7 : Und W1 w7 := Und.below (by assumption) hb7; (first | (have qq := shape4 hb7; obtain ⟨qZ, qR⟩ := qq) | (have qq := shape5 hb7; obtain ⟨qR, qZ⟩ := qq) | (have qZ := shape2 hb7) | (have qR := shape3 hb7) | skip); have hz7 := hb7.size; (try simp only [World.size_alloc, World.size_drew] at hz7); have z7 := sz18 T N R K HL.out (HwVal.size hv7); have sA := st1 (HwVal.size hv7) (HwVal.ones hv7) #[.slice none 0 0, .slice none 0 0, .int .u8 0, .int .u8 0, .int .u8 0, .int .u8 0, .int .u8 0, .int .u8 0, .int .u8 0, .int .u8 0, .int .u8 0, .int .u8 0, .int .u8 0, .int .u8 0, .int .u8 0, .int .u8 0, .int .u8 0, .int .u8 0] rfl; have sB := st2 (HwVal.size hv7) (HwVal.ones hv7) #[.slice none 0 0, .slice none 0 0, .int .u8 0, .int .u8 0, .int .u8 0, .int .u8 0, .int .u8 0, .int .u8 0, .int .u8 0, .int .u8 0, .int .u8 0, .int .u8 0, .int .u8 0, .int .u8 0, .int .u8 0, .int .u8 0, .int .u8 0, .int .u8 0] rfl; have sC := st3 (HwVal.size hv7) (HwVal.ones hv7) #[.slice none 0 0, .slice none 0 0, .int .u8 0, .int .u8 0, .int .u8 0, .int .u8 0, .int .u8 0, .int .u8 0, .int .u8 0, .int .u8 0, .int .u8 0, .int .u8 0, .int .u8 0, .int .u8 0, .int .u8 0, .int .u8 0, .int .u8 0, .int .u8 0] rfl; (try have sD := st4 (HwVal.size hv7) (HwVal.ones hv7) #[.slice none 0 0, .slice none 0 0, .int .u8 0, .int .u8 0, .int .u8 0, .int .u8 0, .int .u8 0, .int .u8 0, .int .u8 0, .int .u8 0, .int .u8 0, .int .u8 0, .int .u8 0, .int .u8 0, .int .u8 0, .int .u8 0, .int .u8 0, .int .u8 0] rfl _ _ qZ); (try have sE := fun o => st5 (HwVal.size hv7) (HwVal.ones hv7) #[.slice none 0 0, .slice none 0 0, .int .u8 0, .int .u8 0, .int .u8 0, .int .u8 0, .int .u8 0, .int .u8 0, .int .u8 0, .int .u8 0, .int .u8 0, .int .u8 0, .int .u8 0, .int .u8 0, .int .u8 0, .int .u8 0, .int .u8 0, .int .u8 0] rfl _ _ o qZ); (try (have qP := blk_put cs7 qR qZ; have qq := res_facts qP; obtain ⟨qP0, qP1, qP2, qP3⟩ := qq; clear qP)); (try (have qq := res_facts qR; obtain ⟨qR0, qR1, qR2, qR3⟩ := qq; have qRl := lt_of_heap qR)); have hps : ∀ X, (putRow w7 X cs7).heap.size = w7.heap.size := (fun X => size_putRow w7 X cs7); have HV7 := Lib.hid hv7; clear hv7))
          all_goals
            go_wp2_with fail
            go_meet
          all_goals
            have hG : ∀ S0, W1.heap.size ≤ S0 → ∀ x, ((Free w.heap.size u9 x ∧ x < W1.heap.size) ∨ S0 ≤ x) → Free w.heap.size u9 x := fun S0 hS x hx => HG.out x (hx.imp id (fun h => Nat.le_trans hS h))
            have hk0 : ∀ x, (Free w.heap.size u9 x ∧ x < W1.heap.size) → x < W1.heap.size := fun x h => h.2
            first
              | exact rh1 (hG _ (by first | exact Nat.le_refl _ | (simp only [World.size_alloc, World.size_drew]; omega))) HV7.out hU7
              | exact rh2 (hG _ (by first | exact Nat.le_refl _ | (simp only [World.size_alloc, World.size_drew]; omega))) HV7.out hU7
              | exact rh3 hk0 (hG _ (by first | exact Nat.le_refl _ | (simp only [World.size_alloc, World.size_drew]; omega))) HV7.out hU7 (by first | exact Nat.le_refl _ | exact Nat.le_succ _) (by simp only [World.size_alloc, World.size_drew]; omega) rfl qZ
              | exact rh5 hk0 (hG _ (by first | exact Nat.le_refl _ | (simp only [World.size_alloc, World.size_drew]; omega))) HV7.out hU7 (by first | exact Nat.le_refl _ | exact Nat.le_succ _) (by simp only [World.size_alloc, World.size_drew]; omega) qR
              | exact rh4 hk0 (hG _ (by first | exact Nat.le_refl _ | (simp only [World.size_alloc, World.size_drew]; omega))) HV7.out hU7 (by first | exact Nat.le_refl _ | exact Nat.le_succ _) (by simp only [World.size_alloc, World.size_drew]; omega) (by first | exact Nat.le_refl _ | exact Nat.le_succ _) (by simp only [World.size_alloc, World.size_drew]; omega) rfl qZ qR (by omega)
        case rest =>
          obtain ⟨pb, qb, cs2, rfl, rfl, rfl, P13, P14, hpw, hqw, V2, hb4⟩ := hcut
          rename World => W3
          have P3 := HP3.out
          have P6 := HP6.out
          have PF := HPF.out
          have V0 := HV0.out
          have own1 := HO1.out
          have HB1 := HB1'.out
          clear HP3 HP6 HPF HV0 HO1 HB1' SU hU0 HG
          have hf1 := lt_of_heap PF
          have P3 := (hb4.block _ (lt_of_heap P3)).trans P3
          have P6 := (hb4.block _ (lt_of_heap P6)).trans P6
          have PF := (hb4.block _ hf1).trans PF
          have V0 := (HwVal.below V0 hb4).more (fun _ h => h.1)
          have own3 := ownR_below own1 hb4
          have HB3 := HB1.trans (hb4.mono HB1.size)
          clear own1 HB1 hb4
          by_cases hE0 : E = 0
          · have eE : (E == 0) = true := by simp [hE0]
            have HE0 := Lib.hid hE0
            clear hE0
            have HEA : Hid (Dv.E fk mk (Dv.nthA l k) = 0) := Lib.hid (by rw [← HE0.out]; exact HE.out.symm)
            have l13 := HL.out.ld P13 (HwVal.size V2)
            have z13 := sz18 T N R K HL.out (HwVal.size V2)
            have hst := cells_row (cs := cs2) P3 (by rw [HwVal.size V2, HwVal.size V0]; decide) (HwVal.ones V2)
            go_upto_region 12 with fail
            clear l13 z13 hst
            have Q3 := put_same (cs := cs2) P3 (by rw [HwVal.size V2, HwVal.size V0])
            have far : ∀ x, x ≠ w.heap.size → (putRow W3 w.heap.size cs2).heap[x]? = W3.heap[x]? := fun x hx => put_other hx
            have Q6 := (far _ (by omega)).trans P6
            have QF := (far _ (by omega)).trans PF
            have Q14 := (far qb (by omega)).trans P14
            have V4 := V2.keep (W' := putRow W3 w.heap.size cs2) (fun b hb _ => far b hb.1) (fun _ h => h)
            have own4 := own_put own3 (by omega : w.heap.size < w.heap.size + 2) cs2
            have HB4 := put_below HB3 (Nat.le_refl _) (cs := cs2)
            obtain ⟨W4, hW4⟩ : ∃ W, W = putRow W3 w.heap.size cs2 := ⟨_, rfl⟩
            rw [← hW4] at Q3 Q6 QF Q14 V4 own4 HB4
            rw [← hW4]
            clear hW4 far P3 P6 PF P14 P13 V0 V2 own3 HB3
            have f0 := cell_block (i := 0) QF rfl
            have c0 := cell_block (i := 0) Q14 rfl
            have c1 := cell_block (i := 1) Q14 rfl
            obtain ⟨i0, hi0, hy0, hy1, hy2⟩ := info_parts infoRes
            have hz4 := lt_of_heap Q14
            have HOW := Lib.hid own4
            have HQ := Lib.hid Q3
            have HQ6 := Lib.hid Q6
            have HV4 := Lib.hid V4
            have HB4' := Lib.hid HB4
            have hz4w := HB4.size
            clear own4 Q3 Q6 V4 HB4 QF Q14
            go_wp2_with (at_builtin; refine wpList_append_own_at _ rfl _ _ 51 rfl (w.heap.size + 2) 40 i0 _ 2 24 Try.underlying51 hi0 hy0 hy1 hy2 rfl (by decide) u9 outk.length (resCells outk) (by rfl) (HOW.out.alloc _) ⟨W4.heap.size, 0, none⟩ 1 1 [.int .i64 (doV fk mk (Dv.nthA l k).k (Dv.nthA l k).b (Dv.nthA l k).c (Dv.nthA l k).s false false), .string (doB fk mk (Dv.nthA l k).k (Dv.nthA l k).b (Dv.nthA l k).c (Dv.nthA l k).s false)] (by rfl) (by rfl) (news_two _ _ _ _) (by simp [Value.oneCell']) (by have := HLEN.out; unfold maxLen; omega) (by have := HLEN.out; omega) (by simp; omega) ?_; intro v' w5 hown1 hgrow _ hat; have HN := Lib.hid hown1; have HG := Lib.hid hgrow; have HT := Lib.hid hat; clear hown1 hgrow hat)
            go_roundw
            case rel => exact ⟨k + 1, by omega, by go_num, Lib.hid (all_next HQ.out HQ6.out HZ.out HV4.out ((by have h := Dv.valid_F HVAL.out mk (Dv.nthA l k) (Dv.nthT fs k); rw [HX.out] at h; exact h)) ((by have h := Dv.len_M fk mk (Dv.nthA l k) (Dv.nthT fs k); rw [HX.out] at h; exact Nat.le_trans (Nat.le_of_eq h) hmk)) HLEN.out HN.out HG.out HT.out HOW.out ((by have h := Dv.run_on HRUN.out hlt HEA.out (by rw [HX.out]); rw [HX.out] at h; exact h)) HB4'.out)⟩
            case measure => simp [intOf]; omega
          · have eE : (E == 0) = false := by simp [hE0]
            have HEA : Hid (Dv.E fk mk (Dv.nthA l k) = E) := Lib.hid HE.out.symm
            have HNE : Hid (E ≠ 0) := Lib.hid hE0
            have l0 := HL.out.ld P3 (HwVal.size V0)
            have zc := sz18 T N R K HL.out (HwVal.size V0)
            have hst := cells_row (cs := csk) P6 (by rw [HwVal.size V0, HZ.out]; decide) (HwVal.ones V0)
            have HV := Lib.hid V0
            have HO := Lib.hid own3
            have HBh := Lib.hid HB3
            have HE6 := Lib.hid (put_same (cs := csk) P6 (by rw [HwVal.size V0, HZ.out]))
            clear own3 P3 P6 V0 HB3 PF P14 P13 V2
            go_wp2
            refine bodyPost_ret (v := .tuple #[.agg csk, u9, .int .i64 E]) (by simp [results, Try.results17, asAddr, loadVar_hw HE6.out (HwVal.size HV.out)]) rfl ?_
            exact all_end HV.out HO.out HBh.out (by have h := Dv.run_err HRUN.out hlt (by rw [HEA.out]; exact HNE.out); rw [HEA.out] at h; exact h)
    · have hk3 : k = l.length := by omega
      have HK3 := Lib.hid (Dv.run_end HRUN.out (by omega))
      have hle : ¬ k < l.length := by omega
      clear hk3
      have l0 := HL.out.ld h3 (HwVal.size hv)
      have zc := sz18 T N R K HL.out (HwVal.size hv)
      have hst := cells_row (cs := csk) h6 (by rw [HwVal.size hv, HZ.out]; decide) (HwVal.ones hv)
      have HV := Lib.hid hv
      have HO := Lib.hid hown
      have HBh := Lib.hid hbw
      have HE6 := Lib.hid (put_same (cs := csk) h6 (by rw [HwVal.size hv, HZ.out]))
      clear hown h3 h6 hv hbw
      go_wp2
      refine bodyPost_ret (v := .tuple #[.agg csk, u9, .int .i64 0]) (by simp [results, Try.results17, asAddr, loadVar_hw HE6.out (HwVal.size HV.out)]) rfl ?_
      exact all_end HV.out HO.out HBh.out HK3.out
end Go.Proofs.Ytncgechmloekbaa

namespace Go.Proofs.Ytncgechmloekbaa
open Go.RowKit

set_option maxRecDepth 100000 in
set_option maxHeartbeats 2000000 in
theorem results_same (v u : Value) (out : List (Int × ByteArray)) (w : World) (hv : RRes w w.heap.size v out) (hu : RRes w w.heap.size u out) (hlen : out.length ≤ 1000) :
    Calls Try.prog 18 #[v, u] w fun e w' => e = .returned (.bool true) ∧ Below w.heap.size w w' := by
  obtain ⟨A, c, rfl, hn, hc, hcs⟩ := hv
  obtain ⟨A2, c2, rfl, hn2, hc2, hcs2⟩ := hu
  unfold maxLen at hc hc2
  go_enter Try.func18, Try.ntmps18
  go_wp2
  go_loopw [5] (fun i wr => ∃ k : Nat, k ≤ out.length ∧ i = .int .i64 k ∧ Hid (Below w.heap.size w wr)) (fun i _ => out.length - (intOf i).toNat)
  case atStart => exact ⟨0, Nat.zero_le _, rfl, Lib.hid (Below.refl _ _)⟩
  case round =>
    obtain ⟨k, hk, rfl, HB⟩ := hrel
    by_cases hlt : k < out.length
    · obtain ⟨b, o, rfl, hb, hg⟩ := hcs (by omega)
      obtain ⟨b2, o2, rfl, hb2, hg2⟩ := hcs2 (by omega)
      obtain ⟨g1, g2⟩ := hg k hlt
      obtain ⟨g3, g4⟩ := hg2 k hlt
      have x1 := (HB.out.cell (p := ⟨b, _, none⟩) hb).trans g1
      have x2 := (HB.out.cell (p := ⟨b, _, none⟩) hb).trans g2
      have x3 := (HB.out.cell (p := ⟨b2, _, none⟩) hb2).trans g3
      have x4 := (HB.out.cell (p := ⟨b2, _, none⟩) hb2).trans g4
      clear g1 g2 g3 g4 hg hg2 hcs hcs2
      have i1 : (0 : Int) ≤ k := by omega
      go_upto_region 6 with fail
      go_quiet (fail)
      go_wp2
      go_roundw
      case rel => exact ⟨k + 1, by omega, by go_num, Lib.hid (HB.out.trans ((Und.drewN (W3 := wr) ⟨Below.refl _ _⟩ _).keeps.mono HB.out.size))⟩
      case measure => simp [intOf]; omega
    · go_wp2
      go_ret
      exact ⟨rfl, HB.out⟩

end Go.Proofs.Ytncgechmloekbaa

namespace Go.Proofs.Ytncgechmloekbaa
open Go.ChangeShapes Go.WideShapes Go.ChangeAt Go.RowKit Go.Deep

section
variable {H : Type} {enc : TypeId × Value → H} {w : World} {base : Nat} {held : Bool}

set_option maxRecDepth 100000 in
theorem reads_accs {fuel : Nat} {cs : List Value} {x : DataW H × List MemPlace} (h : DataW.trod enc Try.prog w base (fun _ => true) held fuel 49 cs = some x) : ∃ v l, cs = [v] ∧ RAccs w w.heap.size v l := by
  rcases open_slice Try.underlying49 h with ⟨rfl, _⟩ | ⟨a, len, cap, m, n, D, Pl, rfl, _, hl, hm, hmm, _, hi⟩
  · exact ⟨_, [], rfl, none, 0, rfl, by simp, by simp [maxLen], fun i => by simp [Dv.nthA, maxLen]; decide, fun h => absurd h (by simp)⟩
  · simp only [if_true] at hmm
    have hC : Try.prog.cellsOf 33 = 4 := by kernel_rfl
    rw [hC] at hi
    have each : ∀ i, i < len → ∃ y : Dv.Acc, y.s.size ≤ maxLen ∧ w.cell? (a.add (i * 4)) = some (.int .i64 y.k) ∧ w.cell? ((a.add (i * 4)).add 1) = some (.int .i64 y.b) ∧ w.cell? ((a.add (i * 4)).add 2) = some (.int .i64 y.c) ∧ w.cell? ((a.add (i * 4)).add 3) = some (.string y.s) := by
      intro i hil
      obtain ⟨cs', hcs, ht⟩ := hi i (by omega)
      obtain ⟨_, hcl, hat⟩ := World.cells?_some hcs
      obtain ⟨k, b, c, s, rfl, hs⟩ := reads_acc ht
      have g0 := hat 0 (by omega)
      have g1 := hat 1 (by omega)
      have g2 := hat 2 (by omega)
      have g3 := hat 3 (by omega)
      simp at g0 g1 g2 g3
      exact ⟨⟨k, b, c, s⟩, hs, by simpa [Addr.add] using g0, g1, g2, g3⟩
    haveI : Inhabited Dv.Acc := ⟨⟨0, 0, 0, ⟨#[]⟩⟩⟩
    obtain ⟨y, hy⟩ := choose_lt each
    have hlen : ((List.range len).map y).length = len := by simp
    have e : ∀ i, i < len → Dv.nthA ((List.range len).map y) i = y i := fun i hi => by simp [Dv.nthA, hi]
    refine ⟨_, (List.range len).map y, rfl, some a, cap, by rw [hlen], by omega, hm, fun i => ?_, ?_⟩
    · by_cases hi : i < len
      · rw [e i hi]; exact (hy i hi).1
      · simp [Dv.nthA, hi, maxLen]; decide
    rw [hlen]
    intro hpos
    obtain ⟨b, off, spot⟩ := a
    have hc := (hy 0 hpos).2.1
    have hspot : spot = none := by simpa [Addr.add] using World.cell?_spot hc
    subst hspot
    have hadd : ∀ b off i, (⟨b, off, none⟩ : Addr).add i = ⟨b, off + i, none⟩ := by intro b off i; unfold Addr.add; split <;> simp_all
    refine ⟨b, off, rfl, ?_, fun i hi => ?_⟩
    · have := World.block_lt_of_cell? w _ hc
      simpa [Addr.add] using this
    · obtain ⟨_, q0, q1, q2, q3⟩ := hy i hi
      rw [hadd] at q0
      rw [hadd, hadd] at q1 q2 q3
      rw [e i hi]
      exact ⟨q0, q1, q2, q3⟩

set_option maxRecDepth 100000 in
theorem reads_flts {fuel : Nat} {cs : List Value} {x : DataW H × List MemPlace} (h : DataW.trod enc Try.prog w base (fun _ => true) held fuel 50 cs = some x) : ∃ v l, cs = [v] ∧ RFlts w w.heap.size v l := by
  rcases open_slice Try.underlying50 h with ⟨rfl, _⟩ | ⟨a, len, cap, m, n, D, Pl, rfl, _, hl, hm, hmm, _, hi⟩
  · exact ⟨_, [], rfl, none, 0, rfl, by simp, by simp [maxLen], fun h => absurd h (by simp)⟩
  · simp only [if_true] at hmm
    have hC : Try.prog.cellsOf 35 = 3 := by kernel_rfl
    rw [hC] at hi
    have each : ∀ i, i < len → ∃ y : Dv.Flt, w.cell? (a.add (i * 3)) = some (.bool y.cut) ∧ w.cell? ((a.add (i * 3)).add 1) = some (.int .i64 y.nb) ∧ w.cell? ((a.add (i * 3)).add 2) = some (.bool y.noise) := by
      intro i hil
      obtain ⟨cs', hcs, ht⟩ := hi i (by omega)
      obtain ⟨_, hcl, hat⟩ := World.cells?_some hcs
      obtain ⟨cu, nb, no, rfl⟩ := reads_flt ht
      have g0 := hat 0 (by omega)
      have g1 := hat 1 (by omega)
      have g2 := hat 2 (by omega)
      simp at g0 g1 g2
      exact ⟨⟨cu, nb, no⟩, by simpa [Addr.add] using g0, g1, g2⟩
    haveI : Inhabited Dv.Flt := ⟨⟨false, 0, false⟩⟩
    obtain ⟨y, hy⟩ := choose_lt each
    have hlen : ((List.range len).map y).length = len := by simp
    have e : ∀ i, i < len → Dv.nthT ((List.range len).map y) i = y i := fun i hi => by simp [Dv.nthT, hi]
    refine ⟨_, (List.range len).map y, rfl, some a, cap, by rw [hlen], by omega, hm, ?_⟩
    rw [hlen]
    intro hpos
    obtain ⟨b, off, spot⟩ := a
    have hc := (hy 0 hpos).1
    have hspot : spot = none := by simpa [Addr.add] using World.cell?_spot hc
    subst hspot
    have hadd : ∀ b off i, (⟨b, off, none⟩ : Addr).add i = ⟨b, off + i, none⟩ := by intro b off i; unfold Addr.add; split <;> simp_all
    refine ⟨b, off, rfl, ?_, fun i hi => ?_⟩
    · have := World.block_lt_of_cell? w _ hc
      simpa [Addr.add] using this
    · obtain ⟨q0, q1, q2⟩ := hy i hi
      rw [hadd] at q0
      rw [hadd, hadd] at q1 q2
      rw [e i hi]
      exact ⟨q0, q1, q2⟩

end

end Go.Proofs.Ytncgechmloekbaa
