/- Chapter 29, the walk: atom of the reference. -/
import Derived.Test.YtdolpmmnjndfkaaGreatDoorPoRfF
import Derived.Test.YtdolpmmnjndfkaaGreatDoorPoRfE0
namespace Go.Proofs.YtdolpmmnjndfkaaGreatDoor
open Go.RowKit
/-- the memory that atom works in: the state at block yb, the node at block nb -/
structure AtMem (w W : World) (vl vn : Value) (k : Int) (yb nb : Nat) (x : Po.Nd) : Prop where
  y : W.heap[yb]? = some (.cells #[vl, .int .i64 k, vn] 57 (0, 0))
  n : W.heap[nb]? = some (.cells (ndVals x (.slice none 0 0)).toArray 67 (0, 0))
  r1 : W.heap[w.heap.size + 1]? = some (.cells nd0 67 (0, 0))
  r2 : W.heap[w.heap.size + 1 + 1]? = some (.cells #[.slice none 0 0, .int .i64 0, .slice none 0 0] 57 (0, 0))
  bel : Below w.heap.size w W
  hy : w.heap.size + 3 ≤ yb ∧ yb < W.heap.size
  hn : w.heap.size + 3 ≤ nb ∧ nb < W.heap.size
  ne : yb ≠ nb
theorem size_setCells (b : Nat) : ∀ (vs : List Value) (o : Nat) (w : World), (w.setCells b o vs).heap.size = w.heap.size
  | [], _, _ => rfl
  | v :: vs, o, w => by rw [World.setCells, size_setCells b vs]; simp
section
variable {w W W' : World} {vl vn : Value} {k : Int} {yb nb : Nat} {x : Po.Nd}
theorem AtMem.below (h : AtMem w W vl vn k yb nb x) (hb : Below W.heap.size W W') : AtMem w W' vl vn k yb nb x := by
  have hy := h.hy
  have hn := h.hn
  have hs := hb.size
  exact ⟨(hb.block _ hy.2).trans h.y, (hb.block _ hn.2).trans h.n, (hb.block _ (by omega)).trans h.r1, (hb.block _ (by omega)).trans h.r2, h.bel.trans (hb.mono h.bel.size), ⟨hy.1, by omega⟩, ⟨hn.1, by omega⟩, h.ne⟩
theorem AtMem.other {k' : Int} {zb : Nat} (h : AtMem w W vl vn k yb nb x) (q : W.heap[zb]? = some (.cells #[vl, .int .i64 k', vn] 57 (0, 0))) (hz : nb < zb) : AtMem w W vl vn k' zb nb x := by
  have hn := h.hn
  exact ⟨q, h.n, h.r1, h.r2, h.bel, ⟨by omega, lt_of_block q⟩, hn, by omega⟩
theorem AtMem.setK (h : AtMem w W vl vn k yb nb x) (k' : Int) : AtMem w (W.setCell ⟨yb, 1, none⟩ (.int .i64 k')) vl vn k' yb nb x := by
  have hy := h.hy
  have hn := h.hn
  have hne := h.ne
  have hs : (W.setCell ⟨yb, 1, none⟩ (.int .i64 k')).heap.size = W.heap.size := by simp [World.setCell]
  exact ⟨set_mid h.y, (set_other _ _ _ _ _ (Ne.symm hne)).trans h.n, (set_other _ _ _ _ _ (by omega)).trans h.r1, (set_other _ _ _ _ _ (by omega)).trans h.r2, h.bel.setCell (p := ⟨yb, 1, none⟩) (by simp only; omega) _, by rw [hs]; exact hy, by rw [hs]; exact hn, hne⟩
theorem AtMem.setX (h : AtMem w W vl vn k yb nb x) (k' : Int) : AtMem w (putRow W yb #[vl, .int .i64 k', vn]) vl vn k' yb nb x := by
  have hy := h.hy
  have hn := h.hn
  have hne := h.ne
  exact ⟨put_same h.y rfl, (put_other (Ne.symm hne)).trans h.n, (put_other (by omega)).trans h.r1, (put_other (by omega)).trans h.r2, put_below h.bel (by omega), by rw [size_putRow]; exact hy, by rw [size_putRow]; exact hn, hne⟩
theorem AtMem.setN {j : Nat} {v : Value} {x' : Po.Nd} (h : AtMem w W vl vn k yb nb x) (hv : (ndVals x (.slice none 0 0)).toArray.setIfInBounds j v = (ndVals x' (.slice none 0 0)).toArray) : AtMem w (W.setCell ⟨nb, j, none⟩ v) vl vn k yb nb x' := by
  have hy := h.hy
  have hn := h.hn
  have hne := h.ne
  have hs : (W.setCell ⟨nb, j, none⟩ v).heap.size = W.heap.size := by simp [World.setCell]
  have hq : (W.setCell ⟨nb, j, none⟩ v).heap[nb]? = some (.cells (ndVals x' (.slice none 0 0)).toArray 67 (0, 0)) := by
    rw [← hv]
    simp only [World.setCell, Array.getElem?_modify, h.n]
    simp
  exact ⟨(set_other _ _ _ _ _ hne).trans h.y, hq, (set_other _ _ _ _ _ (by omega)).trans h.r1, (set_other _ _ _ _ _ (by omega)).trans h.r2, h.bel.setCell (p := ⟨nb, j, none⟩) (by simp only; omega) _, by rw [hs]; exact hy, by rw [hs]; exact hn, hne⟩
theorem nd_cell (h : AtMem w W vl vn k yb nb x) : W.cell? ⟨nb, 0, none⟩ = some (.int .i64 x.k) ∧ W.cell? ⟨nb, 1, none⟩ = some (.int .i64 x.n) ∧ W.cell? ⟨nb, 2, none⟩ = some (.int .i64 x.m) ∧ W.cell? ⟨nb, 3, none⟩ = some (.int .i64 x.side) ∧ ∀ o, W.frozen? ⟨nb, o, none⟩ = false := by
  refine ⟨?_, ?_, ?_, ?_, fun o => ?_⟩ <;> simp [World.cell?, World.frozen?, h.n, ndVals]
end
theorem ndOne (x : Po.Nd) : (ndVals x (.slice none 0 0)).toArray.all (·.oneCell') = true := nd_one rfl
theorem AtMem.pair {w W : World} {A1 A2 : Option Addr} {n1 c1 n2 c2 : Nat} {k : Int} {yb nb : Nat} {x : Po.Nd} (h : AtMem w W (.slice A1 n1 c1) (.slice A2 n2 c2) k yb nb x) (hd : x.dg.length = 16) :
    PairAt Tryz.prog W 67 57 nb yb (w.heap.size + 1) (w.heap.size + 1 + 1) (ndVals x (.slice none 0 0)).toArray #[.slice A1 n1 c1, .int .i64 k, .slice A2 n2 c2] nd0 #[.slice none 0 0, .int .i64 0, .slice none 0 0] :=
  ⟨h.n, h.y, h.r1, h.r2, by rw [nd_size hd]; rfl, rfl, ndOne x, by simp [Value.oneCell'], by have := h.hy; omega, by omega, row_node, row_at, by rw [nd_size hd]; exact size_node, size_at⟩
/-- what atom answers -/
def AtomR (L : List Po.Tok) (k0 : Int) (vl vn : Value) (w : World) (e : Ending) (w' : World) : Prop :=
  ∃ (x : Po.Nd) (k : Int), e = .returned (.tuple #[.agg (ndVals x (.slice none 0 0)).toArray, .agg #[vl, .int .i64 k, vn]]) ∧ RR L (Po.atom (Po.rest L k0)) x k ∧ x.dg.length = 16 ∧ x.of = [] ∧ Below w.heap.size w w'
theorem AtMem.says {w W : World} {A1 A2 : Option Addr} {n1 c1 n2 c2 : Nat} {k k0 : Int} {yb nb : Nat} {x : Po.Nd} {L : List Po.Tok} (h : AtMem w W (.slice A1 n1 c1) (.slice A2 n2 c2) k yb nb x) (hd : x.dg.length = 16) (ho : x.of = []) (hr : RR L (Po.atom (Po.rest L k0)) x k) :
    AtomR L k0 (.slice A1 n1 c1) (.slice A2 n2 c2) w (.returned (.tuple #[.agg (ndVals x (.slice none 0 0)).toArray, .agg #[.slice A1 n1 c1, .int .i64 k, .slice A2 n2 c2]])) (pairW W (w.heap.size + 1) (w.heap.size + 1 + 1) (ndVals x (.slice none 0 0)).toArray #[.slice A1 n1 c1, .int .i64 k, .slice A2 n2 c2]) :=
  ⟨x, k, rfl, hr, hd, ho, h.bel.trans (pairW_below (by omega) (by omega))⟩
theorem AtMem.saysS {w W : World} {A1 A2 : Option Addr} {n1 c1 n2 c2 : Nat} {k k0 : Int} {yb nb : Nat} {x : Po.Nd} {L : List Po.Tok} {S : Ending → World → Prop} (h : AtMem w W (.slice A1 n1 c1) (.slice A2 n2 c2) k yb nb x) (hS : AtomR L k0 (.slice A1 n1 c1) (.slice A2 n2 c2) w = S) (hd : x.dg.length = 16) (ho : x.of = []) (hr : RR L (Po.atom (Po.rest L k0)) x k) :
    S (.returned (.tuple #[.agg (ndVals x (.slice none 0 0)).toArray, .agg #[.slice A1 n1 c1, .int .i64 k, .slice A2 n2 c2]])) (pairW W (w.heap.size + 1) (w.heap.size + 1 + 1) (ndVals x (.slice none 0 0)).toArray #[.slice A1 n1 c1, .int .i64 k, .slice A2 n2 c2]) := hS ▸ h.says hd ho hr
theorem rcmp_yes {L : List Po.Tok} {k : Int} {kd : Nat} (h : Po.isT (Po.rest L k) 3 [61, 61] = true) : rcmp L k kd = (⟨kd, (rmust L (k + 1) 2 []).1.n, 0, 0, Po.zero16, []⟩, (rmust L (k + 1) 2 []).2) := by unfold rcmp; rw [if_pos h]
theorem rcmp_no {L : List Po.Tok} {k : Int} {kd : Nat} (h : Po.isT (Po.rest L k) 3 [61, 61] = false) : rcmp L k kd = (⟨kd + 1, (rmust L (rmust L k 3 [62, 61]).2 2 []).1.n, 0, 0, Po.zero16, []⟩, (rmust L (rmust L k 3 [62, 61]).2 2 []).2) := by unfold rcmp; rw [if_neg (by rw [h]; decide)]
theorem st_node (W : World) : Sem.run Tryz.prog (storeCells ⟨W.heap.size, 0, none⟩ nd0.toList) (W.alloc (.cells #[.int .i64 0, .int .i64 0, .int .i64 0, .int .i64 0, .int .u8 0, .int .u8 0, .int .u8 0, .int .u8 0, .int .u8 0, .int .u8 0, .int .u8 0, .int .u8 0, .int .u8 0, .int .u8 0, .int .u8 0, .int .u8 0, .int .u8 0, .int .u8 0, .int .u8 0, .int .u8 0, .slice none 0 0] 67)) = .ok () (W.alloc (.cells nd0 67)) := by
  have h := cells_row (cs := nd0) (heap_alloc_new W (.cells nd0 67)) (Nat.le_refl _) (nd_one rfl)
  rw [put_new rfl] at h
  exact h
theorem st_dig (v : World) {dg : List Nat} (hd : dg.length = 16) (o : Obj) : Sem.run Tryz.prog (storeCells ⟨v.heap.size, 0, none⟩ (dgVals dg).toArray.toList) ((v.alloc (.cells #[.int .u8 0, .int .u8 0, .int .u8 0, .int .u8 0, .int .u8 0, .int .u8 0, .int .u8 0, .int .u8 0, .int .u8 0, .int .u8 0, .int .u8 0, .int .u8 0, .int .u8 0, .int .u8 0, .int .u8 0, .int .u8 0] 65)).alloc o) = .ok () ((v.alloc (.cells (dgVals dg).toArray 65)).alloc o) := by
  have hs : (dgVals dg).toArray.size = 16 := by simp [dgVals, hd]
  have h := cells_row (cs := (dgVals dg).toArray) (w := (v.alloc (.cells (digCells []) 65)).alloc o) (b := v.heap.size) ((Below.heap_alloc _ _ _ (by simp)).trans (heap_alloc_new v _)) (by rw [hs]; exact Nat.le_refl _) (by rw [← fillD_full hd, ← fillD_cells]; exact dig_one _)
  rw [put_second (by rw [hs]; rfl)] at h
  exact h
theorem cells_dig {W : World} {nb : Nat} {x : Po.Nd} {dg : List Nat} (h : W.heap[nb]? = some (.cells (ndVals x (.slice none 0 0)).toArray 67 (0, 0))) (hx : x.dg.length = 16) (hd : dg.length = 16) : Sem.run Tryz.prog (storeCells ⟨nb, 4, none⟩ (dgVals dg).toArray.toList) W = .ok () (W.setCells nb 4 (dgVals dg)) := by
  have ht := there_block (n := 21) h (by rw [nd_size hx]; exact Nat.le_refl _)
  have hl : (dgVals dg).length = 16 := by simp [dgVals, hd]
  have := run_storeCells_cells (P := Tryz.prog) nb 4 (dgVals dg) 0 W (fun j hj => by have := (ht (4 + j) (by omega)).1; simpa using this) (fun j hj => by have := (ht (4 + j) (by omega)).2; simpa using this) (fun v hv => by simp only [dgVals, List.mem_map] at hv; obtain ⟨b, _, rfl⟩ := hv; rfl)
  simpa using this
theorem splice_dig (n : Nat) {dg : List Nat} (hd : dg.length = 16) : splice (ndVals ⟨6, n, 0, 0, Po.zero16, []⟩ (.slice none 0 0)).toArray 4 (dgVals dg) = (ndVals ⟨6, n, 0, 0, dg, []⟩ (.slice none 0 0)).toArray := by
  have hz := nd_size (x := ⟨6, n, 0, 0, Po.zero16, []⟩) (v := .slice none 0 0) rfl
  have hz2 := nd_size (x := ⟨6, n, 0, 0, dg, []⟩) (v := .slice none 0 0) hd
  have hl : (dgVals dg).length = 16 := by simp [dgVals, hd]
  obtain ⟨p0, p1, p2, p3, p4, -⟩ := nd_cells ⟨6, n, 0, 0, Po.zero16, []⟩ (.slice none 0 0) rfl
  obtain ⟨r0, r1, r2, r3, r4, -⟩ := nd_cells ⟨6, n, 0, 0, dg, []⟩ (.slice none 0 0) hd
  have hdg := nd_dig ⟨6, n, 0, 0, dg, []⟩ (.slice none 0 0)
  apply Array.ext_getElem?
  intro i
  by_cases hi : i < 21
  · rw [splice_at _ _ _ _ (by rw [hz]; exact hi)]
    split
    · rename_i h
      obtain ⟨v, hv⟩ : ∃ v, (dgVals dg)[i - 4]? = some v := ⟨_, List.getElem?_eq_getElem (by omega)⟩
      have := hdg (i - 4) v hv
      rw [show 4 + (i - 4) = i by omega] at this
      rw [hv, this]
    · rename_i h
      have hc : i = 0 ∨ i = 1 ∨ i = 2 ∨ i = 3 ∨ i = 20 := by omega
      rcases hc with rfl | rfl | rfl | rfl | rfl
      · rw [p0, r0]
      · rw [p1, r1]
      · rw [p2, r2]
      · rw [p3, r3]
      · rw [p4, r4]
  · rw [Array.getElem?_eq_none (by rw [splice_size, hz]; omega), Array.getElem?_eq_none (by rw [hz2]; omega)]
theorem AtMem.setDg {w W : World} {vl vn : Value} {k : Int} {yb nb n : Nat} {dg : List Nat} (h : AtMem w W vl vn k yb nb ⟨6, n, 0, 0, Po.zero16, []⟩) (hd : dg.length = 16) : AtMem w (W.setCells nb 4 (dgVals dg)) vl vn k yb nb ⟨6, n, 0, 0, dg, []⟩ := by
  have hy := h.hy
  have hn := h.hn
  have hne := h.ne
  have hq := heap_splice (dgVals dg) 4 _ W h.n
  rw [splice_dig n hd] at hq
  have hs : (W.setCells nb 4 (dgVals dg)).heap.size = W.heap.size := size_setCells _ _ _ _
  exact ⟨(heap_setCells _ _ _ _ _ hne).trans h.y, hq, (heap_setCells _ _ _ _ _ (by omega)).trans h.r1, (heap_setCells _ _ _ _ _ (by omega)).trans h.r2, below_setCells h.bel (by omega) _ _, by rw [hs]; exact hy, by rw [hs]; exact hn, hne⟩
theorem three_blocks {w : World} {o1 o2 o3 : Obj} : ∀ W, ((w.alloc o1).alloc o2).alloc o3 = W → W.heap[w.heap.size]? = some o1 ∧ W.heap[w.heap.size + 1]? = some o2 ∧ W.heap[w.heap.size + 1 + 1]? = some o3 ∧ Below w.heap.size w W ∧ W.heap.size = w.heap.size + 3 := three_new3
theorem wrap_up {L : List Po.Tok} {k : Int} (h : Po.Pos L k) (hL : L.length ≤ 100000) : wrap64 (k + 1) = k + 1 := by have := h.1; have := h.2; unfold wrap64; omega
set_option maxRecDepth 1000000 in
set_option maxHeartbeats 4000000 in
theorem rf_atom_any {L : List Po.Tok} {vl : Value} {A2 : Option Addr} {n2 cN : Nat} {B : Nat} (k : Int) (w : World) (hB : B ≤ w.heap.size) (h : RToks w B vl L) (hL : L.length ≤ 100000) (hk : Po.Pos L k) (xt : List UInt8) (hxt : (rmust L k 1 []).1.t = xt) (hA : Hid (xt = [97, 110, 121])) :
    Calls Tryz.prog 75 #[.agg #[vl, .int .i64 k, .slice A2 n2 cN]] w (AtomR L k vl (.slice A2 n2 cN) w) := by
  obtain ⟨A, c, rfl, -, -⟩ := h.form
  obtain ⟨nl, hnl⟩ : ∃ n, L.length = n := ⟨_, rfl⟩
  rw [hnl] at h ⊢
  obtain ⟨S, hS⟩ : ∃ S, AtomR L k (.slice A nl c) (.slice A2 n2 cN) w = S := ⟨_, rfl⟩
  rw [hS]
  have HMU : Hid (∀ W', Below w.heap.size w W' → ∀ (k' : Int) (kd : Nat) (t : ByteArray), Calls Tryz.prog 74 #[.agg #[.slice A nl c, .int .i64 k', .slice A2 n2 cN], .int .i64 kd, .string t] W' (MustSays (rmust L k' kd t.data.toList).1 (.agg #[.slice A nl c, .int .i64 (rmust L k' kd t.data.toList).2, .slice A2 n2 cN]) W')) := Lib.hid fun W' hb k' kd t => rf_must k' kd t W' (Nat.le_trans hB hb.size) (h.below (hb.mono hB)) hL
  have HIS : Hid (∀ W', Below w.heap.size w W' → ∀ (k' : Int) (kd : Nat) (t : ByteArray), Calls Tryz.prog 55 #[.agg #[.slice A nl c, .int .i64 k', .slice A2 n2 cN], .int .i64 kd, .string t] W' fun e w' => e = .returned (.bool (Po.isT (Po.rest L k') kd t.data.toList)) ∧ Below W'.heap.size W' w') := Lib.hid fun W' hb k' kd t => rf_is k' kd t W' (Nat.le_trans hB hb.size) (h.below (hb.mono hB))
  have HDI : Hid (∀ W', Below w.heap.size w W' → ∀ (k' : Int), Po.Pos L k' → Calls Tryz.prog 96 #[.agg #[.slice A nl c, .int .i64 k', .slice A2 n2 cN]] W' (DigR L k' (.slice A nl c) (.slice A2 n2 cN) W')) := Lib.hid fun W' hb k' hp => rf_digest k' W' (Nat.le_trans hB hb.size) (h.below (hb.mono hB)) hL hp
  have HLL := Lib.hid (And.intro hL hk)
  obtain ⟨T, N, R, K, LT⟩ := letters
  obtain ⟨W, hW⟩ : ∃ W, ((w.alloc (.cells #[.slice A nl c, .int .i64 k, .slice A2 n2 cN] 57)).alloc (.cells nd0 67)).alloc (.cells #[.slice none 0 0, .int .i64 0, .slice none 0 0] 57) = W := ⟨_, rfl⟩
  obtain ⟨e1, e2, e3, hbW, hsW⟩ := three_new3 W hW
  have HW := Lib.hid (And.intro e2 (And.intro e3 (And.intro hbW hsW)))
  obtain ⟨c0, c1, c2, cz⟩ := three_cells e1
  obtain ⟨⟨⟨xk, xt', xn⟩, k1⟩, hr0⟩ : ∃ z, rmust L k 1 [] = z := ⟨_, rfl⟩
  rw [hr0] at hxt
  simp only at hxt
  subst hxt
  have HR0 := Lib.hid hr0
  have HP1 := Lib.hid (show Po.Pos L k1 by have := rmust_pos L k 1 []; rwa [hr0] at this)
  have HC0 := HMU.out W hbW k 1 ⟨#[]⟩
  rw [show (⟨#[]⟩ : ByteArray).data.toList = [] from rfl, hr0] at HC0
  have HC0 := Lib.hid HC0
  clear e1 e2 e3 hbW hsW hB h hL hnl hk hr0
  go_enter Tryz.func75, Tryz.ntmps75
  obtain ⟨T2, N2, R2, K2, LT2⟩ := letters
  simp only [LT.load, LT.store, LT2.build, LT.loadR, LT.storeR]
  have la := LT.agg
  have lz := LT.size
  go_upto_region 1 with fail
  change Code.wp _ _ _ _ (((w.alloc (.cells #[.slice A nl c, .int .i64 k, .slice A2 n2 cN] 57)).alloc (.cells nd0 67)).alloc (.cells #[.slice none 0 0, .int .i64 0, .slice none 0 0] 57))
  rw [hW]
  clear hW
  go_upto_region 2 with (go_at_call 74; refine HC0.out.mono ?_; rintro e w1 ⟨a1, rfl, hb1⟩; have HB1 := Lib.hid hb1; clear hb1)
  obtain ⟨Wq, hWq⟩ : ∃ Wq, (w1.alloc (.cells #[.int .i64 xk, .string ⟨xt'.toArray⟩, .int .i64 xn, .int .i64 a1] 62)).alloc (.cells #[.slice A nl c, .int .i64 k1, .slice A2 n2 cN] 57) = Wq := ⟨_, rfl⟩
  rw [hWq]
  have hst0 := st_node Wq
  have hcn0 : nd0.size = N := by rw [LT.sz]; rfl
  obtain ⟨cs0, hcs0⟩ : ∃ cs0, nd0 = cs0 := ⟨_, rfl⟩
  rw [hcs0] at hst0 hcn0
  have HCS0 := Lib.hid hcs0
  clear hcs0
  clear c0 c1 c2 cz
  go_wp2_with fail
  have hT2 := LT2.ty
  subst hT2
  refine upon_value (v := .agg cs0) (w' := Wq) (by rw [← HCS0.out]; kernel_rfl) ?_
  rename_i K0 hK0
  refine hK0 _ _ ?_
  clear hK0 K0
  go_upto_region 3 with fail
  have hsq : Wq.heap.size = w1.heap.size + 1 + 1 := by rw [← hWq]; simp
  rw [hsq, ← hWq, ← HCS0.out]
  clear hsq
  change Code.wp _ _ _ _ (((w1.alloc (.cells #[.int .i64 xk, .string ⟨xt'.toArray⟩, .int .i64 xn, .int .i64 a1] 62)).alloc (.cells #[.slice A nl c, .int .i64 k1, .slice A2 n2 cN] 57)).alloc (.cells nd0 67))
  obtain ⟨W0, hW0⟩ : ∃ W0, ((w1.alloc (.cells #[.int .i64 xk, .string ⟨xt'.toArray⟩, .int .i64 xn, .int .i64 a1] 62)).alloc (.cells #[.slice A nl c, .int .i64 k1, .slice A2 n2 cN] 57)).alloc (.cells nd0 67) = W0 := ⟨_, rfl⟩
  rw [hW0]
  obtain ⟨q1, q2, q3, hb0, hs0⟩ := three_new3 W0 hW0
  have hB1 := HB1.out
  have hw2 := HW.out.2.2.2
  have hm0 : AtMem w W0 (.slice A nl c) (.slice A2 n2 cN) k1 (w1.heap.size + 1) (w1.heap.size + 1 + 1) ⟨0, 0, 0, 0, Po.zero16, []⟩ := by
    have h1 := hB1.size
    have hx := hB1.trans (hb0.mono h1)
    exact ⟨q2, q3, (hx.block _ (by omega)).trans HW.out.1, (hx.block _ (by omega)).trans HW.out.2.1, HW.out.2.2.1.trans (hx.mono HW.out.2.2.1.size), ⟨by omega, by omega⟩, ⟨by omega, by omega⟩, by omega⟩
  obtain ⟨tb, htb⟩ : ∃ tb, w1.heap.size = tb := ⟨_, rfl⟩
  rw [htb] at hm0 q1 ⊢
  have htn : tb < tb + 1 + 1 := by omega
  obtain ⟨yb, hyb⟩ : ∃ yb, tb + 1 = yb := ⟨_, rfl⟩
  rw [hyb] at hm0 htn ⊢
  obtain ⟨nb, hnb⟩ : ∃ nb, yb + 1 = nb := ⟨_, rfl⟩
  rw [hnb] at hm0 htn ⊢
  have HM0 := Lib.hid hm0
  have HTT := Lib.hid (And.intro q1 htn)
  obtain ⟨t0, t1, t2, t3, tz⟩ := four_cells q1
  clear hst0 hcn0 la lz t0 t2 t3 tz q1 q2 q3 hb0 hs0 hB1 hw2 hm0 htb hyb hnb hW0 htn
  have hA := hA.out
  subst hA
  have HDG : Hid (Po.zero16.length = 16) := Lib.hid rfl
  go_upto_region 5 with fail
  obtain ⟨n0, n1, n2', n3, nz⟩ := nd_cell HM0.out
  go_upto_region 6 with fail
  have HM1 := Lib.hid (HM0.out.setN (j := 0) (v := .int .i64 1) (x' := ⟨1, 0, 0, 0, Po.zero16, []⟩) rfl)
  clear n0 n1 n2' n3 nz
  revert HM1
  generalize W0.setCell ⟨nb, 0, none⟩ (.int .i64 1) = W1
  intro HM1
  have hT := LT.ty
  subst hT
  refine wp_pair rfl (HM1.out.pair HDG.out) (by decide) (by simp) rfl rfl rfl rfl (fun a' h1 h2 h3 => ?_)
  have hsay := HM1.out.saysS hS HDG.out rfl (by have := ratom_any (L := L) (k := k) (by rw [HR0.out]); rw [HR0.out] at this; exact this)
  have hpr := HM1.out.pair HDG.out
  rename_i z1 z2 z3 z4 z5
  first | exact z5 _ _ (pair_fin hpr rfl h1 h2 h3 rfl rfl Tryz.results75 (fun _ _ h => h) hsay) | exact z4 _ _ (pair_fin hpr rfl h1 h2 h3 rfl rfl Tryz.results75 (fun _ _ h => h) hsay) | exact z3 _ _ (pair_fin hpr rfl h1 h2 h3 rfl rfl Tryz.results75 (fun _ _ h => h) hsay) | exact z2 _ _ (pair_fin hpr rfl h1 h2 h3 rfl rfl Tryz.results75 (fun _ _ h => h) hsay) | exact z1 _ _ (pair_fin hpr rfl h1 h2 h3 rfl rfl Tryz.results75 (fun _ _ h => h) hsay)
set_option maxRecDepth 1000000 in
set_option maxHeartbeats 4000000 in
theorem rf_atom_version_eq {L : List Po.Tok} {vl : Value} {A2 : Option Addr} {n2 cN : Nat} {B : Nat} (k : Int) (w : World) (hB : B ≤ w.heap.size) (h : RToks w B vl L) (hL : L.length ≤ 100000) (hk : Po.Pos L k) (xt : List UInt8) (hxt : (rmust L k 1 []).1.t = xt) (hA : Hid (xt = [118, 101, 114, 115, 105, 111, 110])) (hE : Hid (Po.isT (Po.rest L (rmust L k 1 []).2) 3 [61, 61] = true)) :
    Calls Tryz.prog 75 #[.agg #[vl, .int .i64 k, .slice A2 n2 cN]] w (AtomR L k vl (.slice A2 n2 cN) w) := by
  obtain ⟨A, c, rfl, -, -⟩ := h.form
  obtain ⟨nl, hnl⟩ : ∃ n, L.length = n := ⟨_, rfl⟩
  rw [hnl] at h ⊢
  obtain ⟨S, hS⟩ : ∃ S, AtomR L k (.slice A nl c) (.slice A2 n2 cN) w = S := ⟨_, rfl⟩
  rw [hS]
  have HMU : Hid (∀ W', Below w.heap.size w W' → ∀ (k' : Int) (kd : Nat) (t : ByteArray), Calls Tryz.prog 74 #[.agg #[.slice A nl c, .int .i64 k', .slice A2 n2 cN], .int .i64 kd, .string t] W' (MustSays (rmust L k' kd t.data.toList).1 (.agg #[.slice A nl c, .int .i64 (rmust L k' kd t.data.toList).2, .slice A2 n2 cN]) W')) := Lib.hid fun W' hb k' kd t => rf_must k' kd t W' (Nat.le_trans hB hb.size) (h.below (hb.mono hB)) hL
  have HIS : Hid (∀ W', Below w.heap.size w W' → ∀ (k' : Int) (kd : Nat) (t : ByteArray), Calls Tryz.prog 55 #[.agg #[.slice A nl c, .int .i64 k', .slice A2 n2 cN], .int .i64 kd, .string t] W' fun e w' => e = .returned (.bool (Po.isT (Po.rest L k') kd t.data.toList)) ∧ Below W'.heap.size W' w') := Lib.hid fun W' hb k' kd t => rf_is k' kd t W' (Nat.le_trans hB hb.size) (h.below (hb.mono hB))
  have HDI : Hid (∀ W', Below w.heap.size w W' → ∀ (k' : Int), Po.Pos L k' → Calls Tryz.prog 96 #[.agg #[.slice A nl c, .int .i64 k', .slice A2 n2 cN]] W' (DigR L k' (.slice A nl c) (.slice A2 n2 cN) W')) := Lib.hid fun W' hb k' hp => rf_digest k' W' (Nat.le_trans hB hb.size) (h.below (hb.mono hB)) hL hp
  have HLL := Lib.hid (And.intro hL hk)
  obtain ⟨T, N, R, K, LT⟩ := letters
  obtain ⟨W, hW⟩ : ∃ W, ((w.alloc (.cells #[.slice A nl c, .int .i64 k, .slice A2 n2 cN] 57)).alloc (.cells nd0 67)).alloc (.cells #[.slice none 0 0, .int .i64 0, .slice none 0 0] 57) = W := ⟨_, rfl⟩
  obtain ⟨e1, e2, e3, hbW, hsW⟩ := three_new3 W hW
  have HW := Lib.hid (And.intro e2 (And.intro e3 (And.intro hbW hsW)))
  obtain ⟨c0, c1, c2, cz⟩ := three_cells e1
  obtain ⟨⟨⟨xk, xt', xn⟩, k1⟩, hr0⟩ : ∃ z, rmust L k 1 [] = z := ⟨_, rfl⟩
  rw [hr0] at hxt
  simp only at hxt
  subst hxt
  have HR0 := Lib.hid hr0
  have HP1 := Lib.hid (show Po.Pos L k1 by have := rmust_pos L k 1 []; rwa [hr0] at this)
  have HC0 := HMU.out W hbW k 1 ⟨#[]⟩
  rw [show (⟨#[]⟩ : ByteArray).data.toList = [] from rfl, hr0] at HC0
  have HC0 := Lib.hid HC0
  clear e1 e2 e3 hbW hsW hB h hL hnl hk hr0
  go_enter Tryz.func75, Tryz.ntmps75
  obtain ⟨T2, N2, R2, K2, LT2⟩ := letters
  simp only [LT.load, LT.store, LT2.build, LT.loadR, LT.storeR]
  have la := LT.agg
  have lz := LT.size
  go_upto_region 1 with fail
  change Code.wp _ _ _ _ (((w.alloc (.cells #[.slice A nl c, .int .i64 k, .slice A2 n2 cN] 57)).alloc (.cells nd0 67)).alloc (.cells #[.slice none 0 0, .int .i64 0, .slice none 0 0] 57))
  rw [hW]
  clear hW
  go_upto_region 2 with (go_at_call 74; refine HC0.out.mono ?_; rintro e w1 ⟨a1, rfl, hb1⟩; have HB1 := Lib.hid hb1; clear hb1)
  obtain ⟨Wq, hWq⟩ : ∃ Wq, (w1.alloc (.cells #[.int .i64 xk, .string ⟨xt'.toArray⟩, .int .i64 xn, .int .i64 a1] 62)).alloc (.cells #[.slice A nl c, .int .i64 k1, .slice A2 n2 cN] 57) = Wq := ⟨_, rfl⟩
  rw [hWq]
  have hst0 := st_node Wq
  have hcn0 : nd0.size = N := by rw [LT.sz]; rfl
  obtain ⟨cs0, hcs0⟩ : ∃ cs0, nd0 = cs0 := ⟨_, rfl⟩
  rw [hcs0] at hst0 hcn0
  have HCS0 := Lib.hid hcs0
  clear hcs0
  clear c0 c1 c2 cz
  go_wp2_with fail
  have hT2 := LT2.ty
  subst hT2
  refine upon_value (v := .agg cs0) (w' := Wq) (by rw [← HCS0.out]; kernel_rfl) ?_
  rename_i K0 hK0
  refine hK0 _ _ ?_
  clear hK0 K0
  go_upto_region 3 with fail
  have hsq : Wq.heap.size = w1.heap.size + 1 + 1 := by rw [← hWq]; simp
  rw [hsq, ← hWq, ← HCS0.out]
  clear hsq
  change Code.wp _ _ _ _ (((w1.alloc (.cells #[.int .i64 xk, .string ⟨xt'.toArray⟩, .int .i64 xn, .int .i64 a1] 62)).alloc (.cells #[.slice A nl c, .int .i64 k1, .slice A2 n2 cN] 57)).alloc (.cells nd0 67))
  obtain ⟨W0, hW0⟩ : ∃ W0, ((w1.alloc (.cells #[.int .i64 xk, .string ⟨xt'.toArray⟩, .int .i64 xn, .int .i64 a1] 62)).alloc (.cells #[.slice A nl c, .int .i64 k1, .slice A2 n2 cN] 57)).alloc (.cells nd0 67) = W0 := ⟨_, rfl⟩
  rw [hW0]
  obtain ⟨q1, q2, q3, hb0, hs0⟩ := three_new3 W0 hW0
  have hB1 := HB1.out
  have hw2 := HW.out.2.2.2
  have hm0 : AtMem w W0 (.slice A nl c) (.slice A2 n2 cN) k1 (w1.heap.size + 1) (w1.heap.size + 1 + 1) ⟨0, 0, 0, 0, Po.zero16, []⟩ := by
    have h1 := hB1.size
    have hx := hB1.trans (hb0.mono h1)
    exact ⟨q2, q3, (hx.block _ (by omega)).trans HW.out.1, (hx.block _ (by omega)).trans HW.out.2.1, HW.out.2.2.1.trans (hx.mono HW.out.2.2.1.size), ⟨by omega, by omega⟩, ⟨by omega, by omega⟩, by omega⟩
  obtain ⟨tb, htb⟩ : ∃ tb, w1.heap.size = tb := ⟨_, rfl⟩
  rw [htb] at hm0 q1 ⊢
  have htn : tb < tb + 1 + 1 := by omega
  obtain ⟨yb, hyb⟩ : ∃ yb, tb + 1 = yb := ⟨_, rfl⟩
  rw [hyb] at hm0 htn ⊢
  obtain ⟨nb, hnb⟩ : ∃ nb, yb + 1 = nb := ⟨_, rfl⟩
  rw [hnb] at hm0 htn ⊢
  have HM0 := Lib.hid hm0
  have HTT := Lib.hid (And.intro q1 htn)
  obtain ⟨t0, t1, t2, t3, tz⟩ := four_cells q1
  clear hst0 hcn0 la lz t0 t2 t3 tz q1 q2 q3 hb0 hs0 hB1 hw2 hm0 htb hyb hnb hW0 htn
  have hA := hA.out
  subst hA
  have HDG : Hid (Po.zero16.length = 16) := Lib.hid rfl
  have hE := hE.out
  rw [HR0.out] at hE
  simp only at hE
  have HE := Lib.hid hE
  clear hE
  go_upto_region 9 with fail
  obtain ⟨n0, n1, n2', n3, nz⟩ := nd_cell HM0.out
  go_upto_region 10 with fail
  have HM1 := Lib.hid (HM0.out.setN (j := 0) (v := .int .i64 2) (x' := ⟨2, 0, 0, 0, Po.zero16, []⟩) rfl)
  clear n0 n1 n2' n3 nz
  have HT1 := Lib.hid ((World.cell?_of_block (a := ⟨tb, 1, none⟩) (set_other W0 nb 0 (.int .i64 2) tb (by have := HTT.out.2; omega))).trans t1)
  clear t1
  revert HM1 HT1
  generalize W0.setCell ⟨nb, 0, none⟩ (.int .i64 2) = W1
  intro HM1 HT1
  have u1 := HT1.out
  go_upto_region 12 with fail
  clear u1
  have HC2 := HIS.out W1 HM1.out.bel k1 3 ⟨#[61, 61]⟩
  rw [show (⟨#[61, 61]⟩ : ByteArray).data.toList = [61, 61] from rfl, HE.out] at HC2
  have HC2 := Lib.hid HC2
  obtain ⟨y0, y1, y2, yz⟩ := three_cells HM1.out.y
  go_upto_region 14 with (go_at_call 55; refine HC2.out.mono ?_; rintro e W2 ⟨rfl, hb2⟩; have HB2 := Lib.hid hb2; clear hb2)
  clear y0 y1 y2 yz
  have HM2 := Lib.hid (HM1.out.below HB2.out)
  have wk := wrap_up HP1.out HLL.out.1
  obtain ⟨y0, y1, y2, yz⟩ := three_cells HM2.out.y
  go_upto_region 18 with fail
  have HM3 := Lib.hid (HM2.out.setK (k1 + 1))
  clear y0 y1 y2 yz
  revert HM3
  generalize W2.setCell ⟨yb, 1, none⟩ (.int .i64 (k1 + 1)) = W3
  intro HM3
  obtain ⟨⟨⟨mk4, mt4, mn4⟩, k4'⟩, hr4⟩ : ∃ z, rmust L (k1 + 1) 2 [] = z := ⟨_, rfl⟩
  have HR4 := Lib.hid hr4
  have HPP4 := Lib.hid (show Po.Pos L k4' by have := rmust_pos L (k1 + 1) 2 []; rwa [hr4] at this)
  have HC4 := HMU.out W3 HM3.out.bel (k1 + 1) 2 ⟨#[]⟩
  rw [show (⟨#[]⟩ : ByteArray).data.toList = [] from rfl, hr4] at HC4
  have HC4 := Lib.hid HC4
  clear hr4
  obtain ⟨y0, y1, y2, yz⟩ := three_cells HM3.out.y
  go_upto_region 19 with (go_at_call 74; refine HC4.out.mono ?_; rintro e v4 ⟨a4', rfl, hb4⟩; have HB4 := Lib.hid hb4; clear hb4)
  clear y0 y1 y2 yz
  obtain ⟨W4, hW4⟩ : ∃ W, (v4.alloc (.cells #[.int .i64 mk4, .string ⟨mt4.toArray⟩, .int .i64 mn4, .int .i64 a4'] 62)).alloc (.cells #[.slice A nl c, .int .i64 k4', .slice A2 n2 cN] 57) = W := ⟨_, rfl⟩
  rw [hW4]
  obtain ⟨q1, q2, hB4, hs4⟩ := two_boxes W4 hW4
  have hz4 : nb < v4.heap.size := Nat.lt_of_lt_of_le HM3.out.hn.2 HB4.out.size
  have HM4 := Lib.hid (((HM3.out.below HB4.out).below hB4).other q2 (Nat.lt_succ_of_lt hz4))
  have HOLD4 := Lib.hid ((HM3.out.below HB4.out).below hB4)
  obtain ⟨mb4, hmb4⟩ : ∃ mb, v4.heap.size = mb := ⟨_, rfl⟩
  rw [hmb4] at q1 HM4 hz4 ⊢
  have HTK4 := Lib.hid (And.intro q1 hz4)
  clear q1 q2 hB4 hs4 hW4 hmb4 hz4
  obtain ⟨s0, s1, s2, s3, sz⟩ := four_cells HTK4.out.1
  obtain ⟨n0, n1, n2', n3, nz⟩ := nd_cell HM4.out
  go_upto_region 20 with fail
  have HM5 := Lib.hid (HM4.out.setN (j := 1) (v := .int .i64 mn4) (x' := ⟨2, mn4, 0, 0, Po.zero16, []⟩) rfl)
  clear n0 n1 n2' n3 nz
  revert HM5
  generalize W4.setCell ⟨nb, 1, none⟩ (.int .i64 mn4) = W5
  intro HM5
  have hT := LT.ty
  subst hT
  refine wp_pair rfl (HM5.out.pair HDG.out) (by decide) (by simp) rfl rfl rfl rfl (fun a' h1 h2 h3 => ?_)
  have hsay := HM5.out.saysS hS HDG.out rfl (by have := ratom_version (L := L) (k := k) (by rw [HR0.out]); rw [HR0.out] at this; simp only at this; rw [rcmp_yes HE.out, HR4.out] at this; exact this)
  have hpr := HM5.out.pair HDG.out
  rename_i z1 z2 z3 z4 z5
  first | exact z5 _ _ (pair_fin hpr rfl h1 h2 h3 rfl rfl Tryz.results75 (fun _ _ h => h) hsay) | exact z4 _ _ (pair_fin hpr rfl h1 h2 h3 rfl rfl Tryz.results75 (fun _ _ h => h) hsay) | exact z3 _ _ (pair_fin hpr rfl h1 h2 h3 rfl rfl Tryz.results75 (fun _ _ h => h) hsay) | exact z2 _ _ (pair_fin hpr rfl h1 h2 h3 rfl rfl Tryz.results75 (fun _ _ h => h) hsay) | exact z1 _ _ (pair_fin hpr rfl h1 h2 h3 rfl rfl Tryz.results75 (fun _ _ h => h) hsay)
set_option maxRecDepth 1000000 in
set_option maxHeartbeats 4000000 in
theorem rf_atom_version_ge {L : List Po.Tok} {vl : Value} {A2 : Option Addr} {n2 cN : Nat} {B : Nat} (k : Int) (w : World) (hB : B ≤ w.heap.size) (h : RToks w B vl L) (hL : L.length ≤ 100000) (hk : Po.Pos L k) (xt : List UInt8) (hxt : (rmust L k 1 []).1.t = xt) (hA : Hid (xt = [118, 101, 114, 115, 105, 111, 110])) (hE : Hid (Po.isT (Po.rest L (rmust L k 1 []).2) 3 [61, 61] = false)) :
    Calls Tryz.prog 75 #[.agg #[vl, .int .i64 k, .slice A2 n2 cN]] w (AtomR L k vl (.slice A2 n2 cN) w) := by
  obtain ⟨A, c, rfl, -, -⟩ := h.form
  obtain ⟨nl, hnl⟩ : ∃ n, L.length = n := ⟨_, rfl⟩
  rw [hnl] at h ⊢
  obtain ⟨S, hS⟩ : ∃ S, AtomR L k (.slice A nl c) (.slice A2 n2 cN) w = S := ⟨_, rfl⟩
  rw [hS]
  have HMU : Hid (∀ W', Below w.heap.size w W' → ∀ (k' : Int) (kd : Nat) (t : ByteArray), Calls Tryz.prog 74 #[.agg #[.slice A nl c, .int .i64 k', .slice A2 n2 cN], .int .i64 kd, .string t] W' (MustSays (rmust L k' kd t.data.toList).1 (.agg #[.slice A nl c, .int .i64 (rmust L k' kd t.data.toList).2, .slice A2 n2 cN]) W')) := Lib.hid fun W' hb k' kd t => rf_must k' kd t W' (Nat.le_trans hB hb.size) (h.below (hb.mono hB)) hL
  have HIS : Hid (∀ W', Below w.heap.size w W' → ∀ (k' : Int) (kd : Nat) (t : ByteArray), Calls Tryz.prog 55 #[.agg #[.slice A nl c, .int .i64 k', .slice A2 n2 cN], .int .i64 kd, .string t] W' fun e w' => e = .returned (.bool (Po.isT (Po.rest L k') kd t.data.toList)) ∧ Below W'.heap.size W' w') := Lib.hid fun W' hb k' kd t => rf_is k' kd t W' (Nat.le_trans hB hb.size) (h.below (hb.mono hB))
  have HDI : Hid (∀ W', Below w.heap.size w W' → ∀ (k' : Int), Po.Pos L k' → Calls Tryz.prog 96 #[.agg #[.slice A nl c, .int .i64 k', .slice A2 n2 cN]] W' (DigR L k' (.slice A nl c) (.slice A2 n2 cN) W')) := Lib.hid fun W' hb k' hp => rf_digest k' W' (Nat.le_trans hB hb.size) (h.below (hb.mono hB)) hL hp
  have HLL := Lib.hid (And.intro hL hk)
  obtain ⟨T, N, R, K, LT⟩ := letters
  obtain ⟨W, hW⟩ : ∃ W, ((w.alloc (.cells #[.slice A nl c, .int .i64 k, .slice A2 n2 cN] 57)).alloc (.cells nd0 67)).alloc (.cells #[.slice none 0 0, .int .i64 0, .slice none 0 0] 57) = W := ⟨_, rfl⟩
  obtain ⟨e1, e2, e3, hbW, hsW⟩ := three_new3 W hW
  have HW := Lib.hid (And.intro e2 (And.intro e3 (And.intro hbW hsW)))
  obtain ⟨c0, c1, c2, cz⟩ := three_cells e1
  obtain ⟨⟨⟨xk, xt', xn⟩, k1⟩, hr0⟩ : ∃ z, rmust L k 1 [] = z := ⟨_, rfl⟩
  rw [hr0] at hxt
  simp only at hxt
  subst hxt
  have HR0 := Lib.hid hr0
  have HP1 := Lib.hid (show Po.Pos L k1 by have := rmust_pos L k 1 []; rwa [hr0] at this)
  have HC0 := HMU.out W hbW k 1 ⟨#[]⟩
  rw [show (⟨#[]⟩ : ByteArray).data.toList = [] from rfl, hr0] at HC0
  have HC0 := Lib.hid HC0
  clear e1 e2 e3 hbW hsW hB h hL hnl hk hr0
  go_enter Tryz.func75, Tryz.ntmps75
  obtain ⟨T2, N2, R2, K2, LT2⟩ := letters
  simp only [LT.load, LT.store, LT2.build, LT.loadR, LT.storeR]
  have la := LT.agg
  have lz := LT.size
  go_upto_region 1 with fail
  change Code.wp _ _ _ _ (((w.alloc (.cells #[.slice A nl c, .int .i64 k, .slice A2 n2 cN] 57)).alloc (.cells nd0 67)).alloc (.cells #[.slice none 0 0, .int .i64 0, .slice none 0 0] 57))
  rw [hW]
  clear hW
  go_upto_region 2 with (go_at_call 74; refine HC0.out.mono ?_; rintro e w1 ⟨a1, rfl, hb1⟩; have HB1 := Lib.hid hb1; clear hb1)
  obtain ⟨Wq, hWq⟩ : ∃ Wq, (w1.alloc (.cells #[.int .i64 xk, .string ⟨xt'.toArray⟩, .int .i64 xn, .int .i64 a1] 62)).alloc (.cells #[.slice A nl c, .int .i64 k1, .slice A2 n2 cN] 57) = Wq := ⟨_, rfl⟩
  rw [hWq]
  have hst0 := st_node Wq
  have hcn0 : nd0.size = N := by rw [LT.sz]; rfl
  obtain ⟨cs0, hcs0⟩ : ∃ cs0, nd0 = cs0 := ⟨_, rfl⟩
  rw [hcs0] at hst0 hcn0
  have HCS0 := Lib.hid hcs0
  clear hcs0
  clear c0 c1 c2 cz
  go_wp2_with fail
  have hT2 := LT2.ty
  subst hT2
  refine upon_value (v := .agg cs0) (w' := Wq) (by rw [← HCS0.out]; kernel_rfl) ?_
  rename_i K0 hK0
  refine hK0 _ _ ?_
  clear hK0 K0
  go_upto_region 3 with fail
  have hsq : Wq.heap.size = w1.heap.size + 1 + 1 := by rw [← hWq]; simp
  rw [hsq, ← hWq, ← HCS0.out]
  clear hsq
  change Code.wp _ _ _ _ (((w1.alloc (.cells #[.int .i64 xk, .string ⟨xt'.toArray⟩, .int .i64 xn, .int .i64 a1] 62)).alloc (.cells #[.slice A nl c, .int .i64 k1, .slice A2 n2 cN] 57)).alloc (.cells nd0 67))
  obtain ⟨W0, hW0⟩ : ∃ W0, ((w1.alloc (.cells #[.int .i64 xk, .string ⟨xt'.toArray⟩, .int .i64 xn, .int .i64 a1] 62)).alloc (.cells #[.slice A nl c, .int .i64 k1, .slice A2 n2 cN] 57)).alloc (.cells nd0 67) = W0 := ⟨_, rfl⟩
  rw [hW0]
  obtain ⟨q1, q2, q3, hb0, hs0⟩ := three_new3 W0 hW0
  have hB1 := HB1.out
  have hw2 := HW.out.2.2.2
  have hm0 : AtMem w W0 (.slice A nl c) (.slice A2 n2 cN) k1 (w1.heap.size + 1) (w1.heap.size + 1 + 1) ⟨0, 0, 0, 0, Po.zero16, []⟩ := by
    have h1 := hB1.size
    have hx := hB1.trans (hb0.mono h1)
    exact ⟨q2, q3, (hx.block _ (by omega)).trans HW.out.1, (hx.block _ (by omega)).trans HW.out.2.1, HW.out.2.2.1.trans (hx.mono HW.out.2.2.1.size), ⟨by omega, by omega⟩, ⟨by omega, by omega⟩, by omega⟩
  obtain ⟨tb, htb⟩ : ∃ tb, w1.heap.size = tb := ⟨_, rfl⟩
  rw [htb] at hm0 q1 ⊢
  have htn : tb < tb + 1 + 1 := by omega
  obtain ⟨yb, hyb⟩ : ∃ yb, tb + 1 = yb := ⟨_, rfl⟩
  rw [hyb] at hm0 htn ⊢
  obtain ⟨nb, hnb⟩ : ∃ nb, yb + 1 = nb := ⟨_, rfl⟩
  rw [hnb] at hm0 htn ⊢
  have HM0 := Lib.hid hm0
  have HTT := Lib.hid (And.intro q1 htn)
  obtain ⟨t0, t1, t2, t3, tz⟩ := four_cells q1
  clear hst0 hcn0 la lz t0 t2 t3 tz q1 q2 q3 hb0 hs0 hB1 hw2 hm0 htb hyb hnb hW0 htn
  have hA := hA.out
  subst hA
  have HDG : Hid (Po.zero16.length = 16) := Lib.hid rfl
  have hE := hE.out
  rw [HR0.out] at hE
  simp only at hE
  have HE := Lib.hid hE
  clear hE
  go_upto_region 9 with fail
  obtain ⟨n0, n1, n2', n3, nz⟩ := nd_cell HM0.out
  go_upto_region 10 with fail
  have HM1 := Lib.hid (HM0.out.setN (j := 0) (v := .int .i64 2) (x' := ⟨2, 0, 0, 0, Po.zero16, []⟩) rfl)
  clear n0 n1 n2' n3 nz
  have HT1 := Lib.hid ((World.cell?_of_block (a := ⟨tb, 1, none⟩) (set_other W0 nb 0 (.int .i64 2) tb (by have := HTT.out.2; omega))).trans t1)
  clear t1
  revert HM1 HT1
  generalize W0.setCell ⟨nb, 0, none⟩ (.int .i64 2) = W1
  intro HM1 HT1
  have u1 := HT1.out
  go_upto_region 12 with fail
  clear u1
  have HC2 := HIS.out W1 HM1.out.bel k1 3 ⟨#[61, 61]⟩
  rw [show (⟨#[61, 61]⟩ : ByteArray).data.toList = [61, 61] from rfl, HE.out] at HC2
  have HC2 := Lib.hid HC2
  obtain ⟨y0, y1, y2, yz⟩ := three_cells HM1.out.y
  go_upto_region 15 with (go_at_call 55; refine HC2.out.mono ?_; rintro e W2 ⟨rfl, hb2⟩; have HB2 := Lib.hid hb2; clear hb2)
  clear y0 y1 y2 yz
  have HM2 := Lib.hid (HM1.out.below HB2.out)
  obtain ⟨⟨⟨mk3, mt3, mn3⟩, k3'⟩, hr3⟩ : ∃ z, rmust L k1 3 [62, 61] = z := ⟨_, rfl⟩
  have HR3 := Lib.hid hr3
  have HPP3 := Lib.hid (show Po.Pos L k3' by have := rmust_pos L k1 3 [62, 61]; rwa [hr3] at this)
  have HC3 := HMU.out W2 HM2.out.bel k1 3 ⟨#[62, 61]⟩
  rw [show (⟨#[62, 61]⟩ : ByteArray).data.toList = [62, 61] from rfl, hr3] at HC3
  have HC3 := Lib.hid HC3
  clear hr3
  obtain ⟨y0, y1, y2, yz⟩ := three_cells HM2.out.y
  go_upto_region 16 with (go_at_call 74; refine HC3.out.mono ?_; rintro e v3 ⟨a3', rfl, hb3⟩; have HB3 := Lib.hid hb3; clear hb3)
  clear y0 y1 y2 yz
  obtain ⟨W3, hW3⟩ : ∃ W, (v3.alloc (.cells #[.int .i64 mk3, .string ⟨mt3.toArray⟩, .int .i64 mn3, .int .i64 a3'] 62)).alloc (.cells #[.slice A nl c, .int .i64 k3', .slice A2 n2 cN] 57) = W := ⟨_, rfl⟩
  rw [hW3]
  obtain ⟨q1, q2, hB3, hs3⟩ := two_boxes W3 hW3
  have hz3 : nb < v3.heap.size := Nat.lt_of_lt_of_le HM2.out.hn.2 HB3.out.size
  have HM3 := Lib.hid (((HM2.out.below HB3.out).below hB3).other q2 (Nat.lt_succ_of_lt hz3))
  have HOLD3 := Lib.hid ((HM2.out.below HB3.out).below hB3)
  obtain ⟨mb3, hmb3⟩ : ∃ mb, v3.heap.size = mb := ⟨_, rfl⟩
  rw [hmb3] at q1 HM3 hz3 ⊢
  have HTK3 := Lib.hid (And.intro q1 hz3)
  clear q1 q2 hB3 hs3 hW3 hmb3 hz3
  obtain ⟨z0, z1, z2, zz⟩ := three_cells HM3.out.y
  obtain ⟨y0, y1, y2, yz⟩ := three_cells HOLD3.out.y
  go_upto_region 17 with fail
  rw [put3]
  have HM4 := Lib.hid (HOLD3.out.setX k3')
  clear y0 y1 y2 yz
  clear z0 z1 z2 zz
  revert HM4
  generalize putRow W3 yb #[.slice A nl c, .int .i64 k3', .slice A2 n2 cN] = W4
  intro HM4
  obtain ⟨n0, n1, n2', n3, nz⟩ := nd_cell HM4.out
  go_upto_region 18 with fail
  have HM5 := Lib.hid (HM4.out.setN (j := 0) (v := .int .i64 3) (x' := ⟨3, 0, 0, 0, Po.zero16, []⟩) rfl)
  clear n0 n1 n2' n3 nz
  revert HM5
  generalize W4.setCell ⟨nb, 0, none⟩ (.int .i64 3) = W5
  intro HM5
  obtain ⟨⟨⟨mk6, mt6, mn6⟩, k6'⟩, hr6⟩ : ∃ z, rmust L k3' 2 [] = z := ⟨_, rfl⟩
  have HR6 := Lib.hid hr6
  have HPP6 := Lib.hid (show Po.Pos L k6' by have := rmust_pos L k3' 2 []; rwa [hr6] at this)
  have HC6 := HMU.out W5 HM5.out.bel k3' 2 ⟨#[]⟩
  rw [show (⟨#[]⟩ : ByteArray).data.toList = [] from rfl, hr6] at HC6
  have HC6 := Lib.hid HC6
  clear hr6
  obtain ⟨y0, y1, y2, yz⟩ := three_cells HM5.out.y
  go_upto_region 19 with (go_at_call 74; refine HC6.out.mono ?_; rintro e v6 ⟨a6', rfl, hb6⟩; have HB6 := Lib.hid hb6; clear hb6)
  clear y0 y1 y2 yz
  obtain ⟨W6, hW6⟩ : ∃ W, (v6.alloc (.cells #[.int .i64 mk6, .string ⟨mt6.toArray⟩, .int .i64 mn6, .int .i64 a6'] 62)).alloc (.cells #[.slice A nl c, .int .i64 k6', .slice A2 n2 cN] 57) = W := ⟨_, rfl⟩
  rw [hW6]
  obtain ⟨q1, q2, hB6, hs6⟩ := two_boxes W6 hW6
  have hz6 : nb < v6.heap.size := Nat.lt_of_lt_of_le HM5.out.hn.2 HB6.out.size
  have HM6 := Lib.hid (((HM5.out.below HB6.out).below hB6).other q2 (Nat.lt_succ_of_lt hz6))
  have HOLD6 := Lib.hid ((HM5.out.below HB6.out).below hB6)
  obtain ⟨mb6, hmb6⟩ : ∃ mb, v6.heap.size = mb := ⟨_, rfl⟩
  rw [hmb6] at q1 HM6 hz6 ⊢
  have HTK6 := Lib.hid (And.intro q1 hz6)
  clear q1 q2 hB6 hs6 hW6 hmb6 hz6
  obtain ⟨s0, s1, s2, s3, sz⟩ := four_cells HTK6.out.1
  obtain ⟨n0, n1, n2', n3, nz⟩ := nd_cell HM6.out
  go_upto_region 20 with fail
  have HM7 := Lib.hid (HM6.out.setN (j := 1) (v := .int .i64 mn6) (x' := ⟨3, mn6, 0, 0, Po.zero16, []⟩) rfl)
  clear n0 n1 n2' n3 nz
  revert HM7
  generalize W6.setCell ⟨nb, 1, none⟩ (.int .i64 mn6) = W7
  intro HM7
  have hT := LT.ty
  subst hT
  refine wp_pair rfl (HM7.out.pair HDG.out) (by decide) (by simp) rfl rfl rfl rfl (fun a' h1 h2 h3 => ?_)
  have hsay := HM7.out.saysS hS HDG.out rfl (by have := ratom_version (L := L) (k := k) (by rw [HR0.out]); rw [HR0.out] at this; simp only at this; rw [rcmp_no HE.out, HR3.out] at this; simp only at this; rw [HR6.out] at this; exact this)
  have hpr := HM7.out.pair HDG.out
  rename_i z1 z2 z3 z4 z5
  first | exact z5 _ _ (pair_fin hpr rfl h1 h2 h3 rfl rfl Tryz.results75 (fun _ _ h => h) hsay) | exact z4 _ _ (pair_fin hpr rfl h1 h2 h3 rfl rfl Tryz.results75 (fun _ _ h => h) hsay) | exact z3 _ _ (pair_fin hpr rfl h1 h2 h3 rfl rfl Tryz.results75 (fun _ _ h => h) hsay) | exact z2 _ _ (pair_fin hpr rfl h1 h2 h3 rfl rfl Tryz.results75 (fun _ _ h => h) hsay) | exact z1 _ _ (pair_fin hpr rfl h1 h2 h3 rfl rfl Tryz.results75 (fun _ _ h => h) hsay)
set_option maxRecDepth 1000000 in
set_option maxHeartbeats 4000000 in
theorem rf_atom_epoch_eq {L : List Po.Tok} {vl : Value} {A2 : Option Addr} {n2 cN : Nat} {B : Nat} (k : Int) (w : World) (hB : B ≤ w.heap.size) (h : RToks w B vl L) (hL : L.length ≤ 100000) (hk : Po.Pos L k) (xt : List UInt8) (hxt : (rmust L k 1 []).1.t = xt) (hA : Hid (xt = [101, 112, 111, 99, 104])) (hE : Hid (Po.isT (Po.rest L (rmust L k 1 []).2) 3 [61, 61] = true)) :
    Calls Tryz.prog 75 #[.agg #[vl, .int .i64 k, .slice A2 n2 cN]] w (AtomR L k vl (.slice A2 n2 cN) w) := by
  obtain ⟨A, c, rfl, -, -⟩ := h.form
  obtain ⟨nl, hnl⟩ : ∃ n, L.length = n := ⟨_, rfl⟩
  rw [hnl] at h ⊢
  obtain ⟨S, hS⟩ : ∃ S, AtomR L k (.slice A nl c) (.slice A2 n2 cN) w = S := ⟨_, rfl⟩
  rw [hS]
  have HMU : Hid (∀ W', Below w.heap.size w W' → ∀ (k' : Int) (kd : Nat) (t : ByteArray), Calls Tryz.prog 74 #[.agg #[.slice A nl c, .int .i64 k', .slice A2 n2 cN], .int .i64 kd, .string t] W' (MustSays (rmust L k' kd t.data.toList).1 (.agg #[.slice A nl c, .int .i64 (rmust L k' kd t.data.toList).2, .slice A2 n2 cN]) W')) := Lib.hid fun W' hb k' kd t => rf_must k' kd t W' (Nat.le_trans hB hb.size) (h.below (hb.mono hB)) hL
  have HIS : Hid (∀ W', Below w.heap.size w W' → ∀ (k' : Int) (kd : Nat) (t : ByteArray), Calls Tryz.prog 55 #[.agg #[.slice A nl c, .int .i64 k', .slice A2 n2 cN], .int .i64 kd, .string t] W' fun e w' => e = .returned (.bool (Po.isT (Po.rest L k') kd t.data.toList)) ∧ Below W'.heap.size W' w') := Lib.hid fun W' hb k' kd t => rf_is k' kd t W' (Nat.le_trans hB hb.size) (h.below (hb.mono hB))
  have HDI : Hid (∀ W', Below w.heap.size w W' → ∀ (k' : Int), Po.Pos L k' → Calls Tryz.prog 96 #[.agg #[.slice A nl c, .int .i64 k', .slice A2 n2 cN]] W' (DigR L k' (.slice A nl c) (.slice A2 n2 cN) W')) := Lib.hid fun W' hb k' hp => rf_digest k' W' (Nat.le_trans hB hb.size) (h.below (hb.mono hB)) hL hp
  have HLL := Lib.hid (And.intro hL hk)
  obtain ⟨T, N, R, K, LT⟩ := letters
  obtain ⟨W, hW⟩ : ∃ W, ((w.alloc (.cells #[.slice A nl c, .int .i64 k, .slice A2 n2 cN] 57)).alloc (.cells nd0 67)).alloc (.cells #[.slice none 0 0, .int .i64 0, .slice none 0 0] 57) = W := ⟨_, rfl⟩
  obtain ⟨e1, e2, e3, hbW, hsW⟩ := three_new3 W hW
  have HW := Lib.hid (And.intro e2 (And.intro e3 (And.intro hbW hsW)))
  obtain ⟨c0, c1, c2, cz⟩ := three_cells e1
  obtain ⟨⟨⟨xk, xt', xn⟩, k1⟩, hr0⟩ : ∃ z, rmust L k 1 [] = z := ⟨_, rfl⟩
  rw [hr0] at hxt
  simp only at hxt
  subst hxt
  have HR0 := Lib.hid hr0
  have HP1 := Lib.hid (show Po.Pos L k1 by have := rmust_pos L k 1 []; rwa [hr0] at this)
  have HC0 := HMU.out W hbW k 1 ⟨#[]⟩
  rw [show (⟨#[]⟩ : ByteArray).data.toList = [] from rfl, hr0] at HC0
  have HC0 := Lib.hid HC0
  clear e1 e2 e3 hbW hsW hB h hL hnl hk hr0
  go_enter Tryz.func75, Tryz.ntmps75
  obtain ⟨T2, N2, R2, K2, LT2⟩ := letters
  simp only [LT.load, LT.store, LT2.build, LT.loadR, LT.storeR]
  have la := LT.agg
  have lz := LT.size
  go_upto_region 1 with fail
  change Code.wp _ _ _ _ (((w.alloc (.cells #[.slice A nl c, .int .i64 k, .slice A2 n2 cN] 57)).alloc (.cells nd0 67)).alloc (.cells #[.slice none 0 0, .int .i64 0, .slice none 0 0] 57))
  rw [hW]
  clear hW
  go_upto_region 2 with (go_at_call 74; refine HC0.out.mono ?_; rintro e w1 ⟨a1, rfl, hb1⟩; have HB1 := Lib.hid hb1; clear hb1)
  obtain ⟨Wq, hWq⟩ : ∃ Wq, (w1.alloc (.cells #[.int .i64 xk, .string ⟨xt'.toArray⟩, .int .i64 xn, .int .i64 a1] 62)).alloc (.cells #[.slice A nl c, .int .i64 k1, .slice A2 n2 cN] 57) = Wq := ⟨_, rfl⟩
  rw [hWq]
  have hst0 := st_node Wq
  have hcn0 : nd0.size = N := by rw [LT.sz]; rfl
  obtain ⟨cs0, hcs0⟩ : ∃ cs0, nd0 = cs0 := ⟨_, rfl⟩
  rw [hcs0] at hst0 hcn0
  have HCS0 := Lib.hid hcs0
  clear hcs0
  clear c0 c1 c2 cz
  go_wp2_with fail
  have hT2 := LT2.ty
  subst hT2
  refine upon_value (v := .agg cs0) (w' := Wq) (by rw [← HCS0.out]; kernel_rfl) ?_
  rename_i K0 hK0
  refine hK0 _ _ ?_
  clear hK0 K0
  go_upto_region 3 with fail
  have hsq : Wq.heap.size = w1.heap.size + 1 + 1 := by rw [← hWq]; simp
  rw [hsq, ← hWq, ← HCS0.out]
  clear hsq
  change Code.wp _ _ _ _ (((w1.alloc (.cells #[.int .i64 xk, .string ⟨xt'.toArray⟩, .int .i64 xn, .int .i64 a1] 62)).alloc (.cells #[.slice A nl c, .int .i64 k1, .slice A2 n2 cN] 57)).alloc (.cells nd0 67))
  obtain ⟨W0, hW0⟩ : ∃ W0, ((w1.alloc (.cells #[.int .i64 xk, .string ⟨xt'.toArray⟩, .int .i64 xn, .int .i64 a1] 62)).alloc (.cells #[.slice A nl c, .int .i64 k1, .slice A2 n2 cN] 57)).alloc (.cells nd0 67) = W0 := ⟨_, rfl⟩
  rw [hW0]
  obtain ⟨q1, q2, q3, hb0, hs0⟩ := three_new3 W0 hW0
  have hB1 := HB1.out
  have hw2 := HW.out.2.2.2
  have hm0 : AtMem w W0 (.slice A nl c) (.slice A2 n2 cN) k1 (w1.heap.size + 1) (w1.heap.size + 1 + 1) ⟨0, 0, 0, 0, Po.zero16, []⟩ := by
    have h1 := hB1.size
    have hx := hB1.trans (hb0.mono h1)
    exact ⟨q2, q3, (hx.block _ (by omega)).trans HW.out.1, (hx.block _ (by omega)).trans HW.out.2.1, HW.out.2.2.1.trans (hx.mono HW.out.2.2.1.size), ⟨by omega, by omega⟩, ⟨by omega, by omega⟩, by omega⟩
  obtain ⟨tb, htb⟩ : ∃ tb, w1.heap.size = tb := ⟨_, rfl⟩
  rw [htb] at hm0 q1 ⊢
  have htn : tb < tb + 1 + 1 := by omega
  obtain ⟨yb, hyb⟩ : ∃ yb, tb + 1 = yb := ⟨_, rfl⟩
  rw [hyb] at hm0 htn ⊢
  obtain ⟨nb, hnb⟩ : ∃ nb, yb + 1 = nb := ⟨_, rfl⟩
  rw [hnb] at hm0 htn ⊢
  have HM0 := Lib.hid hm0
  have HTT := Lib.hid (And.intro q1 htn)
  obtain ⟨t0, t1, t2, t3, tz⟩ := four_cells q1
  clear hst0 hcn0 la lz t0 t2 t3 tz q1 q2 q3 hb0 hs0 hB1 hw2 hm0 htb hyb hnb hW0 htn
  have hA := hA.out
  subst hA
  have HDG : Hid (Po.zero16.length = 16) := Lib.hid rfl
  have hE := hE.out
  rw [HR0.out] at hE
  simp only at hE
  have HE := Lib.hid hE
  clear hE
  go_upto_region 9 with fail
  obtain ⟨n0, n1, n2', n3, nz⟩ := nd_cell HM0.out
  go_upto_region 10 with fail
  have HM1 := Lib.hid (HM0.out.setN (j := 0) (v := .int .i64 2) (x' := ⟨2, 0, 0, 0, Po.zero16, []⟩) rfl)
  clear n0 n1 n2' n3 nz
  have HT1 := Lib.hid ((World.cell?_of_block (a := ⟨tb, 1, none⟩) (set_other W0 nb 0 (.int .i64 2) tb (by have := HTT.out.2; omega))).trans t1)
  clear t1
  revert HM1 HT1
  generalize W0.setCell ⟨nb, 0, none⟩ (.int .i64 2) = W1
  intro HM1 HT1
  have u1 := HT1.out
  go_upto_region 11 with fail
  clear u1
  obtain ⟨n0, n1, n2', n3, nz⟩ := nd_cell HM1.out
  go_upto_region 12 with fail
  have HM2 := Lib.hid (HM1.out.setN (j := 0) (v := .int .i64 4) (x' := ⟨4, 0, 0, 0, Po.zero16, []⟩) rfl)
  clear n0 n1 n2' n3 nz
  revert HM2
  generalize W1.setCell ⟨nb, 0, none⟩ (.int .i64 4) = W2
  intro HM2
  have HC3 := HIS.out W2 HM2.out.bel k1 3 ⟨#[61, 61]⟩
  rw [show (⟨#[61, 61]⟩ : ByteArray).data.toList = [61, 61] from rfl, HE.out] at HC3
  have HC3 := Lib.hid HC3
  obtain ⟨y0, y1, y2, yz⟩ := three_cells HM2.out.y
  go_upto_region 14 with (go_at_call 55; refine HC3.out.mono ?_; rintro e W3 ⟨rfl, hb3⟩; have HB3 := Lib.hid hb3; clear hb3)
  clear y0 y1 y2 yz
  have HM3 := Lib.hid (HM2.out.below HB3.out)
  have wk := wrap_up HP1.out HLL.out.1
  obtain ⟨y0, y1, y2, yz⟩ := three_cells HM3.out.y
  go_upto_region 18 with fail
  have HM4 := Lib.hid (HM3.out.setK (k1 + 1))
  clear y0 y1 y2 yz
  revert HM4
  generalize W3.setCell ⟨yb, 1, none⟩ (.int .i64 (k1 + 1)) = W4
  intro HM4
  obtain ⟨⟨⟨mk5, mt5, mn5⟩, k5'⟩, hr5⟩ : ∃ z, rmust L (k1 + 1) 2 [] = z := ⟨_, rfl⟩
  have HR5 := Lib.hid hr5
  have HPP5 := Lib.hid (show Po.Pos L k5' by have := rmust_pos L (k1 + 1) 2 []; rwa [hr5] at this)
  have HC5 := HMU.out W4 HM4.out.bel (k1 + 1) 2 ⟨#[]⟩
  rw [show (⟨#[]⟩ : ByteArray).data.toList = [] from rfl, hr5] at HC5
  have HC5 := Lib.hid HC5
  clear hr5
  obtain ⟨y0, y1, y2, yz⟩ := three_cells HM4.out.y
  go_upto_region 19 with (go_at_call 74; refine HC5.out.mono ?_; rintro e v5 ⟨a5', rfl, hb5⟩; have HB5 := Lib.hid hb5; clear hb5)
  clear y0 y1 y2 yz
  obtain ⟨W5, hW5⟩ : ∃ W, (v5.alloc (.cells #[.int .i64 mk5, .string ⟨mt5.toArray⟩, .int .i64 mn5, .int .i64 a5'] 62)).alloc (.cells #[.slice A nl c, .int .i64 k5', .slice A2 n2 cN] 57) = W := ⟨_, rfl⟩
  rw [hW5]
  obtain ⟨q1, q2, hB5, hs5⟩ := two_boxes W5 hW5
  have hz5 : nb < v5.heap.size := Nat.lt_of_lt_of_le HM4.out.hn.2 HB5.out.size
  have HM5 := Lib.hid (((HM4.out.below HB5.out).below hB5).other q2 (Nat.lt_succ_of_lt hz5))
  have HOLD5 := Lib.hid ((HM4.out.below HB5.out).below hB5)
  obtain ⟨mb5, hmb5⟩ : ∃ mb, v5.heap.size = mb := ⟨_, rfl⟩
  rw [hmb5] at q1 HM5 hz5 ⊢
  have HTK5 := Lib.hid (And.intro q1 hz5)
  clear q1 q2 hB5 hs5 hW5 hmb5 hz5
  obtain ⟨s0, s1, s2, s3, sz⟩ := four_cells HTK5.out.1
  obtain ⟨n0, n1, n2', n3, nz⟩ := nd_cell HM5.out
  go_upto_region 20 with fail
  have HM6 := Lib.hid (HM5.out.setN (j := 1) (v := .int .i64 mn5) (x' := ⟨4, mn5, 0, 0, Po.zero16, []⟩) rfl)
  clear n0 n1 n2' n3 nz
  revert HM6
  generalize W5.setCell ⟨nb, 1, none⟩ (.int .i64 mn5) = W6
  intro HM6
  have hT := LT.ty
  subst hT
  refine wp_pair rfl (HM6.out.pair HDG.out) (by decide) (by simp) rfl rfl rfl rfl (fun a' h1 h2 h3 => ?_)
  have hsay := HM6.out.saysS hS HDG.out rfl (by have := ratom_epoch (L := L) (k := k) (by rw [HR0.out]); rw [HR0.out] at this; simp only at this; rw [rcmp_yes HE.out, HR5.out] at this; exact this)
  have hpr := HM6.out.pair HDG.out
  rename_i z1 z2 z3 z4 z5
  first | exact z5 _ _ (pair_fin hpr rfl h1 h2 h3 rfl rfl Tryz.results75 (fun _ _ h => h) hsay) | exact z4 _ _ (pair_fin hpr rfl h1 h2 h3 rfl rfl Tryz.results75 (fun _ _ h => h) hsay) | exact z3 _ _ (pair_fin hpr rfl h1 h2 h3 rfl rfl Tryz.results75 (fun _ _ h => h) hsay) | exact z2 _ _ (pair_fin hpr rfl h1 h2 h3 rfl rfl Tryz.results75 (fun _ _ h => h) hsay) | exact z1 _ _ (pair_fin hpr rfl h1 h2 h3 rfl rfl Tryz.results75 (fun _ _ h => h) hsay)
set_option maxRecDepth 1000000 in
set_option maxHeartbeats 4000000 in
theorem rf_atom_epoch_ge {L : List Po.Tok} {vl : Value} {A2 : Option Addr} {n2 cN : Nat} {B : Nat} (k : Int) (w : World) (hB : B ≤ w.heap.size) (h : RToks w B vl L) (hL : L.length ≤ 100000) (hk : Po.Pos L k) (xt : List UInt8) (hxt : (rmust L k 1 []).1.t = xt) (hA : Hid (xt = [101, 112, 111, 99, 104])) (hE : Hid (Po.isT (Po.rest L (rmust L k 1 []).2) 3 [61, 61] = false)) :
    Calls Tryz.prog 75 #[.agg #[vl, .int .i64 k, .slice A2 n2 cN]] w (AtomR L k vl (.slice A2 n2 cN) w) := by
  obtain ⟨A, c, rfl, -, -⟩ := h.form
  obtain ⟨nl, hnl⟩ : ∃ n, L.length = n := ⟨_, rfl⟩
  rw [hnl] at h ⊢
  obtain ⟨S, hS⟩ : ∃ S, AtomR L k (.slice A nl c) (.slice A2 n2 cN) w = S := ⟨_, rfl⟩
  rw [hS]
  have HMU : Hid (∀ W', Below w.heap.size w W' → ∀ (k' : Int) (kd : Nat) (t : ByteArray), Calls Tryz.prog 74 #[.agg #[.slice A nl c, .int .i64 k', .slice A2 n2 cN], .int .i64 kd, .string t] W' (MustSays (rmust L k' kd t.data.toList).1 (.agg #[.slice A nl c, .int .i64 (rmust L k' kd t.data.toList).2, .slice A2 n2 cN]) W')) := Lib.hid fun W' hb k' kd t => rf_must k' kd t W' (Nat.le_trans hB hb.size) (h.below (hb.mono hB)) hL
  have HIS : Hid (∀ W', Below w.heap.size w W' → ∀ (k' : Int) (kd : Nat) (t : ByteArray), Calls Tryz.prog 55 #[.agg #[.slice A nl c, .int .i64 k', .slice A2 n2 cN], .int .i64 kd, .string t] W' fun e w' => e = .returned (.bool (Po.isT (Po.rest L k') kd t.data.toList)) ∧ Below W'.heap.size W' w') := Lib.hid fun W' hb k' kd t => rf_is k' kd t W' (Nat.le_trans hB hb.size) (h.below (hb.mono hB))
  have HDI : Hid (∀ W', Below w.heap.size w W' → ∀ (k' : Int), Po.Pos L k' → Calls Tryz.prog 96 #[.agg #[.slice A nl c, .int .i64 k', .slice A2 n2 cN]] W' (DigR L k' (.slice A nl c) (.slice A2 n2 cN) W')) := Lib.hid fun W' hb k' hp => rf_digest k' W' (Nat.le_trans hB hb.size) (h.below (hb.mono hB)) hL hp
  have HLL := Lib.hid (And.intro hL hk)
  obtain ⟨T, N, R, K, LT⟩ := letters
  obtain ⟨W, hW⟩ : ∃ W, ((w.alloc (.cells #[.slice A nl c, .int .i64 k, .slice A2 n2 cN] 57)).alloc (.cells nd0 67)).alloc (.cells #[.slice none 0 0, .int .i64 0, .slice none 0 0] 57) = W := ⟨_, rfl⟩
  obtain ⟨e1, e2, e3, hbW, hsW⟩ := three_new3 W hW
  have HW := Lib.hid (And.intro e2 (And.intro e3 (And.intro hbW hsW)))
  obtain ⟨c0, c1, c2, cz⟩ := three_cells e1
  obtain ⟨⟨⟨xk, xt', xn⟩, k1⟩, hr0⟩ : ∃ z, rmust L k 1 [] = z := ⟨_, rfl⟩
  rw [hr0] at hxt
  simp only at hxt
  subst hxt
  have HR0 := Lib.hid hr0
  have HP1 := Lib.hid (show Po.Pos L k1 by have := rmust_pos L k 1 []; rwa [hr0] at this)
  have HC0 := HMU.out W hbW k 1 ⟨#[]⟩
  rw [show (⟨#[]⟩ : ByteArray).data.toList = [] from rfl, hr0] at HC0
  have HC0 := Lib.hid HC0
  clear e1 e2 e3 hbW hsW hB h hL hnl hk hr0
  go_enter Tryz.func75, Tryz.ntmps75
  obtain ⟨T2, N2, R2, K2, LT2⟩ := letters
  simp only [LT.load, LT.store, LT2.build, LT.loadR, LT.storeR]
  have la := LT.agg
  have lz := LT.size
  go_upto_region 1 with fail
  change Code.wp _ _ _ _ (((w.alloc (.cells #[.slice A nl c, .int .i64 k, .slice A2 n2 cN] 57)).alloc (.cells nd0 67)).alloc (.cells #[.slice none 0 0, .int .i64 0, .slice none 0 0] 57))
  rw [hW]
  clear hW
  go_upto_region 2 with (go_at_call 74; refine HC0.out.mono ?_; rintro e w1 ⟨a1, rfl, hb1⟩; have HB1 := Lib.hid hb1; clear hb1)
  obtain ⟨Wq, hWq⟩ : ∃ Wq, (w1.alloc (.cells #[.int .i64 xk, .string ⟨xt'.toArray⟩, .int .i64 xn, .int .i64 a1] 62)).alloc (.cells #[.slice A nl c, .int .i64 k1, .slice A2 n2 cN] 57) = Wq := ⟨_, rfl⟩
  rw [hWq]
  have hst0 := st_node Wq
  have hcn0 : nd0.size = N := by rw [LT.sz]; rfl
  obtain ⟨cs0, hcs0⟩ : ∃ cs0, nd0 = cs0 := ⟨_, rfl⟩
  rw [hcs0] at hst0 hcn0
  have HCS0 := Lib.hid hcs0
  clear hcs0
  clear c0 c1 c2 cz
  go_wp2_with fail
  have hT2 := LT2.ty
  subst hT2
  refine upon_value (v := .agg cs0) (w' := Wq) (by rw [← HCS0.out]; kernel_rfl) ?_
  rename_i K0 hK0
  refine hK0 _ _ ?_
  clear hK0 K0
  go_upto_region 3 with fail
  have hsq : Wq.heap.size = w1.heap.size + 1 + 1 := by rw [← hWq]; simp
  rw [hsq, ← hWq, ← HCS0.out]
  clear hsq
  change Code.wp _ _ _ _ (((w1.alloc (.cells #[.int .i64 xk, .string ⟨xt'.toArray⟩, .int .i64 xn, .int .i64 a1] 62)).alloc (.cells #[.slice A nl c, .int .i64 k1, .slice A2 n2 cN] 57)).alloc (.cells nd0 67))
  obtain ⟨W0, hW0⟩ : ∃ W0, ((w1.alloc (.cells #[.int .i64 xk, .string ⟨xt'.toArray⟩, .int .i64 xn, .int .i64 a1] 62)).alloc (.cells #[.slice A nl c, .int .i64 k1, .slice A2 n2 cN] 57)).alloc (.cells nd0 67) = W0 := ⟨_, rfl⟩
  rw [hW0]
  obtain ⟨q1, q2, q3, hb0, hs0⟩ := three_new3 W0 hW0
  have hB1 := HB1.out
  have hw2 := HW.out.2.2.2
  have hm0 : AtMem w W0 (.slice A nl c) (.slice A2 n2 cN) k1 (w1.heap.size + 1) (w1.heap.size + 1 + 1) ⟨0, 0, 0, 0, Po.zero16, []⟩ := by
    have h1 := hB1.size
    have hx := hB1.trans (hb0.mono h1)
    exact ⟨q2, q3, (hx.block _ (by omega)).trans HW.out.1, (hx.block _ (by omega)).trans HW.out.2.1, HW.out.2.2.1.trans (hx.mono HW.out.2.2.1.size), ⟨by omega, by omega⟩, ⟨by omega, by omega⟩, by omega⟩
  obtain ⟨tb, htb⟩ : ∃ tb, w1.heap.size = tb := ⟨_, rfl⟩
  rw [htb] at hm0 q1 ⊢
  have htn : tb < tb + 1 + 1 := by omega
  obtain ⟨yb, hyb⟩ : ∃ yb, tb + 1 = yb := ⟨_, rfl⟩
  rw [hyb] at hm0 htn ⊢
  obtain ⟨nb, hnb⟩ : ∃ nb, yb + 1 = nb := ⟨_, rfl⟩
  rw [hnb] at hm0 htn ⊢
  have HM0 := Lib.hid hm0
  have HTT := Lib.hid (And.intro q1 htn)
  obtain ⟨t0, t1, t2, t3, tz⟩ := four_cells q1
  clear hst0 hcn0 la lz t0 t2 t3 tz q1 q2 q3 hb0 hs0 hB1 hw2 hm0 htb hyb hnb hW0 htn
  have hA := hA.out
  subst hA
  have HDG : Hid (Po.zero16.length = 16) := Lib.hid rfl
  have hE := hE.out
  rw [HR0.out] at hE
  simp only at hE
  have HE := Lib.hid hE
  clear hE
  go_upto_region 9 with fail
  obtain ⟨n0, n1, n2', n3, nz⟩ := nd_cell HM0.out
  go_upto_region 10 with fail
  have HM1 := Lib.hid (HM0.out.setN (j := 0) (v := .int .i64 2) (x' := ⟨2, 0, 0, 0, Po.zero16, []⟩) rfl)
  clear n0 n1 n2' n3 nz
  have HT1 := Lib.hid ((World.cell?_of_block (a := ⟨tb, 1, none⟩) (set_other W0 nb 0 (.int .i64 2) tb (by have := HTT.out.2; omega))).trans t1)
  clear t1
  revert HM1 HT1
  generalize W0.setCell ⟨nb, 0, none⟩ (.int .i64 2) = W1
  intro HM1 HT1
  have u1 := HT1.out
  go_upto_region 11 with fail
  clear u1
  obtain ⟨n0, n1, n2', n3, nz⟩ := nd_cell HM1.out
  go_upto_region 12 with fail
  have HM2 := Lib.hid (HM1.out.setN (j := 0) (v := .int .i64 4) (x' := ⟨4, 0, 0, 0, Po.zero16, []⟩) rfl)
  clear n0 n1 n2' n3 nz
  revert HM2
  generalize W1.setCell ⟨nb, 0, none⟩ (.int .i64 4) = W2
  intro HM2
  have HC3 := HIS.out W2 HM2.out.bel k1 3 ⟨#[61, 61]⟩
  rw [show (⟨#[61, 61]⟩ : ByteArray).data.toList = [61, 61] from rfl, HE.out] at HC3
  have HC3 := Lib.hid HC3
  obtain ⟨y0, y1, y2, yz⟩ := three_cells HM2.out.y
  go_upto_region 15 with (go_at_call 55; refine HC3.out.mono ?_; rintro e W3 ⟨rfl, hb3⟩; have HB3 := Lib.hid hb3; clear hb3)
  clear y0 y1 y2 yz
  have HM3 := Lib.hid (HM2.out.below HB3.out)
  obtain ⟨⟨⟨mk4, mt4, mn4⟩, k4'⟩, hr4⟩ : ∃ z, rmust L k1 3 [62, 61] = z := ⟨_, rfl⟩
  have HR4 := Lib.hid hr4
  have HPP4 := Lib.hid (show Po.Pos L k4' by have := rmust_pos L k1 3 [62, 61]; rwa [hr4] at this)
  have HC4 := HMU.out W3 HM3.out.bel k1 3 ⟨#[62, 61]⟩
  rw [show (⟨#[62, 61]⟩ : ByteArray).data.toList = [62, 61] from rfl, hr4] at HC4
  have HC4 := Lib.hid HC4
  clear hr4
  obtain ⟨y0, y1, y2, yz⟩ := three_cells HM3.out.y
  go_upto_region 16 with (go_at_call 74; refine HC4.out.mono ?_; rintro e v4 ⟨a4', rfl, hb4⟩; have HB4 := Lib.hid hb4; clear hb4)
  clear y0 y1 y2 yz
  obtain ⟨W4, hW4⟩ : ∃ W, (v4.alloc (.cells #[.int .i64 mk4, .string ⟨mt4.toArray⟩, .int .i64 mn4, .int .i64 a4'] 62)).alloc (.cells #[.slice A nl c, .int .i64 k4', .slice A2 n2 cN] 57) = W := ⟨_, rfl⟩
  rw [hW4]
  obtain ⟨q1, q2, hB4, hs4⟩ := two_boxes W4 hW4
  have hz4 : nb < v4.heap.size := Nat.lt_of_lt_of_le HM3.out.hn.2 HB4.out.size
  have HM4 := Lib.hid (((HM3.out.below HB4.out).below hB4).other q2 (Nat.lt_succ_of_lt hz4))
  have HOLD4 := Lib.hid ((HM3.out.below HB4.out).below hB4)
  obtain ⟨mb4, hmb4⟩ : ∃ mb, v4.heap.size = mb := ⟨_, rfl⟩
  rw [hmb4] at q1 HM4 hz4 ⊢
  have HTK4 := Lib.hid (And.intro q1 hz4)
  clear q1 q2 hB4 hs4 hW4 hmb4 hz4
  obtain ⟨z0, z1, z2, zz⟩ := three_cells HM4.out.y
  obtain ⟨y0, y1, y2, yz⟩ := three_cells HOLD4.out.y
  go_upto_region 17 with fail
  rw [put3]
  have HM5 := Lib.hid (HOLD4.out.setX k4')
  clear y0 y1 y2 yz
  clear z0 z1 z2 zz
  revert HM5
  generalize putRow W4 yb #[.slice A nl c, .int .i64 k4', .slice A2 n2 cN] = W5
  intro HM5
  obtain ⟨n0, n1, n2', n3, nz⟩ := nd_cell HM5.out
  go_upto_region 18 with fail
  have HM6 := Lib.hid (HM5.out.setN (j := 0) (v := .int .i64 5) (x' := ⟨5, 0, 0, 0, Po.zero16, []⟩) rfl)
  clear n0 n1 n2' n3 nz
  revert HM6
  generalize W5.setCell ⟨nb, 0, none⟩ (.int .i64 5) = W6
  intro HM6
  obtain ⟨⟨⟨mk7, mt7, mn7⟩, k7'⟩, hr7⟩ : ∃ z, rmust L k4' 2 [] = z := ⟨_, rfl⟩
  have HR7 := Lib.hid hr7
  have HPP7 := Lib.hid (show Po.Pos L k7' by have := rmust_pos L k4' 2 []; rwa [hr7] at this)
  have HC7 := HMU.out W6 HM6.out.bel k4' 2 ⟨#[]⟩
  rw [show (⟨#[]⟩ : ByteArray).data.toList = [] from rfl, hr7] at HC7
  have HC7 := Lib.hid HC7
  clear hr7
  obtain ⟨y0, y1, y2, yz⟩ := three_cells HM6.out.y
  go_upto_region 19 with (go_at_call 74; refine HC7.out.mono ?_; rintro e v7 ⟨a7', rfl, hb7⟩; have HB7 := Lib.hid hb7; clear hb7)
  clear y0 y1 y2 yz
  obtain ⟨W7, hW7⟩ : ∃ W, (v7.alloc (.cells #[.int .i64 mk7, .string ⟨mt7.toArray⟩, .int .i64 mn7, .int .i64 a7'] 62)).alloc (.cells #[.slice A nl c, .int .i64 k7', .slice A2 n2 cN] 57) = W := ⟨_, rfl⟩
  rw [hW7]
  obtain ⟨q1, q2, hB7, hs7⟩ := two_boxes W7 hW7
  have hz7 : nb < v7.heap.size := Nat.lt_of_lt_of_le HM6.out.hn.2 HB7.out.size
  have HM7 := Lib.hid (((HM6.out.below HB7.out).below hB7).other q2 (Nat.lt_succ_of_lt hz7))
  have HOLD7 := Lib.hid ((HM6.out.below HB7.out).below hB7)
  obtain ⟨mb7, hmb7⟩ : ∃ mb, v7.heap.size = mb := ⟨_, rfl⟩
  rw [hmb7] at q1 HM7 hz7 ⊢
  have HTK7 := Lib.hid (And.intro q1 hz7)
  clear q1 q2 hB7 hs7 hW7 hmb7 hz7
  obtain ⟨s0, s1, s2, s3, sz⟩ := four_cells HTK7.out.1
  obtain ⟨n0, n1, n2', n3, nz⟩ := nd_cell HM7.out
  go_upto_region 20 with fail
  have HM8 := Lib.hid (HM7.out.setN (j := 1) (v := .int .i64 mn7) (x' := ⟨5, mn7, 0, 0, Po.zero16, []⟩) rfl)
  clear n0 n1 n2' n3 nz
  revert HM8
  generalize W7.setCell ⟨nb, 1, none⟩ (.int .i64 mn7) = W8
  intro HM8
  have hT := LT.ty
  subst hT
  refine wp_pair rfl (HM8.out.pair HDG.out) (by decide) (by simp) rfl rfl rfl rfl (fun a' h1 h2 h3 => ?_)
  have hsay := HM8.out.saysS hS HDG.out rfl (by have := ratom_epoch (L := L) (k := k) (by rw [HR0.out]); rw [HR0.out] at this; simp only at this; rw [rcmp_no HE.out, HR4.out] at this; simp only at this; rw [HR7.out] at this; exact this)
  have hpr := HM8.out.pair HDG.out
  rename_i z1 z2 z3 z4 z5
  first | exact z5 _ _ (pair_fin hpr rfl h1 h2 h3 rfl rfl Tryz.results75 (fun _ _ h => h) hsay) | exact z4 _ _ (pair_fin hpr rfl h1 h2 h3 rfl rfl Tryz.results75 (fun _ _ h => h) hsay) | exact z3 _ _ (pair_fin hpr rfl h1 h2 h3 rfl rfl Tryz.results75 (fun _ _ h => h) hsay) | exact z2 _ _ (pair_fin hpr rfl h1 h2 h3 rfl rfl Tryz.results75 (fun _ _ h => h) hsay) | exact z1 _ _ (pair_fin hpr rfl h1 h2 h3 rfl rfl Tryz.results75 (fun _ _ h => h) hsay)
set_option maxRecDepth 1000000 in
set_option maxHeartbeats 4000000 in
theorem rf_atom_stage {L : List Po.Tok} {vl : Value} {A2 : Option Addr} {n2 cN : Nat} {B : Nat} (k : Int) (w : World) (hB : B ≤ w.heap.size) (h : RToks w B vl L) (hL : L.length ≤ 100000) (hk : Po.Pos L k) (xt : List UInt8) (hxt : (rmust L k 1 []).1.t = xt) (hA : Hid (xt = [115, 116, 97, 103, 101])) :
    Calls Tryz.prog 75 #[.agg #[vl, .int .i64 k, .slice A2 n2 cN]] w (AtomR L k vl (.slice A2 n2 cN) w) := by
  obtain ⟨A, c, rfl, -, -⟩ := h.form
  obtain ⟨nl, hnl⟩ : ∃ n, L.length = n := ⟨_, rfl⟩
  rw [hnl] at h ⊢
  obtain ⟨S, hS⟩ : ∃ S, AtomR L k (.slice A nl c) (.slice A2 n2 cN) w = S := ⟨_, rfl⟩
  rw [hS]
  have HMU : Hid (∀ W', Below w.heap.size w W' → ∀ (k' : Int) (kd : Nat) (t : ByteArray), Calls Tryz.prog 74 #[.agg #[.slice A nl c, .int .i64 k', .slice A2 n2 cN], .int .i64 kd, .string t] W' (MustSays (rmust L k' kd t.data.toList).1 (.agg #[.slice A nl c, .int .i64 (rmust L k' kd t.data.toList).2, .slice A2 n2 cN]) W')) := Lib.hid fun W' hb k' kd t => rf_must k' kd t W' (Nat.le_trans hB hb.size) (h.below (hb.mono hB)) hL
  have HIS : Hid (∀ W', Below w.heap.size w W' → ∀ (k' : Int) (kd : Nat) (t : ByteArray), Calls Tryz.prog 55 #[.agg #[.slice A nl c, .int .i64 k', .slice A2 n2 cN], .int .i64 kd, .string t] W' fun e w' => e = .returned (.bool (Po.isT (Po.rest L k') kd t.data.toList)) ∧ Below W'.heap.size W' w') := Lib.hid fun W' hb k' kd t => rf_is k' kd t W' (Nat.le_trans hB hb.size) (h.below (hb.mono hB))
  have HDI : Hid (∀ W', Below w.heap.size w W' → ∀ (k' : Int), Po.Pos L k' → Calls Tryz.prog 96 #[.agg #[.slice A nl c, .int .i64 k', .slice A2 n2 cN]] W' (DigR L k' (.slice A nl c) (.slice A2 n2 cN) W')) := Lib.hid fun W' hb k' hp => rf_digest k' W' (Nat.le_trans hB hb.size) (h.below (hb.mono hB)) hL hp
  have HLL := Lib.hid (And.intro hL hk)
  obtain ⟨T, N, R, K, LT⟩ := letters
  obtain ⟨W, hW⟩ : ∃ W, ((w.alloc (.cells #[.slice A nl c, .int .i64 k, .slice A2 n2 cN] 57)).alloc (.cells nd0 67)).alloc (.cells #[.slice none 0 0, .int .i64 0, .slice none 0 0] 57) = W := ⟨_, rfl⟩
  obtain ⟨e1, e2, e3, hbW, hsW⟩ := three_new3 W hW
  have HW := Lib.hid (And.intro e2 (And.intro e3 (And.intro hbW hsW)))
  obtain ⟨c0, c1, c2, cz⟩ := three_cells e1
  obtain ⟨⟨⟨xk, xt', xn⟩, k1⟩, hr0⟩ : ∃ z, rmust L k 1 [] = z := ⟨_, rfl⟩
  rw [hr0] at hxt
  simp only at hxt
  subst hxt
  have HR0 := Lib.hid hr0
  have HP1 := Lib.hid (show Po.Pos L k1 by have := rmust_pos L k 1 []; rwa [hr0] at this)
  have HC0 := HMU.out W hbW k 1 ⟨#[]⟩
  rw [show (⟨#[]⟩ : ByteArray).data.toList = [] from rfl, hr0] at HC0
  have HC0 := Lib.hid HC0
  clear e1 e2 e3 hbW hsW hB h hL hnl hk hr0
  go_enter Tryz.func75, Tryz.ntmps75
  obtain ⟨T2, N2, R2, K2, LT2⟩ := letters
  simp only [LT.load, LT.store, LT2.build, LT.loadR, LT.storeR]
  have la := LT.agg
  have lz := LT.size
  go_upto_region 1 with fail
  change Code.wp _ _ _ _ (((w.alloc (.cells #[.slice A nl c, .int .i64 k, .slice A2 n2 cN] 57)).alloc (.cells nd0 67)).alloc (.cells #[.slice none 0 0, .int .i64 0, .slice none 0 0] 57))
  rw [hW]
  clear hW
  go_upto_region 2 with (go_at_call 74; refine HC0.out.mono ?_; rintro e w1 ⟨a1, rfl, hb1⟩; have HB1 := Lib.hid hb1; clear hb1)
  obtain ⟨Wq, hWq⟩ : ∃ Wq, (w1.alloc (.cells #[.int .i64 xk, .string ⟨xt'.toArray⟩, .int .i64 xn, .int .i64 a1] 62)).alloc (.cells #[.slice A nl c, .int .i64 k1, .slice A2 n2 cN] 57) = Wq := ⟨_, rfl⟩
  rw [hWq]
  have hst0 := st_node Wq
  have hcn0 : nd0.size = N := by rw [LT.sz]; rfl
  obtain ⟨cs0, hcs0⟩ : ∃ cs0, nd0 = cs0 := ⟨_, rfl⟩
  rw [hcs0] at hst0 hcn0
  have HCS0 := Lib.hid hcs0
  clear hcs0
  clear c0 c1 c2 cz
  go_wp2_with fail
  have hT2 := LT2.ty
  subst hT2
  refine upon_value (v := .agg cs0) (w' := Wq) (by rw [← HCS0.out]; kernel_rfl) ?_
  rename_i K0 hK0
  refine hK0 _ _ ?_
  clear hK0 K0
  go_upto_region 3 with fail
  have hsq : Wq.heap.size = w1.heap.size + 1 + 1 := by rw [← hWq]; simp
  rw [hsq, ← hWq, ← HCS0.out]
  clear hsq
  change Code.wp _ _ _ _ (((w1.alloc (.cells #[.int .i64 xk, .string ⟨xt'.toArray⟩, .int .i64 xn, .int .i64 a1] 62)).alloc (.cells #[.slice A nl c, .int .i64 k1, .slice A2 n2 cN] 57)).alloc (.cells nd0 67))
  obtain ⟨W0, hW0⟩ : ∃ W0, ((w1.alloc (.cells #[.int .i64 xk, .string ⟨xt'.toArray⟩, .int .i64 xn, .int .i64 a1] 62)).alloc (.cells #[.slice A nl c, .int .i64 k1, .slice A2 n2 cN] 57)).alloc (.cells nd0 67) = W0 := ⟨_, rfl⟩
  rw [hW0]
  obtain ⟨q1, q2, q3, hb0, hs0⟩ := three_new3 W0 hW0
  have hB1 := HB1.out
  have hw2 := HW.out.2.2.2
  have hm0 : AtMem w W0 (.slice A nl c) (.slice A2 n2 cN) k1 (w1.heap.size + 1) (w1.heap.size + 1 + 1) ⟨0, 0, 0, 0, Po.zero16, []⟩ := by
    have h1 := hB1.size
    have hx := hB1.trans (hb0.mono h1)
    exact ⟨q2, q3, (hx.block _ (by omega)).trans HW.out.1, (hx.block _ (by omega)).trans HW.out.2.1, HW.out.2.2.1.trans (hx.mono HW.out.2.2.1.size), ⟨by omega, by omega⟩, ⟨by omega, by omega⟩, by omega⟩
  obtain ⟨tb, htb⟩ : ∃ tb, w1.heap.size = tb := ⟨_, rfl⟩
  rw [htb] at hm0 q1 ⊢
  have htn : tb < tb + 1 + 1 := by omega
  obtain ⟨yb, hyb⟩ : ∃ yb, tb + 1 = yb := ⟨_, rfl⟩
  rw [hyb] at hm0 htn ⊢
  obtain ⟨nb, hnb⟩ : ∃ nb, yb + 1 = nb := ⟨_, rfl⟩
  rw [hnb] at hm0 htn ⊢
  have HM0 := Lib.hid hm0
  have HTT := Lib.hid (And.intro q1 htn)
  obtain ⟨t0, t1, t2, t3, tz⟩ := four_cells q1
  clear hst0 hcn0 la lz t0 t2 t3 tz q1 q2 q3 hb0 hs0 hB1 hw2 hm0 htb hyb hnb hW0 htn
  have hA := hA.out
  subst hA
  go_upto_region 22 with fail
  obtain ⟨n0, n1, n2', n3, nz⟩ := nd_cell HM0.out
  go_upto_region 23 with fail
  have HM1 := Lib.hid (HM0.out.setN (j := 0) (v := .int .i64 6) (x' := ⟨6, 0, 0, 0, Po.zero16, []⟩) rfl)
  clear n0 n1 n2' n3 nz
  revert HM1
  generalize W0.setCell ⟨nb, 0, none⟩ (.int .i64 6) = W1
  intro HM1
  obtain ⟨⟨⟨mk2, mt2, mn2⟩, k2'⟩, hr2⟩ : ∃ z, rmust L k1 2 [] = z := ⟨_, rfl⟩
  have HR2 := Lib.hid hr2
  have HPP2 := Lib.hid (show Po.Pos L k2' by have := rmust_pos L k1 2 []; rwa [hr2] at this)
  have HC2 := HMU.out W1 HM1.out.bel k1 2 ⟨#[]⟩
  rw [show (⟨#[]⟩ : ByteArray).data.toList = [] from rfl, hr2] at HC2
  have HC2 := Lib.hid HC2
  clear hr2
  obtain ⟨y0, y1, y2, yz⟩ := three_cells HM1.out.y
  go_upto_region 24 with (go_at_call 74; refine HC2.out.mono ?_; rintro e v2 ⟨a2', rfl, hb2⟩; have HB2 := Lib.hid hb2; clear hb2)
  clear y0 y1 y2 yz
  obtain ⟨W2, hW2⟩ : ∃ W, (v2.alloc (.cells #[.int .i64 mk2, .string ⟨mt2.toArray⟩, .int .i64 mn2, .int .i64 a2'] 62)).alloc (.cells #[.slice A nl c, .int .i64 k2', .slice A2 n2 cN] 57) = W := ⟨_, rfl⟩
  rw [hW2]
  obtain ⟨q1, q2, hB2, hs2⟩ := two_boxes W2 hW2
  have hz2 : nb < v2.heap.size := Nat.lt_of_lt_of_le HM1.out.hn.2 HB2.out.size
  have HM2 := Lib.hid (((HM1.out.below HB2.out).below hB2).other q2 (Nat.lt_succ_of_lt hz2))
  have HOLD2 := Lib.hid ((HM1.out.below HB2.out).below hB2)
  obtain ⟨mb2, hmb2⟩ : ∃ mb, v2.heap.size = mb := ⟨_, rfl⟩
  rw [hmb2] at q1 HM2 hz2 ⊢
  have HTK2 := Lib.hid (And.intro q1 hz2)
  clear q1 q2 hB2 hs2 hW2 hmb2 hz2
  obtain ⟨s0, s1, s2, s3, sz⟩ := four_cells HTK2.out.1
  obtain ⟨n0, n1, n2', n3, nz⟩ := nd_cell HM2.out
  go_upto_region 25 with fail
  have HM3 := Lib.hid (HM2.out.setN (j := 1) (v := .int .i64 mn2) (x' := ⟨6, mn2, 0, 0, Po.zero16, []⟩) rfl)
  clear n0 n1 n2' n3 nz
  revert HM3
  generalize W2.setCell ⟨nb, 1, none⟩ (.int .i64 mn2) = W3
  intro HM3
  clear s0 s1 s2 s3 sz
  obtain ⟨⟨⟨mk4, mt4, mn4⟩, k4'⟩, hr4⟩ : ∃ z, rmust L k2' 1 [105, 115] = z := ⟨_, rfl⟩
  have HR4 := Lib.hid hr4
  have HPP4 := Lib.hid (show Po.Pos L k4' by have := rmust_pos L k2' 1 [105, 115]; rwa [hr4] at this)
  have HC4 := HMU.out W3 HM3.out.bel k2' 1 ⟨#[105, 115]⟩
  rw [show (⟨#[105, 115]⟩ : ByteArray).data.toList = [105, 115] from rfl, hr4] at HC4
  have HC4 := Lib.hid HC4
  clear hr4
  obtain ⟨y0, y1, y2, yz⟩ := three_cells HM3.out.y
  go_upto_region 26 with (go_at_call 74; refine HC4.out.mono ?_; rintro e v4 ⟨a4', rfl, hb4⟩; have HB4 := Lib.hid hb4; clear hb4)
  clear y0 y1 y2 yz
  obtain ⟨W4, hW4⟩ : ∃ W, (v4.alloc (.cells #[.int .i64 mk4, .string ⟨mt4.toArray⟩, .int .i64 mn4, .int .i64 a4'] 62)).alloc (.cells #[.slice A nl c, .int .i64 k4', .slice A2 n2 cN] 57) = W := ⟨_, rfl⟩
  rw [hW4]
  obtain ⟨q1, q2, hB4, hs4⟩ := two_boxes W4 hW4
  have hz4 : nb < v4.heap.size := Nat.lt_of_lt_of_le HM3.out.hn.2 HB4.out.size
  have HM4 := Lib.hid (((HM3.out.below HB4.out).below hB4).other q2 (Nat.lt_succ_of_lt hz4))
  have HOLD4 := Lib.hid ((HM3.out.below HB4.out).below hB4)
  obtain ⟨mb4, hmb4⟩ : ∃ mb, v4.heap.size = mb := ⟨_, rfl⟩
  rw [hmb4] at q1 HM4 hz4 ⊢
  have HTK4 := Lib.hid (And.intro q1 hz4)
  clear q1 q2 hB4 hs4 hW4 hmb4 hz4
  have HC99 := Lib.hid (HDI.out W4 HM4.out.bel k4' HPP4.out)
  obtain ⟨y0, y1, y2, yz⟩ := three_cells HM4.out.y
  have la := LT.aggR
  have lz := LT.sizeR
  go_upto_region 27 with (go_at_call 96; refine HC99.out.mono ?_; rintro e v9 ⟨dg, k9, rfl, hrr, hd16, hb9⟩; have HDD := Lib.hid (And.intro hrr (And.intro hd16 hb9)); have hst := st_dig v9 hd16 (.cells #[.slice none 0 0, .int .i64 0, .slice none 0 0] 57); have hdn : (dgVals dg).toArray.size = K := (by rw [LT.szR]; simp [dgVals, hd16]); obtain ⟨ds, hds⟩ : ∃ ds, (dgVals dg).toArray = ds := ⟨_, rfl⟩; rw [hds] at hst hdn ⊢; have HDS := Lib.hid hds; clear hds hrr hd16 hb9)
  clear y0 y1 y2 yz
  clear hst
  obtain ⟨W9, hW9⟩ : ∃ W, (v9.alloc (.cells ds 65)).alloc (.cells #[.slice A nl c, .int .i64 k9, .slice A2 n2 cN] 57) = W := ⟨_, rfl⟩
  rw [hW9]
  obtain ⟨q1, q2, hB9, hs9⟩ := two_boxes W9 hW9
  have hz9 : nb < v9.heap.size := Nat.lt_of_lt_of_le HM4.out.hn.2 HDD.out.2.2.size
  have HM9 := Lib.hid (((HM4.out.below HDD.out.2.2).below hB9).other q2 (Nat.lt_succ_of_lt hz9))
  have hld := LT.ldR (w := W9) (b := v9.heap.size) (o := 0) (d := dg) (by have := range_block q1; rw [← HDS.out] at this; simpa using this) HDD.out.2.1
  rw [HDS.out] at hld
  have hst2 := cells_dig HM9.out.n rfl HDD.out.2.1
  rw [HDS.out] at hst2
  have HM10 := Lib.hid (HM9.out.setDg HDD.out.2.1)
  obtain ⟨W10, hW10⟩ : ∃ W10, W9.setCells nb 4 (dgVals dg) = W10 := ⟨_, rfl⟩
  rw [hW10] at hst2 HM10
  clear hW10 hW9 q1 q2 hB9 hs9 hz9
  go_upto_region 28 with fail
  have HDG := Lib.hid HDD.out.2.1
  have hT := LT.ty
  subst hT
  refine wp_pair rfl (HM10.out.pair HDG.out) (by decide) (by simp) rfl rfl rfl rfl (fun a' h1 h2 h3 => ?_)
  have hsay := HM10.out.saysS hS HDG.out rfl (by refine ratom_stage (L := L) (k := k) (d := dg) (k' := k9) (by rw [HR0.out]) ?_ |> fun h => (by rw [HR0.out] at h; simp only at h; rw [HR2.out] at h; exact h); rw [HR0.out]; simp only; rw [HR2.out]; simp only; rw [HR4.out]; exact HDD.out.1)
  have hpr := HM10.out.pair HDG.out
  rename_i z1 z2 z3 z4 z5
  first | exact z5 _ _ (pair_fin hpr rfl h1 h2 h3 rfl rfl Tryz.results75 (fun _ _ h => h) hsay) | exact z4 _ _ (pair_fin hpr rfl h1 h2 h3 rfl rfl Tryz.results75 (fun _ _ h => h) hsay) | exact z3 _ _ (pair_fin hpr rfl h1 h2 h3 rfl rfl Tryz.results75 (fun _ _ h => h) hsay) | exact z2 _ _ (pair_fin hpr rfl h1 h2 h3 rfl rfl Tryz.results75 (fun _ _ h => h) hsay) | exact z1 _ _ (pair_fin hpr rfl h1 h2 h3 rfl rfl Tryz.results75 (fun _ _ h => h) hsay)
set_option maxRecDepth 1000000 in
set_option maxHeartbeats 4000000 in
theorem rf_atom_point_t {L : List Po.Tok} {vl : Value} {A2 : Option Addr} {n2 cN : Nat} {B : Nat} (k : Int) (w : World) (hB : B ≤ w.heap.size) (h : RToks w B vl L) (hL : L.length ≤ 100000) (hk : Po.Pos L k) (xt : List UInt8) (hxt : (rmust L k 1 []).1.t = xt) (hA : Hid (xt = [112, 111, 105, 110, 116])) (hE : Hid (Po.isT (Po.rest L (pt3 L k).2) 1 [116, 114, 117, 101] = true)) :
    Calls Tryz.prog 75 #[.agg #[vl, .int .i64 k, .slice A2 n2 cN]] w (AtomR L k vl (.slice A2 n2 cN) w) := by
  obtain ⟨A, c, rfl, -, -⟩ := h.form
  obtain ⟨nl, hnl⟩ : ∃ n, L.length = n := ⟨_, rfl⟩
  rw [hnl] at h ⊢
  obtain ⟨S, hS⟩ : ∃ S, AtomR L k (.slice A nl c) (.slice A2 n2 cN) w = S := ⟨_, rfl⟩
  rw [hS]
  have HMU : Hid (∀ W', Below w.heap.size w W' → ∀ (k' : Int) (kd : Nat) (t : ByteArray), Calls Tryz.prog 74 #[.agg #[.slice A nl c, .int .i64 k', .slice A2 n2 cN], .int .i64 kd, .string t] W' (MustSays (rmust L k' kd t.data.toList).1 (.agg #[.slice A nl c, .int .i64 (rmust L k' kd t.data.toList).2, .slice A2 n2 cN]) W')) := Lib.hid fun W' hb k' kd t => rf_must k' kd t W' (Nat.le_trans hB hb.size) (h.below (hb.mono hB)) hL
  have HIS : Hid (∀ W', Below w.heap.size w W' → ∀ (k' : Int) (kd : Nat) (t : ByteArray), Calls Tryz.prog 55 #[.agg #[.slice A nl c, .int .i64 k', .slice A2 n2 cN], .int .i64 kd, .string t] W' fun e w' => e = .returned (.bool (Po.isT (Po.rest L k') kd t.data.toList)) ∧ Below W'.heap.size W' w') := Lib.hid fun W' hb k' kd t => rf_is k' kd t W' (Nat.le_trans hB hb.size) (h.below (hb.mono hB))
  have HDI : Hid (∀ W', Below w.heap.size w W' → ∀ (k' : Int), Po.Pos L k' → Calls Tryz.prog 96 #[.agg #[.slice A nl c, .int .i64 k', .slice A2 n2 cN]] W' (DigR L k' (.slice A nl c) (.slice A2 n2 cN) W')) := Lib.hid fun W' hb k' hp => rf_digest k' W' (Nat.le_trans hB hb.size) (h.below (hb.mono hB)) hL hp
  have HLL := Lib.hid (And.intro hL hk)
  obtain ⟨T, N, R, K, LT⟩ := letters
  obtain ⟨W, hW⟩ : ∃ W, ((w.alloc (.cells #[.slice A nl c, .int .i64 k, .slice A2 n2 cN] 57)).alloc (.cells nd0 67)).alloc (.cells #[.slice none 0 0, .int .i64 0, .slice none 0 0] 57) = W := ⟨_, rfl⟩
  obtain ⟨e1, e2, e3, hbW, hsW⟩ := three_new3 W hW
  have HW := Lib.hid (And.intro e2 (And.intro e3 (And.intro hbW hsW)))
  obtain ⟨c0, c1, c2, cz⟩ := three_cells e1
  obtain ⟨⟨⟨xk, xt', xn⟩, k1⟩, hr0⟩ : ∃ z, rmust L k 1 [] = z := ⟨_, rfl⟩
  rw [hr0] at hxt
  simp only at hxt
  subst hxt
  have HR0 := Lib.hid hr0
  have HP1 := Lib.hid (show Po.Pos L k1 by have := rmust_pos L k 1 []; rwa [hr0] at this)
  have HC0 := HMU.out W hbW k 1 ⟨#[]⟩
  rw [show (⟨#[]⟩ : ByteArray).data.toList = [] from rfl, hr0] at HC0
  have HC0 := Lib.hid HC0
  clear e1 e2 e3 hbW hsW hB h hL hnl hk hr0
  go_enter Tryz.func75, Tryz.ntmps75
  obtain ⟨T2, N2, R2, K2, LT2⟩ := letters
  simp only [LT.load, LT.store, LT2.build, LT.loadR, LT.storeR]
  have la := LT.agg
  have lz := LT.size
  go_upto_region 1 with fail
  change Code.wp _ _ _ _ (((w.alloc (.cells #[.slice A nl c, .int .i64 k, .slice A2 n2 cN] 57)).alloc (.cells nd0 67)).alloc (.cells #[.slice none 0 0, .int .i64 0, .slice none 0 0] 57))
  rw [hW]
  clear hW
  go_upto_region 2 with (go_at_call 74; refine HC0.out.mono ?_; rintro e w1 ⟨a1, rfl, hb1⟩; have HB1 := Lib.hid hb1; clear hb1)
  obtain ⟨Wq, hWq⟩ : ∃ Wq, (w1.alloc (.cells #[.int .i64 xk, .string ⟨xt'.toArray⟩, .int .i64 xn, .int .i64 a1] 62)).alloc (.cells #[.slice A nl c, .int .i64 k1, .slice A2 n2 cN] 57) = Wq := ⟨_, rfl⟩
  rw [hWq]
  have hst0 := st_node Wq
  have hcn0 : nd0.size = N := by rw [LT.sz]; rfl
  obtain ⟨cs0, hcs0⟩ : ∃ cs0, nd0 = cs0 := ⟨_, rfl⟩
  rw [hcs0] at hst0 hcn0
  have HCS0 := Lib.hid hcs0
  clear hcs0
  clear c0 c1 c2 cz
  go_wp2_with fail
  have hT2 := LT2.ty
  subst hT2
  refine upon_value (v := .agg cs0) (w' := Wq) (by rw [← HCS0.out]; kernel_rfl) ?_
  rename_i K0 hK0
  refine hK0 _ _ ?_
  clear hK0 K0
  go_upto_region 3 with fail
  have hsq : Wq.heap.size = w1.heap.size + 1 + 1 := by rw [← hWq]; simp
  rw [hsq, ← hWq, ← HCS0.out]
  clear hsq
  change Code.wp _ _ _ _ (((w1.alloc (.cells #[.int .i64 xk, .string ⟨xt'.toArray⟩, .int .i64 xn, .int .i64 a1] 62)).alloc (.cells #[.slice A nl c, .int .i64 k1, .slice A2 n2 cN] 57)).alloc (.cells nd0 67))
  obtain ⟨W0, hW0⟩ : ∃ W0, ((w1.alloc (.cells #[.int .i64 xk, .string ⟨xt'.toArray⟩, .int .i64 xn, .int .i64 a1] 62)).alloc (.cells #[.slice A nl c, .int .i64 k1, .slice A2 n2 cN] 57)).alloc (.cells nd0 67) = W0 := ⟨_, rfl⟩
  rw [hW0]
  obtain ⟨q1, q2, q3, hb0, hs0⟩ := three_new3 W0 hW0
  have hB1 := HB1.out
  have hw2 := HW.out.2.2.2
  have hm0 : AtMem w W0 (.slice A nl c) (.slice A2 n2 cN) k1 (w1.heap.size + 1) (w1.heap.size + 1 + 1) ⟨0, 0, 0, 0, Po.zero16, []⟩ := by
    have h1 := hB1.size
    have hx := hB1.trans (hb0.mono h1)
    exact ⟨q2, q3, (hx.block _ (by omega)).trans HW.out.1, (hx.block _ (by omega)).trans HW.out.2.1, HW.out.2.2.1.trans (hx.mono HW.out.2.2.1.size), ⟨by omega, by omega⟩, ⟨by omega, by omega⟩, by omega⟩
  obtain ⟨tb, htb⟩ : ∃ tb, w1.heap.size = tb := ⟨_, rfl⟩
  rw [htb] at hm0 q1 ⊢
  have htn : tb < tb + 1 + 1 := by omega
  obtain ⟨yb, hyb⟩ : ∃ yb, tb + 1 = yb := ⟨_, rfl⟩
  rw [hyb] at hm0 htn ⊢
  obtain ⟨nb, hnb⟩ : ∃ nb, yb + 1 = nb := ⟨_, rfl⟩
  rw [hnb] at hm0 htn ⊢
  have HM0 := Lib.hid hm0
  have HTT := Lib.hid (And.intro q1 htn)
  obtain ⟨t0, t1, t2, t3, tz⟩ := four_cells q1
  clear hst0 hcn0 la lz t0 t2 t3 tz q1 q2 q3 hb0 hs0 hB1 hw2 hm0 htb hyb hnb hW0 htn
  have hA := hA.out
  subst hA
  have HDG : Hid (Po.zero16.length = 16) := Lib.hid rfl
  have HE0 := hE
  go_upto_region 30 with fail
  obtain ⟨n0, n1, n2', n3, nz⟩ := nd_cell HM0.out
  go_upto_region 31 with fail
  have HM1 := Lib.hid (HM0.out.setN (j := 0) (v := .int .i64 7) (x' := ⟨7, 0, 0, 0, Po.zero16, []⟩) rfl)
  clear n0 n1 n2' n3 nz
  revert HM1
  generalize W0.setCell ⟨nb, 0, none⟩ (.int .i64 7) = W1
  intro HM1
  obtain ⟨⟨⟨mk2, mt2, mn2⟩, k2'⟩, hr2⟩ : ∃ z, rmust L k1 2 [] = z := ⟨_, rfl⟩
  have HR2 := Lib.hid hr2
  have HPP2 := Lib.hid (show Po.Pos L k2' by have := rmust_pos L k1 2 []; rwa [hr2] at this)
  have HC2 := HMU.out W1 HM1.out.bel k1 2 ⟨#[]⟩
  rw [show (⟨#[]⟩ : ByteArray).data.toList = [] from rfl, hr2] at HC2
  have HC2 := Lib.hid HC2
  clear hr2
  obtain ⟨y0, y1, y2, yz⟩ := three_cells HM1.out.y
  go_upto_region 32 with (go_at_call 74; refine HC2.out.mono ?_; rintro e v2 ⟨a2', rfl, hb2⟩; have HB2 := Lib.hid hb2; clear hb2)
  clear y0 y1 y2 yz
  obtain ⟨W2, hW2⟩ : ∃ W, (v2.alloc (.cells #[.int .i64 mk2, .string ⟨mt2.toArray⟩, .int .i64 mn2, .int .i64 a2'] 62)).alloc (.cells #[.slice A nl c, .int .i64 k2', .slice A2 n2 cN] 57) = W := ⟨_, rfl⟩
  rw [hW2]
  obtain ⟨q1, q2, hB2, hs2⟩ := two_boxes W2 hW2
  have hz2 : nb < v2.heap.size := Nat.lt_of_lt_of_le HM1.out.hn.2 HB2.out.size
  have HM2 := Lib.hid (((HM1.out.below HB2.out).below hB2).other q2 (Nat.lt_succ_of_lt hz2))
  have HOLD2 := Lib.hid ((HM1.out.below HB2.out).below hB2)
  obtain ⟨mb2, hmb2⟩ : ∃ mb, v2.heap.size = mb := ⟨_, rfl⟩
  rw [hmb2] at q1 HM2 hz2 ⊢
  have HTK2 := Lib.hid (And.intro q1 hz2)
  clear q1 q2 hB2 hs2 hW2 hmb2 hz2
  obtain ⟨⟨⟨mk3, mt3, mn3⟩, k3'⟩, hr3⟩ : ∃ z, rmust L k2' 2 [] = z := ⟨_, rfl⟩
  have HR3 := Lib.hid hr3
  have HPP3 := Lib.hid (show Po.Pos L k3' by have := rmust_pos L k2' 2 []; rwa [hr3] at this)
  have HC3 := HMU.out W2 HM2.out.bel k2' 2 ⟨#[]⟩
  rw [show (⟨#[]⟩ : ByteArray).data.toList = [] from rfl, hr3] at HC3
  have HC3 := Lib.hid HC3
  clear hr3
  obtain ⟨y0, y1, y2, yz⟩ := three_cells HM2.out.y
  go_upto_region 33 with (go_at_call 74; refine HC3.out.mono ?_; rintro e v3 ⟨a3', rfl, hb3⟩; have HB3 := Lib.hid hb3; clear hb3)
  clear y0 y1 y2 yz
  obtain ⟨W3, hW3⟩ : ∃ W, (v3.alloc (.cells #[.int .i64 mk3, .string ⟨mt3.toArray⟩, .int .i64 mn3, .int .i64 a3'] 62)).alloc (.cells #[.slice A nl c, .int .i64 k3', .slice A2 n2 cN] 57) = W := ⟨_, rfl⟩
  rw [hW3]
  obtain ⟨q1, q2, hB3, hs3⟩ := two_boxes W3 hW3
  have hz3 : nb < v3.heap.size := Nat.lt_of_lt_of_le HM2.out.hn.2 HB3.out.size
  have HM3 := Lib.hid (((HM2.out.below HB3.out).below hB3).other q2 (Nat.lt_succ_of_lt hz3))
  have HOLD3 := Lib.hid ((HM2.out.below HB3.out).below hB3)
  have HTK2_3 := Lib.hid ((hB3.block mb2 (Nat.lt_of_lt_of_le (lt_of_block HTK2.out.1) HB3.out.size)).trans ((HB3.out.block mb2 (lt_of_block HTK2.out.1)).trans HTK2.out.1))
  obtain ⟨mb3, hmb3⟩ : ∃ mb, v3.heap.size = mb := ⟨_, rfl⟩
  rw [hmb3] at q1 HM3 hz3 ⊢
  have HTK3 := Lib.hid (And.intro q1 hz3)
  clear q1 q2 hB3 hs3 hW3 hmb3 hz3
  obtain ⟨s0, s1, s2, s3, sz⟩ := four_cells HTK2_3.out
  obtain ⟨n0, n1, n2', n3, nz⟩ := nd_cell HM3.out
  go_upto_region 34 with fail
  have HM4 := Lib.hid (HM3.out.setN (j := 1) (v := .int .i64 mn2) (x' := ⟨7, mn2, 0, 0, Po.zero16, []⟩) rfl)
  have HTK3_4 := Lib.hid ((set_other W3 nb 1 (.int .i64 mn2) mb3 (Nat.ne_of_gt HTK3.out.2)).trans HTK3.out.1)
  clear n0 n1 n2' n3 nz
  revert HM4 HTK3_4
  generalize W3.setCell ⟨nb, 1, none⟩ (.int .i64 mn2) = W4
  intro HM4 HTK3_4
  clear s0 s1 s2 s3 sz
  obtain ⟨s0, s1, s2, s3, sz⟩ := four_cells HTK3_4.out
  obtain ⟨n0, n1, n2', n3, nz⟩ := nd_cell HM4.out
  go_upto_region 35 with fail
  have HM5 := Lib.hid (HM4.out.setN (j := 2) (v := .int .i64 mn3) (x' := ⟨7, mn2, mn3, 0, Po.zero16, []⟩) rfl)
  clear n0 n1 n2' n3 nz
  revert HM5
  generalize W4.setCell ⟨nb, 2, none⟩ (.int .i64 mn3) = W5
  intro HM5
  clear s0 s1 s2 s3 sz
  obtain ⟨⟨⟨mk6, mt6, mn6⟩, k6'⟩, hr6⟩ : ∃ z, rmust L k3' 1 [116, 111, 111, 107] = z := ⟨_, rfl⟩
  have HR6 := Lib.hid hr6
  have HPP6 := Lib.hid (show Po.Pos L k6' by have := rmust_pos L k3' 1 [116, 111, 111, 107]; rwa [hr6] at this)
  have HC6 := HMU.out W5 HM5.out.bel k3' 1 ⟨#[116, 111, 111, 107]⟩
  rw [show (⟨#[116, 111, 111, 107]⟩ : ByteArray).data.toList = [116, 111, 111, 107] from rfl, hr6] at HC6
  have HC6 := Lib.hid HC6
  clear hr6
  obtain ⟨y0, y1, y2, yz⟩ := three_cells HM5.out.y
  go_upto_region 36 with (go_at_call 74; refine HC6.out.mono ?_; rintro e v6 ⟨a6', rfl, hb6⟩; have HB6 := Lib.hid hb6; clear hb6)
  clear y0 y1 y2 yz
  obtain ⟨W6, hW6⟩ : ∃ W, (v6.alloc (.cells #[.int .i64 mk6, .string ⟨mt6.toArray⟩, .int .i64 mn6, .int .i64 a6'] 62)).alloc (.cells #[.slice A nl c, .int .i64 k6', .slice A2 n2 cN] 57) = W := ⟨_, rfl⟩
  rw [hW6]
  obtain ⟨q1, q2, hB6, hs6⟩ := two_boxes W6 hW6
  have hz6 : nb < v6.heap.size := Nat.lt_of_lt_of_le HM5.out.hn.2 HB6.out.size
  have HM6 := Lib.hid (((HM5.out.below HB6.out).below hB6).other q2 (Nat.lt_succ_of_lt hz6))
  have HOLD6 := Lib.hid ((HM5.out.below HB6.out).below hB6)
  obtain ⟨mb6, hmb6⟩ : ∃ mb, v6.heap.size = mb := ⟨_, rfl⟩
  rw [hmb6] at q1 HM6 hz6 ⊢
  have HTK6 := Lib.hid (And.intro q1 hz6)
  clear q1 q2 hB6 hs6 hW6 hmb6 hz6
  have hp3 : (pt3 L k).2 = k6' := by unfold pt3 pt2 pt1; rw [HR0.out]; simp only; rw [HR2.out]; simp only; rw [HR3.out]; simp only; rw [HR6.out]
  have HP3 := Lib.hid hp3
  have hp1 : (pt1 L k).1.n = mn2 ∧ (pt2 L k).1.n = mn3 := by unfold pt2 pt1; rw [HR0.out]; simp only; rw [HR2.out]; simp only; rw [HR3.out]; first | exact ⟨rfl, rfl⟩ | simp
  have HP12 := Lib.hid hp1
  have HE := Lib.hid (show Po.isT (Po.rest L k6') 1 [116, 114, 117, 101] = true by rw [← HP3.out]; exact HE0.out)
  clear hp3 hp1
  have HC7 := HIS.out W6 HM6.out.bel k6' 1 ⟨#[116, 114, 117, 101]⟩
  rw [show (⟨#[116, 114, 117, 101]⟩ : ByteArray).data.toList = [116, 114, 117, 101] from rfl, HE.out] at HC7
  have HC7 := Lib.hid HC7
  obtain ⟨y0, y1, y2, yz⟩ := three_cells HM6.out.y
  go_upto_region 38 with (go_at_call 55; refine HC7.out.mono ?_; rintro e W7 ⟨rfl, hb7⟩; have HB7 := Lib.hid hb7; clear hb7)
  clear y0 y1 y2 yz
  have HM7 := Lib.hid (HM6.out.below HB7.out)
  obtain ⟨n0, n1, n2', n3, nz⟩ := nd_cell HM7.out
  go_upto_region 39 with fail
  have HM8 := Lib.hid (HM7.out.setN (j := 3) (v := .int .i64 1) (x' := ⟨7, mn2, mn3, 1, Po.zero16, []⟩) rfl)
  clear n0 n1 n2' n3 nz
  revert HM8
  generalize W7.setCell ⟨nb, 3, none⟩ (.int .i64 1) = W8
  intro HM8
  have wk := wrap_up HPP6.out HLL.out.1
  obtain ⟨y0, y1, y2, yz⟩ := three_cells HM8.out.y
  go_upto_region 40 with fail
  have HM9 := Lib.hid (HM8.out.setK (k6' + 1))
  clear y0 y1 y2 yz
  revert HM9
  generalize W8.setCell ⟨(mb6 + 1), 1, none⟩ (.int .i64 (k6' + 1)) = W9
  intro HM9
  have hT := LT.ty
  subst hT
  refine wp_pair rfl (HM9.out.pair HDG.out) (by decide) (by simp) rfl rfl rfl rfl (fun a' h1 h2 h3 => ?_)
  have hsay := HM9.out.saysS hS HDG.out rfl (by have := ratom_yes (L := L) (k := k) (by rw [HR0.out]) HE0.out; rw [HP12.out.1, HP12.out.2, HP3.out] at this; exact this)
  have hpr := HM9.out.pair HDG.out
  rename_i z1 z2 z3 z4 z5
  first | exact z5 _ _ (pair_fin hpr rfl h1 h2 h3 rfl rfl Tryz.results75 (fun _ _ h => h) hsay) | exact z4 _ _ (pair_fin hpr rfl h1 h2 h3 rfl rfl Tryz.results75 (fun _ _ h => h) hsay) | exact z3 _ _ (pair_fin hpr rfl h1 h2 h3 rfl rfl Tryz.results75 (fun _ _ h => h) hsay) | exact z2 _ _ (pair_fin hpr rfl h1 h2 h3 rfl rfl Tryz.results75 (fun _ _ h => h) hsay) | exact z1 _ _ (pair_fin hpr rfl h1 h2 h3 rfl rfl Tryz.results75 (fun _ _ h => h) hsay)
set_option maxRecDepth 1000000 in
set_option maxHeartbeats 4000000 in
theorem rf_atom_point_f {L : List Po.Tok} {vl : Value} {A2 : Option Addr} {n2 cN : Nat} {B : Nat} (k : Int) (w : World) (hB : B ≤ w.heap.size) (h : RToks w B vl L) (hL : L.length ≤ 100000) (hk : Po.Pos L k) (xt : List UInt8) (hxt : (rmust L k 1 []).1.t = xt) (hA : Hid (xt = [112, 111, 105, 110, 116])) (hE : Hid (Po.isT (Po.rest L (pt3 L k).2) 1 [116, 114, 117, 101] = false)) :
    Calls Tryz.prog 75 #[.agg #[vl, .int .i64 k, .slice A2 n2 cN]] w (AtomR L k vl (.slice A2 n2 cN) w) := by
  obtain ⟨A, c, rfl, -, -⟩ := h.form
  obtain ⟨nl, hnl⟩ : ∃ n, L.length = n := ⟨_, rfl⟩
  rw [hnl] at h ⊢
  obtain ⟨S, hS⟩ : ∃ S, AtomR L k (.slice A nl c) (.slice A2 n2 cN) w = S := ⟨_, rfl⟩
  rw [hS]
  have HMU : Hid (∀ W', Below w.heap.size w W' → ∀ (k' : Int) (kd : Nat) (t : ByteArray), Calls Tryz.prog 74 #[.agg #[.slice A nl c, .int .i64 k', .slice A2 n2 cN], .int .i64 kd, .string t] W' (MustSays (rmust L k' kd t.data.toList).1 (.agg #[.slice A nl c, .int .i64 (rmust L k' kd t.data.toList).2, .slice A2 n2 cN]) W')) := Lib.hid fun W' hb k' kd t => rf_must k' kd t W' (Nat.le_trans hB hb.size) (h.below (hb.mono hB)) hL
  have HIS : Hid (∀ W', Below w.heap.size w W' → ∀ (k' : Int) (kd : Nat) (t : ByteArray), Calls Tryz.prog 55 #[.agg #[.slice A nl c, .int .i64 k', .slice A2 n2 cN], .int .i64 kd, .string t] W' fun e w' => e = .returned (.bool (Po.isT (Po.rest L k') kd t.data.toList)) ∧ Below W'.heap.size W' w') := Lib.hid fun W' hb k' kd t => rf_is k' kd t W' (Nat.le_trans hB hb.size) (h.below (hb.mono hB))
  have HDI : Hid (∀ W', Below w.heap.size w W' → ∀ (k' : Int), Po.Pos L k' → Calls Tryz.prog 96 #[.agg #[.slice A nl c, .int .i64 k', .slice A2 n2 cN]] W' (DigR L k' (.slice A nl c) (.slice A2 n2 cN) W')) := Lib.hid fun W' hb k' hp => rf_digest k' W' (Nat.le_trans hB hb.size) (h.below (hb.mono hB)) hL hp
  have HLL := Lib.hid (And.intro hL hk)
  obtain ⟨T, N, R, K, LT⟩ := letters
  obtain ⟨W, hW⟩ : ∃ W, ((w.alloc (.cells #[.slice A nl c, .int .i64 k, .slice A2 n2 cN] 57)).alloc (.cells nd0 67)).alloc (.cells #[.slice none 0 0, .int .i64 0, .slice none 0 0] 57) = W := ⟨_, rfl⟩
  obtain ⟨e1, e2, e3, hbW, hsW⟩ := three_new3 W hW
  have HW := Lib.hid (And.intro e2 (And.intro e3 (And.intro hbW hsW)))
  obtain ⟨c0, c1, c2, cz⟩ := three_cells e1
  obtain ⟨⟨⟨xk, xt', xn⟩, k1⟩, hr0⟩ : ∃ z, rmust L k 1 [] = z := ⟨_, rfl⟩
  rw [hr0] at hxt
  simp only at hxt
  subst hxt
  have HR0 := Lib.hid hr0
  have HP1 := Lib.hid (show Po.Pos L k1 by have := rmust_pos L k 1 []; rwa [hr0] at this)
  have HC0 := HMU.out W hbW k 1 ⟨#[]⟩
  rw [show (⟨#[]⟩ : ByteArray).data.toList = [] from rfl, hr0] at HC0
  have HC0 := Lib.hid HC0
  clear e1 e2 e3 hbW hsW hB h hL hnl hk hr0
  go_enter Tryz.func75, Tryz.ntmps75
  obtain ⟨T2, N2, R2, K2, LT2⟩ := letters
  simp only [LT.load, LT.store, LT2.build, LT.loadR, LT.storeR]
  have la := LT.agg
  have lz := LT.size
  go_upto_region 1 with fail
  change Code.wp _ _ _ _ (((w.alloc (.cells #[.slice A nl c, .int .i64 k, .slice A2 n2 cN] 57)).alloc (.cells nd0 67)).alloc (.cells #[.slice none 0 0, .int .i64 0, .slice none 0 0] 57))
  rw [hW]
  clear hW
  go_upto_region 2 with (go_at_call 74; refine HC0.out.mono ?_; rintro e w1 ⟨a1, rfl, hb1⟩; have HB1 := Lib.hid hb1; clear hb1)
  obtain ⟨Wq, hWq⟩ : ∃ Wq, (w1.alloc (.cells #[.int .i64 xk, .string ⟨xt'.toArray⟩, .int .i64 xn, .int .i64 a1] 62)).alloc (.cells #[.slice A nl c, .int .i64 k1, .slice A2 n2 cN] 57) = Wq := ⟨_, rfl⟩
  rw [hWq]
  have hst0 := st_node Wq
  have hcn0 : nd0.size = N := by rw [LT.sz]; rfl
  obtain ⟨cs0, hcs0⟩ : ∃ cs0, nd0 = cs0 := ⟨_, rfl⟩
  rw [hcs0] at hst0 hcn0
  have HCS0 := Lib.hid hcs0
  clear hcs0
  clear c0 c1 c2 cz
  go_wp2_with fail
  have hT2 := LT2.ty
  subst hT2
  refine upon_value (v := .agg cs0) (w' := Wq) (by rw [← HCS0.out]; kernel_rfl) ?_
  rename_i K0 hK0
  refine hK0 _ _ ?_
  clear hK0 K0
  go_upto_region 3 with fail
  have hsq : Wq.heap.size = w1.heap.size + 1 + 1 := by rw [← hWq]; simp
  rw [hsq, ← hWq, ← HCS0.out]
  clear hsq
  change Code.wp _ _ _ _ (((w1.alloc (.cells #[.int .i64 xk, .string ⟨xt'.toArray⟩, .int .i64 xn, .int .i64 a1] 62)).alloc (.cells #[.slice A nl c, .int .i64 k1, .slice A2 n2 cN] 57)).alloc (.cells nd0 67))
  obtain ⟨W0, hW0⟩ : ∃ W0, ((w1.alloc (.cells #[.int .i64 xk, .string ⟨xt'.toArray⟩, .int .i64 xn, .int .i64 a1] 62)).alloc (.cells #[.slice A nl c, .int .i64 k1, .slice A2 n2 cN] 57)).alloc (.cells nd0 67) = W0 := ⟨_, rfl⟩
  rw [hW0]
  obtain ⟨q1, q2, q3, hb0, hs0⟩ := three_new3 W0 hW0
  have hB1 := HB1.out
  have hw2 := HW.out.2.2.2
  have hm0 : AtMem w W0 (.slice A nl c) (.slice A2 n2 cN) k1 (w1.heap.size + 1) (w1.heap.size + 1 + 1) ⟨0, 0, 0, 0, Po.zero16, []⟩ := by
    have h1 := hB1.size
    have hx := hB1.trans (hb0.mono h1)
    exact ⟨q2, q3, (hx.block _ (by omega)).trans HW.out.1, (hx.block _ (by omega)).trans HW.out.2.1, HW.out.2.2.1.trans (hx.mono HW.out.2.2.1.size), ⟨by omega, by omega⟩, ⟨by omega, by omega⟩, by omega⟩
  obtain ⟨tb, htb⟩ : ∃ tb, w1.heap.size = tb := ⟨_, rfl⟩
  rw [htb] at hm0 q1 ⊢
  have htn : tb < tb + 1 + 1 := by omega
  obtain ⟨yb, hyb⟩ : ∃ yb, tb + 1 = yb := ⟨_, rfl⟩
  rw [hyb] at hm0 htn ⊢
  obtain ⟨nb, hnb⟩ : ∃ nb, yb + 1 = nb := ⟨_, rfl⟩
  rw [hnb] at hm0 htn ⊢
  have HM0 := Lib.hid hm0
  have HTT := Lib.hid (And.intro q1 htn)
  obtain ⟨t0, t1, t2, t3, tz⟩ := four_cells q1
  clear hst0 hcn0 la lz t0 t2 t3 tz q1 q2 q3 hb0 hs0 hB1 hw2 hm0 htb hyb hnb hW0 htn
  have hA := hA.out
  subst hA
  have HDG : Hid (Po.zero16.length = 16) := Lib.hid rfl
  have HE0 := hE
  go_upto_region 30 with fail
  obtain ⟨n0, n1, n2', n3, nz⟩ := nd_cell HM0.out
  go_upto_region 31 with fail
  have HM1 := Lib.hid (HM0.out.setN (j := 0) (v := .int .i64 7) (x' := ⟨7, 0, 0, 0, Po.zero16, []⟩) rfl)
  clear n0 n1 n2' n3 nz
  revert HM1
  generalize W0.setCell ⟨nb, 0, none⟩ (.int .i64 7) = W1
  intro HM1
  obtain ⟨⟨⟨mk2, mt2, mn2⟩, k2'⟩, hr2⟩ : ∃ z, rmust L k1 2 [] = z := ⟨_, rfl⟩
  have HR2 := Lib.hid hr2
  have HPP2 := Lib.hid (show Po.Pos L k2' by have := rmust_pos L k1 2 []; rwa [hr2] at this)
  have HC2 := HMU.out W1 HM1.out.bel k1 2 ⟨#[]⟩
  rw [show (⟨#[]⟩ : ByteArray).data.toList = [] from rfl, hr2] at HC2
  have HC2 := Lib.hid HC2
  clear hr2
  obtain ⟨y0, y1, y2, yz⟩ := three_cells HM1.out.y
  go_upto_region 32 with (go_at_call 74; refine HC2.out.mono ?_; rintro e v2 ⟨a2', rfl, hb2⟩; have HB2 := Lib.hid hb2; clear hb2)
  clear y0 y1 y2 yz
  obtain ⟨W2, hW2⟩ : ∃ W, (v2.alloc (.cells #[.int .i64 mk2, .string ⟨mt2.toArray⟩, .int .i64 mn2, .int .i64 a2'] 62)).alloc (.cells #[.slice A nl c, .int .i64 k2', .slice A2 n2 cN] 57) = W := ⟨_, rfl⟩
  rw [hW2]
  obtain ⟨q1, q2, hB2, hs2⟩ := two_boxes W2 hW2
  have hz2 : nb < v2.heap.size := Nat.lt_of_lt_of_le HM1.out.hn.2 HB2.out.size
  have HM2 := Lib.hid (((HM1.out.below HB2.out).below hB2).other q2 (Nat.lt_succ_of_lt hz2))
  have HOLD2 := Lib.hid ((HM1.out.below HB2.out).below hB2)
  obtain ⟨mb2, hmb2⟩ : ∃ mb, v2.heap.size = mb := ⟨_, rfl⟩
  rw [hmb2] at q1 HM2 hz2 ⊢
  have HTK2 := Lib.hid (And.intro q1 hz2)
  clear q1 q2 hB2 hs2 hW2 hmb2 hz2
  obtain ⟨⟨⟨mk3, mt3, mn3⟩, k3'⟩, hr3⟩ : ∃ z, rmust L k2' 2 [] = z := ⟨_, rfl⟩
  have HR3 := Lib.hid hr3
  have HPP3 := Lib.hid (show Po.Pos L k3' by have := rmust_pos L k2' 2 []; rwa [hr3] at this)
  have HC3 := HMU.out W2 HM2.out.bel k2' 2 ⟨#[]⟩
  rw [show (⟨#[]⟩ : ByteArray).data.toList = [] from rfl, hr3] at HC3
  have HC3 := Lib.hid HC3
  clear hr3
  obtain ⟨y0, y1, y2, yz⟩ := three_cells HM2.out.y
  go_upto_region 33 with (go_at_call 74; refine HC3.out.mono ?_; rintro e v3 ⟨a3', rfl, hb3⟩; have HB3 := Lib.hid hb3; clear hb3)
  clear y0 y1 y2 yz
  obtain ⟨W3, hW3⟩ : ∃ W, (v3.alloc (.cells #[.int .i64 mk3, .string ⟨mt3.toArray⟩, .int .i64 mn3, .int .i64 a3'] 62)).alloc (.cells #[.slice A nl c, .int .i64 k3', .slice A2 n2 cN] 57) = W := ⟨_, rfl⟩
  rw [hW3]
  obtain ⟨q1, q2, hB3, hs3⟩ := two_boxes W3 hW3
  have hz3 : nb < v3.heap.size := Nat.lt_of_lt_of_le HM2.out.hn.2 HB3.out.size
  have HM3 := Lib.hid (((HM2.out.below HB3.out).below hB3).other q2 (Nat.lt_succ_of_lt hz3))
  have HOLD3 := Lib.hid ((HM2.out.below HB3.out).below hB3)
  have HTK2_3 := Lib.hid ((hB3.block mb2 (Nat.lt_of_lt_of_le (lt_of_block HTK2.out.1) HB3.out.size)).trans ((HB3.out.block mb2 (lt_of_block HTK2.out.1)).trans HTK2.out.1))
  obtain ⟨mb3, hmb3⟩ : ∃ mb, v3.heap.size = mb := ⟨_, rfl⟩
  rw [hmb3] at q1 HM3 hz3 ⊢
  have HTK3 := Lib.hid (And.intro q1 hz3)
  clear q1 q2 hB3 hs3 hW3 hmb3 hz3
  obtain ⟨s0, s1, s2, s3, sz⟩ := four_cells HTK2_3.out
  obtain ⟨n0, n1, n2', n3, nz⟩ := nd_cell HM3.out
  go_upto_region 34 with fail
  have HM4 := Lib.hid (HM3.out.setN (j := 1) (v := .int .i64 mn2) (x' := ⟨7, mn2, 0, 0, Po.zero16, []⟩) rfl)
  have HTK3_4 := Lib.hid ((set_other W3 nb 1 (.int .i64 mn2) mb3 (Nat.ne_of_gt HTK3.out.2)).trans HTK3.out.1)
  clear n0 n1 n2' n3 nz
  revert HM4 HTK3_4
  generalize W3.setCell ⟨nb, 1, none⟩ (.int .i64 mn2) = W4
  intro HM4 HTK3_4
  clear s0 s1 s2 s3 sz
  obtain ⟨s0, s1, s2, s3, sz⟩ := four_cells HTK3_4.out
  obtain ⟨n0, n1, n2', n3, nz⟩ := nd_cell HM4.out
  go_upto_region 35 with fail
  have HM5 := Lib.hid (HM4.out.setN (j := 2) (v := .int .i64 mn3) (x' := ⟨7, mn2, mn3, 0, Po.zero16, []⟩) rfl)
  clear n0 n1 n2' n3 nz
  revert HM5
  generalize W4.setCell ⟨nb, 2, none⟩ (.int .i64 mn3) = W5
  intro HM5
  clear s0 s1 s2 s3 sz
  obtain ⟨⟨⟨mk6, mt6, mn6⟩, k6'⟩, hr6⟩ : ∃ z, rmust L k3' 1 [116, 111, 111, 107] = z := ⟨_, rfl⟩
  have HR6 := Lib.hid hr6
  have HPP6 := Lib.hid (show Po.Pos L k6' by have := rmust_pos L k3' 1 [116, 111, 111, 107]; rwa [hr6] at this)
  have HC6 := HMU.out W5 HM5.out.bel k3' 1 ⟨#[116, 111, 111, 107]⟩
  rw [show (⟨#[116, 111, 111, 107]⟩ : ByteArray).data.toList = [116, 111, 111, 107] from rfl, hr6] at HC6
  have HC6 := Lib.hid HC6
  clear hr6
  obtain ⟨y0, y1, y2, yz⟩ := three_cells HM5.out.y
  go_upto_region 36 with (go_at_call 74; refine HC6.out.mono ?_; rintro e v6 ⟨a6', rfl, hb6⟩; have HB6 := Lib.hid hb6; clear hb6)
  clear y0 y1 y2 yz
  obtain ⟨W6, hW6⟩ : ∃ W, (v6.alloc (.cells #[.int .i64 mk6, .string ⟨mt6.toArray⟩, .int .i64 mn6, .int .i64 a6'] 62)).alloc (.cells #[.slice A nl c, .int .i64 k6', .slice A2 n2 cN] 57) = W := ⟨_, rfl⟩
  rw [hW6]
  obtain ⟨q1, q2, hB6, hs6⟩ := two_boxes W6 hW6
  have hz6 : nb < v6.heap.size := Nat.lt_of_lt_of_le HM5.out.hn.2 HB6.out.size
  have HM6 := Lib.hid (((HM5.out.below HB6.out).below hB6).other q2 (Nat.lt_succ_of_lt hz6))
  have HOLD6 := Lib.hid ((HM5.out.below HB6.out).below hB6)
  obtain ⟨mb6, hmb6⟩ : ∃ mb, v6.heap.size = mb := ⟨_, rfl⟩
  rw [hmb6] at q1 HM6 hz6 ⊢
  have HTK6 := Lib.hid (And.intro q1 hz6)
  clear q1 q2 hB6 hs6 hW6 hmb6 hz6
  have hp3 : (pt3 L k).2 = k6' := by unfold pt3 pt2 pt1; rw [HR0.out]; simp only; rw [HR2.out]; simp only; rw [HR3.out]; simp only; rw [HR6.out]
  have HP3 := Lib.hid hp3
  have hp1 : (pt1 L k).1.n = mn2 ∧ (pt2 L k).1.n = mn3 := by unfold pt2 pt1; rw [HR0.out]; simp only; rw [HR2.out]; simp only; rw [HR3.out]; first | exact ⟨rfl, rfl⟩ | simp
  have HP12 := Lib.hid hp1
  have HE := Lib.hid (show Po.isT (Po.rest L k6') 1 [116, 114, 117, 101] = false by rw [← HP3.out]; exact HE0.out)
  clear hp3 hp1
  have HC7 := HIS.out W6 HM6.out.bel k6' 1 ⟨#[116, 114, 117, 101]⟩
  rw [show (⟨#[116, 114, 117, 101]⟩ : ByteArray).data.toList = [116, 114, 117, 101] from rfl, HE.out] at HC7
  have HC7 := Lib.hid HC7
  obtain ⟨y0, y1, y2, yz⟩ := three_cells HM6.out.y
  go_upto_region 41 with (go_at_call 55; refine HC7.out.mono ?_; rintro e W7 ⟨rfl, hb7⟩; have HB7 := Lib.hid hb7; clear hb7)
  clear y0 y1 y2 yz
  have HM7 := Lib.hid (HM6.out.below HB7.out)
  obtain ⟨n0, n1, n2', n3, nz⟩ := nd_cell HM7.out
  go_upto_region 42 with fail
  have HM8 := Lib.hid (HM7.out.setN (j := 3) (v := .int .i64 2) (x' := ⟨7, mn2, mn3, 2, Po.zero16, []⟩) rfl)
  clear n0 n1 n2' n3 nz
  revert HM8
  generalize W7.setCell ⟨nb, 3, none⟩ (.int .i64 2) = W8
  intro HM8
  obtain ⟨⟨⟨mk9, mt9, mn9⟩, k9'⟩, hr9⟩ : ∃ z, rmust L k6' 1 [102, 97, 108, 115, 101] = z := ⟨_, rfl⟩
  have HR9 := Lib.hid hr9
  have HPP9 := Lib.hid (show Po.Pos L k9' by have := rmust_pos L k6' 1 [102, 97, 108, 115, 101]; rwa [hr9] at this)
  have HC9 := HMU.out W8 HM8.out.bel k6' 1 ⟨#[102, 97, 108, 115, 101]⟩
  rw [show (⟨#[102, 97, 108, 115, 101]⟩ : ByteArray).data.toList = [102, 97, 108, 115, 101] from rfl, hr9] at HC9
  have HC9 := Lib.hid HC9
  clear hr9
  obtain ⟨y0, y1, y2, yz⟩ := three_cells HM8.out.y
  go_upto_region 43 with (go_at_call 74; refine HC9.out.mono ?_; rintro e v9 ⟨a9', rfl, hb9⟩; have HB9 := Lib.hid hb9; clear hb9)
  clear y0 y1 y2 yz
  obtain ⟨W9, hW9⟩ : ∃ W, (v9.alloc (.cells #[.int .i64 mk9, .string ⟨mt9.toArray⟩, .int .i64 mn9, .int .i64 a9'] 62)).alloc (.cells #[.slice A nl c, .int .i64 k9', .slice A2 n2 cN] 57) = W := ⟨_, rfl⟩
  rw [hW9]
  obtain ⟨q1, q2, hB9, hs9⟩ := two_boxes W9 hW9
  have hz9 : nb < v9.heap.size := Nat.lt_of_lt_of_le HM8.out.hn.2 HB9.out.size
  have HM9 := Lib.hid (((HM8.out.below HB9.out).below hB9).other q2 (Nat.lt_succ_of_lt hz9))
  have HOLD9 := Lib.hid ((HM8.out.below HB9.out).below hB9)
  obtain ⟨mb9, hmb9⟩ : ∃ mb, v9.heap.size = mb := ⟨_, rfl⟩
  rw [hmb9] at q1 HM9 hz9 ⊢
  have HTK9 := Lib.hid (And.intro q1 hz9)
  clear q1 q2 hB9 hs9 hW9 hmb9 hz9
  have hT := LT.ty
  subst hT
  refine wp_pair rfl (HM9.out.pair HDG.out) (by decide) (by simp) rfl rfl rfl rfl (fun a' h1 h2 h3 => ?_)
  have hsay := HM9.out.saysS hS HDG.out rfl (by have := ratom_no (L := L) (k := k) (by rw [HR0.out]) HE0.out; rw [HP12.out.1, HP12.out.2] at this; unfold pt4 at this; rw [HP3.out, HR9.out] at this; exact this)
  have hpr := HM9.out.pair HDG.out
  rename_i z1 z2 z3 z4 z5
  first | exact z5 _ _ (pair_fin hpr rfl h1 h2 h3 rfl rfl Tryz.results75 (fun _ _ h => h) hsay) | exact z4 _ _ (pair_fin hpr rfl h1 h2 h3 rfl rfl Tryz.results75 (fun _ _ h => h) hsay) | exact z3 _ _ (pair_fin hpr rfl h1 h2 h3 rfl rfl Tryz.results75 (fun _ _ h => h) hsay) | exact z2 _ _ (pair_fin hpr rfl h1 h2 h3 rfl rfl Tryz.results75 (fun _ _ h => h) hsay) | exact z1 _ _ (pair_fin hpr rfl h1 h2 h3 rfl rfl Tryz.results75 (fun _ _ h => h) hsay)
set_option maxRecDepth 1000000 in
set_option maxHeartbeats 4000000 in
theorem rf_atom_none {L : List Po.Tok} {vl : Value} {A2 : Option Addr} {n2 cN : Nat} {B : Nat} (k : Int) (w : World) (hB : B ≤ w.heap.size) (h : RToks w B vl L) (hL : L.length ≤ 100000) (hk : Po.Pos L k) (xt : List UInt8) (hxt : (rmust L k 1 []).1.t = xt) (h1 : (xt == [97, 110, 121]) = false) (h2 : (xt == [118, 101, 114, 115, 105, 111, 110]) = false) (h3 : (xt == [101, 112, 111, 99, 104]) = false) (h4 : (xt == [115, 116, 97, 103, 101]) = false) (h5 : (xt == [112, 111, 105, 110, 116]) = false) :
    Calls Tryz.prog 75 #[.agg #[vl, .int .i64 k, .slice A2 n2 cN]] w (AtomR L k vl (.slice A2 n2 cN) w) := by
  obtain ⟨A, c, rfl, -, -⟩ := h.form
  obtain ⟨nl, hnl⟩ : ∃ n, L.length = n := ⟨_, rfl⟩
  rw [hnl] at h ⊢
  obtain ⟨S, hS⟩ : ∃ S, AtomR L k (.slice A nl c) (.slice A2 n2 cN) w = S := ⟨_, rfl⟩
  rw [hS]
  have HMU : Hid (∀ W', Below w.heap.size w W' → ∀ (k' : Int) (kd : Nat) (t : ByteArray), Calls Tryz.prog 74 #[.agg #[.slice A nl c, .int .i64 k', .slice A2 n2 cN], .int .i64 kd, .string t] W' (MustSays (rmust L k' kd t.data.toList).1 (.agg #[.slice A nl c, .int .i64 (rmust L k' kd t.data.toList).2, .slice A2 n2 cN]) W')) := Lib.hid fun W' hb k' kd t => rf_must k' kd t W' (Nat.le_trans hB hb.size) (h.below (hb.mono hB)) hL
  have HIS : Hid (∀ W', Below w.heap.size w W' → ∀ (k' : Int) (kd : Nat) (t : ByteArray), Calls Tryz.prog 55 #[.agg #[.slice A nl c, .int .i64 k', .slice A2 n2 cN], .int .i64 kd, .string t] W' fun e w' => e = .returned (.bool (Po.isT (Po.rest L k') kd t.data.toList)) ∧ Below W'.heap.size W' w') := Lib.hid fun W' hb k' kd t => rf_is k' kd t W' (Nat.le_trans hB hb.size) (h.below (hb.mono hB))
  have HDI : Hid (∀ W', Below w.heap.size w W' → ∀ (k' : Int), Po.Pos L k' → Calls Tryz.prog 96 #[.agg #[.slice A nl c, .int .i64 k', .slice A2 n2 cN]] W' (DigR L k' (.slice A nl c) (.slice A2 n2 cN) W')) := Lib.hid fun W' hb k' hp => rf_digest k' W' (Nat.le_trans hB hb.size) (h.below (hb.mono hB)) hL hp
  have HLL := Lib.hid (And.intro hL hk)
  obtain ⟨T, N, R, K, LT⟩ := letters
  obtain ⟨W, hW⟩ : ∃ W, ((w.alloc (.cells #[.slice A nl c, .int .i64 k, .slice A2 n2 cN] 57)).alloc (.cells nd0 67)).alloc (.cells #[.slice none 0 0, .int .i64 0, .slice none 0 0] 57) = W := ⟨_, rfl⟩
  obtain ⟨e1, e2, e3, hbW, hsW⟩ := three_new3 W hW
  have HW := Lib.hid (And.intro e2 (And.intro e3 (And.intro hbW hsW)))
  obtain ⟨c0, c1, c2, cz⟩ := three_cells e1
  obtain ⟨⟨⟨xk, xt', xn⟩, k1⟩, hr0⟩ : ∃ z, rmust L k 1 [] = z := ⟨_, rfl⟩
  rw [hr0] at hxt
  simp only at hxt
  subst hxt
  have HR0 := Lib.hid hr0
  have HP1 := Lib.hid (show Po.Pos L k1 by have := rmust_pos L k 1 []; rwa [hr0] at this)
  have HC0 := HMU.out W hbW k 1 ⟨#[]⟩
  rw [show (⟨#[]⟩ : ByteArray).data.toList = [] from rfl, hr0] at HC0
  have HC0 := Lib.hid HC0
  clear e1 e2 e3 hbW hsW hB h hL hnl hk hr0
  go_enter Tryz.func75, Tryz.ntmps75
  obtain ⟨T2, N2, R2, K2, LT2⟩ := letters
  simp only [LT.load, LT.store, LT2.build, LT.loadR, LT.storeR]
  have la := LT.agg
  have lz := LT.size
  go_upto_region 1 with fail
  change Code.wp _ _ _ _ (((w.alloc (.cells #[.slice A nl c, .int .i64 k, .slice A2 n2 cN] 57)).alloc (.cells nd0 67)).alloc (.cells #[.slice none 0 0, .int .i64 0, .slice none 0 0] 57))
  rw [hW]
  clear hW
  go_upto_region 2 with (go_at_call 74; refine HC0.out.mono ?_; rintro e w1 ⟨a1, rfl, hb1⟩; have HB1 := Lib.hid hb1; clear hb1)
  obtain ⟨Wq, hWq⟩ : ∃ Wq, (w1.alloc (.cells #[.int .i64 xk, .string ⟨xt'.toArray⟩, .int .i64 xn, .int .i64 a1] 62)).alloc (.cells #[.slice A nl c, .int .i64 k1, .slice A2 n2 cN] 57) = Wq := ⟨_, rfl⟩
  rw [hWq]
  have hst0 := st_node Wq
  have hcn0 : nd0.size = N := by rw [LT.sz]; rfl
  obtain ⟨cs0, hcs0⟩ : ∃ cs0, nd0 = cs0 := ⟨_, rfl⟩
  rw [hcs0] at hst0 hcn0
  have HCS0 := Lib.hid hcs0
  clear hcs0
  clear c0 c1 c2 cz
  go_wp2_with fail
  have hT2 := LT2.ty
  subst hT2
  refine upon_value (v := .agg cs0) (w' := Wq) (by rw [← HCS0.out]; kernel_rfl) ?_
  rename_i K0 hK0
  refine hK0 _ _ ?_
  clear hK0 K0
  go_upto_region 3 with fail
  have hsq : Wq.heap.size = w1.heap.size + 1 + 1 := by rw [← hWq]; simp
  rw [hsq, ← hWq, ← HCS0.out]
  clear hsq
  change Code.wp _ _ _ _ (((w1.alloc (.cells #[.int .i64 xk, .string ⟨xt'.toArray⟩, .int .i64 xn, .int .i64 a1] 62)).alloc (.cells #[.slice A nl c, .int .i64 k1, .slice A2 n2 cN] 57)).alloc (.cells nd0 67))
  obtain ⟨W0, hW0⟩ : ∃ W0, ((w1.alloc (.cells #[.int .i64 xk, .string ⟨xt'.toArray⟩, .int .i64 xn, .int .i64 a1] 62)).alloc (.cells #[.slice A nl c, .int .i64 k1, .slice A2 n2 cN] 57)).alloc (.cells nd0 67) = W0 := ⟨_, rfl⟩
  rw [hW0]
  obtain ⟨q1, q2, q3, hb0, hs0⟩ := three_new3 W0 hW0
  have hB1 := HB1.out
  have hw2 := HW.out.2.2.2
  have hm0 : AtMem w W0 (.slice A nl c) (.slice A2 n2 cN) k1 (w1.heap.size + 1) (w1.heap.size + 1 + 1) ⟨0, 0, 0, 0, Po.zero16, []⟩ := by
    have h1 := hB1.size
    have hx := hB1.trans (hb0.mono h1)
    exact ⟨q2, q3, (hx.block _ (by omega)).trans HW.out.1, (hx.block _ (by omega)).trans HW.out.2.1, HW.out.2.2.1.trans (hx.mono HW.out.2.2.1.size), ⟨by omega, by omega⟩, ⟨by omega, by omega⟩, by omega⟩
  obtain ⟨tb, htb⟩ : ∃ tb, w1.heap.size = tb := ⟨_, rfl⟩
  rw [htb] at hm0 q1 ⊢
  have htn : tb < tb + 1 + 1 := by omega
  obtain ⟨yb, hyb⟩ : ∃ yb, tb + 1 = yb := ⟨_, rfl⟩
  rw [hyb] at hm0 htn ⊢
  obtain ⟨nb, hnb⟩ : ∃ nb, yb + 1 = nb := ⟨_, rfl⟩
  rw [hnb] at hm0 htn ⊢
  have HM0 := Lib.hid hm0
  have HTT := Lib.hid (And.intro q1 htn)
  obtain ⟨t0, t1, t2, t3, tz⟩ := four_cells q1
  clear hst0 hcn0 la lz t0 t2 t3 tz q1 q2 q3 hb0 hs0 hB1 hw2 hm0 htb hyb hnb hW0 htn
  have HDG : Hid (Po.zero16.length = 16) := Lib.hid rfl
  have HX := Lib.hid (ratom_none (L := L) (k := k) (by rw [HR0.out]; simpa using h1) (by rw [HR0.out]; simpa using h2) (by rw [HR0.out]; simpa using h3) (by rw [HR0.out]; simpa using h4) (by rw [HR0.out]; simpa using h5) ⟨0, 0, 0, 0, Po.zero16, []⟩)
  go_upto_region 44 with fail
  obtain ⟨y0, y1, y2, yz⟩ := three_cells HM0.out.y
  go_upto_region 45 with fail
  have HM1 := Lib.hid (HM0.out.setK (-1))
  clear y0 y1 y2 yz
  revert HM1
  generalize W0.setCell ⟨yb, 1, none⟩ (.int .i64 (-1)) = W1
  intro HM1
  have hT := LT.ty
  subst hT
  refine wp_pair rfl (HM1.out.pair HDG.out) (by decide) (by simp) rfl rfl rfl rfl (fun a' h1 h2 h3 => ?_)
  have hsay := HM1.out.saysS hS HDG.out rfl (HX.out)
  have hpr := HM1.out.pair HDG.out
  rename_i z1 z2 z3 z4 z5
  first | exact z5 _ _ (pair_fin hpr rfl h1 h2 h3 rfl rfl Tryz.results75 (fun _ _ h => h) hsay) | exact z4 _ _ (pair_fin hpr rfl h1 h2 h3 rfl rfl Tryz.results75 (fun _ _ h => h) hsay) | exact z3 _ _ (pair_fin hpr rfl h1 h2 h3 rfl rfl Tryz.results75 (fun _ _ h => h) hsay) | exact z2 _ _ (pair_fin hpr rfl h1 h2 h3 rfl rfl Tryz.results75 (fun _ _ h => h) hsay) | exact z1 _ _ (pair_fin hpr rfl h1 h2 h3 rfl rfl Tryz.results75 (fun _ _ h => h) hsay)
theorem rf_atom {L : List Po.Tok} {vl : Value} {A2 : Option Addr} {n2 cN : Nat} {B : Nat} (k : Int) (w : World) (hB : B ≤ w.heap.size) (h : RToks w B vl L) (hL : L.length ≤ 100000) (hk : Po.Pos L k) :
    Calls Tryz.prog 75 #[.agg #[vl, .int .i64 k, .slice A2 n2 cN]] w (AtomR L k vl (.slice A2 n2 cN) w) := by
  by_cases h1 : (rmust L k 1 []).1.t = [97, 110, 121]
  · exact rf_atom_any k w hB h hL hk _ rfl (Lib.hid h1)
  by_cases h2 : (rmust L k 1 []).1.t = [118, 101, 114, 115, 105, 111, 110]
  · cases hE : Po.isT (Po.rest L (rmust L k 1 []).2) 3 [61, 61] with
    | true => exact rf_atom_version_eq k w hB h hL hk _ rfl (Lib.hid h2) (Lib.hid hE)
    | false => exact rf_atom_version_ge k w hB h hL hk _ rfl (Lib.hid h2) (Lib.hid hE)
  by_cases h3 : (rmust L k 1 []).1.t = [101, 112, 111, 99, 104]
  · cases hE : Po.isT (Po.rest L (rmust L k 1 []).2) 3 [61, 61] with
    | true => exact rf_atom_epoch_eq k w hB h hL hk _ rfl (Lib.hid h3) (Lib.hid hE)
    | false => exact rf_atom_epoch_ge k w hB h hL hk _ rfl (Lib.hid h3) (Lib.hid hE)
  by_cases h4 : (rmust L k 1 []).1.t = [115, 116, 97, 103, 101]
  · exact rf_atom_stage k w hB h hL hk _ rfl (Lib.hid h4)
  by_cases h5 : (rmust L k 1 []).1.t = [112, 111, 105, 110, 116]
  · cases hE : Po.isT (Po.rest L (pt3 L k).2) 1 [116, 114, 117, 101] with
    | true => exact rf_atom_point_t k w hB h hL hk _ rfl (Lib.hid h5) (Lib.hid hE)
    | false => exact rf_atom_point_f k w hB h hL hk _ rfl (Lib.hid h5) (Lib.hid hE)
  exact rf_atom_none k w hB h hL hk _ rfl (by simpa using h1) (by simpa using h2) (by simpa using h3) (by simpa using h4) (by simpa using h5)
end Go.Proofs.YtdolpmmnjndfkaaGreatDoor
