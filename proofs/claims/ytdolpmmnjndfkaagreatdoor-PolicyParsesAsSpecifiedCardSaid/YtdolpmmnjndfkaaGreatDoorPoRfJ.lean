/- Chapter 29, the walk: not and chain of the reference; the recursion closed. -/
import Derived.Test.YtdolpmmnjndfkaaGreatDoorPoRfG
import Derived.Test.YtdolpmmnjndfkaaGreatDoorPoRfA
import Derived.Deep.RegionHeld3
import Derived.Deep.LoopGhost
namespace Go.Proofs.YtdolpmmnjndfkaaGreatDoor
open Go.RowKit
/-- a row of nodes does not lie in a block that begins with a slice and has three cells -/
theorem OfAt.off {w w' : World} {L B p : Nat} {u : Value} {xs : List Nat} {A : Option Addr} {n c : Nat} {y z : Value} {t : TypeId} (h : OfAt w L B u xs) (hp : w.heap[p]? = some (.cells #[.slice A n c, y, z] t (0, 0))) (hW : ∀ k, k ≠ p → w'.heap[k]? = w.heap[k]?) : OfAt w' L B u xs := by
  rcases h with h | ⟨b, cap, h1, hL, h2, h3, h4, h5⟩
  · exact .inl h
  · refine .inr ⟨b, cap, h1, hL, h2, h3, h4, fun i x hx => ?_⟩
    have hb : b ≠ p := by
      rintro rfl
      obtain ⟨x0, hx0⟩ : ∃ x0, xs[0]? = some x0 := ⟨_, List.getElem?_eq_getElem (by have := (List.getElem?_eq_some_iff.1 hx).1; omega)⟩
      have h6 := h5 0 x0 hx0
      rw [cell_of_row _ _ 0 _ _ _ hp] at h6
      simp at h6
    exact (World.cell?_of_block (a := ⟨b, i, none⟩) (hW b hb)).trans (h5 i x hx)
theorem RNds.off {w w' : World} {L B p : Nat} {v : Value} {o : List Po.Nd} {A : Option Addr} {n c : Nat} {y z : Value} {t : TypeId} (h : RNds w L B v o) (hp : w.heap[p]? = some (.cells #[.slice A n c, y, z] t (0, 0))) (hW : ∀ k, k ≠ p → w'.heap[k]? = w.heap[k]?) : RNds w' L B v o := by
  obtain ⟨A', c', h1, h2, h3, h4⟩ := h
  refine ⟨A', c', h1, h2, h3, fun hn => ?_⟩
  obtain ⟨b, off, hA, hL, hlt, hc⟩ := h4 hn
  refine ⟨b, off, hA, hL, hlt, fun i x hx => ?_⟩
  obtain ⟨u, hu, ho⟩ := hc i x hx
  have hb : b ≠ p := by
    rintro rfl
    obtain ⟨q, hq⟩ : ∃ q, (ndVals x u)[4]? = some q := ⟨_, List.getElem?_eq_getElem (by simp [ndVals])⟩
    have h6 := hu 4 q hq
    rw [cell_of_row _ _ _ _ _ _ hp] at h6
    rw [Array.getElem?_eq_none (by simp)] at h6
    cases h6
  exact ⟨u, fun j z hz => (World.cell?_of_block (a := ⟨b, _, none⟩) (hW b hb)).trans (hu j z hz), ho.off hp hW⟩
/-- the memory of not and chain: the state, the result -/
structure ChMem (w W : World) (A1 : Option Addr) (n1 c1 : Nat) (k : Int) (o : List Po.Nd) (A : Option Addr) (c : Nat) : Prop where
  x : W.heap[w.heap.size]? = some (.cells #[.slice A1 n1 c1, .int .i64 k, .slice A o.length c] 57 (0, 0))
  r : W.heap[w.heap.size + 1]? = some (.cells #[.slice none 0 0, .int .i64 0, .slice none 0 0] 57 (0, 0))
  nds : RNds W 0 W.heap.size (.slice A o.length c) o
  bel : Below w.heap.size w W
  dg : Po.Dg16 o
section
variable {w W W' : World} {A1 A A' : Option Addr} {n1 c1 c c' : Nat} {k : Int} {o o' : List Po.Nd}
theorem ChMem.lt (h : ChMem w W A1 n1 c1 k o A c) : w.heap.size + 1 < W.heap.size := lt_of_block h.r
theorem ChMem.below (h : ChMem w W A1 n1 c1 k o A c) (hb : Below W.heap.size W W') : ChMem w W' A1 n1 c1 k o A c := by
  have hl := h.lt
  exact ⟨(hb.block _ (by omega)).trans h.x, (hb.block _ hl).trans h.r, (h.nds.below hb).more (Nat.le_refl _) hb.size, h.bel.trans (hb.mono h.bel.size), h.dg⟩
theorem ChMem.setK (h : ChMem w W A1 n1 c1 k o A c) (k' : Int) : ChMem w (W.setCell ⟨w.heap.size, 1, none⟩ (.int .i64 k')) A1 n1 c1 k' o A c := by
  refine ⟨set_mid h.x, (set_other _ _ _ _ _ (by omega)).trans h.r, ?_, h.bel.setCell (p := ⟨w.heap.size, 1, none⟩) (Nat.le_refl _) _, h.dg⟩
  have := h.nds.off h.x (w' := W.setCell ⟨w.heap.size, 1, none⟩ (.int .i64 k')) fun j hj => set_other _ _ _ _ _ hj
  rwa [show (W.setCell ⟨w.heap.size, 1, none⟩ (.int .i64 k')).heap.size = W.heap.size by simp [World.setCell]]
theorem ChMem.setX (h : ChMem w W A1 n1 c1 k o A c) (k' : Int) (hn : RNds W 0 W.heap.size (.slice A' o'.length c') o') (hd : Po.Dg16 o') : ChMem w (putRow W w.heap.size #[.slice A1 n1 c1, .int .i64 k', .slice A' o'.length c']) A1 n1 c1 k' o' A' c' := by
  refine ⟨put_same h.x rfl, (put_other (by omega)).trans h.r, ?_, put_below h.bel (Nat.le_refl _), hd⟩
  have := hn.off h.x (w' := putRow W w.heap.size #[.slice A1 n1 c1, .int .i64 k', .slice A' o'.length c']) fun j hj => put_other hj
  rwa [size_putRow]
end
/-- what the reference's parser answers -/
def ChSays (L : List Po.Tok) (vl : Value) (k0 : Int) (o : List Po.Nd) (r : Option (List Po.Tok × List Po.Nd)) (w : World) (e : Ending) (w' : World) : Prop :=
  ∃ (k : Int) (o' : List Po.Nd) (A : Option Addr) (c : Nat), e = .returned (.agg #[vl, .int .i64 k, .slice A o'.length c]) ∧ RNds w' 0 w'.heap.size (.slice A o'.length c) o' ∧ Po.PR L k0 o r k o' ∧ 0 < o'.length ∧ Po.Dg16 o' ∧ Below w.heap.size w w'
structure ChIn (L : List Po.Tok) (vl : Value) (B : Nat) (k : Int) (o : List Po.Nd) (A : Option Addr) (c : Nat) (w : World) : Prop where
  hB : B ≤ w.heap.size
  toks : RToks w B vl L
  hL : L.length ≤ 100000
  ot : Po.OkToks L
  k0 : 0 ≤ k
  kp : Po.Pos L k
  nds : RNds w 0 w.heap.size (.slice A o.length c) o
  ok : Po.OkAll o
  few : o.length + (Po.rest L k).length ≤ 3000
theorem ChIn.dg {L : List Po.Tok} {vl : Value} {B : Nat} {k : Int} {o : List Po.Nd} {A : Option Addr} {c : Nat} {w : World} (h : ChIn L vl B k o A c w) : Po.Dg16 o := okAll_dg h.ok
def RNotC (f : Nat) : Prop := ∀ (L : List Po.Tok) (vl : Value) (B : Nat) (k : Int) (o : List Po.Nd) (A : Option Addr) (c : Nat) (w : World) (r : Option (List Po.Tok × List Po.Nd)), Po.P f 2 (Po.rest L k) o = some r → ChIn L vl B k o A c w →
  Calls Tryz.prog 54 #[.agg #[vl, .int .i64 k, .slice A o.length c]] w (ChSays L vl k o r w)
def RChC (f : Nat) : Prop := ∀ (lv : Nat), lv ≤ 2 → ∀ (L : List Po.Tok) (vl : Value) (B : Nat) (k : Int) (o : List Po.Nd) (A : Option Addr) (c : Nat) (w : World) (r : Option (List Po.Tok × List Po.Nd)), Po.P f lv (Po.rest L k) o = some r → ChIn L vl B k o A c w →
  Calls Tryz.prog 27 #[.agg #[vl, .int .i64 k, .slice A o.length c], .int .i64 lv] w (ChSays L vl k o r w)
theorem rf_with_op {A1 A : Option Addr} {n1 c1 c : Nat} {k : Int} {o : List Po.Nd} (kd : Nat) (of : List Nat) (u : Value) (w : World) (hn : RNds w 0 w.heap.size (.slice A o.length c) o) (hd : Po.Dg16 o) (hu : OfAt w 0 w.heap.size u of) (ho : o.length ≤ 100000) :
    Calls Tryz.prog 56 #[.agg #[.slice A1 n1 c1, .int .i64 k, .slice A o.length c], .agg #[.int .i64 kd, .int .i64 0, .int .i64 0, .int .i64 0, .int .u8 0, .int .u8 0, .int .u8 0, .int .u8 0, .int .u8 0, .int .u8 0, .int .u8 0, .int .u8 0, .int .u8 0, .int .u8 0, .int .u8 0, .int .u8 0, .int .u8 0, .int .u8 0, .int .u8 0, .int .u8 0, u]] w (WithSays (.slice A1 n1 c1) k (o ++ [⟨kd, 0, 0, 0, Po.zero16, of⟩]) w) :=
  rf_with ⟨kd, 0, 0, 0, Po.zero16, of⟩ u w hn hd rfl hu ho
theorem ofAt_one {w : World} {a : Nat} : OfAt (w.alloc (.cells #[.int .i64 a] 3)) 0 (w.alloc (.cells #[.int .i64 a] 3)).heap.size (.slice (some ⟨w.heap.size, 0, none⟩) 1 1) [a] := by
  refine .inr ⟨w.heap.size, 1, rfl, Nat.zero_le _, by simp, by simp, by simp [maxLen], fun i x hx => ?_⟩
  match i, hx with
  | 0, hx => simp at hx; subst hx; simp
theorem ofAt_two {w : World} {a b : Nat} : OfAt (w.alloc (.cells #[.int .i64 a, .int .i64 b] 3)) 0 (w.alloc (.cells #[.int .i64 a, .int .i64 b] 3)).heap.size (.slice (some ⟨w.heap.size, 0, none⟩) 2 2) [a, b] := by
  refine .inr ⟨w.heap.size, 2, rfl, Nat.zero_le _, by simp, by simp, by simp [maxLen], fun i x hx => ?_⟩
  match i, hx with
  | 0, hx => simp at hx; subst hx; simp
  | 1, hx => simp at hx; subst hx; simp
theorem last_of {n : Nat} (h : 0 < n) (h2 : n ≤ 10000) : wrap64 ((n : Int) - 1) = ((n - 1 : Nat) : Int) := by unfold wrap64; omega
/-- the end: the answer is laid and handed back -/
theorem ch_end {L : List Po.Tok} {A1 A : Option Addr} {n1 c1 c : Nat} {k0 k : Int} {o o' : List Po.Nd} {r : Option (List Po.Tok × List Po.Nd)} {w W : World} {S : Ending → World → Prop} (hS : ChSays L (.slice A1 n1 c1) k0 o r w = S) {y z : Value} (hr : W.heap[w.heap.size + 1]? = some (.cells #[.slice none 0 0, y, z] 57 (0, 0))) (hn : RNds W 0 W.heap.size (.slice A o'.length c) o') (hp : Po.PR L k0 o r k o') (h0 : 0 < o'.length) (hd : Po.Dg16 o') (hB : Below w.heap.size w W) :
    S (.returned (.agg #[.slice A1 n1 c1, .int .i64 k, .slice A o'.length c])) (putRow W (w.heap.size + 1) #[.slice A1 n1 c1, .int .i64 k, .slice A o'.length c]) := by
  rw [← hS]
  refine ⟨k, o', A, c, rfl, ?_, hp, h0, hd, put_below hB (by omega)⟩
  have := hn.off hr (w' := putRow W (w.heap.size + 1) #[.slice A1 n1 c1, .int .i64 k, .slice A o'.length c]) fun j hj => put_other hj
  rwa [size_putRow]
theorem st_node2 (v : World) (x : Po.Nd) (hd : x.dg.length = 16) (o : Obj) : Sem.run Tryz.prog (storeCells ⟨v.heap.size, 0, none⟩ (ndVals x (.slice none 0 0)).toArray.toList) ((v.alloc (.cells #[.int .i64 0, .int .i64 0, .int .i64 0, .int .i64 0, .int .u8 0, .int .u8 0, .int .u8 0, .int .u8 0, .int .u8 0, .int .u8 0, .int .u8 0, .int .u8 0, .int .u8 0, .int .u8 0, .int .u8 0, .int .u8 0, .int .u8 0, .int .u8 0, .int .u8 0, .int .u8 0, .slice none 0 0] 67)).alloc o) = .ok () ((v.alloc (.cells (ndVals x (.slice none 0 0)).toArray 67)).alloc o) := by
  have hs := nd_size (v := .slice none 0 0) hd
  have h := cells_row (cs := (ndVals x (.slice none 0 0)).toArray) (w := (v.alloc (.cells nd0 67)).alloc o) (b := v.heap.size) ((Below.heap_alloc _ _ _ (by simp)).trans (heap_alloc_new v _)) (by rw [hs]; exact Nat.le_refl _) (ndOne x)
  rw [put_second (by rw [hs]; rfl)] at h
  exact h
set_option maxRecDepth 1000000 in
set_option maxHeartbeats 4000000 in
theorem rnot_bang (f : Nat) (IH : RNotC f) (L : List Po.Tok) (vl : Value) (B : Nat) (k : Int) (o : List Po.Nd) (A : Option Addr) (c : Nat) (w : World) (r : Option (List Po.Tok × List Po.Nd)) (hr : Po.P (f + 1) 2 (Po.rest L k) o = some r) (hin : ChIn L vl B k o A c w) (hb : Po.isT (Po.rest L k) 3 [33] = true) :
    Calls Tryz.prog 54 #[.agg #[vl, .int .i64 k, .slice A o.length c]] w (ChSays L vl k o r w) := by
  obtain ⟨A1, c1, rfl, -, -⟩ := hin.toks.form
  obtain ⟨nl, hnl⟩ : ∃ n, L.length = n := ⟨_, rfl⟩
  have HNL := Lib.hid hnl
  rw [hnl] at hin ⊢
  obtain ⟨S, hS⟩ : ∃ S, ChSays L (.slice A1 nl c1) k o r w = S := ⟨_, rfl⟩
  rw [hS]
  have HS := Lib.hid hS
  have HI := Lib.hid hin
  have HB := Lib.hid hb
  obtain ⟨e1, e2, e3, e4⟩ := rest_step hb
  rw [Po.P_bang hb, ← e1] at hr
  obtain ⟨W, hW⟩ : ∃ W, (w.alloc (.cells #[.slice A1 nl c1, .int .i64 k, .slice A o.length c] 57)).alloc (.cells #[.slice none 0 0, .int .i64 0, .slice none 0 0] 57) = W := ⟨_, rfl⟩
  obtain ⟨b1, b2, hbW, hsW⟩ := two_boxes W hW
  have HM := Lib.hid (ChMem.mk b1 b2 ((hin.nds.below hbW).more (Nat.le_refl _) hbW.size) hbW hin.dg)
  obtain ⟨q, hq⟩ : ∃ q, Po.P f 2 (Po.rest L (k + 1)) o = some q := by
    cases e : Po.P f 2 (Po.rest L (k + 1)) o with
    | none => rw [e] at hr; cases hr
    | some q => exact ⟨q, rfl⟩
  have HQ := Lib.hid hq
  have HR := Lib.hid (show r = q.map fun x => (x.1, x.2 ++ [bangNd (x.2.length - 1)]) by
    rw [hq] at hr
    cases q with
    | none => exact (Option.some.inj hr).symm
    | some x => exact (Option.some.inj hr).symm)
  have HE := Lib.hid (And.intro e2 (And.intro e3 e4))
  have HIS := Lib.hid (rf_is (vl := .slice A1 nl c1) (vn := .slice A o.length c) k 3 ⟨#[33]⟩ W (Nat.le_trans hin.hB hbW.size) (hin.toks.below (hbW.mono hin.hB)))
  rw [show (⟨#[33]⟩ : ByteArray).data.toList = [33] from rfl, hb] at HIS
  have wk := wrap_up hin.kp hin.hL
  obtain ⟨x0, x1, x2, xz⟩ := three_cells b1
  clear hnl hin hb e1 e2 e3 e4 hr b1 b2 hbW hsW hq hS
  go_enter Tryz.func54, Tryz.ntmps54
  go_upto_region 3 with (go_at_call 55; refine HIS.out.mono ?_; rintro e w1 ⟨rfl, hb1⟩; have HB1 := Lib.hid hb1; clear hb1)
  clear hW x0 x1 x2 xz
  have HM1 := Lib.hid (HM.out.below HB1.out)
  obtain ⟨x0, x1, x2, xz⟩ := three_cells HM1.out.x
  go_upto_region 4 with fail
  have HM2 := Lib.hid (HM1.out.setK (k + 1))
  clear x0 x1 x2 xz
  revert HM2
  generalize w1.setCell ⟨w.heap.size, 1, none⟩ (.int .i64 (k + 1)) = W2
  intro HM2
  obtain ⟨x0, x1, x2, xz⟩ := three_cells HM2.out.x
  have HC := Lib.hid (IH L (.slice A1 nl c1) B (k + 1) o A c W2 q HQ.out ⟨Nat.le_trans HI.out.hB HM2.out.bel.size, HI.out.toks.below (HM2.out.bel.mono HI.out.hB), HI.out.hL, HI.out.ot, HE.out.2.1, HE.out.2.2, HM2.out.nds, HI.out.ok, by have := HI.out.few; have := HE.out.1; omega⟩)
  go_upto_region 5 with (go_at_call 54; refine HC.out.mono ?_; rintro e w3 ⟨k1, o1, A3, c3, rfl, hn3, hp3, h03, hd3, hb3⟩; have H3 := Lib.hid (And.intro hn3 (And.intro hp3 (And.intro h03 (And.intro hd3 hb3)))); have hx3 := (HM2.out.below hb3).x; clear hn3 hp3 h03 hd3 hb3 x0 x1 x2 xz; obtain ⟨x0, x1, x2, xz⟩ := three_cells hx3; clear hx3)
  rw [put3]
  have HM4 := Lib.hid ((HM2.out.below H3.out.2.2.2.2).setX k1 H3.out.1 H3.out.2.2.2.1)
  clear x0 x1 x2 xz
  revert HM4
  generalize putRow w3 w.heap.size #[.slice A1 nl c1, .int .i64 k1, .slice A3 o1.length c3] = W4
  intro HM4
  have HF := Lib.hid (pr_few HQ.out H3.out.2.1 (by have := HI.out.few; have := HE.out.1; omega))
  obtain ⟨n1, hn1⟩ : ∃ n1, o1.length = n1 := ⟨_, rfl⟩
  have wl := last_of H3.out.2.2.1 HF.out
  have hlm := HF.out
  obtain ⟨x0, x1, x2, xz⟩ := three_cells HM4.out.x
  have HM5 := Lib.hid (HM4.out.below (Below.new (.cells #[.int .i64 ((o1.length - 1 : Nat) : Int)] 3)))
  have HW5 := Lib.hid (rf_with_op (A1 := A1) (n1 := nl) (c1 := c1) (k := k1) 8 [o1.length - 1] _ _ HM5.out.nds HM5.out.dg ofAt_one (Nat.le_trans HF.out (by decide)))
  clear hn1 n1 hlm
  go_wp2_with (go_at_call 56; refine HW5.out.mono ?_; rintro e w6 ⟨g, cap, rfl, hn6, hb6⟩; have H6 := Lib.hid (And.intro hn6 hb6); have hx6 := (HM5.out.below hb6).r; clear hn6 hb6; obtain ⟨y0, y1, y2, yz⟩ := three_cells hx6; clear hx6)
  rw [put3, show o1.length + 1 = (o1 ++ [bangNd (o1.length - 1)]).length by simp]
  have HR6 := (HM5.out.below H6.out.2)
  refine bodyPost_ret (results_at Tryz.results54 rfl (put_same HR6.r rfl) rfl) rfl ?_
  exact ch_end HS.out HR6.r H6.out.1 (by rw [HR.out]; exact pr_bang HB.out H3.out.2.1) (by simp) (H3.out.2.2.2.1.snoc rfl) HR6.bel
set_option maxRecDepth 1000000 in
set_option maxHeartbeats 4000000 in
theorem rnot_paren (f : Nat) (IH : RChC f) (L : List Po.Tok) (vl : Value) (B : Nat) (k : Int) (o : List Po.Nd) (A : Option Addr) (c : Nat) (w : World) (r : Option (List Po.Tok × List Po.Nd)) (hr : Po.P (f + 1) 2 (Po.rest L k) o = some r) (hin : ChIn L vl B k o A c w) (hb0 : Po.isT (Po.rest L k) 3 [33] = false) (hb : Po.isT (Po.rest L k) 3 [40] = true) :
    Calls Tryz.prog 54 #[.agg #[vl, .int .i64 k, .slice A o.length c]] w (ChSays L vl k o r w) := by
  obtain ⟨A1, c1, rfl, -, -⟩ := hin.toks.form
  obtain ⟨nl, hnl⟩ : ∃ n, L.length = n := ⟨_, rfl⟩
  rw [hnl] at hin ⊢
  obtain ⟨S, hS⟩ : ∃ S, ChSays L (.slice A1 nl c1) k o r w = S := ⟨_, rfl⟩
  rw [hS]
  have HS := Lib.hid hS
  have HI := Lib.hid hin
  have HB := Lib.hid hb
  obtain ⟨e1, e2, e3, e4⟩ := rest_step hb
  rw [Po.P_paren hb0 hb, ← e1] at hr
  obtain ⟨W, hW⟩ : ∃ W, (w.alloc (.cells #[.slice A1 nl c1, .int .i64 k, .slice A o.length c] 57)).alloc (.cells #[.slice none 0 0, .int .i64 0, .slice none 0 0] 57) = W := ⟨_, rfl⟩
  obtain ⟨b1, b2, hbW, hsW⟩ := two_boxes W hW
  have HM := Lib.hid (ChMem.mk b1 b2 ((hin.nds.below hbW).more (Nat.le_refl _) hbW.size) hbW hin.dg)
  obtain ⟨q, hq⟩ : ∃ q, Po.P f 0 (Po.rest L (k + 1)) o = some q := by
    cases e : Po.P f 0 (Po.rest L (k + 1)) o with
    | none => rw [e] at hr; cases hr
    | some q => exact ⟨q, rfl⟩
  have HQ := Lib.hid hq
  have HR := Lib.hid (show r = q.bind fun x => (Po.must 3 [41] x.1).map fun y => (y.2, x.2) by
    rw [hq] at hr
    cases q with
    | none => exact (Option.some.inj hr).symm
    | some x => exact (Option.some.inj hr).symm)
  have HE := Lib.hid (And.intro e2 (And.intro e3 e4))
  have HIS := Lib.hid (rf_is (vl := .slice A1 nl c1) (vn := .slice A o.length c) k 3 ⟨#[33]⟩ W (Nat.le_trans hin.hB hbW.size) (hin.toks.below (hbW.mono hin.hB)))
  rw [show (⟨#[33]⟩ : ByteArray).data.toList = [33] from rfl, hb0] at HIS
  have HIT : Hid (∀ W', Below w.heap.size w W' → RToks W' B (.slice A1 nl c1) L ∧ B ≤ W'.heap.size) := Lib.hid fun W' h => ⟨hin.toks.below (h.mono hin.hB), Nat.le_trans hin.hB h.size⟩
  have wk := wrap_up hin.kp hin.hL
  obtain ⟨x0, x1, x2, xz⟩ := three_cells b1
  have HB0 := Lib.hid hb0
  clear hnl hin hb hb0 e1 e2 e3 e4 hr b1 b2 hbW hsW hq hS
  go_enter Tryz.func54, Tryz.ntmps54
  go_upto_region 6 with (go_at_call 55; refine HIS.out.mono ?_; rintro e w1 ⟨rfl, hb1⟩; have HB1 := Lib.hid hb1; clear hb1)
  clear hW x0 x1 x2 xz
  have HM1 := Lib.hid (HM.out.below HB1.out)
  have HIS2 := Lib.hid (rf_is (vl := .slice A1 nl c1) (vn := .slice A o.length c) k 3 ⟨#[40]⟩ w1 (HIT.out w1 HM1.out.bel).2 (HIT.out w1 HM1.out.bel).1)
  rw [show (⟨#[40]⟩ : ByteArray).data.toList = [40] from rfl, HB.out] at HIS2
  obtain ⟨x0, x1, x2, xz⟩ := three_cells HM1.out.x
  go_upto_region 8 with (go_at_call 55; refine HIS2.out.mono ?_; rintro e w1' ⟨rfl, hb1⟩; have HB1' := Lib.hid hb1; clear hb1)
  clear x0 x1 x2 xz
  have HM1' := Lib.hid (HM1.out.below HB1'.out)
  obtain ⟨x0, x1, x2, xz⟩ := three_cells HM1'.out.x
  go_upto_region 9 with fail
  have HM2 := Lib.hid (HM1'.out.setK (k + 1))
  clear x0 x1 x2 xz
  revert HM2
  generalize w1'.setCell ⟨w.heap.size, 1, none⟩ (.int .i64 (k + 1)) = W2
  intro HM2
  obtain ⟨x0, x1, x2, xz⟩ := three_cells HM2.out.x
  have HC := Lib.hid (IH 0 (by decide) L (.slice A1 nl c1) B (k + 1) o A c W2 q HQ.out ⟨(HIT.out _ HM2.out.bel).2, (HIT.out _ HM2.out.bel).1, HI.out.hL, HI.out.ot, HE.out.2.1, HE.out.2.2, HM2.out.nds, HI.out.ok, by have := HI.out.few; have := HE.out.1; omega⟩)
  go_upto_region 10 with (go_at_call 27; refine HC.out.mono ?_; rintro e w3 ⟨k1, o1, A3, c3, rfl, hn3, hp3, h03, hd3, hb3⟩; have H3 := Lib.hid (And.intro hn3 (And.intro hp3 (And.intro h03 (And.intro hd3 hb3)))); have hx3 := (HM2.out.below hb3).x; clear hn3 hp3 h03 hd3 hb3 x0 x1 x2 xz; obtain ⟨x0, x1, x2, xz⟩ := three_cells hx3; clear hx3)
  rw [put3]
  have HM4 := Lib.hid ((HM2.out.below H3.out.2.2.2.2).setX k1 H3.out.1 H3.out.2.2.2.1)
  clear x0 x1 x2 xz
  revert HM4
  generalize putRow w3 w.heap.size #[.slice A1 nl c1, .int .i64 k1, .slice A3 o1.length c3] = W4
  intro HM4
  obtain ⟨n1, hn1⟩ : ∃ n1, o1.length = n1 := ⟨_, rfl⟩
  obtain ⟨x0, x1, x2, xz⟩ := three_cells HM4.out.x
  obtain ⟨⟨mt, k2⟩, hmu⟩ : ∃ z, rmust L k1 3 [41] = z := ⟨_, rfl⟩
  have HMR := Lib.hid hmu
  have HMU := rf_must (A2 := A3) (n2 := o1.length) (cN := c3) k1 3 ⟨#[41]⟩ W4 (HIT.out _ HM4.out.bel).2 (HIT.out _ HM4.out.bel).1 HI.out.hL
  rw [show (⟨#[41]⟩ : ByteArray).data.toList = [41] from rfl, hmu] at HMU
  have HMU := Lib.hid HMU
  clear hmu hn1 n1
  go_upto_region 11 with (go_at_call 74; refine HMU.out.mono ?_; rintro e w5 ⟨a5, rfl, hb5⟩; have HB5 := Lib.hid hb5; clear hb5)
  obtain ⟨W6, hW6⟩ : ∃ W6, (w5.alloc (.cells #[.int .i64 mt.k, .string ⟨mt.t.toArray⟩, .int .i64 mt.n, .int .i64 a5] 62)).alloc (.cells #[.slice A1 nl c1, .int .i64 k2, .slice A3 o1.length c3] 57) = W6 := ⟨_, rfl⟩
  rw [hW6]
  obtain ⟨q1, q2, hB6, hs6⟩ := two_boxes W6 hW6
  have HM6 := Lib.hid ((HM4.out.below HB5.out).below hB6)
  clear x0 x1 x2 xz
  obtain ⟨x0, x1, x2, xz⟩ := three_cells q2
  obtain ⟨y0, y1, y2, yz⟩ := three_cells HM6.out.r
  clear q1 q2 hB6 hs6 hW6
  go_wp2_with fail
  rw [put3]
  refine bodyPost_ret (results_at Tryz.results54 rfl (put_same HM6.out.r rfl) rfl) rfl ?_
  exact ch_end HS.out HM6.out.r HM6.out.nds (by rw [HR.out]; have := pr_paren HB.out HQ.out H3.out.2.1; rw [HMR.out] at this; exact this) H3.out.2.2.1 H3.out.2.2.2.1 HM6.out.bel
set_option maxRecDepth 1000000 in
set_option maxHeartbeats 4000000 in
theorem rnot_atom (f : Nat) (L : List Po.Tok) (vl : Value) (B : Nat) (k : Int) (o : List Po.Nd) (A : Option Addr) (c : Nat) (w : World) (r : Option (List Po.Tok × List Po.Nd)) (hr : Po.P (f + 1) 2 (Po.rest L k) o = some r) (hin : ChIn L vl B k o A c w) (hb0 : Po.isT (Po.rest L k) 3 [33] = false) (hb : Po.isT (Po.rest L k) 3 [40] = false) :
    Calls Tryz.prog 54 #[.agg #[vl, .int .i64 k, .slice A o.length c]] w (ChSays L vl k o r w) := by
  obtain ⟨A1, c1, rfl, -, -⟩ := hin.toks.form
  obtain ⟨nl, hnl⟩ : ∃ n, L.length = n := ⟨_, rfl⟩
  rw [hnl] at hin ⊢
  obtain ⟨S, hS⟩ : ∃ S, ChSays L (.slice A1 nl c1) k o r w = S := ⟨_, rfl⟩
  rw [hS]
  have HS := Lib.hid hS
  have HI := Lib.hid hin
  have HB := Lib.hid hb
  rw [Po.P_atom hb0 hb] at hr
  have HR := Lib.hid (Option.some.inj hr).symm
  obtain ⟨T, N, R, K, LT⟩ := letters
  obtain ⟨W, hW⟩ : ∃ W, (w.alloc (.cells #[.slice A1 nl c1, .int .i64 k, .slice A o.length c] 57)).alloc (.cells #[.slice none 0 0, .int .i64 0, .slice none 0 0] 57) = W := ⟨_, rfl⟩
  obtain ⟨b1, b2, hbW, hsW⟩ := two_boxes W hW
  have HM := Lib.hid (ChMem.mk b1 b2 ((hin.nds.below hbW).more (Nat.le_refl _) hbW.size) hbW hin.dg)
  have HIS := Lib.hid (rf_is (vl := .slice A1 nl c1) (vn := .slice A o.length c) k 3 ⟨#[33]⟩ W (Nat.le_trans hin.hB hbW.size) (hin.toks.below (hbW.mono hin.hB)))
  rw [show (⟨#[33]⟩ : ByteArray).data.toList = [33] from rfl, hb0] at HIS
  have HIT : Hid (∀ W', Below w.heap.size w W' → RToks W' B (.slice A1 nl c1) L ∧ B ≤ W'.heap.size) := Lib.hid fun W' h => ⟨hin.toks.below (h.mono hin.hB), Nat.le_trans hin.hB h.size⟩
  obtain ⟨x0, x1, x2, xz⟩ := three_cells b1
  clear hnl hin hb hb0 hr b1 b2 hbW hsW hS
  go_enter Tryz.func54, Tryz.ntmps54
  simp only [LT.load, LT.store]
  go_upto_region 6 with (go_at_call 55; refine HIS.out.mono ?_; rintro e w1 ⟨rfl, hb1⟩; have HB1 := Lib.hid hb1; clear hb1)
  clear hW x0 x1 x2 xz
  have HM1 := Lib.hid (HM.out.below HB1.out)
  have HIS2 := Lib.hid (rf_is (vl := .slice A1 nl c1) (vn := .slice A o.length c) k 3 ⟨#[40]⟩ w1 (HIT.out w1 HM1.out.bel).2 (HIT.out w1 HM1.out.bel).1)
  rw [show (⟨#[40]⟩ : ByteArray).data.toList = [40] from rfl, HB.out] at HIS2
  obtain ⟨x0, x1, x2, xz⟩ := three_cells HM1.out.x
  go_upto_region 12 with (go_at_call 55; refine HIS2.out.mono ?_; rintro e w2 ⟨rfl, hb1⟩; have HB2 := Lib.hid hb1; clear hb1)
  clear x0 x1 x2 xz
  have HM2 := Lib.hid (HM1.out.below HB2.out)
  obtain ⟨x0, x1, x2, xz⟩ := three_cells HM2.out.x
  have HA := Lib.hid (rf_atom (A2 := A) (n2 := o.length) (cN := c) k w2 (HIT.out _ HM2.out.bel).2 (HIT.out _ HM2.out.bel).1 HI.out.hL HI.out.kp)
  have la := LT.agg
  have lz := LT.size
  go_upto_region 13 with (go_at_call 75; refine HA.out.mono ?_; rintro e w3 ⟨xn, k3, rfl, hrr, hdg, hof, hb3⟩; have H3 := Lib.hid (And.intro hrr (And.intro hdg (And.intro hof hb3))); have hst := st_node2 w3 xn hdg (.cells #[.slice none 0 0, .int .i64 0, .slice none 0 0] 57); have hcn : (ndVals xn (.slice none 0 0)).toArray.size = N := (by rw [LT.sz]; exact nd_size hdg); obtain ⟨cs, hcs⟩ : ∃ cs, (ndVals xn (.slice none 0 0)).toArray = cs := ⟨_, rfl⟩; rw [hcs] at hst hcn ⊢; have HCS := Lib.hid hcs; clear hcs hrr hdg hof hb3)
  clear hst
  obtain ⟨W4, hW4⟩ : ∃ W4, (w3.alloc (.cells cs 67)).alloc (.cells #[.slice A1 nl c1, .int .i64 k3, .slice A o.length c] 57) = W4 := ⟨_, rfl⟩
  rw [hW4]
  obtain ⟨q1, q2, hB4, hs4⟩ := two_boxes W4 hW4
  have HM4 := Lib.hid ((HM2.out.below H3.out.2.2.2).below hB4)
  clear x0 x1 x2 xz
  obtain ⟨x0, x1, x2, xz⟩ := three_cells q2
  have hld := LT.ld (b := w3.heap.size) (t := 67) q1 (by rw [hcn, LT.sz])
  have HW5 := rf_with (A1 := A1) (n1 := nl) (c1 := c1) (k := k3) xn (.slice none 0 0) W4 HM4.out.nds HM4.out.dg H3.out.2.1 (.inl ⟨H3.out.2.2.1, rfl⟩) (by have := HI.out.few; omega)
  rw [HCS.out] at HW5
  have HW5 := Lib.hid HW5
  clear q1 q2 hB4 hs4 hW4
  go_wp2_with (go_at_call 56; refine HW5.out.mono ?_; rintro e w6 ⟨g, cap, rfl, hn6, hb6⟩; have H6 := Lib.hid (And.intro hn6 hb6); have hx6 := (HM4.out.below hb6).r; clear hn6 hb6; obtain ⟨y0, y1, y2, yz⟩ := three_cells hx6; clear hx6)
  rw [put3, show o.length + 1 = (o ++ [xn]).length by simp]
  have HR6 := (HM4.out.below H6.out.2)
  refine bodyPost_ret (results_at Tryz.results54 rfl (put_same HR6.r rfl) rfl) rfl ?_
  exact ch_end HS.out HR6.r H6.out.1 (by rw [HR.out]; exact pr_atom H3.out.1) (by simp) (HM4.out.dg.snoc H3.out.2.1) HR6.bel
theorem rnot_all (f : Nat) (I1 : RNotC f) (I2 : RChC f) : RNotC (f + 1) := by
  intro L vl B k o A c w r hr hin
  cases hb : Po.isT (Po.rest L k) 3 [33] with
  | true => exact rnot_bang f I1 L vl B k o A c w r hr hin hb
  | false => cases hc : Po.isT (Po.rest L k) 3 [40] with
    | true => exact rnot_paren f I2 L vl B k o A c w r hr hin hb hc
    | false => exact rnot_atom f L vl B k o A c w r hr hin hb hc
end Go.Proofs.YtdolpmmnjndfkaaGreatDoor
namespace Go.Proofs.YtdolpmmnjndfkaaGreatDoor
open Go.RowKit
/-- the row of the two signs -/
def SgAt (w W : World) : Prop := W.heap[w.heap.size + 1 + 1]? = some (.cells #[.string ⟨#[124, 124]⟩, .string ⟨#[38, 38]⟩] 9 (0, 0))
theorem SgAt.below {w W W' : World} (h : SgAt w W) (hb : Below W.heap.size W W') : SgAt w W' := (hb.block _ (lt_of_block h)).trans h
theorem SgAt.setK {w W : World} (h : SgAt w W) (v : Value) : SgAt w (W.setCell ⟨w.heap.size, 1, none⟩ v) := (set_other _ _ _ _ _ (by omega)).trans h
theorem SgAt.setX {w W : World} (h : SgAt w W) (cs : Array Value) : SgAt w (putRow W w.heap.size cs) := (put_other (by omega)).trans h
theorem SgAt.cell {w W : World} (h : SgAt w W) : W.cell? ⟨w.heap.size + 1 + 1, 0, none⟩ = some (.string ⟨#[124, 124]⟩) ∧ W.cell? ⟨w.heap.size + 1 + 1, 1, none⟩ = some (.string ⟨#[38, 38]⟩) := ⟨cell_of_row _ _ 0 _ _ _ h, cell_of_row _ _ 1 _ _ _ h⟩
theorem len_back {n : Nat} (h : n ≤ 10000) : wrap64 (n : Int) = (n : Int) ∧ wrap64 ((n : Int) + 1 - 1) = (n : Int) := by constructor <;> (unfold wrap64; omega)
set_option maxRecDepth 1000000 in
set_option maxHeartbeats 4000000 in
theorem rch_two (f : Nat) (I : RNotC f) (L : List Po.Tok) (vl : Value) (B : Nat) (k : Int) (o : List Po.Nd) (A : Option Addr) (c : Nat) (w : World) (r : Option (List Po.Tok × List Po.Nd)) (hr : Po.P f 2 (Po.rest L k) o = some r) (hin : ChIn L vl B k o A c w) :
    Calls Tryz.prog 27 #[.agg #[vl, .int .i64 k, .slice A o.length c], .int .i64 2] w (ChSays L vl k o r w) := by
  obtain ⟨A1, c1, rfl, -, -⟩ := hin.toks.form
  obtain ⟨nl, hnl⟩ : ∃ n, L.length = n := ⟨_, rfl⟩
  rw [hnl] at hin ⊢
  obtain ⟨S, hS⟩ : ∃ S, ChSays L (.slice A1 nl c1) k o r w = S := ⟨_, rfl⟩
  rw [hS]
  have HS := Lib.hid hS
  have HR := Lib.hid hr
  obtain ⟨W, hW⟩ : ∃ W, ((w.alloc (.cells #[.slice A1 nl c1, .int .i64 k, .slice A o.length c] 57)).alloc (.cells #[.slice none 0 0, .int .i64 0, .slice none 0 0] 57)).alloc (.cells #[.string ⟨#[124, 124]⟩, .string ⟨#[38, 38]⟩] 9) = W := ⟨_, rfl⟩
  obtain ⟨b1, b2, b3, hbW, hsW⟩ := three_new3 W hW
  have HM := Lib.hid (ChMem.mk b1 b2 ((hin.nds.below hbW).more (Nat.le_refl _) hbW.size) hbW hin.dg)
  have HC := Lib.hid (I L (.slice A1 nl c1) B k o A c W r hr ⟨Nat.le_trans hin.hB hbW.size, hin.toks.below (hbW.mono hin.hB), hin.hL, hin.ot, hin.k0, hin.kp, HM.out.nds, hin.ok, hin.few⟩)
  obtain ⟨x0, x1, x2, xz⟩ := three_cells b1
  clear hnl hin hr b1 b2 b3 hbW hsW hS
  go_enter Tryz.func27, Tryz.ntmps27
  go_upto_region 3 with fail
  try rw [hW]
  clear hW
  go_wp2_with (go_at_call 54; refine HC.out.mono ?_; rintro e w3 ⟨k1, o1, A3, c3, rfl, hn3, hp3, h03, hd3, hb3⟩; have H3 := Lib.hid (And.intro hn3 (And.intro hp3 (And.intro h03 (And.intro hd3 hb3)))); have hx3 := (HM.out.below hb3).r; clear hn3 hp3 h03 hd3 hb3; obtain ⟨y0, y1, y2, yz⟩ := three_cells hx3; clear hx3)
  rw [put3]
  have HM3 := HM.out.below H3.out.2.2.2.2
  refine bodyPost_ret (results_at Tryz.results27 rfl (put_same HM3.r rfl) rfl) rfl ?_
  exact ch_end HS.out HM3.r H3.out.1 H3.out.2.1 H3.out.2.2.1 H3.out.2.2.2.1 HM3.bel
theorem few_next {a b n m x : Nat} (hf : a + b ≤ 3000) (h1 : n + 1 = m) (h2 : x + m ≤ a + b) : x + n ≤ 3000 := by omega
set_option maxRecDepth 1000000 in
set_option maxHeartbeats 4000000 in
theorem rch_0 (f : Nat) (IH : ∀ g, g ≤ f → RChC g) (L : List Po.Tok) (vl : Value) (B : Nat) (k : Int) (o : List Po.Nd) (A : Option Addr) (c : Nat) (w : World) (r : Option (List Po.Tok × List Po.Nd)) (hr : Po.P (f + 1) 0 (Po.rest L k) o = some r) (hin : ChIn L vl B k o A c w) :
    Calls Tryz.prog 27 #[.agg #[vl, .int .i64 k, .slice A o.length c], .int .i64 0] w (ChSays L vl k o r w) := by
  obtain ⟨A1, c1, rfl, -, -⟩ := hin.toks.form
  obtain ⟨nl, hnl⟩ : ∃ n, L.length = n := ⟨_, rfl⟩
  rw [hnl] at hin ⊢
  obtain ⟨S, hS⟩ : ∃ S, ChSays L (.slice A1 nl c1) k o r w = S := ⟨_, rfl⟩
  rw [hS]
  have HS := Lib.hid hS
  have HI := Lib.hid hin
  rw [P_lv (lv := 0) (by decide)] at hr
  obtain ⟨q, hq⟩ : ∃ q, Po.P f (0 + 1) (Po.rest L k) o = some q := by
    cases e : Po.P f (0 + 1) (Po.rest L k) o with
    | none => rw [e] at hr; cases hr
    | some q => exact ⟨q, rfl⟩
  rw [hq] at hr
  have HQ := Lib.hid (And.intro hq hr)
  have HIT : Hid (∀ W', Below w.heap.size w W' → RToks W' B (.slice A1 nl c1) L ∧ B ≤ W'.heap.size) := Lib.hid fun W' h => ⟨hin.toks.below (h.mono hin.hB), Nat.le_trans hin.hB h.size⟩
  obtain ⟨W, hW⟩ : ∃ W, ((w.alloc (.cells #[.slice A1 nl c1, .int .i64 k, .slice A o.length c] 57)).alloc (.cells #[.slice none 0 0, .int .i64 0, .slice none 0 0] 57)).alloc (.cells #[.string ⟨#[124, 124]⟩, .string ⟨#[38, 38]⟩] 9) = W := ⟨_, rfl⟩
  obtain ⟨b1, b2, b3, hbW, hsW⟩ := three_new3 W hW
  have HM := Lib.hid (ChMem.mk b1 b2 ((hin.nds.below hbW).more (Nat.le_refl _) hbW.size) hbW hin.dg)
  have HSG : Hid (SgAt w W) := Lib.hid b3
  have HC := Lib.hid (IH f (Nat.le_refl _) (0 + 1) (by decide) L (.slice A1 nl c1) B k o A c W q hq ⟨Nat.le_trans hin.hB hbW.size, hin.toks.below (hbW.mono hin.hB), hin.hL, hin.ot, hin.k0, hin.kp, HM.out.nds, hin.ok, hin.few⟩)
  obtain ⟨x0, x1, x2, xz⟩ := three_cells b1
  clear hnl hin hr hq b1 b2 b3 hbW hsW hS
  go_enter Tryz.func27, Tryz.ntmps27
  go_upto_region 4 with fail
  try rw [hW]
  clear hW
  go_upto_region 5 with (go_at_call 27; refine HC.out.mono ?_; rintro e w3 ⟨k1, o1, A3, c3, rfl, hn3, hp3, h03, hd3, hb3⟩; have H3 := Lib.hid (And.intro hn3 (And.intro hp3 (And.intro h03 (And.intro hd3 hb3)))); have hx3 := (HM.out.below hb3).x; clear hn3 hp3 h03 hd3 hb3 x0 x1 x2 xz; obtain ⟨x0, x1, x2, xz⟩ := three_cells hx3; clear hx3)
  rw [put3]
  have HM4 := Lib.hid ((HM.out.below H3.out.2.2.2.2).setX k1 H3.out.1 H3.out.2.2.2.1)
  have HSG4 := Lib.hid ((HSG.out.below H3.out.2.2.2.2).setX #[.slice A1 nl c1, .int .i64 k1, .slice A3 o1.length c3])
  clear x0 x1 x2 xz
  revert HM4 HSG4
  generalize putRow w3 w.heap.size #[.slice A1 nl c1, .int .i64 k1, .slice A3 o1.length c3] = W4
  intro HM4 HSG4
  have HLP := Lib.hid (lp_first (lv := 0) (by decide) HI.out.ot HI.out.ok HQ.out.1 HQ.out.2 H3.out.2.1)
  have HFW := Lib.hid (lp_few HLP.out HI.out.few)
  obtain ⟨x0, x1, x2, xz⟩ := three_cells HM4.out.x
  have wl := last_of H3.out.2.2.1 HFW.out.1
  have HPOS := Lib.hid H3.out.2.2.1
  clear HM HSG HC H3 HQ
  go_upto_region 6 with fail
  clear x0 x1 x2 xz wl
  go_loopg [6] f (fun g s6 wr => ∃ (k1 : Int) (o1 : List Po.Nd) (A3 : Option Addr) (c3 : Nat), s6 = .int .i64 ((o1.length - 1 : Nat) : Int) ∧ Aside (LpAt L k o r 0 g k1 o1 ∧ g ≤ f ∧ 0 < o1.length) ∧ Hid (ChMem w wr A1 nl c1 k1 o1 A3 c3) ∧ Hid (SgAt w wr))
  case atStart => exact ⟨k1, o1, A3, c3, by first | rfl | exact congrArg (Value.int .i64) (last_of HPOS.out HFW.out.1), ⟨HLP.out, Nat.le_refl _, HPOS.out⟩, HM4, HSG4⟩
  case round =>
    clear HM4 HSG4 HLP HPOS HFW
    obtain ⟨k2, o2, A4, c4, rfl, HA, HM, HSG⟩ := hrel
    obtain ⟨x0, x1, x2, xz⟩ := three_cells HM.out.x
    obtain ⟨y0, y1, y2, yz⟩ := three_cells HM.out.r
    rcases HA.out.1 with hgood | hbad
    rotate_left
    · have HBAD := Lib.hid hbad
      have hk2 := hbad.1
      subst hk2
      clear hbad
      have hnk : ¬ (0 : Int) ≤ -1 := by decide
      go_wp2_with fail
      rw [put3]
      refine bodyPost_ret (results_at Tryz.results27 rfl (put_same HM.out.r rfl) rfl) rfl ?_
      exact ch_end HS.out HM.out.r HM.out.nds (lp_bad ⟨rfl, HBAD.out.2⟩) HA.out.2.2 HM.out.dg HM.out.bel
    · cases gk with
      | zero => have := hgood.2.2.1; simp [Po.P] at this
      | succ g =>
        have HG := Lib.hid hgood
        have hk0 := hgood.1
        have HUD : Hid (Und wr wr.drew) := Lib.hid (Below.drew (Below.refl _ _))
        have HSS : Hid (∀ W', Und wr W' → W'.cell? ⟨w.heap.size, 0, none⟩ = some (.slice A1 nl c1) ∧ W'.cell? ⟨w.heap.size, 1, none⟩ = some (.int .i64 k2) ∧ W'.cell? ⟨w.heap.size, 2, none⟩ = some (.slice A4 o2.length c4) ∧ W'.cell? ⟨w.heap.size + 1 + 1, 0, none⟩ = some (.string ⟨#[124, 124]⟩)) := Lib.hid fun W' h => by
          obtain ⟨z0, z1, z2, -⟩ := three_cells (HM.out.below h).x
          exact ⟨z0, z1, z2, (HSG.out.below h).cell.1⟩
        have HISL : Hid (∀ W', Und wr W' → Calls Tryz.prog 55 #[.agg #[.slice A1 nl c1, .int .i64 k2, .slice A4 o2.length c4], .int .i64 3, .string ⟨#[124, 124]⟩] W' fun e w' => e = .returned (.bool (Po.isT (Po.rest L k2) 3 [124, 124])) ∧ Below W'.heap.size W' w') := Lib.hid fun W' h => by
          have hb := (HM.out.below h).bel
          exact rf_is (vl := .slice A1 nl c1) (vn := .slice A4 o2.length c4) k2 3 ⟨#[124, 124]⟩ W' (HIT.out W' hb).2 (HIT.out W' hb).1
        clear hgood
        cases hi : Po.isT (Po.rest L k2) 3 [124, 124] with
        | false =>
          have HX := Lib.hid (lp_stop (L := L) (k := k) (o := o) (lv := 0) (by decide) ⟨HG.out.1, HG.out.2.1, HG.out.2.2.1⟩ hi)
          rw [hi] at HISL
          clear hi
          go_upto_region 7 with fail
          go_region_held3 (fun W' => W'.cell? ⟨w.heap.size, 0, none⟩ = some (.slice A1 nl c1) ∧ W'.cell? ⟨w.heap.size, 1, none⟩ = some (.int .i64 k2) ∧ W'.cell? ⟨w.heap.size, 2, none⟩ = some (.slice A4 o2.length c4) ∧ W'.cell? ⟨w.heap.size + 1 + 1, 0, none⟩ = some (.string ⟨#[124, 124]⟩)) (first | assumption | exact HSS.out _ HUD.out | exact HSS.out _ hU7) (first | (go_at_call 55; (with_reducible refine (HISL.out _ HUD.out).mono ?_); rintro e w7 ⟨rfl, hb7⟩; have hU7 : Und wr w7 := HUD.out.trans (hb7.mono HUD.out.size)))
          have HM7 := Lib.hid (HM.out.below hU7)
          clear x0 x1 x2 xz y0 y1 y2 yz
          obtain ⟨x0, x1, x2, xz⟩ := three_cells HM7.out.x
          obtain ⟨y0, y1, y2, yz⟩ := three_cells HM7.out.r
          go_wp2_with fail
          rw [put3]
          refine bodyPost_ret (results_at Tryz.results27 rfl (put_same HM7.out.r rfl) rfl) rfl ?_
          exact ch_end HS.out HM7.out.r HM7.out.nds HX.out HA.out.2.2 HM7.out.dg HM7.out.bel
        | true =>
          have HB := Lib.hid hi
          rw [hi] at HISL
          obtain ⟨e1, e2, e3, e4⟩ := rest_step hi
          have hr := HG.out.2.2.1
          rw [P_lmore (lv := 0) (by decide) hi, ← e1] at hr
          obtain ⟨q, hq⟩ : ∃ q, Po.P g (0 + 1) (Po.rest L (k2 + 1)) o2 = some q := by
            cases e : Po.P g (0 + 1) (Po.rest L (k2 + 1)) o2 with
            | none => rw [e] at hr; cases hr
            | some q => exact ⟨q, rfl⟩
          have HQ := Lib.hid hq
          have HE := Lib.hid (And.intro e2 (And.intro e3 e4))
          have wk := wrap_up HG.out.2.1 HI.out.hL
          clear hi e1 e2 e3 e4 hr hq
          go_upto_region 7 with fail
          go_region_held3 (fun W' => W'.cell? ⟨w.heap.size, 0, none⟩ = some (.slice A1 nl c1) ∧ W'.cell? ⟨w.heap.size, 1, none⟩ = some (.int .i64 k2) ∧ W'.cell? ⟨w.heap.size, 2, none⟩ = some (.slice A4 o2.length c4) ∧ W'.cell? ⟨w.heap.size + 1 + 1, 0, none⟩ = some (.string ⟨#[124, 124]⟩)) (first | assumption | exact HSS.out _ HUD.out | exact HSS.out _ hU7) (first | (go_at_call 55; (with_reducible refine (HISL.out _ HUD.out).mono ?_); rintro e w7 ⟨rfl, hb7⟩; have hU7 : Und wr w7 := HUD.out.trans (hb7.mono HUD.out.size)))
          have HM7 := Lib.hid (HM.out.below hU7)
          have HSG7 := Lib.hid (HSG.out.below hU7)
          clear x0 x1 x2 xz y0 y1 y2 yz
          obtain ⟨x0, x1, x2, xz⟩ := three_cells HM7.out.x
          go_upto_region 10 with fail
          have HM8 := Lib.hid (HM7.out.setK (k2 + 1))
          have HSG8 := Lib.hid (HSG7.out.setK (.int .i64 (k2 + 1)))
          clear x0 x1 x2 xz
          revert HM8 HSG8
          generalize w7.setCell ⟨w.heap.size, 1, none⟩ (.int .i64 (k2 + 1)) = W8
          intro HM8 HSG8
          obtain ⟨x0, x1, x2, xz⟩ := three_cells HM8.out.x
          have HC := Lib.hid (IH g (Nat.le_trans (Nat.le_succ _) HA.out.2.1) (0 + 1) (by decide) L (.slice A1 nl c1) B (k2 + 1) o2 A4 c4 W8 q HQ.out ⟨(HIT.out _ HM8.out.bel).2, (HIT.out _ HM8.out.bel).1, HI.out.hL, HI.out.ot, HE.out.2.1, HE.out.2.2, HM8.out.nds, HG.out.2.2.2.1, few_next HI.out.few HE.out.1 HG.out.2.2.2.2.1⟩)
          go_upto_region 11 with (go_at_call 27; refine HC.out.mono ?_; rintro e w3 ⟨k3, o3, A5, c5, rfl, hn3, hp3, h03, hd3, hb3⟩; have H3 := Lib.hid (And.intro hn3 (And.intro hp3 (And.intro h03 (And.intro hd3 hb3)))); have hx3 := (HM8.out.below hb3).x; clear hn3 hp3 h03 hd3 hb3 x0 x1 x2 xz; obtain ⟨x0, x1, x2, xz⟩ := three_cells hx3; clear hx3)
          rw [put3]
          have HM9 := Lib.hid ((HM8.out.below H3.out.2.2.2.2).setX k3 H3.out.1 H3.out.2.2.2.1)
          have HSG9 := Lib.hid ((HSG8.out.below H3.out.2.2.2.2).setX #[.slice A1 nl c1, .int .i64 k3, .slice A5 o3.length c5])
          clear x0 x1 x2 xz
          revert HM9 HSG9
          generalize putRow w3 w.heap.size #[.slice A1 nl c1, .int .i64 k3, .slice A5 o3.length c5] = W9
          intro HM9 HSG9
          have HF := Lib.hid (pr_few HQ.out H3.out.2.1 (few_next HI.out.few HE.out.1 HG.out.2.2.2.2.1))
          have wl := last_of H3.out.2.2.1 HF.out
          obtain ⟨wb1, wb2⟩ := len_back HF.out
          obtain ⟨x0, x1, x2, xz⟩ := three_cells HM9.out.x
          have HM10 := Lib.hid (HM9.out.below (Below.new (.cells #[.int .i64 ((o2.length - 1 : Nat) : Int), .int .i64 ((o3.length - 1 : Nat) : Int)] 3)))
          have HSG10 := Lib.hid (HSG9.out.below (Below.new (.cells #[.int .i64 ((o2.length - 1 : Nat) : Int), .int .i64 ((o3.length - 1 : Nat) : Int)] 3)))
          have HW5 := Lib.hid (rf_with_op (A1 := A1) (n1 := nl) (c1 := c1) (k := k3) 10 [o2.length - 1, o3.length - 1] _ _ HM10.out.nds HM10.out.dg ofAt_two (Nat.le_trans HF.out (by decide)))
          go_upto_region 13 with (go_at_call 56; refine HW5.out.mono ?_; rintro e w6 ⟨g6, cap, rfl, hn6, hb6⟩; have H6 := Lib.hid (And.intro hn6 hb6); have hx6 := (HM10.out.below hb6).x; clear hn6 hb6 x0 x1 x2 xz; obtain ⟨x0, x1, x2, xz⟩ := three_cells hx6; clear hx6)
          rw [put3]
          have H6n := H6.out.1
          have HM11 := Lib.hid ((HM10.out.below H6.out.2).setX k3 (o' := o3 ++ [binNd 0 (o2.length - 1) (o3.length - 1)]) H6.out.1 (H3.out.2.2.2.1.snoc rfl))
          have HSG11 := Lib.hid ((HSG10.out.below H6.out.2).setX #[.slice A1 nl c1, .int .i64 k3, .slice (some ⟨g6, 0, none⟩) (o3 ++ [binNd 0 (o2.length - 1) (o3.length - 1)]).length cap])
          rw [show (o3 ++ [binNd 0 (o2.length - 1) (o3.length - 1)]).length = o3.length + 1 by simp] at HSG11
          have HX11 := HM11.out.x
          rw [show (o3 ++ [binNd 0 (o2.length - 1) (o3.length - 1)]).length = o3.length + 1 by simp] at HX11
          have hcast : putRow w6 w.heap.size #[.slice A1 nl c1, .int .i64 k3, .slice (some ⟨g6, 0, none⟩) (o3 ++ [binNd 0 (o2.length - 1) (o3.length - 1)]).length cap] = putRow w6 w.heap.size #[.slice A1 nl c1, .int .i64 k3, .slice (some ⟨g6, 0, none⟩) (o3.length + 1) cap] := by rw [show (o3 ++ [binNd 0 (o2.length - 1) (o3.length - 1)]).length = o3.length + 1 by simp]
          rw [hcast] at HM11
          clear x0 x1 x2 xz hcast H6n
          revert HM11 HSG11 HX11
          generalize putRow w6 w.heap.size #[.slice A1 nl c1, .int .i64 k3, .slice (some ⟨g6, 0, none⟩) (o3.length + 1) cap] = W11
          intro HM11 HSG11 HX11
          obtain ⟨x0, x1, x2, xz⟩ := three_cells HX11
          have HLN := Lib.hid (lp_next (lv := 0) (by decide) HI.out.ot HA.out.2.2 HG.out HB.out HQ.out H3.out.2.1)
          clear HX11
          go_wp2_with fail
          go_roundg g
          case measure => exact Nat.lt_succ_self _
          case rel => exact ⟨k3, o3 ++ [binNd 0 (o2.length - 1) (o3.length - 1)], some ⟨g6, 0, none⟩, cap, by simp [(len_back HF.out).1], ⟨HLN.out, Nat.le_trans (Nat.le_succ _) HA.out.2.1, by simp⟩, HM11, HSG11⟩
set_option maxRecDepth 1000000 in
set_option maxHeartbeats 4000000 in
theorem rch_1 (f : Nat) (IH : ∀ g, g ≤ f → RChC g) (L : List Po.Tok) (vl : Value) (B : Nat) (k : Int) (o : List Po.Nd) (A : Option Addr) (c : Nat) (w : World) (r : Option (List Po.Tok × List Po.Nd)) (hr : Po.P (f + 1) 1 (Po.rest L k) o = some r) (hin : ChIn L vl B k o A c w) :
    Calls Tryz.prog 27 #[.agg #[vl, .int .i64 k, .slice A o.length c], .int .i64 1] w (ChSays L vl k o r w) := by
  obtain ⟨A1, c1, rfl, -, -⟩ := hin.toks.form
  obtain ⟨nl, hnl⟩ : ∃ n, L.length = n := ⟨_, rfl⟩
  rw [hnl] at hin ⊢
  obtain ⟨S, hS⟩ : ∃ S, ChSays L (.slice A1 nl c1) k o r w = S := ⟨_, rfl⟩
  rw [hS]
  have HS := Lib.hid hS
  have HI := Lib.hid hin
  rw [P_lv (lv := 1) (by decide)] at hr
  obtain ⟨q, hq⟩ : ∃ q, Po.P f (1 + 1) (Po.rest L k) o = some q := by
    cases e : Po.P f (1 + 1) (Po.rest L k) o with
    | none => rw [e] at hr; cases hr
    | some q => exact ⟨q, rfl⟩
  rw [hq] at hr
  have HQ := Lib.hid (And.intro hq hr)
  have HIT : Hid (∀ W', Below w.heap.size w W' → RToks W' B (.slice A1 nl c1) L ∧ B ≤ W'.heap.size) := Lib.hid fun W' h => ⟨hin.toks.below (h.mono hin.hB), Nat.le_trans hin.hB h.size⟩
  obtain ⟨W, hW⟩ : ∃ W, ((w.alloc (.cells #[.slice A1 nl c1, .int .i64 k, .slice A o.length c] 57)).alloc (.cells #[.slice none 0 0, .int .i64 0, .slice none 0 0] 57)).alloc (.cells #[.string ⟨#[124, 124]⟩, .string ⟨#[38, 38]⟩] 9) = W := ⟨_, rfl⟩
  obtain ⟨b1, b2, b3, hbW, hsW⟩ := three_new3 W hW
  have HM := Lib.hid (ChMem.mk b1 b2 ((hin.nds.below hbW).more (Nat.le_refl _) hbW.size) hbW hin.dg)
  have HSG : Hid (SgAt w W) := Lib.hid b3
  have HC := Lib.hid (IH f (Nat.le_refl _) (1 + 1) (by decide) L (.slice A1 nl c1) B k o A c W q hq ⟨Nat.le_trans hin.hB hbW.size, hin.toks.below (hbW.mono hin.hB), hin.hL, hin.ot, hin.k0, hin.kp, HM.out.nds, hin.ok, hin.few⟩)
  obtain ⟨x0, x1, x2, xz⟩ := three_cells b1
  clear hnl hin hr hq b1 b2 b3 hbW hsW hS
  go_enter Tryz.func27, Tryz.ntmps27
  go_upto_region 4 with fail
  try rw [hW]
  clear hW
  go_upto_region 5 with (go_at_call 27; refine HC.out.mono ?_; rintro e w3 ⟨k1, o1, A3, c3, rfl, hn3, hp3, h03, hd3, hb3⟩; have H3 := Lib.hid (And.intro hn3 (And.intro hp3 (And.intro h03 (And.intro hd3 hb3)))); have hx3 := (HM.out.below hb3).x; clear hn3 hp3 h03 hd3 hb3 x0 x1 x2 xz; obtain ⟨x0, x1, x2, xz⟩ := three_cells hx3; clear hx3)
  rw [put3]
  have HM4 := Lib.hid ((HM.out.below H3.out.2.2.2.2).setX k1 H3.out.1 H3.out.2.2.2.1)
  have HSG4 := Lib.hid ((HSG.out.below H3.out.2.2.2.2).setX #[.slice A1 nl c1, .int .i64 k1, .slice A3 o1.length c3])
  clear x0 x1 x2 xz
  revert HM4 HSG4
  generalize putRow w3 w.heap.size #[.slice A1 nl c1, .int .i64 k1, .slice A3 o1.length c3] = W4
  intro HM4 HSG4
  have HLP := Lib.hid (lp_first (lv := 1) (by decide) HI.out.ot HI.out.ok HQ.out.1 HQ.out.2 H3.out.2.1)
  have HFW := Lib.hid (lp_few HLP.out HI.out.few)
  obtain ⟨x0, x1, x2, xz⟩ := three_cells HM4.out.x
  have wl := last_of H3.out.2.2.1 HFW.out.1
  have HPOS := Lib.hid H3.out.2.2.1
  clear HM HSG HC H3 HQ
  go_upto_region 6 with fail
  clear x0 x1 x2 xz wl
  go_loopg [6] f (fun g s6 wr => ∃ (k1 : Int) (o1 : List Po.Nd) (A3 : Option Addr) (c3 : Nat), s6 = .int .i64 ((o1.length - 1 : Nat) : Int) ∧ Aside (LpAt L k o r 1 g k1 o1 ∧ g ≤ f ∧ 0 < o1.length) ∧ Hid (ChMem w wr A1 nl c1 k1 o1 A3 c3) ∧ Hid (SgAt w wr))
  case atStart => exact ⟨k1, o1, A3, c3, by first | rfl | exact congrArg (Value.int .i64) (last_of HPOS.out HFW.out.1), ⟨HLP.out, Nat.le_refl _, HPOS.out⟩, HM4, HSG4⟩
  case round =>
    clear HM4 HSG4 HLP HPOS HFW
    obtain ⟨k2, o2, A4, c4, rfl, HA, HM, HSG⟩ := hrel
    obtain ⟨x0, x1, x2, xz⟩ := three_cells HM.out.x
    obtain ⟨y0, y1, y2, yz⟩ := three_cells HM.out.r
    rcases HA.out.1 with hgood | hbad
    rotate_left
    · have HBAD := Lib.hid hbad
      have hk2 := hbad.1
      subst hk2
      clear hbad
      have hnk : ¬ (0 : Int) ≤ -1 := by decide
      go_wp2_with fail
      rw [put3]
      refine bodyPost_ret (results_at Tryz.results27 rfl (put_same HM.out.r rfl) rfl) rfl ?_
      exact ch_end HS.out HM.out.r HM.out.nds (lp_bad ⟨rfl, HBAD.out.2⟩) HA.out.2.2 HM.out.dg HM.out.bel
    · cases gk with
      | zero => have := hgood.2.2.1; simp [Po.P] at this
      | succ g =>
        have HG := Lib.hid hgood
        have hk0 := hgood.1
        have HUD : Hid (Und wr wr.drew) := Lib.hid (Below.drew (Below.refl _ _))
        have HSS : Hid (∀ W', Und wr W' → W'.cell? ⟨w.heap.size, 0, none⟩ = some (.slice A1 nl c1) ∧ W'.cell? ⟨w.heap.size, 1, none⟩ = some (.int .i64 k2) ∧ W'.cell? ⟨w.heap.size, 2, none⟩ = some (.slice A4 o2.length c4) ∧ W'.cell? ⟨w.heap.size + 1 + 1, 1, none⟩ = some (.string ⟨#[38, 38]⟩)) := Lib.hid fun W' h => by
          obtain ⟨z0, z1, z2, -⟩ := three_cells (HM.out.below h).x
          exact ⟨z0, z1, z2, (HSG.out.below h).cell.2⟩
        have HISL : Hid (∀ W', Und wr W' → Calls Tryz.prog 55 #[.agg #[.slice A1 nl c1, .int .i64 k2, .slice A4 o2.length c4], .int .i64 3, .string ⟨#[38, 38]⟩] W' fun e w' => e = .returned (.bool (Po.isT (Po.rest L k2) 3 [38, 38])) ∧ Below W'.heap.size W' w') := Lib.hid fun W' h => by
          have hb := (HM.out.below h).bel
          exact rf_is (vl := .slice A1 nl c1) (vn := .slice A4 o2.length c4) k2 3 ⟨#[38, 38]⟩ W' (HIT.out W' hb).2 (HIT.out W' hb).1
        clear hgood
        cases hi : Po.isT (Po.rest L k2) 3 [38, 38] with
        | false =>
          have HX := Lib.hid (lp_stop (L := L) (k := k) (o := o) (lv := 1) (by decide) ⟨HG.out.1, HG.out.2.1, HG.out.2.2.1⟩ hi)
          rw [hi] at HISL
          clear hi
          go_upto_region 7 with fail
          go_region_held3 (fun W' => W'.cell? ⟨w.heap.size, 0, none⟩ = some (.slice A1 nl c1) ∧ W'.cell? ⟨w.heap.size, 1, none⟩ = some (.int .i64 k2) ∧ W'.cell? ⟨w.heap.size, 2, none⟩ = some (.slice A4 o2.length c4) ∧ W'.cell? ⟨w.heap.size + 1 + 1, 1, none⟩ = some (.string ⟨#[38, 38]⟩)) (first | assumption | exact HSS.out _ HUD.out | exact HSS.out _ hU7) (first | (go_at_call 55; (with_reducible refine (HISL.out _ HUD.out).mono ?_); rintro e w7 ⟨rfl, hb7⟩; have hU7 : Und wr w7 := HUD.out.trans (hb7.mono HUD.out.size)))
          have HM7 := Lib.hid (HM.out.below hU7)
          clear x0 x1 x2 xz y0 y1 y2 yz
          obtain ⟨x0, x1, x2, xz⟩ := three_cells HM7.out.x
          obtain ⟨y0, y1, y2, yz⟩ := three_cells HM7.out.r
          go_wp2_with fail
          rw [put3]
          refine bodyPost_ret (results_at Tryz.results27 rfl (put_same HM7.out.r rfl) rfl) rfl ?_
          exact ch_end HS.out HM7.out.r HM7.out.nds HX.out HA.out.2.2 HM7.out.dg HM7.out.bel
        | true =>
          have HB := Lib.hid hi
          rw [hi] at HISL
          obtain ⟨e1, e2, e3, e4⟩ := rest_step hi
          have hr := HG.out.2.2.1
          rw [P_lmore (lv := 1) (by decide) hi, ← e1] at hr
          obtain ⟨q, hq⟩ : ∃ q, Po.P g (1 + 1) (Po.rest L (k2 + 1)) o2 = some q := by
            cases e : Po.P g (1 + 1) (Po.rest L (k2 + 1)) o2 with
            | none => rw [e] at hr; cases hr
            | some q => exact ⟨q, rfl⟩
          have HQ := Lib.hid hq
          have HE := Lib.hid (And.intro e2 (And.intro e3 e4))
          have wk := wrap_up HG.out.2.1 HI.out.hL
          clear hi e1 e2 e3 e4 hr hq
          go_upto_region 7 with fail
          go_region_held3 (fun W' => W'.cell? ⟨w.heap.size, 0, none⟩ = some (.slice A1 nl c1) ∧ W'.cell? ⟨w.heap.size, 1, none⟩ = some (.int .i64 k2) ∧ W'.cell? ⟨w.heap.size, 2, none⟩ = some (.slice A4 o2.length c4) ∧ W'.cell? ⟨w.heap.size + 1 + 1, 1, none⟩ = some (.string ⟨#[38, 38]⟩)) (first | assumption | exact HSS.out _ HUD.out | exact HSS.out _ hU7) (first | (go_at_call 55; (with_reducible refine (HISL.out _ HUD.out).mono ?_); rintro e w7 ⟨rfl, hb7⟩; have hU7 : Und wr w7 := HUD.out.trans (hb7.mono HUD.out.size)))
          have HM7 := Lib.hid (HM.out.below hU7)
          have HSG7 := Lib.hid (HSG.out.below hU7)
          clear x0 x1 x2 xz y0 y1 y2 yz
          obtain ⟨x0, x1, x2, xz⟩ := three_cells HM7.out.x
          go_upto_region 10 with fail
          have HM8 := Lib.hid (HM7.out.setK (k2 + 1))
          have HSG8 := Lib.hid (HSG7.out.setK (.int .i64 (k2 + 1)))
          clear x0 x1 x2 xz
          revert HM8 HSG8
          generalize w7.setCell ⟨w.heap.size, 1, none⟩ (.int .i64 (k2 + 1)) = W8
          intro HM8 HSG8
          obtain ⟨x0, x1, x2, xz⟩ := three_cells HM8.out.x
          have HC := Lib.hid (IH g (Nat.le_trans (Nat.le_succ _) HA.out.2.1) (1 + 1) (by decide) L (.slice A1 nl c1) B (k2 + 1) o2 A4 c4 W8 q HQ.out ⟨(HIT.out _ HM8.out.bel).2, (HIT.out _ HM8.out.bel).1, HI.out.hL, HI.out.ot, HE.out.2.1, HE.out.2.2, HM8.out.nds, HG.out.2.2.2.1, few_next HI.out.few HE.out.1 HG.out.2.2.2.2.1⟩)
          go_upto_region 11 with (go_at_call 27; refine HC.out.mono ?_; rintro e w3 ⟨k3, o3, A5, c5, rfl, hn3, hp3, h03, hd3, hb3⟩; have H3 := Lib.hid (And.intro hn3 (And.intro hp3 (And.intro h03 (And.intro hd3 hb3)))); have hx3 := (HM8.out.below hb3).x; clear hn3 hp3 h03 hd3 hb3 x0 x1 x2 xz; obtain ⟨x0, x1, x2, xz⟩ := three_cells hx3; clear hx3)
          rw [put3]
          have HM9 := Lib.hid ((HM8.out.below H3.out.2.2.2.2).setX k3 H3.out.1 H3.out.2.2.2.1)
          have HSG9 := Lib.hid ((HSG8.out.below H3.out.2.2.2.2).setX #[.slice A1 nl c1, .int .i64 k3, .slice A5 o3.length c5])
          clear x0 x1 x2 xz
          revert HM9 HSG9
          generalize putRow w3 w.heap.size #[.slice A1 nl c1, .int .i64 k3, .slice A5 o3.length c5] = W9
          intro HM9 HSG9
          have HF := Lib.hid (pr_few HQ.out H3.out.2.1 (few_next HI.out.few HE.out.1 HG.out.2.2.2.2.1))
          have wl := last_of H3.out.2.2.1 HF.out
          obtain ⟨wb1, wb2⟩ := len_back HF.out
          obtain ⟨x0, x1, x2, xz⟩ := three_cells HM9.out.x
          have HM10 := Lib.hid (HM9.out.below (Below.new (.cells #[.int .i64 ((o2.length - 1 : Nat) : Int), .int .i64 ((o3.length - 1 : Nat) : Int)] 3)))
          have HSG10 := Lib.hid (HSG9.out.below (Below.new (.cells #[.int .i64 ((o2.length - 1 : Nat) : Int), .int .i64 ((o3.length - 1 : Nat) : Int)] 3)))
          have HW5 := Lib.hid (rf_with_op (A1 := A1) (n1 := nl) (c1 := c1) (k := k3) 9 [o2.length - 1, o3.length - 1] _ _ HM10.out.nds HM10.out.dg ofAt_two (Nat.le_trans HF.out (by decide)))
          go_upto_region 13 with (go_at_call 56; refine HW5.out.mono ?_; rintro e w6 ⟨g6, cap, rfl, hn6, hb6⟩; have H6 := Lib.hid (And.intro hn6 hb6); have hx6 := (HM10.out.below hb6).x; clear hn6 hb6 x0 x1 x2 xz; obtain ⟨x0, x1, x2, xz⟩ := three_cells hx6; clear hx6)
          rw [put3]
          have H6n := H6.out.1
          have HM11 := Lib.hid ((HM10.out.below H6.out.2).setX k3 (o' := o3 ++ [binNd 1 (o2.length - 1) (o3.length - 1)]) H6.out.1 (H3.out.2.2.2.1.snoc rfl))
          have HSG11 := Lib.hid ((HSG10.out.below H6.out.2).setX #[.slice A1 nl c1, .int .i64 k3, .slice (some ⟨g6, 0, none⟩) (o3 ++ [binNd 1 (o2.length - 1) (o3.length - 1)]).length cap])
          rw [show (o3 ++ [binNd 1 (o2.length - 1) (o3.length - 1)]).length = o3.length + 1 by simp] at HSG11
          have HX11 := HM11.out.x
          rw [show (o3 ++ [binNd 1 (o2.length - 1) (o3.length - 1)]).length = o3.length + 1 by simp] at HX11
          have hcast : putRow w6 w.heap.size #[.slice A1 nl c1, .int .i64 k3, .slice (some ⟨g6, 0, none⟩) (o3 ++ [binNd 1 (o2.length - 1) (o3.length - 1)]).length cap] = putRow w6 w.heap.size #[.slice A1 nl c1, .int .i64 k3, .slice (some ⟨g6, 0, none⟩) (o3.length + 1) cap] := by rw [show (o3 ++ [binNd 1 (o2.length - 1) (o3.length - 1)]).length = o3.length + 1 by simp]
          rw [hcast] at HM11
          clear x0 x1 x2 xz hcast H6n
          revert HM11 HSG11 HX11
          generalize putRow w6 w.heap.size #[.slice A1 nl c1, .int .i64 k3, .slice (some ⟨g6, 0, none⟩) (o3.length + 1) cap] = W11
          intro HM11 HSG11 HX11
          obtain ⟨x0, x1, x2, xz⟩ := three_cells HX11
          have HLN := Lib.hid (lp_next (lv := 1) (by decide) HI.out.ot HA.out.2.2 HG.out HB.out HQ.out H3.out.2.1)
          clear HX11
          go_wp2_with fail
          go_roundg g
          case measure => exact Nat.lt_succ_self _
          case rel => exact ⟨k3, o3 ++ [binNd 1 (o2.length - 1) (o3.length - 1)], some ⟨g6, 0, none⟩, cap, by simp [(len_back HF.out).1], ⟨HLN.out, Nat.le_trans (Nat.le_succ _) HA.out.2.1, by simp⟩, HM11, HSG11⟩
theorem rch_all : ∀ f, RNotC f ∧ ∀ g, g ≤ f → RChC g
  | 0 => ⟨fun L vl B k o A c w r hr => by simp [Po.P] at hr, fun g hg lv hlv L vl B k o A c w r hr => by
      obtain rfl : g = 0 := by omega
      simp [Po.P] at hr⟩
  | f + 1 => by
    obtain ⟨I1, I2⟩ := rch_all f
    have J1 : RNotC (f + 1) := rnot_all f I1 (I2 f (Nat.le_refl _))
    refine ⟨J1, fun g hg => ?_⟩
    by_cases h : g ≤ f
    · exact I2 g h
    · obtain rfl : g = f + 1 := by omega
      intro lv hlv L vl B k o A c w r hr hin
      have hc : lv = 0 ∨ lv = 1 ∨ lv = 2 := by omega
      rcases hc with rfl | rfl | rfl
      · exact rch_0 f I2 L vl B k o A c w r hr hin
      · exact rch_1 f I2 L vl B k o A c w r hr hin
      · exact rch_two (f + 1) J1 L vl B k o A c w r hr hin
end Go.Proofs.YtdolpmmnjndfkaaGreatDoor
