/- Chapter 29: the facts that PolicyDependsOnPoints builds, in memory. -/
import Derived.Test.YtdolpmmnjndfkaaGreatDoorPoVal
import Derived.Test.YtdolpmmnjndfkaaGreatDoorPoRt
import Derived.Test.YtdolpmmnjndfkaaGreatDoorPoOpen
import Derived.Deep.Onto
namespace Go.Proofs.YtdolpmmnjndfkaaGreatDoor
open Go.RowKit
theorem rows_info : (Tryz.prog.info? 47).map (fun i => (i.zero, i.size, i.bytes)) = some (some (.slice none 0 0), 1, 24) := by kernel_rfl
def iv (r : List Int) : List Value := r.map (Value.int .i64)
theorem own_ne {w : World} {B1 B2 : Nat} {e1 e2 : TypeId} {s1 s2 n1 n2 : Nat} {v1 v2 : Value} {x1 x2 : List Value} (h1 : w.ownsRow B1 e1 s1 v1 n1 x1) (h2 : w.ownsRow B2 e2 s2 v2 n2 x2) (he : e1 ≠ e2) : v1.ownBlock = none ∨ v1.ownBlock ≠ v2.ownBlock := by
  obtain ⟨-, ⟨rfl, -⟩ | ⟨g, cap, cur, rfl, -, hg, -⟩⟩ := h1
  · exact .inl rfl
  · right
    obtain ⟨-, ⟨rfl, -⟩ | ⟨g2, cap2, cur2, rfl, -, hg2, -⟩⟩ := h2
    · simp [Value.ownBlock]
    · intro h
      simp only [Value.ownBlock, Option.some.injEq] at h
      subst h
      rw [hg] at hg2
      simp only [Option.some.injEq, Obj.cells.injEq] at hg2
      exact he hg2.2.1
theorem own_keep2 {w w' : World} {B : Nat} {e : TypeId} {s n : Nat} {v : Value} {x : List Value} (h : w.ownsRow B e s v n x) (hb : Below w.heap.size w w') : w'.ownsRow B e s v n x :=
  h.kept (row := none) ⟨hb.os, hb.tape, hb.output, hb.size, fun k hk _ => hb.block k hk⟩ (by cases v.ownBlock <;> simp)
theorem own_int1 {w : World} {B : Nat} {u : Value} {r : List Int} (h : w.ownsRow B 3 1 u r.length (iv r)) : RInt1 w w.heap.size u r := by
  rcases Nat.eq_zero_or_pos r.length with hz | hp
  · obtain rfl := List.eq_nil_of_length_eq_zero hz
    obtain ⟨-, ⟨rfl, -⟩ | ⟨g, cap, cur, rfl, -, -, h4, h5, -⟩⟩ := h
    · exact ⟨none, 0, rfl, Nat.le_refl _, by simp [maxLen], fun h => by simp at h⟩
    · exact ⟨some ⟨g, 0, none⟩, cap, rfl, h4, h5, fun h => by simp at h⟩
  · obtain ⟨g, cap, rfl, -, hlt, hc, hm, hx⟩ := own_cells h hp
    exact ⟨some ⟨g, 0, none⟩, cap, rfl, hc, hm, fun _ => ⟨g, 0, rfl, hlt, fun i x hi => by rw [Nat.zero_add]; exact hx i _ (by simp [iv, hi])⟩⟩
/-- a row of outcomes in range, as it was at the points that are named -/
def RowOk (o : List Po.Nd) (j : Nat) (r0 r : List Int) : Prop := ∀ (k : Nat) (x : Int), r[k]? = some x → (-1 ≤ x ∧ x ≤ 3) ∧ ((j, k) ∈ Po.points o → r0[k]? = some x)
structure DepAt (W : World) (Bx : Nat) (o : List Po.Nd) (f : Po.Facts) (vs : Value) (wr : World) (i : Nat) (V : Value) : Prop where
  below : Below Bx W wr
  box : wr.heap[Bx]? = some (.cells #[.int .i64 f.version, .int .i64 f.epoch, vs, V] 42)
  rows : ∃ (us : List Value) (rs : List (List Int)), us.length = i ∧ rs.length = i ∧ wr.ownsRow (Bx + 1) 47 1 V i us ∧ ∀ (j : Nat) (u : Value) (r : List Int), us[j]? = some u → rs[j]? = some r → wr.ownsRow (Bx + 1) 3 1 u r.length (iv r) ∧ ∃ r0, f.points[j]? = some r0 ∧ r.length = r0.length ∧ RowOk o j r0 r
section
variable {W wr wx w5 : World} {Bx i : Nat} {o : List Po.Nd} {f : Po.Facts} {vs V V' : Value}
theorem DepAt.lt (h : DepAt W Bx o f vs wr i V) : Bx < wr.heap.size := (Array.getElem?_eq_some_iff.1 h.box).1
theorem DepAt.more (h : DepAt W Bx o f vs wr i V) (hb : Below wr.heap.size wr wx) : DepAt W Bx o f vs wx i V := by
  have hlt := h.lt
  obtain ⟨h1, h2, us, rs, a, b, c, d⟩ := h
  exact ⟨h1.trans (hb.mono (by omega)), (hb.block Bx hlt).trans h2, us, rs, a, b, own_keep2 c hb, fun j u r hu hr => ⟨own_keep2 (d j u r hu hr).1 hb, (d j u r hu hr).2⟩⟩
theorem DepAt.start (hB : W.heap[Bx]? = some (.cells #[.int .i64 f.version, .int .i64 f.epoch, vs, .slice none 0 0] 42)) : DepAt W Bx o f vs W 0 (.slice none 0 0) :=
  ⟨Below.refl _ _, hB, [], [], rfl, rfl, World.ownsRow_nil _ _ _ _, fun j u r h => by simp at h⟩
theorem DepAt.push {us : List Value} {rs : List (List Int)} {u : Value} {r r0 : List Int} {Bi : Nat} {ob : Obj} (h1 : Below Bx W wx) (h2 : wx.heap[Bx]? = some (.cells #[.int .i64 f.version, .int .i64 f.epoch, vs, V] 42))
    (a : us.length = i) (b : rs.length = i) (c : wx.ownsRow (Bx + 1) 47 1 V i us) (d : ∀ (j : Nat) (u : Value) (r : List Int), us[j]? = some u → rs[j]? = some r → wx.ownsRow (Bx + 1) 3 1 u r.length (iv r) ∧ ∃ r0, f.points[j]? = some r0 ∧ r.length = r0.length ∧ RowOk o j r0 r)
    (hu : wx.ownsRow Bi 3 1 u r.length (iv r)) (hBi : Bx + 1 ≤ Bi) (hr0 : f.points[i]? = some r0) (hl : r.length = r0.length) (hok : RowOk o i r0 r)
    (hown : w5.ownsRow (Bx + 1) 47 1 V' (i + 1) (us ++ [u])) (hg : (wx.alloc ob).grownBy w5 V.ownBlock) : DepAt W Bx o f vs (w5.setCell ⟨Bx, 3, none⟩ V') (i + 1) V' := by
  have hlt : Bx < wx.heap.size := (Array.getElem?_eq_some_iff.1 h2).1
  have hV : ∀ k, V.ownBlock = some k → Bx + 1 ≤ k := fun k hk => (c.lt k hk).1
  have hti : (3 : TypeId) ≠ 47 := by decide
  have hbox : w5.heap[Bx]? = some (.cells #[.int .i64 f.version, .int .i64 f.epoch, vs, V] 42) := by
    rw [hg.block Bx (by simp; omega) (fun e => by have := hV Bx e.symm; omega), Below.heap_alloc _ _ _ hlt]
    exact h2
  have keep : ∀ {u : Value} {r : List Int}, wx.ownsRow (Bx + 1) 3 1 u r.length (iv r) → (w5.setCell ⟨Bx, 3, none⟩ V').ownsRow (Bx + 1) 3 1 u r.length (iv r) := fun h =>
    ownsRow_setCell_below ((h.alloc ob).kept hg (own_ne (h.alloc ob) (c.alloc ob) hti)) (a := ⟨Bx, 3, none⟩) (Nat.lt_succ_self _) _
  refine ⟨((h1.alloc (by omega) ob).grown hg (by simp; omega) (fun k hk => by have := hV k hk; omega)).setCell (p := ⟨Bx, 3, none⟩) (Nat.le_refl _) V', ?_, us ++ [u], rs ++ [r], by simp [a], by simp [b], ownsRow_setCell_below hown (a := ⟨Bx, 3, none⟩) (Nat.lt_succ_self _) _, fun j u' r' hu' hr' => ?_⟩
  · exact heap_setCell_same w5 Bx 3 _ _ V' hbox
  · by_cases hj : j < i
    · rw [List.getElem?_append_left (by omega)] at hu' hr'
      obtain ⟨e1, e2⟩ := d j u' r' hu' hr'
      exact ⟨keep e1, e2⟩
    · have hji : j = i := by
        have := (List.getElem?_eq_some_iff.1 hu').1
        simp [a] at this
        omega
      subst hji
      rw [List.getElem?_append_right (by omega), a, Nat.sub_self] at hu'
      rw [List.getElem?_append_right (by omega), b, Nat.sub_self] at hr'
      simp only [List.getElem?_cons_zero, Option.some.injEq] at hu' hr'
      subst hu'
      subst hr'
      exact ⟨keep (hu.mono hBi), r0, hr0, hl, hok⟩
theorem DepAt.fin (h : DepAt W Bx o f vs wr f.points.length V) (hd : RDigs wr wr.heap.size vs f.stages) :
    ∃ g : Po.Facts, g.version = f.version ∧ g.epoch = f.epoch ∧ Po.Alike o f g ∧ ValidF g ∧ ∀ W', Below wr.heap.size wr W' → RFacts W' W'.heap.size (.agg #[.int .i64 f.version, .int .i64 f.epoch, vs, V]) g := by
  obtain ⟨h1, h2, us, rs, a, b, c, d⟩ := h
  have both : ∀ (j : Nat) (r : List Int), rs[j]? = some r → ∃ u, us[j]? = some u ∧ wr.ownsRow (Bx + 1) 3 1 u r.length (iv r) ∧ ∃ r0, f.points[j]? = some r0 ∧ r.length = r0.length ∧ RowOk o j r0 r := by
    intro j r hr
    have hj := (List.getElem?_eq_some_iff.1 hr).1
    have hu : us[j]? = some (us[j]'(by omega)) := List.getElem?_eq_getElem _
    exact ⟨_, hu, d j _ r hu hr⟩
  have hrow : ∀ i, (∃ r r0, rs[i]? = some r ∧ f.points[i]? = some r0 ∧ r.length = r0.length ∧ RowOk o i r0 r) ∨ (rs[i]? = none ∧ f.points[i]? = none) := by
    intro i
    by_cases hi : i < rs.length
    · have hr := List.getElem?_eq_getElem hi
      obtain ⟨u, -, -, r0, e1, e2, e3⟩ := both i _ hr
      exact .inl ⟨_, r0, hr, e1, e2, e3⟩
    · exact .inr ⟨List.getElem?_eq_none (by omega), List.getElem?_eq_none (by omega)⟩
  refine ⟨⟨f.version, f.epoch, f.stages, rs⟩, rfl, rfl, ⟨rfl, rfl, rfl, b.symm, fun i => ?_, fun n hn h7 => ?_⟩, fun r hr y hy => ?_, fun W' hb => ?_⟩
  · rw [List.getD_eq_getElem?_getD, List.getD_eq_getElem?_getD]
    rcases hrow i with ⟨r, r0, e1, e2, e3, -⟩ | ⟨e1, e2⟩
    · rw [e1, e2]; exact e3.symm
    · rw [e1, e2]
  · have hm : (n.n, n.m) ∈ Po.points o := (Po.points_mem o _).2 ((Po.mem_named o _).2 ⟨n, hn, h7, rfl⟩)
    rw [List.getD_eq_getElem?_getD, List.getD_eq_getElem?_getD]
    rcases hrow n.n with ⟨r, r0, e1, e2, e3, e4⟩ | ⟨e1, e2⟩
    · rw [e1, e2]
      simp only [Option.getD_some]
      unfold Po.at_
      rw [List.getD_eq_getElem?_getD, List.getD_eq_getElem?_getD]
      by_cases hk : n.m < r.length
      · have e5 := List.getElem?_eq_getElem hk
        rw [(e4 _ _ e5).2 hm, e5]
      · rw [List.getElem?_eq_none (by omega), List.getElem?_eq_none (by omega)]
    · rw [e1, e2]
  · obtain ⟨i, hi, rfl⟩ := List.getElem_of_mem hr
    obtain ⟨u, -, -, r0, -, -, e⟩ := both i _ (List.getElem?_eq_getElem hi)
    obtain ⟨k, hk, rfl⟩ := List.getElem_of_mem hy
    exact (e k _ (List.getElem?_eq_getElem hk)).1
  · refine ⟨vs, V, rfl, (hd.below hb).mono hb.size, ?_⟩
    rcases Nat.eq_zero_or_pos rs.length with hz | hp
    · obtain rfl := List.eq_nil_of_length_eq_zero hz
      rw [← b] at c
      obtain ⟨-, ⟨rfl, -⟩ | ⟨g, cap, cur, rfl, -, -, h4, h5, -⟩⟩ := c
      · exact ⟨none, 0, rfl, Nat.le_refl _, by simp [maxLen], fun h => by simp at h⟩
      · exact ⟨some ⟨g, 0, none⟩, cap, rfl, h4, h5, fun h => by simp at h⟩
    · obtain ⟨g, cap, rfl, -, hlt, hc, hm, hx⟩ := own_cells c (by omega)
      refine ⟨some ⟨g, 0, none⟩, cap, by rw [b], by show rs.length ≤ _; omega, hm, fun _ => ⟨g, 0, rfl, Nat.lt_of_lt_of_le hlt hb.size, fun i r hr => ?_⟩⟩
      obtain ⟨u, hu, ho, -⟩ := both i r hr
      exact ⟨u, by rw [Nat.zero_add]; exact (hb.cell (p := ⟨g, i, none⟩) hlt).trans (hx i u hu), ((own_int1 ho).below hb).mono hb.size⟩
end
end Go.Proofs.YtdolpmmnjndfkaaGreatDoor
