/- Flash: what is held in a region that draws its order: a write whose content is made beside it. -/
import Derived.Test.YtnmleaibonnbnaaFlK
import Derived.Deep.DeepCutAuto
namespace Go.Proofs.Ytnmleaibonnbnaa
open Go.RowKit

/-- A variable of type Flash: its block, and what it reads as. -/
structure SAt (W : World) (p : Nat) (v : Value) (f : List ByteArray) : Prop where
  blk : W.heap[p]? = some (.cells #[v] 24 (0, 0))
  strs : RStrs W W.heap.size v f
theorem SAt.below {W W' : World} {p : Nat} {v : Value} {f : List ByteArray} (h : SAt W p v f) (hb : Below W.heap.size W W') : SAt W' p v f :=
  ⟨(hb.block p (lt_of_block h.blk)).trans h.blk, (h.strs.below hb).more hb.size⟩
theorem SAt.new {W : World} {v : Value} {f : List ByteArray} (h : RStrs W W.heap.size v f) : SAt (W.alloc (.cells #[v] 24)) W.heap.size v f :=
  ⟨heap_alloc_new _ _, (h.below (Below.new _)).more (by simp)⟩
theorem SAt.cell {W : World} {p : Nat} {v : Value} {f : List ByteArray} (h : SAt W p v f) : W.cell? ⟨p, 0, none⟩ = some v := cell_of_one h.blk
theorem SAt.drew {W : World} {p : Nat} {v : Value} {f : List ByteArray} (h : SAt W p v f) : SAt W.drew p v f := h.below (Below.refl _ _).drew

/-- W keeps all of Ws below B. -/
structure Under (Ws : World) (B : Nat) (W : World) : Prop where
  keeps : Below B Ws W
  le : B ≤ W.heap.size
section
variable {Ws W W' : World} {B p : Nat} {v : Value} {f : List ByteArray}
theorem Under.below (h : Under Ws B W) (hb : Below W.heap.size W W') : Under Ws B W' := ⟨h.keeps.trans (hb.mono h.le), Nat.le_trans h.le hb.size⟩
theorem Under.here (h : Under Ws B W) (_hb : Below W.heap.size W W') : Under Ws B W := h
theorem Under.alloc (h : Under Ws B W) (o : Obj) : Under Ws B (W.alloc o) := h.below (Below.new _)
theorem Under.drew (h : Under Ws B W) : Under Ws B W.drew := h.below (Below.refl _ _).drew
theorem Under.setCell (h : Under Ws B W) {X : Nat} (hX : B ≤ X) (u : Value) : Under Ws B (W.setCell ⟨X, 0, none⟩ u) :=
  ⟨h.keeps.setCell hX u, Nat.le_trans h.le ((Below.refl B W).setCell (p := ⟨X, 0, none⟩) hX u).size⟩
theorem Under.cell (h : Under Ws B W) (c : Ws.cell? ⟨p, 0, none⟩ = some v) (hp : p < B) : W.cell? ⟨p, 0, none⟩ = some v := (h.keeps.cell (p := ⟨p, 0, none⟩) hp).trans c
theorem Under.strs (h : Under Ws B W) (hs : RStrs Ws B v f) : RStrs W W.heap.size v f := (hs.below h.keeps).more h.le
end

theorem apart_set {W0 W : World} {B X : Nat} {v v' u : Value} {f g : List ByteArray} (h0 : RStrs W0 B v f) (hX : B ≤ X) (hX2 : X < W0.heap.size) (h : RStrs W W.heap.size v' g) (ha : Apart W0 v v') :
    RStrs (W.setCell ⟨X, 0, none⟩ u) (W.setCell ⟨X, 0, none⟩ u).heap.size v' g := by
  obtain ⟨A, c, rfl, hn, hc, hs, hcells⟩ := h
  refine ⟨A, c, rfl, hn, hc, hs, fun hpos => ?_⟩
  obtain ⟨b, o, rfl, hb, hcl⟩ := hcells hpos
  have hne : b ≠ X := by
    rcases ha with e | ⟨g', n', c', e, hg⟩
    · obtain ⟨A0, c0, e0, _, _, _, h5⟩ := h0
      rw [e0] at e
      injection e with e1 e2 e3
      obtain ⟨b0, o0, e4, hb0, _⟩ := h5 (by omega)
      rw [e4] at e1
      injection e1 with e5
      injection e5 with e6
      omega
    · injection e with e1
      injection e1 with e5
      injection e5 with e6
      omega
  refine ⟨b, o, rfl, by simpa using hb, fun i hi => ?_⟩
  exact (World.cell?_setCell_other W ⟨X, 0, none⟩ ⟨b, o + i, none⟩ u (by simp [hne])).trans (hcl i hi)

theorem strs_lit1 {s : ByteArray} (hs : s.size ≤ maxLen) (W : World) : RStrs (W.alloc (.cells #[.string s] 9)) (W.alloc (.cells #[.string s] 9)).heap.size (.slice (some ⟨W.heap.size, 0, none⟩) 1 1) [s] :=
  strs_own (base := W.heap.size) (World.ownsRow_lit W #[.string s] 1 (Nat.le_refl _) (by simp [maxLen]) (by simp)) (by simpa using hs)

/-- Behind such a region: the new variable; all that lay before lies there still. -/
def Wrote (Ws : World) (B : Nat) (g : List ByteArray) (a : Value) (W : World) : Prop :=
  ∃ p' v', a = .pointer (some ⟨p', 0, none⟩) ∧ SAt W p' v' g ∧ B ≤ p' ∧ Below B Ws W

theorem wrote_new {Ws W : World} {B : Nat} {v' : Value} {g : List ByteArray} (h : Under Ws B W) (hs : RStrs W W.heap.size v' g) :
    Wrote Ws B g (.pointer (some ⟨W.heap.size, 0, none⟩)) (W.alloc (.cells #[v'] 24)) := ⟨_, _, rfl, SAt.new hs, h.le, (h.alloc _).keeps⟩
theorem wrote_old {Ws W W0 : World} {B X : Nat} {v v' u : Value} {f g : List ByteArray} (h : Under Ws B W) (h0 : Under Ws B W0) (hs0 : RStrs Ws B v f) (hs : RStrs W W.heap.size v' g) (ha : Apart W0 v v') (hb : Below W0.heap.size W0 W) (hX : B ≤ X)
    (hblk : W0.heap[X]? = some (.cells #[u] 24 (0, 0))) :
    Wrote Ws B g (.pointer (some ⟨X, 0, none⟩)) (W.setCell ⟨X, 0, none⟩ v') :=
  ⟨X, v', rfl, ⟨one_setCell ((hb.block X (lt_of_block hblk)).trans hblk), apart_set (hs0.below h0.keeps) hX (lt_of_block hblk) hs ha⟩, hX, (h.setCell hX _).keeps⟩

end Go.Proofs.Ytnmleaibonnbnaa
