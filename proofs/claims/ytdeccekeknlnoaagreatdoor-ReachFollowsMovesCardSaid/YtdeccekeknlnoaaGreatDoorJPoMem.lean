/- Words for memory: a slice that reads as a list of bytes, of rows of bytes; what an untouched block keeps. Plain lemmas, no program. -/
import Derived.Test.YtdeccekeknlnoaaGreatDoorProg
import Derived.WalkKit
import Derived.WalkSpells
import Derived.Deep.QuietTactic
import Derived.BigQuiet
import Derived.Lib.Hide
import Derived.Deep.Draws
namespace Go.Proofs.YtdeccekeknlnoaaGreatDoor
open Go.RowKit

/-- element k, as plain definitions: the walk's simp does not rewrite them -/
def nth (xs : List Nat) (k : Nat) : Nat := xs.getD k 0
def nthRow (f : List (List Nat)) (k : Nat) : List Nat := f.getD k []

/-- The cells of a slice: nothing is said of an empty one. -/
def Cells (w : World) (B : Nat) (A : Option Addr) (n : Nat) (f : Nat → Value) : Prop :=
  0 < n → ∃ b o, A = some ⟨b, o, none⟩ ∧ b < B ∧ ∀ i, i < n → w.cell? ⟨b, o + i, none⟩ = some (f i)

theorem Cells.below {w w' : World} {B : Nat} {A : Option Addr} {n : Nat} {f : Nat → Value} (h : Cells w B A n f) (hb : Below B w w') : Cells w' B A n f := by
  intro hn
  obtain ⟨b, o, hA, hlt, hc⟩ := h hn
  exact ⟨b, o, hA, hlt, fun i hi => (hb.cell (p := ⟨b, o + i, none⟩) hlt).trans (hc i hi)⟩
theorem Cells.more {w : World} {B B' : Nat} {A : Option Addr} {n : Nat} {f : Nat → Value} (h : Cells w B A n f) (hB : B ≤ B') : Cells w B' A n f := by
  intro hn
  obtain ⟨b, o, hA, hlt, hc⟩ := h hn
  exact ⟨b, o, hA, by omega, hc⟩

/-- A slice of bytes. -/
def RBytes (w : World) (B : Nat) (v : Value) (xs : List Nat) : Prop :=
  ∃ A c, v = .slice A xs.length c ∧ xs.length ≤ c ∧ c ≤ maxLen ∧ (∀ x ∈ xs, x < 256) ∧ Cells w B A xs.length (fun i => .int .u8 (nth xs i : Nat))

/-- A slice of slices of bytes. -/
def RRows (w : World) (B : Nat) (v : Value) (f : List (List Nat)) : Prop :=
  ∃ A c vs, v = .slice A f.length c ∧ f.length ≤ c ∧ c ≤ maxLen ∧ Cells w B A f.length vs ∧ ∀ i, i < f.length → RBytes w B (vs i) (nthRow f i)

theorem RBytes.below {w w' : World} {B : Nat} {v : Value} {xs : List Nat} (h : RBytes w B v xs) (hb : Below B w w') : RBytes w' B v xs := by
  obtain ⟨A, c, h1, h2, h3, h4, h5⟩ := h
  exact ⟨A, c, h1, h2, h3, h4, h5.below hb⟩
theorem RBytes.more {w : World} {B B' : Nat} {v : Value} {xs : List Nat} (h : RBytes w B v xs) (hB : B ≤ B') : RBytes w B' v xs := by
  obtain ⟨A, c, h1, h2, h3, h4, h5⟩ := h
  exact ⟨A, c, h1, h2, h3, h4, h5.more hB⟩
theorem RRows.below {w w' : World} {B : Nat} {v : Value} {f : List (List Nat)} (h : RRows w B v f) (hb : Below B w w') : RRows w' B v f := by
  obtain ⟨A, c, vs, h1, h2, h3, h4, h5⟩ := h
  exact ⟨A, c, vs, h1, h2, h3, h4.below hb, fun i hi => (h5 i hi).below hb⟩
theorem RRows.more {w : World} {B B' : Nat} {v : Value} {f : List (List Nat)} (h : RRows w B v f) (hB : B ≤ B') : RRows w B' v f := by
  obtain ⟨A, c, vs, h1, h2, h3, h4, h5⟩ := h
  exact ⟨A, c, vs, h1, h2, h3, h4.more hB, fun i hi => (h5 i hi).more hB⟩
theorem Below.new {w : World} (o : Obj) : Below w.heap.size w (w.alloc o) := (Below.refl _ _).alloc (Nat.le_refl _) _

/-- What stands below a mark reads on as it read. -/
theorem bcell {B : Nat} {W w1 : World} (hb : Below B W w1) : (∀ b o, b < B → w1.cell? ⟨b, o, none⟩ = W.cell? ⟨b, o, none⟩) ∧ (∀ b o, b < B → w1.frozen? ⟨b, o, none⟩ = W.frozen? ⟨b, o, none⟩) :=
  ⟨fun b o h => hb.cell (p := ⟨b, o, none⟩) h, fun b o h => hb.frozen (p := ⟨b, o, none⟩) h⟩

/-- A row of rows, opened at one row. -/
theorem RRows.row {w : World} {B : Nat} {A : Option Addr} {n c : Nat} {f : List (List Nat)} (h : RRows w B (.slice A n c) f) (k : Nat) (hk : k < f.length) :
    ∃ b o A' c', A = some ⟨b, o, none⟩ ∧ b < B ∧ w.cell? ⟨b, o + k, none⟩ = some (.slice A' (nthRow f k).length c') ∧ (nthRow f k).length ≤ c' ∧ c' ≤ maxLen ∧
      (∀ x ∈ nthRow f k, x < 256) ∧ Cells w B A' (nthRow f k).length (fun i => .int .u8 (nth (nthRow f k) i : Nat)) := by
  obtain ⟨A0, c0, vs, h1, h2, h3, h4, h5⟩ := h
  cases h1
  obtain ⟨b, o, hA, hlt, hc⟩ := h4 (by omega)
  obtain ⟨A', c', g1, g2, g3, g4, g5⟩ := h5 k hk
  exact ⟨b, o, A', c', hA, hlt, by rw [hc k hk, g1], g2, g3, g4, g5⟩

end Go.Proofs.YtdeccekeknlnoaaGreatDoor
