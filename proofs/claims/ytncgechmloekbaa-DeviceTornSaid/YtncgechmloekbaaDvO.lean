/- Device: a Hardware's type number as a letter: so the walk loads and stores a Hardware as one value. -/
import Derived.Test.YtncgechmloekbaaDvN
namespace Go.Proofs.Ytncgechmloekbaa
open Go.RowKit

theorem setCells_new (t : TypeId) (w : World) : ∀ (vs : List Value) (o : Nat) (z : Array Value), (w.alloc (.cells z t)).setCells w.heap.size o vs = w.alloc (.cells (splice z o vs) t)
  | [], _, _ => rfl
  | v :: vs, o, z => by
    rw [World.setCells, World.setCell_alloc_new, setCells_new t w vs (o + 1), splice]
theorem put_new {w : World} {cs z : Array Value} {t : TypeId} (h : cs.size = z.size) : putRow (w.alloc (.cells z t)) w.heap.size cs = w.alloc (.cells cs t) := by
  rw [putRow, setCells_new, splice_all (by simpa using h)]
theorem setCells_past (o : Obj) (b : Nat) : ∀ (vs : List Value) (k : Nat) (w : World), b < w.heap.size → (w.alloc o).setCells b k vs = (w.setCells b k vs).alloc o
  | [], _, _, _ => rfl
  | v :: vs, k, w, h => by
    rw [World.setCells, World.setCells, World.setCell_alloc_past _ _ _ _ h, setCells_past o b vs (k + 1) _ (by simpa using h)]
theorem put_second {w : World} {cs z : Array Value} {t : TypeId} {o : Obj} (h : cs.size = z.size) : putRow ((w.alloc (.cells z t)).alloc o) w.heap.size cs = (w.alloc (.cells cs t)).alloc o := by
  rw [putRow, setCells_past _ _ _ _ _ (by simp), setCells_new, splice_all (by simpa using h)]

/-- what the walk is told of the letters: the type of a Hardware and its size; the type of a root key and its size -/
structure Letters (T N R K : Nat) : Prop where
  ty : T = 31
  sz : N = 18
  tyR : R = 29
  szR : K = 16
theorem letters : ∃ T N R K : Nat, Letters T N R K := ⟨_, _, _, _, rfl, rfl, rfl, rfl⟩
theorem range_at {w : World} {b o : Nat} {cs : Array Value} {t : TypeId} {xs : List Value} (h : w.heap[b]? = some (.cells cs t (0, 0))) (hx : ∀ (j : Nat) (v : Value), xs[j]? = some v → cs[o + j]? = some v) : w.rangeAt b o xs := by
  intro j v hv
  rw [cell_of_row w b (o + j) cs t _ h]
  exact hx j v hv
section
variable {T N R K : Nat} (L : Letters T N R K)
include L
theorem Letters.load (x : Operand) : Op.load 31 x = Op.load T x := by rw [L.ty]
theorem Letters.store (x y : Operand) : Op.store 31 x y = Op.store T x y := by rw [L.ty]
theorem Letters.loadR (x : Operand) : Op.load 29 x = Op.load R x := by rw [L.tyR]
theorem Letters.agg (w : World) : Sem.run Try.prog (isAgg T) w = .ok true w := by rw [L.ty]; exact Try.isAgg31 w
theorem Letters.size (w : World) : Sem.run Try.prog (sizeOf T) w = .ok N w := by rw [L.ty, L.sz]; exact Try.sizeOf31 w
theorem Letters.aggR (w : World) : Sem.run Try.prog (isAgg R) w = .ok true w := by rw [L.tyR]; exact Try.isAgg29 w
theorem Letters.sizeR (w : World) : Sem.run Try.prog (sizeOf R) w = .ok K w := by rw [L.tyR, L.szR]; exact Try.sizeOf29 w
theorem Letters.ld {w : World} {b : Nat} {cs : Array Value} (h : w.heap[b]? = some (.cells cs 31 (0, 0))) (hs : cs.size = 18) : Sem.run Try.prog (loadCellsFrom ⟨b, 0, none⟩ 0 N #[]) w = .ok cs w := by
  have hl := run_loadCells_list (P := Try.prog) w ⟨b, 0, none⟩ cs.toList (fun j v hv => by rw [Addr.add_mid]; exact range_block h j v hv)
  rw [L.sz, ← hs]
  show Sem.run _ (loadCells _ _) _ = _
  simpa only [Array.length_toList, Array.toArray_toList] using hl
theorem Letters.ldR {w : World} {b : Nat} {cs : Array Value} {ok : Nat → Prop} {f : List (List Nat)} {m : List ByteArray} {r : Nat → Int} {w0 : World} (h : w.heap[b]? = some (.cells cs 31 (0, 0))) (hh : HwVal w0 ok cs f m r) : Sem.run Try.prog (loadCellsFrom ⟨b, 2, none⟩ 0 K #[]) w = .ok (rootOf r) w := by
  obtain ⟨v, u, rfl, _⟩ := hh
  have hl := run_loadCells_list (P := Try.prog) w ⟨b, 2, none⟩ (rootOf r).toList (fun j v hv => by
    rw [Addr.add_mid]
    refine range_at h (fun j v hv => ?_) j v hv
    have hj : j < 16 := by
      have := (List.getElem?_eq_some_iff.1 hv).1
      simpa [rootOf] using this
    rw [Nat.add_comm]
    simpa [rootOf] using hv)
  rw [L.szR]
  exact hl
end
theorem st1 {cs : Array Value} (hs : cs.size = 18) (h1 : cs.all (·.oneCell') = true) (z : Array Value) (hz : z.size = 18) (w : World) :
    Sem.run Try.prog (storeCells ⟨w.heap.size, 0, none⟩ cs.toList) (w.alloc (.cells z 31)) = .ok () (w.alloc (.cells cs 31)) := by
  rw [cells_row (heap_alloc_new _ _) (by omega) h1, put_new (by omega)]
theorem st2 {cs : Array Value} (hs : cs.size = 18) (h1 : cs.all (·.oneCell') = true) (z : Array Value) (hz : z.size = 18) (w : World) (o : Obj) :
    Sem.run Try.prog (storeCells ⟨w.heap.size, 0, none⟩ cs.toList) ((w.alloc (.cells z 31)).alloc o) = .ok () ((w.alloc (.cells cs 31)).alloc o) := by
  rw [cells_row ((Below.heap_alloc _ _ _ (by simp)).trans (heap_alloc_new _ _)) (by omega) h1, put_second (by omega)]

end Go.Proofs.Ytncgechmloekbaa
