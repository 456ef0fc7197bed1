/- Device: a Hardware whole: its block is loaded and stored as one value. -/
import Derived.Test.YtncgechmloekbaaDvH
namespace Go.Proofs.Ytncgechmloekbaa
open Go.RowKit

/-- a list of values laid over an array from a place on -/
def splice : Array Value → Nat → List Value → Array Value
  | cs, _, [] => cs
  | cs, o, v :: vs => splice (cs.setIfInBounds o v) (o + 1) vs
theorem splice_at : ∀ (vs : List Value) (cs : Array Value) (o i : Nat), i < cs.size → (splice cs o vs)[i]? = if o ≤ i ∧ i < o + vs.length then vs[i - o]? else cs[i]?
  | [], cs, o, i, _ => by simp [splice]; omega
  | v :: vs, cs, o, i, h => by
    rw [splice, splice_at vs _ (o + 1) i (by simpa using h), Array.getElem?_setIfInBounds]
    by_cases h1 : o = i
    · subst h1
      rw [if_neg (by omega), if_pos (by simp)]
      simp [h]
    · by_cases h2 : o + 1 ≤ i ∧ i < o + 1 + vs.length
      · rw [if_pos h2, if_pos (by simp; omega)]
        have : i - o = (i - (o + 1)) + 1 := by omega
        rw [this]; simp
      · rw [if_neg h2, if_neg h1, if_neg (by simp; omega)]
theorem splice_size : ∀ (vs : List Value) (cs : Array Value) (o : Nat), (splice cs o vs).size = cs.size
  | [], _, _ => rfl
  | v :: vs, cs, o => by rw [splice, splice_size vs]; simp
theorem splice_all {cs : Array Value} {vs : List Value} (h : vs.length = cs.size) : splice cs 0 vs = vs.toArray := by
  apply Array.ext_getElem?
  intro i
  by_cases hi : i < cs.size
  · rw [splice_at vs cs 0 i hi, if_pos (by omega)]; simp
  · rw [Array.getElem?_eq_none (by rw [splice_size]; omega), Array.getElem?_eq_none (by simp; omega)]
theorem heap_splice {b : Nat} {T : TypeId} : ∀ (vs : List Value) (o : Nat) (cs : Array Value) (w : World), w.heap[b]? = some (.cells cs T (0, 0)) → (w.setCells b o vs).heap[b]? = some (.cells (splice cs o vs) T (0, 0))
  | [], _, _, _, h => h
  | v :: vs, o, cs, w, h => heap_splice vs (o + 1) _ _ (heap_setCell_same w b o cs T v h)

/-- a block, written over whole -/
def putRow (w : World) (b : Nat) (cs : Array Value) : World := w.setCells b 0 cs.toList
section
variable {w w0 : World} {b k B : Nat} {cs cs0 : Array Value} {T : TypeId}
theorem put_same (h : w.heap[b]? = some (.cells cs0 T (0, 0))) (hs : cs.size = cs0.size) : (putRow w b cs).heap[b]? = some (.cells cs T (0, 0)) := by
  have := heap_splice cs.toList 0 cs0 w h
  rwa [splice_all (by simpa using hs)] at this
theorem put_other (hk : k ≠ b) : (putRow w b cs).heap[k]? = w.heap[k]? := heap_setCells b _ 0 w k hk
theorem put_below (h : Below B w0 w) (hb : B ≤ b) : Below B w0 (putRow w b cs) := below_setCells h hb _ _
theorem load_hw (h : w.heap[b]? = some (.cells cs 31 (0, 0))) (hs : cs.size = 18) : (Instr.loadAt 31 (.pointer (some ⟨b, 0, none⟩))).run Try.prog w = .ok (.agg cs) w := by
  have h1 := run_loadAt_mid (P := Try.prog) w b 0 31 cs.toList _ (range_block h) Try.underlying31 rfl (by rw [show cs.toList.length = 18 by simpa using hs]; kernel_rfl)
  simpa using h1
theorem loadVar_hw (h : w.heap[b]? = some (.cells cs 31 (0, 0))) (hs : cs.size = 18) : (loadVar 31 ⟨b, 0, none⟩).run Try.prog w = .ok (.agg cs) w := by
  have h1 := run_loadVar_mid (P := Try.prog) w b 0 31 cs.toList _ (range_block h) Try.underlying31 rfl (by rw [show cs.toList.length = 18 by simpa using hs]; kernel_rfl)
  simpa using h1
theorem store_hw (h : w.heap[b]? = some (.cells cs0 T (0, 0))) (h0 : cs0.size = 18) (hs : cs.size = 18) (h1 : cs.all (·.oneCell') = true) : (Instr.storeAt 31 (.pointer (some ⟨b, 0, none⟩)) (.agg cs)).run Try.prog w = .ok () (putRow w b cs) :=
  run_storeAt_mid (P := Try.prog) w b 0 31 cs (there_block h (by omega)) (by rw [hs]; kernel_rfl) h1
theorem cell_block {i : Nat} {v : Value} (h : w.heap[b]? = some (.cells cs T (0, 0))) (hv : cs[i]? = some v) : w.cell? ⟨b, i, none⟩ = some v := by simp [World.cell?, h, hv]
theorem free_block {i : Nat} (h : w.heap[b]? = some (.cells cs T (0, 0))) : w.frozen? ⟨b, i, none⟩ = false := by simp [World.frozen?, h]
end

end Go.Proofs.Ytncgechmloekbaa
