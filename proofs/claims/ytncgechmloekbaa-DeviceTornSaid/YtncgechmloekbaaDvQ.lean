/- Device: tools for the walks of the laws: a variable of type Hardware. -/
import Derived.Test.YtncgechmloekbaaDvP
import Derived.Deep.DeepCutAuto
namespace Go.Proofs.Ytncgechmloekbaa
open Go.RowKit

/-- a Hardware, by value, below the world's end -/
def HwB (W : World) (cs : Array Value) (f : List (List Nat)) (m : List ByteArray) (r : Nat → Int) : Prop := HwVal W (fun b => b < W.heap.size) cs f m r
/-- a variable of type Hardware -/
structure Dev (W : World) (p : Nat) (cs : Array Value) (f : List (List Nat)) (m : List ByteArray) (r : Nat → Int) : Prop where
  lies : W.heap[p]? = some (.cells cs 31 (0, 0))
  val : HwB W cs f m r
section
variable {W W' : World} {p : Nat} {cs : Array Value} {f : List (List Nat)} {m : List ByteArray} {r : Nat → Int} {ok : Nat → Prop}
theorem HwB.below (h : HwB W cs f m r) (hb : Below W.heap.size W W') : HwB W' cs f m r := (HwVal.below h hb).bar
theorem HwVal.b (h : HwVal W ok cs f m r) : HwB W cs f m r := h.bar
theorem Dev.lt (h : Dev W p cs f m r) : p < W.heap.size := lt_of_heap h.lies
theorem Dev.below (h : Dev W p cs f m r) (hb : Below W.heap.size W W') : Dev W' p cs f m r := ⟨(hb.block p h.lt).trans h.lies, h.val.below hb⟩
theorem Dev.drew (h : Dev W p cs f m r) : Dev W.drew p cs f m r := h.below (Below.refl _ _).drew
theorem Dev.new (h : HwB W cs f m r) : Dev (W.alloc (.cells cs 31)) W.heap.size cs f m r := ⟨heap_alloc_new _ _, h.below (Below.new _)⟩
theorem Dev.new2 (h : HwB W cs f m r) (o : Obj) : Dev ((W.alloc (.cells cs 31)).alloc o) W.heap.size cs f m r := (Dev.new h).below (Below.new _)
/-- a variable of type Result -/
def Res (W : World) (p : Nat) (x y : Value) : Prop := W.heap[p]? = some (.cells #[x, y] 40 (0, 0))
theorem Res.below {x y : Value} (h : Res W p x y) (hb : Below W.heap.size W W') : Res W' p x y := (hb.block p (lt_of_heap h)).trans h
theorem Res.c0 {x y : Value} (h : Res W p x y) : W.cell? ⟨p, 0, none⟩ = some x := cell_block h rfl
theorem Res.c1 {x y : Value} (h : Res W p x y) : W.cell? ⟨p, 1, none⟩ = some y := cell_block h rfl
end
theorem ints_lit {W : World} {g : Nat} {cs : Array Value} {t : TypeId} {fr : Nat × Nat} {xs : List Int} (h : W.heap[g]? = some (.cells cs t fr)) (hx : xs.length ≤ 1000) (hc : cs = (xs.map fun x => Value.int .i64 x).toArray) :
    RInts W W.heap.size (.slice (some ⟨g, 0, none⟩) xs.length xs.length) xs := 
  ⟨_, _, rfl, Nat.le_refl _, by unfold maxLen; omega, fun _ => ⟨g, 0, rfl, (Array.getElem?_eq_some_iff.1 h).1, fun i hi => by rw [Nat.zero_add, cell_of_row W g i _ _ _ h, hc]; simp [nthI, hi]⟩⟩
theorem Und.set {W3 W : World} (h : Und W3 W) {X : Nat} (hX : W3.heap.size ≤ X) (i : Nat) (u : Value) : Und W3 (W.setCell ⟨X, i, none⟩ u) := ⟨h.keeps.setCell hX u⟩
theorem Und.put {W3 W : World} (h : Und W3 W) {X : Nat} (hX : W3.heap.size ≤ X) (cs : Array Value) : Und W3 (putRow W X cs) := ⟨put_below h.keeps hX⟩
theorem hw_und {W1 W : World} {p : Nat} {cs : Array Value} {f : List (List Nat)} {m : List ByteArray} {r : Nat → Int} (h : Dev W1 p cs f m r) (hU : Und W1 W) : HwVal W (fun b => b < W1.heap.size) cs f m r := HwVal.below h.val hU.keeps
theorem st3 {cs : Array Value} (hs : cs.size = 18) (h1 : cs.all (·.oneCell') = true) (z : Array Value) (hz : z.size = 18) (w : World) (o : Obj) :
    Sem.run Try.prog (storeCells ⟨w.heap.size + 1, 0, none⟩ cs.toList) ((w.alloc o).alloc (.cells z 31)) = .ok () ((w.alloc o).alloc (.cells cs 31)) := by
  have h := st1 hs h1 z hz (w.alloc o)
  rwa [World.size_alloc] at h
/-- what lies in a block, as a word that the walk leaves alone -/
def Blk (w : World) (k : Nat) (o : Obj) : Prop := w.heap[k]? = some o
theorem blk_below {W W' : World} (hb : Below W.heap.size W W') : ∀ (k : Nat) (o : Obj), k < W.heap.size → Blk W k o → Blk W' k o := fun k _ h hk => (hb.block k h).trans hk
theorem st4 {cs : Array Value} (hs : cs.size = 18) (h1 : cs.all (·.oneCell') = true) (z : Array Value) (hz : z.size = 18) (w : World) (X : Nat) (hX : Blk w X (.cells z 31)) :
    Sem.run Try.prog (storeCells ⟨X, 0, none⟩ cs.toList) w = .ok () (putRow w X cs) := cells_row hX (by omega) h1
theorem put_past {w : World} {b : Nat} (h : b < w.heap.size) (cs : Array Value) (o : Obj) : putRow (w.alloc o) b cs = (putRow w b cs).alloc o := setCells_past _ _ _ _ _ h
theorem st5 {cs : Array Value} (hs : cs.size = 18) (h1 : cs.all (·.oneCell') = true) (z : Array Value) (hz : z.size = 18) (w : World) (X : Nat) (o : Obj) (hX : Blk w X (.cells z 31)) :
    Sem.run Try.prog (storeCells ⟨X, 0, none⟩ cs.toList) (w.alloc o) = .ok () ((putRow w X cs).alloc o) := by
  rw [cells_row ((Below.heap_alloc _ _ _ (lt_of_heap hX)).trans hX) (by omega) h1, put_past (lt_of_heap hX)]
theorem res_facts {w : World} {X : Nat} (h : Blk w X (.cells #[.int .i64 0, .string ⟨#[]⟩] 40)) : w.cell? ⟨X, 0, none⟩ = some (.int .i64 0) ∧ w.cell? ⟨X, 1, none⟩ = some (.string ⟨#[]⟩) ∧ w.frozen? ⟨X, 0, none⟩ = false ∧ w.frozen? ⟨X, 1, none⟩ = false :=
  ⟨cell_block h rfl, cell_block h rfl, free_block h, free_block h⟩
theorem blk_put {w : World} {X Y : Nat} {z cs0 : Array Value} (cs : Array Value) (hR : Blk w Y (.cells z 40)) (hZ : Blk w X (.cells cs0 31)) : Blk (putRow w X cs) Y (.cells z 40) :=
  (put_other (fun e => by subst e; have h := hR.symm.trans hZ; injection h with h; injection h with _ h; exact absurd h (by decide))).trans hR
theorem blk_old {w : World} {o o' : Obj} {k : Nat} (h : Blk w k o) : Blk (w.alloc o') k o := (Below.heap_alloc _ _ _ (lt_of_heap h)).trans h
theorem blk_second (w : World) (o1 o2 : Obj) : Blk ((w.alloc o1).alloc o2) (w.heap.size + 1) o2 := by
  have h := heap_alloc_new (w.alloc o1) o2
  rwa [World.size_alloc] at h
section
variable {w w6 w' : World} {o o1 o2 : Obj} {z r : Array Value}
theorem shape4 (hb : Below (((w.alloc (.cells z 31)).alloc (.cells r 40)).drew).heap.size (((w.alloc (.cells z 31)).alloc (.cells r 40)).drew) w') : Blk w' w.heap.size (.cells z 31) ∧ Blk w' (w.heap.size + 1) (.cells r 40) :=
  ⟨blk_below hb _ _ (by simp; omega) (blk_old (heap_alloc_new w _)), blk_below hb _ _ (by simp) (blk_second _ _ _)⟩
theorem shape5 (hb : Below (((w.alloc (.cells r 40)).alloc (.cells z 31)).drew).heap.size (((w.alloc (.cells r 40)).alloc (.cells z 31)).drew) w') : Blk w' w.heap.size (.cells r 40) ∧ Blk w' (w.heap.size + 1) (.cells z 31) :=
  ⟨blk_below hb _ _ (by simp; omega) (blk_old (heap_alloc_new w _)), blk_below hb _ _ (by simp) (blk_second _ _ _)⟩
theorem shape2 (hb : Below ((w.alloc (.cells z 31)).drew).heap.size ((w.alloc (.cells z 31)).drew) w') : Blk w' w.heap.size (.cells z 31) := blk_below hb _ _ (by simp) (heap_alloc_new w _)
theorem shape3 (hb : Below ((w.alloc (.cells r 40)).drew).heap.size ((w.alloc (.cells r 40)).drew) w') : Blk w' w.heap.size (.cells r 40) := blk_below hb _ _ (by simp) (heap_alloc_new w _)
theorem shape4' (hb : Below ((w.alloc (.cells z 31)).alloc (.cells r 40)).heap.size ((w.alloc (.cells z 31)).alloc (.cells r 40)) w') : Blk w' w.heap.size (.cells z 31) ∧ Blk w' (w.heap.size + 1) (.cells r 40) :=
  ⟨blk_below hb _ _ (by simp; omega) (blk_old (heap_alloc_new w _)), blk_below hb _ _ (by simp) (blk_second _ _ _)⟩
theorem shape5' (hb : Below ((w.alloc (.cells r 40)).alloc (.cells z 31)).heap.size ((w.alloc (.cells r 40)).alloc (.cells z 31)) w') : Blk w' w.heap.size (.cells r 40) ∧ Blk w' (w.heap.size + 1) (.cells z 31) :=
  ⟨blk_below hb _ _ (by simp; omega) (blk_old (heap_alloc_new w _)), blk_below hb _ _ (by simp) (blk_second _ _ _)⟩
theorem shape2' (hb : Below (w.alloc (.cells z 31)).heap.size (w.alloc (.cells z 31)) w') : Blk w' w.heap.size (.cells z 31) := blk_below hb _ _ (by simp) (heap_alloc_new w _)
theorem shape3' (hb : Below (w.alloc (.cells r 40)).heap.size (w.alloc (.cells r 40)) w') : Blk w' w.heap.size (.cells r 40) := blk_below hb _ _ (by simp) (heap_alloc_new w _)
theorem up1 (hb : Below w6.heap.size w6 w') : ∀ k o, Blk w6 k o → Blk w' k o := fun k o h => blk_below hb k o (lt_of_heap h) h
theorem up2 (hb : Below (w6.alloc o1).heap.size (w6.alloc o1) w') : ∀ k o, Blk w6 k o → Blk w' k o := fun k o h => blk_below hb k o (lt_of_heap (blk_old h)) (blk_old h)
theorem up3 (hb : Below ((w6.alloc o1).alloc o2).heap.size ((w6.alloc o1).alloc o2) w') : ∀ k o, Blk w6 k o → Blk w' k o := fun k o h => blk_below hb k o (lt_of_heap (blk_old (blk_old h))) (blk_old (blk_old h))
end
theorem sz18 (T N R K : Nat) (L : Letters T N R K) {cs : Array Value} (h : cs.size = 18) : cs.size = N := h.trans L.sz.symm

end Go.Proofs.Ytncgechmloekbaa
