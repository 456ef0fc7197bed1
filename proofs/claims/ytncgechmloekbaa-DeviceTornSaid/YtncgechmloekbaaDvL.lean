/- Device: words for the walk of the reference's Do: its seven variables, its return. -/
import Derived.Test.YtncgechmloekbaaDvK1
namespace Go.Proofs.Ytncgechmloekbaa
open Go.RowKit

/-- the seven variables of the reference's Do, from block n on -/
structure Seven (n : Nat) (W : World) (cs acc flt out res : Array Value) : Prop where
  c3 : W.heap[n]? = some (.cells cs 31 (0, 0))
  c4 : W.heap[n + 1]? = some (.cells acc 33 (0, 0))
  c5 : W.heap[n + 1 + 1]? = some (.cells flt 35 (0, 0))
  c6 : ∃ z, W.heap[n + 1 + 1 + 1]? = some (.cells z 31 (0, 0)) ∧ z.size = 18
  c7 : ∃ x y, W.heap[n + 1 + 1 + 1 + 1]? = some (.cells #[x, y] 40 (0, 0))
  c9 : W.heap[n + 1 + 1 + 1 + 1 + 1]? = some (.cells out 31 (0, 0))
  c10 : W.heap[n + 1 + 1 + 1 + 1 + 1 + 1]? = some (.cells res 40 (0, 0))
theorem lt_of_heap {W : World} {b : Nat} {o : Obj} (h : W.heap[b]? = some o) : b < W.heap.size := (Array.getElem?_eq_some_iff.1 h).1
section
variable {n : Nat} {W W' : World} {cs acc flt out res : Array Value}
theorem Seven.far (h : Seven n W cs acc flt out res) (hb : ∀ x, x < n + 7 → W'.heap[x]? = W.heap[x]?) : Seven n W' cs acc flt out res := by
  obtain ⟨z, h6, hz⟩ := h.c6
  obtain ⟨x, y, h7⟩ := h.c7
  exact ⟨(hb _ (by omega)).trans h.c3, (hb _ (by omega)).trans h.c4, (hb _ (by omega)).trans h.c5, ⟨z, (hb _ (by omega)).trans h6, hz⟩, ⟨x, y, (hb _ (by omega)).trans h7⟩, (hb _ (by omega)).trans h.c9, (hb _ (by omega)).trans h.c10⟩
theorem Seven.lt (h : Seven n W cs acc flt out res) : n + 7 ≤ W.heap.size := lt_of_heap h.c10
theorem Seven.below (h : Seven n W cs acc flt out res) (hb : Below W.heap.size W W') : Seven n W' cs acc flt out res :=
  h.far (fun x hx => hb.block x (by have := h.lt; omega))
theorem Seven.putOut (h : Seven n W cs acc flt out res) (i : Nat) (v : Value) : Seven n (W.setCell ⟨n + 1 + 1 + 1 + 1 + 1, i, none⟩ v) cs acc flt (out.setIfInBounds i v) res := by
  have hb : ∀ x, x ≠ n + 1 + 1 + 1 + 1 + 1 → (W.setCell ⟨n + 1 + 1 + 1 + 1 + 1, i, none⟩ v).heap[x]? = W.heap[x]? := fun x hx => heap_setCell_other _ ⟨n + 1 + 1 + 1 + 1 + 1, i, none⟩ x v hx
  obtain ⟨z, h6, hz⟩ := h.c6
  obtain ⟨x, y, h7⟩ := h.c7
  exact ⟨(hb _ (by omega)).trans h.c3, (hb _ (by omega)).trans h.c4, (hb _ (by omega)).trans h.c5, ⟨z, (hb _ (by omega)).trans h6, hz⟩, ⟨x, y, (hb _ (by omega)).trans h7⟩, heap_setCell_same _ _ i _ _ v h.c9, (hb _ (by omega)).trans h.c10⟩
theorem Seven.putRes (h : Seven n W cs acc flt out res) (i : Nat) (v : Value) : Seven n (W.setCell ⟨n + 1 + 1 + 1 + 1 + 1 + 1, i, none⟩ v) cs acc flt out (res.setIfInBounds i v) := by
  have hb : ∀ x, x ≠ n + 1 + 1 + 1 + 1 + 1 + 1 → (W.setCell ⟨n + 1 + 1 + 1 + 1 + 1 + 1, i, none⟩ v).heap[x]? = W.heap[x]? := fun x hx => heap_setCell_other _ ⟨n + 1 + 1 + 1 + 1 + 1 + 1, i, none⟩ x v hx
  obtain ⟨z, h6, hz⟩ := h.c6
  obtain ⟨x, y, h7⟩ := h.c7
  exact ⟨(hb _ (by omega)).trans h.c3, (hb _ (by omega)).trans h.c4, (hb _ (by omega)).trans h.c5, ⟨z, (hb _ (by omega)).trans h6, hz⟩, ⟨x, y, (hb _ (by omega)).trans h7⟩, (hb _ (by omega)).trans h.c9, heap_setCell_same _ _ i _ _ v h.c10⟩
/-- what holds while the results are written -/
def RetS (n : Nat) (cs out res : Array Value) (W : World) : Prop :=
  W.heap[n]? = some (.cells cs 31 (0, 0)) ∧ W.heap[n + 1 + 1 + 1 + 1 + 1]? = some (.cells out 31 (0, 0)) ∧ W.heap[n + 1 + 1 + 1 + 1 + 1 + 1]? = some (.cells res 40 (0, 0))
theorem ret_all {w : World} {src : Array Value} {V B : Value} (hw : w.heap.size = n) (h : Seven n W cs acc flt out #[V, B]) (HB : Below w.heap.size w W) (hs : src.size = 18) :
    ∃ z x y WE, z.size = 18 ∧ W.drew.heap[n + 1 + 1 + 1]? = some (.cells z 31 (0, 0)) ∧ (putRow W.drew (n + 1 + 1 + 1) src).heap[n + 1 + 1 + 1 + 1]? = some (.cells #[x, y] 40 (0, 0)) ∧
      RetS n cs out #[V, B] W.drew ∧ RetS n cs out #[V, B] (putRow W.drew (n + 1 + 1 + 1) src) ∧ RetS n cs out #[V, B] (putRow (putRow W.drew (n + 1 + 1 + 1) src) (n + 1 + 1 + 1 + 1) #[V, B]) ∧
      WE = putRow (putRow W.drew (n + 1 + 1 + 1) src) (n + 1 + 1 + 1 + 1) #[V, B] ∧ WE.heap[n + 1 + 1 + 1]? = some (.cells src 31 (0, 0)) ∧ WE.heap[n + 1 + 1 + 1 + 1]? = some (.cells #[V, B] 40 (0, 0)) ∧
      (∀ x, x < n ∨ n + 7 ≤ x → WE.heap[x]? = W.heap[x]?) ∧ Below w.heap.size w WE := by
  obtain ⟨z, h6, hz⟩ := h.c6
  obtain ⟨x, y, h7⟩ := h.c7
  have q7 : (putRow W.drew (n + 1 + 1 + 1) src).heap[n + 1 + 1 + 1 + 1]? = some (.cells #[x, y] 40 (0, 0)) := (put_other (by omega)).trans h7
  refine ⟨z, x, y, _, hz, h6, q7, ⟨h.c3, h.c9, h.c10⟩, ⟨(put_other (by omega)).trans h.c3, (put_other (by omega)).trans h.c9, (put_other (by omega)).trans h.c10⟩, ⟨(put_other (by omega)).trans ((put_other (by omega)).trans h.c3), (put_other (by omega)).trans ((put_other (by omega)).trans h.c9), (put_other (by omega)).trans ((put_other (by omega)).trans h.c10)⟩, rfl, ?_, ?_, ?_, ?_⟩
  · exact (put_other (by omega)).trans (put_same h6 (by omega))
  · exact put_same q7 rfl
  · exact fun k hk => (put_other (by omega)).trans (put_other (by omega))
  · exact put_below (put_below HB.drew (by omega)) (by omega)
end
theorem yields_move {P : Program} {ops : Array Oper} {S : World → Prop} {op : Oper} {a : Act} {v : Value} (hw : Region.wanted op (yielded ops a.tmps) = true) (x : Operand) (ho : op.op = .move x) (hx : a.eval x = v) : YieldsIf P ops S op v a :=
  .inl ⟨hw, fun w _ => by unfold execOp; simp only [ho, hx]; rfl⟩
theorem assign_tmp {P : Program} {ops : Array Oper} {Q : Exit → Act → World → Prop} {md : Region.Mode} {S : World → Prop} (i : Nat) {o : Oper} {fuel : Nat} {listed : Array Bool} {a : Act} {w : World} (d : Nat) (v : Value) (x : Operand) (hi : ops[i]? = some o)
    (hr : Region.ready md ops listed = [i]) (hd : o.dst = some d) (ho : o.op = .assign x) (hv : a.eval x = v) (hw : Region.wanted o (yielded ops a.tmps) = true)
    (hS : S w) (hk : wpAnyH P md ops Q S fuel (listed.setIfInBounds i true) ⟨a.tmps.setIfInBounds d v, a.defers⟩ w) : wpAnyH P md ops Q S (fuel + 1) listed a w := by
  refine wpAnyH_ready (rs := [i]) hr (by simp) (AllReadyH.cons hi (fun K hK => ?_) AllReadyH.nil)
  rw [if_pos hw]
  unfold Oper.wp execOp
  simp only [ho, Sem.run_pure, Oper.upon, hv]
  rw [hd]
  exact hK.out _ _ hS (fun _ => hk)
section
variable {cs : Array Value} {f : List (List Nat)} {m : List ByteArray} {k b c : Int} {s : ByteArray} {noise : Bool}
theorem vals_f (hd : doneB f m k b c s = true) : Ending.returned (.tuple #[.agg cs, .agg #[.int .i64 (runV k f b c noise), .string (runB k m c)], .int .i64 0]) = .returned (.tuple #[.agg cs, .agg #[.int .i64 (doV f m k b c s false noise), .string (doB f m k b c s false)], .int .i64 0]) := by simp [doV, doB, hd]
theorem vals_t : Ending.returned (.tuple #[.agg cs, .agg #[.int .i64 0, .string ⟨#[]⟩], .int .i64 0]) = .returned (.tuple #[.agg cs, .agg #[.int .i64 (doV f m k b c s true noise), .string (doB f m k b c s true)], .int .i64 0]) := by simp [doV, doB]
end
theorem store_cell {w : World} {a : Addr} {u v : Value} (hc : w.cell? a = some u) (hf : w.frozen? a = false) (h1 : v.oneCell' = true) : Sem.run Try.prog (store a v) w = .ok () (w.setCell a v) := by
  have := run_store Try.prog w a v Mode.plain h1
  simpa [hc, hf] using this
theorem size_putRow (w : World) (b : Nat) (cs : Array Value) : (putRow w b cs).heap.size = w.heap.size := by
  have : ∀ (vs : List Value) (o : Nat) (w : World), (w.setCells b o vs).heap.size = w.heap.size := by
    intro vs
    induction vs with
    | nil => intro o w; rfl
    | cons v vs ih => intro o w; rw [World.setCells, ih]; simp
  exact this _ _ _
theorem seven_in (w : World) (cs acc flt z out : Array Value) (x y u v : Value) (hz : z.size = 18) (ho : out.size = 18) :
    ∀ W0, W0 = ((((w.alloc (.cells cs 31)).alloc (.cells acc 33)).alloc (.cells flt 35)).alloc (.cells z 31)).alloc (.cells #[x, y] 40) →
    W0.heap[w.heap.size]? = some (.cells cs 31 (0, 0)) ∧ (W0.alloc (.cells z 31)).heap[w.heap.size + 1 + 1 + 1 + 1 + 1]? = some (.cells z 31 (0, 0)) ∧
    ∀ W, W = (putRow (W0.alloc (.cells z 31)) (w.heap.size + 1 + 1 + 1 + 1 + 1) out).alloc (.cells #[u, v] 40) → Seven w.heap.size W cs acc flt out #[u, v] ∧ Below w.heap.size w W := by
  intro W0 hW0
  obtain ⟨q3, q4, q5, q6, q7, qz, qb⟩ := five w _ _ _ _ _ W0 hW0
  have h9 : (W0.alloc (.cells z 31)).heap[w.heap.size + 1 + 1 + 1 + 1 + 1]? = some (.cells z 31 (0, 0)) := by rw [← qz]; exact heap_alloc_new _ _
  refine ⟨q3, h9, fun W hW => ?_⟩
  have hz1 : (putRow (W0.alloc (.cells z 31)) (w.heap.size + 1 + 1 + 1 + 1 + 1) out).heap.size = w.heap.size + 1 + 1 + 1 + 1 + 1 + 1 := by
    rw [size_putRow, World.size_alloc, qz]
  have keep : ∀ x, x < W0.heap.size → W.heap[x]? = W0.heap[x]? := fun x hx => by
    rw [hW]; exact (Below.heap_alloc _ _ _ (by rw [hz1]; omega)).trans ((put_other (by omega)).trans (Below.heap_alloc _ _ _ hx))
  refine ⟨⟨(keep _ (by omega)).trans q3, (keep _ (by omega)).trans q4, (keep _ (by omega)).trans q5, ⟨z, (keep _ (by omega)).trans q6, hz⟩, ⟨x, y, (keep _ (by omega)).trans q7⟩, ?_, ?_⟩, ?_⟩
  · rw [hW]; exact (Below.heap_alloc _ _ _ (by rw [hz1]; omega)).trans (put_same h9 (by omega))
  · rw [hW, ← hz1]; exact heap_alloc_new _ _
  · rw [hW]; exact (put_below (qb.alloc qb.size _) (by omega)).alloc (by rw [hz1]; omega) _

end Go.Proofs.Ytncgechmloekbaa
