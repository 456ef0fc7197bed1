/- Chapter 38: slices.Chunk over a row of one chunk: what it hands over. -/
import Derived.Test.YtdeccekeknlnoaaGreatDoorJShD
import Derived.RangeFuncNested
import Derived.RangeFuncBound
import Derived.RangeFuncCalls
import Derived.RangeFuncLeaves
import Derived.Shelf.Abstract
import Derived.Shelf.RegionOpen
import Derived.OwnWalkIn
import Derived.TacticsInMore
import Derived.LoopNIn
import Derived.LoopIn
import Derived.Sort.QuietIn
namespace Go.Proofs.YtdeccekeknlnoaaGreatDoor
open Go.RowKit Go.Shelf
attribute [local go_sem] Oper.semAt_some
/-- two blocks lie as they lay -/
def Kc (a b : Nat) (W W' : World) : Prop := W'.heap[a]? = W.heap[a]? ∧ W'.heap[b]? = W.heap[b]?
theorem Kc.trans {a b : Nat} {A B C : World} (h : Kc a b A B) (k : Kc a b B C) : Kc a b A C := ⟨k.1.trans h.1, k.2.trans h.2⟩
theorem kc_b {a b : Nat} {w : World} (ha : a < w.heap.size) (hb : b < w.heap.size) (W : World) (l : Nat) (o o' : Obj) (hl : w.heap.size ≤ l) (_ : W.heap[l]? = some o) (_ : o.isCells = false) (_ : o.isWalk = false) : Kc a b W (W.putObj l o') :=
  ⟨World.putObj_heap_other (by omega), World.putObj_heap_other (by omega)⟩
theorem one_cell' {W : World} {B : Nat} {a : Value} {t : TypeId} (h : W.heap[B]? = some (.cells #[a] t (0, 0))) : W.cell? ⟨B, 0, none⟩ = some a ∧ ∀ o, W.frozen? ⟨B, o, none⟩ = false := by
  refine ⟨?_, fun o => ?_⟩ <;> simp [World.cell?, World.frozen?, h]
set_option maxHeartbeats 1000000 in
theorem chunk_any (g cap : Nat) (w : World) :
    Calls Tryz.prog 94 #[.slice (some ⟨g, 0, none⟩) 64 cap, .int .i64 64] w fun e w' =>
      e = .returned (.func (.func 139) #[] #[.pointer (some ⟨w.heap.size, 0, none⟩), .pointer (some ⟨w.heap.size + 1, 0, none⟩)]) ∧
      w' = (w.alloc (.cells #[.slice (some ⟨g, 0, none⟩) 64 cap] 52)).alloc (.cells #[.int .i64 64] 3) := by
  go_enter Tryz.func94, Tryz.ntmps94
  have hmf : ∀ (fn : Fn) (first cap : Array Value) (w : World), (Instr.makeFunc fn first cap).run Tryz.prog w = .ok (.func fn first cap) w := fun _ _ _ _ => rfl
  go_wp2
  go_ret
  exact ⟨rfl, rfl⟩
set_option maxRecDepth 100000 in
set_option maxHeartbeats 2000000 in
theorem chunk_stops (n : Nat) (hn : 1 ≤ n) (Bs Bn g cap : Nat) (w : World) (hcap : 64 ≤ cap)
    (hBs : w.heap[Bs]? = some (.cells #[.slice (some ⟨g, 0, none⟩) 64 cap] 52 (0, 0))) (hBn : w.heap[Bn]? = some (.cells #[.int .i64 64] 3 (0, 0))) (hs1 : Bs < w.heap.size) (hs2 : Bn < w.heap.size) :
    SeqStopsK Fence.wide n Tryz.prog 139 #[.pointer (some ⟨Bs, 0, none⟩), .pointer (some ⟨Bn, 0, none⟩)] (fun _ : Unit => #[.slice (some ⟨g, 0, none⟩) 64 64]) (Kc Bs Bn) (fun ys => ys = [()]) (fun pre => pre = [()]) 1 w := fun l J Jx W hW hJ _ hY h0 => by
  have q1 := (one_cell' ((hW.block Bs hs1).trans hBs)).1
  have q2 := (one_cell' ((hW.block Bn hs2).trans hBn)).1
  refine callsIn_of_wp Tryz.func139 rfl trivial ?_ rfl
  simp only [Tryz.ntmps139, List.append_toArray, List.cons_append, List.nil_append, List.size_toArray, List.length_cons, List.length_nil, Nat.reduceAdd, Nat.reduceSub, Array.replicate_succ, Array.replicate_zero, List.push_toArray, List.append_toArray, List.nil_append, List.cons_append]
  gi_wp2
  refine wpIn_loop_rounds 2 ?_
  rw [roundsIn_succ]
  gi_wp2
  gi_quiet (fail)
  have hJd : J [] (W.drewN nq) := hJ [] W _ none h0 ⟨rfl, rfl, rfl, Nat.le_refl _, fun _ _ _ => rfl⟩ (fun r e => by cases e)
  obtain ⟨fn, tmps, assign, body, hy, hR⟩ := hY [] () _ hJd (by simp)
  gi_wp2
  refine hR.mono ?_
  rintro e W3 (⟨rfl, hJ3, hk3⟩ | ⟨rfl, hJx3⟩)
  · have r1 := (one_cell' (hk3.1.trans ((hW.block Bs hs1).trans hBs))).1
    have r2 := (one_cell' (hk3.2.trans ((hW.block Bn hs2).trans hBn))).1
    gi_wp2
    rw [roundsIn_succ]
    gi_wp2
    go_end0
    exact ⟨⟨_, rfl⟩, .inl ⟨_, rfl, hJ3⟩⟩
  · gi_wp2
    refine bodyPost_ret (results_none rfl _ _ _) rfl ?_
    exact ⟨⟨_, rfl⟩, .inr ⟨_, rfl, hJx3⟩⟩
end Go.Proofs.YtdeccekeknlnoaaGreatDoor
