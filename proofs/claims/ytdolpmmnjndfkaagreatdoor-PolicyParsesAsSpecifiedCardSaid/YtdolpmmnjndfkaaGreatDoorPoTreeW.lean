/- Chapter 29, the walk: tree of the parser: the deferred closure that recovers. -/
import Derived.Test.YtdolpmmnjndfkaaGreatDoorPoRecB
import Derived.Defers
import Derived.Recover
namespace Go.Proofs.YtdolpmmnjndfkaaGreatDoor
open Go.RowKit
/-- the two named results: empty and false -/
def Cleared (a : Nat) (w w' : World) : Prop := w'.heap[a]? = some (.cells #[.slice none 0 0] 23 (0, 0)) ∧ w'.heap[a + 1]? = some (.cells #[.bool false] 4 (0, 0)) ∧ Below a w w'
theorem set_one {w : World} {p : Nat} {a v : Value} {t : TypeId} (h : w.heap[p]? = some (.cells #[a] t (0, 0))) : (w.setCell ⟨p, 0, none⟩ v).heap[p]? = some (.cells #[v] t (0, 0)) := by
  simp only [World.setCell, Array.getElem?_modify, h]
  simp
theorem cleared_of {a : Nat} {va vb : Value} {w : World} {ob : Obj} (hc : w.heap[a]? = some (.cells #[va] 23 (0, 0))) (hd : w.heap[a + 1]? = some (.cells #[vb] 4 (0, 0))) :
    Cleared a w (((w.setCell ⟨a, 0, none⟩ (.slice none 0 0)).setCell ⟨a + 1, 0, none⟩ (.bool false)).alloc ob) := by
  have la := lt_of_block hc
  have lb := lt_of_block hd
  have hs : ∀ (x : World) (b : Nat) (v : Value), (x.setCell ⟨b, 0, none⟩ v).heap.size = x.heap.size := fun x b v => by simp [World.setCell]
  refine ⟨?_, ?_, ?_⟩
  · rw [Below.heap_alloc _ _ _ (by rw [hs, hs]; exact la), set_other _ _ _ _ _ (by omega)]
    exact set_one hc
  · rw [Below.heap_alloc _ _ _ (by rw [hs, hs]; exact lb)]
    refine set_one (a := vb) ?_
    rw [set_other _ _ _ _ _ (by omega)]
    exact hd
  · exact (((Below.refl _ _).setCell (p := ⟨a, 0, none⟩) (Nat.le_refl _) _).setCell (p := ⟨a + 1, 0, none⟩) (Nat.le_succ _) _).alloc (by rw [hs, hs]; exact Nat.le_of_lt la) _
set_option maxRecDepth 1000000 in
theorem catch_panicking (a : Nat) (va vb : Value) (older : List PanicEntry) (w : World) (hc : w.heap[a]? = some (.cells #[va] 23 (0, 0))) (hd : w.heap[a + 1]? = some (.cells #[vb] 4 (0, 0))) :
    CallsD Tryz.prog 52 #[.pointer (some ⟨a, 0, none⟩), .pointer (some ⟨a + 1, 0, none⟩)] (.panicking ({ v := failV, recovered := false } :: older)) w fun e u' w' =>
      e = .returned (.tuple #[]) ∧ u' = .panicking ({ v := failV, recovered := true } :: older) ∧ Cleared a w w' := by
  unfold failV
  obtain ⟨S, hS⟩ : ∃ S, Cleared a w = S := ⟨_, rfl⟩
  rw [hS]
  refine callsD_of_wpS Tryz.func52 rfl fun c₀ cs hu => ?_
  apply wpS_seq
  apply wpS_region
  simp [wpOpsS, go_sem, recoverD, hu, Tryz.ntmps52, Exit.thenS]
  refine wpS_of_wp ?_
  have ca : w.cell? ⟨a, 0, none⟩ = some va ∧ ∀ o, w.frozen? ⟨a, o, none⟩ = false := by constructor <;> simp [World.cell?, World.frozen?, hc]
  have cb : w.cell? ⟨a + 1, 0, none⟩ = some vb ∧ ∀ o, w.frozen? ⟨a + 1, o, none⟩ = false := by constructor <;> simp [World.cell?, World.frozen?, hd]
  obtain ⟨ca, za⟩ := ca
  obtain ⟨cb, zb⟩ := cb
  have la := lt_of_block hc
  have lb := lt_of_block hd
  have hta : ∀ w, (Instr.typeAssert (.iface 91 (.agg #[])) 20 91 true).run Tryz.prog w = .ok (.tuple #[.agg #[], .bool true]) w := fun _ => by kernel_rfl
  have HC := Lib.hid (And.intro hc hd)
  clear hc hd
  change Code.wp _ _ _ { tmps := #[.pointer (some ⟨a, 0, none⟩), .pointer (some ⟨a + 1, 0, none⟩), undef, undef, undef, .iface 91 (.agg #[]), undef, undef, undef, undef, undef], defers := [] } _
  go_wp2_with fail
  cases c₀
  have hend := cleared_of (ob := .cells #[] 91) HC.out.1 HC.out.2
  rw [hS] at hend
  simp [bodyPostS, results, Tryz.results52]
  exact hend
theorem catch_idle (a b : Nat) (w : World) :
    CallsD Tryz.prog 52 #[.pointer (some ⟨a, 0, none⟩), .pointer (some ⟨b, 0, none⟩)] .returning w fun e u' w' => e = .returned (.tuple #[]) ∧ u' = .returning ∧ w' = w := by
  refine callsD_of_wpS Tryz.func52 rfl fun c₀ cs hu => ?_
  apply wpS_seq
  apply wpS_region
  simp [wpOpsS, go_sem, recoverD, hu, Tryz.ntmps52, Exit.thenS]
  refine wpS_of_wp ?_
  change Code.wp _ _ _ { tmps := #[.pointer (some ⟨a, 0, none⟩), .pointer (some ⟨b, 0, none⟩), undef, undef, undef, .nilIface, undef, undef, undef, undef, undef], defers := [] } _
  go_wp2_with fail
  cases c₀
  simp_all [bodyPostS, results, Tryz.results52]
end Go.Proofs.YtdolpmmnjndfkaaGreatDoor
