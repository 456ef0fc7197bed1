/- Fuses: slices.Chunk: the iterator's contract. -/
import Derived.Test.YtnahokblbpppeaaFzR
import Derived.RangeFuncNested
import Derived.RangeFuncBound
import Derived.RangeFuncCalls
import Derived.RangeFuncLeaves
import Derived.Shelf.Abstract
import Derived.Shelf.RegionOpen
import Derived.OwnWalkIn
import Derived.TacticsInMore
import Derived.LoopNIn
import Derived.LoopIn
namespace Go.Proofs.Ytnahokblbpppeaa
open Go.RowKit Go.Shelf

attribute [local go_sem] Oper.semAt_some

theorem chunk_any (A : Option Addr) (n c : Nat) (w : World) :
    Calls Try.prog 40 #[.slice A n c, .int .i64 3] w fun e w' =>
      e = .returned (.func (.func 44) #[] #[.pointer (some ⟨w.heap.size, 0, none⟩), .pointer (some ⟨w.heap.size + 1, 0, none⟩)]) ∧ (w.alloc (.cells #[.slice A n c] 26)).alloc (.cells #[.int .i64 3] 3) = w' := by
  go_enter Try.func40, Try.ntmps40
  go_wp2
  go_ret
  exact ⟨rfl, rfl⟩

theorem belowDrew {B : Nat} {w w' : World} (h : Below B w.drew w') : Below B w w' := ⟨h.os, h.tape, h.output, h.size, h.block⟩

/-- The chunks of three of a slice, by their numbers. -/
def chunkV (b o : Nat) (i : Nat) : Array Value := #[.slice (some ⟨b, o + i * 3, none⟩) 3 3]

set_option maxRecDepth 100000 in
set_option maxHeartbeats 2000000 in
theorem chunk1_in (n : Nat) (hn : 1 ≤ n) (l Bs n₀ b o len cap : Nat) (hlen : len ≤ 1000) (h3 : len % 3 = 0) (hcap : len ≤ cap) (_hcap2 : cap ≤ maxLen) (hb : Bs + 1 < n₀) (J Jx : List (Fin (len / 3)) → World → Prop)
    (hY : ∀ pre x W, J pre W → pre.length < len / 3 → YieldAt Fence.wide (n - 1) Try.prog l (chunkV b o x.1) W fun e W' =>
      (e = .returned (.bool true) ∧ J (pre ++ [x]) W' ∧ Below n₀ W W') ∨ (e = .returned (.bool false) ∧ Jx (pre ++ [x]) W'))
    (hd : ∀ pre W, J pre W → J pre W.drew)
    (W : World) (hBs : W.cell? ⟨Bs, 0, none⟩ = some (.slice (some ⟨b, o, none⟩) len cap)) (hBn : W.cell? ⟨Bs + 1, 0, none⟩ = some (.int .i64 3)) (h0 : J [] W) :
    CallsIn Fence.wide n Try.prog 44 #[.func (.yield l) #[] #[], .pointer (some ⟨Bs, 0, none⟩), .pointer (some ⟨Bs + 1, 0, none⟩)] W fun e W' => (∃ v, e = .returned v) ∧
      ((∃ ys : List (Fin (len / 3)), ys.map (·.1) = List.range (len / 3) ∧ J ys W') ∨ (∃ pre, True ∧ Jx pre W')) := by
  refine callsIn_of_wp Try.func44 rfl trivial ?_ rfl
  simp only [Try.ntmps44, List.size_toArray, List.length_cons, List.length_nil, Nat.reduceAdd, Nat.reduceSub, Array.replicate_succ, Array.replicate_zero, List.push_toArray, List.append_toArray, List.nil_append, List.cons_append]
  gi_wp2
  gi_loopw [4] (fun i wr => ∃ k : Nat, k ≤ len / 3 ∧ i = .int .i64 ((k : Int) * 3) ∧ Hid (∃ pre : List (Fin (len / 3)), pre.map (·.1) = List.range k ∧ J pre wr) ∧ Below n₀ W wr)
    (fun i _ => len - (intOf i).toNat)
  case atStart => exact ⟨0, Nat.zero_le _, rfl, ⟨[], rfl, h0⟩, Below.refl _ _⟩
  case round =>
    obtain ⟨k, hk, rfl, HJ, hnx⟩ := hrel
    have c1 := (hnx.cell (p := ⟨Bs, 0, none⟩) (by simp; omega)).trans hBs
    have c2 := (hnx.cell (p := ⟨Bs + 1, 0, none⟩) (by simp; omega)).trans hBn
    have hk0 : 0 ≤ (k : Int) * 3 := by omega
    have hk1 : (k : Int) * 3 ≤ 1000 := by omega
    by_cases hlt : k < len / 3
    · have hkl : (k : Int) * 3 < len := by omega
      obtain ⟨pre, hpre, hJp⟩ := HJ.out
      have hpl : pre.length = k := by have := congrArg List.length hpre; simpa using this
      have HP := Lib.hid hpre
      obtain ⟨fn, tmps, assign, body, hy, hR⟩ := hY pre ⟨k, hlt⟩ wr.drew (hd _ _ hJp) (by omega)
      clear hpre hpl hJp
      dsimp only [chunkV] at hy
      have e1 : k * 3 + 3 - k * 3 = 3 := by omega
      gi_wp2
      gi_region
      gi_wp2
      refine hR.mono ?_
      rintro e W3 (⟨rfl, hJ3, hk3⟩ | ⟨rfl, hJx3⟩)
      · have c3 := (hk3.cell (p := ⟨Bs + 1, 0, none⟩) (by simp; omega)).trans c2
        have HJ3 := Lib.hid hJ3
        clear hJ3 hy hR
        gi_wp2
        go_roundw
        case rel => exact ⟨k + 1, by omega, by go_num, ⟨_, by rw [List.map_append, HP.out, List.range_succ]; rfl, HJ3.out⟩, hnx.trans (belowDrew hk3)⟩
        case measure => simp [intOf]; omega
      · gi_wp2
        refine bodyPost_ret (results_none rfl _ _ _) rfl ?_
        exact ⟨⟨_, rfl⟩, .inr ⟨_, trivial, hJx3⟩⟩
    · obtain rfl : k = len / 3 := by omega
      have hkl : ¬ ((len / 3 : Nat) : Int) * 3 < len := by omega
      gi_wp2
      go_end0
      exact ⟨⟨_, rfl⟩, .inl HJ.out⟩

/-- .. of an empty slice: no round. -/
theorem chunk1_nil_in (n : Nat) (l Bs cap : Nat) {α : Type} (A : Option Addr) (J : List α → World → Prop) (W : World) (hBs : W.cell? ⟨Bs, 0, none⟩ = some (.slice A 0 cap)) (h0 : J [] W) :
    CallsIn Fence.wide n Try.prog 44 #[.func (.yield l) #[] #[], .pointer (some ⟨Bs, 0, none⟩), .pointer (some ⟨Bs + 1, 0, none⟩)] W fun e W' => (∃ v, e = .returned v) ∧ J [] W' := by
  refine callsIn_of_wp Try.func44 rfl trivial ?_ rfl
  simp only [Try.ntmps44, List.size_toArray, List.length_cons, List.length_nil, Nat.reduceAdd, Nat.reduceSub, Array.replicate_succ, Array.replicate_zero, List.push_toArray, List.append_toArray, List.nil_append, List.cons_append]
  gi_wp2
  gi_loopw [4] (fun i wr => i = .int .i64 0 ∧ Hid (J [] wr) ∧ wr = W) (fun _ _ => 0)
  case atStart => exact ⟨rfl, h0, rfl⟩
  case round =>
    obtain ⟨rfl, hJs, rfl⟩ := hrel
    gi_wp2
    go_end0
    exact ⟨⟨_, rfl⟩, hJs.out⟩

theorem abides_drew {α : Type} {B : Nat} {J : List α → World → Prop} (h : AbidesFrom B J) : ∀ pre W, J pre W → J pre W.drew :=
  fun pre W hj => h pre W W.drew none hj ⟨rfl, rfl, rfl, Nat.le_refl _, fun _ _ _ => rfl⟩ (fun r e => by cases e)

/-- The iterator that Chunk hands back. -/
theorem chunk_stops (n : Nat) (hn : 1 ≤ n) (Bs b o len cap : Nat) (A : Option Addr) (hlen : len ≤ 1000) (h3 : len % 3 = 0) (hcap : len ≤ cap) (hcap2 : cap ≤ maxLen) (hA : 0 < len → A = some ⟨b, o, none⟩) (w : World) (hb : Bs + 1 < w.heap.size)
    (hBs : w.cell? ⟨Bs, 0, none⟩ = some (.slice A len cap)) (hBn : w.cell? ⟨Bs + 1, 0, none⟩ = some (.int .i64 3)) :
    SeqStopsK Fence.wide n Try.prog 44 #[.pointer (some ⟨Bs, 0, none⟩), .pointer (some ⟨Bs + 1, 0, none⟩)] (fun x : Fin (len / 3) => chunkV b o x.1) (Below w.heap.size) (fun ys => ys.map (·.1) = List.range (len / 3)) (fun _ => True) (len / 3) w := by
  intro l J Jx W hW hJ _ hY h0
  have c1 := (hW.cell (p := ⟨Bs, 0, none⟩) (by simp; omega)).trans hBs
  have c2 := (hW.cell (p := ⟨Bs + 1, 0, none⟩) hb).trans hBn
  rcases Nat.eq_zero_or_pos len with h | h
  · subst h
    exact (chunk1_nil_in n l Bs cap A J W c1 h0).mono fun e W' ⟨he, hj⟩ => ⟨he, .inl ⟨_, by simp, hj⟩⟩
  · obtain rfl := hA h
    exact chunk1_in n hn l Bs w.heap.size b o len cap hlen h3 hcap hcap2 hb J Jx hY (abides_drew hJ) W c1 c2 h0

end Go.Proofs.Ytnahokblbpppeaa
