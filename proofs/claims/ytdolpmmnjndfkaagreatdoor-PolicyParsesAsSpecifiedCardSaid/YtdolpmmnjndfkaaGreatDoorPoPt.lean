/- Chapter 29, the walk: the order of points, slices.Compact, Points of a policy, Pairs of the reference. -/
import Derived.Test.YtdolpmmnjndfkaaGreatDoorPoShelfB
import Derived.Test.YtdolpmmnjndfkaaGreatDoorPoMem
import Derived.Deep.RegionHeld3
import Derived.Deep.Cut
import Derived.Deep.LoopGhost
import Derived.Outline
import Derived.Test.YtdolpmmnjndfkaaGreatDoorPoLxA
import Derived.Test.YtdolpmmnjndfkaaGreatDoorPoTok
import Derived.Test.YtdolpmmnjndfkaaGreatDoorPoEv
import Derived.Test.YtdolpmmnjndfkaaGreatDoorPoDig
import Derived.Lib.SlicesCompact
import Derived.Lib.SliceRun
import Derived.Deep.QuietTactic
import Derived.BigQuiet
import Derived.Test.YtdolpmmnjndfkaaGreatDoorPoPl
import Derived.Test.YtdolpmmnjndfkaaGreatDoorPoTxB
import Derived.Shelf.SlSortCmp.NoneTotal
namespace Go.Proofs.YtdolpmmnjndfkaaGreatDoor
open Go.RowKit Go.Sort
def orI (x y : Int) : Int := if x = 0 then y else x
set_option maxRecDepth 1000000 in
theorem or_two (b : Nat) (x y : Int) (w : World) (h0 : w.cell? ⟨b, 0, none⟩ = some (.int .i64 x)) (h1 : w.cell? ⟨b, 1, none⟩ = some (.int .i64 y)) :
    Calls Tryz.prog 38 #[.slice (some ⟨b, 0, none⟩) 2 2] w fun e w' => e = .returned (.int .i64 (orI x y)) ∧ w' = w := by
  have H := Lib.hid (And.intro h0 h1)
  clear h0 h1
  have HO := Lib.hid (show orI x y = if x = 0 then y else x from rfl)
  go_enter Tryz.func38, Tryz.ntmps38
  go_wp2_with fail
  go_loopg [5, 8] 3 (fun g _ s8 wr => ∃ i : Nat, i + g = 3 ∧ i ≤ 2 ∧ s8 = .int .i64 i ∧ wr = w ∧ Aside ((0 < i → x = 0) ∧ (1 < i → y = 0)))
  case atStart => exact ⟨0, by omega, by omega, rfl, rfl, ⟨fun h => absurd h (by decide), fun h => absurd h (by decide)⟩⟩
  case round =>
    obtain ⟨i, hig, hi, rfl, rfl, HA⟩ := hrel
    have hc : i = 0 ∨ i = 1 ∨ i = 2 := by omega
    rcases hc with rfl | rfl | rfl
    · obtain ⟨h0, -⟩ := H.out
      by_cases hx : x = 0
      · subst hx
        obtain rfl : gk = 2 + 1 := by omega
        go_wp2_with fail
        go_roundg 2
        case measure => omega
        case rel => exact ⟨1, by omega, by omega, rfl, rfl, ⟨by simp, by simp⟩⟩
      · go_wp2_with fail
        go_ret
        exact ⟨ret_int (by rw [HO.out, if_neg hx]), rfl⟩
    · obtain ⟨-, h1⟩ := H.out
      have hx := HA.out.1 (by omega)
      have HX := Lib.hid hx
      clear hx
      by_cases hy : y = 0
      · subst hy
        obtain rfl : gk = 1 + 1 := by omega
        go_wp2_with fail
        go_roundg 1
        case measure => omega
        case rel => exact ⟨2, by omega, by omega, rfl, rfl, ⟨fun _ => HX.out, by simp⟩⟩
      · go_wp2_with fail
        go_ret
        exact ⟨ret_int (by rw [HO.out, if_pos HX.out]), rfl⟩
    · have hx := HA.out
      have HX := Lib.hid hx
      clear hx
      go_wp2_with fail
      go_ret
      exact ⟨ret_int (by rw [HO.out, if_pos (HX.out.1 (by omega)), HX.out.2 (by omega)]), rfl⟩
end Go.Proofs.YtdolpmmnjndfkaaGreatDoor

namespace Go.Proofs.YtdolpmmnjndfkaaGreatDoor
open Go.RowKit Go.Sort
def cmpPt (p q : Int × Int) : Int := orI (Lib.compareInt p.1 q.1) (Lib.compareInt p.2 q.2)
def encPt (p : Int × Int) : List Value := [.int .i64 p.1, .int .i64 p.2]
def GrownTo (w w' : World) : Prop := ∃ q os', w' = grow (w.drewN q) os'
theorem pt_box {w : World} {a b c d : Value} {t : TypeId} : ∀ W, (w.alloc (.cells #[a, b] t)).alloc (.cells #[c, d] t) = W →
    W.cell? ⟨w.heap.size, 0, none⟩ = some a ∧ W.cell? ⟨w.heap.size, 1, none⟩ = some b ∧ W.cell? ⟨w.heap.size + 1, 0, none⟩ = some c ∧ W.cell? ⟨w.heap.size + 1, 1, none⟩ = some d ∧ w.heap.size + 1 < W.heap.size := by
  rintro W rfl
  have e := heap_alloc_new (w.alloc (.cells #[a, b] t)) (.cells #[c, d] t)
  rw [World.size_alloc] at e
  have e2 := heap_alloc_new w (.cells #[a, b] t)
  refine ⟨?_, ?_, cell_of_row _ _ 0 _ _ _ e, cell_of_row _ _ 1 _ _ _ e, by simp⟩
  · rw [World.cell?_alloc_lt _ _ _ (by simp)]; exact cell_of_row _ _ 0 _ _ _ e2
  · rw [World.cell?_alloc_lt _ _ _ (by simp)]; exact cell_of_row _ _ 1 _ _ _ e2
theorem pt_keep {W : World} {n : Nat} {a b c d : Value} {X : Obj} (e0 : W.cell? ⟨n, 0, none⟩ = some a) (e1 : W.cell? ⟨n, 1, none⟩ = some b) (e2 : W.cell? ⟨n + 1, 0, none⟩ = some c) (e3 : W.cell? ⟨n + 1, 1, none⟩ = some d) (hs : n + 1 < W.heap.size) :
    (W.alloc X).drew.cell? ⟨n, 0, none⟩ = some a ∧ (W.alloc X).drew.cell? ⟨n, 1, none⟩ = some b ∧ (W.alloc X).drew.cell? ⟨n + 1, 0, none⟩ = some c ∧ (W.alloc X).drew.cell? ⟨n + 1, 1, none⟩ = some d := by
  have h : ∀ p o, p < W.heap.size → (W.alloc X).drew.cell? ⟨p, o, none⟩ = W.cell? ⟨p, o, none⟩ := fun p o hp => World.cell?_alloc_lt _ _ _ hp
  exact ⟨(h _ _ (by omega)).trans e0, (h _ _ (by omega)).trans e1, (h _ _ hs).trans e2, (h _ _ hs).trans e3⟩
theorem new_two0 (W : World) (x y : Value) (t : TypeId) : (W.alloc (.cells #[x, y] t)).drew.cell? ⟨W.heap.size, 0, none⟩ = some x := cell_of_row _ _ 0 _ _ _ (heap_alloc_new W _)
theorem new_two1 (W : World) (x y : Value) (t : TypeId) : (W.alloc (.cells #[x, y] t)).drew.cell? ⟨W.heap.size, 1, none⟩ = some y := cell_of_row _ _ 1 _ _ _ (heap_alloc_new W _)
theorem three_grow (w : World) (a b c : Obj) : (((w.alloc a).alloc b).alloc c).drew = grow (w.drewN 1) #[a, b, c] := by
  rw [alloc_eq_grow, alloc_eq_grow, alloc_eq_grow, grow_grow, grow_grow]; rfl
set_option maxRecDepth 1000000 in
set_option maxHeartbeats 1000000 in
theorem pt_less (p q : Int × Int) (w : World) :
    Calls Tryz.prog 37 #[.agg (encPt p).toArray, .agg (encPt q).toArray] w fun e w' => e = .returned (.int .i64 (cmpPt p q)) ∧ GrownTo w w' := by
  obtain ⟨a, b⟩ := p
  obtain ⟨c, d⟩ := q
  show Calls Tryz.prog 37 #[.agg #[.int .i64 a, .int .i64 b], .agg #[.int .i64 c, .int .i64 d]] w _
  obtain ⟨W, hW⟩ : ∃ W, (w.alloc (.cells #[.int .i64 a, .int .i64 b] 50)).alloc (.cells #[.int .i64 c, .int .i64 d] 50) = W := ⟨_, rfl⟩
  obtain ⟨e0, e1, e2, e3, hs⟩ := pt_box W hW
  have HS := Lib.hid fun X => pt_keep (X := X) e0 e1 e2 e3 hs
  clear hs
  go_enter Tryz.func37, Tryz.ntmps37
  go_upto_region 1 with fail
  have HW := Lib.hid hW
  clear hW
  go_region_held3 (fun W' => W'.cell? ⟨w.heap.size, 0, none⟩ = some (.int .i64 a) ∧ W'.cell? ⟨w.heap.size, 1, none⟩ = some (.int .i64 b) ∧ W'.cell? ⟨w.heap.size + 1, 0, none⟩ = some (.int .i64 c) ∧ W'.cell? ⟨w.heap.size + 1, 1, none⟩ = some (.int .i64 d)) (first | assumption | exact ⟨e0, e1, e2, e3⟩ | exact HS.out _) (first
    | (go_at_call 39; (with_reducible refine (Tryz.cmp_Compare_int _ _ _).mono ?_); rintro e w' ⟨rfl, hw⟩; subst hw)
    | (go_at_call 38; (have hz := or_two W.heap.size (Lib.compareInt a c) (Lib.compareInt b d) _ (new_two0 W _ _ 3) (new_two1 W _ _ 3)); (refine hz.mono ?_); (rintro e w2 ⟨rfl, hw⟩); subst hw))
  all_goals (go_wp2_with fail; try go_ret)
  all_goals exact ⟨rfl, 1, #[_, _, _], by rw [← HW.out]; exact three_grow _ _ _ _⟩
end Go.Proofs.YtdolpmmnjndfkaaGreatDoor

namespace Go.Proofs.YtdolpmmnjndfkaaGreatDoor
open Go.RowKit Go.Lib
theorem eqItems_pt (d e : Array Value) (w : World) (ne : Nat → Bool) (hp : ∀ j, j < 2 → ∃ x y : Int, d[j]? = some (.int .i64 x) ∧ e[j]? = some (.int .i64 y) ∧ (x == y) = ne j) : ∀ is : List Nat, (∀ i ∈ is, i < 2) → (Op.eqItems 9999 3 1 d e is).run Tryz.prog w = .ok (is.all ne) w := by
  intro is
  have he : Tryz.prog.plainKey 3 = true := by kernel_rfl
  induction is with
  | nil => intro _; simp [Op.eqItems]
  | cons j is ih =>
    intro h
    have hj := h j (List.mem_cons_self ..)
    obtain ⟨x, y, hx, hy, hn⟩ := hp j hj
    have e1 := run_part_plain (P := Tryz.prog) (w := w) he (off := j * 1) (by rw [Nat.mul_one]; exact hx)
    have e2 := run_part_plain (P := Tryz.prog) (w := w) he (off := j * 1) (by rw [Nat.mul_one]; exact hy)
    have e3 := run_equalIn_int (P := Tryz.prog) w 9998 3 .i64 .i64 x y Tryz.underlying3
    simp only [Op.eqItems, Sem.run_bind, e1, e2, e3, Result.andThen_ok, hn]
    cases hrs : ne j
    · simp [hrs]
    · simp only [Bool.not_true, Bool.false_eq_true, if_false, ih (fun i hi => h i (List.mem_cons_of_mem _ hi)), List.all_cons, hrs, Bool.true_and]
theorem pt_equal (x1 x2 y1 y2 : Int) (w : World) : Sem.run Tryz.prog (Op.equalIn 10000 50 (.agg #[.int .i64 x1, .int .i64 x2]) (.agg #[.int .i64 y1, .int .i64 y2])) w = .ok (decide (x1 = y1 ∧ x2 = y2)) w := by
  have hi : ∃ i, Tryz.prog.info? 3 = some i := Option.isSome_iff_exists.1 (by kernel_rfl)
  obtain ⟨i, hi⟩ := hi
  have h := run_equalIn_array (P := Tryz.prog) (w := w) 9999 #[.int .i64 x1, .int .i64 x2] #[.int .i64 y1, .int .i64 y2] Tryz.underlying50 hi
  refine h.trans ?_
  have hc : Tryz.prog.cellsOf 3 = 1 := by kernel_rfl
  rw [hc]
  rw [eqItems_pt _ _ w (fun j => if j = 0 then x1 == y1 else x2 == y2) (fun j hj => ?_) _ (fun i hi => List.mem_range.1 hi)]
  · have hb : ((List.range 2).all fun j => if j = 0 then x1 == y1 else x2 == y2) = decide (x1 = y1 ∧ x2 = y2) := by
      rw [Bool.eq_iff_iff]
      simp [List.range_succ]
    exact congrArg (fun b => Result.ok b w) hb
  · have hj' : j = 0 ∨ j = 1 := by omega
    rcases hj' with rfl | rfl
    · exact ⟨x1, y1, rfl, rfl, rfl⟩
    · exact ⟨x2, y2, rfl, rfl, rfl⟩
/-- a row of points from the start of block b on -/
structure PtsAt (w : World) (b : Nat) (d : Array (Int × Int)) : Prop where
  c0 : ∀ j, j < d.size → w.cell? ⟨b, j * 2, none⟩ = some (.int .i64 d[j]!.1)
  c1 : ∀ j, j < d.size → w.cell? ⟨b, j * 2 + 1, none⟩ = some (.int .i64 d[j]!.2)
  fr : ∀ o, w.frozen? ⟨b, o, none⟩ = false
  lt : b < w.heap.size
theorem PtsAt.drewN {w : World} {b : Nat} {d : Array (Int × Int)} (h : PtsAt w b d) (n : Nat) : PtsAt (w.drewN n) b d := ⟨h.c0, h.c1, h.fr, h.lt⟩
theorem PtsAt.set {w : World} {b k : Nat} {d : Array (Int × Int)} (h : PtsAt w b d) (hk : k < d.size) (x : Int × Int) :
    PtsAt ((w.setCell ⟨b, k * 2, none⟩ (.int .i64 x.1)).setCell ⟨b, k * 2 + 1, none⟩ (.int .i64 x.2)) b (d.setIfInBounds k x) := by
  have hs : (d.setIfInBounds k x).size = d.size := by simp
  have hg : ∀ j, j < d.size → (d.setIfInBounds k x)[j]! = if j = k then x else d[j]! := fun j hj => by
    by_cases e : j = k
    · subst e; rw [if_pos rfl]; simp [hj]
    · rw [if_neg e]
      simp [hj, Ne.symm e]
  have far : ∀ (W : World) (o p : Nat) (v : Value), o ≠ p → (W.setCell ⟨b, o, none⟩ v).cell? ⟨b, p, none⟩ = W.cell? ⟨b, p, none⟩ := fun W o p v h => World.cell?_setCell_other _ _ _ _ (fun e => h (Addr.mk.inj e).2.1)
  refine ⟨fun j hj => ?_, fun j hj => ?_, fun o => ?_, by simpa using h.lt⟩
  · rw [hs] at hj
    rw [hg j hj, far _ _ _ _ (by omega)]
    by_cases e : j = k
    · subst e; rw [if_pos rfl, World.cell?_setCell_same _ _ _ (h.c0 j hj)]
    · rw [if_neg e, far _ _ _ _ (by omega), h.c0 j hj]
  · rw [hs] at hj
    rw [hg j hj]
    by_cases e : j = k
    · subst e; rw [if_pos rfl, World.cell?_setCell_same _ _ _ ((far _ _ _ _ (by omega)).trans (h.c1 j hj))]
    · rw [if_neg e, far _ _ _ _ (by omega), far _ _ _ _ (by omega), h.c1 j hj]
  · rw [World.frozen?_setCell, World.frozen?_setCell]; exact h.fr o
theorem Fr.drewN {p : Nat} {own : Option Nat} {w w' : World} (h : Fr p own w w') (n : Nat) : Fr p own w (w'.drewN n) := ⟨h.os, h.tape, h.output, h.size, h.block⟩
theorem Fr.set' {p : Nat} {own : Option Nat} {w w' : World} (h : Fr p own w w') (o : Nat) (v : Value) : Fr p own w (w'.setCell ⟨p, o, none⟩ v) := h.trans (.set w' o v) (.refl _ _)
def ptZeros (n : Nat) : List Value := (Builtin.zeroCells #[.int .i64 0, .int .i64 0] n).toList
theorem ptZeros_len (n : Nat) : (ptZeros n).length = n * 2 := by simp [ptZeros, Builtin.zeroCells]
theorem ptZeros_mem {n : Nat} {v : Value} (h : v ∈ ptZeros n) : v.oneCell' = true := by
  simp only [ptZeros, Builtin.zeroCells, Array.toList_map, List.mem_map] at h
  obtain ⟨i, _, rfl⟩ := h
  have e : i % (#[Value.int .i64 0, Value.int .i64 0] : Array Value).size = i % 2 := rfl
  rw [e]
  rcases Nat.mod_two_eq_zero_or_one i with h | h <;> rw [h] <;> rfl
theorem run_clear_pt (w : World) (ty : TypeId) (b o n c : Nat) (hn : 0 < n) (hc : ∀ j, j < n * 2 → (w.cell? ⟨b, o + j, none⟩).isSome = true) (hf : ∀ j, j < n * 2 → w.frozen? ⟨b, o + j, none⟩ = false) :
    (Builtin.clear_ #[36] ty #[.slice (some ⟨b, o, none⟩) n c]).run Tryz.prog w = .ok (.tuple #[]) (w.setCells b o (ptZeros n)) := by
  have hst := run_storeCells_cells (P := Tryz.prog) b o (ptZeros n) 0 w (by simpa [ptZeros_len] using hc) (by simpa [ptZeros_len] using hf) (fun v hv => ptZeros_mem hv)
  simp only [Nat.add_zero] at hst
  have hz : ∀ w, (zeroValue 50).run Tryz.prog w = .ok (.agg #[.int .i64 0, .int .i64 0]) w := Tryz.zeroValue50
  obtain ⟨m, rfl⟩ : ∃ m, n = m + 1 := ⟨n - 1, by omega⟩
  unfold ptZeros at hst ⊢
  simp [Builtin.clear_, run_underlying Tryz.underlying36, hz, Value.cells, hst]
theorem pt_some {w : World} {b kk j : Nat} {d : Array (Int × Int)} (h : PtsAt w b d) (hj : j < (d.size - kk) * 2) : (w.cell? ⟨b, kk * 2 + j, none⟩).isSome = true := by
  rcases Nat.mod_two_eq_zero_or_one j with e | e
  · have := h.c0 (kk + j / 2) (by omega)
    rw [show (kk + j / 2) * 2 = kk * 2 + j by omega] at this
    rw [this]; rfl
  · have := h.c1 (kk + j / 2) (by omega)
    rw [show (kk + j / 2) * 2 + 1 = kk * 2 + j by omega] at this
    rw [this]; rfl
theorem Fr.setCells {p : Nat} {own : Option Nat} {w : World} : ∀ (vs : List Value) (o : Nat) {w' : World}, Fr p own w w' → Fr p own w (w'.setCells p o vs)
  | [], _, _, h => h
  | v :: vs, o, _, h => Fr.setCells vs (o + 1) (h.set' o v)
def CompDone (w : World) (b cap : Nat) (d : Array (Int × Int)) (e : Ending) (w' : World) : Prop :=
  e = .returned (.slice (some ⟨b, 0, none⟩) (compactUpTo d d.size).length cap) ∧ Fr b none w w' ∧ ∀ j x, (compactUpTo d d.size)[j]? = some x → w'.cell? ⟨b, j * 2, none⟩ = some (.int .i64 x.1) ∧ w'.cell? ⟨b, j * 2 + 1, none⟩ = some (.int .i64 x.2)
set_option maxRecDepth 1000000 in
set_option maxHeartbeats 2000000 in
theorem pt_compact_none (a : Option Addr) (cap : Nat) (w : World) : Calls Tryz.prog 40 #[.slice a 0 cap] w fun e w' => e = .returned (.slice a 0 cap) ∧ w' = w := by
  go_enter Tryz.func40, Tryz.ntmps40
  go_wp2_with fail
  go_ret
  exact ⟨rfl, rfl⟩
set_option maxRecDepth 1000000 in
set_option maxHeartbeats 2000000 in
theorem pt_compact (b cap : Nat) (d : Array (Int × Int)) (w : World) (h : PtsAt w b d) (hsz : d.size ≤ 100000) (hcap : d.size ≤ cap) (hcm : cap ≤ maxLen) :
    Calls Tryz.prog 40 #[.slice (some ⟨b, 0, none⟩) d.size cap] w (CompDone w b cap d) := by
  obtain ⟨Q, hQ⟩ : ∃ Q, CompDone w b cap d = Q := ⟨_, rfl⟩
  rw [hQ]
  have HQ := Lib.hid hQ
  have H := Lib.hid h
  unfold maxLen at hcm
  have HCM := Lib.hid hcm
  have hsz2 : (d.size : Int) ≤ 100000 := by omega
  clear h hQ
  have same : ∀ w', Fr b none w w' → PtsAt w' b d → (∀ j, j < d.size → keeps d j = true) → (compactUpTo d d.size).length = d.size ∧ Q (.returned (.slice (some ⟨b, 0, none⟩) d.size cap)) w' := by
    intro w' hf hp hall
    have e : compactUpTo d d.size = d.toList := by rw [compactUpTo_all d _ hall, range_map_get]
    refine ⟨by rw [e]; simp, ?_⟩
    rw [← HQ.out]
    refine ⟨by rw [e]; simp, hf, fun j x hx => ?_⟩
    rw [e] at hx
    have hj : j < d.size := by simpa using (List.getElem?_eq_some_iff.1 hx).1
    have hxd : d[j]! = x := by simp [hj] at hx ⊢; exact hx
    rw [← hxd]
    exact ⟨hp.c0 j hj, hp.c1 j hj⟩
  have HS := Lib.hid same
  clear same
  obtain ⟨n, hn⟩ : ∃ n, d.size = n := ⟨_, rfl⟩
  have HN := Lib.hid hn
  rw [hn] at hsz hsz2 hcap HS ⊢
  clear hn
  by_cases h2 : (n : Int) < 2
  · go_enter Tryz.func40, Tryz.ntmps40
    go_wp2_with fail
    exact (HS.out w (.refl _ _ _) H.out (fun j hj => keeps_lt_one d j (by omega))).2
  · go_enter Tryz.func40, Tryz.ntmps40
    go_wp2_with fail
    go_loopg [3] n (fun g s3 wr => ∃ k q : Nat, 1 ≤ k ∧ k ≤ n ∧ n - k ≤ g ∧ s3 = .int .i64 k ∧ wr = w.drewN q ∧ Aside (∀ j, j < k → keeps d j = true))
    case atStart => exact ⟨1, 0, Nat.le_refl _, by omega, by omega, rfl, rfl, keeps_lt_one d⟩
    case round =>
      obtain ⟨k, q, hk1, hk, hg, rfl, rfl, hall⟩ := hrel
      by_cases hlt : k < n
      · obtain ⟨k1, hk1e⟩ : ∃ k1, k - 1 = k1 := ⟨_, rfl⟩
        have hkd : k < d.size := by rw [HN.out]; exact hlt
        have a0 := H.out.c0 k hkd
        have a1 := H.out.c1 k hkd
        have p0 := H.out.c0 k1 (by omega)
        have p1 := H.out.c1 k1 (by omega)
        generalize hx : d[k]! = x at a0 a1
        generalize hy : d[k1]! = y at p0 p1
        have B := Lib.hid (And.intro hx (And.intro hy hk1e))
        have b1 : 0 ≤ (k : Int) ∧ (k : Int) < n := by omega
        have b2 : 0 ≤ (k1 : Int) ∧ (k1 : Int) < n := by omega
        have b1' := b1.2
        have b2' := b2.2
        have hw2 : wrap64 ((k : Int) - 1) = k1 := by unfold wrap64; omega
        have hw1 : IntKind.i64.wrap ((k : Int) - 1) = k1 := (raw_wrap _).trans hw2
        clear hx hy hk1e hkd
        obtain ⟨x1, x2⟩ := x
        obtain ⟨y1, y2⟩ := y
        simp only at a0 a1 p0 p1
        by_cases hdup : x1 = y1 ∧ x2 = y2
        · obtain ⟨rfl, rfl⟩ := hdup
          have hE := fun w => pt_equal x1 x2 x1 x2 w
          rw [show decide (x1 = x1 ∧ x2 = x2) = true by simp] at hE
          go_upto_region 6 with fail
          go_region
          go_wp2_with fail
          obtain ⟨m, hm⟩ : ∃ m, n - k = m := ⟨_, rfl⟩
          rw [hm]
          have HM := Lib.hid hm
          clear hm a0 a1 p0 p1 hE hw1 hw2 b1 b2 b1' b2'
          go_loopg [3, 5] n (fun g s3 s5 wr => ∃ (kk k2 : Nat) (dk : Array (Int × Int)), s3 = .int .i64 kk ∧ s5 = .int .i64 k2 ∧ 1 ≤ k2 ∧ k + k2 ≤ n ∧ n - (k + k2) ≤ g ∧ kk < k + k2 ∧ Hid (PtsAt wr b dk ∧ Fr b none w wr ∧ CompInv d (k + k2) kk dk))
          case atStart => exact ⟨k, 1, d, rfl, rfl, Nat.le_refl _, by omega, by omega, by omega, Lib.hid ⟨H.out.drewN _, (Fr.refl _ _ _).drewN _, CompInv.start hall.out (keeps_neg (by omega) (by rw [B.out.1, B.out.2.2, B.out.2.1]))⟩⟩
          case round =>
            obtain ⟨kk, k2, dk, rfl, rfl, h1, hle, hg2, hkk, HI⟩ := hrel
            have hds : dk.size = n := HI.out.2.2.size.trans HN.out
            by_cases hlt2 : k + k2 < n
            · obtain ⟨k3, hk3⟩ : ∃ k3, k2 - 1 = k3 := ⟨_, rfl⟩
              have e2 := HI.out.2.2.high (k + k2) (by omega)
              have e3 := HI.out.2.2.high (k + k3) (by omega)
              have a0 := HI.out.1.c0 (k + k2) (by omega)
              have a1 := HI.out.1.c1 (k + k2) (by omega)
              have p0 := HI.out.1.c0 (k + k3) (by omega)
              have p1 := HI.out.1.c1 (k + k3) (by omega)
              have s0 := HI.out.1.c0 kk (by omega)
              have s1 := HI.out.1.c1 kk (by omega)
              have f0 := HI.out.1.fr (kk * 2)
              have f1 := HI.out.1.fr (kk * 2 + 1)
              rw [e2] at a0 a1
              rw [e3] at p0 p1
              generalize hu : d[k + k2]! = u at a0 a1
              generalize hv : d[k + k3]! = v at p0 p1
              have C := Lib.hid (And.intro hu (And.intro hv hk3))
              rw [Nat.add_mul] at a0 a1 p0 p1
              have hm := HM.out
              have b1 : 0 ≤ (k2 : Int) ∧ (k2 : Int) < m := by omega
              have b2 : 0 ≤ (k3 : Int) ∧ (k3 : Int) < m := by omega
              have b3 : 0 ≤ (kk : Int) ∧ (kk : Int) < n := by omega
              have b1' := b1.2
              have b2' := b2.2
              have b3' := b3.2
              have hw2 : wrap64 ((k2 : Int) - 1) = k3 := by unfold wrap64; omega
              have hw1 : IntKind.i64.wrap ((k2 : Int) - 1) = k3 := (raw_wrap _).trans hw2
              clear hu hv hk3 e2 e3 hm
              obtain ⟨u1, u2⟩ := u
              obtain ⟨v1, v2⟩ := v
              simp only at a0 a1 p0 p1
              by_cases huv : u1 = v1 ∧ u2 = v2
              · obtain ⟨rfl, rfl⟩ := huv
                have hE := fun w => pt_equal u1 u2 u1 u2 w
                rw [show decide (u1 = u1 ∧ u2 = u2) = true by simp] at hE
                go_upto_region 11 with fail
                go_region
                go_wp2_with fail
                go_roundg (n - (k + (k2 + 1)))
                case measure => omega
                case rel => exact ⟨kk, k2 + 1, dk, rfl, by go_num, by omega, by omega, Nat.le_refl _, by omega, Lib.hid ⟨HI.out.1.drewN 1, HI.out.2.1.drewN 1, HI.out.2.2.skip (keeps_neg (by omega) (by rw [C.out.1, show k + k2 - 1 = k + k3 by have := C.out.2.2; omega, C.out.2.1]))⟩⟩
              · have hE := fun w => pt_equal u1 u2 v1 v2 w
                rw [show decide (u1 = v1 ∧ u2 = v2) = false by simpa using huv] at hE
                go_upto_region 11 with fail
                go_region
                go_wp2_with fail
                go_roundg (n - (k + (k2 + 1)))
                case measure => omega
                case rel =>
                  refine ⟨kk + 1, k2 + 1, dk.setIfInBounds kk (u1, u2), by go_num, by go_num, by omega, by omega, Nat.le_refl _, by omega, Lib.hid ⟨(HI.out.1.drewN 1).set (by omega) (u1, u2), ((HI.out.2.1.drewN 1).set' _ _).set' _ _, ?_⟩⟩
                  have := HI.out.2.2.keep (by rw [HN.out]; exact hlt2) (keeps_pos (by
                    rw [C.out.1, show k + k2 - 1 = k + k3 by have := C.out.2.2; omega, C.out.2.1]
                    intro e
                    simp only [Prod.mk.injEq] at e
                    exact huv e))
                  rw [C.out.1] at this
                  exact this
            · obtain ⟨r, hr⟩ : ∃ r, n - kk = r := ⟨_, rfl⟩
              have hcl : ∀ ty, (Builtin.clear_ #[36] ty #[.slice (some ⟨b, kk * 2, none⟩) (n - kk) (cap - kk)]).run Tryz.prog wr = .ok (.tuple #[]) (wr.setCells b (kk * 2) (ptZeros (n - kk))) := fun ty => run_clear_pt wr ty b (kk * 2) (n - kk) (cap - kk) (by omega) (fun j hj => pt_some HI.out.1 (by omega)) (fun j _ => HI.out.1.fr _)
              have b3 : 0 ≤ (kk : Int) ∧ (kk : Int) ≤ n := by omega
              have b4 : (kk : Int) ≤ cap := by omega
              have hmm := HM.out
              have b5 : ¬ (k2 : Int) < m := by omega
              clear hmm hr
              go_wp2_with fail
              have hI := HI.out.2.2
              rw [show k + k2 = d.size by rw [HN.out]; omega] at hI
              rw [← HQ.out]
              refine ⟨by rw [hI.len], HI.out.2.1.setCells _ _, fun j x hx => ?_⟩
              have hj : j < kk := by have := (List.getElem?_eq_some_iff.1 hx).1; rw [hI.len] at this; exact this
              have hxe := hI.low j hj
              rw [hx] at hxe
              simp only [Option.some.injEq] at hxe
              rw [hxe]
              refine ⟨(World.cell?_setCells_out b _ _ _ _ (fun _ _ => .inl (by simp only; omega))).trans (HI.out.1.c0 j (by omega)), (World.cell?_setCells_out b _ _ _ _ (fun _ _ => .inl (by simp only; omega))).trans (HI.out.1.c1 j (by omega))⟩
        · have hE := fun w => pt_equal x1 x2 y1 y2 w
          rw [show decide (x1 = y1 ∧ x2 = y2) = false by simpa using hdup] at hE
          go_upto_region 6 with fail
          go_region
          go_wp2_with fail
          go_roundg (n - (k + 1))
          case measure => omega
          case rel =>
            refine ⟨k + 1, q + 1, by omega, by omega, Nat.le_refl _, by go_num, rfl, fun j hj => ?_⟩
            by_cases e : j = k
            · subst e
              refine keeps_pos ?_
              rw [B.out.1, B.out.2.2, B.out.2.1]
              intro e
              simp only [Prod.mk.injEq] at e
              exact hdup e
            · exact hall.out j (by omega)
      · obtain rfl : k = n := by omega
        have hkl : ¬ (k : Int) < k := by omega
        go_wp2_with fail
        exact (HS.out (w.drewN q) ((Fr.refl _ _ _).drewN q) (H.out.drewN q) hall.out).2
end Go.Proofs.YtdolpmmnjndfkaaGreatDoor

namespace Go.Proofs.YtdolpmmnjndfkaaGreatDoor
open Go.RowKit Go.Lib Go.Sort
def ltZ (a b : Int × Int) : Prop := a.1 < b.1 ∨ (a.1 = b.1 ∧ a.2 < b.2)
theorem ltZ_iff (a b : Int × Int) : cmpPt a b < 0 ↔ ltZ a b := by
  unfold cmpPt orI Lib.compareInt ltZ
  obtain ⟨a1, a2⟩ := a
  obtain ⟨b1, b2⟩ := b
  simp only
  repeat' split
  all_goals omega
theorem swo_pt : SWO (ltOf cmpPt) := by
  have e : ∀ a b, ltOf cmpPt a b = true ↔ ltZ a b := fun a b => by unfold ltOf; simp [ltZ_iff]
  have e2 : ∀ a b, ltOf cmpPt a b = false ↔ ¬ ltZ a b := fun a b => by rw [← e]; simp
  refine ⟨fun x => ?_, fun x y z h g => ?_, fun x y z h g => ?_⟩
  · rw [e2]; unfold ltZ; omega
  · rw [e] at *; unfold ltZ at *; omega
  · rw [e2] at *; unfold ltZ at *; omega
theorem lt_false {a b : Int × Int} (h : ltOf cmpPt a b = false) : ¬ ltZ a b := by
  unfold ltOf at h
  rw [← ltZ_iff]
  simpa using h
/-- what Compact leaves of a sorted row is strictly increasing -/
theorem comp_incr {d : Array (Int × Int)} (hs : ∀ i j, i < j → j < d.size → ¬ ltZ d[j]! d[i]!) : ∀ m, m ≤ d.size → (compactUpTo d m).Pairwise ltZ ∧ ∀ z ∈ compactUpTo d m, 0 < m ∧ ¬ ltZ d[m - 1]! z
  | 0, _ => by simp [compactUpTo]
  | m + 1, hm => by
    obtain ⟨I1, I2⟩ := comp_incr hs m (by omega)
    rw [compactUpTo_succ]
    have step : ∀ z, z ∈ compactUpTo d m → ¬ ltZ d[m]! z := fun z hz => by
      obtain ⟨h0, h1⟩ := I2 z hz
      have h2 := hs (m - 1) m (by omega) (by omega)
      unfold ltZ at *; omega
    by_cases hk : keeps d m = true
    · rw [if_pos hk]
      refine ⟨List.pairwise_append.2 ⟨I1, by simp, fun z hz y hy => ?_⟩, fun z hz => ⟨by omega, ?_⟩⟩
      · simp only [List.mem_singleton] at hy
        subst hy
        obtain ⟨h0, h1⟩ := I2 z hz
        have h2 := hs (m - 1) m (by omega) (by omega)
        have h3 : d[m]! ≠ d[m - 1]! := by
          simp only [keeps, decide_eq_true_eq] at hk
          rcases hk with h | h
          · omega
          · exact h
        have h4 : ¬ (d[m]!.1 = d[m - 1]!.1 ∧ d[m]!.2 = d[m - 1]!.2) := fun e => h3 (Prod.ext e.1 e.2)
        unfold ltZ at *; omega
      · rw [Nat.add_sub_cancel]
        rcases List.mem_append.1 hz with h | h
        · exact step z h
        · simp only [List.mem_singleton] at h
          subst h
          unfold ltZ; omega
    · rw [if_neg hk, List.append_nil]
      exact ⟨I1, fun z hz => ⟨by omega, by rw [Nat.add_sub_cancel]; exact step z hz⟩⟩
theorem comp_mem {d : Array (Int × Int)} : ∀ m, m ≤ d.size → ∀ z, z ∈ compactUpTo d m ↔ ∃ j, j < m ∧ d[j]! = z
  | 0, _, z => by simp [compactUpTo]
  | m + 1, hm, z => by
    have I := comp_mem m (by omega) (d := d)
    rw [compactUpTo_succ]
    constructor
    · intro h
      rcases List.mem_append.1 h with h | h
      · obtain ⟨j, hj, e⟩ := (I z).1 h
        exact ⟨j, by omega, e⟩
      · split at h
        · simp only [List.mem_singleton] at h
          exact ⟨m, by omega, h.symm⟩
        · simp at h
    · rintro ⟨j, hj, rfl⟩
      by_cases e : j = m
      · subst e
        by_cases hk : keeps d j = true
        · rw [if_pos hk]; simp
        · rw [if_neg hk, List.append_nil]
          simp only [keeps, decide_eq_true_eq] at hk
          have hk' : ¬ j = 0 ∧ d[j]! = d[j - 1]! := by
            constructor
            · exact fun h => hk (.inl h)
            · exact Classical.byContradiction fun h => hk (.inr h)
          rw [hk'.2]
          exact (I _).2 ⟨j - 1, by omega, rfl⟩
      · exact List.mem_append_left _ ((I _).2 ⟨j, by omega, rfl⟩)
def zOf (p : Nat × Nat) : Int × Int := ((p.1 : Int), (p.2 : Int))
def nOf (z : Int × Int) : Nat × Nat := (z.1.toNat, z.2.toNat)
theorem nOf_zOf (p : Nat × Nat) : nOf (zOf p) = p := by simp [nOf, zOf]
/-- sorted, compacted: the points of the specification -/
theorem comp_points {o : List Po.Nd} {d' : Array (Int × Int)} (hp : d'.toList.Perm ((Po.named o).map zOf)) (hs : ∀ i j, i < j → j < d'.size → ¬ ltZ d'[j]! d'[i]!) : compactUpTo d' d'.size = (Po.points o).map zOf := by
  obtain ⟨I1, _⟩ := comp_incr hs d'.size (Nat.le_refl _)
  have M := comp_mem d'.size (Nat.le_refl _) (d := d')
  have hmem : ∀ z, z ∈ compactUpTo d' d'.size ↔ ∃ p ∈ Po.named o, zOf p = z := fun z => by
    rw [M z]
    have : z ∈ d'.toList ↔ z ∈ (Po.named o).map zOf := hp.mem_iff
    rw [List.mem_map] at this
    rw [← this]
    constructor
    · rintro ⟨j, hj, rfl⟩
      rw [getElem!_pos d' j hj]
      exact Array.mem_toList_iff.2 (Array.getElem_mem hj)
    · intro h
      obtain ⟨j, hj, e⟩ := List.getElem_of_mem h
      have hj' : j < d'.size := by simpa using hj
      refine ⟨j, hj', ?_⟩
      rw [getElem!_pos d' j hj']
      simpa using e
  have hz : compactUpTo d' d'.size = ((compactUpTo d' d'.size).map nOf).map zOf := by
    rw [List.map_map]
    have hid : (compactUpTo d' d'.size).map (zOf ∘ nOf) = (compactUpTo d' d'.size).map id := List.map_congr_left fun z hz => by
      obtain ⟨p, _, rfl⟩ := (hmem z).1 hz
      simp [Function.comp, nOf_zOf]
    rw [hid, List.map_id]
  rw [hz]
  congr 1
  refine Po.incr_ext _ _ ?_ (Po.points_incr o) fun q => ?_
  · have hall : ∀ z ∈ compactUpTo d' d'.size, ∃ p, zOf p = z := fun z hz => by obtain ⟨p, _, e⟩ := (hmem z).1 hz; exact ⟨p, e⟩
    revert hall I1
    generalize compactUpTo d' d'.size = l
    intro I1 hall
    induction l with
    | nil => trivial
    | cons z l ih =>
      rw [List.pairwise_cons] at I1
      obtain ⟨p, rfl⟩ := hall z (by simp)
      refine ⟨fun y hy => ?_, ih I1.2 (fun z hz => hall z (by simp [hz]))⟩
      simp only [List.mem_map] at hy
      obtain ⟨u, hu, rfl⟩ := hy
      obtain ⟨r, rfl⟩ := hall u (by simp [hu])
      have := I1.1 _ hu
      rw [nOf_zOf, nOf_zOf, Po.ptLt_iff]
      unfold ltZ zOf at this
      omega
  · rw [Po.points_mem, List.mem_map]
    constructor
    · rintro ⟨z, hz, rfl⟩
      obtain ⟨p, hp, rfl⟩ := (hmem z).1 hz
      rw [nOf_zOf]; exact hp
    · intro h
      exact ⟨zOf q, (hmem _).2 ⟨q, h, rfl⟩, nOf_zOf q⟩
/-! memory -/
theorem pts_holds {w : World} {b : Nat} {d : Array (Int × Int)} (h : PtsAt w b d) : HoldsK encPt 2 w b 0 d := by
  intro t ht
  rw [size_flatK] at ht
  rw [get_flatK _ _ _ _ ht, Nat.zero_add]
  refine ⟨?_, h.fr _⟩
  rcases Nat.mod_two_eq_zero_or_one t with e | e
  · have := h.c0 (t / 2) (by omega)
    rw [show t / 2 * 2 = t by omega] at this
    rw [this, e]; rfl
  · have := h.c1 (t / 2) (by omega)
    rw [show t / 2 * 2 + 1 = t by omega] at this
    rw [this, e]; rfl
theorem fr_sort {w : World} {b n : Nat} {d : Array (Int × Int)} {os : Array Obj} : Fr b none w (sortWorldK encPt 2 w b 0 n d os) := by
  refine ⟨rfl, rfl, rfl, ?_, fun k hk hp _ => ?_⟩
  · exact size_sortWorldK_c encPt 2 w b 0 n d os
  · show ((Go.Sort.putRow id (Sort.ahead w n) b 0 (flatK encPt 2 d)).heap ++ os)[k]? = _
    have hs : (Go.Sort.putRow id (Sort.ahead w n) b 0 (flatK encPt 2 d)).heap.size = w.heap.size := by simp [Go.Sort.putRow, mapBlock]
    rw [Array.getElem?_append_left (by rw [hs]; exact hk)]
    simp only [Go.Sort.putRow, mapBlock, Array.getElem?_modify]
    rw [if_neg (Ne.symm hp)]
    rfl
theorem pts_sort {w : World} {b n : Nat} {d d' : Array (Int × Int)} {os : Array Obj} (h : PtsAt w b d) (hs : d'.size = d.size) : PtsAt (sortWorldK encPt 2 w b 0 n d' os) b d' := by
  have hh := holdsK_sortWorldK_c encPt 2 w b 0 d d' n os (pts_holds h) h.lt hs
  have hz := size_sortWorldK_c encPt 2 w b 0 n d' os
  refine ⟨fun j hj => ?_, fun j hj => ?_, fun o => ?_, Nat.lt_of_lt_of_le h.lt hz⟩
  · have := (hh.cell (i := j) (c := 0) hj (by omega)).1
    simpa [encPt] using this
  · have := (hh.cell (i := j) (c := 1) hj (by omega)).1
    simpa [encPt] using this
  · unfold sortWorldK
    rw [frozen?_grow _ _ _ (by rw [size_putRowK]; exact h.lt)]
    unfold putRowK
    rw [frozen?_putRow]
    exact h.fr o
/-- a slice of points, read; blocks from L to B -/
def RPts (w : World) (L B : Nat) (v : Value) (ps : List (Nat × Nat)) : Prop :=
  ∃ A c, v = .slice A ps.length c ∧ ps.length ≤ c ∧ c ≤ maxLen ∧ (0 < ps.length → ∃ b off, A = some ⟨b, off, none⟩ ∧ L ≤ b ∧ b < B ∧ ∀ (i : Nat) (p : Nat × Nat), ps[i]? = some p → w.cell? ⟨b, off + i * 2, none⟩ = some (.int .i64 p.1) ∧ w.cell? ⟨b, off + i * 2 + 1, none⟩ = some (.int .i64 p.2))
theorem RPts.frame {w w' : World} {L B : Nat} {v : Value} {ps : List (Nat × Nat)} (h : RPts w L B v ps) (hb : ∀ k, L ≤ k → k < B → w'.heap[k]? = w.heap[k]?) : RPts w' L B v ps := by
  obtain ⟨A, c, h1, h2, h3, h4⟩ := h
  refine ⟨A, c, h1, h2, h3, fun hn => ?_⟩
  obtain ⟨b, off, hA, hL, hlt, hc⟩ := h4 hn
  exact ⟨b, off, hA, hL, hlt, fun i p hp => ⟨(World.cell?_of_block (a := ⟨b, _, none⟩) (hb b hL hlt)).trans (hc i p hp).1, (World.cell?_of_block (a := ⟨b, _, none⟩) (hb b hL hlt)).trans (hc i p hp).2⟩⟩
theorem RPts.below {w w' : World} {L B : Nat} {v : Value} {ps : List (Nat × Nat)} (h : RPts w L B v ps) (hb : Below B w w') : RPts w' L B v ps := h.frame fun k _ hk => hb.block k hk
theorem RPts.more {w : World} {L L' B B' : Nat} {v : Value} {ps : List (Nat × Nat)} (h : RPts w L B v ps) (hL : L' ≤ L) (hB : B ≤ B') : RPts w L' B' v ps := by
  obtain ⟨A, c, h1, h2, h3, h4⟩ := h
  refine ⟨A, c, h1, h2, h3, fun hn => ?_⟩
  obtain ⟨b, off, hA, h0, hlt, hc⟩ := h4 hn
  exact ⟨b, off, hA, by omega, by omega, hc⟩
theorem RPts.form {w : World} {L B : Nat} {v : Value} {ps : List (Nat × Nat)} (h : RPts w L B v ps) : ∃ A c, v = .slice A ps.length c ∧ ps.length ≤ c ∧ c ≤ maxLen := by
  obtain ⟨A, c, h1, h2, h3, _⟩ := h
  exact ⟨A, c, h1, h2, h3⟩
end Go.Proofs.YtdolpmmnjndfkaaGreatDoor

namespace Go.Proofs.YtdolpmmnjndfkaaGreatDoor
open Go.RowKit Go.Lib Go.Sort
def ptFlat (l : List (Nat × Nat)) : List Value := l.flatMap fun p => [.int .i64 p.1, .int .i64 p.2]
theorem ptFlat_snoc (l : List (Nat × Nat)) (p : Nat × Nat) : ptFlat (l ++ [p]) = ptFlat l ++ [.int .i64 p.1, .int .i64 p.2] := by simp [ptFlat]
theorem ptFlat_at : ∀ (l : List (Nat × Nat)) (i : Nat) (p : Nat × Nat), l[i]? = some p → (ptFlat l)[i * 2]? = some (.int .i64 p.1) ∧ (ptFlat l)[i * 2 + 1]? = some (.int .i64 p.2)
  | [], i, p, h => by simp at h
  | q :: l, 0, p, h => by simp at h; subst h; exact ⟨rfl, rfl⟩
  | q :: l, i + 1, p, h => by
    have I := ptFlat_at l i p (by simpa using h)
    have e1 : (i + 1) * 2 = i * 2 + 1 + 1 := by omega
    simp only [ptFlat, List.flatMap_cons] at I ⊢
    rw [e1]
    exact I
theorem pt_info : (Tryz.prog.info? 50).map (fun i => (i.zero, i.size, i.bytes)) = some (some (.agg #[.int .i64 0, .int .i64 0]), 2, 16) := by kernel_rfl
theorem named_snoc (l : List Po.Nd) (x : Po.Nd) : Po.named (l ++ [x]) = Po.named l ++ (if x.k = 7 then [(x.n, x.m)] else []) := by
  unfold Po.named
  rw [List.filter_append, List.map_append]
  congr 1
  by_cases h : x.k = 7 <;> simp [h]
theorem named_len (l : List Po.Nd) : (Po.named l).length ≤ l.length := by
  unfold Po.named
  rw [List.length_map]
  exact List.length_filter_le _ _
/-- the row of points that the call built -/
theorem pts_of_own {w : World} {B g cap : Nat} {l : List (Nat × Nat)} (h : w.ownsRow B 50 2 (.slice (some ⟨g, 0, none⟩) l.length cap) l.length (ptFlat l)) (hn : 0 < l.length) : PtsAt w g ((l.map zOf).toArray) := by
  obtain ⟨g', cap', hv, hg, hlt, hc, hm, hx⟩ := own_cells h hn
  simp only [Value.slice.injEq, Option.some.injEq, Addr.mk.injEq, and_true, true_and] at hv
  obtain ⟨rfl, rfl⟩ := hv
  have hf : ∀ o, w.frozen? ⟨g, o, none⟩ = false := by
    obtain ⟨-, ⟨hz, -⟩ | ⟨g', cap, cur, h1, h2, h3, -⟩⟩ := h
    · cases hz
    · simp only [Value.slice.injEq, Option.some.injEq, Addr.mk.injEq, and_true, true_and] at h1
      obtain ⟨rfl, -⟩ := h1
      intro o
      simp [World.frozen?, h3]
  have hat : ∀ j, j < l.length → ∃ p, l[j]? = some p ∧ ((l.map zOf).toArray)[j]! = zOf p := fun j hj => ⟨l[j], List.getElem?_eq_getElem hj, by simp [hj]⟩
  refine ⟨fun j hj => ?_, fun j hj => ?_, hf, hlt⟩
  · obtain ⟨p, h1, h2⟩ := hat j (by simpa using hj)
    rw [h2]; exact hx _ _ (ptFlat_at l j p h1).1
  · obtain ⟨p, h1, h2⟩ := hat j (by simpa using hj)
    rw [h2]; exact hx _ _ (ptFlat_at l j p h1).2
def PointsSay (w : World) (o : List Po.Nd) (e : Ending) (w' : World) : Prop :=
  ∃ v, e = .returned v ∧ RPts w' w.heap.size w'.heap.size v (Po.points o) ∧ Below w.heap.size w w'
theorem points_nil {o : List Po.Nd} (h : Po.named o = []) : Po.points o = [] := by unfold Po.points; rw [h]; rfl
theorem points_next {W w5 : World} {o : List Po.Nd} {k : Nat} {x : Po.Nd} {v : Value} (hx : o[k]? = some x) (h7 : x.k = 7) (hB : Below W.heap.size W w5)
    (h : w5.ownsRow W.heap.size 50 2 v ((Po.named (o.take k)).length + 1) (ptFlat (Po.named (o.take k)) ++ [.int .i64 x.n, .int .i64 x.m])) :
    w5.ownsRow W.heap.size 50 2 v (Po.named (o.take (k + 1))).length (ptFlat (Po.named (o.take (k + 1)))) ∧ Below W.heap.size W w5 := by
  have e : o.take (k + 1) = o.take k ++ [x] := by
    have hkl := (List.getElem?_eq_some_iff.1 hx).1
    rw [List.take_succ_eq_append_getElem hkl]
    rw [List.getElem?_eq_getElem hkl] at hx
    simp at hx
    rw [hx]
  refine ⟨?_, hB⟩
  rw [e, named_snoc, if_pos h7, ptFlat_snoc, List.length_append]
  exact h
theorem points_same {o : List Po.Nd} {k : Nat} {x : Po.Nd} (hx : o[k]? = some x) (h7 : ¬ x.k = 7) : Po.named (o.take (k + 1)) = Po.named (o.take k) := by
  have e : o.take (k + 1) = o.take k ++ [x] := by
    have hkl := (List.getElem?_eq_some_iff.1 hx).1
    rw [List.take_succ_eq_append_getElem hkl]
    rw [List.getElem?_eq_getElem hkl] at hx
    simp at hx
    rw [hx]
  rw [e, named_snoc, if_neg h7, List.append_nil]
theorem points_close {w W wr w5 w6 : World} {o : List Po.Nd} {g cap : Nat} {d' : Array (Int × Int)} {e : Ending} (hB : Below w.heap.size w W) (hb : Below W.heap.size W wr) (hg : W.heap.size ≤ g) (hgl : g < wr.heap.size) (hs : Fr g none wr w5) (hc : CompDone w5 g cap d' e w6) (hp : compactUpTo d' d'.size = (Po.points o).map zOf) (hcap : (Po.points o).length ≤ cap) (hcm : cap ≤ maxLen) :
    PointsSay w o e w6 := by
  obtain ⟨rfl, hf, hcell⟩ := hc
  have hF := hs.trans hf (.refl _ _)
  have hlen : (compactUpTo d' d'.size).length = (Po.points o).length := by rw [hp, List.length_map]
  refine ⟨_, rfl, ?_, hB.trans ((hb.mono hB.size).trans ((hF.below (Nat.le_of_lt hgl) (fun k hk => by cases hk)).mono (Nat.le_trans hB.size hg)))⟩
  rw [hlen]
  refine ⟨some ⟨g, 0, none⟩, cap, rfl, hcap, hcm, fun _ => ⟨g, 0, rfl, Nat.le_trans hB.size hg, Nat.lt_of_lt_of_le hgl hF.size, fun i p hi => ?_⟩⟩
  have := hcell i (zOf p) (by rw [hp, List.getElem?_map, hi]; rfl)
  rw [Nat.zero_add]
  exact this
theorem sort_none (A3 : Option Addr) (cap3 : Nat) (fv : Value) (w : World) : Calls Tryz.prog 36 #[.slice A3 0 cap3, fv] w fun e w' => e = .returned (.tuple #[]) ∧ w' = w := Go.Proofs.AnyF.slices_SortFunc_none Tryz.laysSlF06_f36 A3 cap3 fv w
def Sorted (w : World) (g : Nat) (o : List Po.Nd) (e : Ending) (w' : World) : Prop :=
  e = .returned (.tuple #[]) ∧ ∃ d' : Array (Int × Int), d'.size = (Po.named o).length ∧ compactUpTo d' d'.size = (Po.points o).map zOf ∧ PtsAt w' g d' ∧ Fr g none w w'
theorem cmp_lays (b size : Nat) (w : World) : CmpLays Tryz.prog 37 #[] encPt 2 cmpPt b 0 size w := fun m os dk _ x y => by
  have := pt_less x y (sortWorldK encPt 2 w b 0 m dk os)
  simp only [Array.append_empty]
  exact this
theorem pt_enters : ∀ args w, (callFunc 37 args).run Tryz.prog w = .ok (.enter 37 args) w := Go.Proofs.enters_of Tryz.func37 (by kernel_rfl) rfl
theorem sort_some {w : World} {B g cap : Nat} {o : List Po.Nd} (h : w.ownsRow B 50 2 (.slice (some ⟨g, 0, none⟩) (Po.named o).length cap) (Po.named o).length (ptFlat (Po.named o))) (hn : 0 < (Po.named o).length) (hl : (Po.named o).length ≤ 100000) :
    Calls Tryz.prog 36 #[.slice (some ⟨g, 0, none⟩) (Po.named o).length cap, .func (.func 37) #[] #[]] w (Sorted w g o) := by
  have hp := pts_of_own h hn
  obtain ⟨d, hd⟩ : ∃ d, ((Po.named o).map zOf).toArray = d := ⟨_, rfl⟩
  have hds : d.size = (Po.named o).length := by rw [← hd]; simp
  rw [hd] at hp
  have hc := Tryz.slices_SortFunc 2 (Tryz.isAgg50) (Tryz.sizeOf50) encPt (fun _ => rfl) (fun x v hv => by
    simp only [encPt, List.mem_cons, List.not_mem_nil, or_false] at hv
    rcases hv with rfl | rfl <;> rfl) cmpPt swo_pt 37 #[] g 0 cap d w pt_enters (cmp_lays g d.size w) (pts_holds hp) hp.lt (by rw [hds]; omega)
  rw [hds] at hc
  refine hc.mono ?_
  rintro e w' ⟨rfl, d', n, os, hperm, hsort, rfl⟩
  have hs' : d'.size = (Po.named o).length := by rw [hperm.1, hds]
  refine ⟨rfl, d', hs', comp_points ?_ ?_, pts_sort hp hperm.1, fr_sort⟩
  · have := hperm.2.2
    have e1 : d'.extract 0 (Po.named o).length = d' := by rw [← hs']; simp
    have e2 : d.extract 0 (Po.named o).length = d := by rw [← hds]; simp
    rw [e1, e2, ← hd] at this
    simpa using this
  · intro i j hij hj
    exact lt_false (hsort i j (Nat.zero_le _) hij (by omega))
theorem named_ok {o : List Po.Nd} : (Po.points o).length ≤ (Po.named o).length := by
  have h : ∀ (xs l : List (Nat × Nat)), (xs.foldl (fun l x => Po.insPt x l) l).length ≤ xs.length + l.length := by
    have hi : ∀ (x : Nat × Nat) (l : List (Nat × Nat)), (Po.insPt x l).length ≤ l.length + 1 := by
      intro x l
      induction l with
      | nil => simp [Po.insPt]
      | cons y l ih =>
        simp only [Po.insPt]
        split
        · simp only [List.length_cons]; omega
        · split <;> simp
    intro xs
    induction xs with
    | nil => intro l; simp
    | cons x xs ih =>
      intro l
      have h1 := ih (Po.insPt x l)
      have h2 := hi x l
      simp only [List.foldl_cons, List.length_cons]
      omega
  have := h (Po.named o) []
  simpa [Po.points] using this
set_option maxRecDepth 1000000 in
set_option maxHeartbeats 2000000 in
theorem po_points (v : Value) (o : List Po.Nd) (w : World) (L : Nat) (hn : RNds w L w.heap.size v o) (hok : Po.OkAll o) (hl : o.length ≤ 100000) :
    Calls Tryz.prog 19 #[.agg #[v]] w (PointsSay w o) := by
  obtain ⟨Q, hQ⟩ : ∃ Q, PointsSay w o = Q := ⟨_, rfl⟩
  rw [hQ]
  have HQ := Lib.hid hQ
  obtain ⟨T, N, R, K, LT⟩ := letters
  obtain ⟨A, c, rfl, hnc, hcm⟩ := hn.form
  obtain ⟨n, hn0⟩ : ∃ n, o.length = n := ⟨_, rfl⟩
  have HN := Lib.hid hn0
  rw [hn0] at hl
  rw [HN.out]
  obtain ⟨i0, hi0, hz0, hz1, hz2⟩ := info_parts pt_info
  obtain ⟨W, hW⟩ : ∃ W, w.alloc (.cells #[.slice A n c] 25) = W := ⟨_, rfl⟩
  obtain ⟨b1, hB, hsz⟩ := one_box W hW
  have p0 := cell_of_row _ _ 0 _ _ _ b1
  simp only [List.getElem?_toArray, List.getElem?_cons_zero] at p0
  have HBW := Lib.hid hB
  have HSZ := Lib.hid hsz
  have HD := Lib.hid (And.intro hn hok)
  clear b1 hB hsz hn hok hn0 hnc hcm hQ
  go_enter Tryz.func19, Tryz.ntmps19
  simp only [LT.load, LT.store]
  go_wp2_with fail
  clear hW p0
  go_loopg [3, 9] n (fun g s3 s9 wr => ∃ k : Nat, k + g = n ∧ s9 = .int .i64 k ∧ Hid (wr.ownsRow W.heap.size 50 2 s3 (Po.named (o.take k)).length (ptFlat (Po.named (o.take k))) ∧ Below W.heap.size W wr))
  case atStart => exact ⟨0, by omega, rfl, Lib.hid ⟨⟨rfl, .inl ⟨rfl, rfl⟩⟩, Below.refl _ _⟩⟩
  case round =>
    obtain ⟨k, hkg, rfl, HE⟩ := hrel
    cases gk with
    | zero =>
      obtain rfl : k = n := by omega
      have hk : ¬ (k : Int) < k := by omega
      have ht : o.take k = o := List.take_of_length_le (by rw [HN.out]; exact Nat.le_refl _)
      have hE := HE.out
      rw [ht] at hE
      have hlen := named_len o
      rcases Nat.eq_zero_or_pos (Po.named o).length with hz | hpos
      · have hnil := List.eq_nil_of_length_eq_zero hz
        obtain ⟨A3, cap3, hv3, hcap3⟩ : ∃ A3 cap3, u3 = .slice A3 0 cap3 ∧ cap3 ≤ maxLen := by
          rw [hnil] at hE
          obtain ⟨⟨-, ⟨h, -⟩ | ⟨g, cap, cur, h1, h2, h3, h4, h5, -⟩⟩, -⟩ := hE
          · exact ⟨none, 0, h, Nat.zero_le _⟩
          · exact ⟨_, cap, h1, h5⟩
        subst hv3
        have HZ := Lib.hid (And.intro (points_nil hnil) (And.intro hE.2 hcap3))
        clear hE ht hz hnil hcap3
        go_wp2_with (first
          | (go_at_call 36; (with_reducible refine (sort_none A3 cap3 _ wr).mono ?_); rintro e w' ⟨rfl, hw⟩; subst hw)
          | (go_at_call 40; (with_reducible refine (pt_compact_none A3 cap3 _).mono ?_); rintro e w' ⟨rfl, hw⟩; subst hw))
        rw [← HQ.out]
        exact ⟨_, rfl, by rw [HZ.out.1]; exact ⟨A3, cap3, rfl, Nat.zero_le _, HZ.out.2.2, fun h => by simp at h⟩, HBW.out.trans (HZ.out.2.1.mono HBW.out.size)⟩
      · obtain ⟨g3, cap3, hv3, hg3, hlt3, hc3, hm3, -⟩ := own_cells hE.1 hpos
        subst hv3
        have hlm : (Po.named o).length ≤ 100000 := by have := HN.out; omega
        have HSO := Lib.hid (sort_some hE.1 hpos hlm)
        have HZ := Lib.hid (And.intro hE.2 (And.intro hg3 (And.intro hlt3 (And.intro hc3 (And.intro hm3 hlm)))))
        clear hE ht hlen hlm hlt3 hg3 hc3 hm3 hpos
        go_wp2_with (go_at_call 36; refine HSO.out.mono ?_)
        rintro e w5 ⟨rfl, d', hds, hcp, hpt, hfr⟩
        have HC := Lib.hid (pt_compact g3 cap3 d' w5 hpt (by rw [hds]; exact HZ.out.2.2.2.2.2) (by rw [hds]; exact HZ.out.2.2.2.1) HZ.out.2.2.2.2.1)
        have HCP := Lib.hid (And.intro hcp hfr)
        have HDS := Lib.hid hds
        clear hcp hpt hfr hds
        rw [HDS.out] at HC
        go_wp2_with (go_at_call 40; refine HC.out.mono ?_)
        intro e w6 hcd
        have HF := Lib.hid (points_close HBW.out HZ.out.1 HZ.out.2.1 HZ.out.2.2.1 HCP.out.2 hcd HCP.out.1 (Nat.le_trans named_ok HZ.out.2.2.2.1) HZ.out.2.2.2.2.1)
        obtain ⟨rfl, -⟩ := hcd
        go_wp2_with fail
        rw [← HQ.out]
        exact HF.out
    | succ g =>
      have hk : (k : Int) < n := by omega
      have hk2 : 0 ≤ (k : Int) ∧ (k : Int) < n := by omega
      obtain ⟨x, hx⟩ : ∃ x, o[k]? = some x := ⟨_, List.getElem?_eq_getElem (by rw [HN.out]; omega)⟩
      obtain ⟨b, off, u, rfl, hbB, hrw, hof⟩ := HD.out.1.at hx
      have hbW : Below w.heap.size w wr := HBW.out.trans (HE.out.2.mono HBW.out.size)
      have hrr : wr.rangeAt b (off + k * 21) (ndVals x u) := fun j v hv => (hbW.cell (p := ⟨b, _, none⟩) hbB).trans (hrw j v hv)
      have hok := HD.out.2 k x hx
      have hld := LT.ldN hrr (ndVals_len hok.dg)
      have la := LT.agg
      have lz := LT.size
      obtain ⟨cs, hcs⟩ : ∃ cs, (ndVals x u).toArray = cs := ⟨_, rfl⟩
      have hst := store_new hok.dg hof.one' wr
      have hcn : cs.size = N := by rw [← hcs, LT.sz]; exact nd_size hok.dg
      obtain ⟨cl0, cl1, cl2, -⟩ := nd_cells x u hok.dg
      rw [hcs] at hld hst cl0 cl1 cl2
      have HX := Lib.hid hx
      have q0 : (wr.alloc (.cells cs 67)).cell? ⟨wr.heap.size, 0, none⟩ = some (.int .i64 x.k) := (cell_of_row _ _ 0 cs _ _ (heap_alloc_new wr _)).trans cl0
      have q1 : (wr.alloc (.cells cs 67)).cell? ⟨wr.heap.size, 1, none⟩ = some (.int .i64 x.n) := (cell_of_row _ _ 1 cs _ _ (heap_alloc_new wr _)).trans cl1
      have q2 : (wr.alloc (.cells cs 67)).cell? ⟨wr.heap.size, 2, none⟩ = some (.int .i64 x.m) := (cell_of_row _ _ 2 cs _ _ (heap_alloc_new wr _)).trans cl2
      clear hrr hrw hbB hcs hx hof hok cl0 cl1 cl2 hbW
      by_cases h7 : x.k = 7
      · go_upto_region 6 with fail
        have HOWN := Lib.hid ((HE.out.1.alloc (.cells cs 67)).alloc (.cells #[.int .i64 x.n, .int .i64 x.m] 50))
        have HNEW := Lib.hid (World.news_of_block (show ((wr.alloc (.cells cs 67)).alloc (.cells #[.int .i64 x.n, .int .i64 x.m] 50)).heap[wr.heap.size + 1]? = _ from by have e := heap_alloc_new (wr.alloc (.cells cs 67)) (.cells #[.int .i64 x.n, .int .i64 x.m] 50); rw [World.size_alloc] at e; exact e))
        have HNE := Lib.hid (fun (u : Value) (hu : u ∈ [Value.int .i64 (x.n : Int), Value.int .i64 (x.m : Int)]) => show u.oneCell' = true by
          simp only [List.mem_cons, List.not_mem_nil, or_false] at hu
          rcases hu with rfl | rfl <;> rfl)
        have hnl := named_len (o.take k)
        have hnl2 : (o.take k).length ≤ 100000 := by rw [List.length_take]; omega
        have HMX := Lib.hid (show (Po.named (o.take k)).length + 1 ≤ maxLen by unfold maxLen; omega)
        have HBY := Lib.hid (show ((Po.named (o.take k)).length + 1) * 16 ≤ 140737488355328 by omega)
        have HBA := Lib.hid (show W.heap.size ≤ ((wr.alloc (.cells cs 67)).alloc (.cells #[.int .i64 x.n, .int .i64 x.m] 50)).heap.size by have := HE.out.2.size; simp; omega)
        clear hst hld hnl hnl2
        go_wp2_with (at_builtin; refine wpList_append_own _ rfl (.tmp 16) (.tmp 22) 36 rfl W.heap.size 50 i0 (.agg #[.int .i64 0, .int .i64 0]) 2 16 Tryz.underlying36 hi0 hz0 hz1 hz2 rfl (by decide) _ _ _ rfl HOWN.out ⟨wr.heap.size + 1, 0, none⟩ 1 1 [.int .i64 x.n, .int .i64 x.m] rfl rfl HNEW.out HNE.out HMX.out HBY.out HBA.out ?_)
        intro v' w5 hown5 hgr5 _
        have HF := Lib.hid (points_next HX.out h7 (((HE.out.2.alloc HE.out.2.size _).alloc (by have := HE.out.2.size; simp; omega) _).grown hgr5 HBA.out (fun j hj => (HE.out.1.lt j hj).1)) hown5)
        clear hown5 hgr5
        go_wp2_with fail
        go_roundg g
        case measure => omega
        case rel => exact ⟨k + 1, by omega, by go_num, HF⟩
      · have h7' : ¬ (x.k : Int) = 7 := by omega
        go_wp2_with fail
        go_roundg g
        case measure => omega
        case rel => exact ⟨k + 1, by omega, by go_num, Lib.hid (by rw [points_same HX.out h7]; exact ⟨HE.out.1.alloc _, HE.out.2.alloc HE.out.2.size _⟩)⟩
end Go.Proofs.YtdolpmmnjndfkaaGreatDoor

namespace Go.Proofs.YtdolpmmnjndfkaaGreatDoor
open Go.RowKit
theorem RPts.at {w : World} {L B : Nat} {A : Option Addr} {n c : Nat} {ps : List (Nat × Nat)} (h : RPts w L B (.slice A n c) ps) {i : Nat} {p : Nat × Nat} (hi : ps[i]? = some p) :
    ∃ b off, A = some ⟨b, off, none⟩ ∧ b < B ∧ w.cell? ⟨b, off + i * 2, none⟩ = some (.int .i64 p.1) ∧ w.cell? ⟨b, off + i * 2 + 1, none⟩ = some (.int .i64 p.2) := by
  obtain ⟨A', c', h1, _, _, h4⟩ := h
  cases h1
  obtain ⟨b, off, hA, _, hlt, hc⟩ := h4 (by have := (List.getElem?_eq_some_iff.1 hi).1; omega)
  exact ⟨b, off, hA, hlt, hc i p hi⟩
theorem list_ne {α : Type} [DecidableEq α] {l m : List α} {i : Nat} {x y : α} (hx : l[i]? = some x) (hy : m[i]? = some y) (h : x ≠ y) : decide (l = m) = false := by
  rw [decide_eq_false_iff_not]
  rintro rfl
  rw [hx] at hy
  simp only [Option.some.injEq] at hy
  exact h hy
set_option maxRecDepth 1000000 in
set_option maxHeartbeats 1000000 in
theorem ref_pairs (v1 v2 : Value) (ps qs : List (Nat × Nat)) (w : World) (L1 L2 : Nat) (h1 : RPts w L1 w.heap.size v1 ps) (h2 : RPts w L2 w.heap.size v2 qs) :
    Calls Tryz.prog 18 #[v1, v2] w fun e w' => e = .returned (.bool (decide (ps = qs))) ∧ ∃ n, w' = w.drewN n := by
  obtain ⟨A1, c1, rfl, hl1, hm1⟩ := h1.form
  obtain ⟨A2, c2, rfl, hl2, hm2⟩ := h2.form
  have H := Lib.hid (And.intro h1 h2)
  clear h1 h2
  obtain ⟨n, hn⟩ : ∃ n, ps.length = n := ⟨_, rfl⟩
  obtain ⟨m, hm⟩ : ∃ m, qs.length = m := ⟨_, rfl⟩
  have HN := Lib.hid (And.intro hn hm)
  rw [hn] at hl1 ⊢
  rw [hm] at hl2 ⊢
  unfold maxLen at hm1 hm2
  have hnm : (n : Int) ≤ 9223372036854775807 := by omega
  have hlim : n ≤ 9223372036854775807 := by omega
  have HLIM := Lib.hid hlim
  clear hn hm hm1 hm2 hl1 hl2 hnm hlim
  by_cases hnm : (n : Int) = m
  · obtain rfl : n = m := by omega
    clear hnm
    go_enter Tryz.func18, Tryz.ntmps18
    go_wp2_with fail
    go_loopg [5] n (fun g s5 wr => ∃ i q : Nat, i + g = n ∧ s5 = .int .i64 i ∧ wr = w.drewN q ∧ Aside (∀ j, j < i → ps[j]? = qs[j]?))
    case atStart => exact ⟨0, 0, by omega, rfl, rfl, fun j hj => by omega⟩
    case round =>
      obtain ⟨i, q, hig, rfl, rfl, hall⟩ := hrel
      cases gk with
      | zero =>
        obtain rfl : i = n := by omega
        have hX := Lib.hid (show decide (ps = qs) = true by
          rw [decide_eq_true_iff]
          apply List.ext_getElem?
          intro j
          by_cases hj : j < i
          · exact hall.out j hj
          · rw [List.getElem?_eq_none (by have := HN.out.1; omega), List.getElem?_eq_none (by have := HN.out.2; omega)])
        have hi : ¬ (i : Int) < i := by omega
        go_wp2_with fail
        go_ret
        exact ⟨ret_bool hX.out.symm, q, rfl⟩
      | succ g =>
        obtain ⟨p, hp⟩ : ∃ p, ps[i]? = some p := ⟨_, List.getElem?_eq_getElem (by have := HN.out.1; omega)⟩
        obtain ⟨r, hr⟩ : ∃ r, qs[i]? = some r := ⟨_, List.getElem?_eq_getElem (by have := HN.out.2; omega)⟩
        obtain ⟨b1, o1, rfl, -, a0, a1⟩ := H.out.1.at hp
        obtain ⟨b2, o2, rfl, -, y0, y1⟩ := H.out.2.at hr
        have hi : (i : Int) < n := by omega
        have hi2 : 0 ≤ (i : Int) ∧ (i : Int) < n := by omega
        have w3 : wrap64 ((i : Int) + 1) = (i : Int) + 1 := by have := HLIM.out; unfold wrap64; omega
        have HPR := Lib.hid (And.intro hp hr)
        obtain ⟨p1, p2⟩ := p
        obtain ⟨r1, r2⟩ := r
        simp only at a0 a1 y0 y1
        have hE := fun w => pt_equal (p1 : Int) p2 r1 r2 w
        clear hp hr
        by_cases e : p1 = r1 ∧ p2 = r2
        · obtain ⟨rfl, rfl⟩ := e
          rw [show decide (((p1 : Int) = p1) ∧ ((p2 : Int) = p2)) = true by simp] at hE
          go_upto_region 6 with fail
          go_region
          go_wp2_with fail
          go_roundg g
          case measure => omega
          case rel => exact ⟨i + 1, q + 1, by omega, by first | rfl | go_num, rfl, fun j hj => by
            by_cases e : j = i
            · subst e; rw [HPR.out.1, HPR.out.2]
            · exact hall.out j (by omega)⟩
        · rw [show decide (((p1 : Int) = r1) ∧ ((p2 : Int) = r2)) = false by
            rw [decide_eq_false_iff_not]; intro h; exact e ⟨by omega, by omega⟩] at hE
          have HX := Lib.hid (list_ne HPR.out.1 HPR.out.2 (by intro h; simp only [Prod.mk.injEq] at h; exact e h))
          go_upto_region 6 with fail
          go_region
          go_wp2_with fail
          go_ret
          exact ⟨ret_bool HX.out.symm, q + 1, rfl⟩
  · have HX := Lib.hid (show decide (ps = qs) = false by
      rw [decide_eq_false_iff_not]
      rintro rfl
      exact hnm (by have := HN.out; omega))
    go_enter Tryz.func18, Tryz.ntmps18
    go_wp2_with fail
    go_ret
    exact ⟨ret_bool HX.out.symm, 0, rfl⟩
end Go.Proofs.YtdolpmmnjndfkaaGreatDoor
