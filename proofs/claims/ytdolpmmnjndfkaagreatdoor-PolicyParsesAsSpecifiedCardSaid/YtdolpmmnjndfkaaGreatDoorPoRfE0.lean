/- Chapter 29, the walk: with of the reference, onto no nodes; joined. -/
import Derived.Test.YtdolpmmnjndfkaaGreatDoorPoRfE
namespace Go.Proofs.YtdolpmmnjndfkaaGreatDoor
open Go.RowKit
set_option maxRecDepth 1000000 in
set_option maxHeartbeats 4000000 in
theorem rf_with0n {A1 : Option Addr} {n1 c1 c : Nat} {k : Int} (x : Po.Nd) (u : Value) (w : World) (hx : x.dg.length = 16) (hu : OfAt w 0 w.heap.size u x.of) :
    Calls Tryz.prog 56 #[.agg #[.slice A1 n1 c1, .int .i64 k, .slice none 0 c], .agg (ndVals x u).toArray] w (WithSays (.slice A1 n1 c1) k [x] w) := by
  have hi0 : (Tryz.prog.info? 67).map (fun i => (i.zero, i.size, i.bytes)) = some (some (.agg nd0), 21, 72) := by kernel_rfl
  obtain ⟨i0, hi, hxx⟩ := Option.map_eq_some_iff.1 hi0
  simp only [Prod.mk.injEq] at hxx
  obtain ⟨hz0, hz1, hz2⟩ := hxx
  clear hi0
  have hone : (ndVals x u).toArray.all (·.oneCell') = true := nd_one hu.one'
  have HX := Lib.hid (And.intro hx hu)
  obtain ⟨xk, xn, xm, xs, xd, xo⟩ := x
  obtain ⟨a0, a1, a2, a3, a4, a5, a6, a7, a8, a9, b0, b1, b2, b3, b4, b5, hdd⟩ := sixteen hx
  simp only at hdd
  subst hdd
  obtain ⟨S, hS⟩ : ∃ S, WithSays (.slice A1 n1 c1) k ([⟨xk, xn, xm, xs, [a0, a1, a2, a3, a4, a5, a6, a7, a8, a9, b0, b1, b2, b3, b4, b5], xo⟩]) w = S := ⟨_, rfl⟩
  rw [hS]
  have hcs : (ndVals ⟨xk, xn, xm, xs, [a0, a1, a2, a3, a4, a5, a6, a7, a8, a9, b0, b1, b2, b3, b4, b5], xo⟩ u).toArray = #[.int .i64 xk, .int .i64 xn, .int .i64 xm, .int .i64 xs, .int .u8 (a0 : Nat), .int .u8 (a1 : Nat), .int .u8 (a2 : Nat), .int .u8 (a3 : Nat), .int .u8 (a4 : Nat), .int .u8 (a5 : Nat), .int .u8 (a6 : Nat), .int .u8 (a7 : Nat), .int .u8 (a8 : Nat), .int .u8 (a9 : Nat), .int .u8 (b0 : Nat), .int .u8 (b1 : Nat), .int .u8 (b2 : Nat), .int .u8 (b3 : Nat), .int .u8 (b4 : Nat), .int .u8 (b5 : Nat), u] := rfl
  rw [hcs] at hone ⊢
  obtain ⟨T, N, R, K, L⟩ := letters
  obtain ⟨W, hW⟩ : ∃ W, ((w.alloc (.cells #[.slice A1 n1 c1, .int .i64 k, .slice none 0 c] 57)).alloc (.cells #[.int .i64 xk, .int .i64 xn, .int .i64 xm, .int .i64 xs, .int .u8 (a0 : Nat), .int .u8 (a1 : Nat), .int .u8 (a2 : Nat), .int .u8 (a3 : Nat), .int .u8 (a4 : Nat), .int .u8 (a5 : Nat), .int .u8 (a6 : Nat), .int .u8 (a7 : Nat), .int .u8 (a8 : Nat), .int .u8 (a9 : Nat), .int .u8 (b0 : Nat), .int .u8 (b1 : Nat), .int .u8 (b2 : Nat), .int .u8 (b3 : Nat), .int .u8 (b4 : Nat), .int .u8 (b5 : Nat), u] 67)).alloc (.cells #[.slice none 0 0, .int .i64 0, .slice none 0 0] 57) = W := ⟨_, rfl⟩
  obtain ⟨w0, w1, w2, hbW, hsW⟩ := three_new3 W hW
  obtain ⟨c0, c1', c2, cz⟩ := three_cells w0
  have HEND : Hid (∀ (w2 W' : World) (g cap : Nat), w2.ownsRow W.heap.size 67 21 (.slice (some ⟨g, 0, none⟩) 1 cap) 1 [.int .i64 xk, .int .i64 xn, .int .i64 xm, .int .i64 xs, .int .u8 (a0 : Nat), .int .u8 (a1 : Nat), .int .u8 (a2 : Nat), .int .u8 (a3 : Nat), .int .u8 (a4 : Nat), .int .u8 (a5 : Nat), .int .u8 (a6 : Nat), .int .u8 (a7 : Nat), .int .u8 (a8 : Nat), .int .u8 (a9 : Nat), .int .u8 (b0 : Nat), .int .u8 (b1 : Nat), .int .u8 (b2 : Nat), .int .u8 (b3 : Nat), .int .u8 (b4 : Nat), .int .u8 (b5 : Nat), u] → W'.heap[g]? = w2.heap[g]? → Below w.heap.size w W' → S (.returned (.agg #[.slice A1 n1 c1, .int .i64 k, .slice (some ⟨g, 0, none⟩) 1 cap])) W') := Lib.hid fun w2 W' g cap h1 h2 h3 => by
    rw [← hS]
    exact with_done (o := []) (us := []) (n := 0) (fun y hy => by simp at hy) HX.out.1 rfl (fun i y v hy hv => by simp at hy) HX.out.2 rfl h1 h2 h3
  have HLD : Hid (∀ W', W'.heap[w.heap.size + 1]? = W.heap[w.heap.size + 1]? → Sem.run Tryz.prog (loadCellsFrom ⟨w.heap.size + 1, 0, none⟩ 0 N #[]) W' = .ok #[.int .i64 xk, .int .i64 xn, .int .i64 xm, .int .i64 xs, .int .u8 (a0 : Nat), .int .u8 (a1 : Nat), .int .u8 (a2 : Nat), .int .u8 (a3 : Nat), .int .u8 (a4 : Nat), .int .u8 (a5 : Nat), .int .u8 (a6 : Nat), .int .u8 (a7 : Nat), .int .u8 (a8 : Nat), .int .u8 (a9 : Nat), .int .u8 (b0 : Nat), .int .u8 (b1 : Nat), .int .u8 (b2 : Nat), .int .u8 (b3 : Nat), .int .u8 (b4 : Nat), .int .u8 (b5 : Nat), u] W') := Lib.hid fun W' h => L.ld (b := w.heap.size + 1) (t := 67) (h.trans w1) rfl
  have h1w : w.heap.size + 1 < W.heap.size := by omega
  -- the worlds of the three orders
  have kD : W.drew.heap[w.heap.size + 1]? = W.heap[w.heap.size + 1]? := rfl
  have UE : Below W.heap.size W (W.alloc (.cells #[] 67)).drew := ((Below.refl _ _).alloc (Nat.le_refl _) _).drew
  have UEX : Below W.heap.size W ((W.alloc (.cells #[] 67)).alloc (.cells #[.int .i64 xk, .int .i64 xn, .int .i64 xm, .int .i64 xs, .int .u8 (a0 : Nat), .int .u8 (a1 : Nat), .int .u8 (a2 : Nat), .int .u8 (a3 : Nat), .int .u8 (a4 : Nat), .int .u8 (a5 : Nat), .int .u8 (a6 : Nat), .int .u8 (a7 : Nat), .int .u8 (a8 : Nat), .int .u8 (a9 : Nat), .int .u8 (b0 : Nat), .int .u8 (b1 : Nat), .int .u8 (b2 : Nat), .int .u8 (b3 : Nat), .int .u8 (b4 : Nat), .int .u8 (b5 : Nat), u] 67)).drew := (((Below.refl _ _).alloc (Nat.le_refl _) _).alloc (by simp) _).drew
  have UXE : Below W.heap.size W ((W.alloc (.cells #[.int .i64 xk, .int .i64 xn, .int .i64 xm, .int .i64 xs, .int .u8 (a0 : Nat), .int .u8 (a1 : Nat), .int .u8 (a2 : Nat), .int .u8 (a3 : Nat), .int .u8 (a4 : Nat), .int .u8 (a5 : Nat), .int .u8 (a6 : Nat), .int .u8 (a7 : Nat), .int .u8 (a8 : Nat), .int .u8 (a9 : Nat), .int .u8 (b0 : Nat), .int .u8 (b1 : Nat), .int .u8 (b2 : Nat), .int .u8 (b3 : Nat), .int .u8 (b4 : Nat), .int .u8 (b5 : Nat), u] 67)).alloc (.cells #[] 67)).drew := (((Below.refl _ _).alloc (Nat.le_refl _) _).alloc (by simp) _).drew
  have kE := UE.block _ h1w
  have eE' : (W.alloc (.cells #[] 67)).heap[W.heap.size]? = some (.cells #[] 67 (0, 0)) := heap_alloc_new W _
  have eE : (W.alloc (.cells #[] 67)).drew.heap[W.heap.size]? = some (.cells #[] 67 (0, 0)) := eE'
  have eEX : ((W.alloc (.cells #[] 67)).alloc (.cells #[.int .i64 xk, .int .i64 xn, .int .i64 xm, .int .i64 xs, .int .u8 (a0 : Nat), .int .u8 (a1 : Nat), .int .u8 (a2 : Nat), .int .u8 (a3 : Nat), .int .u8 (a4 : Nat), .int .u8 (a5 : Nat), .int .u8 (a6 : Nat), .int .u8 (a7 : Nat), .int .u8 (a8 : Nat), .int .u8 (a9 : Nat), .int .u8 (b0 : Nat), .int .u8 (b1 : Nat), .int .u8 (b2 : Nat), .int .u8 (b3 : Nat), .int .u8 (b4 : Nat), .int .u8 (b5 : Nat), u] 67)).drew.heap[W.heap.size]? = some (.cells #[] 67 (0, 0)) := (Below.heap_alloc _ _ _ (by simp)).trans eE'
  have eXE : ((W.alloc (.cells #[.int .i64 xk, .int .i64 xn, .int .i64 xm, .int .i64 xs, .int .u8 (a0 : Nat), .int .u8 (a1 : Nat), .int .u8 (a2 : Nat), .int .u8 (a3 : Nat), .int .u8 (a4 : Nat), .int .u8 (a5 : Nat), .int .u8 (a6 : Nat), .int .u8 (a7 : Nat), .int .u8 (a8 : Nat), .int .u8 (a9 : Nat), .int .u8 (b0 : Nat), .int .u8 (b1 : Nat), .int .u8 (b2 : Nat), .int .u8 (b3 : Nat), .int .u8 (b4 : Nat), .int .u8 (b5 : Nat), u] 67)).alloc (.cells #[] 67)).drew.heap[W.heap.size + 1]? = some (.cells #[] 67 (0, 0)) := by
    have e := heap_alloc_new (W.alloc (.cells #[.int .i64 xk, .int .i64 xn, .int .i64 xm, .int .i64 xs, .int .u8 (a0 : Nat), .int .u8 (a1 : Nat), .int .u8 (a2 : Nat), .int .u8 (a3 : Nat), .int .u8 (a4 : Nat), .int .u8 (a5 : Nat), .int .u8 (a6 : Nat), .int .u8 (a7 : Nat), .int .u8 (a8 : Nat), .int .u8 (a9 : Nat), .int .u8 (b0 : Nat), .int .u8 (b1 : Nat), .int .u8 (b2 : Nat), .int .u8 (b3 : Nat), .int .u8 (b4 : Nat), .int .u8 (b5 : Nat), u] 67)) (.cells #[] 67)
    rw [World.size_alloc] at e
    exact e
  have xEX : ((W.alloc (.cells #[] 67)).alloc (.cells #[.int .i64 xk, .int .i64 xn, .int .i64 xm, .int .i64 xs, .int .u8 (a0 : Nat), .int .u8 (a1 : Nat), .int .u8 (a2 : Nat), .int .u8 (a3 : Nat), .int .u8 (a4 : Nat), .int .u8 (a5 : Nat), .int .u8 (a6 : Nat), .int .u8 (a7 : Nat), .int .u8 (a8 : Nat), .int .u8 (a9 : Nat), .int .u8 (b0 : Nat), .int .u8 (b1 : Nat), .int .u8 (b2 : Nat), .int .u8 (b3 : Nat), .int .u8 (b4 : Nat), .int .u8 (b5 : Nat), u] 67)).drew.heap[W.heap.size + 1]? = some (.cells #[.int .i64 xk, .int .i64 xn, .int .i64 xm, .int .i64 xs, .int .u8 (a0 : Nat), .int .u8 (a1 : Nat), .int .u8 (a2 : Nat), .int .u8 (a3 : Nat), .int .u8 (a4 : Nat), .int .u8 (a5 : Nat), .int .u8 (a6 : Nat), .int .u8 (a7 : Nat), .int .u8 (a8 : Nat), .int .u8 (a9 : Nat), .int .u8 (b0 : Nat), .int .u8 (b1 : Nat), .int .u8 (b2 : Nat), .int .u8 (b3 : Nat), .int .u8 (b4 : Nat), .int .u8 (b5 : Nat), u] 67 (0, 0)) := by
    have e := heap_alloc_new (W.alloc (.cells #[] 67)) (.cells #[.int .i64 xk, .int .i64 xn, .int .i64 xm, .int .i64 xs, .int .u8 (a0 : Nat), .int .u8 (a1 : Nat), .int .u8 (a2 : Nat), .int .u8 (a3 : Nat), .int .u8 (a4 : Nat), .int .u8 (a5 : Nat), .int .u8 (a6 : Nat), .int .u8 (a7 : Nat), .int .u8 (a8 : Nat), .int .u8 (a9 : Nat), .int .u8 (b0 : Nat), .int .u8 (b1 : Nat), .int .u8 (b2 : Nat), .int .u8 (b3 : Nat), .int .u8 (b4 : Nat), .int .u8 (b5 : Nat), u] 67)
    rw [World.size_alloc] at e
    exact e
  have xXE : ((W.alloc (.cells #[.int .i64 xk, .int .i64 xn, .int .i64 xm, .int .i64 xs, .int .u8 (a0 : Nat), .int .u8 (a1 : Nat), .int .u8 (a2 : Nat), .int .u8 (a3 : Nat), .int .u8 (a4 : Nat), .int .u8 (a5 : Nat), .int .u8 (a6 : Nat), .int .u8 (a7 : Nat), .int .u8 (a8 : Nat), .int .u8 (a9 : Nat), .int .u8 (b0 : Nat), .int .u8 (b1 : Nat), .int .u8 (b2 : Nat), .int .u8 (b3 : Nat), .int .u8 (b4 : Nat), .int .u8 (b5 : Nat), u] 67)).alloc (.cells #[] 67)).drew.heap[W.heap.size]? = some (.cells #[.int .i64 xk, .int .i64 xn, .int .i64 xm, .int .i64 xs, .int .u8 (a0 : Nat), .int .u8 (a1 : Nat), .int .u8 (a2 : Nat), .int .u8 (a3 : Nat), .int .u8 (a4 : Nat), .int .u8 (a5 : Nat), .int .u8 (a6 : Nat), .int .u8 (a7 : Nat), .int .u8 (a8 : Nat), .int .u8 (a9 : Nat), .int .u8 (b0 : Nat), .int .u8 (b1 : Nat), .int .u8 (b2 : Nat), .int .u8 (b3 : Nat), .int .u8 (b4 : Nat), .int .u8 (b5 : Nat), u] 67 (0, 0)) := (Below.heap_alloc _ _ _ (by simp)).trans (heap_alloc_new W _)
  have HOA := Lib.hid (own_empty (B := W.heap.size) eE (Nat.le_refl _))
  have HOB := Lib.hid (own_empty (B := W.heap.size) eEX (Nat.le_refl _))
  have HOC := Lib.hid (own_empty (B := W.heap.size) eXE (Nat.le_succ _))
  have HXB := Lib.hid (And.intro UEX xEX)
  have HXC := Lib.hid (And.intro UXE xXE)
  have HXA := Lib.hid UE
  have HKD := Lib.hid (HLD.out _ kD)
  have HKE := Lib.hid (HLD.out _ kE)
  have HL1 := Lib.hid (show 0 + 1 ≤ maxLen by unfold maxLen; omega)
  have HL2 := Lib.hid (show (0 + 1) * 72 ≤ 140737488355328 by omega)
  have HONE := Lib.hid (show ∀ v ∈ ([.int .i64 xk, .int .i64 xn, .int .i64 xm, .int .i64 xs, .int .u8 (a0 : Nat), .int .u8 (a1 : Nat), .int .u8 (a2 : Nat), .int .u8 (a3 : Nat), .int .u8 (a4 : Nat), .int .u8 (a5 : Nat), .int .u8 (a6 : Nat), .int .u8 (a7 : Nat), .int .u8 (a8 : Nat), .int .u8 (a9 : Nat), .int .u8 (b0 : Nat), .int .u8 (b1 : Nat), .int .u8 (b2 : Nat), .int .u8 (b3 : Nat), .int .u8 (b4 : Nat), .int .u8 (b5 : Nat), u] : List Value), v.oneCell' = true from fun v hv => (Array.all_eq_true_iff_forall_mem.1 hone) v (by simpa using hv))
  have HBW := Lib.hid (And.intro hbW (And.intro hsW (And.intro w0 (And.intro w2 h1w))))
  have HSA := Lib.hid (And.intro UE.size (And.intro UEX.size UXE.size))
  have HWB := Lib.hid (World.news_of_block HXB.out.2)
  have HWC := Lib.hid (World.news_of_block HXC.out.2)
  have HSB : Hid (W.heap.size + 1 < ((W.alloc (.cells #[] 67)).alloc (.cells #[.int .i64 xk, .int .i64 xn, .int .i64 xm, .int .i64 xs, .int .u8 (a0 : Nat), .int .u8 (a1 : Nat), .int .u8 (a2 : Nat), .int .u8 (a3 : Nat), .int .u8 (a4 : Nat), .int .u8 (a5 : Nat), .int .u8 (a6 : Nat), .int .u8 (a7 : Nat), .int .u8 (a8 : Nat), .int .u8 (a9 : Nat), .int .u8 (b0 : Nat), .int .u8 (b1 : Nat), .int .u8 (b2 : Nat), .int .u8 (b3 : Nat), .int .u8 (b4 : Nat), .int .u8 (b5 : Nat), u] 67)).drew.heap.size ∧ some (W.heap.size + 1) ≠ (Value.slice (some ⟨W.heap.size, 0, none⟩) 0 0).ownBlock ∧ W.heap.size < ((W.alloc (.cells #[.int .i64 xk, .int .i64 xn, .int .i64 xm, .int .i64 xs, .int .u8 (a0 : Nat), .int .u8 (a1 : Nat), .int .u8 (a2 : Nat), .int .u8 (a3 : Nat), .int .u8 (a4 : Nat), .int .u8 (a5 : Nat), .int .u8 (a6 : Nat), .int .u8 (a7 : Nat), .int .u8 (a8 : Nat), .int .u8 (a9 : Nat), .int .u8 (b0 : Nat), .int .u8 (b1 : Nat), .int .u8 (b2 : Nat), .int .u8 (b3 : Nat), .int .u8 (b4 : Nat), .int .u8 (b5 : Nat), u] 67)).alloc (.cells #[] 67)).drew.heap.size ∧ some W.heap.size ≠ (Value.slice (some ⟨W.heap.size + 1, 0, none⟩) 0 0).ownBlock) := Lib.hid (by
    refine ⟨by simp [World.drew], fun h => ?_, by simp [World.drew]; omega, fun h => ?_⟩
    · have := Option.some.inj h; simp at this
    · have := Option.some.inj h; simp at this)
  have HCC := Lib.hid (And.intro c0 (And.intro c1' (And.intro c2 cz)))
  have hKD := HKD.out
  have hKE := HKE.out
  have h0w : w.heap.size < W.heap.size := by omega
  clear hx hu hS hcs hone w0 w1 w2 hbW hsW kD UE UEX UXE kE eE' eE eEX eXE xEX xXE
  go_enter Tryz.func56, Tryz.ntmps56
  simp only [L.load]
  have la := L.agg
  have lz := L.size
  clear L
  go_upto_region 1 with fail
  clear hW
  go_region_law
    (first
      | (refine step_append_lies _ rfl (.tmp 8) (.tmp 10) 23 rfl W.heap.size 67 i0 _ 21 72 Tryz.underlying23 hi hz0 hz1 hz2 rfl (by decide) _ 0 [] rfl HOB.out ⟨W.heap.size + 1, 0, none⟩ 1 1 [.int .i64 xk, .int .i64 xn, .int .i64 xm, .int .i64 xs, .int .u8 (a0 : Nat), .int .u8 (a1 : Nat), .int .u8 (a2 : Nat), .int .u8 (a3 : Nat), .int .u8 (a4 : Nat), .int .u8 (a5 : Nat), .int .u8 (a6 : Nat), .int .u8 (a7 : Nat), .int .u8 (a8 : Nat), .int .u8 (a9 : Nat), .int .u8 (b0 : Nat), .int .u8 (b1 : Nat), .int .u8 (b2 : Nat), .int .u8 (b3 : Nat), .int .u8 (b4 : Nat), .int .u8 (b5 : Nat), u] rfl rfl HWB.out HONE.out (by decide) HL1.out HL2.out HSA.out.2.1 _ rfl ?_
         intro g2 cap2 w4 hown4 hgrow4 hat4 hlt4
         simp only [Nat.zero_add, List.nil_append] at hown4
         simp only [Nat.zero_add]
         have hu4 := HXB.out.1.grown hgrow4 HSA.out.2.1 (fun j hj => (HOB.out.lt j hj).1)
         have e2 := (hu4.cell (p := ⟨w.heap.size, 2, none⟩) (by have := HBW.out.2.1; simp; omega)).trans HCC.out.2.2.1
         have e3 := (hu4.frozen (p := ⟨w.heap.size, 2, none⟩) (by have := HBW.out.2.1; simp; omega)).trans (HCC.out.2.2.2 2)
         have HU4 := Lib.hid hu4
         have HO4 := Lib.hid (And.intro hown4 hlt4)
         clear hown4 hgrow4 hat4 hlt4 hu4)
      | (refine step_append_lies _ rfl (.tmp 8) (.tmp 10) 23 rfl W.heap.size 67 i0 _ 21 72 Tryz.underlying23 hi hz0 hz1 hz2 rfl (by decide) _ 0 [] rfl HOC.out ⟨W.heap.size, 0, none⟩ 1 1 [.int .i64 xk, .int .i64 xn, .int .i64 xm, .int .i64 xs, .int .u8 (a0 : Nat), .int .u8 (a1 : Nat), .int .u8 (a2 : Nat), .int .u8 (a3 : Nat), .int .u8 (a4 : Nat), .int .u8 (a5 : Nat), .int .u8 (a6 : Nat), .int .u8 (a7 : Nat), .int .u8 (a8 : Nat), .int .u8 (a9 : Nat), .int .u8 (b0 : Nat), .int .u8 (b1 : Nat), .int .u8 (b2 : Nat), .int .u8 (b3 : Nat), .int .u8 (b4 : Nat), .int .u8 (b5 : Nat), u] rfl rfl HWC.out HONE.out (by decide) HL1.out HL2.out HSA.out.2.2 _ rfl ?_
         intro g2 cap2 w4 hown4 hgrow4 hat4 hlt4
         simp only [Nat.zero_add, List.nil_append] at hown4
         simp only [Nat.zero_add]
         have hu4 := HXC.out.1.grown hgrow4 HSA.out.2.2 (fun j hj => (HOC.out.lt j hj).1)
         have e2 := (hu4.cell (p := ⟨w.heap.size, 2, none⟩) (by have := HBW.out.2.1; simp; omega)).trans HCC.out.2.2.1
         have e3 := (hu4.frozen (p := ⟨w.heap.size, 2, none⟩) (by have := HBW.out.2.1; simp; omega)).trans (HCC.out.2.2.2 2)
         have HU4 := Lib.hid hu4
         have HO4 := Lib.hid (And.intro hown4 hlt4)
         clear hown4 hgrow4 hat4 hlt4 hu4))
  all_goals
    have hgt := (HO4.out.1.lt g2 rfl).1
    have hsW := HBW.out.2.1
    have hb5 : Below w.heap.size w (w4.setCell ⟨w.heap.size, 2, none⟩ (.slice (some ⟨g2, 0, none⟩) 1 cap2)) := (HBW.out.1.trans (HU4.out.mono HBW.out.1.size)).setCell (p := ⟨w.heap.size, 2, none⟩) (Nat.le_refl _) _
    have hc5 := set_third (w := w4) (v := .slice (some ⟨g2, 0, none⟩) 1 cap2) ((HU4.out.block w.heap.size (by omega)).trans HBW.out.2.2.1)
    have hr5 := (set_other w4 w.heap.size 2 (.slice (some ⟨g2, 0, none⟩) 1 cap2) (w.heap.size + 1 + 1) (by omega)).trans ((HU4.out.block (w.heap.size + 1 + 1) (by omega)).trans HBW.out.2.2.2.1)
    have hg5 := set_other w4 w.heap.size 2 (.slice (some ⟨g2, 0, none⟩) 1 cap2) g2 (by omega)
    have hgn : g2 ≠ w.heap.size + 1 + 1 := by omega
    clear hgt hsW e2 e3 c0 c1' c2 cz
    revert hb5 hc5 hr5 hg5
    generalize w4.setCell ⟨w.heap.size, 2, none⟩ (.slice (some ⟨g2, 0, none⟩) 1 cap2) = W5
    intro hb5 hc5 hr5 hg5
    obtain ⟨c0, c1', c2, cz⟩ := three_cells hc5
    obtain ⟨d0, d1, d2, dz⟩ := three_cells hr5
    have H5 := Lib.hid (And.intro hb5 (And.intro hg5 (And.intro hgn hr5)))
    clear hb5 hc5 hr5 hg5 hgn
    go_wp2_with fail
    rw [put3]
    refine bodyPost_ret (results_at Tryz.results56 rfl (put_same H5.out.2.2.2 rfl) rfl) rfl ?_
    exact HEND.out w4 _ g2 cap2 HO4.out.1 ((put_other H5.out.2.2.1).trans H5.out.2.1) (put_below H5.out.1 (by omega))
set_option maxRecDepth 1000000 in
set_option maxHeartbeats 4000000 in
theorem rf_with0s {A1 : Option Addr} {aa : Addr} {n1 c1 c : Nat} {k : Int} (x : Po.Nd) (u : Value) (w : World) (hx : x.dg.length = 16) (hu : OfAt w 0 w.heap.size u x.of) :
    Calls Tryz.prog 56 #[.agg #[.slice A1 n1 c1, .int .i64 k, .slice (some aa) 0 c], .agg (ndVals x u).toArray] w (WithSays (.slice A1 n1 c1) k [x] w) := by
  have hi0 : (Tryz.prog.info? 67).map (fun i => (i.zero, i.size, i.bytes)) = some (some (.agg nd0), 21, 72) := by kernel_rfl
  obtain ⟨i0, hi, hxx⟩ := Option.map_eq_some_iff.1 hi0
  simp only [Prod.mk.injEq] at hxx
  obtain ⟨hz0, hz1, hz2⟩ := hxx
  clear hi0
  have hone : (ndVals x u).toArray.all (·.oneCell') = true := nd_one hu.one'
  have HX := Lib.hid (And.intro hx hu)
  obtain ⟨xk, xn, xm, xs, xd, xo⟩ := x
  obtain ⟨a0, a1, a2, a3, a4, a5, a6, a7, a8, a9, b0, b1, b2, b3, b4, b5, hdd⟩ := sixteen hx
  simp only at hdd
  subst hdd
  obtain ⟨S, hS⟩ : ∃ S, WithSays (.slice A1 n1 c1) k ([⟨xk, xn, xm, xs, [a0, a1, a2, a3, a4, a5, a6, a7, a8, a9, b0, b1, b2, b3, b4, b5], xo⟩]) w = S := ⟨_, rfl⟩
  rw [hS]
  have hcs : (ndVals ⟨xk, xn, xm, xs, [a0, a1, a2, a3, a4, a5, a6, a7, a8, a9, b0, b1, b2, b3, b4, b5], xo⟩ u).toArray = #[.int .i64 xk, .int .i64 xn, .int .i64 xm, .int .i64 xs, .int .u8 (a0 : Nat), .int .u8 (a1 : Nat), .int .u8 (a2 : Nat), .int .u8 (a3 : Nat), .int .u8 (a4 : Nat), .int .u8 (a5 : Nat), .int .u8 (a6 : Nat), .int .u8 (a7 : Nat), .int .u8 (a8 : Nat), .int .u8 (a9 : Nat), .int .u8 (b0 : Nat), .int .u8 (b1 : Nat), .int .u8 (b2 : Nat), .int .u8 (b3 : Nat), .int .u8 (b4 : Nat), .int .u8 (b5 : Nat), u] := rfl
  rw [hcs] at hone ⊢
  obtain ⟨T, N, R, K, L⟩ := letters
  obtain ⟨W, hW⟩ : ∃ W, ((w.alloc (.cells #[.slice A1 n1 c1, .int .i64 k, .slice (some aa) 0 c] 57)).alloc (.cells #[.int .i64 xk, .int .i64 xn, .int .i64 xm, .int .i64 xs, .int .u8 (a0 : Nat), .int .u8 (a1 : Nat), .int .u8 (a2 : Nat), .int .u8 (a3 : Nat), .int .u8 (a4 : Nat), .int .u8 (a5 : Nat), .int .u8 (a6 : Nat), .int .u8 (a7 : Nat), .int .u8 (a8 : Nat), .int .u8 (a9 : Nat), .int .u8 (b0 : Nat), .int .u8 (b1 : Nat), .int .u8 (b2 : Nat), .int .u8 (b3 : Nat), .int .u8 (b4 : Nat), .int .u8 (b5 : Nat), u] 67)).alloc (.cells #[.slice none 0 0, .int .i64 0, .slice none 0 0] 57) = W := ⟨_, rfl⟩
  obtain ⟨w0, w1, w2, hbW, hsW⟩ := three_new3 W hW
  obtain ⟨c0, c1', c2, cz⟩ := three_cells w0
  have HEND : Hid (∀ (w2 W' : World) (g cap : Nat), w2.ownsRow W.heap.size 67 21 (.slice (some ⟨g, 0, none⟩) 1 cap) 1 [.int .i64 xk, .int .i64 xn, .int .i64 xm, .int .i64 xs, .int .u8 (a0 : Nat), .int .u8 (a1 : Nat), .int .u8 (a2 : Nat), .int .u8 (a3 : Nat), .int .u8 (a4 : Nat), .int .u8 (a5 : Nat), .int .u8 (a6 : Nat), .int .u8 (a7 : Nat), .int .u8 (a8 : Nat), .int .u8 (a9 : Nat), .int .u8 (b0 : Nat), .int .u8 (b1 : Nat), .int .u8 (b2 : Nat), .int .u8 (b3 : Nat), .int .u8 (b4 : Nat), .int .u8 (b5 : Nat), u] → W'.heap[g]? = w2.heap[g]? → Below w.heap.size w W' → S (.returned (.agg #[.slice A1 n1 c1, .int .i64 k, .slice (some ⟨g, 0, none⟩) 1 cap])) W') := Lib.hid fun w2 W' g cap h1 h2 h3 => by
    rw [← hS]
    exact with_done (o := []) (us := []) (n := 0) (fun y hy => by simp at hy) HX.out.1 rfl (fun i y v hy hv => by simp at hy) HX.out.2 rfl h1 h2 h3
  have HLD : Hid (∀ W', W'.heap[w.heap.size + 1]? = W.heap[w.heap.size + 1]? → Sem.run Tryz.prog (loadCellsFrom ⟨w.heap.size + 1, 0, none⟩ 0 N #[]) W' = .ok #[.int .i64 xk, .int .i64 xn, .int .i64 xm, .int .i64 xs, .int .u8 (a0 : Nat), .int .u8 (a1 : Nat), .int .u8 (a2 : Nat), .int .u8 (a3 : Nat), .int .u8 (a4 : Nat), .int .u8 (a5 : Nat), .int .u8 (a6 : Nat), .int .u8 (a7 : Nat), .int .u8 (a8 : Nat), .int .u8 (a9 : Nat), .int .u8 (b0 : Nat), .int .u8 (b1 : Nat), .int .u8 (b2 : Nat), .int .u8 (b3 : Nat), .int .u8 (b4 : Nat), .int .u8 (b5 : Nat), u] W') := Lib.hid fun W' h => L.ld (b := w.heap.size + 1) (t := 67) (h.trans w1) rfl
  have h1w : w.heap.size + 1 < W.heap.size := by omega
  -- the worlds of the three orders
  have kD : W.drew.heap[w.heap.size + 1]? = W.heap[w.heap.size + 1]? := rfl
  have UE : Below W.heap.size W (W.alloc (.cells #[] 67)).drew := ((Below.refl _ _).alloc (Nat.le_refl _) _).drew
  have UEX : Below W.heap.size W ((W.alloc (.cells #[] 67)).alloc (.cells #[.int .i64 xk, .int .i64 xn, .int .i64 xm, .int .i64 xs, .int .u8 (a0 : Nat), .int .u8 (a1 : Nat), .int .u8 (a2 : Nat), .int .u8 (a3 : Nat), .int .u8 (a4 : Nat), .int .u8 (a5 : Nat), .int .u8 (a6 : Nat), .int .u8 (a7 : Nat), .int .u8 (a8 : Nat), .int .u8 (a9 : Nat), .int .u8 (b0 : Nat), .int .u8 (b1 : Nat), .int .u8 (b2 : Nat), .int .u8 (b3 : Nat), .int .u8 (b4 : Nat), .int .u8 (b5 : Nat), u] 67)).drew := (((Below.refl _ _).alloc (Nat.le_refl _) _).alloc (by simp) _).drew
  have UXE : Below W.heap.size W ((W.alloc (.cells #[.int .i64 xk, .int .i64 xn, .int .i64 xm, .int .i64 xs, .int .u8 (a0 : Nat), .int .u8 (a1 : Nat), .int .u8 (a2 : Nat), .int .u8 (a3 : Nat), .int .u8 (a4 : Nat), .int .u8 (a5 : Nat), .int .u8 (a6 : Nat), .int .u8 (a7 : Nat), .int .u8 (a8 : Nat), .int .u8 (a9 : Nat), .int .u8 (b0 : Nat), .int .u8 (b1 : Nat), .int .u8 (b2 : Nat), .int .u8 (b3 : Nat), .int .u8 (b4 : Nat), .int .u8 (b5 : Nat), u] 67)).alloc (.cells #[] 67)).drew := (((Below.refl _ _).alloc (Nat.le_refl _) _).alloc (by simp) _).drew
  have kE := UE.block _ h1w
  have eE' : (W.alloc (.cells #[] 67)).heap[W.heap.size]? = some (.cells #[] 67 (0, 0)) := heap_alloc_new W _
  have eE : (W.alloc (.cells #[] 67)).drew.heap[W.heap.size]? = some (.cells #[] 67 (0, 0)) := eE'
  have eEX : ((W.alloc (.cells #[] 67)).alloc (.cells #[.int .i64 xk, .int .i64 xn, .int .i64 xm, .int .i64 xs, .int .u8 (a0 : Nat), .int .u8 (a1 : Nat), .int .u8 (a2 : Nat), .int .u8 (a3 : Nat), .int .u8 (a4 : Nat), .int .u8 (a5 : Nat), .int .u8 (a6 : Nat), .int .u8 (a7 : Nat), .int .u8 (a8 : Nat), .int .u8 (a9 : Nat), .int .u8 (b0 : Nat), .int .u8 (b1 : Nat), .int .u8 (b2 : Nat), .int .u8 (b3 : Nat), .int .u8 (b4 : Nat), .int .u8 (b5 : Nat), u] 67)).drew.heap[W.heap.size]? = some (.cells #[] 67 (0, 0)) := (Below.heap_alloc _ _ _ (by simp)).trans eE'
  have eXE : ((W.alloc (.cells #[.int .i64 xk, .int .i64 xn, .int .i64 xm, .int .i64 xs, .int .u8 (a0 : Nat), .int .u8 (a1 : Nat), .int .u8 (a2 : Nat), .int .u8 (a3 : Nat), .int .u8 (a4 : Nat), .int .u8 (a5 : Nat), .int .u8 (a6 : Nat), .int .u8 (a7 : Nat), .int .u8 (a8 : Nat), .int .u8 (a9 : Nat), .int .u8 (b0 : Nat), .int .u8 (b1 : Nat), .int .u8 (b2 : Nat), .int .u8 (b3 : Nat), .int .u8 (b4 : Nat), .int .u8 (b5 : Nat), u] 67)).alloc (.cells #[] 67)).drew.heap[W.heap.size + 1]? = some (.cells #[] 67 (0, 0)) := by
    have e := heap_alloc_new (W.alloc (.cells #[.int .i64 xk, .int .i64 xn, .int .i64 xm, .int .i64 xs, .int .u8 (a0 : Nat), .int .u8 (a1 : Nat), .int .u8 (a2 : Nat), .int .u8 (a3 : Nat), .int .u8 (a4 : Nat), .int .u8 (a5 : Nat), .int .u8 (a6 : Nat), .int .u8 (a7 : Nat), .int .u8 (a8 : Nat), .int .u8 (a9 : Nat), .int .u8 (b0 : Nat), .int .u8 (b1 : Nat), .int .u8 (b2 : Nat), .int .u8 (b3 : Nat), .int .u8 (b4 : Nat), .int .u8 (b5 : Nat), u] 67)) (.cells #[] 67)
    rw [World.size_alloc] at e
    exact e
  have xEX : ((W.alloc (.cells #[] 67)).alloc (.cells #[.int .i64 xk, .int .i64 xn, .int .i64 xm, .int .i64 xs, .int .u8 (a0 : Nat), .int .u8 (a1 : Nat), .int .u8 (a2 : Nat), .int .u8 (a3 : Nat), .int .u8 (a4 : Nat), .int .u8 (a5 : Nat), .int .u8 (a6 : Nat), .int .u8 (a7 : Nat), .int .u8 (a8 : Nat), .int .u8 (a9 : Nat), .int .u8 (b0 : Nat), .int .u8 (b1 : Nat), .int .u8 (b2 : Nat), .int .u8 (b3 : Nat), .int .u8 (b4 : Nat), .int .u8 (b5 : Nat), u] 67)).drew.heap[W.heap.size + 1]? = some (.cells #[.int .i64 xk, .int .i64 xn, .int .i64 xm, .int .i64 xs, .int .u8 (a0 : Nat), .int .u8 (a1 : Nat), .int .u8 (a2 : Nat), .int .u8 (a3 : Nat), .int .u8 (a4 : Nat), .int .u8 (a5 : Nat), .int .u8 (a6 : Nat), .int .u8 (a7 : Nat), .int .u8 (a8 : Nat), .int .u8 (a9 : Nat), .int .u8 (b0 : Nat), .int .u8 (b1 : Nat), .int .u8 (b2 : Nat), .int .u8 (b3 : Nat), .int .u8 (b4 : Nat), .int .u8 (b5 : Nat), u] 67 (0, 0)) := by
    have e := heap_alloc_new (W.alloc (.cells #[] 67)) (.cells #[.int .i64 xk, .int .i64 xn, .int .i64 xm, .int .i64 xs, .int .u8 (a0 : Nat), .int .u8 (a1 : Nat), .int .u8 (a2 : Nat), .int .u8 (a3 : Nat), .int .u8 (a4 : Nat), .int .u8 (a5 : Nat), .int .u8 (a6 : Nat), .int .u8 (a7 : Nat), .int .u8 (a8 : Nat), .int .u8 (a9 : Nat), .int .u8 (b0 : Nat), .int .u8 (b1 : Nat), .int .u8 (b2 : Nat), .int .u8 (b3 : Nat), .int .u8 (b4 : Nat), .int .u8 (b5 : Nat), u] 67)
    rw [World.size_alloc] at e
    exact e
  have xXE : ((W.alloc (.cells #[.int .i64 xk, .int .i64 xn, .int .i64 xm, .int .i64 xs, .int .u8 (a0 : Nat), .int .u8 (a1 : Nat), .int .u8 (a2 : Nat), .int .u8 (a3 : Nat), .int .u8 (a4 : Nat), .int .u8 (a5 : Nat), .int .u8 (a6 : Nat), .int .u8 (a7 : Nat), .int .u8 (a8 : Nat), .int .u8 (a9 : Nat), .int .u8 (b0 : Nat), .int .u8 (b1 : Nat), .int .u8 (b2 : Nat), .int .u8 (b3 : Nat), .int .u8 (b4 : Nat), .int .u8 (b5 : Nat), u] 67)).alloc (.cells #[] 67)).drew.heap[W.heap.size]? = some (.cells #[.int .i64 xk, .int .i64 xn, .int .i64 xm, .int .i64 xs, .int .u8 (a0 : Nat), .int .u8 (a1 : Nat), .int .u8 (a2 : Nat), .int .u8 (a3 : Nat), .int .u8 (a4 : Nat), .int .u8 (a5 : Nat), .int .u8 (a6 : Nat), .int .u8 (a7 : Nat), .int .u8 (a8 : Nat), .int .u8 (a9 : Nat), .int .u8 (b0 : Nat), .int .u8 (b1 : Nat), .int .u8 (b2 : Nat), .int .u8 (b3 : Nat), .int .u8 (b4 : Nat), .int .u8 (b5 : Nat), u] 67 (0, 0)) := (Below.heap_alloc _ _ _ (by simp)).trans (heap_alloc_new W _)
  have HOA := Lib.hid (own_empty (B := W.heap.size) eE (Nat.le_refl _))
  have HOB := Lib.hid (own_empty (B := W.heap.size) eEX (Nat.le_refl _))
  have HOC := Lib.hid (own_empty (B := W.heap.size) eXE (Nat.le_succ _))
  have HXB := Lib.hid (And.intro UEX xEX)
  have HXC := Lib.hid (And.intro UXE xXE)
  have HXA := Lib.hid UE
  have HKD := Lib.hid (HLD.out _ kD)
  have HKE := Lib.hid (HLD.out _ kE)
  have HL1 := Lib.hid (show 0 + 1 ≤ maxLen by unfold maxLen; omega)
  have HL2 := Lib.hid (show (0 + 1) * 72 ≤ 140737488355328 by omega)
  have HONE := Lib.hid (show ∀ v ∈ ([.int .i64 xk, .int .i64 xn, .int .i64 xm, .int .i64 xs, .int .u8 (a0 : Nat), .int .u8 (a1 : Nat), .int .u8 (a2 : Nat), .int .u8 (a3 : Nat), .int .u8 (a4 : Nat), .int .u8 (a5 : Nat), .int .u8 (a6 : Nat), .int .u8 (a7 : Nat), .int .u8 (a8 : Nat), .int .u8 (a9 : Nat), .int .u8 (b0 : Nat), .int .u8 (b1 : Nat), .int .u8 (b2 : Nat), .int .u8 (b3 : Nat), .int .u8 (b4 : Nat), .int .u8 (b5 : Nat), u] : List Value), v.oneCell' = true from fun v hv => (Array.all_eq_true_iff_forall_mem.1 hone) v (by simpa using hv))
  have HBW := Lib.hid (And.intro hbW (And.intro hsW (And.intro w0 (And.intro w2 h1w))))
  have HSA := Lib.hid (And.intro UE.size (And.intro UEX.size UXE.size))
  have HWB := Lib.hid (World.news_of_block HXB.out.2)
  have HWC := Lib.hid (World.news_of_block HXC.out.2)
  have HSB : Hid (W.heap.size + 1 < ((W.alloc (.cells #[] 67)).alloc (.cells #[.int .i64 xk, .int .i64 xn, .int .i64 xm, .int .i64 xs, .int .u8 (a0 : Nat), .int .u8 (a1 : Nat), .int .u8 (a2 : Nat), .int .u8 (a3 : Nat), .int .u8 (a4 : Nat), .int .u8 (a5 : Nat), .int .u8 (a6 : Nat), .int .u8 (a7 : Nat), .int .u8 (a8 : Nat), .int .u8 (a9 : Nat), .int .u8 (b0 : Nat), .int .u8 (b1 : Nat), .int .u8 (b2 : Nat), .int .u8 (b3 : Nat), .int .u8 (b4 : Nat), .int .u8 (b5 : Nat), u] 67)).drew.heap.size ∧ some (W.heap.size + 1) ≠ (Value.slice (some ⟨W.heap.size, 0, none⟩) 0 0).ownBlock ∧ W.heap.size < ((W.alloc (.cells #[.int .i64 xk, .int .i64 xn, .int .i64 xm, .int .i64 xs, .int .u8 (a0 : Nat), .int .u8 (a1 : Nat), .int .u8 (a2 : Nat), .int .u8 (a3 : Nat), .int .u8 (a4 : Nat), .int .u8 (a5 : Nat), .int .u8 (a6 : Nat), .int .u8 (a7 : Nat), .int .u8 (a8 : Nat), .int .u8 (a9 : Nat), .int .u8 (b0 : Nat), .int .u8 (b1 : Nat), .int .u8 (b2 : Nat), .int .u8 (b3 : Nat), .int .u8 (b4 : Nat), .int .u8 (b5 : Nat), u] 67)).alloc (.cells #[] 67)).drew.heap.size ∧ some W.heap.size ≠ (Value.slice (some ⟨W.heap.size + 1, 0, none⟩) 0 0).ownBlock) := Lib.hid (by
    refine ⟨by simp [World.drew], fun h => ?_, by simp [World.drew]; omega, fun h => ?_⟩
    · have := Option.some.inj h; simp at this
    · have := Option.some.inj h; simp at this)
  have HCC := Lib.hid (And.intro c0 (And.intro c1' (And.intro c2 cz)))
  have hKD := HKD.out
  have hKE := HKE.out
  have h0w : w.heap.size < W.heap.size := by omega
  clear hx hu hS hcs hone w0 w1 w2 hbW hsW kD UE UEX UXE kE eE' eE eEX eXE xEX xXE
  go_enter Tryz.func56, Tryz.ntmps56
  simp only [L.load]
  have la := L.agg
  have lz := L.size
  clear L
  go_upto_region 1 with fail
  clear hW
  go_region_law
    (first
      | (refine step_append_lies _ rfl (.tmp 8) (.tmp 10) 23 rfl W.heap.size 67 i0 _ 21 72 Tryz.underlying23 hi hz0 hz1 hz2 rfl (by decide) _ 0 [] rfl HOB.out ⟨W.heap.size + 1, 0, none⟩ 1 1 [.int .i64 xk, .int .i64 xn, .int .i64 xm, .int .i64 xs, .int .u8 (a0 : Nat), .int .u8 (a1 : Nat), .int .u8 (a2 : Nat), .int .u8 (a3 : Nat), .int .u8 (a4 : Nat), .int .u8 (a5 : Nat), .int .u8 (a6 : Nat), .int .u8 (a7 : Nat), .int .u8 (a8 : Nat), .int .u8 (a9 : Nat), .int .u8 (b0 : Nat), .int .u8 (b1 : Nat), .int .u8 (b2 : Nat), .int .u8 (b3 : Nat), .int .u8 (b4 : Nat), .int .u8 (b5 : Nat), u] rfl rfl HWB.out HONE.out (by decide) HL1.out HL2.out HSA.out.2.1 _ rfl ?_
         intro g2 cap2 w4 hown4 hgrow4 hat4 hlt4
         simp only [Nat.zero_add, List.nil_append] at hown4
         simp only [Nat.zero_add]
         have hu4 := HXB.out.1.grown hgrow4 HSA.out.2.1 (fun j hj => (HOB.out.lt j hj).1)
         have e2 := (hu4.cell (p := ⟨w.heap.size, 2, none⟩) (by have := HBW.out.2.1; simp; omega)).trans HCC.out.2.2.1
         have e3 := (hu4.frozen (p := ⟨w.heap.size, 2, none⟩) (by have := HBW.out.2.1; simp; omega)).trans (HCC.out.2.2.2 2)
         have HU4 := Lib.hid hu4
         have HO4 := Lib.hid (And.intro hown4 hlt4)
         clear hown4 hgrow4 hat4 hlt4 hu4)
      | (refine step_append_lies _ rfl (.tmp 8) (.tmp 10) 23 rfl W.heap.size 67 i0 _ 21 72 Tryz.underlying23 hi hz0 hz1 hz2 rfl (by decide) _ 0 [] rfl HOC.out ⟨W.heap.size, 0, none⟩ 1 1 [.int .i64 xk, .int .i64 xn, .int .i64 xm, .int .i64 xs, .int .u8 (a0 : Nat), .int .u8 (a1 : Nat), .int .u8 (a2 : Nat), .int .u8 (a3 : Nat), .int .u8 (a4 : Nat), .int .u8 (a5 : Nat), .int .u8 (a6 : Nat), .int .u8 (a7 : Nat), .int .u8 (a8 : Nat), .int .u8 (a9 : Nat), .int .u8 (b0 : Nat), .int .u8 (b1 : Nat), .int .u8 (b2 : Nat), .int .u8 (b3 : Nat), .int .u8 (b4 : Nat), .int .u8 (b5 : Nat), u] rfl rfl HWC.out HONE.out (by decide) HL1.out HL2.out HSA.out.2.2 _ rfl ?_
         intro g2 cap2 w4 hown4 hgrow4 hat4 hlt4
         simp only [Nat.zero_add, List.nil_append] at hown4
         simp only [Nat.zero_add]
         have hu4 := HXC.out.1.grown hgrow4 HSA.out.2.2 (fun j hj => (HOC.out.lt j hj).1)
         have e2 := (hu4.cell (p := ⟨w.heap.size, 2, none⟩) (by have := HBW.out.2.1; simp; omega)).trans HCC.out.2.2.1
         have e3 := (hu4.frozen (p := ⟨w.heap.size, 2, none⟩) (by have := HBW.out.2.1; simp; omega)).trans (HCC.out.2.2.2 2)
         have HU4 := Lib.hid hu4
         have HO4 := Lib.hid (And.intro hown4 hlt4)
         clear hown4 hgrow4 hat4 hlt4 hu4))
  all_goals
    have hgt := (HO4.out.1.lt g2 rfl).1
    have hsW := HBW.out.2.1
    have hb5 : Below w.heap.size w (w4.setCell ⟨w.heap.size, 2, none⟩ (.slice (some ⟨g2, 0, none⟩) 1 cap2)) := (HBW.out.1.trans (HU4.out.mono HBW.out.1.size)).setCell (p := ⟨w.heap.size, 2, none⟩) (Nat.le_refl _) _
    have hc5 := set_third (w := w4) (v := .slice (some ⟨g2, 0, none⟩) 1 cap2) ((HU4.out.block w.heap.size (by omega)).trans HBW.out.2.2.1)
    have hr5 := (set_other w4 w.heap.size 2 (.slice (some ⟨g2, 0, none⟩) 1 cap2) (w.heap.size + 1 + 1) (by omega)).trans ((HU4.out.block (w.heap.size + 1 + 1) (by omega)).trans HBW.out.2.2.2.1)
    have hg5 := set_other w4 w.heap.size 2 (.slice (some ⟨g2, 0, none⟩) 1 cap2) g2 (by omega)
    have hgn : g2 ≠ w.heap.size + 1 + 1 := by omega
    clear hgt hsW e2 e3 c0 c1' c2 cz
    revert hb5 hc5 hr5 hg5
    generalize w4.setCell ⟨w.heap.size, 2, none⟩ (.slice (some ⟨g2, 0, none⟩) 1 cap2) = W5
    intro hb5 hc5 hr5 hg5
    obtain ⟨c0, c1', c2, cz⟩ := three_cells hc5
    obtain ⟨d0, d1, d2, dz⟩ := three_cells hr5
    have H5 := Lib.hid (And.intro hb5 (And.intro hg5 (And.intro hgn hr5)))
    clear hb5 hc5 hr5 hg5 hgn
    go_wp2_with fail
    rw [put3]
    refine bodyPost_ret (results_at Tryz.results56 rfl (put_same H5.out.2.2.2 rfl) rfl) rfl ?_
    exact HEND.out w4 _ g2 cap2 HO4.out.1 ((put_other H5.out.2.2.1).trans H5.out.2.1) (put_below H5.out.1 (by omega))
theorem rf_with {A1 A : Option Addr} {n1 c1 c : Nat} {k : Int} {o : List Po.Nd} (x : Po.Nd) (u : Value) (w : World) (hn : RNds w 0 w.heap.size (.slice A o.length c) o) (hd : Po.Dg16 o) (hx : x.dg.length = 16) (hu : OfAt w 0 w.heap.size u x.of) (ho : o.length ≤ 100000) :
    Calls Tryz.prog 56 #[.agg #[.slice A1 n1 c1, .int .i64 k, .slice A o.length c], .agg (ndVals x u).toArray] w (WithSays (.slice A1 n1 c1) k (o ++ [x]) w) := by
  cases o with
  | nil => cases A with
    | none => exact rf_with0n x u w hx hu
    | some aa => exact rf_with0s x u w hx hu
  | cons y l => exact rf_with1 x u w hn hd hx hu ho (by simp)
end Go.Proofs.YtdolpmmnjndfkaaGreatDoor
