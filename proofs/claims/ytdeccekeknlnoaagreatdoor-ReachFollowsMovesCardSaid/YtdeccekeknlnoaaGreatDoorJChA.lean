/- Chapter 38: package check on the program of "accept;": classOf, operands. | Chapter 38: package check: formed's closure visit on the program of "accept;". | Chapter 38: package check: formed's closure visit, the block. | Chapter 38: package check: formed. -/
import Derived.Test.YtdeccekeknlnoaaGreatDoorJPrE
import Derived.Deep.OwnRows
import Derived.Laws.CopyOwn
namespace Go.Proofs.YtdeccekeknlnoaaGreatDoor
open Go.RowKit
theorem made_one (x : Value) : madeCells #[x] 1 = #[x] := by
  apply Array.ext
  · simp [madeCells]
  · intro i h1 h2
    have h : i = 0 := by simp [madeCells] at h1; omega
    subst h
    simp [madeCells]
set_option maxRecDepth 1000000 in
set_option maxHeartbeats 600000 in
theorem ch_class16 (w : World) : Calls Tryz.prog 255 #[.int .i64 16] w fun e w' => e = .returned (.int .i64 2) ∧ w' = w := by
  go_enter Tryz.func255, Tryz.ntmps255
  go_wp2_with fail
  go_ret
  exact ⟨rfl, rfl⟩
set_option maxRecDepth 1000000 in
set_option maxHeartbeats 600000 in
theorem ch_class17 (w : World) : Calls Tryz.prog 255 #[.int .i64 17] w fun e w' => e = .returned (.int .i64 3) ∧ w' = w := by
  go_enter Tryz.func255, Tryz.ntmps255
  go_wp2_with fail
  go_ret
  exact ⟨rfl, rfl⟩
set_option maxRecDepth 1000000 in
set_option maxHeartbeats 600000 in
theorem ch_ops16 (w : World) : Calls Tryz.prog 254 #[.int .i64 16, .int .i64 0] w fun e w' => e = .returned (.slice none 0 0) ∧ w' = w := by
  go_enter Tryz.func254, Tryz.ntmps254
  go_wp2_with fail
  go_ret
  exact ⟨rfl, rfl⟩
set_option maxRecDepth 1000000 in
set_option maxHeartbeats 600000 in
theorem ch_mul (w : World) : Calls Tryz.prog 276 #[.int .u64 1, .int .u64 1] w fun e w' => e = .returned (.tuple #[.int .u64 0, .int .u64 1]) ∧ w' = w := by
  go_enter Tryz.func276, Tryz.ntmps276
  go_wp2_with go_in
  go_ret2
  refine ⟨?_, rfl⟩
  kernel_rfl
/-- a new slice of one class -/
def OneCls (w : World) (e : Ending) (w' : World) : Prop := ∃ g, e = .returned (.slice (some ⟨g, 0, none⟩) 1 1) ∧ g < w'.heap.size ∧ w'.cell? ⟨g, 0, none⟩ = some (.int .i64 2) ∧ Below w.heap.size w w'
theorem rep_done (w : World) : OneCls w (.returned (.slice (some ⟨w.heap.size, 0, none⟩) 1 1)) ((w.alloc (.cells #[.int .i64 0] 379)).setRow w.heap.size #[.int .i64 2]) := by
  refine ⟨_, rfl, ?_, ?_, ?_⟩
  · simp [World.setRow]
  · exact (one_cell (setRow_heap _ _ _ #[.int .i64 2] _ _ (heap_alloc_new _ _))).1
  · exact below_setRow (Below.new _) (Nat.le_refl _) _
set_option maxRecDepth 1000000 in
set_option maxHeartbeats 600000 in
theorem ch_repeat (b : Nat) (w : World) (hc : w.cell? ⟨b, 0, none⟩ = some (.int .i64 2)) : Calls Tryz.prog 270 #[.slice (some ⟨b, 0, none⟩) 1 1, .int .i64 1] w (OneCls w) := by
  obtain ⟨S, hS⟩ : ∃ S, OneCls w = S := ⟨_, rfl⟩
  rw [hS]
  have HSS := Lib.hid hS
  have hsrc : ∀ (j : Nat) (v : Value), [Value.int .i64 2][j]? = some v → (w.alloc (.cells #[.int .i64 0] 379)).cell? ((⟨b, 0, none⟩ : Addr).add j) = some v := by
    intro j v hv
    match j, hv with
    | 0, hv =>
      simp at hv
      subst hv
      exact al_cell _ hc
  have h1 : ∀ v ∈ [Value.int .i64 2], v.oneCell' = true := by
    intro u hu
    simp only [List.mem_singleton] at hu
    subst hu
    rfl
  have HSR := Lib.hid hsrc
  clear hc hS hsrc
  go_enter Tryz.func270, Tryz.ntmps270
  have hi0 : (Tryz.prog.info? 379).map (fun i => (i.zero, i.size, i.bytes)) = some (some (.int .i64 0), 1, 8) := by kernel_rfl
  obtain ⟨i0, hi, hz0, hz1, hz2⟩ := info_parts hi0
  go_upto_region 7 with (first
    | (go_at_call 276; refine (ch_mul _).mono ?_; rintro e w2 ⟨rfl, h⟩; have h' := h.symm; subst h')
    | (at_make; refine wpList_make_row _ rfl _ _ 377 rfl 379 i0 (.int .i64 0) Tryz.underlying377 hi hz0 hz1 rfl _ _ 1 rfl rfl (by rw [hz2]; decide) (by decide) ?_; simp only [made_one]))
  refine wp_region_list ?_
  refine wpList_step (fun K hK => ?_)
  go_simp
  refine hK _ _ ?_
  clear hK K
  try simp only [Act.put, List.setIfInBounds_toArray, List.set_cons_zero, List.set_cons_succ]
  refine wpList_step (fun K hK => ?_)
  go_simp
  refine hK _ _ ?_
  clear hK K
  try simp only [Act.put, List.setIfInBounds_toArray, List.set_cons_zero, List.set_cons_succ]
  refine wpList_copy_own rfl (.tmp 31) (.tmp 32) 377 377 rfl 379 Tryz.underlying377 (by kernel_rfl) w.heap.size 0 1 1 ⟨b, 0, none⟩ 1 1 rfl rfl #[.int .i64 0] 379 (heap_alloc_new _ _) [.int .i64 2] rfl HSR.out (by decide) h1 ?_
  change wpList _ _ _ _ _ ((w.alloc (.cells #[.int .i64 0] 379)).setRow w.heap.size #[.int .i64 2])
  have hdone := rep_done w
  rw [HSS.out] at hdone
  have HDN := Lib.hid hdone
  clear hdone
  obtain ⟨X, hX⟩ : ∃ X, (w.alloc (.cells #[.int .i64 0] 379)).setRow w.heap.size #[.int .i64 2] = X := ⟨_, rfl⟩
  rw [hX] at HDN ⊢
  clear hX
  go_wp2_with fail
  refine wp_loop_rounds 1 ?_
  rw [rounds_succ]
  go_wp2_with fail
  exact HDN.out
set_option maxRecDepth 1000000 in
set_option maxHeartbeats 600000 in
theorem ch_ops17 (w : World) : Calls Tryz.prog 254 #[.int .i64 17, .int .i64 1] w (OneCls w) := by
  obtain ⟨S, hS⟩ : ∃ S, OneCls w = S := ⟨_, rfl⟩
  rw [hS]
  have HSS := Lib.hid hS
  clear hS
  have H := Lib.hid (ch_repeat w.heap.size (w.alloc (.cells #[.int .i64 2] 379)) (one_cell (heap_alloc_new _ _)).1)
  go_enter Tryz.func254, Tryz.ntmps254
  go_wp2_with (go_at_call 270; refine H.out.mono ?_; rintro e W ⟨g, rfl, h1, h2, h3⟩)
  rw [← HSS.out]
  exact ⟨g, rfl, h1, h2, (Below.new _).trans (h3.mono (by simp))⟩
end Go.Proofs.YtdeccekeknlnoaaGreatDoor

namespace Go.Proofs.YtdeccekeknlnoaaGreatDoor
open Go.RowKit
/-- the program in its box -/
def PBox (w : World) (pb g c h c' : Nat) : Prop := w.heap[pb]? = some (.cells #[.slice none 0 0, .slice (some ⟨g, 0, none⟩) 2 c, .int .i64 1, .int .i64 0] 217 (0, 0)) ∧ g < w.heap.size ∧ h < w.heap.size ∧
  w.rangeAt g 0 [.int .i64 16, .int .i64 0, .string ⟨#[]⟩, .slice none 0 0, .int .i64 17, .int .i64 0, .string ⟨#[]⟩, .slice (some ⟨h, 0, none⟩) 1 c'] ∧ w.cell? ⟨h, 0, none⟩ = some (.int .i64 0)
theorem PBox.below {w w' : World} {pb g c h c' : Nat} (hp : PBox w pb g c h c') (hb : Below w.heap.size w w') : PBox w' pb g c h c' := by
  obtain ⟨h1, h2, h3, h4, h5⟩ := hp
  exact ⟨(hb.block pb (lt_of_block h1)).trans h1, Nat.lt_of_lt_of_le h2 hb.size, Nat.lt_of_lt_of_le h3 hb.size, fun j u hu => (hb.cell (p := ⟨g, 0 + j, none⟩) h2).trans (h4 j u hu), (hb.cell (p := ⟨h, 0, none⟩) h3).trans h5⟩
theorem PBox.nodes {w : World} {pb g c h c' : Nat} (hp : PBox w pb g c h c') :
    w.cell? ⟨pb, 0, none⟩ = some (.slice none 0 0) ∧ w.cell? ⟨pb, 1, none⟩ = some (.slice (some ⟨g, 0, none⟩) 2 c) ∧ w.cell? ⟨pb, 2, none⟩ = some (.int .i64 1) ∧ w.cell? ⟨pb, 3, none⟩ = some (.int .i64 0) ∧
    w.cell? ⟨g, 0, none⟩ = some (.int .i64 16) ∧ w.cell? ⟨g, 1, none⟩ = some (.int .i64 0) ∧ w.cell? ⟨g, 2, none⟩ = some (.string ⟨#[]⟩) ∧ w.cell? ⟨g, 3, none⟩ = some (.slice none 0 0) ∧
    w.cell? ⟨g, 4, none⟩ = some (.int .i64 17) ∧ w.cell? ⟨g, 5, none⟩ = some (.int .i64 0) ∧ w.cell? ⟨g, 6, none⟩ = some (.string ⟨#[]⟩) ∧ w.cell? ⟨g, 7, none⟩ = some (.slice (some ⟨h, 0, none⟩) 1 c') ∧ w.cell? ⟨h, 0, none⟩ = some (.int .i64 0) := by
  obtain ⟨h1, h2, h3, h4, h5⟩ := hp
  obtain ⟨a0, a1, a2, a3, -⟩ := four_cells h1
  have hh := fun j u hu => (show w.cell? ⟨g, j, none⟩ = some u by have := h4 j u hu; rwa [Nat.zero_add] at this)
  exact ⟨a0, a1, a2, a3, hh 0 _ rfl, hh 1 _ rfl, hh 2 _ rfl, hh 3 _ rfl, hh 4 _ rfl, hh 5 _ rfl, hh 6 _ rfl, hh 7 _ rfl, h5⟩
/-- what visiting a node leaves -/
def Visited (nb : Nat) (n : Int) (w : World) (e : Ending) (w' : World) : Prop := e = .returned (.tuple #[]) ∧ w'.heap[nb]? = some (.cells #[.int .i64 n] 3 (0, 0)) ∧ Ate nb w w'
set_option maxRecDepth 1000000 in
set_option maxHeartbeats 600000 in
theorem ch_visit0 (pb g c h c' okb ptb vb nb : Nat) (w : World) (hp : PBox w pb g c h c') (hok : w.heap[okb]? = some (.cells #[.bool true] 4 (0, 0))) (hnb : w.heap[nb]? = some (.cells #[.int .i64 0] 3 (0, 0))) :
    Calls Tryz.prog 253 #[.int .i64 0, .pointer (some ⟨pb, 0, none⟩), .pointer (some ⟨okb, 0, none⟩), .pointer (some ⟨ptb, 0, none⟩), .pointer (some ⟨vb, 0, none⟩), .pointer (some ⟨nb, 0, none⟩)] w (Visited nb 1 w) := by
  obtain ⟨S, hS⟩ : ∃ S, Visited nb 1 w = S := ⟨_, rfl⟩
  rw [hS]
  have HSS := Lib.hid hS
  have hb0 := Below.new (w := w) (.cells #[.int .i64 16, .int .i64 0, .string ⟨#[]⟩, .slice none 0 0] 271)
  obtain ⟨-, m1, -, -, n0, n1, n2, n3, -⟩ := hp.nodes
  have k1 := (hb0.block _ (lt_of_block hok)).trans hok
  have k2 := (hb0.block _ (lt_of_block hnb)).trans hnb
  have e0 := heap_alloc_new w (.cells #[.int .i64 16, .int .i64 0, .string ⟨#[]⟩, .slice none 0 0] 271)
  have hne : nb ≠ okb := by rintro rfl; rw [hok] at hnb; cases hnb
  have HB := Lib.hid (And.intro hb0 (And.intro (lt_of_block hnb) (And.intro (lt_of_block hok) (And.intro k1 (And.intro k2 (And.intro e0 hne))))))
  clear hS hp hok hnb hb0 k1 k2 e0 hne
  go_enter Tryz.func253, Tryz.ntmps253
  go_upto_region 1 with fail
  obtain ⟨W0, hW0⟩ : ∃ X, w.alloc (.cells #[.int .i64 16, .int .i64 0, .string ⟨#[]⟩, .slice none 0 0] 271) = X := ⟨_, rfl⟩
  rw [hW0] at HB ⊢
  clear hW0 m1 n0 n1 n2 n3
  obtain ⟨y0, y1, y2, y3, yf⟩ := four_cells HB.out.2.2.2.2.2.1
  obtain ⟨o0, of⟩ := one_cell HB.out.2.2.2.1
  obtain ⟨x0, xf⟩ := one_cell HB.out.2.2.2.2.1
  go_upto_region 7 with (first
    | (go_at_call 254; refine (ch_ops16 _).mono ?_; rintro e W1 ⟨rfl, h⟩; have h' := h.symm; subst h')
    | (go_at_call 255; refine (ch_class16 _).mono ?_; rintro e W2 ⟨rfl, h⟩; have h' := h.symm; subst h'))
  go_upto_region 8 with fail
  refine wp_loop_rounds 1 ?_
  rw [rounds_succ]
  go_upto_region 15 with fail
  obtain ⟨h1, h2, h3, h4, h5, h6, h7⟩ := HB.out
  have g1 : (W0.setCell ⟨okb, 0, none⟩ (.bool true)).heap[okb]? = W0.heap[okb]? := (set_one h4).trans h4.symm
  have g2 : ∀ k, (W0.setCell ⟨okb, 0, none⟩ (.bool true)).heap[k]? = W0.heap[k]? := fun k => by
    by_cases e : k = okb
    · rw [e, g1]
    · exact set_other _ _ _ _ _ e
  have hsz1 : (W0.setCell ⟨okb, 0, none⟩ (.bool true)).heap.size = W0.heap.size := by simp [World.setCell]
  obtain ⟨W1, hW1⟩ : ∃ X, W0.setCell ⟨okb, 0, none⟩ (.bool true) = X := ⟨_, rfl⟩
  have ho1 : W1.os = W0.os ∧ W1.tape = W0.tape ∧ W1.output = W0.output := by rw [← hW1]; exact ⟨rfl, rfl, rfl⟩
  rw [hW1] at g1 g2 hsz1 ⊢
  have k2 := (g2 nb).trans h5
  obtain ⟨x1, xf1⟩ := one_cell k2
  have HZ := Lib.hid (And.intro k2 (show Ate nb w W1 from ⟨ho1.1.trans h1.os, ho1.2.1.trans h1.tape, ho1.2.2.trans h1.output, by have := h1.size; omega, fun k hk _ => (g2 k).trans (h1.block k hk)⟩))
  clear h1 h2 h3 h4 h5 h6 h7 g1 g2 hsz1 ho1 hW1 k2 x0 xf o0 of
  go_wp2_with fail
  go_end0
  rw [← HSS.out]
  obtain ⟨k2, ha⟩ := HZ.out
  exact ⟨rfl, set_one k2, ⟨ha.os, ha.tape, ha.output, by have := ha.size; simp [World.setCell]; omega, fun k hk hne => (set_other _ _ _ _ _ hne).trans (ha.block k hk hne)⟩⟩
end Go.Proofs.YtdeccekeknlnoaaGreatDoor

namespace Go.Proofs.YtdeccekeknlnoaaGreatDoor
open Go.RowKit
set_option maxRecDepth 1000000 in
set_option maxHeartbeats 600000 in
theorem ch_visit1 (pb g c h c' okb ptb vb nb : Nat) (w : World) (hp : PBox w pb g c h c') (hok : w.heap[okb]? = some (.cells #[.bool true] 4 (0, 0))) (hnb : w.heap[nb]? = some (.cells #[.int .i64 0] 3 (0, 0)))
    (hv : w.heap[vb]? = some (.cells #[.func (.func 253) #[] #[.pointer (some ⟨pb, 0, none⟩), .pointer (some ⟨okb, 0, none⟩), .pointer (some ⟨ptb, 0, none⟩), .pointer (some ⟨vb, 0, none⟩), .pointer (some ⟨nb, 0, none⟩)]] 313 (0, 0))) :
    Calls Tryz.prog 253 #[.int .i64 1, .pointer (some ⟨pb, 0, none⟩), .pointer (some ⟨okb, 0, none⟩), .pointer (some ⟨ptb, 0, none⟩), .pointer (some ⟨vb, 0, none⟩), .pointer (some ⟨nb, 0, none⟩)] w (Visited nb 2 w) := by
  obtain ⟨S, hS⟩ : ∃ S, Visited nb 2 w = S := ⟨_, rfl⟩
  rw [hS]
  have HSS := Lib.hid hS
  have hb0 := Below.new (w := w) (.cells #[.int .i64 17, .int .i64 0, .string ⟨#[]⟩, .slice (some ⟨h, 0, none⟩) 1 c'] 271)
  obtain ⟨-, m1, -, -, -, -, -, -, n0, n1, n2, n3, -⟩ := hp.nodes
  have e0 := heap_alloc_new w (.cells #[.int .i64 17, .int .i64 0, .string ⟨#[]⟩, .slice (some ⟨h, 0, none⟩) 1 c'] 271)
  have HB := Lib.hid (And.intro hb0 (And.intro hp (And.intro hok (And.intro hnb (And.intro hv e0)))))
  clear hS hp hok hnb hb0 e0 hv
  go_enter Tryz.func253, Tryz.ntmps253
  go_upto_region 1 with fail
  obtain ⟨W0, hW0⟩ : ∃ X, w.alloc (.cells #[.int .i64 17, .int .i64 0, .string ⟨#[]⟩, .slice (some ⟨h, 0, none⟩) 1 c'] 271) = X := ⟨_, rfl⟩
  rw [hW0] at HB ⊢
  clear hW0 m1 n0 n1 n2 n3
  obtain ⟨y0, y1, y2, y3, yf⟩ := four_cells HB.out.2.2.2.2.2
  go_wp2_with (first
    | (go_at_call 254; refine (ch_ops17 _).mono ?_; rintro e W1 ⟨g1, rfl, hg1, hc1, hb1⟩; have z0 := (hb1.cell (p := ⟨w.heap.size, 0, none⟩) (lt_of_block HB.out.2.2.2.2.2)).trans y0; have z1 := (hb1.cell (p := ⟨w.heap.size, 1, none⟩) (lt_of_block HB.out.2.2.2.2.2)).trans y1; have z3 := (hb1.cell (p := ⟨w.heap.size, 3, none⟩) (lt_of_block HB.out.2.2.2.2.2)).trans y3)
    | (go_at_call 255; refine (ch_class17 _).mono ?_; rintro e W2 ⟨rfl, hq⟩; have hq' := hq.symm; subst hq'))
  obtain ⟨h1, h2, h3, h4, h5, h6⟩ := HB.out
  have hbw : Below w.heap.size w W1 := h1.trans (hb1.mono h1.size)
  have p1 := h2.below hbw
  have k3 := (hbw.block _ (lt_of_block h3)).trans h3
  have k4 := (hbw.block _ (lt_of_block h4)).trans h4
  have k5 := (hbw.block _ (lt_of_block h5)).trans h5
  obtain ⟨-, m1, -, -, n0, -, -, -, -, -, -, -, n8⟩ := p1.nodes
  obtain ⟨o0, of⟩ := one_cell k3
  have H1 := Lib.hid (And.intro hbw (And.intro p1 (And.intro k3 (And.intro k4 (And.intro k5 (show nb ≠ okb by rintro rfl; rw [h3] at h4; cases h4))))))
  clear h1 h2 h3 h4 h5 h6 hbw p1 k3 k4 k5 y0 y1 y2 y3 yf HB hb1
  refine wp_loop_rounds 2 ?_
  rw [rounds_succ]
  go_upto_region 10 with fail
  have hk : ∀ k, (W1.setCell ⟨okb, 0, none⟩ (.bool true)).heap[k]? = W1.heap[k]? := fun k => by
    by_cases e : k = okb
    · rw [e]; exact (set_one H1.out.2.2.1).trans H1.out.2.2.1.symm
    · exact set_other _ _ _ _ _ e
  have hcc : ∀ a, (W1.setCell ⟨okb, 0, none⟩ (.bool true)).drew.cell? a = W1.cell? a := fun a => World.cell?_of_block (hk a.block)
  have u0 := (hcc _).trans o0
  have u1 := (hcc _).trans m1
  have u2 := (hcc _).trans n0
  have u3 := (hcc _).trans hc1
  have HK := Lib.hid hk
  clear hk hcc
  go_region_held3 (fun w' => w'.cell? ⟨okb, 0, none⟩ = some (.bool true) ∧ w'.frozen? ⟨okb, 0, none⟩ = false ∧ w'.cell? ⟨pb, 1, none⟩ = some (.slice (some ⟨g, 0, none⟩) 2 c) ∧ w'.cell? ⟨g, 0, none⟩ = some (.int .i64 16) ∧ w'.cell? ⟨g1, 0, none⟩ = some (.int .i64 2)) ((go_split_ands; first | assumption | go_keep | (simp [*]; done)))
    (first | (go_at_call 255; (with_reducible refine (ch_class16 _).mono ?_); rintro e W2 ⟨rfl, hq⟩; have hq' := hq.symm; subst hq'))
  obtain ⟨W2, hW2⟩ : ∃ X, (W1.setCell ⟨okb, 0, none⟩ (.bool true)).drew = X := ⟨_, rfl⟩
  have hh2 : ∀ k : Nat, W2.heap[k]? = W1.heap[k]? := by rw [← hW2]; exact HK.out
  have ho2 : W2.os = W1.os ∧ W2.tape = W1.tape ∧ W2.output = W1.output ∧ W2.heap.size = W1.heap.size := by rw [← hW2]; exact ⟨rfl, rfl, rfl, by simp [World.setCell]⟩
  rw [hW2]
  have hb2 : Below W1.heap.size W1 W2 := ⟨ho2.1, ho2.2.1, ho2.2.2.1, by omega, fun k _ => hh2 k⟩
  obtain ⟨hbw, p1, k3, k4, k5, hne⟩ := H1.out
  have p2 := p1.below hb2
  have j3 := (hh2 _).trans k3
  have j4 := (hh2 _).trans k4
  have j5 := (hh2 _).trans k5
  have hbw2 := hbw.trans (hb2.mono hbw.size)
  obtain ⟨v0, -⟩ := one_cell j5
  obtain ⟨l0, -⟩ := one_cell j3
  have HV := Lib.hid (ch_visit0 pb g c h c' okb ptb vb nb W2 p2 j3 j4)
  have H2 := Lib.hid (And.intro hbw2 (And.intro j3 (And.intro (lt_of_block j4) hne)))
  clear hW2 hh2 ho2 hb2 hbw p1 k3 k4 k5 hne p2 j3 j4 j5 hbw2 u0 u1 u2 u3 o0 of m1 n0 n8 H1 HK z0 z1 z3 hc1 hg1
  go_upto_region 13 with (go_at_call 253; refine HV.out.mono ?_; rintro e W3 ⟨rfl, hn3, ha3⟩)
  obtain ⟨hbw2, j3, hlt, hne⟩ := H2.out
  have i3 := (ha3.block _ (lt_of_block j3) (Ne.symm hne)).trans j3
  obtain ⟨o3, of3⟩ := one_cell i3
  obtain ⟨x3, xf3⟩ := one_cell hn3
  have H3 := Lib.hid (And.intro hbw2 (And.intro i3 (And.intro hn3 (And.intro ha3 hne))))
  clear hbw2 j3 hlt hne i3 hn3 ha3 l0 v0
  go_wp2_with fail
  rw [rounds_succ]
  go_upto_region 15 with fail
  obtain ⟨hbw2, i3, hn3, ha3, hne⟩ := H3.out
  have g2 : ∀ k : Nat, (W3.setCell ⟨okb, 0, none⟩ (.bool true)).heap[k]? = W3.heap[k]? := fun k => by
    by_cases e : k = okb
    · rw [e]; exact (set_one i3).trans i3.symm
    · exact set_other _ _ _ _ _ e
  obtain ⟨W4, hW4⟩ : ∃ X, W3.setCell ⟨okb, 0, none⟩ (.bool true) = X := ⟨_, rfl⟩
  have ho4 : W4.os = W3.os ∧ W4.tape = W3.tape ∧ W4.output = W3.output ∧ W4.heap.size = W3.heap.size := by rw [← hW4]; exact ⟨rfl, rfl, rfl, by simp [World.setCell]⟩
  rw [hW4] at g2 ⊢
  have k2 := (g2 nb).trans hn3
  obtain ⟨x4, xf4⟩ := one_cell k2
  have HZ := Lib.hid (And.intro k2 (show Ate nb w W4 from ⟨ho4.1.trans (ha3.os.trans hbw2.os), ho4.2.1.trans (ha3.tape.trans hbw2.tape), ho4.2.2.1.trans (ha3.output.trans hbw2.output), by have := ha3.size; have := hbw2.size; omega, fun k hk hn => (g2 k).trans ((ha3.block k (by have := hbw2.size; omega) hn).trans (hbw2.block k hk))⟩))
  clear hbw2 i3 hn3 ha3 hne g2 ho4 hW4 k2 x3 xf3 o3 of3
  go_wp2_with fail
  go_end0
  rw [← HSS.out]
  obtain ⟨k2, ha⟩ := HZ.out
  exact ⟨rfl, set_one k2, ⟨ha.os, ha.tape, ha.output, by have := ha.size; simp [World.setCell]; omega, fun k hk hne => (set_other _ _ _ _ _ hne).trans (ha.block k hk hne)⟩⟩
end Go.Proofs.YtdeccekeknlnoaaGreatDoor

namespace Go.Proofs.YtdeccekeknlnoaaGreatDoor
open Go.RowKit
set_option maxRecDepth 1000000 in
set_option maxHeartbeats 600000 in
theorem ch_index0 (f : Value) (w : World) : Calls Tryz.prog 271 #[.slice none 0 0, f] w fun e w' => e = .returned (.int .i64 (-1)) ∧ w' = w := by
  go_enter Tryz.func271, Tryz.ntmps271
  go_wp2_with fail
  refine wp_loop_rounds 1 ?_
  rw [rounds_succ]
  go_wp2_with fail
  go_ret
  exact ⟨rfl, rfl⟩
set_option maxRecDepth 1000000 in
set_option maxHeartbeats 600000 in
theorem ch_contains0 (f : Value) (w : World) : Calls Tryz.prog 257 #[.slice none 0 0, f] w fun e w' => e = .returned (.bool false) ∧ w' = w := by
  go_enter Tryz.func257, Tryz.ntmps257
  go_wp2_with (go_at_call 271; refine (ch_index0 _ _).mono ?_; rintro e w' ⟨rfl, rfl⟩)
  go_ret
  exact ⟨rfl, rfl⟩
theorem four_boxes {w : World} {o1 o2 o3 o4 : Obj} : ∀ W, (((w.alloc o1).alloc o2).alloc o3).alloc o4 = W → W.heap[w.heap.size]? = some o1 ∧ W.heap[w.heap.size + 1]? = some o2 ∧ W.heap[w.heap.size + 1 + 1]? = some o3 ∧ W.heap[w.heap.size + 1 + 1 + 1]? = some o4 ∧ Below w.heap.size w W ∧ W.heap.size = w.heap.size + 4 := by
  rintro W rfl
  refine ⟨?_, ?_, ?_, ?_, ?_, by simp⟩
  · exact (Below.heap_alloc _ _ _ (by simp; omega)).trans ((Below.heap_alloc _ _ _ (by simp; omega)).trans ((Below.heap_alloc _ _ _ (by simp)).trans (heap_alloc_new _ _)))
  · refine (Below.heap_alloc _ _ _ (by simp)).trans ((Below.heap_alloc _ _ _ (by simp)).trans ?_)
    have := heap_alloc_new (w.alloc o1) o2
    rwa [World.size_alloc] at this
  · refine (Below.heap_alloc _ _ _ (by simp)).trans ?_
    have := heap_alloc_new ((w.alloc o1).alloc o2) o3
    rwa [World.size_alloc, World.size_alloc] at this
  · have := heap_alloc_new (((w.alloc o1).alloc o2).alloc o3) o4
    rwa [World.size_alloc, World.size_alloc, World.size_alloc] at this
  · exact ((((Below.refl _ _).alloc (Nat.le_refl _) _).alloc (by simp) _).alloc (by simp; omega) _).alloc (by simp; omega) _
set_option maxRecDepth 1000000 in
set_option maxHeartbeats 600000 in
theorem ch_formed (v : Value) (w : World) (hp : ProgV w v) : Calls Tryz.prog 224 #[v] w fun e w' => e = .returned (.bool true) ∧ Below w.heap.size w w' := by
  have hmf : ∀ (fn : Fn) (first cap : Array Value) (w : World), (Instr.makeFunc fn first cap).run Tryz.prog w = .ok (.func fn first cap) w := fun _ _ _ _ => rfl
  obtain ⟨S, hS⟩ : ∃ S : Ending → World → Prop, (fun e w' => e = .returned (.bool true) ∧ Below w.heap.size w w') = S := ⟨_, rfl⟩
  rw [hS]
  have HSS := Lib.hid hS
  obtain ⟨g, c, h, c', rfl, hg, hh, hr, hc⟩ := hp
  have e0 := heap_alloc_new w (.cells #[.slice none 0 0, .slice (some ⟨g, 0, none⟩) 2 c, .int .i64 1, .int .i64 0] 217)
  have hb0 := Below.new (w := w) (.cells #[.slice none 0 0, .slice (some ⟨g, 0, none⟩) 2 c, .int .i64 1, .int .i64 0] 217)
  obtain ⟨W0, hW0⟩ : ∃ X, w.alloc (.cells #[.slice none 0 0, .slice (some ⟨g, 0, none⟩) 2 c, .int .i64 1, .int .i64 0] 217) = X := ⟨_, rfl⟩
  have hs0 : W0.heap.size = w.heap.size + 1 := by rw [← hW0]; simp
  rw [hW0] at e0 hb0
  have hp0 : PBox W0 w.heap.size g c h c' := ⟨e0, by omega, by omega, fun j u hu => (hb0.cell (p := ⟨g, 0 + j, none⟩) hg).trans (hr j u hu), (hb0.cell (p := ⟨h, 0, none⟩) hh).trans hc⟩
  obtain ⟨m0, m1, m2, m3, n0, -, -, -, n4, -⟩ := hp0.nodes
  have H0 := Lib.hid (And.intro hb0 (And.intro hs0 hp0))
  clear hS hg hh hr hc e0 hb0 hp0 hs0
  go_enter Tryz.func224, Tryz.ntmps224
  go_upto_region 7 with fail
  obtain ⟨W1, hW1⟩ : ∃ X, ((((W0.alloc (.cells #[.int .i64 0] 3)).alloc (.cells #[.int .i64 0] 3)).alloc (.cells #[.bool true] 4)).alloc (.cells #[.func (.func 253) #[] #[.pointer (some ⟨w.heap.size, 0, none⟩), .pointer (some ⟨W0.heap.size + 1 + 1, 0, none⟩), .pointer (some ⟨W0.heap.size + 1, 0, none⟩), .pointer (some ⟨W0.heap.size + 1 + 1 + 1, 0, none⟩), .pointer (some ⟨W0.heap.size, 0, none⟩)]] 313)) = X := ⟨_, rfl⟩
  obtain ⟨a0, a1, a2, a3, ha, hs1⟩ := four_boxes W1 hW1
  rw [hW1]
  clear hW1
  obtain ⟨hb0, hs0, hp0⟩ := H0.out
  have p1 := hp0.below ha
  obtain ⟨v1, -⟩ := one_cell a3
  have hbw : Below w.heap.size w W1 := hb0.trans (ha.mono hb0.size)
  have HV := Lib.hid (ch_visit1 w.heap.size g c h c' (W0.heap.size + 1 + 1) (W0.heap.size + 1) (W0.heap.size + 1 + 1 + 1) W0.heap.size W1 p1 a2 a0 a3)
  have H1 := Lib.hid (And.intro hbw (And.intro p1 (And.intro a1 (And.intro a2 (And.intro hs0 hs1)))))
  clear hb0 hs0 hp0 p1 a0 a1 a2 a3 ha hs1 hbw m0 m1 m2 m3 n0 n4 H0
  go_upto_region 8 with (go_at_call 253; refine HV.out.mono ?_; rintro e W2 ⟨rfl, hn2, ha2⟩)
  obtain ⟨hbw, p1, a1, a2, hs0, hs1⟩ := H1.out
  have b1 := (ha2.block _ (by omega) (by omega)).trans a1
  have b2 := (ha2.block _ (by omega) (by omega)).trans a2
  have b3 := (ha2.block _ (lt_of_block p1.1) (by omega)).trans p1.1
  obtain ⟨x0, -⟩ := one_cell hn2
  obtain ⟨x1, -⟩ := one_cell b1
  obtain ⟨x2, -⟩ := one_cell b2
  obtain ⟨z0, z1, z2, z3, -⟩ := four_cells b3
  have hfin : Below w.heap.size w W2 := ⟨ha2.os.trans hbw.os, ha2.tape.trans hbw.tape, ha2.output.trans hbw.output, by have := ha2.size; have := hbw.size; omega, fun k hk => (ha2.block k (by omega) (by omega)).trans (hbw.block k hk)⟩
  have HF := Lib.hid hfin
  clear hbw p1 a1 a2 hs0 hs1 b1 b2 b3 hn2 ha2 hfin v1
  go_wp2_with (go_at_call 257; refine (ch_contains0 _ _).mono ?_; rintro e W3 ⟨rfl, hq⟩; have hq' := hq.symm; subst hq')
  rw [← HSS.out]
  exact ⟨rfl, HF.out⟩
end Go.Proofs.YtdeccekeknlnoaaGreatDoor
