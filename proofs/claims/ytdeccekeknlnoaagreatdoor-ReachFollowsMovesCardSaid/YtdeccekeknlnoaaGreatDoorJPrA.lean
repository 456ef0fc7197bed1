/- Chapter 38: package parse on "accept;": is, may, must. | Chapter 38: package parse on "accept;": may, must. | Chapter 38: package parse: a node appended. | Chapter 38: package parse: the statement "accept;". -/
import Derived.Test.YtdeccekeknlnoaaGreatDoorJDiD
import Derived.Test.YtdeccekeknlnoaaGreatDoorJPoPaA
import Derived.Test.YtdeccekeknlnoaaGreatDoorJPoAdd
import Derived.Deep.RegionHeld3
import Derived.Deep.AppendLies
import Derived.Deep.RegionLaw
namespace Go.Proofs.YtdeccekeknlnoaaGreatDoor
open Go.RowKit
/-- the parser at its block -/
def PrAt (w : World) (p : Nat) (vl : Value) (i : Nat) (vn : Value) : Prop := w.heap[p]? = some (.cells #[vl, .int .i64 i, .slice none 0 0, vn, .int .i64 0, .int .i64 0] 267 (0, 0))
theorem PrAt.cells {w : World} {p : Nat} {vl : Value} {i : Nat} {vn : Value} (h : PrAt w p vl i vn) :
    w.cell? ⟨p, 0, none⟩ = some vl ∧ w.cell? ⟨p, 1, none⟩ = some (.int .i64 i) ∧ w.cell? ⟨p, 2, none⟩ = some (.slice none 0 0) ∧ w.cell? ⟨p, 3, none⟩ = some vn ∧ w.cell? ⟨p, 4, none⟩ = some (.int .i64 0) ∧ w.cell? ⟨p, 5, none⟩ = some (.int .i64 0) ∧ ∀ o, w.frozen? ⟨p, o, none⟩ = false := by
  unfold PrAt at h
  refine ⟨?_, ?_, ?_, ?_, ?_, ?_, fun o => ?_⟩ <;> simp [World.cell?, World.frozen?, h]
/-- the two tokens of "accept;" -/
def Toks2 (w : World) (vl : Value) : Prop := ∃ b o c, vl = .slice (some ⟨b, o, none⟩) 2 c ∧ b < w.heap.size ∧ w.cell? ⟨b, o, none⟩ = some (.int .i64 1) ∧ w.cell? ⟨b, o + 1, none⟩ = some (.string ⟨#[97, 99, 99, 101, 112, 116]⟩) ∧ w.cell? ⟨b, o + 4, none⟩ = some (.int .i64 3) ∧ w.cell? ⟨b, o + 5, none⟩ = some (.string ⟨#[59]⟩)
theorem Toks2.below {w w' : World} {vl : Value} (h : Toks2 w vl) (hb : Below w.heap.size w w') : Toks2 w' vl := by
  obtain ⟨b, o, c, h1, h2, h3, h4, h5, h6⟩ := h
  exact ⟨b, o, c, h1, Nat.lt_of_lt_of_le h2 hb.size, (hb.cell (p := ⟨b, _, none⟩) h2).trans h3, (hb.cell (p := ⟨b, _, none⟩) h2).trans h4, (hb.cell (p := ⟨b, _, none⟩) h2).trans h5, (hb.cell (p := ⟨b, _, none⟩) h2).trans h6⟩
/-- what the next token's spelling is -/
def nextIs (i : Nat) (s : ByteArray) : Bool := if i = 0 then ([97, 99, 99, 101, 112, 116] : List UInt8) == s.data.toList else ([59] : List UInt8) == s.data.toList
set_option maxRecDepth 1000000 in
set_option maxHeartbeats 4000000 in
theorem pr_is {p : Nat} {vl vn : Value} (i : Nat) (hi : i = 0 ∨ i = 1) (s : ByteArray) (w : World) (h : PrAt w p vl i vn) (ht : Toks2 w vl) :
    Calls Tryz.prog 187 #[.pointer (some ⟨p, 0, none⟩), .string s] w fun e w' => e = .returned (.bool (nextIs i s)) ∧ Below w.heap.size w w' := by
  obtain ⟨b, o, c, rfl, hlt, t0, t1, t4, t5⟩ := ht
  obtain ⟨c0, c1, -, -, -, -, -⟩ := h.cells
  clear h hlt
  have HX := Lib.hid (show Below w.heap.size w w.drew from (Below.refl _ _).drew)
  rcases hi with rfl | rfl
  · go_enter Tryz.func187, Tryz.ntmps187
    go_upto_region 1 with fail
    go_region_held3 (fun w' => w'.cell? ⟨p, 0, none⟩ = some (.slice (some ⟨b, o, none⟩) 2 c) ∧ w'.cell? ⟨p, 1, none⟩ = some (.int .i64 0) ∧ w'.cell? ⟨b, o, none⟩ = some (.int .i64 1) ∧ w'.cell? ⟨b, o + 1, none⟩ = some (.string ⟨#[97, 99, 99, 101, 112, 116]⟩)) (go_keep) (fail)
    go_wp2_with fail
    go_ret
    refine ⟨?_, HX.out⟩
    simp only [nextIs, Lib.toList_data, if_true]
    rfl
  · go_enter Tryz.func187, Tryz.ntmps187
    go_upto_region 1 with fail
    go_region_held3 (fun w' => w'.cell? ⟨p, 0, none⟩ = some (.slice (some ⟨b, o, none⟩) 2 c) ∧ w'.cell? ⟨p, 1, none⟩ = some (.int .i64 1) ∧ w'.cell? ⟨b, o + 4, none⟩ = some (.int .i64 3) ∧ w'.cell? ⟨b, o + 5, none⟩ = some (.string ⟨#[59]⟩)) (go_keep) (fail)
    go_wp2_with fail
    go_ret
    refine ⟨?_, HX.out⟩
    simp only [nextIs, Lib.toList_data, Nat.one_ne_zero, if_false]
    rfl
end Go.Proofs.YtdeccekeknlnoaaGreatDoor

namespace Go.Proofs.YtdeccekeknlnoaaGreatDoor
open Go.RowKit
/-- where a token is eaten, the parser's place alone has turned -/
structure Ate (p : Nat) (w w' : World) : Prop where
  os : w'.os = w.os
  tape : w'.tape = w.tape
  output : w'.output = w.output
  size : w.heap.size ≤ w'.heap.size
  block : ∀ k, k < w.heap.size → k ≠ p → w'.heap[k]? = w.heap[k]?
set_option maxRecDepth 1000000 in
set_option maxHeartbeats 4000000 in
theorem pr_may_no {p : Nat} {vl vn : Value} (i : Nat) (hi : i = 0 ∨ i = 1) (s : ByteArray) (hs : nextIs i s = false) (w : World) (h : PrAt w p vl i vn) (ht : Toks2 w vl) :
    Calls Tryz.prog 158 #[.pointer (some ⟨p, 0, none⟩), .string s] w fun e w' => e = .returned (.bool false) ∧ Below w.heap.size w w' := by
  have H := Lib.hid (pr_is i hi s w h ht)
  rw [hs] at H
  clear h ht hs hi
  go_enter Tryz.func158, Tryz.ntmps158
  go_wp2_with (go_at_call 187; refine H.out.mono ?_; rintro e w' ⟨rfl, hb⟩)
  go_ret
  exact ⟨rfl, hb⟩
/-- a token eaten -/
def AteSays (p : Nat) (vl : Value) (i : Nat) (vn : Value) (r : Value) (w : World) (e : Ending) (w' : World) : Prop := e = .returned r ∧ PrAt w' p vl (i + 1) vn ∧ Ate p w w'
set_option maxRecDepth 1000000 in
set_option maxHeartbeats 4000000 in
theorem pr_may_yes {p : Nat} {vl vn : Value} (i : Nat) (hi : i = 0 ∨ i = 1) (s : ByteArray) (hs : nextIs i s = true) (w : World) (h : PrAt w p vl i vn) (ht : Toks2 w vl) :
    Calls Tryz.prog 158 #[.pointer (some ⟨p, 0, none⟩), .string s] w (AteSays p vl i vn (.bool true) w) := by
  have H := Lib.hid (pr_is i hi s w h ht)
  rw [hs] at H
  have hlt : p < w.heap.size := lt_of_block h
  have hadd : IntKind.i64.wrap ((i : Int) + 1) = (i : Int) + 1 := by rcases hi with rfl | rfl <;> rfl
  have hadd2 : wrap64 ((i : Int) + 1) = (i : Int) + 1 := by unfold wrap64; omega
  have HP := Lib.hid (And.intro h hlt)
  clear h ht hs hi hlt
  obtain ⟨S, hS⟩ : ∃ S, AteSays p vl i vn (.bool true) w = S := ⟨_, rfl⟩
  rw [hS]
  have HSS := Lib.hid hS
  clear hS
  go_enter Tryz.func158, Tryz.ntmps158
  go_wp2_with (go_at_call 187; refine H.out.mono ?_; rintro e w' ⟨rfl, hb⟩; have hp1 := (hb.block p HP.out.2).trans HP.out.1; obtain ⟨-, d1, -, -, -, -, df⟩ := PrAt.cells hp1; have HP1 := Lib.hid hp1; clear hp1)
  rw [← HSS.out]
  refine ⟨rfl, ?_, ?_⟩
  · have := heap_set HP1.out 1 (.int .i64 ((i : Int) + 1))
    simpa [PrAt] using this
  · exact ⟨hb.os, hb.tape, hb.output, by simpa [World.setCell] using hb.size, fun k hk hp => (set_other _ _ _ _ _ hp).trans (hb.block k hk)⟩
theorem pr_must {p : Nat} {vl vn : Value} (i : Nat) (hi : i = 0 ∨ i = 1) (s : ByteArray) (hs : nextIs i s = true) (w : World) (h : PrAt w p vl i vn) (ht : Toks2 w vl) :
    Calls Tryz.prog 190 #[.pointer (some ⟨p, 0, none⟩), .string s] w (AteSays p vl i vn (.tuple #[]) w) := by
  have H := Lib.hid (pr_may_yes i hi s hs w h ht)
  clear h ht hs hi
  obtain ⟨S, hS⟩ : ∃ S, AteSays p vl i vn (.tuple #[]) w = S := ⟨_, rfl⟩
  rw [hS]
  have HSS := Lib.hid hS
  clear hS
  go_enter Tryz.func190, Tryz.ntmps190
  go_wp2_with (go_at_call 158; refine H.out.mono ?_; rintro e w' ⟨rfl, h1, h2⟩)
  go_end0
  rw [← HSS.out]
  exact ⟨rfl, h1, h2⟩
end Go.Proofs.YtdeccekeknlnoaaGreatDoor

namespace Go.Proofs.YtdeccekeknlnoaaGreatDoor
open Go.RowKit
/-- what adding a node leaves -/
def NodeSaid (p : Nat) (vl : Value) (i : Nat) (vn : Value) (n : Nat) (xs news : List Value) (w : World) (e : Ending) (w' : World) : Prop :=
  e = .returned (.int .i64 n) ∧ ∃ vn', PrAt w' p vl i vn' ∧ w'.ownsRow (p + 1) 271 4 vn' (n + 1) (xs ++ news) ∧ (w'.os = w.os ∧ w'.tape = w.tape ∧ w'.output = w.output ∧ w.heap.size ≤ w'.heap.size) ∧ ∀ k, k < w.heap.size → k ≠ p → some k ≠ vn.ownBlock → w'.heap[k]? = w.heap[k]?
theorem node_done {p : Nat} {vl vn : Value} {i n : Nat} {xs news : List Value} {w Wp w1 : World} {g cap : Nat} (hW : Below w.heap.size w Wp) (hP : PrAt w1 p vl i vn) (hO : w1.ownsRow (p + 1) 271 4 (.slice (some ⟨g, 0, none⟩) (n + 1) cap) (n + 1) (xs ++ news)) (hG : Wp.grownBy w1 vn.ownBlock) :
    NodeSaid p vl i vn n xs news w (.returned (.int .i64 n)) (w1.setCell ⟨p, 3, none⟩ (.slice (some ⟨g, 0, none⟩) (n + 1) cap)) := by
  refine ⟨rfl, _, ?_, own_frame hO (fun k hk => set_other _ _ _ _ _ ?_), ⟨hG.os.trans hW.os, hG.tape.trans hW.tape, hG.output.trans hW.output, ?_⟩, fun k hk hkp hko => ?_⟩
  · have := heap_set hP 3 (.slice (some ⟨g, 0, none⟩) (n + 1) cap)
    simpa [PrAt] using this
  · have h : p + 1 ≤ g := by
      obtain ⟨-, h2 | ⟨g', cap', cur, h2, h3, -⟩⟩ := hO
      · cases h2.1
      · cases h2
        exact h3
    simp only [Value.ownBlock, Option.some.injEq] at hk
    omega
  · have := hG.size; have := hW.size; simp [World.setCell]; omega
  · rw [set_other _ _ _ _ _ hkp, hG.block k (Nat.lt_of_lt_of_le hk hW.size) hko]
    exact hW.block k hk
set_option maxRecDepth 1000000 in
set_option maxHeartbeats 4000000 in
theorem pr_node {p : Nat} {vl vn : Value} (i n : Nat) (hn : n ≤ 1) (xs : List Value) (a b : Int) (t : ByteArray) (x : Value) (hx : x.oneCell' = true) (w : World) (h : PrAt w p vl i vn) (hr : w.ownsRow (p + 1) 271 4 vn n xs) :
    Calls Tryz.prog 161 #[.pointer (some ⟨p, 0, none⟩), .agg #[.int .i64 a, .int .i64 b, .string t, x]] w (NodeSaid p vl i vn n xs [.int .i64 a, .int .i64 b, .string t, x] w) := by
  have hp : p < w.heap.size := lt_of_block h
  have hi0 : (Tryz.prog.info? 271).map (fun i => (i.zero, i.size, i.bytes)) = some (some (.agg #[.int .i64 0, .int .i64 0, .string ⟨#[]⟩, .slice none 0 0]), 4, 56) := by kernel_rfl
  obtain ⟨i0, hi, hz0, hz1, hz2⟩ := info_parts hi0
  obtain ⟨S, hS⟩ : ∃ S, NodeSaid p vl i vn n xs ([.int .i64 a, .int .i64 b, .string t, x] : List Value) w = S := ⟨_, rfl⟩
  rw [hS]
  have HSS := Lib.hid hS
  have h1 : PrAt (w.alloc (.cells #[.int .i64 a, .int .i64 b, .string t, x] 271)) p vl i vn := (Below.heap_alloc w _ _ hp).trans h
  obtain ⟨c0, c1, c2, c3, c4, c5, cf⟩ := h1.cells
  have HROW := Lib.hid (show (w.alloc (.cells #[.int .i64 a, .int .i64 b, .string t, x] 271)).drew.ownsRow (p + 1) 271 4 vn n xs from hr.alloc _)
  have hb2 : ((w.alloc (.cells #[.int .i64 a, .int .i64 b, .string t, x] 271)).drew.alloc (.cells #[.int .i64 a, .int .i64 b, .string t, x] 271)).heap[w.heap.size + 1]? = some (.cells #[.int .i64 a, .int .i64 b, .string t, x] 271 (0, 0)) := by
    have e := heap_alloc_new (w.alloc (.cells #[.int .i64 a, .int .i64 b, .string t, x] 271)).drew (.cells #[.int .i64 a, .int .i64 b, .string t, x] 271)
    rwa [show (w.alloc (.cells #[.int .i64 a, .int .i64 b, .string t, x] 271)).drew.heap.size = w.heap.size + 1 by simp] at e
  have HNEW := Lib.hid (World.news_of_block hb2)
  have HONE := Lib.hid (show ∀ u ∈ (([.int .i64 a, .int .i64 b, .string t, x] : List Value) : List Value), u.oneCell' = true from fun u hu => by
    simp only [List.mem_cons, List.mem_nil_iff, or_false] at hu
    rcases hu with rfl | rfl | rfl | rfl
    · rfl
    · rfl
    · rfl
    · exact hx)
  have HPP := Lib.hid (show PrAt ((w.alloc (.cells #[.int .i64 a, .int .i64 b, .string t, x] 271)).drew.alloc (.cells #[.int .i64 a, .int .i64 b, .string t, x] 271)) p vl i vn from (Below.heap_alloc _ _ _ (by simp; omega)).trans ((Below.heap_alloc w _ _ hp).trans h))
  have hne : some p ≠ vn.ownBlock := by
    intro e
    obtain ⟨-, h2 | ⟨g, cap, cur, h2, h3, -⟩⟩ := hr
    · rw [h2.1] at e
      cases e
    · rw [h2] at e
      simp only [Value.ownBlock, Option.some.injEq] at e
      omega
  have c3b : ((w.alloc (.cells #[.int .i64 a, .int .i64 b, .string t, x] 271)).alloc (.cells #[.int .i64 a, .int .i64 b, .string t, x] 271)).cell? ⟨p, 3, none⟩ = some vn := al_cell _ c3
  have HNE := Lib.hid hne
  have HN := Lib.hid (And.intro hn hp)
  have HPL := Lib.hid (show p < ((w.alloc (.cells #[.int .i64 a, .int .i64 b, .string t, x] 271)).drew.alloc (.cells #[.int .i64 a, .int .i64 b, .string t, x] 271)).heap.size by simp; omega)
  have HLEN := Lib.hid (show n + 1 ≤ maxLen by unfold maxLen; omega)
  have HBY := Lib.hid (show (n + 1) * 56 ≤ 140737488355328 by omega)
  have HBA := Lib.hid (show p + 1 ≤ ((w.alloc (.cells #[.int .i64 a, .int .i64 b, .string t, x] 271)).drew.alloc (.cells #[.int .i64 a, .int .i64 b, .string t, x] 271)).heap.size by simp; omega)
  have HSI := Lib.hid (show ((w.alloc (.cells #[.int .i64 a, .int .i64 b, .string t, x] 271)).drew.alloc (.cells #[.int .i64 a, .int .i64 b, .string t, x] 271)).heap.size = w.heap.size + 2 by simp)
  have HX := Lib.hid hx
  clear h h1 hr hb2 hne hn hp hS hx hi0 c0 c1 c2 c4 c5
  go_enter Tryz.func161, Tryz.ntmps161
  go_upto_region 1 with fail
  go_region_law (refine step_append_lies _ rfl (.tmp 10) (.tmp 12) 215 rfl (p + 1) 271 i0 _ 4 56 Tryz.underlying215 hi hz0 hz1 hz2 rfl (by decide) vn n xs rfl (HROW.out.alloc _) ⟨w.heap.size + 1, 0, none⟩ 1 1 ([.int .i64 a, .int .i64 b, .string t, x] : List Value) rfl rfl HNEW.out HONE.out (by decide) HLEN.out HBY.out HBA.out (w.heap.size + 2) HSI.out ?_; intro g cap w1 hown1 hgrow hat hlt; have hp1 := (hgrow.block p HPL.out HNE.out).trans HPP.out; obtain ⟨-, -, -, d3, -, -, df⟩ := PrAt.cells hp1; have HP1 := Lib.hid hp1; have HO1 := Lib.hid hown1; have HG1 := Lib.hid hgrow; have HAT := Lib.hid hat; clear hp1 hown1 hgrow hat)
  all_goals
    have w1l : wrap64 ((n : Int) + 1 - 1) = n := by have := HN.out.1; unfold wrap64; omega
    have w2l : wrap64 (n : Int) = n := by have := HN.out.1; unfold wrap64; omega
    go_wp2_with fail
  all_goals
    rw [← HSS.out]
    exact node_done (((Below.new _).drew).trans ((Below.new _).mono (by simp))) HP1.out HO1.out HG1.out
end Go.Proofs.YtdeccekeknlnoaaGreatDoor

namespace Go.Proofs.YtdeccekeknlnoaaGreatDoor
open Go.RowKit
theorem Ate.refl (p : Nat) (w : World) : Ate p w w := ⟨rfl, rfl, rfl, Nat.le_refl _, fun _ _ _ => rfl⟩
theorem Ate.trans {p : Nat} {w W W' : World} (h2 : Ate p W W') (h : Ate p w W) : Ate p w W' := ⟨h2.os.trans h.os, h2.tape.trans h.tape, h2.output.trans h.output, Nat.le_trans h.size h2.size, fun k hk hp => (h2.block k (Nat.lt_of_lt_of_le hk h.size) hp).trans (h.block k hk hp)⟩
theorem Ate.of_below {p : Nat} {W W' : World} (hb : Below W.heap.size W W') : Ate p W W' := ⟨hb.os, hb.tape, hb.output, hb.size, fun k hk _ => hb.block k hk⟩
theorem Ate.below {p : Nat} {w W W' : World} (hb : Below W.heap.size W W') (h : Ate p w W) : Ate p w W' := (Ate.of_below hb).trans h
theorem PrAt.below {p : Nat} {vl vn : Value} {i : Nat} {W W' : World} (hb : Below W.heap.size W W') (h : PrAt W p vl i vn) : PrAt W' p vl i vn := (hb.block p (lt_of_block h)).trans h
theorem Toks2.ate {p : Nat} {vl : Value} {W W' : World} (ha : Ate p W W') (hne : ∀ b o n c, vl = .slice (some ⟨b, o, none⟩) n c → b ≠ p) (h : Toks2 W vl) : Toks2 W' vl := by
  obtain ⟨b, o, c, h1, h2, h3, h4, h5, h6⟩ := h
  have hb : ∀ o', W'.cell? ⟨b, o', none⟩ = W.cell? ⟨b, o', none⟩ := fun o' => World.cell?_of_block (ha.block b h2 (hne b o 2 c h1))
  exact ⟨b, o, c, h1, Nat.lt_of_lt_of_le h2 ha.size, (hb _).trans h3, (hb _).trans h4, (hb _).trans h5, (hb _).trans h6⟩
theorem toks_off {w : World} {p i : Nat} {vl vn : Value} (h : PrAt w p vl i vn) (ht : Toks2 w vl) (hp : ∃ x y z, vl = .slice x y z) : ∀ b o n c, vl = .slice (some ⟨b, o, none⟩) n c → b ≠ p := by
  rintro b o n c rfl rfl
  obtain ⟨b', o', c', h1, h2, h3, h4, h5, h6⟩ := ht
  cases h1
  have hq : w.heap[b]? = some (.cells _ _ (0, 0)) := h
  rw [cell_of_row _ _ _ _ _ _ hq] at h3 h4
  match o, h3, h4 with
  | 0, h3, h4 => simp at h3
  | 1, h3, h4 => simp at h4
  | 2, h3, h4 => simp at h3
  | 3, h3, h4 => simp at h4
  | 4, h3, h4 => simp at h3
  | 5, h3, h4 => simp at h3
  | o + 6, h3, h4 => simp at h3
theorem below_set4 (W : World) (b : Nat) (x0 x1 x2 x3 : Value) : Below b W ((((W.setCell ⟨b, 0, none⟩ x0).setCell ⟨b, 1, none⟩ x1).setCell ⟨b, 2, none⟩ x2).setCell ⟨b, 3, none⟩ x3) :=
  ((((Below.refl b W).setCell (p := ⟨b, 0, none⟩) (Nat.le_refl b) x0).setCell (p := ⟨b, 1, none⟩) (Nat.le_refl b) x1).setCell (p := ⟨b, 2, none⟩) (Nat.le_refl b) x2).setCell (p := ⟨b, 3, none⟩) (Nat.le_refl b) x3
/-- what the statement leaves -/
def StmtSaid (p : Nat) (vl : Value) (w : World) (e : Ending) (w' : World) : Prop :=
  e = .returned (.int .i64 0) ∧ ∃ vn, PrAt w' p vl 2 vn ∧ w'.ownsRow (p + 1) 271 4 vn 1 [.int .i64 16, .int .i64 0, .string ⟨#[]⟩, .slice none 0 0] ∧ Ate p w w'
set_option maxRecDepth 1000000 in
set_option maxHeartbeats 600000 in
theorem pr_stmt {p : Nat} {vl : Value} (w : World) (h : PrAt w p vl 0 (.slice none 0 0)) (ht : Toks2 w vl) :
    Calls Tryz.prog 160 #[.pointer (some ⟨p, 0, none⟩)] w (StmtSaid p vl w) := by
  obtain ⟨S, hS⟩ : ∃ S, StmtSaid p vl w = S := ⟨_, rfl⟩
  rw [hS]
  have HSS := Lib.hid hS
  have hoff := Lib.hid (toks_off h ht (by obtain ⟨b, o, c, h1, -⟩ := ht; exact ⟨_, _, _, h1⟩))
  have HT := Lib.hid ht
  have hb0 : Below w.heap.size w (w.alloc (.cells #[.int .i64 0, .int .i64 0, .string ⟨#[]⟩, .slice none 0 0] 271)) := Below.new _
  have q1 := PrAt.below hb0 h
  have q2 := Toks2.below ht hb0
  have hz : (w.alloc (.cells #[.int .i64 0, .int .i64 0, .string ⟨#[]⟩, .slice none 0 0] 271)).heap[w.heap.size]? = some (.cells #[.int .i64 0, .int .i64 0, .string ⟨#[]⟩, .slice none 0 0] 271 (0, 0)) := heap_alloc_new _ _
  have hlt := lt_of_block h
  have HW := Lib.hid hb0
  clear hS h ht hb0
  obtain ⟨W0, hW0⟩ : ∃ X, w.alloc (.cells #[.int .i64 0, .int .i64 0, .string ⟨#[]⟩, .slice none 0 0] 271) = X := ⟨_, rfl⟩
  have hs0 : W0.heap.size = w.heap.size + 1 := by rw [← hW0]; simp
  rw [hW0] at q1 q2 hz HW
  have q3 := Ate.refl p W0
  have HZ := Lib.hid (show ∀ W', Ate p W0 W' → W'.heap[w.heap.size]? = some (.cells #[.int .i64 0, .int .i64 0, .string ⟨#[]⟩, .slice none 0 0] 271 (0, 0)) from fun W' ha => (ha.block _ (by omega) (by omega)).trans hz)
  have HS := Lib.hid (And.intro hlt hs0)
  clear hlt hs0 hz
  go_enter Tryz.func160, Tryz.ntmps160
  go_upto_region 2 with (first
    | (go_at_call 158; refine (pr_may_no 0 (.inl rfl) _ (by rfl) _ (by assumption) (by assumption)).mono ?_; rintro e W ⟨rfl, hb⟩; have q1' := PrAt.below hb (by assumption); have q2' := Toks2.below (by assumption) hb; have q3' := Ate.below hb (by assumption))
    )
  go_upto_region 3 with (first
    | (go_at_call 190; refine (pr_must 0 (.inl rfl) _ (by rfl) _ q1' q2').mono ?_; rintro e W2 ⟨rfl, p2, h2⟩)
    )
  have a2 := Ate.trans h2 q3'
  have t2 := Toks2.ate h2 hoff.out q2'
  have z2 := HZ.out W2 a2
  obtain ⟨y0, y1, y2, y3, yf⟩ := four_cells z2
  have HQ := Lib.hid (And.intro p2 (And.intro t2 (And.intro a2 z2)))
  clear q1 q2 q3 q1' q2' q3' p2 t2 a2 z2 h2
  go_upto_region 18 with fail
  obtain ⟨p2, t2, a2, z2⟩ := HQ.out
  have z3 : ((((W2.setCell ⟨w.heap.size, 0, none⟩ (.int .i64 16)).setCell ⟨w.heap.size, 1, none⟩ (.int .i64 0)).setCell ⟨w.heap.size, 2, none⟩ (.string ⟨#[]⟩)).setCell ⟨w.heap.size, 3, none⟩ (.slice none 0 0)).heap[w.heap.size]? = some (.cells #[.int .i64 16, .int .i64 0, .string ⟨#[]⟩, .slice none 0 0] 271 (0, 0)) := by
    have := heap_set (heap_set (heap_set (heap_set z2 0 (.int .i64 16)) 1 (.int .i64 0)) 2 (.string ⟨#[]⟩)) 3 (.slice none 0 0)
    simpa using this
  have hb3 : Below w.heap.size W2 ((((W2.setCell ⟨w.heap.size, 0, none⟩ (.int .i64 16)).setCell ⟨w.heap.size, 1, none⟩ (.int .i64 0)).setCell ⟨w.heap.size, 2, none⟩ (.string ⟨#[]⟩)).setCell ⟨w.heap.size, 3, none⟩ (.slice none 0 0)) := below_set4 _ _ _ _ _ _
  obtain ⟨W3, hW3⟩ : ∃ X, ((((W2.setCell ⟨w.heap.size, 0, none⟩ (.int .i64 16)).setCell ⟨w.heap.size, 1, none⟩ (.int .i64 0)).setCell ⟨w.heap.size, 2, none⟩ (.string ⟨#[]⟩)).setCell ⟨w.heap.size, 3, none⟩ (.slice none 0 0)) = X := ⟨_, rfl⟩
  rw [hW3] at z3 hb3 ⊢
  have p3 : PrAt W3 p vl 1 (.slice none 0 0) := (hb3.block p HS.out.1).trans p2
  have t3 : Toks2 W3 vl := by
    obtain ⟨b, o, c, h1, h2, h3, h4, h5, h6⟩ := HT.out
    obtain ⟨b', o', c', g1, g2, g3, g4, g5, g6⟩ := t2
    rw [h1] at g1
    cases g1
    have hh : ∀ o', W3.cell? ⟨b, o', none⟩ = W2.cell? ⟨b, o', none⟩ := fun o' => World.cell?_of_block (hb3.block b h2)
    exact ⟨b, o, c, h1, Nat.lt_of_lt_of_le g2 hb3.size, (hh _).trans g3, (hh _).trans g4, (hh _).trans g5, (hh _).trans g6⟩
  have a3 : ∀ k, k < w.heap.size → k ≠ p → W3.heap[k]? = w.heap[k]? := fun k hk hp => (hb3.block k hk).trans ((a2.block k (by have := HS.out.2; omega) hp).trans (HW.out.block k hk))
  have o3 : W3.os = w.os ∧ W3.tape = w.tape ∧ W3.output = w.output ∧ w.heap.size + 1 ≤ W3.heap.size := ⟨hb3.os.trans (a2.os.trans HW.out.os), hb3.tape.trans (a2.tape.trans HW.out.tape), hb3.output.trans (a2.output.trans HW.out.output), by have := hb3.size; have := a2.size; have := HS.out.2; omega⟩
  have HA := Lib.hid (And.intro a3 (And.intro o3 z3))
  clear a3 o3 z3 hb3 hW3 p2 t2 a2 z2 HQ HZ y0 y1 y2 y3 yf
  go_upto_region 19 with (first
    | (go_at_call 190; refine (pr_must 1 (.inr rfl) _ (by rfl) _ p3 t3).mono ?_; rintro e W4 ⟨rfl, p4, h4⟩)
    )
  have z4 := (h4.block w.heap.size (by have := HA.out.2.1.2.2.2; omega) (by have := HS.out.1; omega)).trans HA.out.2.2
  obtain ⟨y0, y1, y2, y3, yf⟩ := four_cells z4
  have HN := Lib.hid (pr_node 2 0 (by decide) [] 16 0 ⟨#[]⟩ (.slice none 0 0) rfl W4 p4 (World.ownsRow_nil _ _ _ _))
  have H4 := Lib.hid h4
  clear h4 p4 z4 p3 t3
  go_wp2_with (first
    | (go_at_call 161; refine HN.out.mono ?_; rintro e W5 ⟨rfl, vn5, p5, r5, o5, b5⟩)
    )
  rw [← HSS.out]
  obtain ⟨a3, o3, z3⟩ := HA.out
  have h4 := H4.out
  refine ⟨rfl, vn5, p5, r5, ⟨o5.1.trans (h4.os.trans o3.1), o5.2.1.trans (h4.tape.trans o3.2.1), o5.2.2.1.trans (h4.output.trans o3.2.2.1), by have := o5.2.2.2; have := h4.size; omega, fun k hk hp => ?_⟩⟩
  exact (b5 k (by have := h4.size; omega) hp (by simp [Value.ownBlock])).trans ((h4.block k (by omega) hp).trans (a3 k hk hp))
end Go.Proofs.YtdeccekeknlnoaaGreatDoor
