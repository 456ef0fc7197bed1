/- DeviceSeparate: for all arguments the law returns true, and what it was handed reads as it did. No conditions. -/
import Derived.Test.YtncgechmloekbaaDvT
import Derived.Deep.RegionHeld3
import Derived.Laws.OwnMore
namespace Go.Proofs.Ytncgechmloekbaa
open Go.RowKit

theorem doF_no {f : List (List Nat)} {m : List ByteArray} {k b c : Int} {s : ByteArray} {cut : Bool} (h : doneB f m k b c s = false) : doF f m k b c s cut = f := by simp [doF, h]
theorem doM_no {f : List (List Nat)} {m : List ByteArray} {k b c : Int} {s : ByteArray} {cut : Bool} {nb : Int} (h : doneB f m k b c s = false) : doM f m k b c s cut nb = m := by simp [doM, h]
theorem doF_k {f : List (List Nat)} {m : List ByteArray} {k b c : Int} {s : ByteArray} {cut : Bool} (h : k ≠ 2) : doF f m k b c s cut = f := by simp [doF, runF, h]
theorem doM_k {f : List (List Nat)} {m : List ByteArray} {k b c : Int} {s : ByteArray} {cut : Bool} {nb : Int} (h : k ≠ 4) : doM f m k b c s cut nb = m := by simp [doM, runM, h]
section
variable {W : World} {p : Nat} {cs : Array Value} {f g : List (List Nat)} {m n : List ByteArray} {r : Nat → Int} {v : Value}
/-- a Hardware laid into a new variable: what it reads as lies below that variable -/
theorem hw_new (h : HwB W cs f m r) (o : Obj) : HwVal (W.alloc o) (fun b => b < W.heap.size) cs f m r := HwVal.below h (Below.new _)
theorem hw_set0 (h : HwVal W (fun b => b < p) cs g m r) (hk : RRowsK W (fun b => b < p) v f) : HwVal (W.setCell ⟨p, 0, none⟩ v) (fun b => b < p) (cs.setIfInBounds 0 v) f m r := by
  obtain ⟨v0, u0, rfl, _, h2⟩ := h
  have far : ∀ b, b < p → (W.setCell ⟨p, 0, none⟩ v).heap[b]? = W.heap[b]? := fun b hb => heap_setCell_other _ ⟨p, 0, none⟩ b v (by simp; omega)
  exact ⟨v, u0, rfl, hk.keep far (fun _ h => h), h2.keep far (fun _ h => h)⟩
theorem hw_set1 {W' : World} (h : HwVal W' (fun b => b < W'.heap.size) cs f n r) (hk : StrsK W' (fun b => b < W'.heap.size) v m) : HwB W' (cs.setIfInBounds 1 v) f m r := by
  obtain ⟨v0, u0, rfl, h1, _⟩ := h
  exact ⟨v0, v, rfl, h1, hk⟩
theorem root_eq (r : Nat → Int) (w : World) : Sem.run Try.prog (Op.equalIn 10000 29 (.agg (rootOf r)) (.agg (rootOf r))) w = .ok true w := by
  have h := run_root r r w
  rw [Dv.rootEq_refl] at h
  exact h
end
theorem write_back {m : List ByteArray} {i : Nat} {s : ByteArray} {cut : Int} (hi : i < m.length) : (Fm.Fl.write m i s cut).set i (Fm.nthS m i) = m := by
  have e : m.set i (Fm.nthS m i) = m := by
    apply List.ext_getElem?
    intro j
    by_cases h : i = j
    · subst h; simp [Fm.nthS, hi]
    · rw [List.getElem?_set_ne h]
  unfold Fm.Fl.write
  split
  · rw [Int.toNat_natCast, List.set_set, e]
  · exact e

set_option maxRecDepth 100000 in
set_option maxHeartbeats 4000000 in
theorem lawSeparate {w : World} (cs : Array Value) (f : List (List Nat)) (m : List ByteArray) (r : Nat → Int) (hh : HwB w cs f m r) (k b c : Int) (s : ByteArray) (hbm : s.size ≤ maxLen) (cut : Bool) (nb : Int) (noise : Bool) :
    Calls Try.prog 4 #[.agg cs, .agg #[.int .i64 k, .int .i64 b, .int .i64 c, .string s], .agg #[.bool cut, .int .i64 nb, .bool noise]] w fun e w' => e = .returned (.bool true) ∧ Below w.heap.size w w' := by
  obtain ⟨T, N, R, K, L⟩ := letters
  have HH := Lib.hid hh
  clear hh
  go_enter Try.func4, Try.ntmps4
  simp only [L.load, L.store, L.loadR]
  have la := L.agg
  have lz := L.size
  have ra := L.aggR
  have rz := L.sizeR
  have HL := Lib.hid L
  clear L
  go_upto_region 1 with fail
  obtain ⟨D0, QA, QF, HB⟩ := three_in (acc := #[.int .i64 k, .int .i64 b, .int .i64 c, .string s]) (flt := #[.bool cut, .int .i64 nb, .bool noise]) HH.out
  obtain ⟨W0, hW0⟩ : ∃ W, W = ((w.alloc (.cells cs 31)).alloc (.cells #[.int .i64 k, .int .i64 b, .int .i64 c, .string s] 33)).alloc (.cells #[.bool cut, .int .i64 nb, .bool noise] 35) := ⟨_, rfl⟩
  rw [← hW0] at D0 QA QF HB ⊢
  clear hW0
  go_wp2_with fail
  refine (sanity_any _).mono ?_
  rintro e w1 ⟨rfl, hb1⟩
  have D0 := D0.below hb1
  have QA := (hb1.block _ (lt_of_heap QA)).trans QA
  have QF := (hb1.block _ (lt_of_heap QF)).trans QF
  have HB := HB.trans (hb1.mono HB.size)
  clear hb1
  have l0 := HL.out.ld D0.lies (HwVal.size D0.val)
  go_wp2_with fail
  refine (smallC D0.val).mono ?_
  rintro e w2 ⟨rfl, hb2⟩
  have D0 := D0.below hb2
  have QA := (hb2.block _ (lt_of_heap QA)).trans QA
  have QF := (hb2.block _ (lt_of_heap QF)).trans QF
  have HB := HB.trans (hb2.mono HB.size)
  clear hb2 l0
  cases hsm : smallHw f m
  · clear hsm
    go_wp2
    go_ret
    exact ⟨rfl, HB⟩
  · obtain ⟨hva, h6, h200⟩ := smallHw_out hsm
    have HSM := Lib.hid (Fz.valid_small hva)
    clear hsm hva h6
    have g0 := cell_block (i := 0) QA rfl
    have g1 := cell_block (i := 1) QA rfl
    have g2 := cell_block (i := 2) QA rfl
    have g3 := cell_block (i := 3) QA rfl
    by_cases h300 : s.size ≤ 300
    · have e1 : decide ((300 : Int) < (s.size : Int)) = false := by simp; omega
      have e2 : decide (300 < s.size) = false := by simp; omega
      clear h300
      have l0 := HL.out.ld D0.lies (HwVal.size D0.val)
      have f0 := cell_block (i := 0) QF rfl
      have f1 := cell_block (i := 1) QF rfl
      have f2 := cell_block (i := 2) QF rfl
      go_wp2_with fail
      refine (doC D0.val (fun _ h => h) HSM.out (by omega) k b c s cut noise nb hbm).mono ?_
      rintro e w3 ⟨cs3, rfl, hv3, hb3⟩
      have hv3 := hv3.b
      have D0 := D0.below hb3
      have QA := (hb3.block _ (lt_of_heap QA)).trans QA
      have QF := (hb3.block _ (lt_of_heap QF)).trans QF
      have HB := HB.trans (hb3.mono HB.size)
      have z3 := sz18 T N R K HL.out (HwVal.size hv3)
      have s3 := st2 (HwVal.size hv3) (HwVal.ones hv3) #[.slice none 0 0, .slice none 0 0, .int .u8 0, .int .u8 0, .int .u8 0, .int .u8 0, .int .u8 0, .int .u8 0, .int .u8 0, .int .u8 0, .int .u8 0, .int .u8 0, .int .u8 0, .int .u8 0, .int .u8 0, .int .u8 0, .int .u8 0, .int .u8 0] rfl
      clear l0 g0 g1 g2 g3 f0 f1 f2 e1 e2
      go_upto_region 5 with fail
      have hn3 : Below w3.heap.size w3 ((w3.alloc (.cells cs3 31)).alloc (.cells #[.int .i64 (doV f m k b c s cut noise), .string (doB f m k b c s cut)] 40)) := (Below.new _).trans ((Below.new _).mono (by simp))
      have D0 := D0.below hn3
      have QA := (hn3.block _ (lt_of_heap QA)).trans QA
      have QF := (hn3.block _ (lt_of_heap QF)).trans QF
      have HB := HB.trans (hn3.mono HB.size)
      have D3 : Dev ((w3.alloc (.cells cs3 31)).alloc (.cells #[.int .i64 (doV f m k b c s cut noise), .string (doB f m k b c s cut)] 40)) w3.heap.size cs3 _ _ _ := Dev.new2 hv3 _
      have R3 : Res ((w3.alloc (.cells cs3 31)).alloc (.cells #[.int .i64 (doV f m k b c s cut noise), .string (doB f m k b c s cut)] 40)) (w3.heap.size + 1) (.int .i64 (doV f m k b c s cut noise)) (.string (doB f m k b c s cut)) := heap_two _ _ _
      obtain ⟨W3, hW3⟩ : ∃ W, W = (w3.alloc (.cells cs3 31)).alloc (.cells #[.int .i64 (doV f m k b c s cut noise), .string (doB f m k b c s cut)] 40) := ⟨_, rfl⟩
      obtain ⟨p3, hp3⟩ : ∃ p, p = w3.heap.size := ⟨_, rfl⟩
      rw [← hW3] at D0 D3 R3 QA QF HB
      rw [← hp3] at D3
      rw [← hp3] at R3
      rw [← hW3, ← hp3]
      clear hW3 hp3 hn3 hv3 hb3 s3 z3
      by_cases hE : doE f m k b c s = 0
      · obtain ⟨hd, hko, hrun⟩ := doneB_yes hE
        have eE : (doE f m k b c s == 0) = true := by simp [hE]
        have HRUN := Lib.hid hrun
        have HDN := Lib.hid hd
        have hk := kind_cases hko
        clear hd hko hrun
        rcases hk with hk | hk | hk | hk
        · subst hk
          rw [doF_k (by decide), doM_k (by decide)] at D3
          have g0 := cell_block (i := 0) QA rfl
          have g1 := cell_block (i := 1) QA rfl
          have g2 := cell_block (i := 2) QA rfl
          have g3 := cell_block (i := 3) QA rfl
          have l0 := HL.out.ld D0.lies (HwVal.size D0.val)
          have l3 := HL.out.ld D3.lies (HwVal.size D3.val)
          go_wp2_with fail
          refine (sameB D3.val D0.val).mono ?_
          rintro e w4 ⟨rfl, hb4⟩
          rw [Dv.hsame_refl]
          have HB := HB.trans (hb4.mono HB.size)
          clear l0 l3
          go_wp2
          go_ret
          exact ⟨rfl, HB⟩
        · subst hk
          rw [doM_k (by decide)] at D3
          have g0 := cell_block (i := 0) QA rfl
          have g1 := cell_block (i := 1) QA rfl
          have g2 := cell_block (i := 2) QA rfl
          have g3 := cell_block (i := 3) QA rfl
          have V3 := hw_new D3.val (.cells cs3 31)
          have V0 := hw_new D0.val (.cells cs3 31)
          have s3 := st1 (HwVal.size D3.val) (HwVal.ones D3.val) #[.slice none 0 0, .slice none 0 0, .int .u8 0, .int .u8 0, .int .u8 0, .int .u8 0, .int .u8 0, .int .u8 0, .int .u8 0, .int .u8 0, .int .u8 0, .int .u8 0, .int .u8 0, .int .u8 0, .int .u8 0, .int .u8 0, .int .u8 0, .int .u8 0] rfl
          have z3 := sz18 T N R K HL.out (HwVal.size D3.val)
          have l3 := HL.out.ld D3.lies (HwVal.size D3.val)
          go_upto_region 8 with fail
          clear s3 z3 l3 g0 g1 g2 g3
          have hb4 : Below W3.heap.size W3 (W3.alloc (.cells cs3 31)) := Below.new _
          have P4 := heap_alloc_new W3 (.cells cs3 31)
          obtain ⟨v0, hv0, hk0⟩ := HwVal.rows V0
          obtain ⟨A0, c0, rfl⟩ := hk0.form_
          obtain ⟨v3, hv3, hk3⟩ := HwVal.rows V3
          have x0 := cell_block (i := 0) ((hb4.block _ D0.lt).trans D0.lies) hv0
          have x9 := cell_block (i := 0) P4 hv3
          have g0 := cell_block (i := 0) ((hb4.block _ (lt_of_heap QA)).trans QA) rfl
          have s9 := free_block (i := 0) P4
          have HK0 := Lib.hid hk0
          clear hk0 hk3
          obtain ⟨W4, hW4⟩ : ∃ W, W = W3.alloc (.cells cs3 31) := ⟨_, rfl⟩
          obtain ⟨p4, hp4⟩ : ∃ p, p = W3.heap.size := ⟨_, rfl⟩
          have hp3 : p4 = W3.heap.size := hp4
          rw [← hW4] at hb4 P4 x0 x9 s9 V3 V0 HK0 g0
          rw [← hp4] at P4 x9 s9 V3 V0 HK0
          rw [← hW4, ← hp4]
          clear hW4 hp4
          have hq3 : W3.heap.size ≤ p4 := Nat.le_of_eq hp3.symm
          clear hp3
          go_upto_region 14 with fail
          have hb5 : Below W3.heap.size W3 (W4.setCell ⟨p4, 0, none⟩ (.slice A0 f.length c0)) := hb4.setCell (p := ⟨p4, 0, none⟩) hq3 _
          have P5 := heap_setCell_same _ _ 0 _ _ (.slice A0 f.length c0) P4
          have V5 := (hw_set0 V3 HK0.out).b
          clear x0 x9 s9 P4 V3 V0 HK0 hb4 g0
          obtain ⟨W5, hW5⟩ : ∃ W, W = W4.setCell ⟨p4, 0, none⟩ (.slice A0 f.length c0) := ⟨_, rfl⟩
          obtain ⟨cs5, hcs5⟩ : ∃ c, c = cs3.setIfInBounds 0 (.slice A0 f.length c0) := ⟨_, rfl⟩
          rw [← hW5] at hb5 P5 V5
          rw [← hcs5] at P5 V5
          rw [← hW5]
          clear hW5 hcs5
          have D5 : Dev W5 p4 cs5 f m r := ⟨P5, V5⟩
          have D3 := D3.below hb5
          have D0 := D0.below hb5
          have HB := HB.trans (hb5.mono HB.size)
          clear P5 V5 hb5
          have l5 := HL.out.ld D5.lies (HwVal.size D5.val)
          have l0 := HL.out.ld D0.lies (HwVal.size D0.val)
          have lR0 := HL.out.ldR D0.lies D0.val
          have lR3 := HL.out.ldR D3.lies D3.val
          go_wp2_with fail
          refine (sameB D5.val D0.val).mono ?_
          rintro e w6 ⟨rfl, hb6⟩
          rw [Dv.hsame_refl]
          have D0 := D0.below hb6
          have D3 := D3.below hb6
          have HB := HB.trans (hb6.mono HB.size)
          have lR0 := HL.out.ldR D0.lies D0.val
          have lR3 := HL.out.ldR D3.lies D3.val
          have hEQ := root_eq r w6
          clear l5 l0 hb6
          go_wp2
          go_ret
          exact ⟨rfl, HB⟩
        · subst hk
          rw [doF_k (by decide), doM_k (by decide)] at D3
          have g0 := cell_block (i := 0) QA rfl
          have g1 := cell_block (i := 1) QA rfl
          have g2 := cell_block (i := 2) QA rfl
          have g3 := cell_block (i := 3) QA rfl
          have l0 := HL.out.ld D0.lies (HwVal.size D0.val)
          have l3 := HL.out.ld D3.lies (HwVal.size D3.val)
          go_wp2_with fail
          refine (sameB D3.val D0.val).mono ?_
          rintro e w4 ⟨rfl, hb4⟩
          rw [Dv.hsame_refl]
          have HB := HB.trans (hb4.mono HB.size)
          clear l0 l3
          go_wp2
          go_ret
          exact ⟨rfl, HB⟩
        · subst hk
          rw [doF_k (by decide)] at D3
          have g0 := cell_block (i := 0) QA rfl
          have g1 := cell_block (i := 1) QA rfl
          have g2 := cell_block (i := 2) QA rfl
          have g3 := cell_block (i := 3) QA rfl
          have hw4 : Fm.Fl.writeE m c s = 0 := by have h := HRUN.out; simpa [runE] using h
          have hhas : Fm.Fl.has m c = true := by
            cases hx : Fm.Fl.has m c
            · rw [Fm.Fl.writeE, hx] at hw4; simp at hw4
            · rfl
          obtain ⟨i, rfl, hi⟩ := Fm.Fl.has_out hhas
          clear hw4 hhas
          obtain ⟨M3, hM3⟩ : ∃ M, M = Fm.Fl.write m i s (cutOf cut nb) := ⟨_, rfl⟩
          have hdm : doM f m 4 b i s cut nb = M3 := by rw [doM, HDN.out, if_pos rfl, runM, if_pos rfl, hM3]
          rw [hdm] at D3
          have hl3 : M3.length = m.length := by rw [hM3, Fm.Fl.write_length]
          have HWB : Hid (M3.set i (Fm.nthS m i) = m) := Lib.hid (by rw [hM3]; exact write_back hi)
          clear hM3 hdm
          obtain ⟨u0, hu0, hk0⟩ := HwVal.strs D0.val
          obtain ⟨A0, c0, rfl⟩ := hk0.form_
          obtain ⟨u3, hu3, hk3⟩ := HwVal.strs D3.val
          obtain ⟨A3, c3, rfl⟩ := hk3.form_
          have hm0 := hk0.plain
          have hm3 := hk3.plain
          obtain ⟨b0, o0, rfl, hb0, hc0, hsz0⟩ := hm0.at_ hi
          obtain ⟨b3, o3, rfl, hb3, -, -⟩ := hm3.at_ (by omega : i < M3.length)
          have hxs : (Fm.nthS m i).size ≤ maxLen := hsz0
          have hall : ∀ t ∈ M3.set i (Fm.nthS m i), t.size ≤ maxLen := by
            intro t ht
            rcases List.mem_or_eq_of_mem_set ht with h | rfl
            · exact hm3.sized t h
            · exact hxs
          have HALL := Lib.hid hall
          have HM3 := Lib.hid hm3
          clear hall hm0 hsz0 hxs hk0 hk3 hm3
          have s3 := st1 (HwVal.size D3.val) (HwVal.ones D3.val) #[.slice none 0 0, .slice none 0 0, .int .u8 0, .int .u8 0, .int .u8 0, .int .u8 0, .int .u8 0, .int .u8 0, .int .u8 0, .int .u8 0, .int .u8 0, .int .u8 0, .int .u8 0, .int .u8 0, .int .u8 0, .int .u8 0, .int .u8 0, .int .u8 0] rfl
          have z3 := sz18 T N R K HL.out (HwVal.size D3.val)
          have l3 := HL.out.ld D3.lies (HwVal.size D3.val)
          go_upto_region 8 with fail
          clear s3 z3 l3 g0 g1 g2 g3
          have hb4 : Below W3.heap.size W3 (W3.alloc (.cells cs3 31)) := Below.new _
          have P4 := heap_alloc_new W3 (.cells cs3 31)
          obtain ⟨W4, hW4⟩ : ∃ W, W = W3.alloc (.cells cs3 31) := ⟨_, rfl⟩
          obtain ⟨p4, hp4⟩ : ∃ p, p = W3.heap.size := ⟨_, rfl⟩
          have hq3 : W3.heap.size ≤ p4 := Nat.le_of_eq hp4.symm
          have hq4 : p4 ≤ W3.heap.size := Nat.le_of_eq hp4
          have hz4 : W4.heap.size = p4 + 1 := by rw [hW4, hp4]; simp
          rw [← hW4] at hb4 P4
          rw [← hp4] at P4
          rw [← hW4, ← hp4]
          clear hW4 hp4
          have g0 := cell_block (i := 0) ((hb4.block _ (lt_of_heap QA)).trans QA) rfl
          have g2 := cell_block (i := 2) ((hb4.block _ (lt_of_heap QA)).trans QA) rfl
          have x1 := cell_block (i := 1) ((hb4.block _ D3.lt).trans D3.lies) hu3
          have x2 := cell_block (i := 1) ((hb4.block _ D0.lt).trans D0.lies) hu0
          have x9 := cell_block (i := 1) P4 hu3
          have s9 := free_block (i := 1) P4
          have hp3l : p3 < W4.heap.size := by have := D3.lt; omega
          have hz4a : p4 < W4.heap.size := by omega
          have hz4b : W4.heap.size ≤ p4 + 1 := by omega
          have hl3a : M3.length ≤ m.length := by omega
          have hl3b : m.length ≤ M3.length := by omega
          clear hz4 hl3
          have e2 : decide ((i : Int) < 0) = false := by simp
          have e3 : decide ((M3.length : Int) ≤ (i : Int)) = false := by simp; omega
          have e4 : decide (M3.length ≤ i) = false := by simp; omega
          have e5 : ((M3.length : Int) != (m.length : Int)) = false := by simp; omega
          have e6 : decide ((m.length : Int) ≤ (i : Int)) = false := by simp; omega
          have e7 : decide (m.length ≤ i) = false := by simp; omega
          have e8 : (M3.length != m.length) = false := by simp; omega
          have e9 : (M3.length = m.length) = True := by simp; omega
          obtain ⟨i0, hi0, hz0, hz1, hz2⟩ := info_parts Fm.infoStr
          have hlit : (W4.alloc (.cells #[] 9)).ownsRow W4.heap.size 9 1 (.slice (some ⟨W4.heap.size, 0, none⟩) 0 0) 0 [] := World.ownsRow_lit (base := W4.heap.size) (e := 9) (size := 1) W4 #[] 0 (by simp) (by simp [maxLen]) (by simp)
          have HLIT := Lib.hid hlit
          clear hlit
          go_wp2_with (at_builtin; refine wpList_append_own _ rfl _ _ 25 rfl W4.heap.size 9 i0 _ 1 16 Try.underlying25 hi0 hz0 hz1 hz2 rfl (by decide) (.slice (some ⟨W4.heap.size, 0, none⟩) 0 0) 0 [] (by rfl) HLIT.out ⟨b3, o3, none⟩ M3.length c3 (M3.map Value.string) (by rfl) (by simp) (Fm.strs_news (HM3.out.below ((hb4.alloc (by omega) _).mono (Nat.le_refl _)))) (by simp [Value.oneCell']) (by unfold maxLen; omega) (by omega) (by simp) ?_; intro v' w5 hown1 hgrow _; rw [Nat.zero_add, List.nil_append] at hown1; obtain ⟨g, cap, rfl, hgb, hgl⟩ := Fm.own_slice hown1 (by omega); have cr := hgrow.cell_far ⟨p4, 1, none⟩ (by simp; omega) (by simp [Value.ownBlock]; omega); have fr := hgrow.frozen_far ⟨p4, 1, none⟩ (by simp; omega) (by simp [Value.ownBlock]; omega))
          clear e2 e5 e8 e9 g0 x1 s9 hi0 hz0 hz1 hz2 HLIT
          have hbg : Below W3.heap.size W3 w5 := Below.grown (hb4.alloc (Nat.le_of_lt (Nat.lt_of_le_of_lt hq3 hz4a)) (.cells #[] 9)) hgrow (by simp; omega) (fun j hj => by simp [Value.ownBlock] at hj; omega)
          have hb6 : Below W3.heap.size W3 (w5.setCell ⟨p4, 1, none⟩ (.slice (some ⟨g, 0, none⟩) M3.length cap)) := hbg.setCell (p := ⟨p4, 1, none⟩) hq3 _
          have P5 : w5.heap[p4]? = some (.cells cs3 31 (0, 0)) := (hgrow.block p4 (by simp; omega) (by simp [Value.ownBlock]; omega)).trans ((Below.heap_alloc _ _ _ hz4a).trans P4)
          have P6 := heap_setCell_same w5 p4 1 cs3 31 (.slice (some ⟨g, 0, none⟩) M3.length cap) P5
          have hO := ownsRow_setCell_other (a := ⟨p4, 1, none⟩) hown1 (by simp [Value.ownBlock]; omega) (.slice (some ⟨g, 0, none⟩) M3.length cap)
          have cg := hO.cellAt i (by omega)
          have fg := hO.frozenAt i
          have hgz : g < (w5.setCell ⟨p4, 1, none⟩ (.slice (some ⟨g, 0, none⟩) M3.length cap)).heap.size := by simpa using hgl
          have hOs := (hO.stored i (.string (Fm.nthS m i))).1
          rw [← List.map_set] at hOs
          have HOS := Lib.hid (Fm.strs_set hOs HALL.out)
          clear hOs hO hown1 hgrow cr fr x9 P5 hbg P4 hb4 x2 g2 hz4b hgl
          obtain ⟨W6, hW6⟩ : ∃ W, W = w5.setCell ⟨p4, 1, none⟩ (.slice (some ⟨g, 0, none⟩) M3.length cap) := ⟨_, rfl⟩
          obtain ⟨cs5, hcs5⟩ : ∃ c, c = cs3.setIfInBounds 1 (.slice (some ⟨g, 0, none⟩) M3.length cap) := ⟨_, rfl⟩
          rw [← hW6] at hb6 P6 cg fg HOS hgz
          rw [← hcs5] at P6
          rw [← hW6]
          clear hW6
          have y1 : W6.cell? ⟨p4, 1, none⟩ = some (.slice (some ⟨g, 0, none⟩) M3.length cap) := cell_block P6 (by rw [hcs5]; rw [Array.getElem?_setIfInBounds, if_pos rfl, if_pos (by rw [HwVal.size D3.val]; decide)])
          have y2 : W6.cell? ⟨w.heap.size + 1, 2, none⟩ = some (.int .i64 i) := cell_block (i := 2) ((hb6.block _ (lt_of_heap QA)).trans QA) rfl
          have y3 : W6.cell? ⟨w.heap.size, 1, none⟩ = some (.slice (some ⟨b0, o0, none⟩) m.length c0) := cell_block (i := 1) ((hb6.block _ D0.lt).trans D0.lies) hu0
          have y4 := (hb6.cell (p := ⟨b0, o0 + i, none⟩) hb0).trans hc0
          have hi3 : i < M3.length := by omega
          have n1 : g ≠ p4 := by omega
          have n2 : g ≠ w.heap.size + 1 := by have := lt_of_heap QA; omega
          have n3 : g ≠ w.heap.size := by have := D0.lt; omega
          have n4 : g ≠ b0 := by omega
          have HQ := Lib.hid QA
          have HC5 := Lib.hid hcs5
          have HP6 := Lib.hid P6
          have HHU := Lib.hid hu0
          have hgp : W3.heap.size ≤ g := by omega
          clear hcs5 P6 hu0 hu3 QA QF hc0
          go_region_held3 (fun W' => W'.cell? ⟨p4, 1, none⟩ = some (.slice (some ⟨g, 0, none⟩) M3.length cap) ∧ W'.cell? ⟨w.heap.size + 1, 2, none⟩ = some (.int .i64 i) ∧ W'.cell? ⟨w.heap.size, 1, none⟩ = some (.slice (some ⟨b0, o0, none⟩) m.length c0) ∧ W'.cell? ⟨b0, o0 + i, none⟩ = some (.string (Fm.nthS m i))) (first | assumption | exact ⟨y1, y2, y3, y4⟩ | go_keep) (fail)
          have hb7 : Below W3.heap.size W3 ((W6.setCell ⟨g, i, none⟩ (.string (Fm.nthS m i))).drew) := (hb6.setCell (p := ⟨g, i, none⟩) hgp _).drew
          have P7 : ((W6.setCell ⟨g, i, none⟩ (.string (Fm.nthS m i))).drew).heap[p4]? = some (.cells cs5 31 (0, 0)) := (heap_setCell_other W6 ⟨g, i, none⟩ p4 _ (by simp; omega)).trans HP6.out
          have hst : Fm.RStrs ((W6.setCell ⟨g, i, none⟩ (.string (Fm.nthS m i))).drew) ((W6.setCell ⟨g, i, none⟩ (.string (Fm.nthS m i))).drew).heap.size (.slice (some ⟨g, 0, none⟩) M3.length cap) m := by
            have h := HOS.out
            rw [HWB.out] at h
            exact h.below (Below.refl _ _).drew
          have V7 : HwB ((W6.setCell ⟨g, i, none⟩ (.string (Fm.nthS m i))).drew) cs5 f m r := by
            rw [HC5.out]
            exact hw_set1 (HwVal.b (HwVal.below D3.val hb7)) (strsK_barred hst)
          have D5 : Dev ((W6.setCell ⟨g, i, none⟩ (.string (Fm.nthS m i))).drew) p4 cs5 f m r := ⟨P7, V7⟩
          have D3 := D3.below hb7
          have D0 := D0.below hb7
          have HB := HB.trans (hb7.mono HB.size)
          clear P7 V7 hst hb7 y1 y2 y3 y4 cg fg
          obtain ⟨W7, hW7⟩ : ∃ W, W = (W6.setCell ⟨g, i, none⟩ (.string (Fm.nthS m i))).drew := ⟨_, rfl⟩
          rw [← hW7] at D5 D3 D0 HB
          rw [← hW7]
          clear hW7
          have l5 := HL.out.ld D5.lies (HwVal.size D5.val)
          have l0 := HL.out.ld D0.lies (HwVal.size D0.val)
          have lR0 := HL.out.ldR D0.lies D0.val
          have lR3 := HL.out.ldR D3.lies D3.val
          go_wp2_with fail
          refine (sameB D5.val D0.val).mono ?_
          rintro e w8 ⟨rfl, hb8⟩
          rw [Dv.hsame_refl]
          have D0 := D0.below hb8
          have D3 := D3.below hb8
          have HB := HB.trans (hb8.mono HB.size)
          have lR0 := HL.out.ldR D0.lies D0.val
          have lR3 := HL.out.ldR D3.lies D3.val
          have hEQ := root_eq r w8
          clear l5 l0 hb8
          go_wp2
          go_ret
          exact ⟨rfl, HB⟩
      · have hd := doneB_no hE
        have eE : (doE f m k b c s == 0) = false := by simp [hE]
        rw [doF_no hd, doM_no hd] at D3
        clear hd
        have l0 := HL.out.ld D0.lies (HwVal.size D0.val)
        have l3 := HL.out.ld D3.lies (HwVal.size D3.val)
        go_wp2_with fail
        refine (sameB D3.val D0.val).mono ?_
        rintro e w4 ⟨rfl, hb4⟩
        rw [Dv.hsame_refl]
        have HB := HB.trans (hb4.mono HB.size)
        clear l0 l3
        go_wp2
        go_ret
        exact ⟨rfl, HB⟩
    · have e1 : decide ((300 : Int) < (s.size : Int)) = true := by simp; omega
      have e2 : decide (300 < s.size) = true := by simp; omega
      go_wp2
      go_ret
      exact ⟨rfl, HB⟩


open Go.ChangeShapes Go.WideShapes Go.ChangeAt Go.Deep

namespace lawSeparateC
set_option maxRecDepth 100000 in
theorem lifted (os : Os) (started : os.Started) (H : Type) (enc : TypeId × Value → H) :
    ReturnsInHanded {} Try.checked os 4 .any (Rows.deviceSeparateSpec.pre6 enc Try.prog Try.f4 Rows.deviceSeparateRow.domain false) (Rows.deviceSeparateSpec.post enc Try.prog Try.f4 false true false false) := by
  refine returnsInHanded_of_change (C := Try.checked) own started (by kernel_rfl) Try.func4
    (ChangeSpec.witness6 (enc := enc) (C := Try.checked) false ⟨#[], #[.agg #[.slice none 0 0, .slice none 0 0, .int .u8 0, .int .u8 0, .int .u8 0, .int .u8 0, .int .u8 0, .int .u8 0, .int .u8 0, .int .u8 0, .int .u8 0, .int .u8 0, .int .u8 0, .int .u8 0, .int .u8 0, .int .u8 0, .int .u8 0, .int .u8 0], .agg #[.int .i64 0, .int .i64 0, .int .i64 0, .string ⟨#[]⟩], .agg #[.bool false, .int .i64 0, .bool false]], []⟩ 8 (by kernel_rfl) (by kernel_rfl) (by kernel_rfl) (by kernel_rfl)) ?_
  intro W base args ds gs before hval0 hW hcnd _
  have hval : ∀ (j : Nat) t v, Try.f4.params[j]? = some t → args[j]? = some v → Value.okWide Try.prog W .any base t v := hval0
  have hW' := hW
  obtain ⟨p, q, hA0, hV, rfl, hfz, hnd⟩ := hW
  have hA : DataW.TrodAll enc Try.prog W 0 (fun _ => true) true Try.f4.params.toList args.toList ds p := hA0
  rw [Try.params4] at hA hval
  obtain ⟨v0, vs0, d0, ds0, p0, q0, hargs, rfl, rfl, h0, r0⟩ := trodAll_cons hA
  obtain ⟨v1, vs1, d1, ds1, p1, q1, rfl, rfl, rfl, h1, r1⟩ := trodAll_cons r0
  obtain ⟨v2, vs2, d2, ds2, p2, q2, rfl, rfl, rfl, h2, r2⟩ := trodAll_cons r1
  obtain ⟨rfl, rfl, rfl⟩ := trodAll_nil r2
  obtain rfl : args = #[v0, v1, v2] := by cases args; simp_all
  obtain ⟨rfl, rfl⟩ := trodVars_none hV
  have k0 := h0
  have lt0 : ∀ x ∈ p0, x.block < W.heap.size := by obtain ⟨m, hm⟩ := k0; exact DataW.trod_lt m _ _ _ hm
  obtain ⟨cs0, rfl, _⟩ := okWide_struct Try.underlying31 (hval 0 31 v0 rfl rfl)
  obtain ⟨zc0, zf0, zm0, zr0, e0, s0⟩ : ∃ (c' : Array Value) (f : List (List Nat)) (m : List ByteArray) (r : Nat → Int), (Value.agg cs0).cells.toList = c'.toList ∧ HwB W c' f m r := by obtain ⟨fuel, hf⟩ := h0; exact reads_hw hf
  obtain rfl : cs0 = zc0 := Array.toList_inj.1 (by simpa [Value.cells] using e0)
  have k1 := h1
  have lt1 : ∀ x ∈ p1, x.block < W.heap.size := by obtain ⟨m, hm⟩ := k1; exact DataW.trod_lt m _ _ _ hm
  obtain ⟨cs1, rfl, _⟩ := okWide_struct Try.underlying33 (hval 1 33 v1 rfl rfl)
  obtain ⟨zk1, zb1, zc1, zs1, e1, s1⟩ : ∃ (zk1 zb1 zc1 : Int) (zs1 : ByteArray), (Value.agg cs1).cells.toList = [.int .i64 zk1, .int .i64 zb1, .int .i64 zc1, .string zs1] ∧ zs1.size ≤ maxLen := by obtain ⟨fuel, hf⟩ := h1; exact reads_acc hf
  obtain rfl : cs1 = #[.int .i64 zk1, .int .i64 zb1, .int .i64 zc1, .string zs1] := by cases cs1; simpa [Value.cells] using e1
  have k2 := h2
  have lt2 : ∀ x ∈ p2, x.block < W.heap.size := by obtain ⟨m, hm⟩ := k2; exact DataW.trod_lt m _ _ _ hm
  obtain ⟨cs2, rfl, _⟩ := okWide_struct Try.underlying35 (hval 2 35 v2 rfl rfl)
  obtain ⟨zt2, zn2, zo2, e2⟩ : ∃ (zt2 : Bool) (zn2 : Int) (zo2 : Bool), (Value.agg cs2).cells.toList = [.bool zt2, .int .i64 zn2, .bool zo2] := by obtain ⟨fuel, hf⟩ := h2; exact reads_flt hf
  obtain rfl : cs2 = #[.bool zt2, .int .i64 zn2, .bool zo2] := by cases cs2; simpa [Value.cells] using e2
  clear hA0 hval0
  refine (lawSeparate (w := W) _ zf0 zm0 zr0 s0 zk1 zb1 zc1 zs1 s1 zt2 zn2 zo2 ).mono fun e W' ⟨he, bel⟩ => ?_
  subst he
  exact ⟨_, rfl, _, _, _, [], _, [], hW', trodAll_mk1 (shut_bool Try.underlying4 _), (trodAll_cons_mk (Below.trod laidOut (by kernel_rfl) (of_decide_eq_true (by kernel_rfl)) k0 bel lt0) (trodAll_cons_mk (Below.trod laidOut (by kernel_rfl) (of_decide_eq_true (by kernel_rfl)) k1 bel lt1) (trodAll_cons_mk (Below.trod laidOut (by kernel_rfl) (of_decide_eq_true (by kernel_rfl)) k2 bel lt2) trodAll_mk0))), rfl, bel.frame _, fun h => by cases h⟩

theorem over : Rows.deviceSeparateRow.holds Try.pinned (OpenSpec.ofChange Rows.deviceSeparateSpec) :=
  OpenClaim.holds_of_wide 4 Try.f4 rfl rfl rfl rfl rfl rfl rfl ⟨rfl, rfl, rfl, rfl, rfl⟩ rfl rfl rfl rfl rfl (by kernel_rfl) Try.func4 (by kernel_rfl)
    (of_decide_eq_true (by kernel_rfl)) (by unfold Func.isWrapper; first | (rw [if_pos (by decide +kernel)]; kernel_rfl) | (rw [if_neg (by decide +kernel)]; exact ⟨rfl, rfl⟩))
    (fun os started H enc _ => lifted os started H enc)
end lawSeparateC

theorem deviceSeparate_holds : Rows.DeviceSeparateSaid := lawSeparateC.over

end Go.Proofs.Ytncgechmloekbaa
