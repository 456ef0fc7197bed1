/- Device: the laws' sanity: the walk. -/
import Derived.Test.YtncgechmloekbaaDvQ
namespace Go.Proofs.Ytncgechmloekbaa
open Go.RowKit

theorem heap_two (w : World) (o1 o2 : Obj) : ((w.alloc o1).alloc o2).heap[w.heap.size + 1]? = some o2 := by
  have h := heap_alloc_new (w.alloc o1) o2
  rwa [World.size_alloc] at h

/-- behind the region of the cut write -/
def WroteHw (W1 : World) (x y : Value) (W : World) : Prop :=
  ∃ p q cs, x = .pointer (some ⟨p, 0, none⟩) ∧ y = .pointer (some ⟨q, 0, none⟩) ∧ Dev W p cs Dv.F0 Dv.M1 Dv.r5 ∧ Res W q (.int .i64 0) (.string ⟨#[]⟩) ∧ Below W1.heap.size W1 W

section
variable {W1 w7 : World} {S0 X Y : Nat} {cs z : Array Value}
theorem keep_far {W W' : World} {ok : Nat → Prop} {cs : Array Value} {f : List (List Nat)} {m : List ByteArray} {r : Nat → Int} (h : HwVal W ok cs f m r) (hk : ∀ b, ok b → b < W.heap.size → W'.heap[b]? = W.heap[b]?) : HwB W' cs f m r := HwVal.b (h.keep hk (fun _ h => h))
theorem wr1 (hv : HwVal w7 (fun x => x < W1.heap.size ∨ S0 ≤ x) cs Dv.F0 Dv.M1 Dv.r5) (hU : Und W1 w7) : WroteHw W1 (.pointer (some ⟨w7.heap.size, 0, none⟩)) (.pointer (some ⟨w7.heap.size + 1, 0, none⟩)) ((w7.alloc (.cells cs 31)).alloc (.cells #[.int .i64 0, .string ⟨#[]⟩] 40)) :=
  ⟨_, _, cs, rfl, rfl, Dev.new2 hv.b _, blk_second _ _ _, ((hU.alloc _).alloc _).keeps⟩
theorem wr2 (hv : HwVal w7 (fun x => x < W1.heap.size ∨ S0 ≤ x) cs Dv.F0 Dv.M1 Dv.r5) (hU : Und W1 w7) : WroteHw W1 (.pointer (some ⟨w7.heap.size + 1, 0, none⟩)) (.pointer (some ⟨w7.heap.size, 0, none⟩)) ((w7.alloc (.cells #[.int .i64 0, .string ⟨#[]⟩] 40)).alloc (.cells cs 31)) :=
  ⟨_, _, cs, rfl, rfl, ⟨blk_second _ _ _, (hv.b.below (Below.new _)).below (Below.new _)⟩, blk_old (heap_alloc_new _ _), ((hU.alloc _).alloc _).keeps⟩
theorem wr3 (hv : HwVal w7 (fun x => x < W1.heap.size ∨ S0 ≤ x) cs Dv.F0 Dv.M1 Dv.r5) (hU : Und W1 w7) (hX : W1.heap.size ≤ X) (hS : X < S0) (hz : z.size = 18) (qZ : Blk w7 X (.cells z 31)) : WroteHw W1 (.pointer (some ⟨X, 0, none⟩)) (.pointer (some ⟨w7.heap.size, 0, none⟩)) ((putRow w7 X cs).alloc (.cells #[.int .i64 0, .string ⟨#[]⟩] 40)) := by
  have hB : HwB (putRow w7 X cs) cs Dv.F0 Dv.M1 Dv.r5 := keep_far hv (fun b hb _ => put_other (by omega))
  have hn := heap_alloc_new (putRow w7 X cs) (.cells #[.int .i64 0, .string ⟨#[]⟩] 40)
  rw [size_putRow] at hn
  exact ⟨_, _, cs, rfl, rfl, ⟨blk_old (put_same qZ (hv.size.trans hz.symm)), hB.below (Below.new _)⟩, hn, ((hU.put hX _).alloc _).keeps⟩
theorem wr4 (hv : HwVal w7 (fun x => x < W1.heap.size ∨ S0 ≤ x) cs Dv.F0 Dv.M1 Dv.r5) (hU : Und W1 w7) (hX : W1.heap.size ≤ X) (hS : X < S0) (hY : W1.heap.size ≤ Y) (hT : Y < S0) (hz : z.size = 18) (qZ : Blk w7 X (.cells z 31)) (qR : Blk w7 Y (.cells #[.int .i64 0, .string ⟨#[]⟩] 40)) (hne : X ≠ Y) :
    WroteHw W1 (.pointer (some ⟨X, 0, none⟩)) (.pointer (some ⟨Y, 0, none⟩)) (((putRow w7 X cs).setCell ⟨Y, 0, none⟩ (.int .i64 0)).setCell ⟨Y, 1, none⟩ (.string ⟨#[]⟩)) := by
  have far : ∀ b, b ≠ Y → (((putRow w7 X cs).setCell ⟨Y, 0, none⟩ (.int .i64 0)).setCell ⟨Y, 1, none⟩ (.string ⟨#[]⟩)).heap[b]? = (putRow w7 X cs).heap[b]? := fun b hb => (heap_setCell_other _ ⟨Y, 1, none⟩ b _ hb).trans (heap_setCell_other _ ⟨Y, 0, none⟩ b _ hb)
  have hB := keep_far (W' := ((putRow w7 X cs).setCell ⟨Y, 0, none⟩ (.int .i64 0)).setCell ⟨Y, 1, none⟩ (.string ⟨#[]⟩)) hv (fun b hb _ => (far b (by omega)).trans (put_other (by omega)))
  exact ⟨_, _, cs, rfl, rfl, ⟨(far X hne).trans (put_same qZ (hv.size.trans hz.symm)), hB⟩, heap_setCell_same _ _ 1 _ _ _ (heap_setCell_same _ _ 0 _ _ _ ((put_other hne.symm).trans qR)), (((hU.put hX _).set hY _ _).set hY _ _).keeps⟩
theorem wr5 (hv : HwVal w7 (fun x => x < W1.heap.size ∨ S0 ≤ x) cs Dv.F0 Dv.M1 Dv.r5) (hU : Und W1 w7) (hY : W1.heap.size ≤ Y) (hT : Y < S0) (qR : Blk w7 Y (.cells #[.int .i64 0, .string ⟨#[]⟩] 40)) :
    WroteHw W1 (.pointer (some ⟨w7.heap.size, 0, none⟩)) (.pointer (some ⟨Y, 0, none⟩)) (((w7.setCell ⟨Y, 0, none⟩ (.int .i64 0)).setCell ⟨Y, 1, none⟩ (.string ⟨#[]⟩)).alloc (.cells cs 31)) := by
  have far : ∀ b, b ≠ Y → ((w7.setCell ⟨Y, 0, none⟩ (.int .i64 0)).setCell ⟨Y, 1, none⟩ (.string ⟨#[]⟩)).heap[b]? = w7.heap[b]? := fun b hb => (heap_setCell_other _ ⟨Y, 1, none⟩ b _ hb).trans (heap_setCell_other _ ⟨Y, 0, none⟩ b _ hb)
  have hB := keep_far (W' := (w7.setCell ⟨Y, 0, none⟩ (.int .i64 0)).setCell ⟨Y, 1, none⟩ (.string ⟨#[]⟩)) hv (fun b hb _ => far b (by omega))
  have hn := heap_alloc_new ((w7.setCell ⟨Y, 0, none⟩ (.int .i64 0)).setCell ⟨Y, 1, none⟩ (.string ⟨#[]⟩)) (.cells cs 31)
  simp only [World.size_setCell] at hn
  exact ⟨_, _, cs, rfl, rfl, ⟨hn, hB.below (Below.new _)⟩, blk_old (heap_setCell_same _ _ 1 _ _ _ (heap_setCell_same _ _ 0 _ _ _ qR)), (((hU.set hY _ _).set hY _ _).alloc _).keeps⟩
end

set_option maxRecDepth 100000 in
set_option maxHeartbeats 4000000 in
theorem sanity_any (w : World) : Calls Try.prog 8 #[] w fun e w' => e = .returned (.bool true) ∧ Below w.heap.size w w' := by
  obtain ⟨T, N, R, K, L⟩ := letters
  go_enter Try.func8, Try.ntmps8
  simp only [L.load, L.store, L.loadR]
  have la := L.agg
  have lz := L.size
  have ra := L.aggR
  have rz := L.sizeR
  have HL := Lib.hid L
  clear L
  have HB : Below w.heap.size w w := Below.refl _ _
  go_wp2_with fail
  refine (newC Dv.r5 _ [2, 1] _ (ints_lit (xs := [2, 1]) (heap_alloc_new _ _) (by decide) rfl)).mono ?_
  rintro e w1 ⟨cs1, rfl, hv1, hb1⟩
  rw [Dv.s0]
  rw [Dv.s1, Dv.s2] at hv1
  have hv1 := hv1.b
  have HB := (HB.alloc HB.size _).trans (hb1.mono (by simp))
  have z1 := sz18 T N R K HL.out (HwVal.size hv1)
  have s1 := st1 (HwVal.size hv1) (HwVal.ones hv1) #[.slice none 0 0, .slice none 0 0, .int .u8 0, .int .u8 0, .int .u8 0, .int .u8 0, .int .u8 0, .int .u8 0, .int .u8 0, .int .u8 0, .int .u8 0, .int .u8 0, .int .u8 0, .int .u8 0, .int .u8 0, .int .u8 0, .int .u8 0, .int .u8 0] rfl
  go_upto_region 2 with fail
  have hn1 : Below w1.heap.size w1 (w1.alloc (.cells cs1 31)) := Below.new _
  have HB := HB.trans (hn1.mono HB.size)
  have D1 : Dev (w1.alloc (.cells cs1 31)) w1.heap.size cs1 _ _ _ := Dev.new hv1
  obtain ⟨W1, hW1⟩ : ∃ W, W = w1.alloc (.cells cs1 31) := ⟨_, rfl⟩
  obtain ⟨p1, hp1⟩ : ∃ p, p = w1.heap.size := ⟨_, rfl⟩
  rw [← hW1] at D1  HB
  rw [← hp1] at D1
  rw [← hW1, ← hp1]
  clear hW1 hp1 hn1 hv1 hb1 s1
  have D1 : Dev W1 p1 cs1 Dv.F0 Dv.M0 Dv.r5 := D1
  have l1 := HL.out.ld D1.lies (HwVal.size D1.val)
  go_cut [3, 4, 5] (fun x y z Wc => WroteHw W1 x y Wc ∧ z = .int .i64 0)
  case first =>
    have hU0 : Und W1 W1 := ⟨Below.refl _ _⟩
    have HD := Lib.hid D1
    have HBh := Lib.hid HB
    have SU : Hid (∀ W', Und W1 W' → Sem.run Try.prog (loadCellsFrom ⟨p1, 0, none⟩ 0 N #[]) W' = .ok cs1 W' ∧ Und W1 W') := Lib.hid (fun W' h => ⟨HL.out.ld ((h.keeps.block p1 D1.lt).trans D1.lies) (HwVal.size D1.val), h⟩)
    have hbm : (Fm.Fl.full 97).size ≤ maxLen := by rw [Fm.Fl.full_size]; decide
    have HM := Lib.hid hbm
    clear D1 HB hbm l1
    go_region_held3 (fun W' => Sem.run Try.prog (loadCellsFrom ⟨p1, 0, none⟩ 0 N #[]) W' = .ok cs1 W' ∧ Und W1 W') (first | assumption | exact SU.out _ hU0.drew | exact SU.out _ (Und.alloc hU7 _) | exact SU.out _ (Und.alloc (Und.alloc hU7 _) _) | exact SU.out _ (Und.put hU7 (by first | exact Nat.le_refl _ | exact Nat.le_succ _ | exact hU6.keeps.size | exact Nat.le_succ_of_le hU6.keeps.size) _) | exact SU.out _ (Und.alloc (Und.put hU7 (by first | exact Nat.le_refl _ | exact Nat.le_succ _ | exact hU6.keeps.size | exact Nat.le_succ_of_le hU6.keeps.size) _) _) | exact SU.out _ (Und.set (Und.set hU7 (by first | exact Nat.le_refl _ | exact Nat.le_succ _ | exact hU6.keeps.size | exact Nat.le_succ_of_le hU6.keeps.size) _ _) (by first | exact Nat.le_refl _ | exact Nat.le_succ _ | exact hU6.keeps.size | exact Nat.le_succ_of_le hU6.keeps.size) _ _) | exact SU.out _ (Und.alloc (Und.set (Und.set hU7 (by first | exact Nat.le_refl _ | exact Nat.le_succ _ | exact hU6.keeps.size | exact Nat.le_succ_of_le hU6.keeps.size) _ _) (by first | exact Nat.le_refl _ | exact Nat.le_succ _ | exact hU6.keeps.size | exact Nat.le_succ_of_le hU6.keeps.size) _ _) _) | exact SU.out _ (Und.set (Und.set (Und.put hU7 (by first | exact Nat.le_refl _ | exact Nat.le_succ _ | exact hU6.keeps.size | exact Nat.le_succ_of_le hU6.keeps.size) _) (by first | exact Nat.le_refl _ | exact Nat.le_succ _ | exact hU6.keeps.size | exact Nat.le_succ_of_le hU6.keeps.size) _ _) (by first | exact Nat.le_refl _ | exact Nat.le_succ _ | exact hU6.keeps.size | exact Nat.le_succ_of_le hU6.keeps.size) _ _) | exact SU.out _ (Und.set (Und.set (Und.alloc hU7 _) (by first | exact Nat.le_refl _ | exact Nat.le_succ _ | exact hU6.keeps.size | exact Nat.le_succ_of_le hU6.keeps.size) _ _) (by first | exact Nat.le_refl _ | exact Nat.le_succ _ | exact hU6.keeps.size | exact Nat.le_succ_of_le hU6.keeps.size) _ _) | (go_split_ands; exact SU.out _ (by assumption)) | (go_split_ands; exact SU.out _ (Und.alloc (by assumption) _))) (first
      | (go_at_call 19; go_split_ands; (with_reducible refine (Fm.full_any 97 _).mono ?_); rintro e w6 ⟨rfl, hb6⟩; have hU6 : Und W1 w6 := Und.below (by assumption) hb6; (first | (have qq := shape4 hb6; obtain ⟨qZ, qR⟩ := qq) | (have qq := shape5 hb6; obtain ⟨qR, qZ⟩ := qq) | (have qZ := shape2 hb6) | (have qR := shape3 hb6) | skip); have hz6 := hb6.size; (try simp only [World.size_alloc, World.size_drew] at hz6))
      | (go_at_call 10; go_split_ands; (with_reducible refine (doC (hw_und HD.out (by assumption)) (fun x hx => Nat.lt_of_lt_of_le hx (Und.keeps (by assumption)).size) Dv.small0 (by rw [Dv.len0]; decide) 4 0 1 (Fm.Fl.full 97) true false 3 HM.out).mono ?_); rintro e w7 ⟨cs7, rfl, hv7, hb7⟩; rw [Dv.e1, Dv.v1, Dv.b1]; rw [Dv.f1, Dv.m1] at hv7; have hU7 : Und W1 w7 := Und.below (by assumption) hb7; (first | (have qu := up3 hb7 (w6 := w6)) | (have qu := up2 hb7 (w6 := w6)) | (have qu := up1 hb7 (w6 := w6))); (try have qZ := qu _ _ qZ); (try have qR := qu _ _ qR); clear qu; (first | (have qq := shape4' hb7; obtain ⟨qZ, qR⟩ := qq) | (have qq := shape5' hb7; obtain ⟨qR, qZ⟩ := qq) | (have qZ := shape2' hb7) | (have qR := shape3' hb7) | skip); have hz7 := hb7.size; (try simp only [World.size_alloc] at hz7); have z7 := sz18 T N R K HL.out (HwVal.size hv7); have sA := st1 (HwVal.size hv7) (HwVal.ones hv7) #[.slice none 0 0, .slice none 0 0, .int .u8 0, .int .u8 0, .int .u8 0, .int .u8 0, .int .u8 0, .int .u8 0, .int .u8 0, .int .u8 0, .int .u8 0, .int .u8 0, .int .u8 0, .int .u8 0, .int .u8 0, .int .u8 0, .int .u8 0, .int .u8 0] rfl; have sB := st2 (HwVal.size hv7) (HwVal.ones hv7) #[.slice none 0 0, .slice none 0 0, .int .u8 0, .int .u8 0, .int .u8 0, .int .u8 0, .int .u8 0, .int .u8 0, .int .u8 0, .int .u8 0, .int .u8 0, .int .u8 0, .int .u8 0, .int .u8 0, .int .u8 0, .int .u8 0, .int .u8 0, .int .u8 0] rfl; have sC := st3 (HwVal.size hv7) (HwVal.ones hv7) #[.slice none 0 0, .slice none 0 0, .int .u8 0, .int .u8 0, .int .u8 0, .int .u8 0, .int .u8 0, .int .u8 0, .int .u8 0, .int .u8 0, .int .u8 0, .int .u8 0, .int .u8 0, .int .u8 0, .int .u8 0, .int .u8 0, .int .u8 0, .int .u8 0] rfl; (try have sD := st4 (HwVal.size hv7) (HwVal.ones hv7) #[.slice none 0 0, .slice none 0 0, .int .u8 0, .int .u8 0, .int .u8 0, .int .u8 0, .int .u8 0, .int .u8 0, .int .u8 0, .int .u8 0, .int .u8 0, .int .u8 0, .int .u8 0, .int .u8 0, .int .u8 0, .int .u8 0, .int .u8 0, .int .u8 0] rfl _ _ qZ); (try have sE := fun o => st5 (HwVal.size hv7) (HwVal.ones hv7) #[.slice none 0 0, .slice none 0 0, .int .u8 0, .int .u8 0, .int .u8 0, .int .u8 0, .int .u8 0, .int .u8 0, .int .u8 0, .int .u8 0, .int .u8 0, .int .u8 0, .int .u8 0, .int .u8 0, .int .u8 0, .int .u8 0, .int .u8 0, .int .u8 0] rfl _ _ o qZ); (try (have qP := blk_put cs7 qR qZ; have qq := res_facts qP; obtain ⟨qP0, qP1, qP2, qP3⟩ := qq; clear qP)); (try (have qq := res_facts qR; obtain ⟨qR0, qR1, qR2, qR3⟩ := qq; have qRl := lt_of_heap qR)); have hps : ∀ X, (putRow w7 X cs7).heap.size = w7.heap.size := (fun X => size_putRow w7 X cs7); have HV7 := Lib.hid hv7; clear hv7))
    all_goals
      go_wp2_with fail
      go_meet
    all_goals
      have hu6 := hU6.keeps.size
      first
        | exact ⟨wr1 HV7.out hU7, rfl⟩
        | exact ⟨wr2 HV7.out hU7, rfl⟩
        | exact ⟨wr3 HV7.out hU7 (by first | exact Nat.le_refl _ | exact Nat.le_succ _ | exact hU6.keeps.size | exact Nat.le_succ_of_le hU6.keeps.size) (by (try simp only [World.size_alloc]); omega) rfl qZ, rfl⟩
        | exact ⟨wr5 HV7.out hU7 (by first | exact Nat.le_refl _ | exact Nat.le_succ _ | exact hU6.keeps.size | exact Nat.le_succ_of_le hU6.keeps.size) (by (try simp only [World.size_alloc]); omega) qR, rfl⟩
        | exact ⟨wr4 HV7.out hU7 (by first | exact Nat.le_refl _ | exact Nat.le_succ _ | exact hU6.keeps.size | exact Nat.le_succ_of_le hU6.keeps.size) (by (try simp only [World.size_alloc]); omega) (by first | exact Nat.le_refl _ | exact Nat.le_succ _ | exact hU6.keeps.size | exact Nat.le_succ_of_le hU6.keeps.size) (by (try simp only [World.size_alloc]); omega) rfl qZ qR (by omega), rfl⟩
  case rest =>
    obtain ⟨⟨p2, q2, cs2, rfl, rfl, D2, R2, hb2⟩, rfl⟩ := hcut
    rename World => W2
    have D1 := D1.below hb2
    have HB := HB.trans (hb2.mono HB.size)
    clear hb2 l1
    have l2 := HL.out.ld D2.lies (HwVal.size D2.val)
    go_wp2_with fail
    refine (doC D2.val (fun _ h => h) Dv.small0 (by rw [Dv.len1]; decide) 3 0 1 ⟨#[]⟩ false false 0 (by decide)).mono ?_
    rintro e w3 ⟨cs3, rfl, hv3, hb3⟩
    rw [Dv.e2, Dv.v2, Dv.b2]
    rw [Dv.f2, Dv.m2] at hv3
    have hv3 := hv3.b
    have D1 := D1.below hb3
    have D2 := D2.below hb3
    have R2 := R2.below hb3
    have HB := HB.trans (hb3.mono HB.size)
    have z3 := sz18 T N R K HL.out (HwVal.size hv3)
    have s3 := st2 (HwVal.size hv3) (HwVal.ones hv3) #[.slice none 0 0, .slice none 0 0, .int .u8 0, .int .u8 0, .int .u8 0, .int .u8 0, .int .u8 0, .int .u8 0, .int .u8 0, .int .u8 0, .int .u8 0, .int .u8 0, .int .u8 0, .int .u8 0, .int .u8 0, .int .u8 0, .int .u8 0, .int .u8 0] rfl
    clear l2
    go_upto_region 4 with fail
    have hn3 : Below w3.heap.size w3 ((w3.alloc (.cells cs3 31)).alloc (.cells #[.int .i64 0, .string Dv.B1] 40)) := (Below.new _).trans ((Below.new _).mono (by simp))
    have D1 := D1.below hn3
    have D2 := D2.below hn3
    have R2 := R2.below hn3
    have HB := HB.trans (hn3.mono HB.size)
    have D3 : Dev ((w3.alloc (.cells cs3 31)).alloc (.cells #[.int .i64 0, .string Dv.B1] 40)) w3.heap.size cs3 _ _ _ := Dev.new2 hv3 _
    have R3 : Res ((w3.alloc (.cells cs3 31)).alloc (.cells #[.int .i64 0, .string Dv.B1] 40)) (w3.heap.size + 1) (.int .i64 0) (.string Dv.B1) := heap_two _ _ _
    obtain ⟨W3, hW3⟩ : ∃ W, W = (w3.alloc (.cells cs3 31)).alloc (.cells #[.int .i64 0, .string Dv.B1] 40) := ⟨_, rfl⟩
    obtain ⟨p3, hp3⟩ : ∃ p, p = w3.heap.size := ⟨_, rfl⟩
    rw [← hW3] at D1 D2 D3 R2 R3 HB
    rw [← hp3] at D3
    rw [← hp3] at R3
    rw [← hW3, ← hp3]
    clear hW3 hp3 hn3 hv3 hb3 s3
    have l3 := HL.out.ld D3.lies (HwVal.size D3.val)
    go_wp2_with fail
    refine (doC D3.val (fun _ h => h) Dv.small0 (by rw [Dv.len1]; decide) 2 1 2 ⟨#[]⟩ true false 0 (by decide)).mono ?_
    rintro e w4 ⟨cs4, rfl, hv4, hb4⟩
    rw [Dv.e3, Dv.v3, Dv.b3]
    rw [Dv.f3, Dv.m3] at hv4
    have hv4 := hv4.b
    have D1 := D1.below hb4
    have D2 := D2.below hb4
    have D3 := D3.below hb4
    have R2 := R2.below hb4
    have R3 := R3.below hb4
    have HB := HB.trans (hb4.mono HB.size)
    have z4 := sz18 T N R K HL.out (HwVal.size hv4)
    have s4 := st2 (HwVal.size hv4) (HwVal.ones hv4) #[.slice none 0 0, .slice none 0 0, .int .u8 0, .int .u8 0, .int .u8 0, .int .u8 0, .int .u8 0, .int .u8 0, .int .u8 0, .int .u8 0, .int .u8 0, .int .u8 0, .int .u8 0, .int .u8 0, .int .u8 0, .int .u8 0, .int .u8 0, .int .u8 0] rfl
    clear l3
    go_upto_region 5 with fail
    have hn4 : Below w4.heap.size w4 ((w4.alloc (.cells cs4 31)).alloc (.cells #[.int .i64 0, .string ⟨#[]⟩] 40)) := (Below.new _).trans ((Below.new _).mono (by simp))
    have D1 := D1.below hn4
    have D2 := D2.below hn4
    have D3 := D3.below hn4
    have R2 := R2.below hn4
    have R3 := R3.below hn4
    have HB := HB.trans (hn4.mono HB.size)
    have D4 : Dev ((w4.alloc (.cells cs4 31)).alloc (.cells #[.int .i64 0, .string ⟨#[]⟩] 40)) w4.heap.size cs4 _ _ _ := Dev.new2 hv4 _
    have R4 : Res ((w4.alloc (.cells cs4 31)).alloc (.cells #[.int .i64 0, .string ⟨#[]⟩] 40)) (w4.heap.size + 1) (.int .i64 0) (.string ⟨#[]⟩) := heap_two _ _ _
    obtain ⟨W4, hW4⟩ : ∃ W, W = (w4.alloc (.cells cs4 31)).alloc (.cells #[.int .i64 0, .string ⟨#[]⟩] 40) := ⟨_, rfl⟩
    obtain ⟨p4, hp4⟩ : ∃ p, p = w4.heap.size := ⟨_, rfl⟩
    rw [← hW4] at D1 D2 D3 D4 R2 R3 R4 HB
    rw [← hp4] at D4
    rw [← hp4] at R4
    rw [← hW4, ← hp4]
    clear hW4 hp4 hn4 hv4 hb4 s4
    have l4 := HL.out.ld D4.lies (HwVal.size D4.val)
    go_wp2_with fail
    refine (doC D4.val (fun _ h => h) Dv.small1 (by rw [Dv.len1]; decide) 1 1 2 ⟨#[]⟩ false true 0 (by decide)).mono ?_
    rintro e w5 ⟨cs5, rfl, hv5, hb5⟩
    rw [Dv.e4, Dv.v4, Dv.b4]
    rw [Dv.f4, Dv.m4] at hv5
    have hv5 := hv5.b
    have D1 := D1.below hb5
    have D2 := D2.below hb5
    have D3 := D3.below hb5
    have D4 := D4.below hb5
    have R2 := R2.below hb5
    have R3 := R3.below hb5
    have R4 := R4.below hb5
    have HB := HB.trans (hb5.mono HB.size)
    have z5 := sz18 T N R K HL.out (HwVal.size hv5)
    have s5 := st2 (HwVal.size hv5) (HwVal.ones hv5) #[.slice none 0 0, .slice none 0 0, .int .u8 0, .int .u8 0, .int .u8 0, .int .u8 0, .int .u8 0, .int .u8 0, .int .u8 0, .int .u8 0, .int .u8 0, .int .u8 0, .int .u8 0, .int .u8 0, .int .u8 0, .int .u8 0, .int .u8 0, .int .u8 0] rfl
    clear l4
    go_upto_region 6 with fail
    have hn5 : Below w5.heap.size w5 ((w5.alloc (.cells cs5 31)).alloc (.cells #[.int .i64 1, .string ⟨#[]⟩] 40)) := (Below.new _).trans ((Below.new _).mono (by simp))
    have D1 := D1.below hn5
    have D2 := D2.below hn5
    have D3 := D3.below hn5
    have D4 := D4.below hn5
    have R2 := R2.below hn5
    have R3 := R3.below hn5
    have R4 := R4.below hn5
    have HB := HB.trans (hn5.mono HB.size)
    have D5 : Dev ((w5.alloc (.cells cs5 31)).alloc (.cells #[.int .i64 1, .string ⟨#[]⟩] 40)) w5.heap.size cs5 _ _ _ := Dev.new2 hv5 _
    have R5 : Res ((w5.alloc (.cells cs5 31)).alloc (.cells #[.int .i64 1, .string ⟨#[]⟩] 40)) (w5.heap.size + 1) (.int .i64 1) (.string ⟨#[]⟩) := heap_two _ _ _
    obtain ⟨W5, hW5⟩ : ∃ W, W = (w5.alloc (.cells cs5 31)).alloc (.cells #[.int .i64 1, .string ⟨#[]⟩] 40) := ⟨_, rfl⟩
    obtain ⟨p5, hp5⟩ : ∃ p, p = w5.heap.size := ⟨_, rfl⟩
    rw [← hW5] at D1 D2 D3 D4 D5 R2 R3 R4 R5 HB
    rw [← hp5] at D5
    rw [← hp5] at R5
    rw [← hW5, ← hp5]
    clear hW5 hp5 hn5 hv5 hb5 s5
    have l4 := HL.out.ld D4.lies (HwVal.size D4.val)
    go_wp2_with fail
    refine (doC D4.val (fun _ h => h) Dv.small1 (by rw [Dv.len1]; decide) 1 1 2 ⟨#[]⟩ false false 0 (by decide)).mono ?_
    rintro e w6 ⟨cs6, rfl, hv6, hb6⟩
    rw [Dv.e4, Dv.v5, Dv.b4]
    rw [Dv.f4, Dv.m4] at hv6
    have hv6 := hv6.b
    have D1 := D1.below hb6
    have D2 := D2.below hb6
    have D3 := D3.below hb6
    have D4 := D4.below hb6
    have D5 := D5.below hb6
    have R2 := R2.below hb6
    have R3 := R3.below hb6
    have R4 := R4.below hb6
    have R5 := R5.below hb6
    have HB := HB.trans (hb6.mono HB.size)
    have z6 := sz18 T N R K HL.out (HwVal.size hv6)
    have s6 := st2 (HwVal.size hv6) (HwVal.ones hv6) #[.slice none 0 0, .slice none 0 0, .int .u8 0, .int .u8 0, .int .u8 0, .int .u8 0, .int .u8 0, .int .u8 0, .int .u8 0, .int .u8 0, .int .u8 0, .int .u8 0, .int .u8 0, .int .u8 0, .int .u8 0, .int .u8 0, .int .u8 0, .int .u8 0] rfl
    clear l4
    go_upto_region 7 with fail
    have hn6 : Below w6.heap.size w6 ((w6.alloc (.cells cs6 31)).alloc (.cells #[.int .i64 0, .string ⟨#[]⟩] 40)) := (Below.new _).trans ((Below.new _).mono (by simp))
    have D1 := D1.below hn6
    have D2 := D2.below hn6
    have D3 := D3.below hn6
    have D4 := D4.below hn6
    have D5 := D5.below hn6
    have R2 := R2.below hn6
    have R3 := R3.below hn6
    have R4 := R4.below hn6
    have R5 := R5.below hn6
    have HB := HB.trans (hn6.mono HB.size)
    have D6 : Dev ((w6.alloc (.cells cs6 31)).alloc (.cells #[.int .i64 0, .string ⟨#[]⟩] 40)) w6.heap.size cs6 _ _ _ := Dev.new2 hv6 _
    have R6 : Res ((w6.alloc (.cells cs6 31)).alloc (.cells #[.int .i64 0, .string ⟨#[]⟩] 40)) (w6.heap.size + 1) (.int .i64 0) (.string ⟨#[]⟩) := heap_two _ _ _
    obtain ⟨W6, hW6⟩ : ∃ W, W = (w6.alloc (.cells cs6 31)).alloc (.cells #[.int .i64 0, .string ⟨#[]⟩] 40) := ⟨_, rfl⟩
    obtain ⟨p6, hp6⟩ : ∃ p, p = w6.heap.size := ⟨_, rfl⟩
    rw [← hW6] at D1 D2 D3 D4 D5 D6 R2 R3 R4 R5 R6 HB
    rw [← hp6] at D6
    rw [← hp6] at R6
    rw [← hW6, ← hp6]
    clear hW6 hp6 hn6 hv6 hb6 s6
    have l1 := HL.out.ld D1.lies (HwVal.size D1.val)
    go_wp2_with fail
    refine (doC D1.val (fun _ h => h) Dv.small0 (by rw [Dv.len0]; decide) 5 0 0 ⟨#[]⟩ false false 0 (by decide)).mono ?_
    rintro e w7 ⟨cs7, rfl, hv7, hb7⟩
    rw [Dv.e6, Dv.v6, Dv.b6]
    rw [Dv.f6, Dv.m6] at hv7
    have hv7 := hv7.b
    have D1 := D1.below hb7
    have D2 := D2.below hb7
    have D3 := D3.below hb7
    have D4 := D4.below hb7
    have D5 := D5.below hb7
    have D6 := D6.below hb7
    have R2 := R2.below hb7
    have R3 := R3.below hb7
    have R4 := R4.below hb7
    have R5 := R5.below hb7
    have R6 := R6.below hb7
    have HB := HB.trans (hb7.mono HB.size)
    have z7 := sz18 T N R K HL.out (HwVal.size hv7)
    have s7 := st2 (HwVal.size hv7) (HwVal.ones hv7) #[.slice none 0 0, .slice none 0 0, .int .u8 0, .int .u8 0, .int .u8 0, .int .u8 0, .int .u8 0, .int .u8 0, .int .u8 0, .int .u8 0, .int .u8 0, .int .u8 0, .int .u8 0, .int .u8 0, .int .u8 0, .int .u8 0, .int .u8 0, .int .u8 0] rfl
    clear l1
    go_upto_region 8 with fail
    have hn7 : Below w7.heap.size w7 ((w7.alloc (.cells cs7 31)).alloc (.cells #[.int .i64 0, .string ⟨#[]⟩] 40)) := (Below.new _).trans ((Below.new _).mono (by simp))
    have D1 := D1.below hn7
    have D2 := D2.below hn7
    have D3 := D3.below hn7
    have D4 := D4.below hn7
    have D5 := D5.below hn7
    have D6 := D6.below hn7
    have R2 := R2.below hn7
    have R3 := R3.below hn7
    have R4 := R4.below hn7
    have R5 := R5.below hn7
    have R6 := R6.below hn7
    have HB := HB.trans (hn7.mono HB.size)
    have D7 : Dev ((w7.alloc (.cells cs7 31)).alloc (.cells #[.int .i64 0, .string ⟨#[]⟩] 40)) w7.heap.size cs7 _ _ _ := Dev.new2 hv7 _
    have R7 : Res ((w7.alloc (.cells cs7 31)).alloc (.cells #[.int .i64 0, .string ⟨#[]⟩] 40)) (w7.heap.size + 1) (.int .i64 0) (.string ⟨#[]⟩) := heap_two _ _ _
    obtain ⟨W7, hW7⟩ : ∃ W, W = (w7.alloc (.cells cs7 31)).alloc (.cells #[.int .i64 0, .string ⟨#[]⟩] 40) := ⟨_, rfl⟩
    obtain ⟨p7, hp7⟩ : ∃ p, p = w7.heap.size := ⟨_, rfl⟩
    rw [← hW7] at D1 D2 D3 D4 D5 D6 D7 R2 R3 R4 R5 R6 R7 HB
    rw [← hp7] at D7
    rw [← hp7] at R7
    rw [← hW7, ← hp7]
    clear hW7 hp7 hn7 hv7 hb7 s7
    have b20 := R2.c0
    have b21 := R2.c1
    have b31 := R3.c1
    have b50 := R5.c0
    have b60 := R6.c0
    have hB1 : (Dv.B1.size : Int) = 256 := by decide +kernel
    have l1 := HL.out.ld D1.lies (HwVal.size D1.val)
    have l2 := HL.out.ld D2.lies (HwVal.size D2.val)
    have l3 := HL.out.ld D3.lies (HwVal.size D3.val)
    have lR := HL.out.ldR D1.lies D1.val
    have hB4 : (Dv.B1.extract 0 4).toList = [97, 97, 97, 0] := by decide +kernel
    go_wp2_with fail
    refine (sameC D2.val D3.val).mono ?_
    rintro e w8 ⟨rfl, hb8⟩
    rw [Dv.hsame_refl]
    have D1 := D1.below hb8
    have D2 := D2.below hb8
    have HB := HB.trans (hb8.mono HB.size)
    have l1 := HL.out.ld D1.lies (HwVal.size D1.val)
    have l2 := HL.out.ld D2.lies (HwVal.size D2.val)
    have lR := HL.out.ldR D1.lies D1.val
    go_wp2_with fail
    refine (sameC D1.val D2.val).mono ?_
    rintro e w9 ⟨rfl, hb9⟩
    rw [Dv.hne]
    have D1 := D1.below hb9
    have HB := HB.trans (hb9.mono HB.size)
    have lR := HL.out.ldR D1.lies D1.val
    have hEQ : Sem.run Try.prog (Op.equalIn 10000 29 (.agg (rootOf Dv.r5)) (.agg #[.int .u8 5, .int .u8 0, .int .u8 0, .int .u8 0, .int .u8 0, .int .u8 0, .int .u8 0, .int .u8 0, .int .u8 0, .int .u8 0, .int .u8 0, .int .u8 0, .int .u8 0, .int .u8 0, .int .u8 0, .int .u8 0])) w9 = .ok true w9 := by
      have h := run_root Dv.r5 Dv.r5 w9
      rw [Dv.rr] at h
      exact h
    go_wp2
    go_ret
    exact ⟨rfl, HB⟩

end Go.Proofs.Ytncgechmloekbaa
