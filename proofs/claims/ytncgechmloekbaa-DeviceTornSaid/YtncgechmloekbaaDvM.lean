/- Device: Do of the reference. -/
import Derived.Test.YtncgechmloekbaaDvL
namespace Go.Proofs.Ytncgechmloekbaa
open Go.RowKit

theorem cut_eq (nb : Int) : cutOf true nb = max 0 (min 256 nb) := by simp only [cutOf, if_true]; omega

set_option maxRecDepth 100000 in
set_option maxHeartbeats 4000000 in
theorem rdo_any (k b c : Int) (s : ByteArray) (cut noise : Bool) (nb : Int) (cs : Array Value) (hs : cs.size = 18) (h1 : cs.all (·.oneCell') = true) (f : List (List Nat)) (m : List ByteArray) (w : World) (ok : Nat → Prop)
    (hok : ∀ x, ok x → x < w.heap.size) (hrow : ∃ v, cs[0]? = some v ∧ RRowsK w ok v f) (hstr : ∃ u, cs[1]? = some u ∧ StrsK w ok u m) (hS : Fz.small f) (h3 : Fz.ex f b c = true → Fz.cellOf f b c ≤ 3) (hlen : m.length ≤ 1000) (hbm : s.size ≤ maxLen) :
    Calls Try.prog 11 #[.agg cs, .agg #[.int .i64 k, .int .i64 b, .int .i64 c, .string s], .agg #[.bool cut, .int .i64 nb, .bool noise]] w (DoSays w ok cs f m k b c s cut nb noise) := by
  have HS := Lib.hid hs
  have H1 := Lib.hid h1
  have HOK := Lib.hid hok
  have HR := Lib.hid hrow
  have HM := Lib.hid hstr
  have H3 := Lib.hid h3
  clear hs h1 hok hrow hstr h3
  go_enter Try.func11, Try.ntmps11
  go_upto_region 1 with fail
  obtain ⟨c0, h9, hin⟩ := seven_in w cs #[.int .i64 k, .int .i64 b, .int .i64 c, .string s] #[.bool cut, .int .i64 nb, .bool noise] #[.slice none 0 0, .slice none 0 0, .int .u8 0, .int .u8 0, .int .u8 0, .int .u8 0, .int .u8 0, .int .u8 0, .int .u8 0, .int .u8 0, .int .u8 0, .int .u8 0, .int .u8 0, .int .u8 0, .int .u8 0, .int .u8 0, .int .u8 0, .int .u8 0] cs (.int .i64 0) (.string ⟨#[]⟩) (.int .i64 0) (.string ⟨#[]⟩) rfl HS.out _ rfl
  obtain ⟨HS7, HB⟩ := hin _ rfl
  have hst := cells_row (cs := cs) h9 (by rw [HS.out]; decide) H1.out
  have hs := HS.out
  have hzp : (putRow ((((((w.alloc (.cells cs 31)).alloc (.cells #[.int .i64 k, .int .i64 b, .int .i64 c, .string s] 33)).alloc (.cells #[.bool cut, .int .i64 nb, .bool noise] 35)).alloc (.cells #[.slice none 0 0, .slice none 0 0, .int .u8 0, .int .u8 0, .int .u8 0, .int .u8 0, .int .u8 0, .int .u8 0, .int .u8 0, .int .u8 0, .int .u8 0, .int .u8 0, .int .u8 0, .int .u8 0, .int .u8 0, .int .u8 0, .int .u8 0, .int .u8 0] 31)).alloc (.cells #[.int .i64 0, .string ⟨#[]⟩] 40)).alloc (.cells #[.slice none 0 0, .slice none 0 0, .int .u8 0, .int .u8 0, .int .u8 0, .int .u8 0, .int .u8 0, .int .u8 0, .int .u8 0, .int .u8 0, .int .u8 0, .int .u8 0, .int .u8 0, .int .u8 0, .int .u8 0, .int .u8 0, .int .u8 0, .int .u8 0] 31)) (w.heap.size + 1 + 1 + 1 + 1 + 1) cs).heap.size = w.heap.size + 1 + 1 + 1 + 1 + 1 + 1 := by rw [size_putRow]; simp
  clear hin h9
  refine wp_region_list ?_
  simp only []
  refine wpList_load_hw rfl (.tmp 3) rfl rfl c0 HS.out ?_
  go_upto_region 3 with fail
  clear c0 hst hs hzp
  obtain ⟨W, hW⟩ : ∃ W, W = (putRow ((((((w.alloc (.cells cs 31)).alloc (.cells #[.int .i64 k, .int .i64 b, .int .i64 c, .string s] 33)).alloc (.cells #[.bool cut, .int .i64 nb, .bool noise] 35)).alloc (.cells #[.slice none 0 0, .slice none 0 0, .int .u8 0, .int .u8 0, .int .u8 0, .int .u8 0, .int .u8 0, .int .u8 0, .int .u8 0, .int .u8 0, .int .u8 0, .int .u8 0, .int .u8 0, .int .u8 0, .int .u8 0, .int .u8 0, .int .u8 0, .int .u8 0] 31)).alloc (.cells #[.int .i64 0, .string ⟨#[]⟩] 40)).alloc (.cells #[.slice none 0 0, .slice none 0 0, .int .u8 0, .int .u8 0, .int .u8 0, .int .u8 0, .int .u8 0, .int .u8 0, .int .u8 0, .int .u8 0, .int .u8 0, .int .u8 0, .int .u8 0, .int .u8 0, .int .u8 0, .int .u8 0, .int .u8 0, .int .u8 0] 31)) (w.heap.size + 1 + 1 + 1 + 1 + 1) cs).alloc (.cells #[.int .i64 0, .string ⟨#[]⟩] 40) := ⟨_, rfl⟩
  rw [← hW] at HS7 HB ⊢
  clear hW
  have H7 := Lib.hid HS7
  clear HS7
  obtain ⟨v, hv, hk⟩ := HR.out
  obtain ⟨u, hu, hm⟩ := HM.out
  obtain ⟨Av, cv, rfl⟩ := hk.form_
  obtain ⟨Au, cu, rfl⟩ := hm.form_
  have HR1 := Lib.hid (hk.keep (fun x hx => HB.block x (HOK.out x hx)) (fun _ h => h))
  have HM1 := Lib.hid (hm.keep (fun x hx => HB.block x (HOK.out x hx)) (fun _ h => h))
  have x0 := cell_block (i := 0) H7.out.c3 hv
  have x1 := cell_block (i := 1) H7.out.c3 hu
  have hzW := H7.out.lt
  have HOW : Hid (∀ x, ok x → x < W.heap.size) := Lib.hid (fun x hx => Nat.lt_of_lt_of_le (HOK.out x hx) HB.size)
  have HPB : Hid (∀ x, (ok x ∨ w.heap.size + 7 ≤ x) → x < w.heap.size ∨ w.heap.size + 7 ≤ x) := Lib.hid (fun x hx => hx.imp (HOK.out x) id)
  have HV := Lib.hid hv
  have HU := Lib.hid hu
  clear hk hm hv hu
  have g0 := cell_block (i := 0) H7.out.c4 rfl
  have g1 := cell_block (i := 1) H7.out.c4 rfl
  have g2 := cell_block (i := 2) H7.out.c4 rfl
  have g3 := cell_block (i := 3) H7.out.c4 rfl
  have f0 := cell_block (i := 0) H7.out.c5 rfl
  have f1 := cell_block (i := 1) H7.out.c5 rfl
  have f2 := cell_block (i := 2) H7.out.c5 rfl
  rcases (by omega : k = 1 ∨ k = 2 ∨ k = 3 ∨ k = 4 ∨ (k ≠ 1 ∧ k ≠ 2 ∧ k ≠ 3 ∧ k ≠ 4)) with hk | hk | hk | hk | hk
  · subst hk
    cases hse : s.toList.isEmpty
    · have HKO : Hid (kindOK 1 b s = false) := Lib.hid (by simp [kindOK, isEmpty, hse])
      go_upto_region 7 with fail
      obtain ⟨z, x, y, WE, hz18, q6, q7, s0, s1, s2, hWE, HE6, HE7, FAR, HBE⟩ := ret_all (n := w.heap.size) (src := cs) rfl H7.out HB HS.out
      refine wp_region_held_drew (S := RetS w.heap.size cs cs #[.int .i64 0, .string ⟨#[]⟩]) (by kernel_rfl) s0 (fun hHeld => ?_)
      refine take_at 0 31 (.agg cs) rfl rfl (by kernel_rfl) (by kernel_rfl) (by kernel_rfl) (fun _ _ _ h => h) (yields_hw (by rfl) (.tmp 3) rfl rfl (fun w hw => hw.1) HS.out) (by assumption) ?_
      simp only [List.setIfInBounds_toArray, List.set_cons_zero, List.set_cons_succ]
      refine take_at 1 32 (.agg #[.int .i64 0, .string ⟨#[]⟩]) rfl rfl (by kernel_rfl) (by kernel_rfl) (by kernel_rfl) (fun _ _ _ h => h) (yields_res (by rfl) (.tmp 10) rfl rfl (fun w hw => hw.2.2)) (by assumption) ?_
      simp only [List.setIfInBounds_toArray, List.set_cons_zero, List.set_cons_succ]
      refine store_one 2 31 (.tmp 6) (.tmp 31) rfl (by kernel_rfl) rfl rfl (by rfl) rfl rfl q6 (by rw [HS.out, hz18]; decide) (by rw [HS.out]; kernel_rfl) H1.out s1 (fun hHeld2 => ?_)
      refine store_one 3 40 (.tmp 7) (.tmp 32) rfl (by kernel_rfl) rfl rfl (by rfl) rfl rfl q7 (by simp) (by kernel_rfl) (by simp [Value.oneCell']) s2 (fun hHeld3 => ?_)
      refine assign_tmp 4 8 (.int .i64 1) (.const (.int .i64 1)) rfl (by kernel_rfl) rfl rfl rfl (by rfl) (by assumption) ?_
      refine wpAnyH_done (by kernel_rfl) ?_ _
      rw [← hWE]
      simp only [List.setIfInBounds_toArray, List.set_cons_zero, List.set_cons_succ]
      have HE6 := Lib.hid HE6
      have HE7 := Lib.hid HE7
      have FAR := Lib.hid FAR
      clear hWE q6 q7 s0 s1 s2 hHeld hHeld2 hHeld3
      go_wp2
      refine bodyPost_ret (v := .tuple #[.agg cs, .agg #[.int .i64 0, .string ⟨#[]⟩], .int .i64 1]) (by simp [results, Try.results11, asAddr, loadVar_hw HE6.out HS.out, loadVar_res HE7.out]) rfl ?_
      exact says_back HOK.out HR.out HM.out HBE (by simp [doneB, HKO.out]) (by simp [doE, HKO.out])
    · have HKO : Hid (kindOK 1 b s = true) := Lib.hid (by simp [kindOK, isEmpty, hse])
      go_wp2_with fail
      refine (rread_any _ f b c noise _ (HR1.out.plain)).mono ?_
      rintro e W2 ⟨rfl, hb2⟩
      have H7 := Lib.hid (H7.out.below hb2)
      have HB := HB.trans (hb2.mono HB.size)
      have hz2 := H7.out.lt
      have g0 := cell_block (i := 0) H7.out.c4 rfl
      have g1 := cell_block (i := 1) H7.out.c4 rfl
      have g2 := cell_block (i := 2) H7.out.c4 rfl
      have g3 := cell_block (i := 3) H7.out.c4 rfl
      have f0 := cell_block (i := 0) H7.out.c5 rfl
      have f1 := cell_block (i := 1) H7.out.c5 rfl
      have f2 := cell_block (i := 2) H7.out.c5 rfl
      have HRE : Hid (runE 1 f m b c s = Fz.readE f b c) := Lib.hid (by simp [runE])
      by_cases hE : Fz.readE f b c = 0
      · have HD : Hid (doneB f m 1 b c s = true) := Lib.hid (by simp [doneB, HKO.out, HRE.out, hE])
        have HDE : Hid (doE f m 1 b c s = 0) := Lib.hid (by simp [doE, HKO.out, HRE.out, hE])
        have eE : (Fz.readE f b c == 0) = true := by simp [hE]
        clear hE
        have r0 := cell_block (i := 0) H7.out.c10 rfl
        have s0 := free_block (i := 0) H7.out.c10
        go_upto_region 36 with fail
        clear r0 s0
        obtain ⟨W3, hW3⟩ : ∃ W3, W3 = W2.setCell ⟨w.heap.size + 1 + 1 + 1 + 1 + 1 + 1, 0, none⟩ (.int .i64 (Fz.readV f b c noise)) := ⟨_, rfl⟩
        have H7 : Hid (Seven w.heap.size W3 cs #[.int .i64 1, .int .i64 b, .int .i64 c, .string s] #[.bool cut, .int .i64 nb, .bool noise] cs #[.int .i64 (Fz.readV f b c noise), .string ⟨#[]⟩]) := Lib.hid (by rw [hW3]; exact H7.out.putRes 0 _)
        have HB : Below w.heap.size w W3 := by rw [hW3]; exact HB.setCell (p := ⟨w.heap.size + 1 + 1 + 1 + 1 + 1 + 1, 0, none⟩) (by simp; omega) _
        rw [← hW3]
        clear hW3 g0 g1 g2 g3 f0 f1 f2
        have g0 := cell_block (i := 0) H7.out.c4 rfl
        have g1 := cell_block (i := 1) H7.out.c4 rfl
        have g2 := cell_block (i := 2) H7.out.c4 rfl
        have g3 := cell_block (i := 3) H7.out.c4 rfl
        have f0 := cell_block (i := 0) H7.out.c5 rfl
        have f1 := cell_block (i := 1) H7.out.c5 rfl
        have f2 := cell_block (i := 2) H7.out.c5 rfl
        cases cut
        · go_upto_region 38 with fail
          obtain ⟨z, x, y, WE, hz18, q6, q7, s0, s1, s2, hWE, HE6, HE7, FAR, HBE⟩ := ret_all (n := w.heap.size) (src := cs) rfl H7.out HB HS.out
          refine wp_region_held_drew (S := RetS w.heap.size cs cs #[.int .i64 (Fz.readV f b c noise), .string ⟨#[]⟩]) (by kernel_rfl) s0 (fun hHeld => ?_)
          refine take_at 0 139 (.agg cs) rfl rfl (by kernel_rfl) (by kernel_rfl) (by kernel_rfl) (fun _ _ _ h => h) (yields_hw (by rfl) (.tmp 9) rfl rfl (fun w hw => hw.2.1) HS.out) (by assumption) ?_
          simp only [List.setIfInBounds_toArray, List.set_cons_zero, List.set_cons_succ]
          refine take_at 1 140 (.agg #[.int .i64 (Fz.readV f b c noise), .string ⟨#[]⟩]) rfl rfl (by kernel_rfl) (by kernel_rfl) (by kernel_rfl) (fun _ _ _ h => h) (yields_res (by rfl) (.tmp 10) rfl rfl (fun w hw => hw.2.2)) (by assumption) ?_
          simp only [List.setIfInBounds_toArray, List.set_cons_zero, List.set_cons_succ]
          refine store_one 2 31 (.tmp 6) (.tmp 139) rfl (by kernel_rfl) rfl rfl (by rfl) rfl rfl q6 (by rw [HS.out, hz18]; decide) (by rw [HS.out]; kernel_rfl) H1.out s1 (fun hHeld2 => ?_)
          refine store_one 3 40 (.tmp 7) (.tmp 140) rfl (by kernel_rfl) rfl rfl (by rfl) rfl rfl q7 (by simp) (by kernel_rfl) (by simp [Value.oneCell']) s2 (fun hHeld3 => ?_)
          refine assign_tmp 4 8 (.int .i64 0) (.const (.int .i64 0)) rfl (by kernel_rfl) rfl rfl rfl (by rfl) (by assumption) ?_
          refine wpAnyH_done (by kernel_rfl) ?_ _
          rw [← hWE]
          simp only [List.setIfInBounds_toArray, List.set_cons_zero, List.set_cons_succ]
          have HE6 := Lib.hid HE6
          have HE7 := Lib.hid HE7
          have FAR := Lib.hid FAR
          clear hWE q6 q7 s0 s1 s2 hHeld hHeld2 hHeld3
          go_wp2
          refine bodyPost_ret (v := .tuple #[.agg cs, .agg #[.int .i64 (Fz.readV f b c noise), .string ⟨#[]⟩], .int .i64 0]) (by simp [results, Try.results11, asAddr, loadVar_hw HE6.out HS.out, loadVar_res HE7.out]) rfl ?_
          obtain ⟨v0, hv0, hk0⟩ := HR.out
          obtain ⟨u0, hu0, hm0⟩ := HM.out
          refine ⟨v0, u0, ?_, ?_, ?_, HBE⟩
          · rw [set_same hv0, set_same hu0, HDE.out]; exact vals_f HD.out
          · simp only [doF, HD.out, runF]; exact hk0.keep (fun x hx => HBE.block x (HOK.out x hx)) (fun _ h => .inl h)
          · simp only [doM, HD.out, runM]; exact hm0.keep (fun x hx => HBE.block x (HOK.out x hx)) (fun _ h => .inl h)
        · have r0 := cell_block (i := 0) H7.out.c10 rfl
          have r1 := cell_block (i := 1) H7.out.c10 rfl
          have s0 := free_block (i := 0) H7.out.c10
          have s1 := free_block (i := 1) H7.out.c10
          go_upto_region 38 with fail
          clear r0 r1 s0 s1
          obtain ⟨W8, hW8⟩ : ∃ W8, W8 = (W3.setCell ⟨w.heap.size + 1 + 1 + 1 + 1 + 1 + 1, 0, none⟩ (.int .i64 0)).setCell ⟨w.heap.size + 1 + 1 + 1 + 1 + 1 + 1, 1, none⟩ (.string ⟨#[]⟩) := ⟨_, rfl⟩
          have H8 : Hid (Seven w.heap.size W8 cs #[.int .i64 1, .int .i64 b, .int .i64 c, .string s] #[.bool true, .int .i64 nb, .bool noise] cs #[.int .i64 0, .string ⟨#[]⟩]) := Lib.hid (by rw [hW8]; exact (H7.out.putRes 0 (.int .i64 0)).putRes 1 (.string ⟨#[]⟩))
          have HB8 : Below w.heap.size w W8 := by rw [hW8]; exact (HB.setCell (p := ⟨w.heap.size + 1 + 1 + 1 + 1 + 1 + 1, 0, none⟩) (by simp; omega) _).setCell (p := ⟨w.heap.size + 1 + 1 + 1 + 1 + 1 + 1, 1, none⟩) (by simp; omega) _
          have far8 : Hid (∀ x, x ≠ w.heap.size + 1 + 1 + 1 + 1 + 1 + 1 → W8.heap[x]? = W3.heap[x]?) := Lib.hid (fun x hx => by rw [hW8]; exact (heap_setCell_other _ ⟨w.heap.size + 1 + 1 + 1 + 1 + 1 + 1, 1, none⟩ x _ hx).trans (heap_setCell_other _ ⟨w.heap.size + 1 + 1 + 1 + 1 + 1 + 1, 0, none⟩ x _ hx))
          rw [← hW8]
          clear hW8
          obtain ⟨z, x, y, WE, hz18, q6, q7, s0, s1, s2, hWE, HE6, HE7, FAR, HBE⟩ := ret_all (n := w.heap.size) (src := cs) rfl H8.out HB8 HS.out
          refine wp_region_held_drew (S := RetS w.heap.size cs cs #[.int .i64 0, .string ⟨#[]⟩]) (by kernel_rfl) s0 (fun hHeld => ?_)
          refine take_at 0 139 (.agg cs) rfl rfl (by kernel_rfl) (by kernel_rfl) (by kernel_rfl) (fun _ _ _ h => h) (yields_hw (by rfl) (.tmp 9) rfl rfl (fun w hw => hw.2.1) HS.out) (by assumption) ?_
          simp only [List.setIfInBounds_toArray, List.set_cons_zero, List.set_cons_succ]
          refine take_at 1 140 (.agg #[.int .i64 0, .string ⟨#[]⟩]) rfl rfl (by kernel_rfl) (by kernel_rfl) (by kernel_rfl) (fun _ _ _ h => h) (yields_res (by rfl) (.tmp 10) rfl rfl (fun w hw => hw.2.2)) (by assumption) ?_
          simp only [List.setIfInBounds_toArray, List.set_cons_zero, List.set_cons_succ]
          refine store_one 2 31 (.tmp 6) (.tmp 139) rfl (by kernel_rfl) rfl rfl (by rfl) rfl rfl q6 (by rw [HS.out, hz18]; decide) (by rw [HS.out]; kernel_rfl) H1.out s1 (fun hHeld2 => ?_)
          refine store_one 3 40 (.tmp 7) (.tmp 140) rfl (by kernel_rfl) rfl rfl (by rfl) rfl rfl q7 (by simp) (by kernel_rfl) (by simp [Value.oneCell']) s2 (fun hHeld3 => ?_)
          refine assign_tmp 4 8 (.int .i64 0) (.const (.int .i64 0)) rfl (by kernel_rfl) rfl rfl rfl (by rfl) (by assumption) ?_
          refine wpAnyH_done (by kernel_rfl) ?_ _
          rw [← hWE]
          simp only [List.setIfInBounds_toArray, List.set_cons_zero, List.set_cons_succ]
          have HE6 := Lib.hid HE6
          have HE7 := Lib.hid HE7
          have FAR := Lib.hid FAR
          clear hWE q6 q7 s0 s1 s2 hHeld hHeld2 hHeld3
          go_wp2
          refine bodyPost_ret (v := .tuple #[.agg cs, .agg #[.int .i64 0, .string ⟨#[]⟩], .int .i64 0]) (by simp [results, Try.results11, asAddr, loadVar_hw HE6.out HS.out, loadVar_res HE7.out]) rfl ?_
          obtain ⟨v0, hv0, hk0⟩ := HR.out
          obtain ⟨u0, hu0, hm0⟩ := HM.out
          refine ⟨v0, u0, ?_, ?_, ?_, HBE⟩
          · rw [set_same hv0, set_same hu0, HDE.out]; exact vals_t
          · simp only [doF, HD.out, runF]; exact hk0.keep (fun x hx => HBE.block x (HOK.out x hx)) (fun _ h => .inl h)
          · simp only [doM, HD.out, runM]; exact hm0.keep (fun x hx => HBE.block x (HOK.out x hx)) (fun _ h => .inl h)
      · have HD : Hid (doneB f m 1 b c s = false) := Lib.hid (by simp [doneB, HKO.out, HRE.out, hE])
        have HDE : Hid (doE f m 1 b c s = Fz.readE f b c) := Lib.hid (by simp [doE, HKO.out, HRE.out])
        have eE : (Fz.readE f b c == 0) = false := by simp [hE]
        clear hE
        go_upto_region 10 with fail
        obtain ⟨z, x, y, WE, hz18, q6, q7, s0, s1, s2, hWE, HE6, HE7, FAR, HBE⟩ := ret_all (n := w.heap.size) (src := cs) rfl H7.out HB HS.out
        refine wp_region_held_drew (S := RetS w.heap.size cs cs #[.int .i64 0, .string ⟨#[]⟩]) (by kernel_rfl) s0 (fun hHeld => ?_)
        refine take_at 0 47 (.agg cs) rfl rfl (by kernel_rfl) (by kernel_rfl) (by kernel_rfl) (fun _ _ _ h => h) (yields_hw (by rfl) (.tmp 3) rfl rfl (fun w hw => hw.1) HS.out) (by assumption) ?_
        simp only [List.setIfInBounds_toArray, List.set_cons_zero, List.set_cons_succ]
        refine take_at 1 48 (.agg #[.int .i64 0, .string ⟨#[]⟩]) rfl rfl (by kernel_rfl) (by kernel_rfl) (by kernel_rfl) (fun _ _ _ h => h) (yields_res (by rfl) (.tmp 10) rfl rfl (fun w hw => hw.2.2)) (by assumption) ?_
        simp only [List.setIfInBounds_toArray, List.set_cons_zero, List.set_cons_succ]
        refine take_at 2 49 (.int .i64 (Fz.readE f b c)) rfl rfl (by kernel_rfl) (by kernel_rfl) (by kernel_rfl) (fun _ _ _ h => h) (yields_move (by rfl) (.tmp 12) rfl rfl) (by assumption) ?_
        simp only [List.setIfInBounds_toArray, List.set_cons_zero, List.set_cons_succ]
        refine store_one 3 31 (.tmp 6) (.tmp 47) rfl (by kernel_rfl) rfl rfl (by rfl) rfl rfl q6 (by rw [HS.out, hz18]; decide) (by rw [HS.out]; kernel_rfl) H1.out s1 (fun hHeld2 => ?_)
        refine store_one 4 40 (.tmp 7) (.tmp 48) rfl (by kernel_rfl) rfl rfl (by rfl) rfl rfl q7 (by simp) (by kernel_rfl) (by simp [Value.oneCell']) s2 (fun hHeld3 => ?_)
        refine assign_tmp 5 8 (.int .i64 (Fz.readE f b c)) (.tmp 49) rfl (by kernel_rfl) rfl rfl rfl (by rfl) (by assumption) ?_
        refine wpAnyH_done (by kernel_rfl) ?_ _
        rw [← hWE]
        simp only [List.setIfInBounds_toArray, List.set_cons_zero, List.set_cons_succ]
        have HE6 := Lib.hid HE6
        have HE7 := Lib.hid HE7
        have FAR := Lib.hid FAR
        clear hWE q6 q7 s0 s1 s2 hHeld hHeld2 hHeld3
        go_wp2
        refine bodyPost_ret (v := .tuple #[.agg cs, .agg #[.int .i64 0, .string ⟨#[]⟩], .int .i64 (Fz.readE f b c)]) (by simp [results, Try.results11, asAddr, loadVar_hw HE6.out HS.out, loadVar_res HE7.out]) rfl ?_
        exact says_back HOK.out HR.out HM.out HBE HD.out HDE.out.symm
  · subst hk
    cases hse : s.toList.isEmpty
    · have HKO : Hid (kindOK 2 b s = false) := Lib.hid (by simp [kindOK, isEmpty, hse])
      go_upto_region 14 with fail
      obtain ⟨z, x, y, WE, hz18, q6, q7, s0, s1, s2, hWE, HE6, HE7, FAR, HBE⟩ := ret_all (n := w.heap.size) (src := cs) rfl H7.out HB HS.out
      refine wp_region_held_drew (S := RetS w.heap.size cs cs #[.int .i64 0, .string ⟨#[]⟩]) (by kernel_rfl) s0 (fun hHeld => ?_)
      refine take_at 0 57 (.agg cs) rfl rfl (by kernel_rfl) (by kernel_rfl) (by kernel_rfl) (fun _ _ _ h => h) (yields_hw (by rfl) (.tmp 3) rfl rfl (fun w hw => hw.1) HS.out) (by assumption) ?_
      simp only [List.setIfInBounds_toArray, List.set_cons_zero, List.set_cons_succ]
      refine take_at 1 58 (.agg #[.int .i64 0, .string ⟨#[]⟩]) rfl rfl (by kernel_rfl) (by kernel_rfl) (by kernel_rfl) (fun _ _ _ h => h) (yields_res (by rfl) (.tmp 10) rfl rfl (fun w hw => hw.2.2)) (by assumption) ?_
      simp only [List.setIfInBounds_toArray, List.set_cons_zero, List.set_cons_succ]
      refine store_one 2 31 (.tmp 6) (.tmp 57) rfl (by kernel_rfl) rfl rfl (by rfl) rfl rfl q6 (by rw [HS.out, hz18]; decide) (by rw [HS.out]; kernel_rfl) H1.out s1 (fun hHeld2 => ?_)
      refine store_one 3 40 (.tmp 7) (.tmp 58) rfl (by kernel_rfl) rfl rfl (by rfl) rfl rfl q7 (by simp) (by kernel_rfl) (by simp [Value.oneCell']) s2 (fun hHeld3 => ?_)
      refine assign_tmp 4 8 (.int .i64 1) (.const (.int .i64 1)) rfl (by kernel_rfl) rfl rfl rfl (by rfl) (by assumption) ?_
      refine wpAnyH_done (by kernel_rfl) ?_ _
      rw [← hWE]
      simp only [List.setIfInBounds_toArray, List.set_cons_zero, List.set_cons_succ]
      have HE6 := Lib.hid HE6
      have HE7 := Lib.hid HE7
      have FAR := Lib.hid FAR
      clear hWE q6 q7 s0 s1 s2 hHeld hHeld2 hHeld3
      go_wp2
      refine bodyPost_ret (v := .tuple #[.agg cs, .agg #[.int .i64 0, .string ⟨#[]⟩], .int .i64 1]) (by simp [results, Try.results11, asAddr, loadVar_hw HE6.out HS.out, loadVar_res HE7.out]) rfl ?_
      exact says_back HOK.out HR.out HM.out HBE (by simp [doneB, HKO.out]) (by simp [doE, HKO.out])
    · have HKO : Hid (kindOK 2 b s = true) := Lib.hid (by simp [kindOK, isEmpty, hse])
      go_wp2_with fail
      refine (rpulseK_any _ f b c cut _ ok HOW.out HR1.out HR1.out.plain hS H3.out).mono ?_
      rintro e W2 ⟨v2, rfl, hk2, hb2⟩
      obtain ⟨A2, c2, rfl⟩ := hk2.form_
      go_upto_region 16 with fail
      obtain ⟨v2, hv2⟩ : ∃ v2 : Value, v2 = .slice A2 (Fz.pulse f b c cut).length c2 := ⟨_, rfl⟩
      obtain ⟨W3, hW3⟩ : ∃ W3, W3 = W2.alloc (.cells #[.slice A2 (Fz.pulse f b c cut).length c2] 24) := ⟨_, rfl⟩
      have hq3 : W3.heap[W2.heap.size]? = some (.cells #[.slice A2 (Fz.pulse f b c cut).length c2] 24 (0, 0)) := by rw [hW3]; exact heap_alloc_new _ _
      have H7 : Hid (Seven w.heap.size W3 cs #[.int .i64 2, .int .i64 b, .int .i64 c, .string s] #[.bool cut, .int .i64 nb, .bool noise] cs #[.int .i64 0, .string ⟨#[]⟩]) := Lib.hid (by rw [hW3]; exact (H7.out.below hb2).below (Below.new _))
      have HB : Below w.heap.size w W3 := by rw [hW3]; exact (HB.trans (hb2.mono HB.size)).alloc (Nat.le_trans HB.size hb2.size) _
      have HK : Hid (RRowsK W3 (fun x => ok x ∨ w.heap.size + 7 ≤ x) (.slice A2 (Fz.pulse f b c cut).length c2) (Fz.pulse f b c cut)) := Lib.hid (by rw [hW3]; exact hk2.bnd.keep (fun x hx => Below.heap_alloc _ _ _ hx.2) (fun x hx => hx.1.imp id (fun h => Nat.le_trans hzW h)))
      have hz2 := H7.out.lt
      have hone : v2.oneCell' = true := by rw [hv2]; rfl
      obtain ⟨q3, hqq⟩ : ∃ q3, q3 = W2.heap.size := ⟨_, rfl⟩
      have hqn : w.heap.size + 7 ≤ q3 := by rw [hqq]; exact Nat.le_trans hzW hb2.size
      rw [← hW3]
      rw [← hqq] at hq3 ⊢
      rw [← hv2] at hq3 HK ⊢
      have HV2 := Lib.hid hv2
      clear hv2 hW3 hqq hk2 g0 g1 g2 g3 f0 f1 f2
      have g0 := cell_block (i := 0) H7.out.c4 rfl
      have g1 := cell_block (i := 1) H7.out.c4 rfl
      have g2 := cell_block (i := 2) H7.out.c4 rfl
      have g3 := cell_block (i := 3) H7.out.c4 rfl
      have f0 := cell_block (i := 0) H7.out.c5 rfl
      have f1 := cell_block (i := 1) H7.out.c5 rfl
      have f2 := cell_block (i := 2) H7.out.c5 rfl
      have p0 := cell_block (i := 0) hq3 rfl
      have HQ3 := Lib.hid hq3
      clear hq3
      have HRE : Hid (runE 2 f m b c s = Fz.readE f b c) := Lib.hid (by simp [runE])
      by_cases hE : Fz.readE f b c = 0
      · have HD : Hid (doneB f m 2 b c s = true) := Lib.hid (by simp [doneB, HKO.out, HRE.out, hE])
        have HDE : Hid (doE f m 2 b c s = 0) := Lib.hid (by simp [doE, HKO.out, HRE.out, hE])
        have eE : (Fz.readE f b c == 0) = true := by simp [hE]
        clear hE
        have x9 := cell_block (i := 0) H7.out.c9 HV.out
        have s9 := free_block (i := 0) H7.out.c9
        have hst := store_cell x9 s9 hone
        go_upto_region 36 with fail
        clear x9 s9 p0 hst
        obtain ⟨W4, hW4⟩ : ∃ W4, W4 = W3.setCell ⟨w.heap.size + 1 + 1 + 1 + 1 + 1, 0, none⟩ v2 := ⟨_, rfl⟩
        obtain ⟨c6, hc6⟩ : ∃ c6, c6 = cs.setIfInBounds 0 v2 := ⟨_, rfl⟩
        have H7 : Hid (Seven w.heap.size W4 cs #[.int .i64 2, .int .i64 b, .int .i64 c, .string s] #[.bool cut, .int .i64 nb, .bool noise] c6 #[.int .i64 0, .string ⟨#[]⟩]) := Lib.hid (by rw [hW4, hc6]; exact H7.out.putOut 0 _)
        have HB : Below w.heap.size w W4 := by rw [hW4]; exact HB.setCell (p := ⟨w.heap.size + 1 + 1 + 1 + 1 + 1, 0, none⟩) (by simp; omega) _
        have HK : Hid (RRowsK W4 (fun x => ok x ∨ w.heap.size + 7 ≤ x) v2 (Fz.pulse f b c cut)) := Lib.hid (by rw [hW4]; exact HK.out.keep (fun x hx => heap_setCell_other _ ⟨w.heap.size + 1 + 1 + 1 + 1 + 1, 0, none⟩ x _ (by rcases HPB.out x hx with h | h <;> (show x ≠ w.heap.size + 1 + 1 + 1 + 1 + 1; omega))) (fun _ h => h))
        have HS6 : Hid (c6.size = 18) := Lib.hid (by rw [hc6]; simpa using HS.out)
        have H6 : Hid (c6.all (·.oneCell') = true) := Lib.hid (by rw [hc6]; exact all_set H1.out hone)
        have HC6 := Lib.hid hc6
        rw [← hW4]
        clear hW4 hc6 g0 g1 g2 g3 f0 f1 f2
        have g0 := cell_block (i := 0) H7.out.c4 rfl
        have g1 := cell_block (i := 1) H7.out.c4 rfl
        have g2 := cell_block (i := 2) H7.out.c4 rfl
        have g3 := cell_block (i := 3) H7.out.c4 rfl
        have f0 := cell_block (i := 0) H7.out.c5 rfl
        have f1 := cell_block (i := 1) H7.out.c5 rfl
        have f2 := cell_block (i := 2) H7.out.c5 rfl
        cases cut
        · go_upto_region 38 with fail
          obtain ⟨z, x, y, WE, hz18, q6, q7, s0, s1, s2, hWE, HE6, HE7, FAR, HBE⟩ := ret_all (n := w.heap.size) (src := c6) rfl H7.out HB HS6.out
          refine wp_region_held_drew (S := RetS w.heap.size cs c6 #[.int .i64 0, .string ⟨#[]⟩]) (by kernel_rfl) s0 (fun hHeld => ?_)
          refine take_at 0 139 (.agg c6) rfl rfl (by kernel_rfl) (by kernel_rfl) (by kernel_rfl) (fun _ _ _ h => h) (yields_hw (by rfl) (.tmp 9) rfl rfl (fun w hw => hw.2.1) HS6.out) (by assumption) ?_
          simp only [List.setIfInBounds_toArray, List.set_cons_zero, List.set_cons_succ]
          refine take_at 1 140 (.agg #[.int .i64 0, .string ⟨#[]⟩]) rfl rfl (by kernel_rfl) (by kernel_rfl) (by kernel_rfl) (fun _ _ _ h => h) (yields_res (by rfl) (.tmp 10) rfl rfl (fun w hw => hw.2.2)) (by assumption) ?_
          simp only [List.setIfInBounds_toArray, List.set_cons_zero, List.set_cons_succ]
          refine store_one 2 31 (.tmp 6) (.tmp 139) rfl (by kernel_rfl) rfl rfl (by rfl) rfl rfl q6 (by rw [HS6.out, hz18]; decide) (by rw [HS6.out]; kernel_rfl) H6.out s1 (fun hHeld2 => ?_)
          refine store_one 3 40 (.tmp 7) (.tmp 140) rfl (by kernel_rfl) rfl rfl (by rfl) rfl rfl q7 (by simp) (by kernel_rfl) (by simp [Value.oneCell']) s2 (fun hHeld3 => ?_)
          refine assign_tmp 4 8 (.int .i64 0) (.const (.int .i64 0)) rfl (by kernel_rfl) rfl rfl rfl (by rfl) (by assumption) ?_
          refine wpAnyH_done (by kernel_rfl) ?_ _
          rw [← hWE]
          simp only [List.setIfInBounds_toArray, List.set_cons_zero, List.set_cons_succ]
          have HE6 := Lib.hid HE6
          have HE7 := Lib.hid HE7
          have FAR := Lib.hid FAR
          clear hWE q6 q7 s0 s1 s2 hHeld hHeld2 hHeld3
          go_wp2
          refine bodyPost_ret (v := .tuple #[.agg c6, .agg #[.int .i64 0, .string ⟨#[]⟩], .int .i64 0]) (by simp [results, Try.results11, asAddr, loadVar_hw HE6.out HS6.out, loadVar_res HE7.out]) rfl ?_
          obtain ⟨v0, hv0, hk0⟩ := HR.out
          obtain ⟨u0, hu0, hm0⟩ := HM.out
          refine ⟨v2, u0, ?_, ?_, ?_, HBE⟩
          · rw [set_same (get_set_far hu0 (by decide)), ← HC6.out, HDE.out]; exact vals_f HD.out
          · simp only [doF, HD.out, runF]; exact HK.out.keep (fun x hx => FAR.out x (HPB.out x hx)) (fun x hx => hx.imp id (fun h => by omega))
          · simp only [doM, HD.out, runM]; exact hm0.keep (fun x hx => HBE.block x (HOK.out x hx)) (fun _ h => .inl h)
        · have r0 := cell_block (i := 0) H7.out.c10 rfl
          have r1 := cell_block (i := 1) H7.out.c10 rfl
          have s0 := free_block (i := 0) H7.out.c10
          have s1 := free_block (i := 1) H7.out.c10
          go_upto_region 38 with fail
          clear r0 r1 s0 s1
          obtain ⟨W8, hW8⟩ : ∃ W8, W8 = (W4.setCell ⟨w.heap.size + 1 + 1 + 1 + 1 + 1 + 1, 0, none⟩ (.int .i64 0)).setCell ⟨w.heap.size + 1 + 1 + 1 + 1 + 1 + 1, 1, none⟩ (.string ⟨#[]⟩) := ⟨_, rfl⟩
          have H8 : Hid (Seven w.heap.size W8 cs #[.int .i64 2, .int .i64 b, .int .i64 c, .string s] #[.bool true, .int .i64 nb, .bool noise] c6 #[.int .i64 0, .string ⟨#[]⟩]) := Lib.hid (by rw [hW8]; exact (H7.out.putRes 0 (.int .i64 0)).putRes 1 (.string ⟨#[]⟩))
          have HB8 : Below w.heap.size w W8 := by rw [hW8]; exact (HB.setCell (p := ⟨w.heap.size + 1 + 1 + 1 + 1 + 1 + 1, 0, none⟩) (by simp; omega) _).setCell (p := ⟨w.heap.size + 1 + 1 + 1 + 1 + 1 + 1, 1, none⟩) (by simp; omega) _
          have far8 : Hid (∀ x, x ≠ w.heap.size + 1 + 1 + 1 + 1 + 1 + 1 → W8.heap[x]? = W4.heap[x]?) := Lib.hid (fun x hx => by rw [hW8]; exact (heap_setCell_other _ ⟨w.heap.size + 1 + 1 + 1 + 1 + 1 + 1, 1, none⟩ x _ hx).trans (heap_setCell_other _ ⟨w.heap.size + 1 + 1 + 1 + 1 + 1 + 1, 0, none⟩ x _ hx))
          rw [← hW8]
          clear hW8
          have HK := Lib.hid (HK.out.keep (fun x hx => far8.out x (by rcases HPB.out x hx with h | h <;> omega)) (fun _ h => h))
          obtain ⟨z, x, y, WE, hz18, q6, q7, s0, s1, s2, hWE, HE6, HE7, FAR, HBE⟩ := ret_all (n := w.heap.size) (src := c6) rfl H8.out HB8 HS6.out
          refine wp_region_held_drew (S := RetS w.heap.size cs c6 #[.int .i64 0, .string ⟨#[]⟩]) (by kernel_rfl) s0 (fun hHeld => ?_)
          refine take_at 0 139 (.agg c6) rfl rfl (by kernel_rfl) (by kernel_rfl) (by kernel_rfl) (fun _ _ _ h => h) (yields_hw (by rfl) (.tmp 9) rfl rfl (fun w hw => hw.2.1) HS6.out) (by assumption) ?_
          simp only [List.setIfInBounds_toArray, List.set_cons_zero, List.set_cons_succ]
          refine take_at 1 140 (.agg #[.int .i64 0, .string ⟨#[]⟩]) rfl rfl (by kernel_rfl) (by kernel_rfl) (by kernel_rfl) (fun _ _ _ h => h) (yields_res (by rfl) (.tmp 10) rfl rfl (fun w hw => hw.2.2)) (by assumption) ?_
          simp only [List.setIfInBounds_toArray, List.set_cons_zero, List.set_cons_succ]
          refine store_one 2 31 (.tmp 6) (.tmp 139) rfl (by kernel_rfl) rfl rfl (by rfl) rfl rfl q6 (by rw [HS6.out, hz18]; decide) (by rw [HS6.out]; kernel_rfl) H6.out s1 (fun hHeld2 => ?_)
          refine store_one 3 40 (.tmp 7) (.tmp 140) rfl (by kernel_rfl) rfl rfl (by rfl) rfl rfl q7 (by simp) (by kernel_rfl) (by simp [Value.oneCell']) s2 (fun hHeld3 => ?_)
          refine assign_tmp 4 8 (.int .i64 0) (.const (.int .i64 0)) rfl (by kernel_rfl) rfl rfl rfl (by rfl) (by assumption) ?_
          refine wpAnyH_done (by kernel_rfl) ?_ _
          rw [← hWE]
          simp only [List.setIfInBounds_toArray, List.set_cons_zero, List.set_cons_succ]
          have HE6 := Lib.hid HE6
          have HE7 := Lib.hid HE7
          have FAR := Lib.hid FAR
          clear hWE q6 q7 s0 s1 s2 hHeld hHeld2 hHeld3
          go_wp2
          refine bodyPost_ret (v := .tuple #[.agg c6, .agg #[.int .i64 0, .string ⟨#[]⟩], .int .i64 0]) (by simp [results, Try.results11, asAddr, loadVar_hw HE6.out HS6.out, loadVar_res HE7.out]) rfl ?_
          obtain ⟨v0, hv0, hk0⟩ := HR.out
          obtain ⟨u0, hu0, hm0⟩ := HM.out
          refine ⟨v2, u0, ?_, ?_, ?_, HBE⟩
          · rw [set_same (get_set_far hu0 (by decide)), ← HC6.out, HDE.out]; exact vals_t
          · simp only [doF, HD.out, runF]; exact HK.out.keep (fun x hx => FAR.out x (HPB.out x hx)) (fun x hx => hx.imp id (fun h => by omega))
          · simp only [doM, HD.out, runM]; exact hm0.keep (fun x hx => HBE.block x (HOK.out x hx)) (fun _ h => .inl h)
      · have HD : Hid (doneB f m 2 b c s = false) := Lib.hid (by simp [doneB, HKO.out, HRE.out, hE])
        have HDE : Hid (doE f m 2 b c s = Fz.readE f b c) := Lib.hid (by simp [doE, HKO.out, HRE.out])
        have eE : (Fz.readE f b c == 0) = false := by simp [hE]
        clear hE
        go_upto_region 17 with fail
        obtain ⟨z, x, y, WE, hz18, q6, q7, s0, s1, s2, hWE, HE6, HE7, FAR, HBE⟩ := ret_all (n := w.heap.size) (src := cs) rfl H7.out HB HS.out
        refine wp_region_held_drew (S := RetS w.heap.size cs cs #[.int .i64 0, .string ⟨#[]⟩]) (by kernel_rfl) s0 (fun hHeld => ?_)
        refine take_at 0 73 (.agg cs) rfl rfl (by kernel_rfl) (by kernel_rfl) (by kernel_rfl) (fun _ _ _ h => h) (yields_hw (by rfl) (.tmp 3) rfl rfl (fun w hw => hw.1) HS.out) (by assumption) ?_
        simp only [List.setIfInBounds_toArray, List.set_cons_zero, List.set_cons_succ]
        refine take_at 1 74 (.agg #[.int .i64 0, .string ⟨#[]⟩]) rfl rfl (by kernel_rfl) (by kernel_rfl) (by kernel_rfl) (fun _ _ _ h => h) (yields_res (by rfl) (.tmp 10) rfl rfl (fun w hw => hw.2.2)) (by assumption) ?_
        simp only [List.setIfInBounds_toArray, List.set_cons_zero, List.set_cons_succ]
        refine take_at 2 75 (.int .i64 (Fz.readE f b c)) rfl rfl (by kernel_rfl) (by kernel_rfl) (by kernel_rfl) (fun _ _ _ h => h) (yields_move (by rfl) (.tmp 14) rfl rfl) (by assumption) ?_
        simp only [List.setIfInBounds_toArray, List.set_cons_zero, List.set_cons_succ]
        refine store_one 3 31 (.tmp 6) (.tmp 73) rfl (by kernel_rfl) rfl rfl (by rfl) rfl rfl q6 (by rw [HS.out, hz18]; decide) (by rw [HS.out]; kernel_rfl) H1.out s1 (fun hHeld2 => ?_)
        refine store_one 4 40 (.tmp 7) (.tmp 74) rfl (by kernel_rfl) rfl rfl (by rfl) rfl rfl q7 (by simp) (by kernel_rfl) (by simp [Value.oneCell']) s2 (fun hHeld3 => ?_)
        refine assign_tmp 5 8 (.int .i64 (Fz.readE f b c)) (.tmp 75) rfl (by kernel_rfl) rfl rfl rfl (by rfl) (by assumption) ?_
        refine wpAnyH_done (by kernel_rfl) ?_ _
        rw [← hWE]
        simp only [List.setIfInBounds_toArray, List.set_cons_zero, List.set_cons_succ]
        have HE6 := Lib.hid HE6
        have HE7 := Lib.hid HE7
        have FAR := Lib.hid FAR
        clear hWE q6 q7 s0 s1 s2 hHeld hHeld2 hHeld3
        go_wp2
        refine bodyPost_ret (v := .tuple #[.agg cs, .agg #[.int .i64 0, .string ⟨#[]⟩], .int .i64 (Fz.readE f b c)]) (by simp [results, Try.results11, asAddr, loadVar_hw HE6.out HS.out, loadVar_res HE7.out]) rfl ?_
        exact says_back HOK.out HR.out HM.out HBE HD.out HDE.out.symm
  · subst hk
    cases hse : s.toList.isEmpty
    · have HKO : Hid (kindOK 3 b s = false) := Lib.hid (by simp [kindOK, isEmpty, hse])
      go_upto_region 21 with fail
      obtain ⟨z, x, y, WE, hz18, q6, q7, s0, s1, s2, hWE, HE6, HE7, FAR, HBE⟩ := ret_all (n := w.heap.size) (src := cs) rfl H7.out HB HS.out
      refine wp_region_held_drew (S := RetS w.heap.size cs cs #[.int .i64 0, .string ⟨#[]⟩]) (by kernel_rfl) s0 (fun hHeld => ?_)
      refine take_at 0 88 (.agg cs) rfl rfl (by kernel_rfl) (by kernel_rfl) (by kernel_rfl) (fun _ _ _ h => h) (yields_hw (by rfl) (.tmp 3) rfl rfl (fun w hw => hw.1) HS.out) (by assumption) ?_
      simp only [List.setIfInBounds_toArray, List.set_cons_zero, List.set_cons_succ]
      refine take_at 1 89 (.agg #[.int .i64 0, .string ⟨#[]⟩]) rfl rfl (by kernel_rfl) (by kernel_rfl) (by kernel_rfl) (fun _ _ _ h => h) (yields_res (by rfl) (.tmp 10) rfl rfl (fun w hw => hw.2.2)) (by assumption) ?_
      simp only [List.setIfInBounds_toArray, List.set_cons_zero, List.set_cons_succ]
      refine store_one 2 31 (.tmp 6) (.tmp 88) rfl (by kernel_rfl) rfl rfl (by rfl) rfl rfl q6 (by rw [HS.out, hz18]; decide) (by rw [HS.out]; kernel_rfl) H1.out s1 (fun hHeld2 => ?_)
      refine store_one 3 40 (.tmp 7) (.tmp 89) rfl (by kernel_rfl) rfl rfl (by rfl) rfl rfl q7 (by simp) (by kernel_rfl) (by simp [Value.oneCell']) s2 (fun hHeld3 => ?_)
      refine assign_tmp 4 8 (.int .i64 1) (.const (.int .i64 1)) rfl (by kernel_rfl) rfl rfl rfl (by rfl) (by assumption) ?_
      refine wpAnyH_done (by kernel_rfl) ?_ _
      rw [← hWE]
      simp only [List.setIfInBounds_toArray, List.set_cons_zero, List.set_cons_succ]
      have HE6 := Lib.hid HE6
      have HE7 := Lib.hid HE7
      have FAR := Lib.hid FAR
      clear hWE q6 q7 s0 s1 s2 hHeld hHeld2 hHeld3
      go_wp2
      refine bodyPost_ret (v := .tuple #[.agg cs, .agg #[.int .i64 0, .string ⟨#[]⟩], .int .i64 1]) (by simp [results, Try.results11, asAddr, loadVar_hw HE6.out HS.out, loadVar_res HE7.out]) rfl ?_
      exact says_back HOK.out HR.out HM.out HBE (by simp [doneB, HKO.out]) (by simp [doE, HKO.out])
    · by_cases hb0 : b = 0
      · have HKO : Hid (kindOK 3 b s = true) := Lib.hid (by simp [kindOK, isEmpty, hse, hb0])
        have e0 : (b == 0) = true := by simp [hb0]
        clear hb0
        go_wp2_with fail
        refine (Fm.rread_any _ m c _ (HM1.out.plain)).mono ?_
        rintro e W2 ⟨rfl, hb2⟩
        have H7 := Lib.hid (H7.out.below hb2)
        have HB := HB.trans (hb2.mono HB.size)
        have hz2 := H7.out.lt
        have g0 := cell_block (i := 0) H7.out.c4 rfl
        have g1 := cell_block (i := 1) H7.out.c4 rfl
        have g2 := cell_block (i := 2) H7.out.c4 rfl
        have g3 := cell_block (i := 3) H7.out.c4 rfl
        have f0 := cell_block (i := 0) H7.out.c5 rfl
        have f1 := cell_block (i := 1) H7.out.c5 rfl
        have f2 := cell_block (i := 2) H7.out.c5 rfl
        have HRE : Hid (runE 3 f m b c s = Fm.Fl.readE m c) := Lib.hid (by simp [runE])
        by_cases hE : Fm.Fl.readE m c = 0
        · have HD : Hid (doneB f m 3 b c s = true) := Lib.hid (by simp [doneB, HKO.out, HRE.out, hE])
          have HDE : Hid (doE f m 3 b c s = 0) := Lib.hid (by simp [doE, HKO.out, HRE.out, hE])
          have eE : (Fm.Fl.readE m c == 0) = true := by simp [hE]
          clear hE
          have r0 := cell_block (i := 1) H7.out.c10 rfl
          have s0 := free_block (i := 1) H7.out.c10
          go_upto_region 36 with fail
          clear r0 s0
          obtain ⟨W3, hW3⟩ : ∃ W3, W3 = W2.setCell ⟨w.heap.size + 1 + 1 + 1 + 1 + 1 + 1, 1, none⟩ (.string (Fm.Fl.readV m c)) := ⟨_, rfl⟩
          have H7 : Hid (Seven w.heap.size W3 cs #[.int .i64 3, .int .i64 b, .int .i64 c, .string s] #[.bool cut, .int .i64 nb, .bool noise] cs #[.int .i64 0, .string (Fm.Fl.readV m c)]) := Lib.hid (by rw [hW3]; exact H7.out.putRes 1 _)
          have HB : Below w.heap.size w W3 := by rw [hW3]; exact HB.setCell (p := ⟨w.heap.size + 1 + 1 + 1 + 1 + 1 + 1, 1, none⟩) (by simp; omega) _
          rw [← hW3]
          clear hW3 g0 g1 g2 g3 f0 f1 f2
          have g0 := cell_block (i := 0) H7.out.c4 rfl
          have g1 := cell_block (i := 1) H7.out.c4 rfl
          have g2 := cell_block (i := 2) H7.out.c4 rfl
          have g3 := cell_block (i := 3) H7.out.c4 rfl
          have f0 := cell_block (i := 0) H7.out.c5 rfl
          have f1 := cell_block (i := 1) H7.out.c5 rfl
          have f2 := cell_block (i := 2) H7.out.c5 rfl
          cases cut
          · go_upto_region 38 with fail
            obtain ⟨z, x, y, WE, hz18, q6, q7, s0, s1, s2, hWE, HE6, HE7, FAR, HBE⟩ := ret_all (n := w.heap.size) (src := cs) rfl H7.out HB HS.out
            refine wp_region_held_drew (S := RetS w.heap.size cs cs #[.int .i64 0, .string (Fm.Fl.readV m c)]) (by kernel_rfl) s0 (fun hHeld => ?_)
            refine take_at 0 139 (.agg cs) rfl rfl (by kernel_rfl) (by kernel_rfl) (by kernel_rfl) (fun _ _ _ h => h) (yields_hw (by rfl) (.tmp 9) rfl rfl (fun w hw => hw.2.1) HS.out) (by assumption) ?_
            simp only [List.setIfInBounds_toArray, List.set_cons_zero, List.set_cons_succ]
            refine take_at 1 140 (.agg #[.int .i64 0, .string (Fm.Fl.readV m c)]) rfl rfl (by kernel_rfl) (by kernel_rfl) (by kernel_rfl) (fun _ _ _ h => h) (yields_res (by rfl) (.tmp 10) rfl rfl (fun w hw => hw.2.2)) (by assumption) ?_
            simp only [List.setIfInBounds_toArray, List.set_cons_zero, List.set_cons_succ]
            refine store_one 2 31 (.tmp 6) (.tmp 139) rfl (by kernel_rfl) rfl rfl (by rfl) rfl rfl q6 (by rw [HS.out, hz18]; decide) (by rw [HS.out]; kernel_rfl) H1.out s1 (fun hHeld2 => ?_)
            refine store_one 3 40 (.tmp 7) (.tmp 140) rfl (by kernel_rfl) rfl rfl (by rfl) rfl rfl q7 (by simp) (by kernel_rfl) (by simp [Value.oneCell']) s2 (fun hHeld3 => ?_)
            refine assign_tmp 4 8 (.int .i64 0) (.const (.int .i64 0)) rfl (by kernel_rfl) rfl rfl rfl (by rfl) (by assumption) ?_
            refine wpAnyH_done (by kernel_rfl) ?_ _
            rw [← hWE]
            simp only [List.setIfInBounds_toArray, List.set_cons_zero, List.set_cons_succ]
            have HE6 := Lib.hid HE6
            have HE7 := Lib.hid HE7
            have FAR := Lib.hid FAR
            clear hWE q6 q7 s0 s1 s2 hHeld hHeld2 hHeld3
            go_wp2
            refine bodyPost_ret (v := .tuple #[.agg cs, .agg #[.int .i64 0, .string (Fm.Fl.readV m c)], .int .i64 0]) (by simp [results, Try.results11, asAddr, loadVar_hw HE6.out HS.out, loadVar_res HE7.out]) rfl ?_
            obtain ⟨v0, hv0, hk0⟩ := HR.out
            obtain ⟨u0, hu0, hm0⟩ := HM.out
            refine ⟨v0, u0, ?_, ?_, ?_, HBE⟩
            · rw [set_same hv0, set_same hu0, HDE.out]; exact vals_f HD.out
            · simp only [doF, HD.out, runF]; exact hk0.keep (fun x hx => HBE.block x (HOK.out x hx)) (fun _ h => .inl h)
            · simp only [doM, HD.out, runM]; exact hm0.keep (fun x hx => HBE.block x (HOK.out x hx)) (fun _ h => .inl h)
          · have r0 := cell_block (i := 0) H7.out.c10 rfl
            have r1 := cell_block (i := 1) H7.out.c10 rfl
            have s0 := free_block (i := 0) H7.out.c10
            have s1 := free_block (i := 1) H7.out.c10
            go_upto_region 38 with fail
            clear r0 r1 s0 s1
            obtain ⟨W8, hW8⟩ : ∃ W8, W8 = (W3.setCell ⟨w.heap.size + 1 + 1 + 1 + 1 + 1 + 1, 0, none⟩ (.int .i64 0)).setCell ⟨w.heap.size + 1 + 1 + 1 + 1 + 1 + 1, 1, none⟩ (.string ⟨#[]⟩) := ⟨_, rfl⟩
            have H8 : Hid (Seven w.heap.size W8 cs #[.int .i64 3, .int .i64 b, .int .i64 c, .string s] #[.bool true, .int .i64 nb, .bool noise] cs #[.int .i64 0, .string ⟨#[]⟩]) := Lib.hid (by rw [hW8]; exact (H7.out.putRes 0 (.int .i64 0)).putRes 1 (.string ⟨#[]⟩))
            have HB8 : Below w.heap.size w W8 := by rw [hW8]; exact (HB.setCell (p := ⟨w.heap.size + 1 + 1 + 1 + 1 + 1 + 1, 0, none⟩) (by simp; omega) _).setCell (p := ⟨w.heap.size + 1 + 1 + 1 + 1 + 1 + 1, 1, none⟩) (by simp; omega) _
            have far8 : Hid (∀ x, x ≠ w.heap.size + 1 + 1 + 1 + 1 + 1 + 1 → W8.heap[x]? = W3.heap[x]?) := Lib.hid (fun x hx => by rw [hW8]; exact (heap_setCell_other _ ⟨w.heap.size + 1 + 1 + 1 + 1 + 1 + 1, 1, none⟩ x _ hx).trans (heap_setCell_other _ ⟨w.heap.size + 1 + 1 + 1 + 1 + 1 + 1, 0, none⟩ x _ hx))
            rw [← hW8]
            clear hW8
            obtain ⟨z, x, y, WE, hz18, q6, q7, s0, s1, s2, hWE, HE6, HE7, FAR, HBE⟩ := ret_all (n := w.heap.size) (src := cs) rfl H8.out HB8 HS.out
            refine wp_region_held_drew (S := RetS w.heap.size cs cs #[.int .i64 0, .string ⟨#[]⟩]) (by kernel_rfl) s0 (fun hHeld => ?_)
            refine take_at 0 139 (.agg cs) rfl rfl (by kernel_rfl) (by kernel_rfl) (by kernel_rfl) (fun _ _ _ h => h) (yields_hw (by rfl) (.tmp 9) rfl rfl (fun w hw => hw.2.1) HS.out) (by assumption) ?_
            simp only [List.setIfInBounds_toArray, List.set_cons_zero, List.set_cons_succ]
            refine take_at 1 140 (.agg #[.int .i64 0, .string ⟨#[]⟩]) rfl rfl (by kernel_rfl) (by kernel_rfl) (by kernel_rfl) (fun _ _ _ h => h) (yields_res (by rfl) (.tmp 10) rfl rfl (fun w hw => hw.2.2)) (by assumption) ?_
            simp only [List.setIfInBounds_toArray, List.set_cons_zero, List.set_cons_succ]
            refine store_one 2 31 (.tmp 6) (.tmp 139) rfl (by kernel_rfl) rfl rfl (by rfl) rfl rfl q6 (by rw [HS.out, hz18]; decide) (by rw [HS.out]; kernel_rfl) H1.out s1 (fun hHeld2 => ?_)
            refine store_one 3 40 (.tmp 7) (.tmp 140) rfl (by kernel_rfl) rfl rfl (by rfl) rfl rfl q7 (by simp) (by kernel_rfl) (by simp [Value.oneCell']) s2 (fun hHeld3 => ?_)
            refine assign_tmp 4 8 (.int .i64 0) (.const (.int .i64 0)) rfl (by kernel_rfl) rfl rfl rfl (by rfl) (by assumption) ?_
            refine wpAnyH_done (by kernel_rfl) ?_ _
            rw [← hWE]
            simp only [List.setIfInBounds_toArray, List.set_cons_zero, List.set_cons_succ]
            have HE6 := Lib.hid HE6
            have HE7 := Lib.hid HE7
            have FAR := Lib.hid FAR
            clear hWE q6 q7 s0 s1 s2 hHeld hHeld2 hHeld3
            go_wp2
            refine bodyPost_ret (v := .tuple #[.agg cs, .agg #[.int .i64 0, .string ⟨#[]⟩], .int .i64 0]) (by simp [results, Try.results11, asAddr, loadVar_hw HE6.out HS.out, loadVar_res HE7.out]) rfl ?_
            obtain ⟨v0, hv0, hk0⟩ := HR.out
            obtain ⟨u0, hu0, hm0⟩ := HM.out
            refine ⟨v0, u0, ?_, ?_, ?_, HBE⟩
            · rw [set_same hv0, set_same hu0, HDE.out]; exact vals_t
            · simp only [doF, HD.out, runF]; exact hk0.keep (fun x hx => HBE.block x (HOK.out x hx)) (fun _ h => .inl h)
            · simp only [doM, HD.out, runM]; exact hm0.keep (fun x hx => HBE.block x (HOK.out x hx)) (fun _ h => .inl h)
        · have HD : Hid (doneB f m 3 b c s = false) := Lib.hid (by simp [doneB, HKO.out, HRE.out, hE])
          have HDE : Hid (doE f m 3 b c s = Fm.Fl.readE m c) := Lib.hid (by simp [doE, HKO.out, HRE.out])
          have eE : (Fm.Fl.readE m c == 0) = false := by simp [hE]
          clear hE
          go_upto_region 24 with fail
          obtain ⟨z, x, y, WE, hz18, q6, q7, s0, s1, s2, hWE, HE6, HE7, FAR, HBE⟩ := ret_all (n := w.heap.size) (src := cs) rfl H7.out HB HS.out
          refine wp_region_held_drew (S := RetS w.heap.size cs cs #[.int .i64 0, .string ⟨#[]⟩]) (by kernel_rfl) s0 (fun hHeld => ?_)
          refine take_at 0 100 (.agg cs) rfl rfl (by kernel_rfl) (by kernel_rfl) (by kernel_rfl) (fun _ _ _ h => h) (yields_hw (by rfl) (.tmp 3) rfl rfl (fun w hw => hw.1) HS.out) (by assumption) ?_
          simp only [List.setIfInBounds_toArray, List.set_cons_zero, List.set_cons_succ]
          refine take_at 1 101 (.agg #[.int .i64 0, .string ⟨#[]⟩]) rfl rfl (by kernel_rfl) (by kernel_rfl) (by kernel_rfl) (fun _ _ _ h => h) (yields_res (by rfl) (.tmp 10) rfl rfl (fun w hw => hw.2.2)) (by assumption) ?_
          simp only [List.setIfInBounds_toArray, List.set_cons_zero, List.set_cons_succ]
          refine take_at 2 102 (.int .i64 (Fm.Fl.readE m c)) rfl rfl (by kernel_rfl) (by kernel_rfl) (by kernel_rfl) (fun _ _ _ h => h) (yields_move (by rfl) (.tmp 16) rfl rfl) (by assumption) ?_
          simp only [List.setIfInBounds_toArray, List.set_cons_zero, List.set_cons_succ]
          refine store_one 3 31 (.tmp 6) (.tmp 100) rfl (by kernel_rfl) rfl rfl (by rfl) rfl rfl q6 (by rw [HS.out, hz18]; decide) (by rw [HS.out]; kernel_rfl) H1.out s1 (fun hHeld2 => ?_)
          refine store_one 4 40 (.tmp 7) (.tmp 101) rfl (by kernel_rfl) rfl rfl (by rfl) rfl rfl q7 (by simp) (by kernel_rfl) (by simp [Value.oneCell']) s2 (fun hHeld3 => ?_)
          refine assign_tmp 5 8 (.int .i64 (Fm.Fl.readE m c)) (.tmp 102) rfl (by kernel_rfl) rfl rfl rfl (by rfl) (by assumption) ?_
          refine wpAnyH_done (by kernel_rfl) ?_ _
          rw [← hWE]
          simp only [List.setIfInBounds_toArray, List.set_cons_zero, List.set_cons_succ]
          have HE6 := Lib.hid HE6
          have HE7 := Lib.hid HE7
          have FAR := Lib.hid FAR
          clear hWE q6 q7 s0 s1 s2 hHeld hHeld2 hHeld3
          go_wp2
          refine bodyPost_ret (v := .tuple #[.agg cs, .agg #[.int .i64 0, .string ⟨#[]⟩], .int .i64 (Fm.Fl.readE m c)]) (by simp [results, Try.results11, asAddr, loadVar_hw HE6.out HS.out, loadVar_res HE7.out]) rfl ?_
          exact says_back HOK.out HR.out HM.out HBE HD.out HDE.out.symm
      · have e0 : (b == 0) = false := by simp [hb0]
        have HKO : Hid (kindOK 3 b s = false) := Lib.hid (by simp [kindOK, isEmpty, hse, hb0])
        go_upto_region 21 with fail
        obtain ⟨z, x, y, WE, hz18, q6, q7, s0, s1, s2, hWE, HE6, HE7, FAR, HBE⟩ := ret_all (n := w.heap.size) (src := cs) rfl H7.out HB HS.out
        refine wp_region_held_drew (S := RetS w.heap.size cs cs #[.int .i64 0, .string ⟨#[]⟩]) (by kernel_rfl) s0 (fun hHeld => ?_)
        refine take_at 0 88 (.agg cs) rfl rfl (by kernel_rfl) (by kernel_rfl) (by kernel_rfl) (fun _ _ _ h => h) (yields_hw (by rfl) (.tmp 3) rfl rfl (fun w hw => hw.1) HS.out) (by assumption) ?_
        simp only [List.setIfInBounds_toArray, List.set_cons_zero, List.set_cons_succ]
        refine take_at 1 89 (.agg #[.int .i64 0, .string ⟨#[]⟩]) rfl rfl (by kernel_rfl) (by kernel_rfl) (by kernel_rfl) (fun _ _ _ h => h) (yields_res (by rfl) (.tmp 10) rfl rfl (fun w hw => hw.2.2)) (by assumption) ?_
        simp only [List.setIfInBounds_toArray, List.set_cons_zero, List.set_cons_succ]
        refine store_one 2 31 (.tmp 6) (.tmp 88) rfl (by kernel_rfl) rfl rfl (by rfl) rfl rfl q6 (by rw [HS.out, hz18]; decide) (by rw [HS.out]; kernel_rfl) H1.out s1 (fun hHeld2 => ?_)
        refine store_one 3 40 (.tmp 7) (.tmp 89) rfl (by kernel_rfl) rfl rfl (by rfl) rfl rfl q7 (by simp) (by kernel_rfl) (by simp [Value.oneCell']) s2 (fun hHeld3 => ?_)
        refine assign_tmp 4 8 (.int .i64 1) (.const (.int .i64 1)) rfl (by kernel_rfl) rfl rfl rfl (by rfl) (by assumption) ?_
        refine wpAnyH_done (by kernel_rfl) ?_ _
        rw [← hWE]
        simp only [List.setIfInBounds_toArray, List.set_cons_zero, List.set_cons_succ]
        have HE6 := Lib.hid HE6
        have HE7 := Lib.hid HE7
        have FAR := Lib.hid FAR
        clear hWE q6 q7 s0 s1 s2 hHeld hHeld2 hHeld3
        go_wp2
        refine bodyPost_ret (v := .tuple #[.agg cs, .agg #[.int .i64 0, .string ⟨#[]⟩], .int .i64 1]) (by simp [results, Try.results11, asAddr, loadVar_hw HE6.out HS.out, loadVar_res HE7.out]) rfl ?_
        exact says_back HOK.out HR.out HM.out HBE (by simp [doneB, HKO.out]) (by simp [doE, HKO.out])
  · subst hk
    by_cases hb0 : b = 0
    · have HKO : Hid (kindOK 4 b s = true) := Lib.hid (by simp [kindOK, hb0])
      have e0 : (b == 0) = true := by simp [hb0]
      clear hb0
      cases cut
      · go_wp2_with fail
        refine (frwriteK_any _ m c s (-1) _ ok HM1.out hlen hbm).mono ?_
        rintro e W2 ⟨v2, rfl, hk2, hb2⟩
        obtain ⟨A2, c2, rfl⟩ := hk2.form_
        go_upto_region 33 with fail
        obtain ⟨v2, hv2⟩ : ∃ v2 : Value, v2 = .slice A2 (Fm.Fl.write m c s (-1)).length c2 := ⟨_, rfl⟩
        obtain ⟨W3, hW3⟩ : ∃ W3, W3 = W2.alloc (.cells #[.slice A2 (Fm.Fl.write m c s (-1)).length c2] 27) := ⟨_, rfl⟩
        have hq3 : W3.heap[W2.heap.size]? = some (.cells #[.slice A2 (Fm.Fl.write m c s (-1)).length c2] 27 (0, 0)) := by rw [hW3]; exact heap_alloc_new _ _
        have H7 : Hid (Seven w.heap.size W3 cs #[.int .i64 4, .int .i64 b, .int .i64 c, .string s] #[.bool false, .int .i64 nb, .bool noise] cs #[.int .i64 0, .string ⟨#[]⟩]) := Lib.hid (by rw [hW3]; exact (H7.out.below hb2).below (Below.new _))
        have HB : Below w.heap.size w W3 := by rw [hW3]; exact (HB.trans (hb2.mono HB.size)).alloc (Nat.le_trans HB.size hb2.size) _
        have HK : Hid (StrsK W3 (fun x => ok x ∨ w.heap.size + 7 ≤ x) (.slice A2 (Fm.Fl.write m c s (-1)).length c2) (Fm.Fl.write m c s (-1))) := Lib.hid (by rw [hW3]; exact hk2.bnd.keep (fun x hx => Below.heap_alloc _ _ _ hx.2) (fun x hx => hx.1.imp id (fun h => Nat.le_trans hzW h)))
        have hz2 := H7.out.lt
        have hone : v2.oneCell' = true := by rw [hv2]; rfl
        obtain ⟨q3, hqq⟩ : ∃ q3, q3 = W2.heap.size := ⟨_, rfl⟩
        have hqn : w.heap.size + 7 ≤ q3 := by rw [hqq]; exact Nat.le_trans hzW hb2.size
        rw [← hW3]
        rw [← hqq] at hq3 ⊢
        rw [← hv2] at hq3 HK ⊢
        have HV2 := Lib.hid hv2
        clear hv2 hW3 hqq hk2 g0 g1 g2 g3 f0 f1 f2
        have g0 := cell_block (i := 0) H7.out.c4 rfl
        have g1 := cell_block (i := 1) H7.out.c4 rfl
        have g2 := cell_block (i := 2) H7.out.c4 rfl
        have g3 := cell_block (i := 3) H7.out.c4 rfl
        have f0 := cell_block (i := 0) H7.out.c5 rfl
        have f1 := cell_block (i := 1) H7.out.c5 rfl
        have f2 := cell_block (i := 2) H7.out.c5 rfl
        have p0 := cell_block (i := 0) hq3 rfl
        have HQ3 := Lib.hid hq3
        clear hq3
        have HRE : Hid (runE 4 f m b c s = Fm.Fl.writeE m c s) := Lib.hid (by simp [runE])
        by_cases hE : Fm.Fl.writeE m c s = 0
        · have HD : Hid (doneB f m 4 b c s = true) := Lib.hid (by simp [doneB, HKO.out, HRE.out, hE])
          have HDE : Hid (doE f m 4 b c s = 0) := Lib.hid (by simp [doE, HKO.out, HRE.out, hE])
          have eE : (Fm.Fl.writeE m c s == 0) = true := by simp [hE]
          clear hE
          have x9 := cell_block (i := 1) H7.out.c9 HU.out
          have s9 := free_block (i := 1) H7.out.c9
          have hst := store_cell x9 s9 hone
          go_upto_region 36 with fail
          clear x9 s9 p0 hst
          obtain ⟨W4, hW4⟩ : ∃ W4, W4 = W3.setCell ⟨w.heap.size + 1 + 1 + 1 + 1 + 1, 1, none⟩ v2 := ⟨_, rfl⟩
          obtain ⟨c6, hc6⟩ : ∃ c6, c6 = cs.setIfInBounds 1 v2 := ⟨_, rfl⟩
          have H7 : Hid (Seven w.heap.size W4 cs #[.int .i64 4, .int .i64 b, .int .i64 c, .string s] #[.bool false, .int .i64 nb, .bool noise] c6 #[.int .i64 0, .string ⟨#[]⟩]) := Lib.hid (by rw [hW4, hc6]; exact H7.out.putOut 1 _)
          have HB : Below w.heap.size w W4 := by rw [hW4]; exact HB.setCell (p := ⟨w.heap.size + 1 + 1 + 1 + 1 + 1, 1, none⟩) (by simp; omega) _
          have HK : Hid (StrsK W4 (fun x => ok x ∨ w.heap.size + 7 ≤ x) v2 (Fm.Fl.write m c s (-1))) := Lib.hid (by rw [hW4]; exact HK.out.keep (fun x hx => heap_setCell_other _ ⟨w.heap.size + 1 + 1 + 1 + 1 + 1, 1, none⟩ x _ (by rcases HPB.out x hx with h | h <;> (show x ≠ w.heap.size + 1 + 1 + 1 + 1 + 1; omega))) (fun _ h => h))
          have HS6 : Hid (c6.size = 18) := Lib.hid (by rw [hc6]; simpa using HS.out)
          have H6 : Hid (c6.all (·.oneCell') = true) := Lib.hid (by rw [hc6]; exact all_set H1.out hone)
          have HC6 := Lib.hid hc6
          rw [← hW4]
          clear hW4 hc6 g0 g1 g2 g3 f0 f1 f2
          have g0 := cell_block (i := 0) H7.out.c4 rfl
          have g1 := cell_block (i := 1) H7.out.c4 rfl
          have g2 := cell_block (i := 2) H7.out.c4 rfl
          have g3 := cell_block (i := 3) H7.out.c4 rfl
          have f0 := cell_block (i := 0) H7.out.c5 rfl
          have f1 := cell_block (i := 1) H7.out.c5 rfl
          have f2 := cell_block (i := 2) H7.out.c5 rfl
          go_upto_region 38 with fail
          obtain ⟨z, x, y, WE, hz18, q6, q7, s0, s1, s2, hWE, HE6, HE7, FAR, HBE⟩ := ret_all (n := w.heap.size) (src := c6) rfl H7.out HB HS6.out
          refine wp_region_held_drew (S := RetS w.heap.size cs c6 #[.int .i64 0, .string ⟨#[]⟩]) (by kernel_rfl) s0 (fun hHeld => ?_)
          refine take_at 0 139 (.agg c6) rfl rfl (by kernel_rfl) (by kernel_rfl) (by kernel_rfl) (fun _ _ _ h => h) (yields_hw (by rfl) (.tmp 9) rfl rfl (fun w hw => hw.2.1) HS6.out) (by assumption) ?_
          simp only [List.setIfInBounds_toArray, List.set_cons_zero, List.set_cons_succ]
          refine take_at 1 140 (.agg #[.int .i64 0, .string ⟨#[]⟩]) rfl rfl (by kernel_rfl) (by kernel_rfl) (by kernel_rfl) (fun _ _ _ h => h) (yields_res (by rfl) (.tmp 10) rfl rfl (fun w hw => hw.2.2)) (by assumption) ?_
          simp only [List.setIfInBounds_toArray, List.set_cons_zero, List.set_cons_succ]
          refine store_one 2 31 (.tmp 6) (.tmp 139) rfl (by kernel_rfl) rfl rfl (by rfl) rfl rfl q6 (by rw [HS6.out, hz18]; decide) (by rw [HS6.out]; kernel_rfl) H6.out s1 (fun hHeld2 => ?_)
          refine store_one 3 40 (.tmp 7) (.tmp 140) rfl (by kernel_rfl) rfl rfl (by rfl) rfl rfl q7 (by simp) (by kernel_rfl) (by simp [Value.oneCell']) s2 (fun hHeld3 => ?_)
          refine assign_tmp 4 8 (.int .i64 0) (.const (.int .i64 0)) rfl (by kernel_rfl) rfl rfl rfl (by rfl) (by assumption) ?_
          refine wpAnyH_done (by kernel_rfl) ?_ _
          rw [← hWE]
          simp only [List.setIfInBounds_toArray, List.set_cons_zero, List.set_cons_succ]
          have HE6 := Lib.hid HE6
          have HE7 := Lib.hid HE7
          have FAR := Lib.hid FAR
          clear hWE q6 q7 s0 s1 s2 hHeld hHeld2 hHeld3
          go_wp2
          refine bodyPost_ret (v := .tuple #[.agg c6, .agg #[.int .i64 0, .string ⟨#[]⟩], .int .i64 0]) (by simp [results, Try.results11, asAddr, loadVar_hw HE6.out HS6.out, loadVar_res HE7.out]) rfl ?_
          obtain ⟨v0, hv0, hk0⟩ := HR.out
          obtain ⟨u0, hu0, hm0⟩ := HM.out
          refine ⟨v0, v2, ?_, ?_, ?_, HBE⟩
          · rw [set_same hv0, ← HC6.out, HDE.out]; exact vals_f HD.out
          · simp only [doF, HD.out, runF]; exact hk0.keep (fun x hx => HBE.block x (HOK.out x hx)) (fun _ h => .inl h)
          · simp only [doM, HD.out, runM, show cutOf false nb = (-1) from rfl]; exact HK.out.keep (fun x hx => FAR.out x (HPB.out x hx)) (fun x hx => hx.imp id (fun h => by omega))
        · have HD : Hid (doneB f m 4 b c s = false) := Lib.hid (by simp [doneB, HKO.out, HRE.out, hE])
          have HDE : Hid (doE f m 4 b c s = Fm.Fl.writeE m c s) := Lib.hid (by simp [doE, HKO.out, HRE.out])
          have eE : (Fm.Fl.writeE m c s == 0) = false := by simp [hE]
          clear hE
          go_upto_region 34 with fail
          obtain ⟨z, x, y, WE, hz18, q6, q7, s0, s1, s2, hWE, HE6, HE7, FAR, HBE⟩ := ret_all (n := w.heap.size) (src := cs) rfl H7.out HB HS.out
          refine wp_region_held_drew (S := RetS w.heap.size cs cs #[.int .i64 0, .string ⟨#[]⟩]) (by kernel_rfl) s0 (fun hHeld => ?_)
          refine take_at 0 131 (.agg cs) rfl rfl (by kernel_rfl) (by kernel_rfl) (by kernel_rfl) (fun _ _ _ h => h) (yields_hw (by rfl) (.tmp 3) rfl rfl (fun w hw => hw.1) HS.out) (by assumption) ?_
          simp only [List.setIfInBounds_toArray, List.set_cons_zero, List.set_cons_succ]
          refine take_at 1 132 (.agg #[.int .i64 0, .string ⟨#[]⟩]) rfl rfl (by kernel_rfl) (by kernel_rfl) (by kernel_rfl) (fun _ _ _ h => h) (yields_res (by rfl) (.tmp 10) rfl rfl (fun w hw => hw.2.2)) (by assumption) ?_
          simp only [List.setIfInBounds_toArray, List.set_cons_zero, List.set_cons_succ]
          refine take_at 2 133 (.int .i64 (Fm.Fl.writeE m c s)) rfl rfl (by kernel_rfl) (by kernel_rfl) (by kernel_rfl) (fun _ _ _ h => h) (yields_move (by rfl) (.tmp 19) rfl rfl) (by assumption) ?_
          simp only [List.setIfInBounds_toArray, List.set_cons_zero, List.set_cons_succ]
          refine store_one 3 31 (.tmp 6) (.tmp 131) rfl (by kernel_rfl) rfl rfl (by rfl) rfl rfl q6 (by rw [HS.out, hz18]; decide) (by rw [HS.out]; kernel_rfl) H1.out s1 (fun hHeld2 => ?_)
          refine store_one 4 40 (.tmp 7) (.tmp 132) rfl (by kernel_rfl) rfl rfl (by rfl) rfl rfl q7 (by simp) (by kernel_rfl) (by simp [Value.oneCell']) s2 (fun hHeld3 => ?_)
          refine assign_tmp 5 8 (.int .i64 (Fm.Fl.writeE m c s)) (.tmp 133) rfl (by kernel_rfl) rfl rfl rfl (by rfl) (by assumption) ?_
          refine wpAnyH_done (by kernel_rfl) ?_ _
          rw [← hWE]
          simp only [List.setIfInBounds_toArray, List.set_cons_zero, List.set_cons_succ]
          have HE6 := Lib.hid HE6
          have HE7 := Lib.hid HE7
          have FAR := Lib.hid FAR
          clear hWE q6 q7 s0 s1 s2 hHeld hHeld2 hHeld3
          go_wp2
          refine bodyPost_ret (v := .tuple #[.agg cs, .agg #[.int .i64 0, .string ⟨#[]⟩], .int .i64 (Fm.Fl.writeE m c s)]) (by simp [results, Try.results11, asAddr, loadVar_hw HE6.out HS.out, loadVar_res HE7.out]) rfl ?_
          exact says_back HOK.out HR.out HM.out HBE HD.out HDE.out.symm
      · go_wp2_with fail
        refine (frwriteK_any _ m c s (max 0 (min 256 nb)) _ ok HM1.out hlen hbm).mono ?_
        rintro e W2 ⟨v2, rfl, hk2, hb2⟩
        obtain ⟨A2, c2, rfl⟩ := hk2.form_
        go_upto_region 33 with fail
        obtain ⟨v2, hv2⟩ : ∃ v2 : Value, v2 = .slice A2 (Fm.Fl.write m c s (max 0 (min 256 nb))).length c2 := ⟨_, rfl⟩
        obtain ⟨W3, hW3⟩ : ∃ W3, W3 = W2.alloc (.cells #[.slice A2 (Fm.Fl.write m c s (max 0 (min 256 nb))).length c2] 27) := ⟨_, rfl⟩
        have hq3 : W3.heap[W2.heap.size]? = some (.cells #[.slice A2 (Fm.Fl.write m c s (max 0 (min 256 nb))).length c2] 27 (0, 0)) := by rw [hW3]; exact heap_alloc_new _ _
        have H7 : Hid (Seven w.heap.size W3 cs #[.int .i64 4, .int .i64 b, .int .i64 c, .string s] #[.bool true, .int .i64 nb, .bool noise] cs #[.int .i64 0, .string ⟨#[]⟩]) := Lib.hid (by rw [hW3]; exact (H7.out.below hb2).below (Below.new _))
        have HB : Below w.heap.size w W3 := by rw [hW3]; exact (HB.trans (hb2.mono HB.size)).alloc (Nat.le_trans HB.size hb2.size) _
        have HK : Hid (StrsK W3 (fun x => ok x ∨ w.heap.size + 7 ≤ x) (.slice A2 (Fm.Fl.write m c s (max 0 (min 256 nb))).length c2) (Fm.Fl.write m c s (max 0 (min 256 nb)))) := Lib.hid (by rw [hW3]; exact hk2.bnd.keep (fun x hx => Below.heap_alloc _ _ _ hx.2) (fun x hx => hx.1.imp id (fun h => Nat.le_trans hzW h)))
        have hz2 := H7.out.lt
        have hone : v2.oneCell' = true := by rw [hv2]; rfl
        obtain ⟨q3, hqq⟩ : ∃ q3, q3 = W2.heap.size := ⟨_, rfl⟩
        have hqn : w.heap.size + 7 ≤ q3 := by rw [hqq]; exact Nat.le_trans hzW hb2.size
        rw [← hW3]
        rw [← hqq] at hq3 ⊢
        rw [← hv2] at hq3 HK ⊢
        have HV2 := Lib.hid hv2
        clear hv2 hW3 hqq hk2 g0 g1 g2 g3 f0 f1 f2
        have g0 := cell_block (i := 0) H7.out.c4 rfl
        have g1 := cell_block (i := 1) H7.out.c4 rfl
        have g2 := cell_block (i := 2) H7.out.c4 rfl
        have g3 := cell_block (i := 3) H7.out.c4 rfl
        have f0 := cell_block (i := 0) H7.out.c5 rfl
        have f1 := cell_block (i := 1) H7.out.c5 rfl
        have f2 := cell_block (i := 2) H7.out.c5 rfl
        have p0 := cell_block (i := 0) hq3 rfl
        have HQ3 := Lib.hid hq3
        clear hq3
        have HRE : Hid (runE 4 f m b c s = Fm.Fl.writeE m c s) := Lib.hid (by simp [runE])
        by_cases hE : Fm.Fl.writeE m c s = 0
        · have HD : Hid (doneB f m 4 b c s = true) := Lib.hid (by simp [doneB, HKO.out, HRE.out, hE])
          have HDE : Hid (doE f m 4 b c s = 0) := Lib.hid (by simp [doE, HKO.out, HRE.out, hE])
          have eE : (Fm.Fl.writeE m c s == 0) = true := by simp [hE]
          clear hE
          have x9 := cell_block (i := 1) H7.out.c9 HU.out
          have s9 := free_block (i := 1) H7.out.c9
          have hst := store_cell x9 s9 hone
          go_upto_region 36 with fail
          clear x9 s9 p0 hst
          obtain ⟨W4, hW4⟩ : ∃ W4, W4 = W3.setCell ⟨w.heap.size + 1 + 1 + 1 + 1 + 1, 1, none⟩ v2 := ⟨_, rfl⟩
          obtain ⟨c6, hc6⟩ : ∃ c6, c6 = cs.setIfInBounds 1 v2 := ⟨_, rfl⟩
          have H7 : Hid (Seven w.heap.size W4 cs #[.int .i64 4, .int .i64 b, .int .i64 c, .string s] #[.bool true, .int .i64 nb, .bool noise] c6 #[.int .i64 0, .string ⟨#[]⟩]) := Lib.hid (by rw [hW4, hc6]; exact H7.out.putOut 1 _)
          have HB : Below w.heap.size w W4 := by rw [hW4]; exact HB.setCell (p := ⟨w.heap.size + 1 + 1 + 1 + 1 + 1, 1, none⟩) (by simp; omega) _
          have HK : Hid (StrsK W4 (fun x => ok x ∨ w.heap.size + 7 ≤ x) v2 (Fm.Fl.write m c s (max 0 (min 256 nb)))) := Lib.hid (by rw [hW4]; exact HK.out.keep (fun x hx => heap_setCell_other _ ⟨w.heap.size + 1 + 1 + 1 + 1 + 1, 1, none⟩ x _ (by rcases HPB.out x hx with h | h <;> (show x ≠ w.heap.size + 1 + 1 + 1 + 1 + 1; omega))) (fun _ h => h))
          have HS6 : Hid (c6.size = 18) := Lib.hid (by rw [hc6]; simpa using HS.out)
          have H6 : Hid (c6.all (·.oneCell') = true) := Lib.hid (by rw [hc6]; exact all_set H1.out hone)
          have HC6 := Lib.hid hc6
          rw [← hW4]
          clear hW4 hc6 g0 g1 g2 g3 f0 f1 f2
          have g0 := cell_block (i := 0) H7.out.c4 rfl
          have g1 := cell_block (i := 1) H7.out.c4 rfl
          have g2 := cell_block (i := 2) H7.out.c4 rfl
          have g3 := cell_block (i := 3) H7.out.c4 rfl
          have f0 := cell_block (i := 0) H7.out.c5 rfl
          have f1 := cell_block (i := 1) H7.out.c5 rfl
          have f2 := cell_block (i := 2) H7.out.c5 rfl
          have r0 := cell_block (i := 0) H7.out.c10 rfl
          have r1 := cell_block (i := 1) H7.out.c10 rfl
          have s0 := free_block (i := 0) H7.out.c10
          have s1 := free_block (i := 1) H7.out.c10
          go_upto_region 38 with fail
          clear r0 r1 s0 s1
          obtain ⟨W8, hW8⟩ : ∃ W8, W8 = (W4.setCell ⟨w.heap.size + 1 + 1 + 1 + 1 + 1 + 1, 0, none⟩ (.int .i64 0)).setCell ⟨w.heap.size + 1 + 1 + 1 + 1 + 1 + 1, 1, none⟩ (.string ⟨#[]⟩) := ⟨_, rfl⟩
          have H8 : Hid (Seven w.heap.size W8 cs #[.int .i64 4, .int .i64 b, .int .i64 c, .string s] #[.bool true, .int .i64 nb, .bool noise] c6 #[.int .i64 0, .string ⟨#[]⟩]) := Lib.hid (by rw [hW8]; exact (H7.out.putRes 0 (.int .i64 0)).putRes 1 (.string ⟨#[]⟩))
          have HB8 : Below w.heap.size w W8 := by rw [hW8]; exact (HB.setCell (p := ⟨w.heap.size + 1 + 1 + 1 + 1 + 1 + 1, 0, none⟩) (by simp; omega) _).setCell (p := ⟨w.heap.size + 1 + 1 + 1 + 1 + 1 + 1, 1, none⟩) (by simp; omega) _
          have far8 : Hid (∀ x, x ≠ w.heap.size + 1 + 1 + 1 + 1 + 1 + 1 → W8.heap[x]? = W4.heap[x]?) := Lib.hid (fun x hx => by rw [hW8]; exact (heap_setCell_other _ ⟨w.heap.size + 1 + 1 + 1 + 1 + 1 + 1, 1, none⟩ x _ hx).trans (heap_setCell_other _ ⟨w.heap.size + 1 + 1 + 1 + 1 + 1 + 1, 0, none⟩ x _ hx))
          rw [← hW8]
          clear hW8
          have HK := Lib.hid (HK.out.keep (fun x hx => far8.out x (by rcases HPB.out x hx with h | h <;> omega)) (fun _ h => h))
          obtain ⟨z, x, y, WE, hz18, q6, q7, s0, s1, s2, hWE, HE6, HE7, FAR, HBE⟩ := ret_all (n := w.heap.size) (src := c6) rfl H8.out HB8 HS6.out
          refine wp_region_held_drew (S := RetS w.heap.size cs c6 #[.int .i64 0, .string ⟨#[]⟩]) (by kernel_rfl) s0 (fun hHeld => ?_)
          refine take_at 0 139 (.agg c6) rfl rfl (by kernel_rfl) (by kernel_rfl) (by kernel_rfl) (fun _ _ _ h => h) (yields_hw (by rfl) (.tmp 9) rfl rfl (fun w hw => hw.2.1) HS6.out) (by assumption) ?_
          simp only [List.setIfInBounds_toArray, List.set_cons_zero, List.set_cons_succ]
          refine take_at 1 140 (.agg #[.int .i64 0, .string ⟨#[]⟩]) rfl rfl (by kernel_rfl) (by kernel_rfl) (by kernel_rfl) (fun _ _ _ h => h) (yields_res (by rfl) (.tmp 10) rfl rfl (fun w hw => hw.2.2)) (by assumption) ?_
          simp only [List.setIfInBounds_toArray, List.set_cons_zero, List.set_cons_succ]
          refine store_one 2 31 (.tmp 6) (.tmp 139) rfl (by kernel_rfl) rfl rfl (by rfl) rfl rfl q6 (by rw [HS6.out, hz18]; decide) (by rw [HS6.out]; kernel_rfl) H6.out s1 (fun hHeld2 => ?_)
          refine store_one 3 40 (.tmp 7) (.tmp 140) rfl (by kernel_rfl) rfl rfl (by rfl) rfl rfl q7 (by simp) (by kernel_rfl) (by simp [Value.oneCell']) s2 (fun hHeld3 => ?_)
          refine assign_tmp 4 8 (.int .i64 0) (.const (.int .i64 0)) rfl (by kernel_rfl) rfl rfl rfl (by rfl) (by assumption) ?_
          refine wpAnyH_done (by kernel_rfl) ?_ _
          rw [← hWE]
          simp only [List.setIfInBounds_toArray, List.set_cons_zero, List.set_cons_succ]
          have HE6 := Lib.hid HE6
          have HE7 := Lib.hid HE7
          have FAR := Lib.hid FAR
          clear hWE q6 q7 s0 s1 s2 hHeld hHeld2 hHeld3
          go_wp2
          refine bodyPost_ret (v := .tuple #[.agg c6, .agg #[.int .i64 0, .string ⟨#[]⟩], .int .i64 0]) (by simp [results, Try.results11, asAddr, loadVar_hw HE6.out HS6.out, loadVar_res HE7.out]) rfl ?_
          obtain ⟨v0, hv0, hk0⟩ := HR.out
          obtain ⟨u0, hu0, hm0⟩ := HM.out
          refine ⟨v0, v2, ?_, ?_, ?_, HBE⟩
          · rw [set_same hv0, ← HC6.out, HDE.out]; exact vals_t
          · simp only [doF, HD.out, runF]; exact hk0.keep (fun x hx => HBE.block x (HOK.out x hx)) (fun _ h => .inl h)
          · simp only [doM, HD.out, runM, show cutOf true nb = (max 0 (min 256 nb)) from cut_eq nb]; exact HK.out.keep (fun x hx => FAR.out x (HPB.out x hx)) (fun x hx => hx.imp id (fun h => by omega))
        · have HD : Hid (doneB f m 4 b c s = false) := Lib.hid (by simp [doneB, HKO.out, HRE.out, hE])
          have HDE : Hid (doE f m 4 b c s = Fm.Fl.writeE m c s) := Lib.hid (by simp [doE, HKO.out, HRE.out])
          have eE : (Fm.Fl.writeE m c s == 0) = false := by simp [hE]
          clear hE
          go_upto_region 34 with fail
          obtain ⟨z, x, y, WE, hz18, q6, q7, s0, s1, s2, hWE, HE6, HE7, FAR, HBE⟩ := ret_all (n := w.heap.size) (src := cs) rfl H7.out HB HS.out
          refine wp_region_held_drew (S := RetS w.heap.size cs cs #[.int .i64 0, .string ⟨#[]⟩]) (by kernel_rfl) s0 (fun hHeld => ?_)
          refine take_at 0 131 (.agg cs) rfl rfl (by kernel_rfl) (by kernel_rfl) (by kernel_rfl) (fun _ _ _ h => h) (yields_hw (by rfl) (.tmp 3) rfl rfl (fun w hw => hw.1) HS.out) (by assumption) ?_
          simp only [List.setIfInBounds_toArray, List.set_cons_zero, List.set_cons_succ]
          refine take_at 1 132 (.agg #[.int .i64 0, .string ⟨#[]⟩]) rfl rfl (by kernel_rfl) (by kernel_rfl) (by kernel_rfl) (fun _ _ _ h => h) (yields_res (by rfl) (.tmp 10) rfl rfl (fun w hw => hw.2.2)) (by assumption) ?_
          simp only [List.setIfInBounds_toArray, List.set_cons_zero, List.set_cons_succ]
          refine take_at 2 133 (.int .i64 (Fm.Fl.writeE m c s)) rfl rfl (by kernel_rfl) (by kernel_rfl) (by kernel_rfl) (fun _ _ _ h => h) (yields_move (by rfl) (.tmp 19) rfl rfl) (by assumption) ?_
          simp only [List.setIfInBounds_toArray, List.set_cons_zero, List.set_cons_succ]
          refine store_one 3 31 (.tmp 6) (.tmp 131) rfl (by kernel_rfl) rfl rfl (by rfl) rfl rfl q6 (by rw [HS.out, hz18]; decide) (by rw [HS.out]; kernel_rfl) H1.out s1 (fun hHeld2 => ?_)
          refine store_one 4 40 (.tmp 7) (.tmp 132) rfl (by kernel_rfl) rfl rfl (by rfl) rfl rfl q7 (by simp) (by kernel_rfl) (by simp [Value.oneCell']) s2 (fun hHeld3 => ?_)
          refine assign_tmp 5 8 (.int .i64 (Fm.Fl.writeE m c s)) (.tmp 133) rfl (by kernel_rfl) rfl rfl rfl (by rfl) (by assumption) ?_
          refine wpAnyH_done (by kernel_rfl) ?_ _
          rw [← hWE]
          simp only [List.setIfInBounds_toArray, List.set_cons_zero, List.set_cons_succ]
          have HE6 := Lib.hid HE6
          have HE7 := Lib.hid HE7
          have FAR := Lib.hid FAR
          clear hWE q6 q7 s0 s1 s2 hHeld hHeld2 hHeld3
          go_wp2
          refine bodyPost_ret (v := .tuple #[.agg cs, .agg #[.int .i64 0, .string ⟨#[]⟩], .int .i64 (Fm.Fl.writeE m c s)]) (by simp [results, Try.results11, asAddr, loadVar_hw HE6.out HS.out, loadVar_res HE7.out]) rfl ?_
          exact says_back HOK.out HR.out HM.out HBE HD.out HDE.out.symm
    · have e0 : (b == 0) = false := by simp [hb0]
      have HKO : Hid (kindOK 4 b s = false) := Lib.hid (by simp [kindOK, hb0])
      go_upto_region 28 with fail
      obtain ⟨z, x, y, WE, hz18, q6, q7, s0, s1, s2, hWE, HE6, HE7, FAR, HBE⟩ := ret_all (n := w.heap.size) (src := cs) rfl H7.out HB HS.out
      refine wp_region_held_drew (S := RetS w.heap.size cs cs #[.int .i64 0, .string ⟨#[]⟩]) (by kernel_rfl) s0 (fun hHeld => ?_)
      refine take_at 0 110 (.agg cs) rfl rfl (by kernel_rfl) (by kernel_rfl) (by kernel_rfl) (fun _ _ _ h => h) (yields_hw (by rfl) (.tmp 3) rfl rfl (fun w hw => hw.1) HS.out) (by assumption) ?_
      simp only [List.setIfInBounds_toArray, List.set_cons_zero, List.set_cons_succ]
      refine take_at 1 111 (.agg #[.int .i64 0, .string ⟨#[]⟩]) rfl rfl (by kernel_rfl) (by kernel_rfl) (by kernel_rfl) (fun _ _ _ h => h) (yields_res (by rfl) (.tmp 10) rfl rfl (fun w hw => hw.2.2)) (by assumption) ?_
      simp only [List.setIfInBounds_toArray, List.set_cons_zero, List.set_cons_succ]
      refine store_one 2 31 (.tmp 6) (.tmp 110) rfl (by kernel_rfl) rfl rfl (by rfl) rfl rfl q6 (by rw [HS.out, hz18]; decide) (by rw [HS.out]; kernel_rfl) H1.out s1 (fun hHeld2 => ?_)
      refine store_one 3 40 (.tmp 7) (.tmp 111) rfl (by kernel_rfl) rfl rfl (by rfl) rfl rfl q7 (by simp) (by kernel_rfl) (by simp [Value.oneCell']) s2 (fun hHeld3 => ?_)
      refine assign_tmp 4 8 (.int .i64 1) (.const (.int .i64 1)) rfl (by kernel_rfl) rfl rfl rfl (by rfl) (by assumption) ?_
      refine wpAnyH_done (by kernel_rfl) ?_ _
      rw [← hWE]
      simp only [List.setIfInBounds_toArray, List.set_cons_zero, List.set_cons_succ]
      have HE6 := Lib.hid HE6
      have HE7 := Lib.hid HE7
      have FAR := Lib.hid FAR
      clear hWE q6 q7 s0 s1 s2 hHeld hHeld2 hHeld3
      go_wp2
      refine bodyPost_ret (v := .tuple #[.agg cs, .agg #[.int .i64 0, .string ⟨#[]⟩], .int .i64 1]) (by simp [results, Try.results11, asAddr, loadVar_hw HE6.out HS.out, loadVar_res HE7.out]) rfl ?_
      exact says_back HOK.out HR.out HM.out HBE (by simp [doneB, HKO.out]) (by simp [doE, HKO.out])
  · skip
    obtain ⟨n1, n2, n3, n4⟩ := hk
    have e1 : (k == 1) = false := by simp [n1]
    have e2 : (k == 2) = false := by simp [n2]
    have e3 : (k == 3) = false := by simp [n3]
    have e4 : (k == 4) = false := by simp [n4]
    have HKO : Hid (kindOK k b s = false) := Lib.hid (by simp [kindOK, n1, n2, n3, n4])
    clear n1 n2 n3 n4
    go_upto_region 4 with fail
    obtain ⟨z, x, y, WE, hz18, q6, q7, s0, s1, s2, hWE, HE6, HE7, FAR, HBE⟩ := ret_all (n := w.heap.size) (src := cs) rfl H7.out HB HS.out
    refine wp_region_held_drew (S := RetS w.heap.size cs cs #[.int .i64 0, .string ⟨#[]⟩]) (by kernel_rfl) s0 (fun hHeld => ?_)
    refine take_at 0 24 (.agg cs) rfl rfl (by kernel_rfl) (by kernel_rfl) (by kernel_rfl) (fun _ _ _ h => h) (yields_hw (by rfl) (.tmp 3) rfl rfl (fun w hw => hw.1) HS.out) (by assumption) ?_
    simp only [List.setIfInBounds_toArray, List.set_cons_zero, List.set_cons_succ]
    refine take_at 1 25 (.agg #[.int .i64 0, .string ⟨#[]⟩]) rfl rfl (by kernel_rfl) (by kernel_rfl) (by kernel_rfl) (fun _ _ _ h => h) (yields_res (by rfl) (.tmp 10) rfl rfl (fun w hw => hw.2.2)) (by assumption) ?_
    simp only [List.setIfInBounds_toArray, List.set_cons_zero, List.set_cons_succ]
    refine store_one 2 31 (.tmp 6) (.tmp 24) rfl (by kernel_rfl) rfl rfl (by rfl) rfl rfl q6 (by rw [HS.out, hz18]; decide) (by rw [HS.out]; kernel_rfl) H1.out s1 (fun hHeld2 => ?_)
    refine store_one 3 40 (.tmp 7) (.tmp 25) rfl (by kernel_rfl) rfl rfl (by rfl) rfl rfl q7 (by simp) (by kernel_rfl) (by simp [Value.oneCell']) s2 (fun hHeld3 => ?_)
    refine assign_tmp 4 8 (.int .i64 1) (.const (.int .i64 1)) rfl (by kernel_rfl) rfl rfl rfl (by rfl) (by assumption) ?_
    refine wpAnyH_done (by kernel_rfl) ?_ _
    rw [← hWE]
    simp only [List.setIfInBounds_toArray, List.set_cons_zero, List.set_cons_succ]
    have HE6 := Lib.hid HE6
    have HE7 := Lib.hid HE7
    have FAR := Lib.hid FAR
    clear hWE q6 q7 s0 s1 s2 hHeld hHeld2 hHeld3
    go_wp2
    refine bodyPost_ret (v := .tuple #[.agg cs, .agg #[.int .i64 0, .string ⟨#[]⟩], .int .i64 1]) (by simp [results, Try.results11, asAddr, loadVar_hw HE6.out HS.out, loadVar_res HE7.out]) rfl ?_
    exact says_back HOK.out HR.out HM.out HBE (by simp [doneB, HKO.out]) (by simp [doE, HKO.out])

end Go.Proofs.Ytncgechmloekbaa
