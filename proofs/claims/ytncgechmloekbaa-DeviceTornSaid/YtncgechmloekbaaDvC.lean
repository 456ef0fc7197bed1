/- Device: Same of the reference. -/
import Derived.Test.YtncgechmloekbaaDvB
namespace Go.Proofs.Ytncgechmloekbaa
open Go.RowKit

set_option maxRecDepth 100000 in
set_option maxHeartbeats 4000000 in
theorem rhsame_any (v u v2 u2 : Value) (f g : List (List Nat)) (m n : List ByteArray) (r s : Nat → Int) (w : World) (hf : RRows w w.heap.size v f) (hm : Fm.RStrs w w.heap.size u m) (hg : RRows w w.heap.size v2 g) (hn : Fm.RStrs w w.heap.size u2 n) :
    Calls Try.prog 14 #[.agg #[v, u, .int .u8 (r 0), .int .u8 (r 1), .int .u8 (r 2), .int .u8 (r 3), .int .u8 (r 4), .int .u8 (r 5), .int .u8 (r 6), .int .u8 (r 7), .int .u8 (r 8), .int .u8 (r 9), .int .u8 (r 10), .int .u8 (r 11), .int .u8 (r 12), .int .u8 (r 13), .int .u8 (r 14), .int .u8 (r 15)], .agg #[v2, u2, .int .u8 (s 0), .int .u8 (s 1), .int .u8 (s 2), .int .u8 (s 3), .int .u8 (s 4), .int .u8 (s 5), .int .u8 (s 6), .int .u8 (s 7), .int .u8 (s 8), .int .u8 (s 9), .int .u8 (s 10), .int .u8 (s 11), .int .u8 (s 12), .int .u8 (s 13), .int .u8 (s 14), .int .u8 (s 15)]] w fun e w' => e = .returned (.bool (hwSame f g m n r s)) ∧ Below w.heap.size w w' := by
  obtain ⟨A, c, rfl, -, -⟩ := hf.form_
  obtain ⟨A2, c2, rfl, -, -⟩ := hg.form_
  obtain ⟨A3, c3, rfl, hn3, hc3⟩ := hm.form
  obtain ⟨A4, c4, rfl, hn4, hc4⟩ := hn.form
  unfold maxLen at hc3 hc4
  have hR := run_root r s
  have hB : Below w.heap.size w ((w.alloc (Obj.cells #[.slice A f.length c, .slice A3 m.length c3, .int .u8 (r 0), .int .u8 (r 1), .int .u8 (r 2), .int .u8 (r 3), .int .u8 (r 4), .int .u8 (r 5), .int .u8 (r 6), .int .u8 (r 7), .int .u8 (r 8), .int .u8 (r 9), .int .u8 (r 10), .int .u8 (r 11), .int .u8 (r 12), .int .u8 (r 13), .int .u8 (r 14), .int .u8 (r 15)] 31)).alloc (Obj.cells #[.slice A2 g.length c2, .slice A4 n.length c4, .int .u8 (s 0), .int .u8 (s 1), .int .u8 (s 2), .int .u8 (s 3), .int .u8 (s 4), .int .u8 (s 5), .int .u8 (s 6), .int .u8 (s 7), .int .u8 (s 8), .int .u8 (s 9), .int .u8 (s 10), .int .u8 (s 11), .int .u8 (s 12), .int .u8 (s 13), .int .u8 (s 14), .int .u8 (s 15)] 31)) := ((Below.refl _ _).alloc (Nat.le_refl _) _).alloc (by simp) _
  cases hr : rootEq r s
  · have H := Lib.hid (show hwSame f g m n r s = false by simp [hwSame, hr])
    rw [hr] at hR
    clear hr
    go_enter Try.func14, Try.ntmps14
    go_wp2
    go_ret
    exact ⟨ret_bool H.out.symm, hB⟩
  · by_cases hl : m.length = n.length
    · have HL := Lib.hid hl
      have HR := Lib.hid hr
      have eL : ((m.length : Int) == (n.length : Int)) = true := by simp; omega
      have eL' : ((m.length : Int) != (n.length : Int)) = false := by simp; omega
      have hl1 : m.length ≤ n.length := by omega
      rw [hr] at hR
      clear hr hl
      go_enter Try.func14, Try.ntmps14
      go_wp2
      obtain ⟨W1, hW1⟩ : ∃ W1, W1 = (w.alloc (Obj.cells #[.slice A f.length c, .slice A3 m.length c3, .int .u8 (r 0), .int .u8 (r 1), .int .u8 (r 2), .int .u8 (r 3), .int .u8 (r 4), .int .u8 (r 5), .int .u8 (r 6), .int .u8 (r 7), .int .u8 (r 8), .int .u8 (r 9), .int .u8 (r 10), .int .u8 (r 11), .int .u8 (r 12), .int .u8 (r 13), .int .u8 (r 14), .int .u8 (r 15)] 31)).alloc (Obj.cells #[.slice A2 g.length c2, .slice A4 n.length c4, .int .u8 (s 0), .int .u8 (s 1), .int .u8 (s 2), .int .u8 (s 3), .int .u8 (s 4), .int .u8 (s 5), .int .u8 (s 6), .int .u8 (s 7), .int .u8 (s 8), .int .u8 (s 9), .int .u8 (s 10), .int .u8 (s 11), .int .u8 (s 12), .int .u8 (s 13), .int .u8 (s 14), .int .u8 (s 15)] 31) := ⟨_, rfl⟩
      have b1 : W1.heap[w.heap.size]? = some (Obj.cells #[.slice A f.length c, .slice A3 m.length c3, .int .u8 (r 0), .int .u8 (r 1), .int .u8 (r 2), .int .u8 (r 3), .int .u8 (r 4), .int .u8 (r 5), .int .u8 (r 6), .int .u8 (r 7), .int .u8 (r 8), .int .u8 (r 9), .int .u8 (r 10), .int .u8 (r 11), .int .u8 (r 12), .int .u8 (r 13), .int .u8 (r 14), .int .u8 (r 15)] 31) := by rw [hW1]; exact (Below.heap_alloc _ _ _ (by simp)).trans (heap_alloc_new _ _)
      have b2 : W1.heap[w.heap.size + 1]? = some (Obj.cells #[.slice A2 g.length c2, .slice A4 n.length c4, .int .u8 (s 0), .int .u8 (s 1), .int .u8 (s 2), .int .u8 (s 3), .int .u8 (s 4), .int .u8 (s 5), .int .u8 (s 6), .int .u8 (s 7), .int .u8 (s 8), .int .u8 (s 9), .int .u8 (s 10), .int .u8 (s 11), .int .u8 (s 12), .int .u8 (s 13), .int .u8 (s 14), .int .u8 (s 15)] 31) := by rw [hW1]; exact Fm.heap_second' _ _ _
      have qm1 : W1.cell? ⟨w.heap.size, 1, none⟩ = some (.slice A3 m.length c3) := by simp [World.cell?, b1]
      have qn1 : W1.cell? ⟨w.heap.size + 1, 1, none⟩ = some (.slice A4 n.length c4) := by simp [World.cell?, b2]
      have qf1 : W1.cell? ⟨w.heap.size, 0, none⟩ = some (.slice A f.length c) := by simp [World.cell?, b1]
      have qg1 : W1.cell? ⟨w.heap.size + 1, 0, none⟩ = some (.slice A2 g.length c2) := by simp [World.cell?, b2]
      rw [← hW1] at hB ⊢
      have hz : w.heap.size + 2 ≤ W1.heap.size := by rw [hW1]; simp
      clear hW1 b1 b2 hR
      have J0 := Lib.hid (And.intro qm1 (And.intro qn1 (And.intro qf1 qg1)))
      clear qm1 qn1 qf1 qg1
      go_loopw [5] (fun i wr => ∃ k : Nat, k ≤ m.length ∧ Hid (∀ j, j < k → Fm.nthS m j = Fm.nthS n j) ∧ i = .int .i64 k ∧ Below (w.heap.size + 2) W1 wr) (fun i _ => m.length - (intOf i).toNat)
      case atStart => exact ⟨0, Nat.zero_le _, fun j hj => absurd hj (by omega), rfl, Below.refl _ _⟩
      case round =>
        obtain ⟨k, hk, HJ, rfl, hbw⟩ := hrel
        obtain ⟨qm1, qn1, qf1, qg1⟩ := J0.out
        have qm := (hbw.cell (p := ⟨w.heap.size, 1, none⟩) (by simp)).trans qm1
        have qn := (hbw.cell (p := ⟨w.heap.size + 1, 1, none⟩) (by simp)).trans qn1
        have qf := (hbw.cell (p := ⟨w.heap.size, 0, none⟩) (by simp)).trans qf1
        have qg := (hbw.cell (p := ⟨w.heap.size + 1, 0, none⟩) (by simp)).trans qg1
        have hBw := hB.trans (hbw.mono (by omega))
        clear qm1 qn1 qf1 qg1
        by_cases hlt : k < m.length
        · obtain ⟨b, o, rfl, hb, hcell, hsz⟩ := hm.at_ hlt
          obtain ⟨b2, o2, rfl, hb2, hcell2, hsz2⟩ := hn.at_ (show k < n.length by omega)
          have q1 := (hBw.cell (p := ⟨b, o + k, none⟩) hb).trans hcell
          have q2 := (hBw.cell (p := ⟨b2, o2 + k, none⟩) hb2).trans hcell2
          clear hcell hcell2 qf qg
          by_cases hne : Fm.nthS m k = Fm.nthS n k
          · have H := Lib.hid (Fm.Fl.upto_succ (p := fun j => Fm.nthS m j = Fm.nthS n j) HJ.out hne)
            have eN : ((Fm.nthS m k).toList == (Fm.nthS n k).toList) = true := by rw [hne]; simp
            have eN' : ((Fm.nthS m k).toList != (Fm.nthS n k).toList) = false := by rw [hne]; simp
            clear hne
            go_wp2
            go_quiet (fail)
            go_wp2
            go_roundw
            case rel => exact ⟨k + 1, by omega, H.out, by go_num, below_drewN hbw _⟩
            case measure => simp [intOf]; omega
          · have H := Lib.hid (show hwSame f g m n r s = false by simp [hwSame, Fm.Fl.same_bad hne])
            have eN : ((Fm.nthS m k).toList == (Fm.nthS n k).toList) = false := Fm.str_ne hne
            have eN' : ((Fm.nthS m k).toList != (Fm.nthS n k).toList) = true := by rw [bne, Fm.str_ne hne]; rfl
            clear hne
            go_wp2
            go_quiet (fail)
            go_wp2
            go_ret
            exact ⟨ret_bool H.out.symm, below_drewN hBw _⟩
        · have HS := Fm.Fl.same_yes HL.out (fun j hj => HJ.out j (by omega))
          have H := Lib.hid (show hwSame f g m n r s = Fz.same f g by simp [hwSame, HS, HR.out])
          clear HS
          go_wp2_with fail
          refine (fuses_any _ _ _ _ _ ((hf.below hBw).more hBw.size) ((hg.below hBw).more hBw.size)).mono ?_
          rintro e w2 ⟨rfl, hb2⟩
          have hb2 := hBw.trans (hb2.mono hBw.size)
          go_wp2
          go_ret
          exact ⟨ret_bool H.out.symm, hb2⟩
    · have H := Lib.hid (show hwSame f g m n r s = false by simp [hwSame, Fm.Fl.same_len hl])
      have eL : ((m.length : Int) == (n.length : Int)) = false := by simp; omega
      have eL' : ((m.length : Int) != (n.length : Int)) = true := by simp; omega
      rw [hr] at hR
      clear hr hl
      go_enter Try.func14, Try.ntmps14
      go_wp2
      go_ret
      exact ⟨ret_bool H.out.symm, hB⟩

end Go.Proofs.Ytncgechmloekbaa
