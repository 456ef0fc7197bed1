/- Flash: New of the reference. -/
import Derived.Test.YtncgechmloekbaaFlF
import Derived.Deep.AppendLies
import Derived.Deep.RegionLaw
import Derived.Deep.RegionHeld3
namespace Go.Proofs.Ytncgechmloekbaa.Fm
open Go.RowKit

theorem conv_zero (W : World) : (convert 56 9 (.slice (some ⟨W.heap.size, 0, none⟩) 256 256)).run Try.prog (W.alloc (.cells (zrow 256) 5)).drew = .ok (.string (Fl.full 0)) (W.alloc (.cells (zrow 256) 5)).drew :=
  full_conv (W := (W.alloc (.cells (zrow 256) 5)).drew) (by
    have h := zrow_own W 256 (by simp [maxLen]) 0
    have e : Fl.filling 0 256 0 = Fl.filling 0 256 256 := by unfold Fl.filling; rw [List.replicate_append_replicate, List.replicate_append_replicate]
    rw [e] at h
    exact h)

theorem heap_second' (w : World) (o1 o2 : Obj) : ((w.alloc o1).alloc o2).heap[w.heap.size + 1]? = some o2 := by
  have h := heap_alloc_new (w.alloc o1) o2
  rwa [World.size_alloc] at h

theorem rnew_step {w wr w1 : World} {k gg cap : Nat} {u x : Value} {o1 o2 : Obj}
    (R1 : wr.heap[w.heap.size]? = some (.cells #[.slice none 0 0] 27 (0, 0))) (V1 : wr.heap[w.heap.size + 1]? = some (.cells #[u] 27 (0, 0)))
    (hown : wr.ownsRow (w.heap.size + 2) 9 1 u k (List.replicate k x)) (hbw : Below w.heap.size w wr)
    (hown1 : w1.ownsRow (w.heap.size + 2) 9 1 (.slice (some ⟨gg, 0, none⟩) (k + 1) cap) (k + 1) (List.replicate k x ++ [x]))
    (hgrow : ((wr.alloc o1).alloc o2).drew.grownBy w1 u.ownBlock) :
    (∃ u', (w1.setCell ⟨w.heap.size + 1, 0, none⟩ (.slice (some ⟨gg, 0, none⟩) (k + 1) cap)).heap[w.heap.size]? = some (.cells #[.slice none 0 0] 27 (0, 0)) ∧
      (w1.setCell ⟨w.heap.size + 1, 0, none⟩ (.slice (some ⟨gg, 0, none⟩) (k + 1) cap)).heap[w.heap.size + 1]? = some (.cells #[u'] 27 (0, 0)) ∧
      (w1.setCell ⟨w.heap.size + 1, 0, none⟩ (.slice (some ⟨gg, 0, none⟩) (k + 1) cap)).ownsRow (w.heap.size + 2) 9 1 u' (k + 1) (List.replicate (k + 1) x)) ∧
    Below w.heap.size w (w1.setCell ⟨w.heap.size + 1, 0, none⟩ (.slice (some ⟨gg, 0, none⟩) (k + 1) cap)) := by
  have l1 := lt_of_block R1
  have l2 := lt_of_block V1
  have far : ∀ j, j < w.heap.size + 2 → some j ≠ u.ownBlock := by
    intro j hj e
    have := (hown.lt _ e.symm).1
    omega
  have keep : ∀ j, j < w.heap.size + 2 → w1.heap[j]? = wr.heap[j]? := by
    intro j hj
    have hj' : j < wr.heap.size := by omega
    exact (hgrow.block j (by simp; omega) (far j hj)).trans ((Below.heap_alloc (wr.alloc o1) o2 j (by simp; omega)).trans (Below.heap_alloc wr o1 j hj'))
  have hgg := hown1.lt gg rfl
  refine ⟨⟨_, (Below.heap_setCell _ _ _ _ (by simp)).trans ((keep _ (by omega)).trans R1), one_setCell ((keep _ (by omega)).trans V1), ?_⟩, ?_⟩
  · rw [List.replicate_succ']
    exact ownsRow_setCell_other (a := ⟨w.heap.size + 1, 0, none⟩) hown1 (by simp [Value.ownBlock]; omega) _
  · refine Below.setCell ?_ (by simp) _
    exact Below.grown (((hbw.alloc (by omega) _).alloc (by simp; omega) _).drew) hgrow (by simp; omega) (fun j hj => by have := (hown.lt j hj).1; omega)

set_option maxRecDepth 100000 in
set_option maxHeartbeats 2000000 in
theorem rnewA_any (n : Int) (w : World) :
    Calls Try.prog 30 #[.int .i64 n] w fun e w' => ∃ v', e = .returned (.tuple #[.agg #[v'], .int .i64 (Fl.newE n)]) ∧ RStrs w' w'.heap.size v' (Fl.newF n) ∧ Below w.heap.size w w' ∧ NewApart w v' := by
  by_cases hn : n < 0 ∨ 128 < n
  · have HO := Lib.hid (Fl.new_no hn)
    rcases hn with hn | hn
    · go_enter Try.func30, Try.ntmps30
      go_wp2
      refine bodyPost_ret (v := .tuple #[.agg #[.slice none 0 0], .int .i64 1]) (by simp [results, Try.results30, go_sem]) rfl ⟨_, ret_new HO.out.2.symm, ?_, ?_, .inl rfl⟩
      · rw [HO.out.1]; exact strs_nil _
      · exact Below.new _
    · have hn0 : 0 ≤ n := by omega
      go_enter Try.func30, Try.ntmps30
      go_wp2
      refine bodyPost_ret (v := .tuple #[.agg #[.slice none 0 0], .int .i64 1]) (by simp [results, Try.results30, go_sem]) rfl ⟨_, ret_new HO.out.2.symm, ?_, ?_, .inl rfl⟩
      · rw [HO.out.1]; exact strs_nil _
      · exact Below.new _
  · have h0 : 0 ≤ n := by omega
    obtain ⟨m, rfl⟩ := Int.eq_ofNat_of_zero_le h0
    have hm : m ≤ 128 := by omega
    have e1 : decide ((128 : Int) < (m : Int)) = false := by simp; omega
    have e0 : decide ((m : Int) < 0) = false := by simp
    have HO := Lib.hid (Fl.new_yes hm)
    clear hn h0
    go_enter Try.func30, Try.ntmps30
    go_wp2
    have R1 := Lib.hid ((Below.heap_alloc (w.alloc (.cells #[.slice none 0 0] 27)) (.cells #[.slice none 0 0] 27) w.heap.size (by simp)).trans (heap_alloc_new w _))
    have V1 := Lib.hid (heap_second' w (.cells #[.slice none 0 0] 27) (.cells #[.slice none 0 0] 27))
    have B1 : Below w.heap.size w ((w.alloc (.cells #[.slice none 0 0] 27)).alloc (.cells #[.slice none 0 0] 27)) := ((Below.refl _ _).alloc (Nat.le_refl _) _).alloc (by simp) _
    go_loopw [5] (fun i wr => ∃ k : Nat, k ≤ m ∧ i = .int .i64 k ∧ Hid (∃ u, wr.heap[w.heap.size]? = some (.cells #[.slice none 0 0] 27 (0, 0)) ∧ wr.heap[w.heap.size + 1]? = some (.cells #[u] 27 (0, 0)) ∧
      wr.ownsRow (w.heap.size + 2) 9 1 u k (List.replicate k (.string (Fl.full 0)))) ∧ Below w.heap.size w wr) (fun i _ => m - (intOf i).toNat)
    case atStart => exact ⟨0, Nat.zero_le _, rfl, ⟨_, R1.out, V1.out, World.ownsRow_nil _ _ _ _⟩, B1⟩
    case round =>
      clear R1 V1 B1
      obtain ⟨k, hk, rfl, HH, hbw⟩ := hrel
      obtain ⟨u, R1, V1, hown⟩ := HH.out
      have cF := cell_of_one V1
      have fF := free_of_one V1
      have hz : w.heap.size + 1 < wr.heap.size := lt_of_block V1
      have R1 := Lib.hid R1
      have V1 := Lib.hid V1
      by_cases hlt : k < m
      · obtain ⟨i0, hi0, hz0, hz1, hz2⟩ := info_parts infoStr
        have hmk := make_u8 256 (by omega) 256 rfl
        have hcv := conv_zero wr
        have hne : u.ownBlock ≠ some (w.heap.size + 1) := by
          intro e
          have := (hown.lt _ e).1
          omega
        have hF2 : w.heap.size + 1 < wr.heap.size + 1 := by omega
        go_wp2
        go_region_law ((refine step_append_lies _ (by rfl) _ _ _ (by rfl) (w.heap.size + 2) 9 i0 _ 1 16 Try.underlying25 hi0 hz0 hz1 hz2 rfl (by omega) u k (List.replicate k (.string (Fl.full 0))) (by rfl) (by exact ((hown.alloc _).alloc _)) ⟨wr.heap.size + 1, 0, none⟩ 1 1 [.string (Fl.full 0)] (by rfl) (by rfl) (World.news_of_block (cs := #[.string (Fl.full 0)]) (t := 9) (fr := (0, 0)) (heap_second' wr _ _)) (by simp [Value.oneCell']) (by omega) (by unfold maxLen; omega) (by omega) (by simp; omega) (wr.heap.size + 2) (by simp) ?_; intro gg cap w1 hown1 hgrow hat hlt2; have cF1 := (hgrow.cell_far ⟨w.heap.size + 1, 0, none⟩ (by simp; omega) (Ne.symm hne)).trans (show _ = some u by simp [*, go_sem, World.cell?_alloc_some]); have fF1 := (hgrow.frozen_far ⟨w.heap.size + 1, 0, none⟩ (by simp; omega) (Ne.symm hne)).trans (show _ = false by simp [*, go_sem])))
        all_goals
          have HS := Lib.hid (rnew_step R1.out V1.out hown hbw hown1 hgrow)
          clear hown1 hgrow hat hlt2 hmk hcv hi0 hz0 hz1 hz2 cF1 fF1
          go_wp2
          go_roundw
          case rel => exact ⟨k + 1, by omega, by go_num, HS.out.1, HS.out.2⟩
          case measure => simp [intOf]; omega
      · obtain rfl : k = m := by omega
        have r1 := cell_of_one R1.out
        have r2 := free_of_one R1.out
        have HAP := Lib.hid (show NewApart w u by
          rcases hown.2 with ⟨e, _⟩ | ⟨g, cap, cur, e, hg, _⟩
          · exact .inl e
          · exact .inr ⟨g, _, _, e, by omega⟩)
        obtain ⟨A', n', c', rfl⟩ : ∃ A n c, u = .slice A n c := by
          rcases hown.2 with ⟨rfl, _⟩ | ⟨g, cap, cur, rfl, _⟩
          · exact ⟨_, _, _, rfl⟩
          · exact ⟨_, _, _, rfl⟩
        have O2 := ownsRow_setCell_other (a := ⟨w.heap.size, 0, none⟩) hown (by intro e; have := (hown.lt _ e).1; simp at this; omega) (.slice A' n' c')
        have O3 := Lib.hid (strs_own (L := List.replicate k (Fl.full 0)) (by simpa using O2) (by intro s hs; rw [(List.mem_replicate.1 hs).2, Fl.full_size]; simp [maxLen]))
        have HB := Lib.hid (hbw.setCell (p := ⟨w.heap.size, 0, none⟩) (Nat.le_refl _) (.slice A' n' c'))
        clear O2
        go_wp2
        refine bodyPost_ret (v := .tuple #[.agg #[.slice A' n' c'], .int .i64 0]) (by simp [results, Try.results30, go_sem, r1]) rfl ⟨_, ret_new HO.out.2.symm, ?_, ?_, HAP.out⟩
        · rw [HO.out.1]; exact O3.out
        · exact HB.out

theorem rnew_any (n : Int) (w : World) :
    Calls Try.prog 30 #[.int .i64 n] w fun e w' => ∃ v', e = .returned (.tuple #[.agg #[v'], .int .i64 (Fl.newE n)]) ∧ RStrs w' w'.heap.size v' (Fl.newF n) ∧ Below w.heap.size w w' :=
  (rnewA_any n w).mono fun _ _ ⟨v', h1, h2, h3, _⟩ => ⟨v', h1, h2, h3⟩

end Go.Proofs.Ytncgechmloekbaa.Fm
