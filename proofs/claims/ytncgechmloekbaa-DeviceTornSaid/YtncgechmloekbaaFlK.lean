/- Flash: Write of the reference: the ways that write. -/
import Derived.Test.YtncgechmloekbaaFlJ
namespace Go.Proofs.Ytncgechmloekbaa.Fm
open Go.RowKit

theorem own_slice {W : World} {base k : Nat} {e : TypeId} {v : Value} {xs : List Value} (h : W.ownsRow base e 1 v k xs) (hk : 0 < k) : ∃ g cap, v = .slice (some ⟨g, 0, none⟩) k cap ∧ base ≤ g ∧ g < W.heap.size := by
  rcases h.2 with ⟨rfl, h0⟩ | ⟨g, cap, cur, rfl, hb, hg, _, _, _, _⟩
  · omega
  · exact ⟨g, cap, rfl, hb, lt_of_block hg⟩

theorem strs_set {W : World} {base n i : Nat} {v : Value} {f : List ByteArray} {x : ByteArray} (h : W.ownsRow base 9 1 v n ((f.set i x).map Value.string)) (hs : ∀ s ∈ f.set i x, s.size ≤ maxLen) (hk : n = f.length := by rfl) : RStrs W W.heap.size v (f.set i x) := by
  subst hk
  exact strs_own (by simpa using h) hs

set_option maxRecDepth 100000 in
set_option maxHeartbeats 2000000 in
theorem rwrite_neg (v : Value) (f : List ByteArray) (i : Nat) (b : ByteArray) (cut : Int) (hcut : cut < 0) (w : World) (hf : RStrs w w.heap.size v f) (hi : i < f.length) (hs : b.size = 256) (hlen : f.length ≤ 1000) :
    Calls Try.prog 26 #[.agg #[v], .int .i64 i, .string b, .int .i64 cut] w fun e w' => ∃ v', e = .returned (.tuple #[.agg #[v'], .int .i64 0]) ∧ RStrs w' w'.heap.size v' (f.set i (Fl.merge (nthS f i) b cut)) ∧ Below w.heap.size w w' ∧ Apart w v v' := by
  have hall : ∀ s ∈ f.set i (Fl.merge (nthS f i) b cut), s.size ≤ maxLen := by
    intro s h
    rcases List.mem_or_eq_of_mem_set h with h | rfl
    · exact hf.sized s h
    · refine Nat.le_trans (merge_size _ _ _) ?_
      have := hf.sized _ (List.getElem_mem hi)
      rw [hs]; unfold maxLen at this ⊢
      have e : nthS f i = f[i] := by simp [nthS, hi]
      rw [e]; omega
  have HM := Lib.hid (show Fl.merge (nthS f i) b cut = b by simp [Fl.merge, hcut])
  have c1 : decide (0 ≤ cut) = false := by simp; omega
  obtain ⟨A, c, rfl, hn, hc⟩ := hf.form
  unfold maxLen at hc
  obtain ⟨ba, oa, rfl, hba, hcell, hsz⟩ := hf.at_ hi
  unfold maxLen at hsz
  have e1 : ((b.size : Int) != 256) = false := by simp; omega
  have e2 : decide ((i : Int) < 0) = false := by simp
  have e3 : decide ((f.length : Int) ≤ (i : Int)) = false := by simp; omega
  have e4 : decide (f.length ≤ i) = false := by simp; omega
  obtain ⟨i0, hi0, hz0, hz1, hz2⟩ := info_parts infoStr
  go_enter Try.func26, Try.ntmps26
  have hB : ∀ o1 o2 o3, Below w.heap.size w (((w.alloc o1).alloc o2).alloc o3) := fun o1 o2 o3 => (((Below.refl _ _).alloc (Nat.le_refl _) _).alloc (by simp) _).alloc (by simp; omega) _
  have hlit : ∀ o1 o2, (((w.alloc o1).alloc o2).alloc (.cells #[] 9)).ownsRow (w.heap.size + 1 + 1) 9 1 (.slice (some ⟨w.heap.size + 1 + 1, 0, none⟩) 0 0) 0 [] := by
    intro o1 o2
    have := World.ownsRow_lit (base := w.heap.size + 1 + 1) (e := 9) (size := 1) ((w.alloc o1).alloc o2) #[] 0 (by simp) (by simp [maxLen]) (by simp)
    simpa using this
  go_wp2_with (at_builtin; refine wpList_append_own _ rfl _ _ 25 rfl (w.heap.size + 1 + 1) 9 i0 _ 1 16 Try.underlying25 hi0 hz0 hz1 hz2 rfl (by decide) (.slice (some ⟨w.heap.size + 1 + 1, 0, none⟩) 0 0) 0 [] (by rfl) (hlit _ _) ⟨ba, oa, none⟩ f.length c (f.map Value.string) (by rfl) (by simp) (strs_news (hf.below (hB _ _ _))) (by simp [Value.oneCell']) (by unfold maxLen; omega) (by omega) (by simp) ?_; intro v' w1 hown1 hgrow _; rw [Nat.zero_add, List.nil_append] at hown1; obtain ⟨g, cap, rfl, hgb, hgl⟩ := own_slice hown1 (by omega); have cg := hown1.cellAt i (by omega); have fg := hown1.frozenAt i; have cr := hgrow.cell_far ⟨w.heap.size + 1, 0, none⟩ (by simp) (by simp [Value.ownBlock]); have fr := hgrow.frozen_far ⟨w.heap.size + 1, 0, none⟩ (by simp) (by simp [Value.ownBlock]))
  have hO := (hown1.stored i (.string (Fl.merge (nthS f i) b cut))).1
  rw [← List.map_set] at hO
  have hO2 := ownsRow_setCell_other (a := ⟨w.heap.size + 1, 0, none⟩) hO (by simp [Value.ownBlock]; omega) (.slice (some ⟨g, 0, none⟩) f.length cap)
  have hO3 := strs_set hO2 hall
  have HB := ((Below.grown (hB _ _ _) hgrow (by simp; omega) (fun j hj => by simp [Value.ownBlock] at hj; omega)).setCell (p := ⟨g, i, none⟩) (by simp; omega) (.string (Fl.merge (nthS f i) b cut))).setCell (p := ⟨w.heap.size + 1, 0, none⟩) (by simp) (.slice (some ⟨g, 0, none⟩) f.length cap)
  rw [HM.out] at hO3 HB
  refine bodyPost_ret (v := .tuple #[.agg #[.slice (some ⟨g, 0, none⟩) f.length cap], .int .i64 0]) (by simp [results, Try.results26, go_sem, cr, World.cell?_alloc_some]) rfl ⟨_, rfl, ?_, ?_, .inr ⟨g, _, _, rfl, by omega⟩⟩
  · rw [HM.out]; exact hO3
  · exact HB

set_option maxRecDepth 100000 in
set_option maxHeartbeats 2000000 in
theorem rwrite_big (v : Value) (f : List ByteArray) (i : Nat) (b : ByteArray) (cut : Int) (hcut : 256 ≤ cut) (w : World) (hf : RStrs w w.heap.size v f) (hi : i < f.length) (hs : b.size = 256) (hlen : f.length ≤ 1000) :
    Calls Try.prog 26 #[.agg #[v], .int .i64 i, .string b, .int .i64 cut] w fun e w' => ∃ v', e = .returned (.tuple #[.agg #[v'], .int .i64 0]) ∧ RStrs w' w'.heap.size v' (f.set i (Fl.merge (nthS f i) b cut)) ∧ Below w.heap.size w w' ∧ Apart w v v' := by
  have hall : ∀ s ∈ f.set i (Fl.merge (nthS f i) b cut), s.size ≤ maxLen := by
    intro s h
    rcases List.mem_or_eq_of_mem_set h with h | rfl
    · exact hf.sized s h
    · refine Nat.le_trans (merge_size _ _ _) ?_
      have := hf.sized _ (List.getElem_mem hi)
      rw [hs]; unfold maxLen at this ⊢
      have e : nthS f i = f[i] := by simp [nthS, hi]
      rw [e]; omega
  have HM := Lib.hid (show Fl.merge (nthS f i) b cut = b by unfold Fl.merge; rw [if_pos (by omega)])
  have c1 : decide (0 ≤ cut) = true := by simp; omega
  have c2 : decide (cut < 256) = false := by simp; omega
  obtain ⟨A, c, rfl, hn, hc⟩ := hf.form
  unfold maxLen at hc
  obtain ⟨ba, oa, rfl, hba, hcell, hsz⟩ := hf.at_ hi
  unfold maxLen at hsz
  have e1 : ((b.size : Int) != 256) = false := by simp; omega
  have e2 : decide ((i : Int) < 0) = false := by simp
  have e3 : decide ((f.length : Int) ≤ (i : Int)) = false := by simp; omega
  have e4 : decide (f.length ≤ i) = false := by simp; omega
  obtain ⟨i0, hi0, hz0, hz1, hz2⟩ := info_parts infoStr
  go_enter Try.func26, Try.ntmps26
  have hB : ∀ o1 o2 o3, Below w.heap.size w (((w.alloc o1).alloc o2).alloc o3) := fun o1 o2 o3 => (((Below.refl _ _).alloc (Nat.le_refl _) _).alloc (by simp) _).alloc (by simp; omega) _
  have hlit : ∀ o1 o2, (((w.alloc o1).alloc o2).alloc (.cells #[] 9)).ownsRow (w.heap.size + 1 + 1) 9 1 (.slice (some ⟨w.heap.size + 1 + 1, 0, none⟩) 0 0) 0 [] := by
    intro o1 o2
    have := World.ownsRow_lit (base := w.heap.size + 1 + 1) (e := 9) (size := 1) ((w.alloc o1).alloc o2) #[] 0 (by simp) (by simp [maxLen]) (by simp)
    simpa using this
  go_wp2_with (at_builtin; refine wpList_append_own _ rfl _ _ 25 rfl (w.heap.size + 1 + 1) 9 i0 _ 1 16 Try.underlying25 hi0 hz0 hz1 hz2 rfl (by decide) (.slice (some ⟨w.heap.size + 1 + 1, 0, none⟩) 0 0) 0 [] (by rfl) (hlit _ _) ⟨ba, oa, none⟩ f.length c (f.map Value.string) (by rfl) (by simp) (strs_news (hf.below (hB _ _ _))) (by simp [Value.oneCell']) (by unfold maxLen; omega) (by omega) (by simp) ?_; intro v' w1 hown1 hgrow _; rw [Nat.zero_add, List.nil_append] at hown1; obtain ⟨g, cap, rfl, hgb, hgl⟩ := own_slice hown1 (by omega); have cg := hown1.cellAt i (by omega); have fg := hown1.frozenAt i; have cr := hgrow.cell_far ⟨w.heap.size + 1, 0, none⟩ (by simp) (by simp [Value.ownBlock]); have fr := hgrow.frozen_far ⟨w.heap.size + 1, 0, none⟩ (by simp) (by simp [Value.ownBlock]))
  have hO := (hown1.stored i (.string (Fl.merge (nthS f i) b cut))).1
  rw [← List.map_set] at hO
  have hO2 := ownsRow_setCell_other (a := ⟨w.heap.size + 1, 0, none⟩) hO (by simp [Value.ownBlock]; omega) (.slice (some ⟨g, 0, none⟩) f.length cap)
  have hO3 := strs_set hO2 hall
  have HB := ((Below.grown (hB _ _ _) hgrow (by simp; omega) (fun j hj => by simp [Value.ownBlock] at hj; omega)).setCell (p := ⟨g, i, none⟩) (by simp; omega) (.string (Fl.merge (nthS f i) b cut))).setCell (p := ⟨w.heap.size + 1, 0, none⟩) (by simp) (.slice (some ⟨g, 0, none⟩) f.length cap)
  rw [HM.out] at hO3 HB
  refine bodyPost_ret (v := .tuple #[.agg #[.slice (some ⟨g, 0, none⟩) f.length cap], .int .i64 0]) (by simp [results, Try.results26, go_sem, cr, World.cell?_alloc_some]) rfl ⟨_, rfl, ?_, ?_, .inr ⟨g, _, _, rfl, by omega⟩⟩
  · rw [HM.out]; exact hO3
  · exact HB

set_option maxRecDepth 100000 in
set_option maxHeartbeats 2000000 in
theorem rwrite_short (v : Value) (f : List ByteArray) (i : Nat) (b : ByteArray) (m : Nat) (hm : m < 256) (ho : (nthS f i).size ≤ m) (w : World) (hf : RStrs w w.heap.size v f) (hi : i < f.length) (hs : b.size = 256) (hlen : f.length ≤ 1000) :
    Calls Try.prog 26 #[.agg #[v], .int .i64 i, .string b, .int .i64 (m : Int)] w fun e w' => ∃ v', e = .returned (.tuple #[.agg #[v'], .int .i64 0]) ∧ RStrs w' w'.heap.size v' (f.set i (Fl.merge (nthS f i) b (m : Int))) ∧ Below w.heap.size w w' ∧ Apart w v v' := by
  have hall : ∀ s ∈ f.set i (Fl.merge (nthS f i) b (m : Int)), s.size ≤ maxLen := by
    intro s h
    rcases List.mem_or_eq_of_mem_set h with h | rfl
    · exact hf.sized s h
    · refine Nat.le_trans (merge_size _ _ _) ?_
      have := hf.sized _ (List.getElem_mem hi)
      rw [hs]; unfold maxLen at this ⊢
      have e : nthS f i = f[i] := by simp [nthS, hi]
      rw [e]; omega
  have HM := Lib.hid (show Fl.merge (nthS f i) b (m : Int) = b.extract 0 m by
    unfold Fl.merge; rw [if_neg (by omega)]
    have e : (min (m : Int) ((nthS f i).size : Int)).toNat = (nthS f i).size := by omega
    have e' : (m : Int).toNat = m := by omega
    rw [e, e']
    have : (nthS f i).extract (nthS f i).size (nthS f i).size = ByteArray.empty := by simp
    rw [this]; simp)
  have c2 : decide ((m : Int) < 256) = true := by simp; omega
  have c3 : decide ((m : Int) < ((nthS f i).size : Int)) = false := by simp; omega
  have c4 : decide (m < (nthS f i).size) = false := by simp; omega
  have c5 : decide (m < 256) = true := by simp; omega
  obtain ⟨A, c, rfl, hn, hc⟩ := hf.form
  unfold maxLen at hc
  obtain ⟨ba, oa, rfl, hba, hcell, hsz⟩ := hf.at_ hi
  unfold maxLen at hsz
  have e1 : ((b.size : Int) != 256) = false := by simp; omega
  have e2 : decide ((i : Int) < 0) = false := by simp
  have e3 : decide ((f.length : Int) ≤ (i : Int)) = false := by simp; omega
  have e4 : decide (f.length ≤ i) = false := by simp; omega
  obtain ⟨i0, hi0, hz0, hz1, hz2⟩ := info_parts infoStr
  go_enter Try.func26, Try.ntmps26
  have hB : ∀ o1 o2 o3, Below w.heap.size w (((w.alloc o1).alloc o2).alloc o3) := fun o1 o2 o3 => (((Below.refl _ _).alloc (Nat.le_refl _) _).alloc (by simp) _).alloc (by simp; omega) _
  have hlit : ∀ o1 o2, (((w.alloc o1).alloc o2).alloc (.cells #[] 9)).ownsRow (w.heap.size + 1 + 1) 9 1 (.slice (some ⟨w.heap.size + 1 + 1, 0, none⟩) 0 0) 0 [] := by
    intro o1 o2
    have := World.ownsRow_lit (base := w.heap.size + 1 + 1) (e := 9) (size := 1) ((w.alloc o1).alloc o2) #[] 0 (by simp) (by simp [maxLen]) (by simp)
    simpa using this
  go_wp2_with (at_builtin; refine wpList_append_own _ rfl _ _ 25 rfl (w.heap.size + 1 + 1) 9 i0 _ 1 16 Try.underlying25 hi0 hz0 hz1 hz2 rfl (by decide) (.slice (some ⟨w.heap.size + 1 + 1, 0, none⟩) 0 0) 0 [] (by rfl) (hlit _ _) ⟨ba, oa, none⟩ f.length c (f.map Value.string) (by rfl) (by simp) (strs_news (hf.below (hB _ _ _))) (by simp [Value.oneCell']) (by unfold maxLen; omega) (by omega) (by simp) ?_; intro v' w1 hown1 hgrow _; rw [Nat.zero_add, List.nil_append] at hown1; obtain ⟨g, cap, rfl, hgb, hgl⟩ := own_slice hown1 (by omega); have cg := hown1.cellAt i (by omega); have fg := hown1.frozenAt i; have cr := hgrow.cell_far ⟨w.heap.size + 1, 0, none⟩ (by simp) (by simp [Value.ownBlock]); have fr := hgrow.frozen_far ⟨w.heap.size + 1, 0, none⟩ (by simp) (by simp [Value.ownBlock]))
  have hO := (hown1.stored i (.string (Fl.merge (nthS f i) b (m : Int)))).1
  rw [← List.map_set] at hO
  have hO2 := ownsRow_setCell_other (a := ⟨w.heap.size + 1, 0, none⟩) hO (by simp [Value.ownBlock]; omega) (.slice (some ⟨g, 0, none⟩) f.length cap)
  have hO3 := strs_set hO2 hall
  have HB := ((Below.grown (hB _ _ _) hgrow (by simp; omega) (fun j hj => by simp [Value.ownBlock] at hj; omega)).setCell (p := ⟨g, i, none⟩) (by simp; omega) (.string (Fl.merge (nthS f i) b (m : Int)))).setCell (p := ⟨w.heap.size + 1, 0, none⟩) (by simp) (.slice (some ⟨g, 0, none⟩) f.length cap)
  rw [HM.out] at hO3 HB
  refine bodyPost_ret (v := .tuple #[.agg #[.slice (some ⟨g, 0, none⟩) f.length cap], .int .i64 0]) (by simp [results, Try.results26, go_sem, cr, World.cell?_alloc_some]) rfl ⟨_, rfl, ?_, ?_, .inr ⟨g, _, _, rfl, by omega⟩⟩
  · rw [HM.out]; exact hO3
  · exact HB

set_option maxRecDepth 100000 in
set_option maxHeartbeats 2000000 in
theorem rwrite_mid (v : Value) (f : List ByteArray) (i : Nat) (b : ByteArray) (m : Nat) (hm : m < 256) (ho : m < (nthS f i).size) (w : World) (hf : RStrs w w.heap.size v f) (hi : i < f.length) (hs : b.size = 256) (hlen : f.length ≤ 1000) :
    Calls Try.prog 26 #[.agg #[v], .int .i64 i, .string b, .int .i64 (m : Int)] w fun e w' => ∃ v', e = .returned (.tuple #[.agg #[v'], .int .i64 0]) ∧ RStrs w' w'.heap.size v' (f.set i (Fl.merge (nthS f i) b (m : Int))) ∧ Below w.heap.size w w' ∧ Apart w v v' := by
  have hall : ∀ s ∈ f.set i (Fl.merge (nthS f i) b (m : Int)), s.size ≤ maxLen := by
    intro s h
    rcases List.mem_or_eq_of_mem_set h with h | rfl
    · exact hf.sized s h
    · refine Nat.le_trans (merge_size _ _ _) ?_
      have := hf.sized _ (List.getElem_mem hi)
      rw [hs]; unfold maxLen at this ⊢
      have e : nthS f i = f[i] := by simp [nthS, hi]
      rw [e]; omega
  have HM := Lib.hid (show Fl.merge (nthS f i) b m = b.extract 0 m ++ (nthS f i).extract m (nthS f i).size by
    unfold Fl.merge; rw [if_neg (by omega)]
    have e : (min (m : Int) ((nthS f i).size : Int)).toNat = m := by omega
    have e' : (m : Int).toNat = m := by omega
    rw [e, e'])
  have c2 : decide ((m : Int) < 256) = true := by simp; omega
  have c3 : decide ((m : Int) < ((nthS f i).size : Int)) = true := by simp; omega
  have c4 : decide (m < (nthS f i).size) = true := by simp; omega
  have c5 : decide (m < 256) = true := by simp; omega
  obtain ⟨A, c, rfl, hn, hc⟩ := hf.form
  unfold maxLen at hc
  obtain ⟨ba, oa, rfl, hba, hcell, hsz⟩ := hf.at_ hi
  unfold maxLen at hsz
  have e1 : ((b.size : Int) != 256) = false := by simp; omega
  have e2 : decide ((i : Int) < 0) = false := by simp
  have e3 : decide ((f.length : Int) ≤ (i : Int)) = false := by simp; omega
  have e4 : decide (f.length ≤ i) = false := by simp; omega
  obtain ⟨i0, hi0, hz0, hz1, hz2⟩ := info_parts infoStr
  go_enter Try.func26, Try.ntmps26
  have hB : ∀ o1 o2 o3, Below w.heap.size w (((w.alloc o1).alloc o2).alloc o3) := fun o1 o2 o3 => (((Below.refl _ _).alloc (Nat.le_refl _) _).alloc (by simp) _).alloc (by simp; omega) _
  have hlit : ∀ o1 o2, (((w.alloc o1).alloc o2).alloc (.cells #[] 9)).ownsRow (w.heap.size + 1 + 1) 9 1 (.slice (some ⟨w.heap.size + 1 + 1, 0, none⟩) 0 0) 0 [] := by
    intro o1 o2
    have := World.ownsRow_lit (base := w.heap.size + 1 + 1) (e := 9) (size := 1) ((w.alloc o1).alloc o2) #[] 0 (by simp) (by simp [maxLen]) (by simp)
    simpa using this
  go_wp2_with (at_builtin; refine wpList_append_own _ rfl _ _ 25 rfl (w.heap.size + 1 + 1) 9 i0 _ 1 16 Try.underlying25 hi0 hz0 hz1 hz2 rfl (by decide) (.slice (some ⟨w.heap.size + 1 + 1, 0, none⟩) 0 0) 0 [] (by rfl) (hlit _ _) ⟨ba, oa, none⟩ f.length c (f.map Value.string) (by rfl) (by simp) (strs_news (hf.below (hB _ _ _))) (by simp [Value.oneCell']) (by unfold maxLen; omega) (by omega) (by simp) ?_; intro v' w1 hown1 hgrow _; rw [Nat.zero_add, List.nil_append] at hown1; obtain ⟨g, cap, rfl, hgb, hgl⟩ := own_slice hown1 (by omega); have cg := hown1.cellAt i (by omega); have fg := hown1.frozenAt i; have cr := hgrow.cell_far ⟨w.heap.size + 1, 0, none⟩ (by simp) (by simp [Value.ownBlock]); have fr := hgrow.frozen_far ⟨w.heap.size + 1, 0, none⟩ (by simp) (by simp [Value.ownBlock]))
  have hO := (hown1.stored i (.string (Fl.merge (nthS f i) b (m : Int)))).1
  rw [← List.map_set] at hO
  have hO2 := ownsRow_setCell_other (a := ⟨w.heap.size + 1, 0, none⟩) hO (by simp [Value.ownBlock]; omega) (.slice (some ⟨g, 0, none⟩) f.length cap)
  have hO3 := strs_set hO2 hall
  have HB := ((Below.grown (hB _ _ _) hgrow (by simp; omega) (fun j hj => by simp [Value.ownBlock] at hj; omega)).setCell (p := ⟨g, i, none⟩) (by simp; omega) (.string (Fl.merge (nthS f i) b (m : Int)))).setCell (p := ⟨w.heap.size + 1, 0, none⟩) (by simp) (.slice (some ⟨g, 0, none⟩) f.length cap)
  rw [HM.out] at hO3 HB
  refine bodyPost_ret (v := .tuple #[.agg #[.slice (some ⟨g, 0, none⟩) f.length cap], .int .i64 0]) (by simp [results, Try.results26, go_sem, cr, World.cell?_alloc_some]) rfl ⟨_, rfl, ?_, ?_, .inr ⟨g, _, _, rfl, by omega⟩⟩
  · rw [HM.out]; exact hO3
  · exact HB

set_option maxRecDepth 100000 in
set_option maxHeartbeats 2000000 in
theorem rwrite_none (v : Value) (f : List ByteArray) (s : Int) (b : ByteArray) (cut : Int) (w : World) (hf : RStrs w w.heap.size v f) (hx : Fl.has f s = false) :
    Calls Try.prog 26 #[.agg #[v], .int .i64 s, .string b, .int .i64 cut] w fun e w' => ∃ v', e = .returned (.tuple #[.agg #[v'], .int .i64 (Fl.writeE f s b)]) ∧ RStrs w' w'.heap.size v' (Fl.write f s b cut) ∧ Below w.heap.size w w' ∧ Apart w v v' := by
  obtain ⟨A, c, rfl, hn, hc⟩ := hf.form
  unfold maxLen at hc
  have H1 := Lib.hid (show Fl.write f s b cut = f by simp [Fl.write, Fl.writeOK, hx])
  have H2 := Lib.hid (show Fl.writeE f s b = 13 by simp [Fl.writeE, hx])
  have hB : ∀ o1 o2, Below w.heap.size w ((w.alloc o1).alloc o2) := fun o1 o2 => ((Below.refl _ _).alloc (Nat.le_refl _) _).alloc (by simp) _
  have HB2 := hB (.cells #[.slice A f.length c] 27) (.cells #[.slice A f.length c] 27)
  by_cases h0 : s < 0
  · clear hx
    go_enter Try.func26, Try.ntmps26
    go_wp2
    refine bodyPost_ret (v := .tuple #[.agg #[.slice A f.length c], .int .i64 13]) (by simp [results, Try.results26, go_sem]) rfl ⟨_, ret_write H2.out.symm, ?_, ?_, .inl rfl⟩
    · rw [H1.out]; exact (hf.below HB2).more HB2.size
    · exact HB2
  · obtain ⟨k, rfl⟩ := Int.eq_ofNat_of_zero_le (show 0 ≤ s by omega)
    have hk : f.length ≤ k := by
      simp [Fl.has] at hx; omega
    have e2 : decide ((k : Int) < 0) = false := by simp
    have e3 : decide ((f.length : Int) ≤ (k : Int)) = true := by simp; omega
    have e4 : decide (f.length ≤ k) = true := by simp; omega
    clear hx h0
    go_enter Try.func26, Try.ntmps26
    go_wp2
    refine bodyPost_ret (v := .tuple #[.agg #[.slice A f.length c], .int .i64 13]) (by simp [results, Try.results26, go_sem]) rfl ⟨_, ret_write H2.out.symm, ?_, ?_, .inl rfl⟩
    · rw [H1.out]; exact (hf.below HB2).more HB2.size
    · exact HB2

set_option maxRecDepth 100000 in
set_option maxHeartbeats 2000000 in
theorem rwrite_size (v : Value) (f : List ByteArray) (i : Nat) (b : ByteArray) (cut : Int) (w : World) (hf : RStrs w w.heap.size v f) (hi : i < f.length) (hs : ¬ b.size = 256) (hbm : b.size ≤ maxLen) :
    Calls Try.prog 26 #[.agg #[v], .int .i64 i, .string b, .int .i64 cut] w fun e w' => ∃ v', e = .returned (.tuple #[.agg #[v'], .int .i64 (Fl.writeE f i b)]) ∧ RStrs w' w'.heap.size v' (Fl.write f i b cut) ∧ Below w.heap.size w w' ∧ Apart w v v' := by
  obtain ⟨A, c, rfl, hn, hc⟩ := hf.form
  unfold maxLen at hc hbm
  have hx : Fl.has f i = true := by simp [Fl.has, hi]
  have H1 := Lib.hid (show Fl.write f i b cut = f by simp [Fl.write, Fl.writeOK, hs])
  have H2 := Lib.hid (show Fl.writeE f i b = 1 by simp [Fl.writeE, hx, hs])
  have hB : ∀ o1 o2, Below w.heap.size w ((w.alloc o1).alloc o2) := fun o1 o2 => ((Below.refl _ _).alloc (Nat.le_refl _) _).alloc (by simp) _
  have HB2 := hB (.cells #[.slice A f.length c] 27) (.cells #[.slice A f.length c] 27)
  have e1 : ((b.size : Int) != 256) = true := by simp; omega
  have e2 : decide ((i : Int) < 0) = false := by simp
  have e3 : decide ((f.length : Int) ≤ (i : Int)) = false := by simp; omega
  have e4 : decide (f.length ≤ i) = false := by simp; omega
  clear hx
  go_enter Try.func26, Try.ntmps26
  go_wp2
  refine bodyPost_ret (v := .tuple #[.agg #[.slice A f.length c], .int .i64 1]) (by simp [results, Try.results26, go_sem]) rfl ⟨_, ret_write H2.out.symm, ?_, ?_, .inl rfl⟩
  · rw [H1.out]; exact (hf.below HB2).more HB2.size
  · exact HB2

namespace Fl
theorem write_out {f : List ByteArray} {i : Nat} {b : ByteArray} {cut : Int} (hi : i < f.length) (hs : b.size = 256) : write f i b cut = f.set i (merge (nthS f i) b cut) ∧ writeE f i b = 0 := by
  have hx : has f i = true := by simp [has, hi]
  constructor
  · simp [write, writeOK, hx, hs]
  · simp [writeE, hx, hs]
theorem has_out {f : List ByteArray} {s : Int} (h : has f s = true) : ∃ i : Nat, s = i ∧ i < f.length := by
  simp [has] at h
  exact ⟨s.toNat, by omega, by omega⟩
end Fl

/-- Write of both: what it says. -/
def WriteApart (w : World) (v : Value) (f : List ByteArray) (s : Int) (b : ByteArray) (cut : Int) (e : Ending) (w' : World) : Prop :=
  ∃ v', e = .returned (.tuple #[.agg #[v'], .int .i64 (Fl.writeE f s b)]) ∧ RStrs w' w'.heap.size v' (Fl.write f s b cut) ∧ Below w.heap.size w w' ∧ Apart w v v'

theorem write_any (v : Value) (f : List ByteArray) (s : Int) (b : ByteArray) (cut : Int) (w : World) (hf : RStrs w w.heap.size v f) (hlen : f.length ≤ 1000) (hbm : b.size ≤ maxLen) :
    Calls Try.prog 48 #[.agg #[v], .int .i64 s, .string b, .int .i64 cut] w (WriteApart w v f s b cut) := by
  by_cases hx : Fl.has f s = true
  · by_cases hs : b.size = 256
    · obtain ⟨i, rfl, hi⟩ := Fl.has_out hx
      unfold WriteApart
      rw [(Fl.write_out hi hs).1, (Fl.write_out (cut := cut) hi hs).2]
      exact write_yes v f i b cut w hf hi hs hlen
    · exact write_size v f s b cut w hf hx hs hbm
  · exact write_none v f s b cut w hf (by simpa using hx)

theorem rwrite_any (v : Value) (f : List ByteArray) (s : Int) (b : ByteArray) (cut : Int) (w : World) (hf : RStrs w w.heap.size v f) (hlen : f.length ≤ 1000) (hbm : b.size ≤ maxLen) :
    Calls Try.prog 26 #[.agg #[v], .int .i64 s, .string b, .int .i64 cut] w (WriteApart w v f s b cut) := by
  by_cases hx : Fl.has f s = true
  · obtain ⟨i, rfl, hi⟩ := Fl.has_out hx
    by_cases hs : b.size = 256
    · unfold WriteApart
      rw [(Fl.write_out hi hs).1, (Fl.write_out (cut := cut) hi hs).2]
      by_cases h0 : cut < 0
      · exact rwrite_neg v f i b cut h0 w hf hi hs hlen
      · by_cases h1 : 256 ≤ cut
        · exact rwrite_big v f i b cut h1 w hf hi hs hlen
        · obtain ⟨m, rfl⟩ := Int.eq_ofNat_of_zero_le (show 0 ≤ cut by omega)
          by_cases h2 : m < (nthS f i).size
          · exact rwrite_mid v f i b m (by omega) h2 w hf hi hs hlen
          · exact rwrite_short v f i b m (by omega) (by omega) w hf hi hs hlen
    · exact rwrite_size v f i b cut w hf hi hs hbm
  · exact rwrite_none v f s b cut w hf (by simpa using hx)

end Go.Proofs.Ytncgechmloekbaa.Fm
