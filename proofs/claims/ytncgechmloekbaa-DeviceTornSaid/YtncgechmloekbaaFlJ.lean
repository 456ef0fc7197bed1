/- Flash: Write of package flash: the way that writes. -/
import Derived.Test.YtncgechmloekbaaFlI
import Derived.Laws.CopyOwn
namespace Go.Proofs.Ytncgechmloekbaa.Fm
open Go.RowKit

theorem strs_news {W : World} {B b o n c : Nat} {f : List ByteArray} (h : RStrs W B (.slice (some ⟨b, o, none⟩) n c) f) : ∀ j u, (f.map Value.string)[j]? = some u → W.cell? ((⟨b, o, none⟩ : Addr).add j) = some u := by
  intro j u hu
  have hj : j < f.length := by
    have := (List.getElem?_eq_some_iff.1 hu).1
    simpa using this
  obtain ⟨b', o', e, _, hc, _⟩ := h.at_ hj
  cases e
  have hadd : (⟨b, o, none⟩ : Addr).add j = ⟨b, o + j, none⟩ := by unfold Addr.add; split <;> simp_all
  rw [hadd, hc, ← hu]
  simp [nthS, hj]

theorem merge_size (old b : ByteArray) (cut : Int) : (Fl.merge old b cut).size ≤ max b.size old.size := by
  unfold Fl.merge
  split
  · omega
  · simp only [ByteArray.size_append, ByteArray.size_extract]
    omega

theorem RStrs.sized {w : World} {B : Nat} {v : Value} {f : List ByteArray} (h : RStrs w B v f) : ∀ s ∈ f, s.size ≤ maxLen := by
  obtain ⟨_, _, _, _, _, h, _⟩ := h
  exact h

set_option maxRecDepth 100000 in
set_option maxHeartbeats 2000000 in
theorem write_yes (v : Value) (f : List ByteArray) (i : Nat) (b : ByteArray) (cut : Int) (w : World) (hf : RStrs w w.heap.size v f) (hi : i < f.length) (hs : b.size = 256) (hlen : f.length ≤ 1000) :
    Calls Try.prog 48 #[.agg #[v], .int .i64 i, .string b, .int .i64 cut] w fun e w' => ∃ v', e = .returned (.tuple #[.agg #[v'], .int .i64 0]) ∧ RStrs w' w'.heap.size v' (f.set i (Fl.merge (nthS f i) b cut)) ∧ Below w.heap.size w w' ∧ Apart w v v' := by
  obtain ⟨A, c, rfl, hn, hc⟩ := hf.form
  unfold maxLen at hc
  obtain ⟨ba, oa, rfl, hba, hcell, hsz⟩ := hf.at_ hi
  have H := Lib.hid (show Fl.has f i = true by simp [Fl.has, hi])
  have e1 : ((b.size : Int) != 256) = false := by simp; omega
  have hmk := make_str f.length (by omega) f.length rfl
  have hB : ∀ o1 o2 o3 o4, Below w.heap.size w ((((w.alloc o1).alloc o2).alloc o3).alloc o4) := fun o1 o2 o3 o4 => ((((Below.refl _ _).alloc (Nat.le_refl _) _).alloc (by simp) _).alloc (by simp; omega) _).alloc (by simp; omega) _
  go_enter Try.func48, Try.ntmps48
  go_wp2_with fail
  refine (has_any _ f _ _ ((hf.below (hB _ _ _ _)).more (hB _ _ _ _).size)).mono ?_
  rintro e w1 ⟨rfl, hb1⟩
  rw [H.out]
  obtain ⟨hk1, hk2⟩ := bcell hb1
  have hz1 := hb1.size
  simp only [World.size_alloc] at hz1 hk1 hk2
  have hz2 : w.heap.size < w1.heap.size := by omega
  have hz3 : w.heap.size + 1 < w1.heap.size := by omega
  have hz4 : w.heap.size + 1 + 1 < w1.heap.size := by omega
  have hF : RStrs (w1.alloc (.cells (srow f.length) 9)) w.heap.size (.slice (some ⟨ba, oa, none⟩) f.length c) f := (((hf.below (hB _ _ _ _)).below (hb1.mono (hB _ _ _ _).size))).below ((Below.new _).mono (by omega))
  have hnews := strs_news hF
  obtain ⟨W2, hrun, HS2, hb2⟩ : ∃ W2, Sem.run Try.prog (Builtin.copy_ #[25, 25] 3 #[.slice (some ⟨w1.heap.size, 0, none⟩) f.length f.length, .slice (some ⟨ba, oa, none⟩) f.length c]) (w1.alloc (.cells (srow f.length) 9)) = .ok (.int .i64 f.length) W2 ∧
      Hid (W2.heap[w1.heap.size]? = some (.cells (f.map Value.string).toArray 9 (0, 0))) ∧ Below w1.heap.size w1 W2 := by
    have hg := heap_alloc_new w1 (.cells (srow f.length) 9)
    have hr := run_copy_row (P := Try.prog) (w1.alloc (.cells (srow f.length) 9)) 25 25 3 9 w1.heap.size 0 f.length f.length ⟨ba, oa, none⟩ f.length c (srow f.length) 9 (f.map Value.string) Try.underlying25 (by kernel_rfl) hg (by simp) hnews (by rw [← Array.length_toList, srow_list]; simp) (by simp [Value.oneCell'])
    have hlast : (srow f.length).toList.take 0 ++ f.map Value.string ++ (srow f.length).toList.drop (0 + (f.map Value.string).length) = f.map Value.string := by rw [srow_list]; simp
    have hr2 := setRow_heap (w1.alloc (.cells (srow f.length) 9)) w1.heap.size _ (f.map Value.string).toArray _ _ hg
    rw [hlast] at hr
    exact ⟨_, hr.trans (by simp [goInt]), hr2, below_setRow (Below.new _) (Nat.le_refl _) _⟩
  have hzW := lt_of_block HS2.out
  obtain ⟨hm1, hm2⟩ := bcell hb2
  have cw : W2.cell? ⟨w1.heap.size, i, none⟩ = some (.string (nthS f i)) := by
    have h := HS2.out
    simp [World.cell?, h, nthS, hi]
  have fw : W2.frozen? ⟨w1.heap.size, i, none⟩ = false := by
    have h := HS2.out
    simp [World.frozen?, h]
  have hp : W2.cell? ⟨w.heap.size + 1 + 1, 0, none⟩ = some (.int .i64 cut) := by
    rw [hm1 _ _ (by omega), hk1 _ _ (by omega)]
    simp [go_sem, World.cell?_alloc_some]
  have hq : W2.cell? ⟨w.heap.size + 1, 0, none⟩ = some (.string b) := by
    rw [hm1 _ _ (by omega), hk1 _ _ (by omega)]
    simp [go_sem, World.cell?_alloc_some]
  have hv : W2.cell? ⟨w.heap.size + 1 + 1 + 1, 0, none⟩ = some (.slice none 0 0) := by
    rw [hm1 _ _ (by omega), hk1 _ _ (by omega)]
    simp [go_sem, World.cell?_alloc_some]
  have gv : W2.frozen? ⟨w.heap.size + 1 + 1 + 1, 0, none⟩ = false := by
    rw [hm2 _ _ (by omega), hk2 _ _ (by omega)]
    simp [go_sem]
  go_wp2_with fail
  refine (merge_any (nthS f i) b cut _ _ _ hp hq hs hsz).mono ?_
  rintro e w3 ⟨rfl, hb3⟩
  obtain ⟨hn1, hn2⟩ := bcell hb3
  have cw3 := (hn1 w1.heap.size i hzW).trans cw
  have fw3 := (hn2 w1.heap.size i hzW).trans fw
  have hz5 := hb3.size
  have hz6 : w.heap.size + 1 + 1 + 1 < w3.heap.size := by omega
  have hv3 := (hn1 (w.heap.size + 1 + 1 + 1) 0 (by omega)).trans hv
  have gv3 := (hn2 (w.heap.size + 1 + 1 + 1) 0 (by omega)).trans gv
  have ho3 : w3.ownsRow w1.heap.size 9 1 (.slice (some ⟨w1.heap.size, 0, none⟩) f.length f.length) f.length (f.map Value.string) := ⟨by simp, .inr ⟨w1.heap.size, f.length, (f.map Value.string).toArray, rfl, Nat.le_refl _, (hb3.block _ hzW).trans HS2.out, Nat.le_refl _, by unfold maxLen; omega, by simp, List.take_of_length_le (by simp)⟩⟩
  go_wp2_with fail
  have hall : ∀ s ∈ f.set i (Fl.merge (nthS f i) b cut), s.size ≤ maxLen := by
    intro s h
    rcases List.mem_or_eq_of_mem_set h with h | rfl
    · exact hf.sized s h
    · exact Nat.le_trans (merge_size _ _ _) (by rw [hs]; unfold maxLen at hsz ⊢; omega)
  have hO := (ho3.stored i (.string (Fl.merge (nthS f i) b cut))).1
  rw [← List.map_set] at hO
  have hO2 := ownsRow_setCell_other (a := ⟨w.heap.size + 1 + 1 + 1, 0, none⟩) hO (by simp [Value.ownBlock]; omega) (.slice (some ⟨w1.heap.size, 0, none⟩) f.length f.length)
  have hO3 : ∀ n (L : List ByteArray), n = L.length → World.ownsRow ((w3.setCell ⟨w1.heap.size, i, none⟩ (.string (Fl.merge (nthS f i) b cut))).setCell ⟨w.heap.size + 1 + 1 + 1, 0, none⟩ (.slice (some ⟨w1.heap.size, 0, none⟩) f.length f.length)) w1.heap.size 9 1 (.slice (some ⟨w1.heap.size, 0, none⟩) f.length f.length) n (L.map Value.string) → World.ownsRow ((w3.setCell ⟨w1.heap.size, i, none⟩ (.string (Fl.merge (nthS f i) b cut))).setCell ⟨w.heap.size + 1 + 1 + 1, 0, none⟩ (.slice (some ⟨w1.heap.size, 0, none⟩) f.length f.length)) w1.heap.size 9 1 (.slice (some ⟨w1.heap.size, 0, none⟩) f.length f.length) L.length (L.map Value.string) := by
    intro n L e h; rwa [e] at h
  have hHB : Below w.heap.size w w3 := ((hB _ _ _ _).trans (hb1.mono (hB _ _ _ _).size)).trans ((hb2.mono (by omega)).trans (hb3.mono (by omega)))
  refine bodyPost_ret (v := .tuple #[.agg #[.slice (some ⟨w1.heap.size, 0, none⟩) f.length f.length], .int .i64 0]) (by simp [results, Try.results48, go_sem, hv3]) rfl ⟨_, rfl, ?_, ?_, .inr ⟨w1.heap.size, _, _, rfl, by omega⟩⟩
  · exact strs_own (hO3 _ _ (by simp) hO2) hall
  · exact (hHB.setCell (by simp; omega) _).setCell (by simp; omega) _

end Go.Proofs.Ytncgechmloekbaa.Fm
