/- Flash: New of package flash. -/
import Derived.Test.YtncgechmloekbaaFlE
namespace Go.Proofs.Ytncgechmloekbaa.Fm
open Go.RowKit

theorem infoStr : (Try.prog.info? 9).map (fun i => (i.zero, i.size, i.bytes)) = some (some (.string ⟨#[]⟩), 1, 16) := by kernel_rfl
/-- a fresh row of n empty strings -/
def srow (n : Nat) : Array Value := madeCells #[.string ⟨#[]⟩] n
theorem srow_list (n : Nat) : (srow n).toList = List.replicate n (.string ⟨#[]⟩) := by unfold srow; rw [toList_madeCells_one]
theorem make_str (n : Nat) (hn : n ≤ 1000000) (x : Int) (hx : x = n) (W : World) :
    (Instr.makeSlice 25 (.int .i64 x) (.int .i64 x)).run Try.prog W = .ok (.slice (some ⟨W.heap.size, 0, none⟩) n n) (W.alloc (.cells (srow n) 9)) := by
  subst hx
  obtain ⟨i0, hi0, hz0, hz1, hz2⟩ := info_parts infoStr
  have hr := run_make (P := Try.prog) W 25 9 i0 _ Try.underlying25 hi0 hz0 .i64 .i64 n n (by omega) (by omega) (by rw [hz2]; omega) (by omega)
  rw [hr, hz1]
  simp [srow, Value.cells]

namespace Fl
/-- the row while it is being filled -/
def fill (a b : Value) (n k : Nat) : List Value := List.replicate k a ++ List.replicate (n - k) b
theorem fill_set (a b : Value) {n k : Nat} (h : k < n) : (fill a b n k).set k a = fill a b n (k + 1) := by
  unfold fill
  refine List.ext_getElem (by simp; omega) fun i h1 h2 => ?_
  simp only [List.getElem_set, List.getElem_append, List.getElem_replicate, List.length_replicate]
  split
  · subst_vars; simp
  · split
    · rw [dif_pos (by omega)]
    · rw [dif_neg (by omega)]
theorem fill_whole (a b : Value) (n : Nat) : fill a b n n = List.replicate n a := by simp [fill]
theorem fill_at (a b : Value) {n k i : Nat} (hk : k ≤ n) (hi : i < n) : ∃ x, (fill a b n k)[i]? = some x := by
  have : i < (fill a b n k).length := by simp [fill]; omega
  exact ⟨_, List.getElem?_eq_getElem this⟩
def newOK (n : Int) : Bool := decide (0 ≤ n ∧ n ≤ 128)
def newF (n : Int) : List ByteArray := if newOK n then List.replicate n.toNat (full 0) else []
def newE (n : Int) : Int := if newOK n then 0 else 1
theorem new_yes {n : Nat} (h : n ≤ 128) : newF n = List.replicate n (full 0) ∧ newE n = 0 := by
  have : newOK n = true := by simp [newOK]; omega
  simp [newF, newE, this]
theorem new_no {n : Int} (h : n < 0 ∨ 128 < n) : newF n = [] ∧ newE n = 1 := by
  have : newOK n = false := by simp [newOK]; omega
  simp [newF, newE, this]
end Fl

theorem srow_own (w : World) (n : Nat) (hn : n ≤ maxLen) (a : Value) : (w.alloc (.cells (srow n) 9)).ownsRow w.heap.size 9 1 (.slice (some ⟨w.heap.size, 0, none⟩) n n) n (Fl.fill a (.string ⟨#[]⟩) n 0) := by
  have h := World.ownsRow_lit (base := w.heap.size) (e := 9) (size := 1) w (srow n) n (Nat.le_refl _) hn (by rw [← Array.length_toList, srow_list]; simp)
  rwa [srow_list] at h
/-- a row of strings of one's own reads as strings -/
theorem strs_own {W : World} {base : Nat} {v : Value} {L : List ByteArray} (h : W.ownsRow base 9 1 v L.length (L.map Value.string)) (hs : ∀ s ∈ L, s.size ≤ maxLen) : RStrs W W.heap.size v L := by
  have h' := h
  rcases h.2 with ⟨rfl, h0⟩ | ⟨g, cap, cur, rfl, hb, hg, hn, hm, _, _⟩
  · exact ⟨none, 0, by rw [h0], by omega, by simp [maxLen], hs, fun h => by omega⟩
  · refine ⟨_, cap, rfl, hn, hm, hs, fun _ => ⟨g, 0, rfl, lt_of_block hg, fun i hi => ?_⟩⟩
    rw [Nat.zero_add, World.ownsRow.cellAt h' i (by omega)]
    simp [nthS, hi]
theorem strs_nil (W : World) : RStrs W W.heap.size (.slice none 0 0) [] := ⟨none, 0, rfl, by simp, by simp [maxLen], by simp, fun h => by simp at h⟩

theorem heap_three (w : World) (o1 o2 o3 : Obj) : (((w.alloc o1).alloc o2).alloc o3).heap[w.heap.size + 2]? = some o3 := by
  have h := heap_alloc_new ((w.alloc o1).alloc o2) o3
  rwa [World.size_alloc, World.size_alloc] at h
theorem own_below {w w' : World} {base : Nat} {e : TypeId} {size : Nat} {v : Value} {n : Nat} {xs : List Value} (h : w.ownsRow base e size v n xs) (hb : Below w.heap.size w w') : w'.ownsRow base e size v n xs := by
  refine ⟨h.1, ?_⟩
  rcases h.2 with hn | ⟨g, cap, cur, rfl, hg, hgg, rest⟩
  · exact .inl hn
  · exact .inr ⟨g, cap, cur, rfl, hg, (hb.block g (lt_of_block hgg)).trans hgg, rest⟩

theorem ret_new {v : Value} {a b : Int} (h : a = b) : Ending.returned (.tuple #[.agg #[v], .int .i64 a]) = .returned (.tuple #[.agg #[v], .int .i64 b]) := by rw [h]

/-- what New returns lies apart from all that the caller holds -/
def NewApart (w : World) (v' : Value) : Prop := v' = .slice none 0 0 ∨ ∃ g n c, v' = .slice (some ⟨g, 0, none⟩) n c ∧ w.heap.size ≤ g

set_option maxRecDepth 100000 in
set_option maxHeartbeats 2000000 in
theorem newA_any (n : Int) (w : World) :
    Calls Try.prog 28 #[.int .i64 n] w fun e w' => ∃ v', e = .returned (.tuple #[.agg #[v'], .int .i64 (Fl.newE n)]) ∧ RStrs w' w'.heap.size v' (Fl.newF n) ∧ Below w.heap.size w w' ∧ NewApart w v' := by
  by_cases hn : n < 0 ∨ 128 < n
  · have HO := Lib.hid (Fl.new_no hn)
    rcases hn with hn | hn
    · go_enter Try.func28, Try.ntmps28
      go_wp2
      refine bodyPost_ret (v := .tuple #[.agg #[.slice none 0 0], .int .i64 1]) (by simp [results, Try.results28, go_sem]) rfl ⟨_, ret_new HO.out.2.symm, ?_, ?_, .inl rfl⟩
      · rw [HO.out.1]; exact strs_nil _
      · exact Below.new _
    · have hn0 : 0 ≤ n := by omega
      go_enter Try.func28, Try.ntmps28
      go_wp2
      refine bodyPost_ret (v := .tuple #[.agg #[.slice none 0 0], .int .i64 1]) (by simp [results, Try.results28, go_sem]) rfl ⟨_, ret_new HO.out.2.symm, ?_, ?_, .inl rfl⟩
      · rw [HO.out.1]; exact strs_nil _
      · exact Below.new _
  · have h0 : 0 ≤ n := by omega
    obtain ⟨m, rfl⟩ := Int.eq_ofNat_of_zero_le h0
    have hm : m ≤ 128 := by omega
    have e1 : decide ((128 : Int) < (m : Int)) = false := by simp; omega
    have e0 : decide ((m : Int) < 0) = false := by simp
    have HO := Lib.hid (Fl.new_yes hm)
    have hmk := make_str m (by omega) m rfl
    clear hn h0
    go_enter Try.func28, Try.ntmps28
    go_wp2_with fail
    refine (repeat_zero _).mono ?_
    rintro e w1 ⟨rfl, hb1⟩
    have R1 := Lib.hid ((hb1.block w.heap.size (by simp; omega)).trans ((Below.heap_alloc _ _ _ (by simp; omega)).trans ((Below.heap_alloc _ _ _ (by simp)).trans (heap_alloc_new w (.cells #[.slice none 0 0] 27)))))
    have V1 := (hb1.block (w.heap.size + 2) (by simp)).trans (heap_three w _ _ _)
    have O1 := own_below ((srow_own (w.alloc (.cells #[.slice none 0 0] 27)) m (by unfold maxLen; omega) (.string (Fl.full 0))).alloc (.cells #[.slice (some ⟨w.heap.size + 1, 0, none⟩) m m] 27)) hb1
    rw [World.size_alloc] at O1
    have B1 : Below w.heap.size w w1 := ((((Below.refl _ _).alloc (Nat.le_refl _) _).alloc (by simp) _).alloc (by simp; omega) _).trans (hb1.mono (by simp; omega))
    have c1 := cell_of_one V1
    have V1 := Lib.hid V1
    have O1 := Lib.hid O1
    clear hb1 hmk
    go_wp2_with fail
    go_loopw [21] (fun i wr => ∃ k : Nat, k ≤ m ∧ i = .int .i64 k ∧ Hid (wr.heap[w.heap.size]? = some (.cells #[.slice none 0 0] 27 (0, 0)) ∧ wr.heap[w.heap.size + 2]? = some (.cells #[.slice (some ⟨w.heap.size + 1, 0, none⟩) m m] 27 (0, 0)) ∧
      wr.ownsRow (w.heap.size + 1) 9 1 (.slice (some ⟨w.heap.size + 1, 0, none⟩) m m) m (Fl.fill (.string (Fl.full 0)) (.string ⟨#[]⟩) m k)) ∧ Below w.heap.size w wr) (fun i _ => m - (intOf i).toNat)
    case atStart => exact ⟨0, Nat.zero_le _, rfl, ⟨R1.out, V1.out, O1.out⟩, B1⟩
    case round =>
      clear R1 V1 O1 B1 c1
      obtain ⟨k, hk, rfl, HH, hbw⟩ := hrel
      obtain ⟨R1, V1, O1⟩ := HH.out
      have c1 := cell_of_one V1
      have R1 := Lib.hid R1
      have V1 := Lib.hid V1
      by_cases hlt : k < m
      · obtain ⟨x, hx⟩ := Fl.fill_at (.string (Fl.full 0)) (.string ⟨#[]⟩) hk hlt
        have hcell := (World.ownsRow.cellAt O1 k (by omega)).trans hx
        have hfro := World.ownsRow.frozenAt O1 k
        have H := Lib.hid ((O1.stored k (.string (Fl.full 0))).1)
        rw [Fl.fill_set _ _ hlt] at H
        have HB := Lib.hid (hbw.setCell (p := ⟨w.heap.size + 1, k, none⟩) (by simp) (.string (Fl.full 0)))
        have R2 := Lib.hid ((Below.heap_setCell wr ⟨w.heap.size + 1, k, none⟩ (.string (Fl.full 0)) w.heap.size (by simp)).trans R1.out)
        have V2 := Lib.hid ((Below.heap_setCell wr ⟨w.heap.size + 1, k, none⟩ (.string (Fl.full 0)) (w.heap.size + 2) (by simp)).trans V1.out)
        clear hx O1
        go_wp2
        go_roundw
        case rel => exact ⟨k + 1, by omega, by go_num, ⟨R2.out, V2.out, H.out⟩, HB.out⟩
        case measure => simp [intOf]; omega
      · obtain rfl : k = m := by omega
        have r1 := cell_of_one R1.out
        have r2 := free_of_one R1.out
        rw [Fl.fill_whole] at O1
        have O2 := ownsRow_setCell_other (a := ⟨w.heap.size, 0, none⟩) O1 (by simp [Value.ownBlock]) (.slice (some ⟨w.heap.size + 1, 0, none⟩) k k)
        have O3 := Lib.hid (strs_own (L := List.replicate k (Fl.full 0)) (by simpa using O2) (by intro s hs; rw [(List.mem_replicate.1 hs).2, Fl.full_size]; simp [maxLen]))
        have HB := Lib.hid (hbw.setCell (p := ⟨w.heap.size, 0, none⟩) (Nat.le_refl _) (.slice (some ⟨w.heap.size + 1, 0, none⟩) k k))
        clear O1 O2
        go_wp2
        refine bodyPost_ret (v := .tuple #[.agg #[.slice (some ⟨w.heap.size + 1, 0, none⟩) k k], .int .i64 0]) (by simp [results, Try.results28, go_sem, r1]) rfl ⟨_, ret_new HO.out.2.symm, ?_, ?_, .inr ⟨w.heap.size + 1, _, _, rfl, by omega⟩⟩
        · rw [HO.out.1]; exact O3.out
        · exact HB.out

theorem new_any (n : Int) (w : World) :
    Calls Try.prog 28 #[.int .i64 n] w fun e w' => ∃ v', e = .returned (.tuple #[.agg #[v'], .int .i64 (Fl.newE n)]) ∧ RStrs w' w'.heap.size v' (Fl.newF n) ∧ Below w.heap.size w w' :=
  (newA_any n w).mono fun _ _ ⟨v', h1, h2, h3, _⟩ => ⟨v', h1, h2, h3⟩

end Go.Proofs.Ytncgechmloekbaa.Fm
