/- Flash: full of the laws: a sector of one byte. -/
import Derived.Test.YtncgechmloekbaaFlC
import Derived.Laws.BytesArg
import Derived.Laws.OwnMore
namespace Go.Proofs.Ytncgechmloekbaa.Fm
open Go.RowKit

theorem infoU8 : (Try.prog.info? 5).map (fun i => (i.zero, i.size, i.bytes)) = some (some (.int .u8 0), 1, 1) := by kernel_rfl
/-- a fresh row of n zero bytes -/
def zrow (n : Nat) : Array Value := madeCells #[.int .u8 0] n
theorem zrow_list (n : Nat) : (zrow n).toList = List.replicate n (.int .u8 0) := by unfold zrow; rw [toList_madeCells_one]
theorem make_u8 (n : Nat) (hn : n ≤ 1000000) (x : Int) (hx : x = n) (W : World) :
    (Instr.makeSlice 56 (.int .i64 x) (.int .i64 x)).run Try.prog W = .ok (.slice (some ⟨W.heap.size, 0, none⟩) n n) (W.alloc (.cells (zrow n) 5)) := by
  subst hx
  obtain ⟨i0, hi0, hz0, hz1, hz2⟩ := info_parts infoU8
  have hr := run_make (P := Try.prog) W 56 5 i0 _ Try.underlying56 hi0 hz0 .i64 .i64 n n (by omega) (by omega) (by rw [hz2]; omega) (by omega)
  rw [hr, hz1]
  simp [zrow, Value.cells]

namespace Fl
/-- the row while it is being filled -/
def filling (c : Int) (n k : Nat) : List Value := List.replicate k (.int .u8 c) ++ List.replicate (n - k) (.int .u8 0)
theorem filling_set (c : Int) {n k : Nat} (h : k < n) : (filling c n k).set k (.int .u8 c) = filling c n (k + 1) := by
  unfold filling
  refine List.ext_getElem (by simp; omega) fun i h1 h2 => ?_
  simp only [List.getElem_set, List.getElem_append, List.getElem_replicate, List.length_replicate]
  split
  · subst_vars; simp
  · split
    · rw [dif_pos (by omega)]
    · rw [dif_neg (by omega)]
theorem filling_whole (c : Int) (n : Nat) : filling c n n = List.replicate n (.int .u8 c) := by simp [filling]
theorem filling_at (c : Int) {n k i : Nat} (hk : k ≤ n) (hi : i < n) : ∃ x, (filling c n k)[i]? = some x := by
  have : i < (filling c n k).length := by simp [filling]; omega
  exact ⟨_, List.getElem?_eq_getElem this⟩
/-- a sector of one byte -/
def full (c : Int) : ByteArray := strOfNums (List.replicate 256 c)
theorem full_size (c : Int) : (full c).size = 256 := by rw [full, strOfNums_size, List.length_replicate]
end Fl

theorem zrow_own (w : World) (n : Nat) (hn : n ≤ maxLen) (c : Int) : (w.alloc (.cells (zrow n) 5)).ownsRow w.heap.size 5 1 (.slice (some ⟨w.heap.size, 0, none⟩) n n) n (Fl.filling c n 0) := by
  have h := World.ownsRow_lit (base := w.heap.size) (e := 5) (size := 1) w (zrow n) n (Nat.le_refl _) hn (by rw [← Array.length_toList, zrow_list]; simp)
  rwa [zrow_list] at h
theorem filled_cells {W : World} {H n : Nat} {c : Int} (h : W.ownsRow H 5 1 (.slice (some ⟨H, 0, none⟩) n n) n (Fl.filling c n n)) : ∀ i, i < n → W.cell? ⟨H, 0 + i, none⟩ = some (.int .u8 ((List.replicate n c).getD i 0)) := by
  intro i hi
  rw [Nat.zero_add, World.ownsRow.cellAt h i (by omega), Fl.filling_whole]
  simp [hi]
theorem full_conv {W : World} {H : Nat} {c : Int} (h : W.ownsRow H 5 1 (.slice (some ⟨H, 0, none⟩) 256 256) 256 (Fl.filling c 256 256)) :
    (convert 56 9 (.slice (some ⟨H, 0, none⟩) 256 256)).run Try.prog W = .ok (.string (Fl.full c)) W :=
  run_convert_bytes_arg (P := Try.prog) W 56 5 Try.underlying56 Try.underlying5 H 0 256 256 (List.replicate 256 c) List.length_replicate (filled_cells h) 9 Try.underlying9

theorem ret_str {a b : ByteArray} (h : a = b) : Ending.returned (.string a) = .returned (.string b) := by rw [h]

set_option maxRecDepth 100000 in
set_option maxHeartbeats 1000000 in
theorem full_any (c : Int) (w : World) : Calls Try.prog 19 #[.int .u8 c] w fun e w' => e = .returned (.string (Fl.full c)) ∧ Below w.heap.size w w' := by
  have hmk := make_u8 256 (by omega) 256 rfl
  go_enter Try.func19, Try.ntmps19
  go_wp2
  have O0 := Lib.hid (zrow_own w 256 (by simp [maxLen]) c)
  clear hmk
  go_loopw [4] (fun i wr => ∃ k : Nat, k ≤ 256 ∧ i = .int .i64 k ∧ Hid (wr.ownsRow w.heap.size 5 1 (.slice (some ⟨w.heap.size, 0, none⟩) 256 256) 256 (Fl.filling c 256 k)) ∧ Below w.heap.size w wr) (fun i _ => 256 - (intOf i).toNat)
  case atStart => exact ⟨0, Nat.zero_le _, rfl, O0, Below.new _⟩
  case round =>
    clear O0
    obtain ⟨k, hk, rfl, HO, hbw⟩ := hrel
    by_cases hlt : k < 256
    · obtain ⟨x, hx⟩ := Fl.filling_at c hk hlt
      have hcell := (World.ownsRow.cellAt HO.out k (by omega)).trans hx
      have hfro := World.ownsRow.frozenAt HO.out k
      have H := Lib.hid ((HO.out.stored k (.int .u8 c)).1)
      rw [Fl.filling_set c hlt] at H
      have HB := Lib.hid (hbw.setCell (p := ⟨w.heap.size, k, none⟩) (Nat.le_refl _) (.int .u8 c))
      clear hx
      go_wp2
      go_roundw
      case rel => exact ⟨k + 1, by omega, by go_num, H, HB.out⟩
      case measure => simp [intOf]; omega
    · obtain rfl : k = 256 := by omega
      have hcv := full_conv HO.out
      go_wp2
      go_ret
      exact ⟨rfl, hbw⟩

end Go.Proofs.Ytncgechmloekbaa.Fm
