/- Flash: Write of package flash: the two ways that refuse. -/
import Derived.Test.YtncgechmloekbaaFlH
namespace Go.Proofs.Ytncgechmloekbaa.Fm
open Go.RowKit

/-- what a write returns lies apart from all that the caller holds, or is what it was handed -/
def Apart (w : World) (v v' : Value) : Prop := v' = v ∨ ∃ g n c, v' = .slice (some ⟨g, 0, none⟩) n c ∧ w.heap.size ≤ g

theorem ret_write {v : Value} {a b : Int} (h : a = b) : Ending.returned (.tuple #[.agg #[v], .int .i64 a]) = .returned (.tuple #[.agg #[v], .int .i64 b]) := by rw [h]

set_option maxRecDepth 100000 in
set_option maxHeartbeats 2000000 in
theorem write_none (v : Value) (f : List ByteArray) (s : Int) (b : ByteArray) (cut : Int) (w : World) (hf : RStrs w w.heap.size v f) (hx : Fl.has f s = false) :
    Calls Try.prog 48 #[.agg #[v], .int .i64 s, .string b, .int .i64 cut] w fun e w' => ∃ v', e = .returned (.tuple #[.agg #[v'], .int .i64 (Fl.writeE f s b)]) ∧ RStrs w' w'.heap.size v' (Fl.write f s b cut) ∧ Below w.heap.size w w' ∧ Apart w v v' := by
  obtain ⟨A, c, rfl, hn, hc⟩ := hf.form
  unfold maxLen at hc
  have H := Lib.hid hx
  have H1 := Lib.hid (show Fl.write f s b cut = f by simp [Fl.write, Fl.writeOK, hx])
  have H2 := Lib.hid (show Fl.writeE f s b = 13 by simp [Fl.writeE, hx])
  clear hx
  have hB : ∀ o1 o2 o3 o4, Below w.heap.size w ((((w.alloc o1).alloc o2).alloc o3).alloc o4) := fun o1 o2 o3 o4 => ((((Below.refl _ _).alloc (Nat.le_refl _) _).alloc (by simp) _).alloc (by simp; omega) _).alloc (by simp; omega) _
  go_enter Try.func48, Try.ntmps48
  go_wp2_with (go_at_call 58; with_reducible refine (has_any _ f _ _ ((hf.below (hB _ _ _ _)).more (hB _ _ _ _).size)).mono ?_; rintro e w1 ⟨rfl, hb1⟩; rw [H.out]; obtain ⟨hk1, hk2⟩ := bcell hb1)
  have HB := (hB _ _ _ _).trans (hb1.mono (hB _ _ _ _).size)
  have HB2 := HB.setCell (p := ⟨w.heap.size + 1 + 1 + 1, 0, none⟩) (by simp; omega) (.slice A f.length c)
  refine bodyPost_ret (v := .tuple #[.agg #[.slice A f.length c], .int .i64 13]) (by simp [results, Try.results48, go_sem, hk1]) rfl ⟨_, ret_write H2.out.symm, ?_, ?_, .inl rfl⟩
  · rw [H1.out]; exact (hf.below HB2).more HB2.size
  · exact HB2

set_option maxRecDepth 100000 in
set_option maxHeartbeats 2000000 in
theorem write_size (v : Value) (f : List ByteArray) (s : Int) (b : ByteArray) (cut : Int) (w : World) (hf : RStrs w w.heap.size v f) (hx : Fl.has f s = true) (hs : ¬ b.size = 256) (_hbm : b.size ≤ maxLen) :
    Calls Try.prog 48 #[.agg #[v], .int .i64 s, .string b, .int .i64 cut] w fun e w' => ∃ v', e = .returned (.tuple #[.agg #[v'], .int .i64 (Fl.writeE f s b)]) ∧ RStrs w' w'.heap.size v' (Fl.write f s b cut) ∧ Below w.heap.size w w' ∧ Apart w v v' := by
  obtain ⟨A, c, rfl, hn, hc⟩ := hf.form
  unfold maxLen at hc
  have H := Lib.hid hx
  have H1 := Lib.hid (show Fl.write f s b cut = f by simp [Fl.write, Fl.writeOK, hs])
  have H2 := Lib.hid (show Fl.writeE f s b = 1 by simp [Fl.writeE, hx, hs])
  have e1 : ((b.size : Int) != 256) = true := by simp; omega
  clear hx
  have hB : ∀ o1 o2 o3 o4, Below w.heap.size w ((((w.alloc o1).alloc o2).alloc o3).alloc o4) := fun o1 o2 o3 o4 => ((((Below.refl _ _).alloc (Nat.le_refl _) _).alloc (by simp) _).alloc (by simp; omega) _).alloc (by simp; omega) _
  go_enter Try.func48, Try.ntmps48
  go_wp2_with (go_at_call 58; with_reducible refine (has_any _ f _ _ ((hf.below (hB _ _ _ _)).more (hB _ _ _ _).size)).mono ?_; rintro e w1 ⟨rfl, hb1⟩; rw [H.out]; obtain ⟨hk1, hk2⟩ := bcell hb1)
  have HB := (hB _ _ _ _).trans (hb1.mono (hB _ _ _ _).size)
  have HB2 := HB.setCell (p := ⟨w.heap.size + 1 + 1 + 1, 0, none⟩) (by simp; omega) (.slice A f.length c)
  refine bodyPost_ret (v := .tuple #[.agg #[.slice A f.length c], .int .i64 1]) (by simp [results, Try.results48, go_sem, hk1]) rfl ⟨_, ret_write H2.out.symm, ?_, ?_, .inl rfl⟩
  · rw [H1.out]; exact (hf.below HB2).more HB2.size
  · exact HB2

end Go.Proofs.Ytncgechmloekbaa.Fm
