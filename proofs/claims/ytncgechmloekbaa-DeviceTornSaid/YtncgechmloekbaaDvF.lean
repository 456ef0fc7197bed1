/- Device: the closures that run an access. -/
import Derived.Test.YtncgechmloekbaaDvE
import Derived.Deep.DeepCutAuto
import Derived.Deep.RegionHeld3
namespace Go.Proofs.Ytncgechmloekbaa
open Go.RowKit

theorem Fm_heap_third (w : World) (o1 o2 o3 : Obj) : (((w.alloc o1).alloc o2).alloc o3).heap[w.heap.size + 1 + 1]? = some o3 := by
  have h := heap_alloc_new ((w.alloc o1).alloc o2) o3
  rwa [World.size_alloc, World.size_alloc] at h

set_option maxRecDepth 100000 in
set_option maxHeartbeats 2000000 in
theorem run2_any (k b c : Int) (s : ByteArray) (cut noise : Bool) (nb : Int) (p : Nat) (v : Value) (f : List (List Nat)) (w : World) (hf : RRows w w.heap.size v f) (c0 : w.cell? ⟨p, 0, none⟩ = some v) :
    Calls Try.prog 39 #[.pointer (some ⟨p, 0, none⟩), .agg #[.int .i64 k, .int .i64 b, .int .i64 c, .string s], .agg #[.bool cut, .int .i64 nb, .bool noise]] w fun e w' =>
      e = .returned (.tuple #[.agg #[.int .i64 (Fz.readV f b c noise), .string ⟨#[]⟩], .int .i64 (Fz.readE f b c)]) ∧ Below w.heap.size w w' := by
  obtain ⟨A, cc, rfl, -, -⟩ := hf.form_
  have hp := World.block_lt_of_cell? w _ c0
  simp only at hp
  have hp1 : p < w.heap.size + 1 := by omega
  have hp2 : p < w.heap.size + 1 + 1 := by omega
  go_enter Try.func39, Try.ntmps39
  go_wp2_with fail
  obtain ⟨W3, hW3⟩ : ∃ W3, W3 = ((w.alloc (.cells #[.int .i64 k, .int .i64 b, .int .i64 c, .string s] 33)).alloc (.cells #[.bool cut, .int .i64 nb, .bool noise] 35)).alloc (.cells #[.int .i64 0, .string ⟨#[]⟩] 40) := ⟨_, rfl⟩
  have hB : Below w.heap.size w W3 := by rw [hW3]; exact (((Below.refl _ _).alloc (Nat.le_refl _) _).alloc (by simp) _).alloc (by simp; omega) _
  have q0 : W3.cell? ⟨p, 0, none⟩ = some (.slice A f.length cc) := (hB.cell (p := ⟨p, 0, none⟩) hp).trans c0
  have q1 : W3.cell? ⟨w.heap.size, 1, none⟩ = some (.int .i64 b) := by rw [hW3]; simp [go_sem, World.cell?_alloc_some]
  have q2 : W3.cell? ⟨w.heap.size, 2, none⟩ = some (.int .i64 c) := by rw [hW3]; simp [go_sem, World.cell?_alloc_some]
  have q3 : W3.cell? ⟨w.heap.size, 3, none⟩ = some (.string s) := by rw [hW3]; simp [go_sem, World.cell?_alloc_some]
  have q4 : W3.cell? ⟨w.heap.size + 1, 0, none⟩ = some (.bool cut) := by rw [hW3]; simp [go_sem, World.cell?_alloc_some]
  have q5 : W3.cell? ⟨w.heap.size + 1, 2, none⟩ = some (.bool noise) := by rw [hW3]; simp [go_sem, World.cell?_alloc_some]
  have hR : W3.heap[w.heap.size + 1 + 1]? = some (.cells #[.int .i64 0, .string ⟨#[]⟩] 40 (0, 0)) := by rw [hW3]; exact Fm_heap_third _ _ _ _
  have hz3 : w.heap.size + 3 = W3.heap.size := by rw [hW3]; simp
  rw [← hW3]
  clear hW3
  have hP : p < W3.heap.size := by omega
  have hP0 : w.heap.size < W3.heap.size := by omega
  have hP1 : w.heap.size + 1 < W3.heap.size := by omega
  have hP2 : w.heap.size + 1 + 1 < W3.heap.size := by omega
  have HRr := Lib.hid hR
  clear hR
  go_region_held3 (fun W' => W'.cell? ⟨p, 0, none⟩ = some (.slice A f.length cc) ∧ W'.cell? ⟨w.heap.size, 1, none⟩ = some (.int .i64 b) ∧ W'.cell? ⟨w.heap.size, 2, none⟩ = some (.int .i64 c) ∧ W'.cell? ⟨w.heap.size + 1, 2, none⟩ = some (.bool noise)) (first | exact ⟨q0, q1, q2, q5⟩ | go_keep) ((go_at_call 40; (with_reducible refine (read_any _ f _ _ _ _ ((hf.below hB.drew).more hB.drew.size)).mono ?_); rintro e w6 ⟨rfl, hb6⟩; have q0 := (hb6.cell (p := ⟨p, 0, none⟩) hP).trans q0; have q1 := (hb6.cell (p := ⟨w.heap.size, 1, none⟩) hP0).trans q1; have q2 := (hb6.cell (p := ⟨w.heap.size, 2, none⟩) hP0).trans q2; have q5 := (hb6.cell (p := ⟨w.heap.size + 1, 2, none⟩) hP1).trans q5; have HB := hB.drew.trans (hb6.mono hB.size); have HR6 := Lib.hid ((hb6.block (w.heap.size + 1 + 1) hP2).trans HRr.out); have hz6 := hb6.size))
  have r0 := HR6.out
  have c6 : w6.cell? ⟨w.heap.size + 1 + 1, 0, none⟩ = some (.int .i64 0) := by simp [World.cell?, r0]
  have c7 : w6.cell? ⟨w.heap.size + 1 + 1, 1, none⟩ = some (.string ⟨#[]⟩) := by simp [World.cell?, r0]
  have d6 : w6.frozen? ⟨w.heap.size + 1 + 1, 0, none⟩ = false := by simp [World.frozen?, r0]
  have d7 : w6.frozen? ⟨w.heap.size + 1 + 1, 1, none⟩ = false := by simp [World.frozen?, r0]
  clear r0
  go_wp2
  refine bodyPost_ret (v := .tuple #[.agg #[.int .i64 (Fz.readV f b c noise), .string ⟨#[]⟩], .int .i64 (Fz.readE f b c)]) (by simp [results, Try.results39, go_sem, c6, c7]) rfl ⟨rfl, ?_⟩
  exact (HB.setCell (p := ⟨w.heap.size + 1 + 1, 0, none⟩) (by simp; omega) _).setCell (p := ⟨w.heap.size + 1 + 1, 1, none⟩) (by simp; omega) _

set_option maxRecDepth 100000 in
set_option maxHeartbeats 2000000 in
theorem run5_any (k b c : Int) (s : ByteArray) (cut noise : Bool) (nb : Int) (p : Nat) (u : Value) (m : List ByteArray) (w : World) (hm : Fm.RStrs w w.heap.size u m) (c0 : w.cell? ⟨p, 1, none⟩ = some u) :
    Calls Try.prog 44 #[.pointer (some ⟨p, 0, none⟩), .agg #[.int .i64 k, .int .i64 b, .int .i64 c, .string s], .agg #[.bool cut, .int .i64 nb, .bool noise]] w fun e w' =>
      e = .returned (.tuple #[.agg #[.int .i64 0, .string (Fm.Fl.readV m c)], .int .i64 (Fm.Fl.readE m c)]) ∧ Below w.heap.size w w' := by
  obtain ⟨A, cc, rfl, -, -⟩ := hm.form
  have hp := World.block_lt_of_cell? w _ c0
  simp only at hp
  have hp1 : p < w.heap.size + 1 := by omega
  have hp2 : p < w.heap.size + 1 + 1 := by omega
  go_enter Try.func44, Try.ntmps44
  go_wp2_with fail
  obtain ⟨W3, hW3⟩ : ∃ W3, W3 = ((w.alloc (.cells #[.int .i64 k, .int .i64 b, .int .i64 c, .string s] 33)).alloc (.cells #[.bool cut, .int .i64 nb, .bool noise] 35)).alloc (.cells #[.int .i64 0, .string ⟨#[]⟩] 40) := ⟨_, rfl⟩
  have hB : Below w.heap.size w W3 := by rw [hW3]; exact (((Below.refl _ _).alloc (Nat.le_refl _) _).alloc (by simp) _).alloc (by simp; omega) _
  have q0 : W3.cell? ⟨p, 1, none⟩ = some (.slice A m.length cc) := (hB.cell (p := ⟨p, 1, none⟩) hp).trans c0
  have q1 : W3.cell? ⟨w.heap.size, 1, none⟩ = some (.int .i64 b) := by rw [hW3]; simp [go_sem, World.cell?_alloc_some]
  have q2 : W3.cell? ⟨w.heap.size, 2, none⟩ = some (.int .i64 c) := by rw [hW3]; simp [go_sem, World.cell?_alloc_some]
  have q3 : W3.cell? ⟨w.heap.size, 3, none⟩ = some (.string s) := by rw [hW3]; simp [go_sem, World.cell?_alloc_some]
  have q4 : W3.cell? ⟨w.heap.size + 1, 0, none⟩ = some (.bool cut) := by rw [hW3]; simp [go_sem, World.cell?_alloc_some]
  have q5 : W3.cell? ⟨w.heap.size + 1, 2, none⟩ = some (.bool noise) := by rw [hW3]; simp [go_sem, World.cell?_alloc_some]
  have hR : W3.heap[w.heap.size + 1 + 1]? = some (.cells #[.int .i64 0, .string ⟨#[]⟩] 40 (0, 0)) := by rw [hW3]; exact Fm_heap_third _ _ _ _
  have hz3 : w.heap.size + 3 = W3.heap.size := by rw [hW3]; simp
  rw [← hW3]
  clear hW3
  have hP : p < W3.heap.size := by omega
  have hP0 : w.heap.size < W3.heap.size := by omega
  have hP1 : w.heap.size + 1 < W3.heap.size := by omega
  have hP2 : w.heap.size + 1 + 1 < W3.heap.size := by omega
  have HRr := Lib.hid hR
  clear hR
  go_region_held3 (fun W' => W'.cell? ⟨p, 1, none⟩ = some (.slice A m.length cc) ∧ W'.cell? ⟨w.heap.size, 2, none⟩ = some (.int .i64 c)) (first | exact ⟨q0, q2⟩ | go_keep) ((go_at_call 45; (with_reducible refine (Fm.read_any _ m _ _ ((hm.below hB.drew).more hB.drew.size)).mono ?_); rintro e w6 ⟨rfl, hb6⟩; have q0 := (hb6.cell (p := ⟨p, 1, none⟩) hP).trans q0; have q1 := (hb6.cell (p := ⟨w.heap.size, 1, none⟩) hP0).trans q1; have q2 := (hb6.cell (p := ⟨w.heap.size, 2, none⟩) hP0).trans q2; have q5 := (hb6.cell (p := ⟨w.heap.size + 1, 2, none⟩) hP1).trans q5; have HB := hB.drew.trans (hb6.mono hB.size); have HR6 := Lib.hid ((hb6.block (w.heap.size + 1 + 1) hP2).trans HRr.out); have hz6 := hb6.size))
  have r0 := HR6.out
  have c6 : w6.cell? ⟨w.heap.size + 1 + 1, 0, none⟩ = some (.int .i64 0) := by simp [World.cell?, r0]
  have c7 : w6.cell? ⟨w.heap.size + 1 + 1, 1, none⟩ = some (.string ⟨#[]⟩) := by simp [World.cell?, r0]
  have d6 : w6.frozen? ⟨w.heap.size + 1 + 1, 0, none⟩ = false := by simp [World.frozen?, r0]
  have d7 : w6.frozen? ⟨w.heap.size + 1 + 1, 1, none⟩ = false := by simp [World.frozen?, r0]
  clear r0
  go_wp2
  refine bodyPost_ret (v := .tuple #[.agg #[.int .i64 0, .string (Fm.Fl.readV m c)], .int .i64 (Fm.Fl.readE m c)]) (by simp [results, Try.results44, go_sem, c6, c7]) rfl ⟨rfl, ?_⟩
  exact (HB.setCell (p := ⟨w.heap.size + 1 + 1, 0, none⟩) (by simp; omega) _).setCell (p := ⟨w.heap.size + 1 + 1, 1, none⟩) (by simp; omega) _

end Go.Proofs.Ytncgechmloekbaa
