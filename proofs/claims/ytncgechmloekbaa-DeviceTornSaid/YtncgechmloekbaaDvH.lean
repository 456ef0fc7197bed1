/- Device: the closure that writes a sector. -/
import Derived.Test.YtncgechmloekbaaDvG
namespace Go.Proofs.Ytncgechmloekbaa
open Go.RowKit

/-- Behind the drawn region: the new variable of flash. -/
def WroteAt (W3 : World) (ok : Nat → Prop) (g : List ByteArray) (a : Value) (W : World) : Prop :=
  ∃ p8 v', a = .pointer (some ⟨p8, 0, none⟩) ∧ W.heap[p8]? = some (.cells #[v'] 27 (0, 0)) ∧ StrsK W (fun x => (ok x ∨ W3.heap.size ≤ x) ∧ x ≠ p8) v' g ∧ W3.heap.size ≤ p8 ∧ Below W3.heap.size W3 W
theorem wroteK_new {W3 W0 W : World} {ok : Nat → Prop} {g : List ByteArray} {v' : Value} (h : Und W3 W) (h0 : Und W3 W0) (hk : StrsK W (fun b => ok b ∨ W0.heap.size ≤ b) v' g) :
    WroteAt W3 ok g (.pointer (some ⟨W.heap.size, 0, none⟩)) (W.alloc (.cells #[v'] 27)) := by
  have hz := h0.keeps.size
  refine ⟨_, _, rfl, heap_alloc_new _ _, ?_, h.keeps.size, (h.alloc _).keeps⟩
  exact hk.bnd.keep (fun b hb => Below.heap_alloc _ _ _ hb.2) (fun b hb => ⟨hb.1.imp id (fun h => Nat.le_trans hz h), by have := hb.2; omega⟩)
theorem wroteK_old {W3 W0 W : World} {ok : Nat → Prop} {g : List ByteArray} {v' : Value} {o : Obj} (hok : ∀ b, ok b → b < W3.heap.size) (h : Und W3 W) (hk : StrsK W (fun b => ok b ∨ (W0.alloc o).heap.size ≤ b) v' g) (hz : W3.heap.size = W0.heap.size) {u : Value}
    (hb : W.heap[W0.heap.size]? = some (.cells #[u] 27 (0, 0))) :
    WroteAt W3 ok g (.pointer (some ⟨W0.heap.size, 0, none⟩)) (W.setCell ⟨W0.heap.size, 0, none⟩ v') := by
  refine ⟨_, _, rfl, one_setCell hb, ?_, by omega, (h.setCell (by omega) _).keeps⟩
  have hne : ∀ b, (ok b ∨ (W0.alloc o).heap.size ≤ b) → b ≠ W0.heap.size := by
    intro b hb
    rcases hb with hb | hb
    · have := hok b hb; omega
    · simp at hb; omega
  exact hk.keep (fun b hb => heap_setCell_other _ ⟨W0.heap.size, 0, none⟩ b _ (hne b hb)) (fun b hb => ⟨hb.imp id (fun h => by simp at h; omega), hne b hb⟩)

theorem write_bad {m : List ByteArray} {c cut : Int} {s : ByteArray} (h : ¬ Fm.Fl.writeE m c s = 0) : Fm.Fl.write m c s cut = m := by
  have : Fm.Fl.writeOK m c s = false := by
    cases hw : Fm.Fl.writeOK m c s
    · rfl
    · simp only [Fm.Fl.writeOK, Bool.and_eq_true, decide_eq_true_eq] at hw
      exact absurd (by simp [Fm.Fl.writeE, hw.1, hw.2]) h
  simp [Fm.Fl.write, this]
/-- how many bytes a cut write leaves -/
def cutOf (cut : Bool) (nb : Int) : Int := if cut then min (max nb 0) 256 else -1

set_option maxRecDepth 100000 in
set_option maxHeartbeats 4000000 in
theorem run7_any (k b c : Int) (s : ByteArray) (cut noise : Bool) (nb : Int) (p : Nat) (v : Value) (m : List ByteArray) (w : World) (ok : Nat → Prop) (hok : ∀ x, ok x → x < w.heap.size ∧ x ≠ p) (hK : StrsK w ok v m) (hlen : m.length ≤ 1000) (hbm : s.size ≤ maxLen) (cs : Array Value) (T : TypeId) (hpb : w.heap[p]? = some (.cells cs T (0, 0))) (c0 : w.cell? ⟨p, 1, none⟩ = some v) :
    Calls Try.prog 47 #[.pointer (some ⟨p, 0, none⟩), .agg #[.int .i64 k, .int .i64 b, .int .i64 c, .string s], .agg #[.bool cut, .int .i64 nb, .bool noise]] w fun e w' => ∃ v', e = .returned (.tuple #[.agg #[.int .i64 0, .string ⟨#[]⟩], .int .i64 (Fm.Fl.writeE m c s)]) ∧ StrsK w' (fun x => ok x ∨ w.heap.size ≤ x) v' (Fm.Fl.write m c s (cutOf cut nb)) ∧
      w'.heap[p]? = some (.cells (cs.setIfInBounds 1 v') T (0, 0)) ∧ w.grownBy w' (some p) := by
  obtain ⟨A, cc, rfl⟩ := hK.form_
  have hp := World.block_lt_of_cell? w _ c0
  simp only at hp
  have hp1 : p < w.heap.size + 1 := by omega
  have hp2 : p < w.heap.size + 1 + 1 := by omega
  have HPB := Lib.hid hpb
  clear hpb
  have HK := Lib.hid hK
  have HOK := Lib.hid hok
  clear hK hok
  cases cut
  · go_enter Try.func47, Try.ntmps47
    go_wp2_with fail
    obtain ⟨W3, hW3⟩ : ∃ W3, W3 = ((w.alloc (.cells #[.int .i64 k, .int .i64 b, .int .i64 c, .string s] 33)).alloc (.cells #[.bool false, .int .i64 nb, .bool noise] 35)).alloc (.cells #[.int .i64 0, .string ⟨#[]⟩] 40) := ⟨_, rfl⟩
    have hB : Below w.heap.size w W3 := by rw [hW3]; exact (((Below.refl _ _).alloc (Nat.le_refl _) _).alloc (by simp) _).alloc (by simp; omega) _
    have q0 : W3.cell? ⟨p, 1, none⟩ = some (.slice A m.length cc) := (hB.cell (p := ⟨p, 1, none⟩) hp).trans c0
    have q1 : W3.cell? ⟨w.heap.size, 1, none⟩ = some (.int .i64 b) := by rw [hW3]; simp [go_sem, World.cell?_alloc_some]
    have q2 : W3.cell? ⟨w.heap.size, 2, none⟩ = some (.int .i64 c) := by rw [hW3]; simp [go_sem, World.cell?_alloc_some]
    have q3 : W3.cell? ⟨w.heap.size, 3, none⟩ = some (.string s) := by rw [hW3]; simp [go_sem, World.cell?_alloc_some]
    have q4 : W3.cell? ⟨w.heap.size + 1, 0, none⟩ = some (.bool false) := by rw [hW3]; simp [go_sem, World.cell?_alloc_some]
    have q5 : W3.cell? ⟨w.heap.size + 1, 2, none⟩ = some (.bool noise) := by rw [hW3]; simp [go_sem, World.cell?_alloc_some]
    have hR : W3.heap[w.heap.size + 1 + 1]? = some (.cells #[.int .i64 0, .string ⟨#[]⟩] 40 (0, 0)) := by rw [hW3]; exact Fm_heap_third _ _ _ _
    have hz3 : w.heap.size + 3 = W3.heap.size := by rw [hW3]; simp
    rw [← hW3]
    clear hW3
    have hP : p < W3.heap.size := by omega
    have hP0 : w.heap.size < W3.heap.size := by omega
    have hP1 : w.heap.size + 1 < W3.heap.size := by omega
    have hP2 : w.heap.size + 1 + 1 < W3.heap.size := by omega
    have HRr := Lib.hid hR
    clear hR
    have HK3 := Lib.hid (HK.out.keep (fun x hx => hB.block x (HOK.out x hx).1) (fun _ h => h))
    have HOK3 : Hid (∀ x, ok x → x < W3.heap.size) := Lib.hid (fun x hx => Nat.lt_of_lt_of_le (HOK.out x hx).1 hB.size)
    have hU0 : Und W3 W3 := ⟨Below.refl _ _⟩
    go_cut [9, 10] (fun x y wc => WroteAt W3 ok (Fm.Fl.write m c s (-1)) x wc ∧ y = .int .i64 (Fm.Fl.writeE m c s))
    case first =>
      go_region_held3 (fun W' => W'.cell? ⟨p, 1, none⟩ = some (.slice A m.length cc) ∧ W'.cell? ⟨w.heap.size, 2, none⟩ = some (.int .i64 c) ∧ W'.cell? ⟨w.heap.size, 3, none⟩ = some (.string s) ∧ Und W3 W') (first | assumption | exact ⟨Und.cell hU0.drew q0 hP, Und.cell hU0.drew q2 hP0, Und.cell hU0.drew q3 hP0, hU0.drew⟩ | exact ⟨Und.cell hU q0 hP, Und.cell hU q2 hP0, Und.cell hU q3 hP0, hU⟩ | (go_split_ands; exact ⟨Und.cell (Und.alloc (by assumption) _) q0 hP, Und.cell (Und.alloc (by assumption) _) q2 hP0, Und.cell (Und.alloc (by assumption) _) q3 hP0, (Und.alloc (by assumption) _)⟩) | (go_split_ands; exact ⟨Und.cell (Und.setCell (by assumption) (Nat.le_refl _) _) q0 hP, Und.cell (Und.setCell (by assumption) (Nat.le_refl _) _) q2 hP0, Und.cell (Und.setCell (by assumption) (Nat.le_refl _) _) q3 hP0, (Und.setCell (by assumption) (Nat.le_refl _) _)⟩) | (go_split_ands; exact ⟨Und.cell (Und.setCell (by assumption) hB6 _) q0 hP, Und.cell (Und.setCell (by assumption) hB6 _) q2 hP0, Und.cell (Und.setCell (by assumption) hB6 _) q3 hP0, (Und.setCell (by assumption) hB6 _)⟩)) ((go_at_call 48; go_split_ands; (with_reducible refine (fwriteK_any _ m _ _ (-1) _ ok (Und.strs (by assumption) HK3.out) hlen hbm).mono ?_); rintro e w7 ⟨v', rfl, hk7, hb7⟩; obtain ⟨A7, c7, rfl⟩ := hk7.form_; obtain ⟨hk3, hk4⟩ := bcell hb7; (try simp only [World.size_alloc, World.size_drew] at hk3 hk4); have hz7 := hb7.size; have hU2 := Und.here (by assumption) hb7; have hU := Und.below (by assumption) hb7))
      all_goals
        go_wp2_with fail
        go_meet
        first
          | exact ⟨wroteK_new hU hU2 hk7, rfl⟩
          | exact ⟨wroteK_old HOK3.out hU hk7 rfl ((hb7.block _ (by simp)).trans (heap_alloc_new _ _)), rfl⟩
    case rest =>
      obtain ⟨⟨p8, v8, rfl, h8, hk8, hp8, hbc⟩, rfl⟩ := hcut
      rename World => w4
      obtain ⟨A8, c8, rfl⟩ := hk8.form_
      have HBw : Below w.heap.size w w4 := hB.trans (hbc.mono hB.size)
      have b4 : w4.heap[p]? = some (.cells cs T (0, 0)) := (hbc.block p hP).trans ((hB.block p hp).trans HPB.out)
      have r4 := (hbc.block (w.heap.size + 1 + 1) hP2).trans HRr.out
      have x0 := (hbc.cell (p := ⟨p, 1, none⟩) hP).trans q0
      have y0 : w4.frozen? ⟨p, 1, none⟩ = false := by simp [World.frozen?, b4]
      have c6 : w4.cell? ⟨w.heap.size + 1 + 1, 0, none⟩ = some (.int .i64 0) := by simp [World.cell?, r4]
      have c7 : w4.cell? ⟨w.heap.size + 1 + 1, 1, none⟩ = some (.string ⟨#[]⟩) := by simp [World.cell?, r4]
      have d6 : w4.frozen? ⟨w.heap.size + 1 + 1, 0, none⟩ = false := by simp [World.frozen?, r4]
      have d7 : w4.frozen? ⟨w.heap.size + 1 + 1, 1, none⟩ = false := by simp [World.frozen?, r4]
      have c8' := cell_of_one h8
      have n1 : p ≠ w.heap.size + 1 + 1 := by omega
      have n2 : w.heap.size + 1 + 1 ≠ p := by omega
      have HB4 := Lib.hid b4
      have HK8 := Lib.hid hk8
      have HV := Lib.hid (cell_cells HPB.out c0)
      have HCU : Hid (cutOf false nb = (-1)) := Lib.hid (by simp [cutOf])
      clear b4 r4 hk8 h8 HRr q0 q1 q2 q3 q4 q5 hbc hU0 HK3 HOK3
      by_cases hE : Fm.Fl.writeE m c s = 0
      · have eE : (Fm.Fl.writeE m c s == 0) = true := by simp [hE]
        have HE := Lib.hid hE
        clear hE
        go_wp2
        have HD := poke_yes HBw HB4.out (R := w.heap.size + 1 + 1) (k := 1) (by omega) n1 (.slice A8 (Fm.Fl.write m c s (-1)).length c8) (.int .i64 0) (.string ⟨#[]⟩)
        refine bodyPost_ret (v := .tuple #[.agg #[.int .i64 0, .string ⟨#[]⟩], .int .i64 (Fm.Fl.writeE m c s)]) (by simp [results, Try.results47, go_sem, c6, c7, n1, n2]) rfl ⟨_, rfl, ?_, HD.1, HD.2⟩
        rw [HCU.out]
        refine HK8.out.keep (fun x hx => ?_) (fun x hx => hx.1.imp id (fun h => Nat.le_trans hB.size h))
        have hxp : x ≠ p := by
          rcases hx.1 with h | h
          · exact (HOK.out x h).2
          · omega
        have hxR : x ≠ w.heap.size + 1 + 1 := by
          rcases hx.1 with h | h
          · have := (HOK.out x h).1; omega
          · omega
        exact (heap_setCell_other _ ⟨w.heap.size + 1 + 1, 1, none⟩ x _ hxR).trans ((heap_setCell_other _ ⟨w.heap.size + 1 + 1, 0, none⟩ x _ hxR).trans (heap_setCell_other _ ⟨p, 1, none⟩ x _ hxp))
      · have eE : (Fm.Fl.writeE m c s == 0) = false := by simp [hE]
        have HWn := Lib.hid (write_bad (cut := cutOf false nb) hE)
        clear hE
        go_wp2
        have HD := poke_no HBw HB4.out HV.out (R := w.heap.size + 1 + 1) (by omega) n1 (.int .i64 0) (.string ⟨#[]⟩)
        refine bodyPost_ret (v := .tuple #[.agg #[.int .i64 0, .string ⟨#[]⟩], .int .i64 (Fm.Fl.writeE m c s)]) (by simp [results, Try.results47, go_sem, c6, c7]) rfl ⟨_, rfl, ?_, HD.1, HD.2⟩
        rw [HWn.out]
        exact HK.out.keep (fun x hx => HD.2.block x (HOK.out x hx).1 (by have := (HOK.out x hx).2; simpa using this)) (fun x hx => .inl hx)
  · go_enter Try.func47, Try.ntmps47
    go_wp2_with fail
    obtain ⟨W3, hW3⟩ : ∃ W3, W3 = ((w.alloc (.cells #[.int .i64 k, .int .i64 b, .int .i64 c, .string s] 33)).alloc (.cells #[.bool true, .int .i64 nb, .bool noise] 35)).alloc (.cells #[.int .i64 0, .string ⟨#[]⟩] 40) := ⟨_, rfl⟩
    have hB : Below w.heap.size w W3 := by rw [hW3]; exact (((Below.refl _ _).alloc (Nat.le_refl _) _).alloc (by simp) _).alloc (by simp; omega) _
    have q0 : W3.cell? ⟨p, 1, none⟩ = some (.slice A m.length cc) := (hB.cell (p := ⟨p, 1, none⟩) hp).trans c0
    have q1 : W3.cell? ⟨w.heap.size, 1, none⟩ = some (.int .i64 b) := by rw [hW3]; simp [go_sem, World.cell?_alloc_some]
    have q2 : W3.cell? ⟨w.heap.size, 2, none⟩ = some (.int .i64 c) := by rw [hW3]; simp [go_sem, World.cell?_alloc_some]
    have q3 : W3.cell? ⟨w.heap.size, 3, none⟩ = some (.string s) := by rw [hW3]; simp [go_sem, World.cell?_alloc_some]
    have q4 : W3.cell? ⟨w.heap.size + 1, 0, none⟩ = some (.bool true) := by rw [hW3]; simp [go_sem, World.cell?_alloc_some]
    have q5 : W3.cell? ⟨w.heap.size + 1, 2, none⟩ = some (.bool noise) := by rw [hW3]; simp [go_sem, World.cell?_alloc_some]
    have hR : W3.heap[w.heap.size + 1 + 1]? = some (.cells #[.int .i64 0, .string ⟨#[]⟩] 40 (0, 0)) := by rw [hW3]; exact Fm_heap_third _ _ _ _
    have hz3 : w.heap.size + 3 = W3.heap.size := by rw [hW3]; simp
    rw [← hW3]
    clear hW3
    have hP : p < W3.heap.size := by omega
    have hP0 : w.heap.size < W3.heap.size := by omega
    have hP1 : w.heap.size + 1 < W3.heap.size := by omega
    have hP2 : w.heap.size + 1 + 1 < W3.heap.size := by omega
    have HRr := Lib.hid hR
    clear hR
    have HK3 := Lib.hid (HK.out.keep (fun x hx => hB.block x (HOK.out x hx).1) (fun _ h => h))
    have HOK3 : Hid (∀ x, ok x → x < W3.heap.size) := Lib.hid (fun x hx => Nat.lt_of_lt_of_le (HOK.out x hx).1 hB.size)
    have hU0 : Und W3 W3 := ⟨Below.refl _ _⟩
    go_cut [9, 10] (fun x y wc => WroteAt W3 ok (Fm.Fl.write m c s (min (max nb 0) 256)) x wc ∧ y = .int .i64 (Fm.Fl.writeE m c s))
    case first =>
      go_region_held3 (fun W' => W'.cell? ⟨p, 1, none⟩ = some (.slice A m.length cc) ∧ W'.cell? ⟨w.heap.size, 2, none⟩ = some (.int .i64 c) ∧ W'.cell? ⟨w.heap.size, 3, none⟩ = some (.string s) ∧ Und W3 W') (first | assumption | exact ⟨Und.cell hU0.drew q0 hP, Und.cell hU0.drew q2 hP0, Und.cell hU0.drew q3 hP0, hU0.drew⟩ | exact ⟨Und.cell hU q0 hP, Und.cell hU q2 hP0, Und.cell hU q3 hP0, hU⟩ | (go_split_ands; exact ⟨Und.cell (Und.alloc (by assumption) _) q0 hP, Und.cell (Und.alloc (by assumption) _) q2 hP0, Und.cell (Und.alloc (by assumption) _) q3 hP0, (Und.alloc (by assumption) _)⟩) | (go_split_ands; exact ⟨Und.cell (Und.setCell (by assumption) (Nat.le_refl _) _) q0 hP, Und.cell (Und.setCell (by assumption) (Nat.le_refl _) _) q2 hP0, Und.cell (Und.setCell (by assumption) (Nat.le_refl _) _) q3 hP0, (Und.setCell (by assumption) (Nat.le_refl _) _)⟩) | (go_split_ands; exact ⟨Und.cell (Und.setCell (by assumption) hB6 _) q0 hP, Und.cell (Und.setCell (by assumption) hB6 _) q2 hP0, Und.cell (Und.setCell (by assumption) hB6 _) q3 hP0, (Und.setCell (by assumption) hB6 _)⟩)) ((go_at_call 48; go_split_ands; (with_reducible refine (fwriteK_any _ m _ _ (min (max nb 0) 256) _ ok (Und.strs (by assumption) HK3.out) hlen hbm).mono ?_); rintro e w7 ⟨v', rfl, hk7, hb7⟩; obtain ⟨A7, c7, rfl⟩ := hk7.form_; obtain ⟨hk3, hk4⟩ := bcell hb7; (try simp only [World.size_alloc, World.size_drew] at hk3 hk4); have hz7 := hb7.size; have hU2 := Und.here (by assumption) hb7; have hU := Und.below (by assumption) hb7))
      all_goals
        go_wp2_with fail
        go_meet
        first
          | exact ⟨wroteK_new hU hU2 hk7, rfl⟩
          | exact ⟨wroteK_old HOK3.out hU hk7 rfl ((hb7.block _ (by simp)).trans (heap_alloc_new _ _)), rfl⟩
    case rest =>
      obtain ⟨⟨p8, v8, rfl, h8, hk8, hp8, hbc⟩, rfl⟩ := hcut
      rename World => w4
      obtain ⟨A8, c8, rfl⟩ := hk8.form_
      have HBw : Below w.heap.size w w4 := hB.trans (hbc.mono hB.size)
      have b4 : w4.heap[p]? = some (.cells cs T (0, 0)) := (hbc.block p hP).trans ((hB.block p hp).trans HPB.out)
      have r4 := (hbc.block (w.heap.size + 1 + 1) hP2).trans HRr.out
      have x0 := (hbc.cell (p := ⟨p, 1, none⟩) hP).trans q0
      have y0 : w4.frozen? ⟨p, 1, none⟩ = false := by simp [World.frozen?, b4]
      have c6 : w4.cell? ⟨w.heap.size + 1 + 1, 0, none⟩ = some (.int .i64 0) := by simp [World.cell?, r4]
      have c7 : w4.cell? ⟨w.heap.size + 1 + 1, 1, none⟩ = some (.string ⟨#[]⟩) := by simp [World.cell?, r4]
      have d6 : w4.frozen? ⟨w.heap.size + 1 + 1, 0, none⟩ = false := by simp [World.frozen?, r4]
      have d7 : w4.frozen? ⟨w.heap.size + 1 + 1, 1, none⟩ = false := by simp [World.frozen?, r4]
      have c8' := cell_of_one h8
      have n1 : p ≠ w.heap.size + 1 + 1 := by omega
      have n2 : w.heap.size + 1 + 1 ≠ p := by omega
      have HB4 := Lib.hid b4
      have HK8 := Lib.hid hk8
      have HV := Lib.hid (cell_cells HPB.out c0)
      have HCU : Hid (cutOf true nb = (min (max nb 0) 256)) := Lib.hid (by simp [cutOf])
      clear b4 r4 hk8 h8 HRr q0 q1 q2 q3 q4 q5 hbc hU0 HK3 HOK3
      by_cases hE : Fm.Fl.writeE m c s = 0
      · have eE : (Fm.Fl.writeE m c s == 0) = true := by simp [hE]
        have HE := Lib.hid hE
        clear hE
        go_wp2
        have HD := poke_yes HBw HB4.out (R := w.heap.size + 1 + 1) (k := 1) (by omega) n1 (.slice A8 (Fm.Fl.write m c s (min (max nb 0) 256)).length c8) (.int .i64 0) (.string ⟨#[]⟩)
        refine bodyPost_ret (v := .tuple #[.agg #[.int .i64 0, .string ⟨#[]⟩], .int .i64 (Fm.Fl.writeE m c s)]) (by simp [results, Try.results47, go_sem, c6, c7, n1, n2]) rfl ⟨_, rfl, ?_, HD.1, HD.2⟩
        rw [HCU.out]
        refine HK8.out.keep (fun x hx => ?_) (fun x hx => hx.1.imp id (fun h => Nat.le_trans hB.size h))
        have hxp : x ≠ p := by
          rcases hx.1 with h | h
          · exact (HOK.out x h).2
          · omega
        have hxR : x ≠ w.heap.size + 1 + 1 := by
          rcases hx.1 with h | h
          · have := (HOK.out x h).1; omega
          · omega
        exact (heap_setCell_other _ ⟨w.heap.size + 1 + 1, 1, none⟩ x _ hxR).trans ((heap_setCell_other _ ⟨w.heap.size + 1 + 1, 0, none⟩ x _ hxR).trans (heap_setCell_other _ ⟨p, 1, none⟩ x _ hxp))
      · have eE : (Fm.Fl.writeE m c s == 0) = false := by simp [hE]
        have HWn := Lib.hid (write_bad (cut := cutOf true nb) hE)
        clear hE
        go_wp2
        have HD := poke_no HBw HB4.out HV.out (R := w.heap.size + 1 + 1) (by omega) n1 (.int .i64 0) (.string ⟨#[]⟩)
        refine bodyPost_ret (v := .tuple #[.agg #[.int .i64 0, .string ⟨#[]⟩], .int .i64 (Fm.Fl.writeE m c s)]) (by simp [results, Try.results47, go_sem, c6, c7]) rfl ⟨_, rfl, ?_, HD.1, HD.2⟩
        rw [HWn.out]
        exact HK.out.keep (fun x hx => HD.2.block x (HOK.out x hx).1 (by have := (HOK.out x hx).2; simpa using this)) (fun x hx => .inl hx)

end Go.Proofs.Ytncgechmloekbaa
