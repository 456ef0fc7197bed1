/- Device: the closures that write. -/
import Derived.Test.YtncgechmloekbaaDvF
namespace Go.Proofs.Ytncgechmloekbaa
open Go.RowKit

/-- all that lay in W3 lies there still -/
structure Und (W3 W : World) : Prop where
  keeps : Below W3.heap.size W3 W
section
variable {W3 W W' : World} {b o : Nat} {v : Value} {ok : Nat → Prop}
theorem Und.below (h : Und W3 W) (hb : Below W.heap.size W W') : Und W3 W' := ⟨h.keeps.trans (hb.mono h.keeps.size)⟩
theorem Und.here (h : Und W3 W) (_hb : Below W.heap.size W W') : Und W3 W := h
theorem Und.alloc (h : Und W3 W) (ob : Obj) : Und W3 (W.alloc ob) := h.below (Below.new _)
theorem Und.drew (h : Und W3 W) : Und W3 W.drew := h.below (Below.refl _ _).drew
theorem Und.setCell (h : Und W3 W) {X : Nat} (hX : W3.heap.size ≤ X) (u : Value) : Und W3 (W.setCell ⟨X, 0, none⟩ u) := ⟨h.keeps.setCell hX u⟩
theorem Und.cell (h : Und W3 W) (c : W3.cell? ⟨b, o, none⟩ = some v) (hb : b < W3.heap.size) : W.cell? ⟨b, o, none⟩ = some v := (h.keeps.cell (p := ⟨b, o, none⟩) hb).trans c
theorem Und.rows {f : List (List Nat)} (h : Und W3 W) (hk : RRowsK W3 ok v f) : RRowsK W ok v f := hk.below h.keeps
theorem Und.strs {f : List ByteArray} (h : Und W3 W) (hk : StrsK W3 ok v f) : StrsK W ok v f := hk.below h.keeps
theorem Und.okk (h : Und W3 W) (hok : ∀ b, ok b → b < W3.heap.size) : ∀ b, ok b → b < W.heap.size := fun b hb => Nat.lt_of_lt_of_le (hok b hb) h.keeps.size
end

theorem grown_of_below {w w' : World} {p : Nat} (h : Below w.heap.size w w') : w.grownBy w' (some p) := ⟨h.os, h.tape, h.output, h.size, fun k hk _ => h.block k hk⟩
theorem grown_setCell {w w' : World} {p : Nat} (h : w.grownBy w' (some p)) {a : Addr} (ha : a.block = p ∨ w.heap.size ≤ a.block) (u : Value) : w.grownBy (w'.setCell a u) (some p) :=
  ⟨h.os, h.tape, h.output, by simpa using h.size, fun k hk hne => (heap_setCell_other w' a k u (by rcases ha with ha | ha; (intro e; exact hne (by rw [e, ha])); omega)).trans (h.block k hk hne)⟩
theorem set_same {cs : Array Value} {k : Nat} {v : Value} (h : cs[k]? = some v) : cs.setIfInBounds k v = cs := by
  apply Array.ext_getElem?
  intro i
  rw [Array.getElem?_setIfInBounds]
  split
  · rename_i e; subst e
    have := (Array.getElem?_eq_some_iff.1 h).1
    rw [if_pos this, h]
  · rfl
theorem poke_yes {w w4 : World} {p R k : Nat} {cs : Array Value} {T : TypeId} (HB : Below w.heap.size w w4) (hb4 : w4.heap[p]? = some (.cells cs T (0, 0))) (hR : w.heap.size ≤ R) (hne : p ≠ R) (v' x y : Value) :
    (((w4.setCell ⟨p, k, none⟩ v').setCell ⟨R, 0, none⟩ x).setCell ⟨R, 1, none⟩ y).heap[p]? = some (.cells (cs.setIfInBounds k v') T (0, 0)) ∧ w.grownBy (((w4.setCell ⟨p, k, none⟩ v').setCell ⟨R, 0, none⟩ x).setCell ⟨R, 1, none⟩ y) (some p) :=
  ⟨(heap_setCell_other _ ⟨R, 1, none⟩ p y hne).trans ((heap_setCell_other _ ⟨R, 0, none⟩ p x hne).trans (heap_setCell_same w4 p k cs T v' hb4)),
   grown_setCell (grown_setCell (grown_setCell (grown_of_below HB) (.inl rfl) _) (.inr hR) _) (.inr hR) _⟩
theorem poke_no {w w4 : World} {p R k : Nat} {cs : Array Value} {T : TypeId} {v : Value} (HB : Below w.heap.size w w4) (hb4 : w4.heap[p]? = some (.cells cs T (0, 0))) (hv : cs[k]? = some v) (hR : w.heap.size ≤ R) (hne : p ≠ R) (x y : Value) :
    ((w4.setCell ⟨R, 0, none⟩ x).setCell ⟨R, 1, none⟩ y).heap[p]? = some (.cells (cs.setIfInBounds k v) T (0, 0)) ∧ w.grownBy ((w4.setCell ⟨R, 0, none⟩ x).setCell ⟨R, 1, none⟩ y) (some p) := by
  rw [set_same hv]
  exact ⟨(heap_setCell_other _ ⟨R, 1, none⟩ p y hne).trans ((heap_setCell_other _ ⟨R, 0, none⟩ p x hne).trans hb4), grown_setCell (grown_setCell (grown_of_below HB) (.inr hR) _) (.inr hR) _⟩
theorem cell_cells {w : World} {p k : Nat} {cs : Array Value} {T : TypeId} {v : Value} (hb : w.heap[p]? = some (.cells cs T (0, 0))) (h : w.cell? ⟨p, k, none⟩ = some v) : cs[k]? = some v := by
  simpa [World.cell?, hb] using h

/-- Behind the drawn region: the new variable of fuses. -/
def PulsedAt (W3 : World) (ok : Nat → Prop) (g : List (List Nat)) (a : Value) (W : World) : Prop :=
  ∃ p8 v', a = .pointer (some ⟨p8, 0, none⟩) ∧ W.heap[p8]? = some (.cells #[v'] 24 (0, 0)) ∧ RRowsK W (fun x => (ok x ∨ W3.heap.size ≤ x) ∧ x ≠ p8) v' g ∧ W3.heap.size ≤ p8 ∧ Below W3.heap.size W3 W
theorem pulsed_new {W3 W0 W : World} {ok : Nat → Prop} {g : List (List Nat)} {v' : Value} (h : Und W3 W) (h0 : Und W3 W0) (hk : RRowsK W (fun b => ok b ∨ W0.heap.size ≤ b) v' g) :
    PulsedAt W3 ok g (.pointer (some ⟨W.heap.size, 0, none⟩)) (W.alloc (.cells #[v'] 24)) := by
  have hz := h0.keeps.size
  refine ⟨_, _, rfl, heap_alloc_new _ _, ?_, h.keeps.size, (h.alloc _).keeps⟩
  exact hk.bnd.keep (fun b hb => Below.heap_alloc _ _ _ hb.2) (fun b hb => ⟨hb.1.imp id (fun h => Nat.le_trans hz h), by have := hb.2; omega⟩)
theorem pulsed_old {W3 W0 W : World} {ok : Nat → Prop} {g : List (List Nat)} {v' : Value} {o : Obj} (hok : ∀ b, ok b → b < W3.heap.size) (h : Und W3 W) (hk : RRowsK W (fun b => ok b ∨ (W0.alloc o).heap.size ≤ b) v' g) (hz : W3.heap.size = W0.heap.size) {u : Value}
    (hb : W.heap[W0.heap.size]? = some (.cells #[u] 24 (0, 0))) :
    PulsedAt W3 ok g (.pointer (some ⟨W0.heap.size, 0, none⟩)) (W.setCell ⟨W0.heap.size, 0, none⟩ v') := by
  refine ⟨_, _, rfl, one_setCell hb, ?_, by omega, (h.setCell (by omega) _).keeps⟩
  have hne : ∀ b, (ok b ∨ (W0.alloc o).heap.size ≤ b) → b ≠ W0.heap.size := by
    intro b hb
    rcases hb with hb | hb
    · have := hok b hb; omega
    · simp at hb; omega
  exact hk.keep (fun b hb => heap_setCell_other _ ⟨W0.heap.size, 0, none⟩ b _ (hne b hb)) (fun b hb => ⟨hb.imp id (fun h => by simp at h; omega), hne b hb⟩)

set_option maxRecDepth 100000 in
set_option maxHeartbeats 4000000 in
theorem run3_any (k b c : Int) (s : ByteArray) (cut noise : Bool) (nb : Int) (p : Nat) (v : Value) (f : List (List Nat)) (w : World) (ok : Nat → Prop) (hok : ∀ x, ok x → x < w.heap.size ∧ x ≠ p) (hK : RRowsK w ok v f) (hS : Fz.small f) (cs : Array Value) (T : TypeId) (hpb : w.heap[p]? = some (.cells cs T (0, 0))) (c0 : w.cell? ⟨p, 0, none⟩ = some v) :
    Calls Try.prog 41 #[.pointer (some ⟨p, 0, none⟩), .agg #[.int .i64 k, .int .i64 b, .int .i64 c, .string s], .agg #[.bool cut, .int .i64 nb, .bool noise]] w fun e w' => ∃ v', e = .returned (.tuple #[.agg #[.int .i64 0, .string ⟨#[]⟩], .int .i64 (Fz.readE f b c)]) ∧ RRowsK w' (fun x => ok x ∨ w.heap.size ≤ x) v' (Fz.pulse f b c cut) ∧
      w'.heap[p]? = some (.cells (cs.setIfInBounds 0 v') T (0, 0)) ∧ w.grownBy w' (some p) := by
  obtain ⟨A, cc, rfl⟩ := hK.form_
  have hp := World.block_lt_of_cell? w _ c0
  simp only at hp
  have hp1 : p < w.heap.size + 1 := by omega
  have hp2 : p < w.heap.size + 1 + 1 := by omega
  have HPB := Lib.hid hpb
  clear hpb
  have HK := Lib.hid hK
  have HOK := Lib.hid hok
  clear hK hok
  go_enter Try.func41, Try.ntmps41
  go_wp2_with fail
  obtain ⟨W3, hW3⟩ : ∃ W3, W3 = ((w.alloc (.cells #[.int .i64 k, .int .i64 b, .int .i64 c, .string s] 33)).alloc (.cells #[.bool cut, .int .i64 nb, .bool noise] 35)).alloc (.cells #[.int .i64 0, .string ⟨#[]⟩] 40) := ⟨_, rfl⟩
  have hB : Below w.heap.size w W3 := by rw [hW3]; exact (((Below.refl _ _).alloc (Nat.le_refl _) _).alloc (by simp) _).alloc (by simp; omega) _
  have q0 : W3.cell? ⟨p, 0, none⟩ = some (.slice A f.length cc) := (hB.cell (p := ⟨p, 0, none⟩) hp).trans c0
  have q1 : W3.cell? ⟨w.heap.size, 1, none⟩ = some (.int .i64 b) := by rw [hW3]; simp [go_sem, World.cell?_alloc_some]
  have q2 : W3.cell? ⟨w.heap.size, 2, none⟩ = some (.int .i64 c) := by rw [hW3]; simp [go_sem, World.cell?_alloc_some]
  have q3 : W3.cell? ⟨w.heap.size, 3, none⟩ = some (.string s) := by rw [hW3]; simp [go_sem, World.cell?_alloc_some]
  have q4 : W3.cell? ⟨w.heap.size + 1, 0, none⟩ = some (.bool cut) := by rw [hW3]; simp [go_sem, World.cell?_alloc_some]
  have q5 : W3.cell? ⟨w.heap.size + 1, 2, none⟩ = some (.bool noise) := by rw [hW3]; simp [go_sem, World.cell?_alloc_some]
  have hR : W3.heap[w.heap.size + 1 + 1]? = some (.cells #[.int .i64 0, .string ⟨#[]⟩] 40 (0, 0)) := by rw [hW3]; exact Fm_heap_third _ _ _ _
  have hz3 : w.heap.size + 3 = W3.heap.size := by rw [hW3]; simp
  rw [← hW3]
  clear hW3
  have hP : p < W3.heap.size := by omega
  have hP0 : w.heap.size < W3.heap.size := by omega
  have hP1 : w.heap.size + 1 < W3.heap.size := by omega
  have hP2 : w.heap.size + 1 + 1 < W3.heap.size := by omega
  have HRr := Lib.hid hR
  clear hR
  have HK3 := Lib.hid (HK.out.keep (fun x hx => hB.block x (HOK.out x hx).1) (fun _ h => h))
  have HOK3 : Hid (∀ x, ok x → x < W3.heap.size) := Lib.hid (fun x hx => Nat.lt_of_lt_of_le (HOK.out x hx).1 hB.size)
  have hU0 : Und W3 W3 := ⟨Below.refl _ _⟩
  go_cut [8, 9] (fun x y wc => PulsedAt W3 ok (Fz.pulse f b c cut) x wc ∧ y = .int .i64 (Fz.readE f b c))
  case first =>
    go_region_held3 (fun W' => W'.cell? ⟨p, 0, none⟩ = some (.slice A f.length cc) ∧ W'.cell? ⟨w.heap.size, 1, none⟩ = some (.int .i64 b) ∧ W'.cell? ⟨w.heap.size, 2, none⟩ = some (.int .i64 c) ∧ W'.cell? ⟨w.heap.size + 1, 0, none⟩ = some (.bool cut) ∧ Und W3 W') (first | assumption | exact ⟨Und.cell hU0.drew q0 hP, Und.cell hU0.drew q1 hP0, Und.cell hU0.drew q2 hP0, Und.cell hU0.drew q4 hP1, hU0.drew⟩ | exact ⟨Und.cell hU q0 hP, Und.cell hU q1 hP0, Und.cell hU q2 hP0, Und.cell hU q4 hP1, hU⟩ | (go_split_ands; exact ⟨Und.cell (Und.alloc (by assumption) _) q0 hP, Und.cell (Und.alloc (by assumption) _) q1 hP0, Und.cell (Und.alloc (by assumption) _) q2 hP0, Und.cell (Und.alloc (by assumption) _) q4 hP1, (Und.alloc (by assumption) _)⟩) | (go_split_ands; exact ⟨Und.cell (Und.setCell (by assumption) (Nat.le_refl _) _) q0 hP, Und.cell (Und.setCell (by assumption) (Nat.le_refl _) _) q1 hP0, Und.cell (Und.setCell (by assumption) (Nat.le_refl _) _) q2 hP0, Und.cell (Und.setCell (by assumption) (Nat.le_refl _) _) q4 hP1, (Und.setCell (by assumption) (Nat.le_refl _) _)⟩) | (go_split_ands; exact ⟨Und.cell (Und.setCell (by assumption) hB6 _) q0 hP, Und.cell (Und.setCell (by assumption) hB6 _) q1 hP0, Und.cell (Und.setCell (by assumption) hB6 _) q2 hP0, Und.cell (Und.setCell (by assumption) hB6 _) q4 hP1, (Und.setCell (by assumption) hB6 _)⟩)) ((go_at_call 42; go_split_ands; (with_reducible refine (pulseK_any _ f _ _ _ _ ok (Und.okk (by assumption) HOK3.out) (Und.rows (by assumption) HK3.out) hS).mono ?_); rintro e w7 ⟨v', rfl, hk7, hb7⟩; obtain ⟨A7, c7, rfl⟩ := hk7.form_; obtain ⟨hk3, hk4⟩ := bcell hb7; (try simp only [World.size_alloc, World.size_drew] at hk3 hk4); have hz7 := hb7.size; have hU2 := Und.here (by assumption) hb7; have hU := Und.below (by assumption) hb7))
    all_goals
      go_wp2_with fail
      go_meet
      first
        | exact ⟨pulsed_new hU hU2 hk7, rfl⟩
        | exact ⟨pulsed_old HOK3.out hU hk7 rfl ((hb7.block _ (by simp)).trans (heap_alloc_new _ _)), rfl⟩
  case rest =>
    obtain ⟨⟨p8, v8, rfl, h8, hk8, hp8, hbc⟩, rfl⟩ := hcut
    rename World => w4
    obtain ⟨A8, c8, rfl⟩ := hk8.form_
    have HBw : Below w.heap.size w w4 := hB.trans (hbc.mono hB.size)
    have b4 : w4.heap[p]? = some (.cells cs T (0, 0)) := (hbc.block p hP).trans ((hB.block p hp).trans HPB.out)
    have r4 := (hbc.block (w.heap.size + 1 + 1) hP2).trans HRr.out
    have x0 := (hbc.cell (p := ⟨p, 0, none⟩) hP).trans q0
    have y0 : w4.frozen? ⟨p, 0, none⟩ = false := by simp [World.frozen?, b4]
    have c6 : w4.cell? ⟨w.heap.size + 1 + 1, 0, none⟩ = some (.int .i64 0) := by simp [World.cell?, r4]
    have c7 : w4.cell? ⟨w.heap.size + 1 + 1, 1, none⟩ = some (.string ⟨#[]⟩) := by simp [World.cell?, r4]
    have d6 : w4.frozen? ⟨w.heap.size + 1 + 1, 0, none⟩ = false := by simp [World.frozen?, r4]
    have d7 : w4.frozen? ⟨w.heap.size + 1 + 1, 1, none⟩ = false := by simp [World.frozen?, r4]
    have c8' := cell_of_one h8
    have n1 : p ≠ w.heap.size + 1 + 1 := by omega
    have n2 : w.heap.size + 1 + 1 ≠ p := by omega
    have HB4 := Lib.hid b4
    have HK8 := Lib.hid hk8
    clear b4 r4 hk8 h8 HRr q0 q1 q2 q3 q4 q5 hbc hU0 HK3 HOK3
    have HV := Lib.hid (cell_cells HPB.out c0)
    cases hx : Fz.ex f b c
    · have HE := Lib.hid (show Fz.readE f b c = 1 by simp [Fz.readE, hx])
      have HPu := Lib.hid (Fz.pulse_no cut hx)
      rw [HE.out]
      clear hx
      go_wp2
      have HD := poke_no HBw HB4.out HV.out (R := w.heap.size + 1 + 1) (by omega) n1 (.int .i64 0) (.string ⟨#[]⟩)
      refine bodyPost_ret (v := .tuple #[.agg #[.int .i64 0, .string ⟨#[]⟩], .int .i64 1]) (by simp [results, Try.results41, go_sem, c6, c7]) rfl ⟨_, by rw [HE.out], ?_, HD.1, HD.2⟩
      rw [HPu.out]
      exact HK.out.keep (fun x hx => HD.2.block x (HOK.out x hx).1 (by have := (HOK.out x hx).2; simpa using this)) (fun x hx => .inl hx)
    · have HE := Lib.hid (show Fz.readE f b c = 0 by simp [Fz.readE, hx])
      rw [HE.out]
      clear hx
      go_wp2
      have HD := poke_yes HBw HB4.out (R := w.heap.size + 1 + 1) (k := 0) (by omega) n1 (.slice A8 (Fz.pulse f b c cut).length c8) (.int .i64 0) (.string ⟨#[]⟩)
      refine bodyPost_ret (v := .tuple #[.agg #[.int .i64 0, .string ⟨#[]⟩], .int .i64 0]) (by simp [results, Try.results41, go_sem, c6, c7, n1, n2]) rfl ⟨_, by rw [HE.out], ?_, HD.1, HD.2⟩
      refine HK8.out.keep (fun x hx => ?_) (fun x hx => hx.1.imp id (fun h => Nat.le_trans hB.size h))
      have hxp : x ≠ p := by
        rcases hx.1 with h | h
        · exact (HOK.out x h).2
        · omega
      have hxR : x ≠ w.heap.size + 1 + 1 := by
        rcases hx.1 with h | h
        · have := (HOK.out x h).1; omega
        · omega
      exact (heap_setCell_other _ ⟨w.heap.size + 1 + 1, 1, none⟩ x _ hxR).trans ((heap_setCell_other _ ⟨w.heap.size + 1 + 1, 0, none⟩ x _ hxR).trans (heap_setCell_other _ ⟨p, 0, none⟩ x _ hxp))

end Go.Proofs.Ytncgechmloekbaa
