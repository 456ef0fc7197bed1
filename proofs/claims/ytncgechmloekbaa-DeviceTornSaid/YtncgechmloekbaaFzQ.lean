/- Fuses: Pulse of the reference: the walk. -/
import Derived.Test.YtncgechmloekbaaFzP
namespace Go.Proofs.Ytncgechmloekbaa
open Go.RowKit

namespace Fz
theorem next_lo {c : Nat} {cut : Bool} {x : Nat} (h : c ≤ 1) (hx : (if cut then 1 else 2) = x) : next c cut = x := by
  unfold next
  rw [if_neg (by omega)]
  exact hx
theorem next_hi {c : Nat} (cut : Bool) (h : 1 < c) (h3 : c ≤ 3) : next c cut = c := by
  unfold next
  rw [if_pos (by omega)]
theorem set_same (f : List (List Nat)) (i j : Nat) : f.set i ((nthRow f i).set j (nth (nthRow f i) j)) = f := by
  have h1 : (nthRow f i).set j (nth (nthRow f i) j) = nthRow f i := by
    refine List.ext_getElem (by simp) fun k h1 h2 => ?_
    rw [List.getElem_set]
    split
    · rename_i h; subst h; simp [nth, h2]
    · rfl
  rw [h1]
  refine List.ext_getElem (by simp) fun k h1 h2 => ?_
  rw [List.getElem_set]
  split
  · rename_i h; subst h; simp [nthRow, h2]
  · rfl
end Fz

theorem copy_rows {wr : World} {O : Nat} {f : List (List Nat)} {u : Value} {vals : List Value} (hown : wr.ownsRow (O + 1) 56 1 u f.length vals)
    (hrows : ∀ t u, vals[t]? = some u → wr.ownsRow (O + 1) 5 1 u (nthRow f t).length (u8s (nthRow f t))) (h256 : ∀ t, t < f.length → ∀ x ∈ nthRow f t, x < 256)
    {p : Addr} (hp : p.block ≤ O) (y : Value) : RRowsK (wr.setCell p y) (fun b => O ≤ b) u f := by
  refine rowsK_of_own (ownsRow_setCell_below hown (by omega) _) rfl (fun b hb => by omega) ?_
  intro i v hv
  have hl : vals.length = f.length := by simpa using hown.1
  have hi : i < f.length := by
    rcases Nat.lt_or_ge i vals.length with h | h
    · omega
    · rw [List.getElem?_eq_none h] at hv; cases hv
  exact bytesK_of_own (ownsRow_setCell_below (hrows i v hv) (by omega) _) (h256 i hi) (fun b hb => by omega)

theorem copy_rows_set {wr : World} {O i j x gi cap : Nat} {f : List (List Nat)} {u : Value} {vals : List Value} (hown : wr.ownsRow (O + 1) 56 1 u f.length vals)
    (hrows : ∀ t u, vals[t]? = some u → wr.ownsRow (O + 1) 5 1 u (nthRow f t).length (u8s (nthRow f t)))
    (hdist : ∀ (t t' : Nat) (u u' : Value) (g : Nat), t ≠ t' → vals[t]? = some u → vals[t']? = some u' → u.ownBlock = some g → u'.ownBlock ≠ some g)
    (h256 : ∀ t, t < f.length → ∀ x ∈ nthRow f t, x < 256) (hi : i < f.length) (hx : x < 256)
    (hv : vals[i]? = some (.slice (some ⟨gi, 0, none⟩) (nthRow f i).length cap)) {p : Addr} (hp : p.block ≤ O) (y : Value) :
    RRowsK ((wr.setCell ⟨gi, j, none⟩ (.int .u8 (x : Nat))).setCell p y) (fun b => O ≤ b) u (f.set i ((nthRow f i).set j x)) := by
  have hl : vals.length = f.length := by simpa using hown.1
  have hgi := hrows i _ hv
  have hne : u.ownBlock ≠ some gi := by
    intro e
    rcases hown.2 with ⟨rfl, _⟩ | ⟨g, cap, cur, rfl, _, hh, _⟩
    · simp [Value.ownBlock] at e
    · have e' : g = gi := by simpa [Value.ownBlock] using e
      subst e'
      rcases hgi.2 with ⟨h, _⟩ | ⟨g', cap', cur', h, _, hh', _⟩
      · cases h
      · simp only [Value.slice.injEq, Option.some.injEq, Addr.mk.injEq, and_true, true_and] at h
        obtain ⟨rfl, rfl⟩ := h
        rw [hh] at hh'
        simp at hh'
  refine rowsK_of_own (ownsRow_setCell_below (ownsRow_setCell_other (a := ⟨gi, j, none⟩) hown hne _) (by omega) _) (by simp) (fun b hb => by omega) ?_
  intro k v hk
  have hkl : k < f.length := by
    rcases Nat.lt_or_ge k vals.length with h | h
    · omega
    · rw [List.getElem?_eq_none h] at hk; cases hk
  by_cases hki : k = i
  · subst hki
    rw [nthRow_set_eq _ hi]
    rw [hv] at hk
    cases hk
    have h2 := ownsRow_setCell_below (hgi.stored j (.int .u8 (x : Nat))).1 (a := p) (by omega) y
    rw [u8s_set] at h2
    refine bytesK_of_own h2 ?_ (fun b hb => by omega)
    intro z hz
    rcases List.mem_or_eq_of_mem_set hz with h | h
    · exact h256 k hi z h
    · subst h; exact hx
  · rw [nthRow_set_ne _ hki]
    have h1 := ownsRow_setCell_other (a := ⟨gi, j, none⟩) (hrows k v hk) (hdist i k _ _ gi (Ne.symm hki) hv hk rfl) (.int .u8 (x : Nat))
    exact bytesK_of_own (ownsRow_setCell_below h1 (a := p) (by omega) y) (h256 k hkl) (fun b hb => by omega)

set_option maxRecDepth 100000 in
theorem rpulse_no (v : Value) (f : List (List Nat)) (bank cell : Int) (cut : Bool) (w : World) (ok : Nat → Prop) (hok : ∀ b, ok b → b < w.heap.size) (hK : RRowsK w ok v f) (hf : RRows w w.heap.size v f) (hx : Fz.ex f bank cell = false) :
    Calls Try.prog 24 #[.agg #[v], .int .i64 bank, .int .i64 cell, .bool cut] w fun e w' =>
      ∃ v', e = .returned (.tuple #[.agg #[v'], .int .i64 (Fz.readE f bank cell)]) ∧ RRowsK w' (fun b => ok b ∨ w.heap.size ≤ b) v' (Fz.pulse f bank cell cut) ∧ Below w.heap.size w w' := by
  have hf' := hf
  obtain ⟨A, c, vs, rfl, hn, hc, -, -⟩ := hf
  unfold maxLen at hc
  have HOK := Lib.hid hok
  have HK := Lib.hid hK
  clear hok hK
  have H := Lib.hid hx
  clear hx
  have H2 := Lib.hid (show Fz.readE f bank cell = 1 by simp [Fz.readE, H.out])
  have hfA := ((hf'.below (Below.new (Obj.cells #[Value.slice A f.length c] 24))).below ((Below.new (Obj.cells #[Value.slice none 0 0] 24)).mono (by simp))).more (show w.heap.size ≤ w.heap.size + 2 by omega)
  go_enter Try.func24, Try.ntmps24
  go_wp2_with (go_at_call 49; with_reducible refine (rexists_any _ f _ _ _ (by simpa using hfA)).mono ?_; rintro e w1 ⟨rfl, hb1⟩; rw [H.out]; obtain ⟨hk1, hk2⟩ := bcell hb1)
  have HB : Below w.heap.size w w1 := (((Below.refl _ _).alloc (Nat.le_refl _) _).alloc (by simp) _).trans (hb1.mono (by simp; omega))
  have hs1 : w.heap.size ≤ w1.heap.size := HB.size
  refine bodyPost_ret (v := .tuple #[.agg #[.slice A f.length c], .int .i64 1]) (by simp [results, Try.results24, go_sem, hk1]) rfl ⟨_, ret_pulse H2.out.symm, ?_, ?_⟩
  · rw [Fz.pulse_no _ H.out]
    exact HK.out.keep (fun b hb => (HB.setCell (by simp) _).block b (HOK.out b hb)) (fun b hb => .inl hb)
  · exact HB.setCell (by simp) _

set_option maxHeartbeats 4000000 in
set_option maxRecDepth 100000 in
theorem rpulse_yes (v : Value) (f : List (List Nat)) (bank cell : Int) (cut : Bool) (w : World) (ok : Nat → Prop) (hok : ∀ b, ok b → b < w.heap.size) (hK : RRowsK w ok v f) (hf : RRows w w.heap.size v f) (hS : Fz.small f) (hx : Fz.ex f bank cell = true) (h3 : Fz.cellOf f bank cell ≤ 3) :
    Calls Try.prog 24 #[.agg #[v], .int .i64 bank, .int .i64 cell, .bool cut] w fun e w' =>
      ∃ v', e = .returned (.tuple #[.agg #[v'], .int .i64 (Fz.readE f bank cell)]) ∧ RRowsK w' (fun b => ok b ∨ w.heap.size ≤ b) v' (Fz.pulse f bank cell cut) ∧ Below w.heap.size w w' := by
  have hf' := hf
  obtain ⟨A, c, vs, rfl, hn, hc, hcs, hrows⟩ := hf
  obtain ⟨hS1, hS2⟩ := hS
  unfold maxLen at hc
  obtain ⟨i, j, b, o, b', o', c', rfl, rfl, hi, hj, rfl, hb, hb', hc1, hl, hc', hc2, hlt, hcell⟩ := hf'.at_ hx
  clear hok hK
  have HX := Lib.hid hx
  have HS2 := Lib.hid hS2
  have H2 := Lib.hid (show Fz.readE f i j = 0 by simp [Fz.readE, HX.out])
  rw [hcell] at h3
  clear hx hcell hS2 hcs hl hc' hc1 hc2 hb'
  obtain ⟨W0, hW0⟩ : ∃ W0, W0 = (w.alloc (Obj.cells #[Value.slice (some ⟨b, o, none⟩) f.length c] 24)).alloc (Obj.cells #[Value.slice none 0 0] 24) := ⟨_, rfl⟩
  have hB0 : Below w.heap.size w W0 := by rw [hW0]; exact ((Below.refl _ _).alloc (Nat.le_refl _) _).alloc (by simp) _
  have z0 : W0.heap.size = w.heap.size + 2 := by rw [hW0]; simp
  have F0 := Lib.hid (show W0.heap[w.heap.size]? = some (.cells #[Value.slice (some ⟨b, o, none⟩) f.length c] 24 (0, 0)) by rw [hW0]; exact (Below.heap_alloc _ _ _ (by simp)).trans (heap_alloc_new w _))
  have R0 := Lib.hid (show W0.heap[w.heap.size + 1]? = some (.cells #[Value.slice none 0 0] 24 (0, 0)) by rw [hW0]; simpa using heap_alloc_new (w.alloc _) _)
  have Z0 := Lib.hid z0
  clear z0
  go_enter Try.func24, Try.ntmps24
  go_wp2_with fail
  rw [← hW0]
  clear hW0
  refine (rexists_any _ f _ _ _ ((hf'.below hB0).more (hB0.size))).mono ?_
  rintro e w1 ⟨rfl, hb1⟩
  rw [HX.out]
  have hB1 : Below w.heap.size w w1 := hB0.trans (hb1.mono hB0.size)
  have z1 : w.heap.size + 2 ≤ w1.heap.size := by have := hb1.size; rw [Z0.out] at this; exact this
  have F1 := Lib.hid ((hb1.block w.heap.size (by rw [Z0.out]; omega)).trans F0.out)
  have R1 := Lib.hid ((hb1.block (w.heap.size + 1) (by rw [Z0.out]; omega)).trans R0.out)
  clear F0 R0 Z0 hb1
  go_wp2_with fail
  obtain ⟨W2, hW2⟩ : ∃ W2, W2 = w1.alloc (Obj.cells #[Value.slice none 0 0] 24) := ⟨_, rfl⟩
  have hB2 : Below w.heap.size w W2 := by rw [hW2]; exact hB1.alloc hB1.size _
  have F2 := Lib.hid (show W2.heap[w.heap.size]? = some (.cells #[Value.slice (some ⟨b, o, none⟩) f.length c] 24 (0, 0)) by rw [hW2]; exact (Below.heap_alloc _ _ _ (by omega)).trans F1.out)
  have R2 := Lib.hid (show W2.heap[w.heap.size + 1]? = some (.cells #[Value.slice none 0 0] 24 (0, 0)) by rw [hW2]; exact (Below.heap_alloc _ _ _ (by omega)).trans R1.out)
  have C2 := Lib.hid (show CopyRel W2 w1.heap.size f 0 W2 from ⟨.slice none 0 0, [], by rw [hW2]; exact heap_alloc_new _ _, World.ownsRow_nil _ _ _ _, by simp, by simp, Below.refl _ _⟩)
  rw [← hW2]
  have Z2 := Lib.hid (show W2.heap.size = w1.heap.size + 1 by rw [hW2]; simp)
  clear hW2 F1 R1
  obtain ⟨O, hO⟩ : ∃ O, O = w1.heap.size := ⟨_, rfl⟩
  rw [← hO] at C2 Z2 z1 ⊢
  clear hO hB1 hB0
  go_loopw [11] (fun i wr => ∃ k : Nat, k ≤ f.length ∧ i = .int .i64 k ∧ Hid (CopyRel W2 O f k wr)) (fun i _ => f.length - (intOf i).toNat)
  case atStart => exact ⟨0, Nat.zero_le _, rfl, C2.out⟩
  case round =>
    clear C2
    obtain ⟨k, hk, rfl, HR⟩ := hrel
    obtain ⟨u, vals, hOc, hown, hvals, hdist, hbw⟩ := HR.out
    have HO := Lib.hid hOc
    have HV := Lib.hid hvals
    have HD := Lib.hid hdist
    have cO := cell_of_one hOc
    have fO := free_of_one hOc
    have gF := cell_of_one ((hbw.block w.heap.size (by omega)).trans F2.out)
    have hz := hbw.size
    rw [Z2.out] at hz
    clear hOc hvals hdist
    by_cases hlt : k < f.length
    · obtain ⟨b1, o1, A', c', e1, -, hcell, hl, hc', hbd, hg⟩ := hf'.row k hlt
      cases e1
      have hrk : wr.cell? ⟨b, o + k, none⟩ = some (.slice A' (nthRow f k).length c') := (hbw.cell (p := ⟨b, o + k, none⟩) (by simp; omega)).trans ((hB2.cell (p := ⟨b, o + k, none⟩) hb).trans hcell)
      have HC := Lib.hid ((hg.below (hB2.trans (hbw.mono (by omega)))).more (B' := wr.heap.size) (by omega))
      have hS3 := HS2.out k hlt
      obtain ⟨i0, hi0, hz0, hz1, hz2⟩ := info_parts infoBytes
      obtain ⟨i8, hi8, hy0, hy1, hy2⟩ := info_parts infoU8
      have hneO : u.ownBlock ≠ some O := by
        intro e
        have := (hown.lt _ e).1
        omega
      have hbr : b < wr.heap.size := by omega
      have hOr : O < wr.heap.size := by omega
      have hFr : w.heap.size < wr.heap.size := by omega
      clear hg hbd hcell
      go_wp2_with fail
      have hown8 : (wr.alloc (Obj.cells #[] 5)).drew.ownsRow wr.heap.size 5 1 (.slice (some ⟨wr.heap.size, 0, none⟩) 0 0) 0 [] := World.ownsRow_made wr #[] 0 (Nat.le_refl _) (by simp [maxLen]) (by simp)
      have hownU : (wr.alloc (Obj.cells #[] 5)).drew.ownsRow (O + 1) 56 1 u k vals := hown.alloc _
      go_region_law (first
        | (refine step_append_cells _ (by rfl) (.tmp 28) (.tmp 33) _ (by rfl) wr.heap.size 5 i8 _ 1 Try.underlying56 hi8 hy0 hy1 hy2 rfl (.slice (some ⟨wr.heap.size, 0, none⟩) 0 0) 0 [] (by rfl) (by exact hown8) wr.heap.size A' (nthRow f k).length c' (fun t => .int .u8 (nth (nthRow f k) t : Nat)) (by rfl) (by exact HC.out.below (Below.new _).drew) (fun _ _ => rfl) (by unfold maxLen; omega) (by omega) (by simp) ?_; intro v1 w2 own1 grow1 at1; obtain ⟨A1, n1, c1, rfl⟩ := own_form own1; have z2 := grow1.size; have cO2 := (grow1.cell_far ⟨O, 0, none⟩ (by simp; omega) (by simp [Value.ownBlock]; omega)).trans (cell_alloc cO _); have fO2 := (grow1.frozen_far ⟨O, 0, none⟩ (by simp; omega) (by simp [Value.ownBlock]; omega)).trans (free_alloc hOr fO _); have hO2 : O < w2.heap.size := (by simp at z2; omega); have ownU2 := own_grown_other (by decide) hownU hown8 grow1)
        | (refine step_append_lies _ (by rfl) (.tmp 27) (.tmp 35) _ (by rfl) (O + 1) 56 i0 _ 1 24 Try.underlying22 hi0 hz0 hz1 hz2 rfl (by omega) u k vals (by rfl) (by exact ownU2.alloc _) ⟨w2.heap.size, 0, none⟩ 1 1 [.slice A1 n1 c1] (by rfl) (by rfl) (World.news_of_block (cs := #[.slice A1 n1 c1]) (t := 56) (fr := (0, 0)) (by exact heap_alloc_new w2 _)) (by simp [Value.oneCell']) (by omega) (by unfold maxLen; omega) (by omega) (by simp at z2 ⊢; omega) (w2.heap.size + 1) (by simp) ?_; intro gg cap w3 own3 grow3 hat3 hlt3; have cO3 := (grow3.cell_far ⟨O, 0, none⟩ (by simp at z2 ⊢; omega) (Ne.symm hneO)).trans (cell_alloc cO2 _); have fO3 := (grow3.frozen_far ⟨O, 0, none⟩ (by simp at z2 ⊢; omega) (Ne.symm hneO)).trans (free_alloc (by simp at z2 ⊢; omega) fO2 _)))
      all_goals
        have HS := Lib.hid (copyRel_step (W1 := W2) HO.out hown HV.out HD.out hbw own1 grow1 (by simpa [Value.ownBlock] using at1) own3 grow3)
        clear own1 grow1 at1 own3 grow3 hat3 cO2 fO2 cO3 fO3 ownU2 hown8 hownU z2 hO2 hlt3
        go_wp2
        go_roundw
        case rel => exact ⟨k + 1, by omega, by go_num, HS.out⟩
        case measure => simp [intOf]; omega
    · obtain rfl : k = f.length := by omega
      have h256 : ∀ t, t < f.length → ∀ x ∈ nthRow f t, x < 256 := fun t ht => by
        obtain ⟨_, _, _, _, _, h5, _⟩ := hrows t ht
        exact h5
      have H256 := Lib.hid h256
      have hlv : vals.length = f.length := by simpa using hown.1
      obtain ⟨vi, hvi⟩ : ∃ vi, vals[i]? = some vi := ⟨_, List.getElem?_eq_getElem (by omega)⟩
      have hoi := HV.out i vi hvi
      obtain ⟨gi, capi, rfl, hgi1, hgi2⟩ := hoi.form (by omega)
      have HVI := Lib.hid hvi
      obtain ⟨g, cap, rfl, hg1, hg2⟩ := hown.form (by omega)
      have d1 : wr.cell? ⟨g, i, none⟩ = some (.slice (some ⟨gi, 0, none⟩) (nthRow f i).length capi) := (hown.cellAt i (by omega)).trans HVI.out
      have d2 : wr.cell? ⟨gi, j, none⟩ = some (.int .u8 (nth (nthRow f i) j : Nat)) := (hoi.cellAt j (by omega)).trans (by simp [u8s, nth, hj])
      have d2' := hoi.frozenAt j
      have r1 := cell_of_one ((hbw.block (w.heap.size + 1) (by omega)).trans R2.out)
      have r1' := free_of_one ((hbw.block (w.heap.size + 1) (by omega)).trans R2.out)
      have hne1 : O ≠ gi := by omega
      have hne2 : w.heap.size + 1 ≠ gi := by omega
      have hBw : Below w.heap.size w wr := hB2.trans (hbw.mono (by omega))
      have hwO : w.heap.size ≤ O := by omega
      have HX1 := Lib.hid (fun y => copy_rows (p := ⟨w.heap.size + 1, 0, none⟩) hown HV.out h256 (by simp; omega) y)
      have HX2 := Lib.hid (fun x y (hx : x < 256) => copy_rows_set (x := x) (j := j) (p := ⟨w.heap.size + 1, 0, none⟩) hown HV.out HD.out h256 hi hx HVI.out (by simp; omega) y)
      clear h256 hvi hlv hlt hrows
      go_wp2
      · have hle : nth (nthRow f i) j ≤ 1 := by omega
        have hc1 : cut = true := by assumption
        refine bodyPost_ret (v := .tuple #[.agg #[.slice (some ⟨g, 0, none⟩) f.length cap], .int .i64 0]) (by simp [results, Try.results24, go_sem, *]) rfl ⟨_, ret_pulse H2.out.symm, ?_, ?_⟩
        · rw [Fz.pulse_yes HX.out (Fz.next_lo hle (by simp [hc1]) : _ = 1)]
          exact (HX2.out 1 _ (by decide)).keep (fun _ _ => rfl) (fun b hb => .inr (Nat.le_trans hwO hb))
        · exact (hBw.setCell (p := ⟨gi, j, none⟩) (by simp; omega) _).setCell (by simp) _
      · have hle : nth (nthRow f i) j ≤ 1 := by omega
        have hc1 : cut = false := by assumption
        refine bodyPost_ret (v := .tuple #[.agg #[.slice (some ⟨g, 0, none⟩) f.length cap], .int .i64 0]) (by simp [results, Try.results24, go_sem, *]) rfl ⟨_, ret_pulse H2.out.symm, ?_, ?_⟩
        · rw [Fz.pulse_yes HX.out (Fz.next_lo hle (by simp [hc1]) : _ = 2)]
          exact (HX2.out 2 _ (by decide)).keep (fun _ _ => rfl) (fun b hb => .inr (Nat.le_trans hwO hb))
        · exact (hBw.setCell (p := ⟨gi, j, none⟩) (by simp; omega) _).setCell (by simp) _
      · have hle : 1 < nth (nthRow f i) j := by omega
        refine bodyPost_ret (v := .tuple #[.agg #[.slice (some ⟨g, 0, none⟩) f.length cap], .int .i64 0]) (by simp [results, Try.results24, go_sem, *]) rfl ⟨_, ret_pulse H2.out.symm, ?_, ?_⟩
        · rw [Fz.pulse_yes HX.out (Fz.next_hi cut hle h3), Fz.set_same]
          exact (HX1.out _).keep (fun _ _ => rfl) (fun b hb => .inr (Nat.le_trans hwO hb))
        · exact hBw.setCell (by simp) _

end Go.Proofs.Ytncgechmloekbaa
