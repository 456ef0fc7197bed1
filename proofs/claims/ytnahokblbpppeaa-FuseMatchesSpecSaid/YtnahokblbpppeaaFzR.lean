/- Fuses: Pulse whatever the cell; hits of the laws. -/
import Derived.Test.YtnahokblbpppeaaFzQ
namespace Go.Proofs.Ytnahokblbpppeaa
open Go.RowKit

theorem pulseK_any (v : Value) (f : List (List Nat)) (bank cell : Int) (cut : Bool) (w : World) (ok : Nat → Prop) (hok : ∀ b, ok b → b < w.heap.size) (hK : RRowsK w ok v f) (hS : Fz.small f) :
    Calls Try.prog 15 #[.agg #[v], .int .i64 bank, .int .i64 cell, .bool cut] w fun e w' =>
      ∃ v', e = .returned (.tuple #[.agg #[v'], .int .i64 (Fz.readE f bank cell)]) ∧ RRowsK w' (fun b => ok b ∨ w.heap.size ≤ b) v' (Fz.pulse f bank cell cut) ∧ Below w.heap.size w w' := by
  cases hx : Fz.ex f bank cell
  · exact pulse_no v f bank cell cut w ok hok hK hx
  · exact pulse_yes v f bank cell cut w ok hok hK hS hx
theorem pulse_any (v : Value) (f : List (List Nat)) (bank cell : Int) (cut : Bool) (w : World) (hf : RRows w w.heap.size v f) (hS : Fz.small f) :
    Calls Try.prog 15 #[.agg #[v], .int .i64 bank, .int .i64 cell, .bool cut] w fun e w' =>
      ∃ v', e = .returned (.tuple #[.agg #[v'], .int .i64 (Fz.readE f bank cell)]) ∧ RRows w' w'.heap.size v' (Fz.pulse f bank cell cut) ∧ Below w.heap.size w w' :=
  (pulseK_any v f bank cell cut w (· < w.heap.size) (fun _ h => h) hf.barred hS).mono fun _ _ ⟨v', h1, h2, h3⟩ => ⟨v', h1, h2.plain, h3⟩
theorem rpulse_any (v : Value) (f : List (List Nat)) (bank cell : Int) (cut : Bool) (w : World) (hf : RRows w w.heap.size v f) (hS : Fz.small f) (h3 : Fz.ex f bank cell = true → Fz.cellOf f bank cell ≤ 3) :
    Calls Try.prog 16 #[.agg #[v], .int .i64 bank, .int .i64 cell, .bool cut] w fun e w' =>
      ∃ v', e = .returned (.tuple #[.agg #[v'], .int .i64 (Fz.readE f bank cell)]) ∧ RRows w' w'.heap.size v' (Fz.pulse f bank cell cut) ∧ Below w.heap.size w w' := by
  cases hx : Fz.ex f bank cell
  · exact rpulse_no v f bank cell cut w hf hx
  · exact rpulse_yes v f bank cell cut w hf hS hx (h3 hx)

namespace Fz
structure Hit where
  bank : Int
  cell : Int
  cut : Bool
def nthH (l : List Hit) (k : Nat) : Hit := l.getD k ⟨0, 0, false⟩
def hits (f : List (List Nat)) (l : List Hit) : List (List Nat) := l.foldl (fun f x => pulse f x.bank x.cell x.cut) f

theorem pulse_length (f : List (List Nat)) (bank cell : Int) (cut : Bool) : (pulse f bank cell cut).length = f.length := by
  unfold pulse; split <;> simp
theorem pulse_row_length (f : List (List Nat)) (bank cell : Int) (cut : Bool) (i : Nat) : (nthRow (pulse f bank cell cut) i).length = (nthRow f i).length := by
  unfold pulse
  split
  · by_cases hi : i = bank.toNat
    · subst hi
      by_cases hl : bank.toNat < f.length
      · rw [nthRow_set_eq _ hl]; simp [row]
      · rw [List.set_eq_of_length_le (by omega)]
    · rw [nthRow_set_ne _ hi]
  · rfl
theorem small_pulse {f : List (List Nat)} (h : small f) (bank cell : Int) (cut : Bool) : small (pulse f bank cell cut) :=
  ⟨by rw [pulse_length]; exact h.1, fun i hi => by rw [pulse_row_length]; rw [pulse_length] at hi; exact h.2 i hi⟩
theorem small_hits {f : List (List Nat)} (h : small f) (l : List Hit) : small (hits f l) := by
  induction l generalizing f with
  | nil => exact h
  | cons x l ih => exact ih (small_pulse h _ _ _)
theorem hits_succ {f : List (List Nat)} {l : List Hit} {k : Nat} (hk : k < l.length) : hits f (l.take (k + 1)) = pulse (hits f (l.take k)) (nthH l k).bank (nthH l k).cell (nthH l k).cut := by
  unfold hits
  rw [List.take_succ_eq_append_getElem hk, List.foldl_append]
  simp [nthH, hk]
end Fz

/-- A slice of pulses: three cells each. -/
def RHits (w : World) (B : Nat) (v : Value) (l : List Fz.Hit) : Prop :=
  ∃ A c, v = .slice A l.length c ∧ l.length ≤ c ∧ c ≤ maxLen ∧ (0 < l.length → ∃ b o, A = some ⟨b, o, none⟩ ∧ b < B ∧ ∀ i, i < l.length →
    w.cell? ⟨b, o + i * 3, none⟩ = some (.int .i64 (Fz.nthH l i).bank) ∧ w.cell? ⟨b, o + i * 3 + 1, none⟩ = some (.int .i64 (Fz.nthH l i).cell) ∧ w.cell? ⟨b, o + i * 3 + 2, none⟩ = some (.bool (Fz.nthH l i).cut))
theorem RHits.below {w w' : World} {B : Nat} {v : Value} {l : List Fz.Hit} (h : RHits w B v l) (hb : Below B w w') : RHits w' B v l := by
  obtain ⟨A, c, h1, h2, h3, h4⟩ := h
  refine ⟨A, c, h1, h2, h3, fun h0 => ?_⟩
  obtain ⟨b, o, hA, hlt, hc⟩ := h4 h0
  refine ⟨b, o, hA, hlt, fun i hi => ?_⟩
  obtain ⟨g1, g2, g3⟩ := hc i hi
  exact ⟨(hb.cell (p := ⟨b, _, none⟩) hlt).trans g1, (hb.cell (p := ⟨b, _, none⟩) hlt).trans g2, (hb.cell (p := ⟨b, _, none⟩) hlt).trans g3⟩
theorem RHits.more {w : World} {B B' : Nat} {v : Value} {l : List Fz.Hit} (h : RHits w B v l) (hB : B ≤ B') : RHits w B' v l := by
  obtain ⟨A, c, h1, h2, h3, h4⟩ := h
  refine ⟨A, c, h1, h2, h3, fun h0 => ?_⟩
  obtain ⟨b, o, hA, hlt, hc⟩ := h4 h0
  exact ⟨b, o, hA, by omega, hc⟩
theorem rows_form {w : World} {B : Nat} {v : Value} {f : List (List Nat)} (h : RRows w B v f) : ∃ A c, v = .slice A f.length c := by
  obtain ⟨A, c, _, h, _⟩ := h
  exact ⟨A, c, h⟩

theorem CellsK.bounded {w : World} {ok : Nat → Prop} {A : Option Addr} {n : Nat} {fn : Nat → Value} (h : CellsK w ok A n fn) : CellsK w (fun b => ok b ∧ b < w.heap.size) A n fn := by
  intro hn
  obtain ⟨b, o, hA, hb, hc⟩ := h hn
  exact ⟨b, o, hA, ⟨hb, World.block_lt_of_cell? w _ (hc 0 hn)⟩, hc⟩
theorem RRowsK.bounded {w : World} {ok : Nat → Prop} {v : Value} {f : List (List Nat)} (h : RRowsK w ok v f) : RRowsK w (fun b => ok b ∧ b < w.heap.size) v f := by
  obtain ⟨A, c, vs, h1, h2, h3, h4, h5⟩ := h
  refine ⟨A, c, vs, h1, h2, h3, h4.bounded, fun i hi => ?_⟩
  obtain ⟨A, c, g1, g2, g3, g4, g5⟩ := h5 i hi
  exact ⟨A, c, g1, g2, g3, g4, g5.bounded⟩

/-- The state of the loop: f's variable at block F, the result's at F + 1. -/
def HitRel (w : World) (F : Nat) (f : List (List Nat)) (wr : World) : Prop :=
  ∃ v, wr.heap[F]? = some (.cells #[v] 24 (0, 0)) ∧ wr.heap[F + 1]? = some (.cells #[.slice none 0 0] 24 (0, 0)) ∧ RRowsK wr (fun b => (b ≠ F ∧ b ≠ F + 1) ∧ b < wr.heap.size) v f ∧ Below F w wr

theorem hits_any (v u : Value) (f : List (List Nat)) (l : List Fz.Hit) (w : World) (hf : RRows w w.heap.size v f) (hS : Fz.small f) (hl : RHits w w.heap.size u l) :
    Calls Try.prog 28 #[.agg #[v], u] w fun e w' => ∃ v', e = .returned (.agg #[v']) ∧ RRows w' w'.heap.size v' (Fz.hits f l) ∧ Below w.heap.size w w' := by
  obtain ⟨A, c, rfl⟩ := rows_form hf
  obtain ⟨A2, c2, rfl, hn, hc, hcs⟩ := hl
  unfold maxLen at hc
  go_enter Try.func28, Try.ntmps28
  go_wp2
  obtain ⟨W1, hW1⟩ : ∃ W1, W1 = (w.alloc (Obj.cells #[Value.slice A f.length c] 24)).alloc (Obj.cells #[Value.slice none 0 0] 24) := ⟨_, rfl⟩
  have hB1 : Below w.heap.size w W1 := by rw [hW1]; exact ((Below.refl _ _).alloc (Nat.le_refl _) _).alloc (by simp) _
  have C1 := Lib.hid (show HitRel w w.heap.size (Fz.hits f (l.take 0)) W1 from ⟨_, by rw [hW1]; exact (Below.heap_alloc _ _ _ (by simp)).trans (heap_alloc_new w _), by rw [hW1]; simpa using heap_alloc_new (w.alloc _) _, by simpa [Fz.hits] using (hf.barred.keep (ok' := fun b => (b ≠ w.heap.size ∧ b ≠ w.heap.size + 1)) (fun b hb => hB1.block b hb) (fun b hb => ⟨by omega, by omega⟩)).bounded, hB1⟩)
  rw [← hW1]
  clear hW1 hf hB1
  go_loopw [9] (fun i wr => ∃ k : Nat, k ≤ l.length ∧ i = .int .i64 k ∧ Hid (HitRel w w.heap.size (Fz.hits f (l.take k)) wr)) (fun i _ => l.length - (intOf i).toNat)
  case atStart => exact ⟨0, Nat.zero_le _, rfl, C1.out⟩
  case round =>
    clear C1
    obtain ⟨k, hk, rfl, HR⟩ := hrel
    obtain ⟨vk, hF, hR, hrows, hbw⟩ := HR.out
    obtain ⟨A', c', rfl⟩ := rows_form hrows.plain
    have HF := Lib.hid hF
    have HRR := Lib.hid hR
    have cF := cell_of_one hF
    have cR := cell_of_one hR
    have fR := free_of_one hR
    have hz1 := lt_of_block hR
    clear hF hR
    by_cases hlt : k < l.length
    · obtain ⟨b, o, rfl, hb, hg⟩ := hcs (by omega)
      obtain ⟨g1, g2, g3⟩ := hg k hlt
      have x1 := (hbw.cell (p := ⟨b, _, none⟩) hb).trans g1
      have x2 := (hbw.cell (p := ⟨b, _, none⟩) hb).trans g2
      have x3 := (hbw.cell (p := ⟨b, _, none⟩) hb).trans g3
      have HS := Lib.hid (Fz.hits_succ (f := f) hlt)
      have HSm := Lib.hid (Fz.small_hits hS (l.take k))
      have hbr : b < wr.heap.size := by omega
      have hFr : w.heap.size < wr.heap.size := by omega
      clear g1 g2 g3 hg
      go_wp2_with fail
      refine (pulseK_any _ (Fz.hits f (l.take k)) _ _ _ _ (fun b => (b ≠ w.heap.size ∧ b ≠ w.heap.size + 1) ∧ b < wr.heap.size) (fun b hb => by have := hb.2; simp; omega) (hrows.keep (fun b hb => Below.heap_alloc _ _ _ hb.2) (fun _ h => h)) HSm.out).mono ?_
      rintro e w2 ⟨v', rfl, hrows2, hb2⟩
      obtain ⟨A3, c3, rfl⟩ := rows_form hrows2.plain
      have hb3 : Below wr.heap.size wr w2 := (Below.new _).trans (hb2.mono (by simp))
      have HF2 := Lib.hid ((hb3.block w.heap.size hFr).trans HF.out)
      have cF2 := cell_of_one HF2.out
      have fF2 := free_of_one HF2.out
      have HN := Lib.hid (show HitRel w w.heap.size (Fz.hits f (l.take (k + 1))) (w2.setCell ⟨w.heap.size, 0, none⟩ (.slice A3 (Fz.pulse (Fz.hits f (l.take k)) (Fz.nthH l k).bank (Fz.nthH l k).cell (Fz.nthH l k).cut).length c3)) by
        refine ⟨_, one_setCell HF2.out, (Below.heap_setCell _ _ _ _ (by simp)).trans ((hb3.block _ (by omega)).trans HRR.out), ?_, (hbw.trans (hb3.mono (by omega))).setCell (by simp) _⟩
        rw [HS.out]
        refine (hrows2.keep (ok' := fun b => b ≠ w.heap.size ∧ b ≠ w.heap.size + 1) (fun b hb => Below.heap_setCell _ _ _ _ ?_) (fun b hb => ?_)).bounded
        · rcases hb with hb | hb
          · exact hb.1.1
          · simp at hb ⊢; omega
        · rcases hb with hb | hb
          · exact hb.1
          · simp at hb; omega)
      go_wp2
      go_roundw
      case rel => exact ⟨k + 1, by omega, by go_num, HN.out⟩
      case measure => simp [intOf]; omega
    · obtain rfl : k = l.length := by omega
      have hrl : w.heap.size + 1 < wr.heap.size := hz1
      go_wp2
      refine bodyPost_ret (v := .agg #[.slice A' (Fz.hits f (l.take l.length)).length c']) (by simp [results, Try.results28, go_sem, *]) rfl ⟨_, rfl, ?_, ?_⟩
      · have hR := (hrows.keep (w' := wr.setCell ⟨w.heap.size + 1, 0, none⟩ (.slice A' (Fz.hits f (l.take l.length)).length c')) (ok' := fun _ => True) (fun b hb => Below.heap_setCell _ _ _ _ hb.1.2) (fun _ _ => trivial)).plain
        simpa using hR
      · exact hbw.setCell (by simp) _

end Go.Proofs.Ytnahokblbpppeaa
