/- Fuses: Pulse whatever the cell; hits of the laws. -/
import Derived.Test.YtncgechmloekbaaFzQ
namespace Go.Proofs.Ytncgechmloekbaa
open Go.RowKit

theorem pulseK_any (v : Value) (f : List (List Nat)) (bank cell : Int) (cut : Bool) (w : World) (ok : Nat → Prop) (hok : ∀ b, ok b → b < w.heap.size) (hK : RRowsK w ok v f) (hS : Fz.small f) :
    Calls Try.prog 42 #[.agg #[v], .int .i64 bank, .int .i64 cell, .bool cut] w fun e w' =>
      ∃ v', e = .returned (.tuple #[.agg #[v'], .int .i64 (Fz.readE f bank cell)]) ∧ RRowsK w' (fun b => ok b ∨ w.heap.size ≤ b) v' (Fz.pulse f bank cell cut) ∧ Below w.heap.size w w' := by
  cases hx : Fz.ex f bank cell
  · exact pulse_no v f bank cell cut w ok hok hK hx
  · exact pulse_yes v f bank cell cut w ok hok hK hS hx
theorem pulse_any (v : Value) (f : List (List Nat)) (bank cell : Int) (cut : Bool) (w : World) (hf : RRows w w.heap.size v f) (hS : Fz.small f) :
    Calls Try.prog 42 #[.agg #[v], .int .i64 bank, .int .i64 cell, .bool cut] w fun e w' =>
      ∃ v', e = .returned (.tuple #[.agg #[v'], .int .i64 (Fz.readE f bank cell)]) ∧ RRows w' w'.heap.size v' (Fz.pulse f bank cell cut) ∧ Below w.heap.size w w' :=
  (pulseK_any v f bank cell cut w (· < w.heap.size) (fun _ h => h) hf.barred hS).mono fun _ _ ⟨v', h1, h2, h3⟩ => ⟨v', h1, h2.plain, h3⟩
theorem rpulseK_any (v : Value) (f : List (List Nat)) (bank cell : Int) (cut : Bool) (w : World) (ok : Nat → Prop) (hok : ∀ b, ok b → b < w.heap.size) (hK : RRowsK w ok v f) (hf : RRows w w.heap.size v f) (hS : Fz.small f) (h3 : Fz.ex f bank cell = true → Fz.cellOf f bank cell ≤ 3) :
    Calls Try.prog 24 #[.agg #[v], .int .i64 bank, .int .i64 cell, .bool cut] w fun e w' =>
      ∃ v', e = .returned (.tuple #[.agg #[v'], .int .i64 (Fz.readE f bank cell)]) ∧ RRowsK w' (fun b => ok b ∨ w.heap.size ≤ b) v' (Fz.pulse f bank cell cut) ∧ Below w.heap.size w w' := by
  cases hx : Fz.ex f bank cell
  · exact rpulse_no v f bank cell cut w ok hok hK hf hx
  · exact rpulse_yes v f bank cell cut w ok hok hK hf hS hx (h3 hx)
theorem rpulse_any (v : Value) (f : List (List Nat)) (bank cell : Int) (cut : Bool) (w : World) (hf : RRows w w.heap.size v f) (hS : Fz.small f) (h3 : Fz.ex f bank cell = true → Fz.cellOf f bank cell ≤ 3) :
    Calls Try.prog 24 #[.agg #[v], .int .i64 bank, .int .i64 cell, .bool cut] w fun e w' =>
      ∃ v', e = .returned (.tuple #[.agg #[v'], .int .i64 (Fz.readE f bank cell)]) ∧ RRows w' w'.heap.size v' (Fz.pulse f bank cell cut) ∧ Below w.heap.size w w' :=
  (rpulseK_any v f bank cell cut w (· < w.heap.size) (fun _ h => h) hf.barred hf hS h3).mono fun _ _ ⟨v', h1, h2, h3⟩ => ⟨v', h1, h2.plain, h3⟩

namespace Fz
structure Hit where
  bank : Int
  cell : Int
  cut : Bool
def nthH (l : List Hit) (k : Nat) : Hit := l.getD k ⟨0, 0, false⟩
def hits (f : List (List Nat)) (l : List Hit) : List (List Nat) := l.foldl (fun f x => pulse f x.bank x.cell x.cut) f

theorem pulse_length (f : List (List Nat)) (bank cell : Int) (cut : Bool) : (pulse f bank cell cut).length = f.length := by
  unfold pulse; split <;> simp
theorem pulse_row_length (f : List (List Nat)) (bank cell : Int) (cut : Bool) (i : Nat) : (nthRow (pulse f bank cell cut) i).length = (nthRow f i).length := by
  unfold pulse
  split
  · by_cases hi : i = bank.toNat
    · subst hi
      by_cases hl : bank.toNat < f.length
      · rw [nthRow_set_eq _ hl]; simp [row]
      · rw [List.set_eq_of_length_le (by omega)]
    · rw [nthRow_set_ne _ hi]
  · rfl
theorem small_pulse {f : List (List Nat)} (h : small f) (bank cell : Int) (cut : Bool) : small (pulse f bank cell cut) :=
  ⟨by rw [pulse_length]; exact h.1, fun i hi => by rw [pulse_row_length]; rw [pulse_length] at hi; exact h.2 i hi⟩
theorem small_hits {f : List (List Nat)} (h : small f) (l : List Hit) : small (hits f l) := by
  induction l generalizing f with
  | nil => exact h
  | cons x l ih => exact ih (small_pulse h _ _ _)
theorem hits_succ {f : List (List Nat)} {l : List Hit} {k : Nat} (hk : k < l.length) : hits f (l.take (k + 1)) = pulse (hits f (l.take k)) (nthH l k).bank (nthH l k).cell (nthH l k).cut := by
  unfold hits
  rw [List.take_succ_eq_append_getElem hk, List.foldl_append]
  simp [nthH, hk]
end Fz

/-- A slice of pulses: three cells each. -/
def RHits (w : World) (B : Nat) (v : Value) (l : List Fz.Hit) : Prop :=
  ∃ A c, v = .slice A l.length c ∧ l.length ≤ c ∧ c ≤ maxLen ∧ (0 < l.length → ∃ b o, A = some ⟨b, o, none⟩ ∧ b < B ∧ ∀ i, i < l.length →
    w.cell? ⟨b, o + i * 3, none⟩ = some (.int .i64 (Fz.nthH l i).bank) ∧ w.cell? ⟨b, o + i * 3 + 1, none⟩ = some (.int .i64 (Fz.nthH l i).cell) ∧ w.cell? ⟨b, o + i * 3 + 2, none⟩ = some (.bool (Fz.nthH l i).cut))
theorem RHits.below {w w' : World} {B : Nat} {v : Value} {l : List Fz.Hit} (h : RHits w B v l) (hb : Below B w w') : RHits w' B v l := by
  obtain ⟨A, c, h1, h2, h3, h4⟩ := h
  refine ⟨A, c, h1, h2, h3, fun h0 => ?_⟩
  obtain ⟨b, o, hA, hlt, hc⟩ := h4 h0
  refine ⟨b, o, hA, hlt, fun i hi => ?_⟩
  obtain ⟨g1, g2, g3⟩ := hc i hi
  exact ⟨(hb.cell (p := ⟨b, _, none⟩) hlt).trans g1, (hb.cell (p := ⟨b, _, none⟩) hlt).trans g2, (hb.cell (p := ⟨b, _, none⟩) hlt).trans g3⟩
theorem RHits.more {w : World} {B B' : Nat} {v : Value} {l : List Fz.Hit} (h : RHits w B v l) (hB : B ≤ B') : RHits w B' v l := by
  obtain ⟨A, c, h1, h2, h3, h4⟩ := h
  refine ⟨A, c, h1, h2, h3, fun h0 => ?_⟩
  obtain ⟨b, o, hA, hlt, hc⟩ := h4 h0
  exact ⟨b, o, hA, by omega, hc⟩
theorem rows_form {w : World} {B : Nat} {v : Value} {f : List (List Nat)} (h : RRows w B v f) : ∃ A c, v = .slice A f.length c := by
  obtain ⟨A, c, _, h, _⟩ := h
  exact ⟨A, c, h⟩

theorem CellsK.bounded {w : World} {ok : Nat → Prop} {A : Option Addr} {n : Nat} {fn : Nat → Value} (h : CellsK w ok A n fn) : CellsK w (fun b => ok b ∧ b < w.heap.size) A n fn := by
  intro hn
  obtain ⟨b, o, hA, hb, hc⟩ := h hn
  exact ⟨b, o, hA, ⟨hb, World.block_lt_of_cell? w _ (hc 0 hn)⟩, hc⟩
theorem RRowsK.bounded {w : World} {ok : Nat → Prop} {v : Value} {f : List (List Nat)} (h : RRowsK w ok v f) : RRowsK w (fun b => ok b ∧ b < w.heap.size) v f := by
  obtain ⟨A, c, vs, h1, h2, h3, h4, h5⟩ := h
  refine ⟨A, c, vs, h1, h2, h3, h4.bounded, fun i hi => ?_⟩
  obtain ⟨A, c, g1, g2, g3, g4, g5⟩ := h5 i hi
  exact ⟨A, c, g1, g2, g3, g4, g5.bounded⟩

/-- The state of the loop: f's variable at block F, the result's at F + 1. -/
def HitRel (w : World) (F : Nat) (f : List (List Nat)) (wr : World) : Prop :=
  ∃ v, wr.heap[F]? = some (.cells #[v] 24 (0, 0)) ∧ wr.heap[F + 1]? = some (.cells #[.slice none 0 0] 24 (0, 0)) ∧ RRowsK wr (fun b => (b ≠ F ∧ b ≠ F + 1) ∧ b < wr.heap.size) v f ∧ Below F w wr

end Go.Proofs.Ytncgechmloekbaa
