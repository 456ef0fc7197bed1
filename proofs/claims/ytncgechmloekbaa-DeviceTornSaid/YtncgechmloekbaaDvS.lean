/- Device: a slice of strings with whatever bar on its block; the writes and the new memories in that form. -/
import Derived.Test.YtncgechmloekbaaDvB
import Derived.Test.YtncgechmloekbaaFlLaw
namespace Go.Proofs.Ytncgechmloekbaa
open Go.RowKit

def StrsK (w : World) (ok : Nat → Prop) (v : Value) (f : List ByteArray) : Prop :=
  ∃ A c, v = .slice A f.length c ∧ f.length ≤ c ∧ c ≤ maxLen ∧ (∀ s ∈ f, s.size ≤ maxLen) ∧ CellsK w ok A f.length (fun i => .string (Fm.nthS f i))
section
variable {w w' : World} {ok ok' : Nat → Prop} {v v' : Value} {f g : List ByteArray} {B : Nat}
theorem StrsK.keep (h : StrsK w ok v f) (hk : ∀ b, ok b → w'.heap[b]? = w.heap[b]?) (hi : ∀ b, ok b → ok' b) : StrsK w' ok' v f := by
  obtain ⟨A, c, h1, h2, h3, h4, h5⟩ := h
  exact ⟨A, c, h1, h2, h3, h4, h5.keep hk hi⟩
theorem StrsK.plain (h : StrsK w ok v f) : Fm.RStrs w w.heap.size v f := by
  obtain ⟨A, c, h1, h2, h3, h4, h5⟩ := h
  exact ⟨A, c, h1, h2, h3, h4, h5.plain⟩
theorem strsK_barred (h : Fm.RStrs w B v f) : StrsK w (· < B) v f := h
theorem CellsK.bnd {A : Option Addr} {n : Nat} {fn : Nat → Value} (h : CellsK w ok A n fn) : CellsK w (fun b => ok b ∧ b < w.heap.size) A n fn := by
  intro hn
  obtain ⟨b, o, hA, hb, hc⟩ := h hn
  exact ⟨b, o, hA, ⟨hb, World.block_lt_of_cell? w _ (hc 0 hn)⟩, hc⟩
theorem RBytesK.bnd {xs : List Nat} (h : RBytesK w ok v xs) : RBytesK w (fun b => ok b ∧ b < w.heap.size) v xs := by
  obtain ⟨A, c, h1, h2, h3, h4, h5⟩ := h
  exact ⟨A, c, h1, h2, h3, h4, h5.bnd⟩
theorem RRowsK.bnd {f : List (List Nat)} (h : RRowsK w ok v f) : RRowsK w (fun b => ok b ∧ b < w.heap.size) v f := by
  obtain ⟨A, c, vs, h1, h2, h3, h4, h5⟩ := h
  exact ⟨A, c, vs, h1, h2, h3, h4.bnd, fun i hi => (h5 i hi).bnd⟩
theorem StrsK.bnd (h : StrsK w ok v f) : StrsK w (fun b => ok b ∧ b < w.heap.size) v f := by
  obtain ⟨A, c, h1, h2, h3, h4, h5⟩ := h
  exact ⟨A, c, h1, h2, h3, h4, h5.bnd⟩
theorem RRowsK.below {f : List (List Nat)} (h : RRowsK w ok v f) (hb : Below w.heap.size w w') : RRowsK w' ok v f := h.bnd.keep (fun b hb' => hb.block b hb'.2) (fun _ h => h.1)
theorem StrsK.below (h : StrsK w ok v f) (hb : Below w.heap.size w w') : StrsK w' ok v f := h.bnd.keep (fun b hb' => hb.block b hb'.2) (fun _ h => h.1)
theorem RRowsK.form_ {f : List (List Nat)} (h : RRowsK w ok v f) : ∃ A c, v = .slice A f.length c := by
  obtain ⟨A, c, _, h1, _⟩ := h
  exact ⟨A, c, h1⟩
theorem StrsK.form_ (h : StrsK w ok v f) : ∃ A c, v = .slice A f.length c := by
  obtain ⟨A, c, h1, _⟩ := h
  exact ⟨A, c, h1⟩
theorem strsK_apart (h0 : StrsK w ok v f) (hs : Fm.RStrs w' w'.heap.size v' g) (hl : g.length = f.length) (ha : Fm.Apart w v v') : StrsK w' (fun b => ok b ∨ w.heap.size ≤ b) v' g := by
  obtain ⟨A, c, rfl, h2, h3, h4, h5⟩ := hs
  refine ⟨A, c, rfl, h2, h3, h4, fun hpos => ?_⟩
  obtain ⟨b, o, rfl, hb, hc⟩ := h5 hpos
  refine ⟨b, o, rfl, ?_, hc⟩
  rcases ha with e | ⟨g', n, c', e, hg⟩
  · obtain ⟨A0, c0, e0, _, _, _, k5⟩ := h0
    rw [e0] at e
    injection e with e1 e2 e3
    obtain ⟨b0, o0, e4, hb0, _⟩ := k5 (by omega)
    rw [e4] at e1
    injection e1 with e5
    injection e5 with e6
    exact .inl (e6 ▸ hb0)
  · injection e with e1
    injection e1 with e5
    injection e5 with e6
    exact .inr (by omega)
theorem strsK_new (hs : Fm.RStrs w' w'.heap.size v' g) (ha : Fm.NewApart w v') : StrsK w' (fun b => w.heap.size ≤ b) v' g := by
  obtain ⟨A, c, rfl, h2, h3, h4, h5⟩ := hs
  refine ⟨A, c, rfl, h2, h3, h4, fun hpos => ?_⟩
  obtain ⟨b, o, rfl, hb, hc⟩ := h5 hpos
  refine ⟨b, o, rfl, ?_, hc⟩
  rcases ha with e | ⟨g', n, c', e, hg⟩
  · injection e with e1; cases e1
  · injection e with e1
    injection e1 with e5
    injection e5 with e6
    show w.heap.size ≤ b
    omega
end

theorem fnewK_any (n : Int) (w : World) :
    Calls Try.prog 28 #[.int .i64 n] w fun e w' => ∃ v', e = .returned (.tuple #[.agg #[v'], .int .i64 (Fm.Fl.newE n)]) ∧ StrsK w' (fun b => w.heap.size ≤ b) v' (Fm.Fl.newF n) ∧ Below w.heap.size w w' :=
  (Fm.newA_any n w).mono fun _ _ ⟨v', h1, h2, h3, h4⟩ => ⟨v', h1, strsK_new h2 h4, h3⟩
theorem frnewK_any (n : Int) (w : World) :
    Calls Try.prog 30 #[.int .i64 n] w fun e w' => ∃ v', e = .returned (.tuple #[.agg #[v'], .int .i64 (Fm.Fl.newE n)]) ∧ StrsK w' (fun b => w.heap.size ≤ b) v' (Fm.Fl.newF n) ∧ Below w.heap.size w w' :=
  (Fm.rnewA_any n w).mono fun _ _ ⟨v', h1, h2, h3, h4⟩ => ⟨v', h1, strsK_new h2 h4, h3⟩
theorem fwriteK_any (v : Value) (f : List ByteArray) (s : Int) (b : ByteArray) (cut : Int) (w : World) (ok : Nat → Prop) (hK : StrsK w ok v f) (hlen : f.length ≤ 1000) (hbm : b.size ≤ maxLen) :
    Calls Try.prog 48 #[.agg #[v], .int .i64 s, .string b, .int .i64 cut] w fun e w' => ∃ v', e = .returned (.tuple #[.agg #[v'], .int .i64 (Fm.Fl.writeE f s b)]) ∧ StrsK w' (fun x => ok x ∨ w.heap.size ≤ x) v' (Fm.Fl.write f s b cut) ∧ Below w.heap.size w w' :=
  (Fm.write_any v f s b cut w hK.plain hlen hbm).mono fun _ _ ⟨v', h1, h2, h3, h4⟩ => ⟨v', h1, strsK_apart hK h2 (Fm.Fl.write_length _ _ _ _) h4, h3⟩
theorem frwriteK_any (v : Value) (f : List ByteArray) (s : Int) (b : ByteArray) (cut : Int) (w : World) (ok : Nat → Prop) (hK : StrsK w ok v f) (hlen : f.length ≤ 1000) (hbm : b.size ≤ maxLen) :
    Calls Try.prog 26 #[.agg #[v], .int .i64 s, .string b, .int .i64 cut] w fun e w' => ∃ v', e = .returned (.tuple #[.agg #[v'], .int .i64 (Fm.Fl.writeE f s b)]) ∧ StrsK w' (fun x => ok x ∨ w.heap.size ≤ x) v' (Fm.Fl.write f s b cut) ∧ Below w.heap.size w w' :=
  (Fm.rwrite_any v f s b cut w hK.plain hlen hbm).mono fun _ _ ⟨v', h1, h2, h3, h4⟩ => ⟨v', h1, strsK_apart hK h2 (Fm.Fl.write_length _ _ _ _) h4, h3⟩

end Go.Proofs.Ytncgechmloekbaa
