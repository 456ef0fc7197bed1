/- Chapter 29: the parser's memory: its two fields, the row of nodes, the operands' rows; what a call of a method leaves alone. No program's walk. -/
import Derived.Test.YtdolpmmnjndfkaaGreatDoorPoTok
import Derived.Test.YtdolpmmnjndfkaaGreatDoorPoPl
namespace Go.Proofs.YtdolpmmnjndfkaaGreatDoor
open Go.RowKit

def ndVals (x : Po.Nd) (v : Value) : List Value := [.int .i64 x.k, .int .i64 x.n, .int .i64 x.m, .int .i64 x.side] ++ x.dg.map (fun b => Value.int .u8 (b : Nat)) ++ [v]
def ndFlat : List Po.Nd → List Value → List Value
  | x :: o, v :: vs => ndVals x v ++ ndFlat o vs
  | _, _ => []
theorem ndVals_len {x : Po.Nd} {v : Value} (h : x.dg.length = 16) : (ndVals x v).length = 21 := by simp [ndVals, h]
theorem ndFlat_snoc : ∀ (o : List Po.Nd) (vs : List Value) (x : Po.Nd) (v : Value), vs.length = o.length → ndFlat (o ++ [x]) (vs ++ [v]) = ndFlat o vs ++ ndVals x v
  | [], [], x, v, _ => by simp [ndFlat]
  | y :: o, u :: vs, x, v, h => by
    simp only [List.cons_append, ndFlat]
    rw [ndFlat_snoc o vs x v (by simpa using h), List.append_assoc]
  | [], _ :: _, _, _, h => by simp at h
  | _ :: _, [], _, _, h => by simp at h
/-- blocks below the world's end but the parser's and the row of nodes stand as they stood -/
structure Fr (p : Nat) (own : Option Nat) (w w' : World) : Prop where
  os : w'.os = w.os
  tape : w'.tape = w.tape
  output : w'.output = w.output
  size : w.heap.size ≤ w'.heap.size
  block : ∀ k, k < w.heap.size → k ≠ p → some k ≠ own → w'.heap[k]? = w.heap[k]?
theorem Fr.refl (p : Nat) (own : Option Nat) (w : World) : Fr p own w w := ⟨rfl, rfl, rfl, Nat.le_refl _, fun _ _ _ _ => rfl⟩
theorem Fr.of_below {p : Nat} {own : Option Nat} {w w' : World} (h : Below w.heap.size w w') : Fr p own w w' := ⟨h.os, h.tape, h.output, h.size, fun k hk _ _ => h.block k hk⟩
def NewOwn (w : World) (own own' : Option Nat) : Prop := own' = own ∨ ∃ b, own' = some b ∧ w.heap.size ≤ b
theorem Fr.trans {p : Nat} {own own1 : Option Nat} {w w1 w2 : World} (h : Fr p own w w1) (h2 : Fr p own1 w1 w2) (hn : NewOwn w own own1) : Fr p own w w2 :=
  ⟨h2.os.trans h.os, h2.tape.trans h.tape, h2.output.trans h.output, Nat.le_trans h.size h2.size, fun k hk hp ho => (h2.block k (Nat.lt_of_lt_of_le hk h.size) hp (by
    rcases hn with e | ⟨b, e, hb⟩
    · rw [e]; exact ho
    · rw [e]; intro e2; simp only [Option.some.injEq] at e2; omega)).trans (h.block k hk hp ho)⟩
theorem Fr.weaken {p : Nat} {own : Option Nat} {w w' : World} (h : Fr p none w w') : Fr p own w w' := ⟨h.os, h.tape, h.output, h.size, fun k hk hp _ => h.block k hk hp (by simp)⟩
theorem NewOwn.trans {w w1 : World} {a b c : Option Nat} (h1 : NewOwn w a b) (h2 : NewOwn w1 b c) (hs : w.heap.size ≤ w1.heap.size) : NewOwn w a c := by
  rcases h2 with e | ⟨k, e, hk⟩
  · rw [e]; exact h1
  · exact .inr ⟨k, e, by omega⟩
theorem NewOwn.refl (w : World) (a : Option Nat) : NewOwn w a a := .inl rfl
theorem NewOwn.more {w w1 : World} {a b : Option Nat} (h : NewOwn w1 a b) (hs : w.heap.size ≤ w1.heap.size) : NewOwn w a b := (NewOwn.refl w a).trans h hs
theorem Fr.below {p : Nat} {own : Option Nat} {w w' : World} (h : Fr p own w w') (hp : p ≤ w.heap.size) (ho : ∀ k, own = some k → p ≤ k) : Below p w w' :=
  ⟨h.os, h.tape, h.output, h.size, fun k hk => h.block k (by omega) (by omega) (fun e => by have := ho k e.symm; omega)⟩

/-- the operands of a node -/
def OfIs (w : World) (p : Nat) (own : Option Nat) (v : Value) (xs : List Nat) : Prop :=
  (xs = [] ∧ v = .slice none 0 0) ∨ ∃ b cap, v = .slice (some ⟨b, 0, none⟩) xs.length cap ∧ p < b ∧ b < w.heap.size ∧ some b ≠ own ∧ xs.length ≤ cap ∧ cap ≤ maxLen ∧ ∀ (i : Nat) (x : Nat), xs[i]? = some x → w.cell? ⟨b, i, none⟩ = some (.int .i64 x)
theorem OfIs.frame {w w' : World} {p : Nat} {own own' : Option Nat} {v : Value} {xs : List Nat} (h : OfIs w p own v xs) (hf : Fr p own w w') (hn : NewOwn w own own') : OfIs w' p own' v xs := by
  rcases h with h | ⟨b, cap, h1, h2, h3, h4, h5, h6, h7⟩
  · exact .inl h
  · refine .inr ⟨b, cap, h1, h2, Nat.lt_of_lt_of_le h3 hf.size, ?_, h5, h6, fun i x hx => (World.cell?_of_block (hf.block b h3 (by omega) h4)).trans (h7 i x hx)⟩
    rcases hn with e | ⟨k, e, hk⟩
    · rw [e]; exact h4
    · rw [e]; intro e2; simp only [Option.some.injEq] at e2; omega
/-- the row of nodes -/
structure Nds (p : Nat) (w : World) (vo : Value) (o : List Po.Nd) (ofs : List Value) : Prop where
  row : w.ownsRow (p + 1) 67 21 vo o.length (ndFlat o ofs)
  len : ofs.length = o.length
  of : ∀ (i : Nat) (x : Po.Nd) (v : Value), o[i]? = some x → ofs[i]? = some v → OfIs w p vo.ownBlock v x.of
/-- The parser at block p: the tokens that are left, the nodes that are laid. -/
def PsAt (p : Nat) (w : World) (l : List Po.Tok) (o : List Po.Nd) (own : Option Nat) : Prop :=
  ∃ vl vo ofs, w.heap[p]? = some (.cells #[vl, vo] 94 (0, 0)) ∧ RToks w p vl l ∧ Nds p w vo o ofs ∧ vo.ownBlock = own
theorem lt_of_block {w : World} {p : Nat} {o : Obj} (h : w.heap[p]? = some o) : p < w.heap.size := by
  rcases Nat.lt_or_ge p w.heap.size with h1 | h1
  · exact h1
  · rw [Array.getElem?_eq_none h1] at h; cases h
theorem own_frame {w w' : World} {B : Nat} {e : TypeId} {size n : Nat} {v : Value} {xs : List Value} (h : w.ownsRow B e size v n xs) (hb : ∀ k, v.ownBlock = some k → w'.heap[k]? = w.heap[k]?) : w'.ownsRow B e size v n xs := by
  refine ⟨h.1, ?_⟩
  rcases h.2 with hn | ⟨g, cap, cur, h1, h2, h3, h4⟩
  · exact .inl hn
  · exact .inr ⟨g, cap, cur, h1, h2, (hb g (by rw [h1]; rfl)).trans h3, h4⟩
theorem rtoks_frame {w w' : World} {p : Nat} {v : Value} {l : List Po.Tok} (h : RToks w p v l) (hb : ∀ k, k < p → w'.heap[k]? = w.heap[k]?) : RToks w' p v l := by
  obtain ⟨A, c, h1, h2, h3, h4⟩ := h
  refine ⟨A, c, h1, h2, h3, fun hn => ?_⟩
  obtain ⟨b, o, hA, hlt, hc⟩ := h4 hn
  refine ⟨b, o, hA, hlt, fun i x hx => ?_⟩
  obtain ⟨a, a0, a1, a2, a3⟩ := hc i x hx
  have e : ∀ off, w'.cell? ⟨b, off, none⟩ = w.cell? ⟨b, off, none⟩ := fun off => World.cell?_of_block (a := ⟨b, off, none⟩) (hb b hlt)
  exact ⟨a, (e _).trans a0, (e _).trans a1, (e _).trans a2, (e _).trans a3⟩
theorem PsAt.lt {p : Nat} {w : World} {l : List Po.Tok} {o : List Po.Nd} {own : Option Nat} (h : PsAt p w l o own) : p < w.heap.size := by
  obtain ⟨vl, vo, ofs, h1, _⟩ := h
  exact lt_of_block h1
theorem PsAt.own_gt {p : Nat} {w : World} {l : List Po.Tok} {o : List Po.Nd} {own : Option Nat} (h : PsAt p w l o own) : ∀ k, own = some k → p < k ∧ k < w.heap.size := by
  obtain ⟨vl, vo, ofs, h1, h2, h3, h4⟩ := h
  intro k hk
  have := h3.row.lt k (h4.trans hk)
  omega
/-- nothing of the parser's has turned -/
theorem PsAt.keep {p : Nat} {w w' : World} {l : List Po.Tok} {o : List Po.Nd} {own : Option Nat} (h : PsAt p w l o own) (hb : Below w.heap.size w w') : PsAt p w' l o own := by
  have hg := h.own_gt
  have hp := h.lt
  obtain ⟨vl, vo, ofs, h1, h2, h3, h4⟩ := h
  refine ⟨vl, vo, ofs, (hb.block p hp).trans h1, rtoks_frame h2 (fun k hk => hb.block k (by omega)), ⟨own_frame h3.row (fun k hk => hb.block k (hg k (h4.symm.trans hk)).2), h3.len, fun i x v hx hv => (h3.of i x v hx hv).frame (.of_below hb) (.refl _ _)⟩, h4⟩
/-- other tokens are laid into the parser's first field -/
theorem PsAt.toks {p : Nat} {w w' : World} {l l' : List Po.Tok} {o : List Po.Nd} {own : Option Nat} {vl vl' vo : Value} (h : PsAt p w l o own) (hc : w.heap[p]? = some (.cells #[vl, vo] 94 (0, 0))) (hf : Fr p none w w') (hc' : w'.heap[p]? = some (.cells #[vl', vo] 94 (0, 0))) (ht : RToks w' p vl' l') : PsAt p w' l' o own := by
  have hg := h.own_gt
  have hp := h.lt
  obtain ⟨vl0, vo0, ofs, h1, h2, h3, h4⟩ := h
  rw [hc] at h1
  simp only [Option.some.injEq, Obj.cells.injEq, Array.mk.injEq, List.cons.injEq, and_true] at h1
  obtain ⟨rfl, rfl⟩ := h1
  refine ⟨vl', vo, ofs, hc', ht, ⟨own_frame h3.row (fun k hk => by have := hg k (h4.symm.trans hk); exact hf.block k this.2 (by omega) (by simp)), h3.len, fun i x v hx hv => ?_⟩, h4⟩
  exact (h3.of i x v hx hv).frame hf.weaken (.refl _ _)
end Go.Proofs.YtdolpmmnjndfkaaGreatDoor
