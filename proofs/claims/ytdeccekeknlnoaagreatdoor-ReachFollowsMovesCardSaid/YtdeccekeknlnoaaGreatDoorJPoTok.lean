/- Chapter 29: the cells of tokens; slices of tokens. | Chapter 29: the parser's memory: its two fields, the row of nodes, the operands' rows; what a call of a method leaves alone. No program's walk. | Chapter 29, plain: one round of the lexer. | Chapter 29, plain: the tokens of a text: few, and their numbers small. -/
import Derived.Test.YtdeccekeknlnoaaGreatDoorJPoMem
import Derived.Test.YtdeccekeknlnoaaGreatDoorJPoPl
import Derived.Maps.AppendAt
namespace Go.Proofs.YtdeccekeknlnoaaGreatDoor
open Go.RowKit
def tokCells (p : Po.Tok × Nat) : List Value := [.int .i64 p.1.k, .string ⟨p.1.t.toArray⟩, .int .i64 p.1.n, .int .i64 p.2]
def toksFlat (ks : List (Po.Tok × Nat)) : List Value := ks.flatMap tokCells
def endPos (ks : List (Po.Tok × Nat)) : Nat := match ks.getLast? with
  | none => 0
  | some p => p.2 + p.1.t.length
theorem toksFlat_len (ks : List (Po.Tok × Nat)) : (toksFlat ks).length = ks.length * 4 := by
  induction ks with
  | nil => rfl
  | cons p l ih => simp only [toksFlat, List.flatMap_cons, List.length_append, List.length_cons] at ih ⊢; rw [ih]; simp [tokCells]; omega
theorem toksFlat_snoc (ks : List (Po.Tok × Nat)) (p : Po.Tok × Nat) : toksFlat (ks ++ [p]) = toksFlat ks ++ tokCells p := by simp [toksFlat]
theorem endPos_snoc (ks : List (Po.Tok × Nat)) (p : Po.Tok × Nat) : endPos (ks ++ [p]) = p.2 + p.1.t.length := by simp [endPos]
theorem toksFlat_at : ∀ (ks : List (Po.Tok × Nat)) (i : Nat) (p : Po.Tok × Nat) (j : Nat) (v : Value), ks[i]? = some p → (tokCells p)[j]? = some v → (toksFlat ks)[i * 4 + j]? = some v
  | [], i, p, j, v, h, _ => by simp at h
  | q :: l, 0, p, j, v, h, hv => by
    simp at h
    subst h
    have hj : j < (tokCells q).length := by
      rcases Nat.lt_or_ge j (tokCells q).length with h | h
      · exact h
      · rw [List.getElem?_eq_none h] at hv; cases hv
    simp only [toksFlat, List.flatMap_cons, Nat.zero_mul, Nat.zero_add]
    rw [List.getElem?_append_left hj]; exact hv
  | q :: l, i + 1, p, j, v, h, hv => by
    have I := toksFlat_at l i p j v (by simpa using h) hv
    simp only [toksFlat, List.flatMap_cons] at I ⊢
    have : (tokCells q).length = 4 := rfl
    rw [List.getElem?_append_right (by omega), this]
    rw [show (i + 1) * 4 + j - 4 = i * 4 + j by omega]
    exact I
/-- A slice of tokens, wherever it stands: nothing is said of offsets in the text. -/
def RToks (w : World) (B : Nat) (v : Value) (l : List Po.Tok) : Prop :=
  ∃ A c, v = .slice A l.length c ∧ l.length ≤ c ∧ c ≤ maxLen ∧ (0 < l.length → ∃ b o, A = some ⟨b, o, none⟩ ∧ b < B ∧ ∀ i x, l[i]? = some x → ∃ a : Int, w.cell? ⟨b, o + i * 4, none⟩ = some (.int .i64 x.k) ∧ w.cell? ⟨b, o + i * 4 + 1, none⟩ = some (.string ⟨x.t.toArray⟩) ∧ w.cell? ⟨b, o + i * 4 + 2, none⟩ = some (.int .i64 x.n) ∧ w.cell? ⟨b, o + i * 4 + 3, none⟩ = some (.int .i64 a))
theorem RToks.below {w w' : World} {B : Nat} {v : Value} {l : List Po.Tok} (h : RToks w B v l) (hb : Below B w w') : RToks w' B v l := by
  obtain ⟨A, c, h1, h2, h3, h4⟩ := h
  refine ⟨A, c, h1, h2, h3, fun hn => ?_⟩
  obtain ⟨b, o, hA, hlt, hc⟩ := h4 hn
  refine ⟨b, o, hA, hlt, fun i x hx => ?_⟩
  obtain ⟨a, a0, a1, a2, a3⟩ := hc i x hx
  exact ⟨a, (hb.cell (p := ⟨b, _, none⟩) hlt).trans a0, (hb.cell (p := ⟨b, _, none⟩) hlt).trans a1, (hb.cell (p := ⟨b, _, none⟩) hlt).trans a2, (hb.cell (p := ⟨b, _, none⟩) hlt).trans a3⟩
theorem RToks.more {w : World} {B B' : Nat} {v : Value} {l : List Po.Tok} (h : RToks w B v l) (hB : B ≤ B') : RToks w B' v l := by
  obtain ⟨A, c, h1, h2, h3, h4⟩ := h
  refine ⟨A, c, h1, h2, h3, fun hn => ?_⟩
  obtain ⟨b, o, hA, hlt, hc⟩ := h4 hn
  exact ⟨b, o, hA, by omega, hc⟩
/-- the cells of a row that was built by append -/
theorem own_cells {w : World} {B : Nat} {e : TypeId} {size n : Nat} {v : Value} {xs : List Value} (h : w.ownsRow B e size v n xs) (hn : 0 < n) :
    ∃ g cap, v = .slice (some ⟨g, 0, none⟩) n cap ∧ B ≤ g ∧ g < w.heap.size ∧ n ≤ cap ∧ cap ≤ maxLen ∧ ∀ (j : Nat) u, xs[j]? = some u → w.cell? ⟨g, j, none⟩ = some u := by
  obtain ⟨hlen, h1 | ⟨g, cap, cur, h1, h2, h3, h4, h5, h6, h7⟩⟩ := h
  · omega
  · refine ⟨g, cap, h1, h2, ?_, h4, h5, fun j u hu => ?_⟩
    · rcases Nat.lt_or_ge g w.heap.size with h | h
      · exact h
      · rw [Array.getElem?_eq_none h] at h3; cases h3
    · rw [← h7] at hu
      have hj : j < n * size := by
        rcases Nat.lt_or_ge j (n * size) with h | h
        · exact h
        · rw [List.getElem?_eq_none (by simp; omega)] at hu; cases hu
      rw [List.getElem?_take_of_lt hj, Array.getElem?_toList] at hu
      simp [World.cell?, h3, hu]
theorem RToks.of_own {w : World} {B : Nat} {v : Value} {ks : List (Po.Tok × Nat)} (h : w.ownsRow B 202 4 v ks.length (toksFlat ks)) : RToks w w.heap.size v (ks.map (·.1)) := by
  rcases Nat.eq_zero_or_pos ks.length with hz | hn
  · have hk : ks = [] := List.eq_nil_of_length_eq_zero hz
    subst hk
    obtain ⟨_, ⟨h1, _⟩ | ⟨g, cap, cur, h1, h2, h3, h4, h5, _⟩⟩ := h
    · exact ⟨none, 0, h1, Nat.le_refl _, Nat.zero_le _, fun hh => by simp at hh⟩
    · exact ⟨_, cap, h1, h4, h5, fun hh => by simp at hh⟩
  · obtain ⟨g, cap, hv, hg, hlt, hc, hm, hx⟩ := own_cells h hn
    refine ⟨some ⟨g, 0, none⟩, cap, by simpa using hv, by simpa using hc, hm, fun _ => ⟨g, 0, rfl, hlt, fun i x hi => ?_⟩⟩
    simp only [List.getElem?_map, Option.map_eq_some_iff] at hi
    obtain ⟨p, hp, rfl⟩ := hi
    refine ⟨p.2, ?_, ?_, ?_, ?_⟩ <;> rw [Nat.zero_add]
    · exact hx (i * 4) _ (toksFlat_at ks i p 0 _ hp rfl)
    · exact hx (i * 4 + 1) _ (toksFlat_at ks i p 1 _ hp rfl)
    · exact hx (i * 4 + 2) _ (toksFlat_at ks i p 2 _ hp rfl)
    · exact hx (i * 4 + 3) _ (toksFlat_at ks i p 3 _ hp rfl)
theorem own_below {w w' : World} {B : Nat} {e : TypeId} {size n : Nat} {v : Value} {xs : List Value} (h : w.ownsRow B e size v n xs) (hb : Below w.heap.size w w') : w'.ownsRow B e size v n xs := by
  refine ⟨h.1, ?_⟩
  rcases h.2 with hn | ⟨g, cap, cur, h1, h2, h3, h4⟩
  · exact .inl hn
  · refine .inr ⟨g, cap, cur, h1, h2, ?_, h4⟩
    rw [hb.block g ?_]
    · exact h3
    · rcases Nat.lt_or_ge g w.heap.size with h | h
      · exact h
      · rw [Array.getElem?_eq_none h] at h3; cases h3
theorem news_four (w : World) (a b c d : Value) (t : TypeId) : ∀ (j : Nat) (u : Value), [a, b, c, d][j]? = some u → (w.alloc (.cells #[a, b, c, d] t)).cell? ((⟨w.heap.size, 0, none⟩ : Addr).add j) = some u := by
  intro j u hj
  match j, hj with
  | 0, hj => simp at hj; subst hj; simp [Addr.add]
  | 1, hj => simp at hj; subst hj; simp [Addr.add]
  | 2, hj => simp at hj; subst hj; simp [Addr.add]
  | 3, hj => simp at hj; subst hj; simp [Addr.add]
/-- the row behind one append -/
theorem own_snoc {w' : World} {B : Nat} {v : Value} {ks : List (Po.Tok × Nat)} {p : Po.Tok × Nat} {news : List Value} (h : w'.ownsRow B 202 4 v (ks.length + 1) (toksFlat ks ++ news)) (hn : news = tokCells p) : w'.ownsRow B 202 4 v (ks ++ [p]).length (toksFlat (ks ++ [p])) := by
  rw [toksFlat_snoc, List.length_append, ← hn]
  exact h
end Go.Proofs.YtdeccekeknlnoaaGreatDoor

namespace Go.Proofs.YtdeccekeknlnoaaGreatDoor
open Go.RowKit

def ndVals (x : Po.Nd) (v : Value) : List Value := [.int .i64 x.k, .int .i64 x.n, .int .i64 x.m, .int .i64 x.side] ++ x.dg.map (fun b => Value.int .u8 (b : Nat)) ++ [v]
def ndFlat : List Po.Nd → List Value → List Value
  | x :: o, v :: vs => ndVals x v ++ ndFlat o vs
  | _, _ => []
theorem ndVals_len {x : Po.Nd} {v : Value} (h : x.dg.length = 16) : (ndVals x v).length = 21 := by simp [ndVals, h]
theorem ndFlat_snoc : ∀ (o : List Po.Nd) (vs : List Value) (x : Po.Nd) (v : Value), vs.length = o.length → ndFlat (o ++ [x]) (vs ++ [v]) = ndFlat o vs ++ ndVals x v
  | [], [], x, v, _ => by simp [ndFlat]
  | y :: o, u :: vs, x, v, h => by
    simp only [List.cons_append, ndFlat]
    rw [ndFlat_snoc o vs x v (by simpa using h), List.append_assoc]
  | [], _ :: _, _, _, h => by simp at h
  | _ :: _, [], _, _, h => by simp at h
/-- blocks below the world's end but the parser's and the row of nodes stand as they stood -/
structure Fr (p : Nat) (own : Option Nat) (w w' : World) : Prop where
  os : w'.os = w.os
  tape : w'.tape = w.tape
  output : w'.output = w.output
  size : w.heap.size ≤ w'.heap.size
  block : ∀ k, k < w.heap.size → k ≠ p → some k ≠ own → w'.heap[k]? = w.heap[k]?
theorem Fr.refl (p : Nat) (own : Option Nat) (w : World) : Fr p own w w := ⟨rfl, rfl, rfl, Nat.le_refl _, fun _ _ _ _ => rfl⟩
theorem Fr.of_below {p : Nat} {own : Option Nat} {w w' : World} (h : Below w.heap.size w w') : Fr p own w w' := ⟨h.os, h.tape, h.output, h.size, fun k hk _ _ => h.block k hk⟩
def NewOwn (w : World) (own own' : Option Nat) : Prop := own' = own ∨ ∃ b, own' = some b ∧ w.heap.size ≤ b
theorem Fr.trans {p : Nat} {own own1 : Option Nat} {w w1 w2 : World} (h : Fr p own w w1) (h2 : Fr p own1 w1 w2) (hn : NewOwn w own own1) : Fr p own w w2 :=
  ⟨h2.os.trans h.os, h2.tape.trans h.tape, h2.output.trans h.output, Nat.le_trans h.size h2.size, fun k hk hp ho => (h2.block k (Nat.lt_of_lt_of_le hk h.size) hp (by
    rcases hn with e | ⟨b, e, hb⟩
    · rw [e]; exact ho
    · rw [e]; intro e2; simp only [Option.some.injEq] at e2; omega)).trans (h.block k hk hp ho)⟩
theorem Fr.weaken {p : Nat} {own : Option Nat} {w w' : World} (h : Fr p none w w') : Fr p own w w' := ⟨h.os, h.tape, h.output, h.size, fun k hk hp _ => h.block k hk hp (by simp)⟩
theorem NewOwn.trans {w w1 : World} {a b c : Option Nat} (h1 : NewOwn w a b) (h2 : NewOwn w1 b c) (hs : w.heap.size ≤ w1.heap.size) : NewOwn w a c := by
  rcases h2 with e | ⟨k, e, hk⟩
  · rw [e]; exact h1
  · exact .inr ⟨k, e, by omega⟩
theorem NewOwn.refl (w : World) (a : Option Nat) : NewOwn w a a := .inl rfl
theorem NewOwn.more {w w1 : World} {a b : Option Nat} (h : NewOwn w1 a b) (hs : w.heap.size ≤ w1.heap.size) : NewOwn w a b := (NewOwn.refl w a).trans h hs
theorem Fr.below {p : Nat} {own : Option Nat} {w w' : World} (h : Fr p own w w') (hp : p ≤ w.heap.size) (ho : ∀ k, own = some k → p ≤ k) : Below p w w' :=
  ⟨h.os, h.tape, h.output, h.size, fun k hk => h.block k (by omega) (by omega) (fun e => by have := ho k e.symm; omega)⟩

/-- the operands of a node -/
def OfIs (w : World) (p : Nat) (own : Option Nat) (v : Value) (xs : List Nat) : Prop :=
  (xs = [] ∧ v = .slice none 0 0) ∨ ∃ b cap, v = .slice (some ⟨b, 0, none⟩) xs.length cap ∧ p < b ∧ b < w.heap.size ∧ some b ≠ own ∧ xs.length ≤ cap ∧ cap ≤ maxLen ∧ ∀ (i : Nat) (x : Nat), xs[i]? = some x → w.cell? ⟨b, i, none⟩ = some (.int .i64 x)
theorem OfIs.frame {w w' : World} {p : Nat} {own own' : Option Nat} {v : Value} {xs : List Nat} (h : OfIs w p own v xs) (hf : Fr p own w w') (hn : NewOwn w own own') : OfIs w' p own' v xs := by
  rcases h with h | ⟨b, cap, h1, h2, h3, h4, h5, h6, h7⟩
  · exact .inl h
  · refine .inr ⟨b, cap, h1, h2, Nat.lt_of_lt_of_le h3 hf.size, ?_, h5, h6, fun i x hx => (World.cell?_of_block (hf.block b h3 (by omega) h4)).trans (h7 i x hx)⟩
    rcases hn with e | ⟨k, e, hk⟩
    · rw [e]; exact h4
    · rw [e]; intro e2; simp only [Option.some.injEq] at e2; omega
/-- the row of nodes -/
structure Nds (p : Nat) (w : World) (vo : Value) (o : List Po.Nd) (ofs : List Value) : Prop where
  row : w.ownsRow (p + 1) 155 21 vo o.length (ndFlat o ofs)
  len : ofs.length = o.length
  of : ∀ (i : Nat) (x : Po.Nd) (v : Value), o[i]? = some x → ofs[i]? = some v → OfIs w p vo.ownBlock v x.of
/-- The parser at block p: the tokens that are left, the nodes that are laid. -/
def PsAt (p : Nat) (w : World) (l : List Po.Tok) (o : List Po.Nd) (own : Option Nat) : Prop :=
  ∃ vl vo ofs, w.heap[p]? = some (.cells #[vl, vo] 212 (0, 0)) ∧ RToks w p vl l ∧ Nds p w vo o ofs ∧ vo.ownBlock = own
theorem lt_of_block {w : World} {p : Nat} {o : Obj} (h : w.heap[p]? = some o) : p < w.heap.size := by
  rcases Nat.lt_or_ge p w.heap.size with h1 | h1
  · exact h1
  · rw [Array.getElem?_eq_none h1] at h; cases h
theorem own_frame {w w' : World} {B : Nat} {e : TypeId} {size n : Nat} {v : Value} {xs : List Value} (h : w.ownsRow B e size v n xs) (hb : ∀ k, v.ownBlock = some k → w'.heap[k]? = w.heap[k]?) : w'.ownsRow B e size v n xs := by
  refine ⟨h.1, ?_⟩
  rcases h.2 with hn | ⟨g, cap, cur, h1, h2, h3, h4⟩
  · exact .inl hn
  · exact .inr ⟨g, cap, cur, h1, h2, (hb g (by rw [h1]; rfl)).trans h3, h4⟩
theorem rtoks_frame {w w' : World} {p : Nat} {v : Value} {l : List Po.Tok} (h : RToks w p v l) (hb : ∀ k, k < p → w'.heap[k]? = w.heap[k]?) : RToks w' p v l := by
  obtain ⟨A, c, h1, h2, h3, h4⟩ := h
  refine ⟨A, c, h1, h2, h3, fun hn => ?_⟩
  obtain ⟨b, o, hA, hlt, hc⟩ := h4 hn
  refine ⟨b, o, hA, hlt, fun i x hx => ?_⟩
  obtain ⟨a, a0, a1, a2, a3⟩ := hc i x hx
  have e : ∀ off, w'.cell? ⟨b, off, none⟩ = w.cell? ⟨b, off, none⟩ := fun off => World.cell?_of_block (a := ⟨b, off, none⟩) (hb b hlt)
  exact ⟨a, (e _).trans a0, (e _).trans a1, (e _).trans a2, (e _).trans a3⟩
theorem PsAt.lt {p : Nat} {w : World} {l : List Po.Tok} {o : List Po.Nd} {own : Option Nat} (h : PsAt p w l o own) : p < w.heap.size := by
  obtain ⟨vl, vo, ofs, h1, _⟩ := h
  exact lt_of_block h1
theorem PsAt.own_gt {p : Nat} {w : World} {l : List Po.Tok} {o : List Po.Nd} {own : Option Nat} (h : PsAt p w l o own) : ∀ k, own = some k → p < k ∧ k < w.heap.size := by
  obtain ⟨vl, vo, ofs, h1, h2, h3, h4⟩ := h
  intro k hk
  have := h3.row.lt k (h4.trans hk)
  omega
/-- nothing of the parser's has turned -/
theorem PsAt.keep {p : Nat} {w w' : World} {l : List Po.Tok} {o : List Po.Nd} {own : Option Nat} (h : PsAt p w l o own) (hb : Below w.heap.size w w') : PsAt p w' l o own := by
  have hg := h.own_gt
  have hp := h.lt
  obtain ⟨vl, vo, ofs, h1, h2, h3, h4⟩ := h
  refine ⟨vl, vo, ofs, (hb.block p hp).trans h1, rtoks_frame h2 (fun k hk => hb.block k (by omega)), ⟨own_frame h3.row (fun k hk => hb.block k (hg k (h4.symm.trans hk)).2), h3.len, fun i x v hx hv => (h3.of i x v hx hv).frame (.of_below hb) (.refl _ _)⟩, h4⟩
/-- other tokens are laid into the parser's first field -/
theorem PsAt.toks {p : Nat} {w w' : World} {l l' : List Po.Tok} {o : List Po.Nd} {own : Option Nat} {vl vl' vo : Value} (h : PsAt p w l o own) (hc : w.heap[p]? = some (.cells #[vl, vo] 212 (0, 0))) (hf : Fr p none w w') (hc' : w'.heap[p]? = some (.cells #[vl', vo] 212 (0, 0))) (ht : RToks w' p vl' l') : PsAt p w' l' o own := by
  have hg := h.own_gt
  have hp := h.lt
  obtain ⟨vl0, vo0, ofs, h1, h2, h3, h4⟩ := h
  rw [hc] at h1
  simp only [Option.some.injEq, Obj.cells.injEq, Array.mk.injEq, List.cons.injEq, and_true] at h1
  obtain ⟨rfl, rfl⟩ := h1
  refine ⟨vl', vo, ofs, hc', ht, ⟨own_frame h3.row (fun k hk => by have := hg k (h4.symm.trans hk); exact hf.block k this.2 (by omega) (by simp)), h3.len, fun i x v hx hv => ?_⟩, h4⟩
  exact (h3.of i x v hx hv).frame hf.weaken (.refl _ _)
end Go.Proofs.YtdeccekeknlnoaaGreatDoor

namespace Go.Proofs.YtdeccekeknlnoaaGreatDoor
namespace Po
def LexRel (T : List UInt8) (g : Nat) (ks : List (Tok × Nat)) : Prop :=
  lex T = (lexF g (T.drop (endPos ks))).map (ks.map (·.1) ++ ·) ∧ endPos ks ≤ T.length ∧ T.length < endPos ks + g ∧ ks.length ≤ endPos ks
theorem LexRel.start (T : List UInt8) : LexRel T (T.length + 1) [] := by
  refine ⟨?_, Nat.zero_le _, by simp [endPos], Nat.zero_le _⟩
  simp [lex, endPos]
theorem LexRel.pos {T : List UInt8} {g : Nat} {ks : List (Tok × Nat)} (h : LexRel T g ks) : g ≠ 0 := by
  intro e
  have := h.2.1; have := h.2.2.1
  omega
theorem LexRel.stop {T : List UInt8} {g : Nat} {ks : List (Tok × Nat)} (h : LexRel T (g + 1) ks) (hs : (T.drop (endPos ks)).dropWhile blank = []) : lex T = some (ks.map (·.1)) := by
  rw [h.1, lexF, hs]
  simp
theorem LexRel.fail {T : List UInt8} {g : Nat} {ks : List (Tok × Nat)} {c : UInt8} {r : List UInt8} (h : LexRel T (g + 1) ks) (hs : (T.drop (endPos ks)).dropWhile blank = c :: r) (hn : next (c :: r) = none) : lex T = none := by
  rw [h.1, lexF, hs]
  simp [hn]
theorem find_op {s : List UInt8} : ∀ {os : List (List UInt8)} {w : List UInt8}, os.find? (fun w => w.isPrefixOf s) = some w → w ∈ os ∧ w.isPrefixOf s = true := by
  intro os w h
  exact ⟨List.mem_of_find?_eq_some h, by simpa using List.find?_some h⟩
theorem next_len {s : List UInt8} {t : Tok} (h : next s = some t) : 1 ≤ t.t.length ∧ t.t.length ≤ s.length := by
  cases s with
  | nil => simp [next] at h
  | cons c s =>
    simp only [next] at h
    have tw : ∀ p : UInt8 → Bool, p c = true → 1 ≤ ((c :: s).takeWhile p).length ∧ ((c :: s).takeWhile p).length ≤ (c :: s).length := by
      intro p hp
      refine ⟨by simp [List.takeWhile, hp], (List.takeWhile_prefix p).length_le⟩
    split at h
    · rename_i hl
      split at h
      · cases h
      · simp at h; rw [← h]; exact tw word (by simp [word, hl])
    · split at h
      · rename_i hd
        split at h
        · simp at h; rw [← h]; exact tw digit hd
        · cases h
      · simp only [Option.map_eq_some_iff] at h
        obtain ⟨w, hw, rfl⟩ := h
        obtain ⟨hm, hp⟩ := find_op hw
        refine ⟨?_, (List.isPrefixOf_iff_prefix.1 hp).length_le⟩
        have : ∀ w ∈ ops, 1 ≤ w.length := by decide
        exact this w hm
theorem dropWhile_eq_drop {α : Type} (p : α → Bool) (l : List α) : l.dropWhile p = l.drop (l.length - (l.dropWhile p).length) := by
  induction l with
  | nil => rfl
  | cons x l ih =>
    by_cases h : p x
    · simp only [List.dropWhile, h]
      have := (List.dropWhile_suffix (l := l) p).length_le
      rw [List.length_cons, Nat.succ_sub this, List.drop_succ_cons]
      exact ih
    · simp [List.dropWhile, h]
theorem LexRel.step {T : List UInt8} {g : Nat} {ks : List (Tok × Nat)} {c : UInt8} {r : List UInt8} {t : Tok} (h : LexRel T (g + 1) ks) (hs : (T.drop (endPos ks)).dropWhile blank = c :: r) (hn : next (c :: r) = some t) :
    LexRel T g (ks ++ [(t, T.length - (c :: r).length)]) := by
  obtain ⟨h1, h2, h3, h4⟩ := h
  have hl := next_len hn
  have hd := dropWhile_eq_drop blank (T.drop (endPos ks))
  have hle : (c :: r).length ≤ T.length - endPos ks := by
    rw [← hs, ← List.length_drop]
    exact (List.dropWhile_suffix blank).length_le
  rw [hs, List.length_drop, List.drop_drop] at hd
  have hpos : endPos ks + (T.length - endPos ks - (c :: r).length) = T.length - (c :: r).length := by omega
  rw [hpos] at hd
  have he : endPos (ks ++ [(t, T.length - (c :: r).length)]) = T.length - (c :: r).length + t.t.length := endPos_snoc _ _
  refine ⟨?_, by rw [he]; omega, by rw [he]; omega, by rw [he]; simp only [List.length_append, List.length_singleton]; omega⟩
  rw [h1, lexF, hs, he, ← List.drop_drop, ← hd]
  simp only [hn]
  rw [Option.map_map]
  congr 1
  funext l
  simp
theorem LexRel.len {T : List UInt8} {g : Nat} {ks : List (Tok × Nat)} (h : LexRel T g ks) : endPos ks ≤ T.length := h.2.1
theorem LexRel.count {T : List UInt8} {g : Nat} {ks : List (Tok × Nat)} (h : LexRel T g ks) : ks.length ≤ T.length := Nat.le_trans h.2.2.2 h.2.1
theorem find_at {s : List UInt8} : ∀ {os : List (List UInt8)} {i : Nat} {w : List UInt8}, (∀ j, j < i → ∃ v, os[j]? = some v ∧ v.isPrefixOf s = false) → os[i]? = some w → w.isPrefixOf s = true → os.find? (fun w => w.isPrefixOf s) = some w
  | [], i, w, _, h, _ => by simp at h
  | o :: os, 0, w, _, h, hp => by simp at h; subst h; simp [hp]
  | o :: os, i + 1, w, ha, h, hp => by
    obtain ⟨v, hv, hq⟩ := ha 0 (by omega)
    simp at hv
    subst hv
    rw [List.find?_cons, hq]
    exact find_at (i := i) (fun j hj => by obtain ⟨v, hv, hq⟩ := ha (j + 1) (by omega); exact ⟨v, by simpa using hv, hq⟩) (by simpa using h) hp
theorem find_no {s : List UInt8} {os : List (List UInt8)} (h : ∀ j, j < os.length → ∃ v, os[j]? = some v ∧ v.isPrefixOf s = false) : os.find? (fun w => w.isPrefixOf s) = none := by
  rw [List.find?_eq_none]
  intro x hx
  obtain ⟨j, hj, rfl⟩ := List.getElem_of_mem hx
  obtain ⟨v, hv, hq⟩ := h j hj
  rw [List.getElem?_eq_getElem hj] at hv
  simp at hv
  rw [hv, hq]
  simp
theorem next_sign {c : UInt8} {r : List UInt8} (h1 : letter c = false) (h2 : digit c = false) : next (c :: r) = (ops.find? fun w => w.isPrefixOf (c :: r)).map fun w => ⟨3, w, 0⟩ := by
  simp [next, h1, h2]
theorem ops_len : ops.length = 15 := rfl
end Po
end Go.Proofs.YtdeccekeknlnoaaGreatDoor

namespace Go.Proofs.YtdeccekeknlnoaaGreatDoor
namespace Po
theorem next_ok {s : List UInt8} {t : Tok} (h : next s = some t) : t.n < 65536 := by
  cases s with
  | nil => simp [next] at h
  | cons c s =>
    simp only [next] at h
    split at h
    · split at h
      · cases h
      · simp at h; rw [← h]; simp only; omega
    · split at h
      · split at h
        · rename_i hn
          simp only [numOK, Bool.and_eq_true, decide_eq_true_eq] at hn
          simp at h
          rw [← h]
          exact hn.1.2
        · cases h
      · simp only [Option.map_eq_some_iff] at h
        obtain ⟨w, hw, rfl⟩ := h
        simp only
        omega
theorem lexF_ok : ∀ (f : Nat) (s : List UInt8) (l : List Tok), lexF f s = some l → OkToks l ∧ l.length ≤ s.length
  | 0, s, l, h => by simp [lexF] at h; subst h; exact ⟨fun x hx => by simp at hx, by simp⟩
  | f + 1, s, l, h => by
    have hd := (List.dropWhile_suffix (l := s) blank).length_le
    simp only [lexF] at h
    cases hs : s.dropWhile blank with
    | nil => rw [hs] at h; simp at h; subst h; exact ⟨fun x hx => by simp at hx, by simp⟩
    | cons c r =>
      rw [hs] at h
      simp only at h
      cases hn : next (c :: r) with
      | none => rw [hn] at h; cases h
      | some t =>
        rw [hn] at h
        simp only [Option.map_eq_some_iff] at h
        obtain ⟨m, hm, rfl⟩ := h
        have I := lexF_ok f _ m hm
        have hl := next_len hn
        rw [hs] at hd
        rw [List.length_drop] at I
        refine ⟨fun x hx => ?_, by simp only [List.length_cons] at hd hl I ⊢; omega⟩
        rcases List.mem_cons.1 hx with h | h
        · rw [h]; exact next_ok hn
        · exact I.1 x h
theorem lex_ok {s : List UInt8} {l : List Tok} (h : lex s = some l) : OkToks l ∧ l.length ≤ s.length := lexF_ok _ _ _ h
end Po
end Go.Proofs.YtdeccekeknlnoaaGreatDoor
