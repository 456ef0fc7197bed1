/- Chapter 29: the cells of tokens; slices of tokens. -/
import Derived.Test.YtdolpmmnjndfkaaGreatDoorPoMem
import Derived.Test.YtdolpmmnjndfkaaGreatDoorPoPl
import Derived.Maps.AppendAt
namespace Go.Proofs.YtdolpmmnjndfkaaGreatDoor
open Go.RowKit
def tokCells (p : Po.Tok × Nat) : List Value := [.int .i64 p.1.k, .string ⟨p.1.t.toArray⟩, .int .i64 p.1.n, .int .i64 p.2]
def toksFlat (ks : List (Po.Tok × Nat)) : List Value := ks.flatMap tokCells
def endPos (ks : List (Po.Tok × Nat)) : Nat := match ks.getLast? with
  | none => 0
  | some p => p.2 + p.1.t.length
theorem toksFlat_len (ks : List (Po.Tok × Nat)) : (toksFlat ks).length = ks.length * 4 := by
  induction ks with
  | nil => rfl
  | cons p l ih => simp only [toksFlat, List.flatMap_cons, List.length_append, List.length_cons] at ih ⊢; rw [ih]; simp [tokCells]; omega
theorem toksFlat_snoc (ks : List (Po.Tok × Nat)) (p : Po.Tok × Nat) : toksFlat (ks ++ [p]) = toksFlat ks ++ tokCells p := by simp [toksFlat]
theorem endPos_snoc (ks : List (Po.Tok × Nat)) (p : Po.Tok × Nat) : endPos (ks ++ [p]) = p.2 + p.1.t.length := by simp [endPos]
theorem toksFlat_at : ∀ (ks : List (Po.Tok × Nat)) (i : Nat) (p : Po.Tok × Nat) (j : Nat) (v : Value), ks[i]? = some p → (tokCells p)[j]? = some v → (toksFlat ks)[i * 4 + j]? = some v
  | [], i, p, j, v, h, _ => by simp at h
  | q :: l, 0, p, j, v, h, hv => by
    simp at h
    subst h
    have hj : j < (tokCells q).length := by
      rcases Nat.lt_or_ge j (tokCells q).length with h | h
      · exact h
      · rw [List.getElem?_eq_none h] at hv; cases hv
    simp only [toksFlat, List.flatMap_cons, Nat.zero_mul, Nat.zero_add]
    rw [List.getElem?_append_left hj]; exact hv
  | q :: l, i + 1, p, j, v, h, hv => by
    have I := toksFlat_at l i p j v (by simpa using h) hv
    simp only [toksFlat, List.flatMap_cons] at I ⊢
    have : (tokCells q).length = 4 := rfl
    rw [List.getElem?_append_right (by omega), this]
    rw [show (i + 1) * 4 + j - 4 = i * 4 + j by omega]
    exact I
/-- A slice of tokens, wherever it stands: nothing is said of offsets in the text. -/
def RToks (w : World) (B : Nat) (v : Value) (l : List Po.Tok) : Prop :=
  ∃ A c, v = .slice A l.length c ∧ l.length ≤ c ∧ c ≤ maxLen ∧ (0 < l.length → ∃ b o, A = some ⟨b, o, none⟩ ∧ b < B ∧ ∀ i x, l[i]? = some x → ∃ a : Int, w.cell? ⟨b, o + i * 4, none⟩ = some (.int .i64 x.k) ∧ w.cell? ⟨b, o + i * 4 + 1, none⟩ = some (.string ⟨x.t.toArray⟩) ∧ w.cell? ⟨b, o + i * 4 + 2, none⟩ = some (.int .i64 x.n) ∧ w.cell? ⟨b, o + i * 4 + 3, none⟩ = some (.int .i64 a))
theorem RToks.below {w w' : World} {B : Nat} {v : Value} {l : List Po.Tok} (h : RToks w B v l) (hb : Below B w w') : RToks w' B v l := by
  obtain ⟨A, c, h1, h2, h3, h4⟩ := h
  refine ⟨A, c, h1, h2, h3, fun hn => ?_⟩
  obtain ⟨b, o, hA, hlt, hc⟩ := h4 hn
  refine ⟨b, o, hA, hlt, fun i x hx => ?_⟩
  obtain ⟨a, a0, a1, a2, a3⟩ := hc i x hx
  exact ⟨a, (hb.cell (p := ⟨b, _, none⟩) hlt).trans a0, (hb.cell (p := ⟨b, _, none⟩) hlt).trans a1, (hb.cell (p := ⟨b, _, none⟩) hlt).trans a2, (hb.cell (p := ⟨b, _, none⟩) hlt).trans a3⟩
theorem RToks.more {w : World} {B B' : Nat} {v : Value} {l : List Po.Tok} (h : RToks w B v l) (hB : B ≤ B') : RToks w B' v l := by
  obtain ⟨A, c, h1, h2, h3, h4⟩ := h
  refine ⟨A, c, h1, h2, h3, fun hn => ?_⟩
  obtain ⟨b, o, hA, hlt, hc⟩ := h4 hn
  exact ⟨b, o, hA, by omega, hc⟩
/-- the cells of a row that was built by append -/
theorem own_cells {w : World} {B : Nat} {e : TypeId} {size n : Nat} {v : Value} {xs : List Value} (h : w.ownsRow B e size v n xs) (hn : 0 < n) :
    ∃ g cap, v = .slice (some ⟨g, 0, none⟩) n cap ∧ B ≤ g ∧ g < w.heap.size ∧ n ≤ cap ∧ cap ≤ maxLen ∧ ∀ (j : Nat) u, xs[j]? = some u → w.cell? ⟨g, j, none⟩ = some u := by
  obtain ⟨hlen, h1 | ⟨g, cap, cur, h1, h2, h3, h4, h5, h6, h7⟩⟩ := h
  · omega
  · refine ⟨g, cap, h1, h2, ?_, h4, h5, fun j u hu => ?_⟩
    · rcases Nat.lt_or_ge g w.heap.size with h | h
      · exact h
      · rw [Array.getElem?_eq_none h] at h3; cases h3
    · rw [← h7] at hu
      have hj : j < n * size := by
        rcases Nat.lt_or_ge j (n * size) with h | h
        · exact h
        · rw [List.getElem?_eq_none (by simp; omega)] at hu; cases hu
      rw [List.getElem?_take_of_lt hj, Array.getElem?_toList] at hu
      simp [World.cell?, h3, hu]
theorem RToks.of_own {w : World} {B : Nat} {v : Value} {ks : List (Po.Tok × Nat)} (h : w.ownsRow B 62 4 v ks.length (toksFlat ks)) : RToks w w.heap.size v (ks.map (·.1)) := by
  rcases Nat.eq_zero_or_pos ks.length with hz | hn
  · have hk : ks = [] := List.eq_nil_of_length_eq_zero hz
    subst hk
    obtain ⟨_, ⟨h1, _⟩ | ⟨g, cap, cur, h1, h2, h3, h4, h5, _⟩⟩ := h
    · exact ⟨none, 0, h1, Nat.le_refl _, Nat.zero_le _, fun hh => by simp at hh⟩
    · exact ⟨_, cap, h1, h4, h5, fun hh => by simp at hh⟩
  · obtain ⟨g, cap, hv, hg, hlt, hc, hm, hx⟩ := own_cells h hn
    refine ⟨some ⟨g, 0, none⟩, cap, by simpa using hv, by simpa using hc, hm, fun _ => ⟨g, 0, rfl, hlt, fun i x hi => ?_⟩⟩
    simp only [List.getElem?_map, Option.map_eq_some_iff] at hi
    obtain ⟨p, hp, rfl⟩ := hi
    refine ⟨p.2, ?_, ?_, ?_, ?_⟩ <;> rw [Nat.zero_add]
    · exact hx (i * 4) _ (toksFlat_at ks i p 0 _ hp rfl)
    · exact hx (i * 4 + 1) _ (toksFlat_at ks i p 1 _ hp rfl)
    · exact hx (i * 4 + 2) _ (toksFlat_at ks i p 2 _ hp rfl)
    · exact hx (i * 4 + 3) _ (toksFlat_at ks i p 3 _ hp rfl)
theorem own_below {w w' : World} {B : Nat} {e : TypeId} {size n : Nat} {v : Value} {xs : List Value} (h : w.ownsRow B e size v n xs) (hb : Below w.heap.size w w') : w'.ownsRow B e size v n xs := by
  refine ⟨h.1, ?_⟩
  rcases h.2 with hn | ⟨g, cap, cur, h1, h2, h3, h4⟩
  · exact .inl hn
  · refine .inr ⟨g, cap, cur, h1, h2, ?_, h4⟩
    rw [hb.block g ?_]
    · exact h3
    · rcases Nat.lt_or_ge g w.heap.size with h | h
      · exact h
      · rw [Array.getElem?_eq_none h] at h3; cases h3
theorem news_four (w : World) (a b c d : Value) (t : TypeId) : ∀ (j : Nat) (u : Value), [a, b, c, d][j]? = some u → (w.alloc (.cells #[a, b, c, d] t)).cell? ((⟨w.heap.size, 0, none⟩ : Addr).add j) = some u := by
  intro j u hj
  match j, hj with
  | 0, hj => simp at hj; subst hj; simp [Addr.add]
  | 1, hj => simp at hj; subst hj; simp [Addr.add]
  | 2, hj => simp at hj; subst hj; simp [Addr.add]
  | 3, hj => simp at hj; subst hj; simp [Addr.add]
/-- the row behind one append -/
theorem own_snoc {w' : World} {B : Nat} {v : Value} {ks : List (Po.Tok × Nat)} {p : Po.Tok × Nat} {news : List Value} (h : w'.ownsRow B 62 4 v (ks.length + 1) (toksFlat ks ++ news)) (hn : news = tokCells p) : w'.ownsRow B 62 4 v (ks ++ [p]).length (toksFlat (ks ++ [p])) := by
  rw [toksFlat_snoc, List.length_append, ← hn]
  exact h
end Go.Proofs.YtdolpmmnjndfkaaGreatDoor
