/- FuseRaise: the plain law, and its words for the list of pulses. -/
import Derived.Test.YtnahokblbpppeaaFzLaw
namespace Go.Proofs.Ytnahokblbpppeaa
open Go.ChangeShapes Go.WideShapes Go.ChangeAt Go.RowKit Go.Deep

theorem infoHit : (Try.prog.info? 47).map (fun i => (i.zero, i.size, i.bytes)) = some (some (.agg #[.int .i64 0, .int .i64 0, .bool false]), 3, 24) := by kernel_rfl
theorem hits_own {W : World} {base : Nat} {v : Value} {L : List Fz.Hit} (h : W.ownsRow base 47 3 v L.length (hitCells L)) : RHits W W.heap.size v L := by
  have h' := h
  rcases h.2 with ⟨rfl, h0⟩ | ⟨g, cap, cur, rfl, hb, hg, hn, hm, hs, ht⟩
  · exact ⟨none, 0, by rw [h0], by omega, by simp [maxLen], fun h => by omega⟩
  · refine ⟨_, cap, rfl, hn, hm, fun _ => ⟨g, 0, rfl, lt_of_block hg, fun i hi => ?_⟩⟩
    obtain ⟨h1, h2, h3⟩ := hitCells_at L i hi
    refine ⟨?_, ?_, ?_⟩
    · rw [Nat.zero_add, World.ownsRow.cellAt h' _ (by omega), h1]
    · rw [Nat.zero_add, World.ownsRow.cellAt h' _ (by omega), h2]
    · rw [Nat.zero_add, World.ownsRow.cellAt h' _ (by omega), h3]
theorem hitCells_app (L M : List Fz.Hit) : hitCells (L ++ M) = hitCells L ++ hitCells M := by simp [hitCells]
theorem hitCells_one (b : Int) (j : Int) (cut : Bool) : hitCells [⟨b, j, cut⟩] = [.int .i64 b, .int .i64 j, .bool cut] := by simp [hitCells]
theorem hitCells_cell (L : List Fz.Hit) : ∀ u ∈ hitCells L, u.oneCell' = true := by
  intro u hu
  simp only [hitCells, List.mem_flatMap] at hu
  obtain ⟨x, _, hx⟩ := hu
  simp only [List.mem_cons, List.not_mem_nil, or_false] at hx
  rcases hx with rfl | rfl | rfl <;> rfl

namespace Fz
def covers (L : List Hit) (b n : Nat) : Prop := ∀ j : Nat, j < n → (⟨b, j, false⟩ : Hit) ∈ L
theorem covers_end {L : List Hit} {b n : Nat} (h : covers L b n) : covers (L ++ [⟨b, n, false⟩]) b (n + 1) := by
  intro j hj
  rcases Nat.lt_succ_iff_lt_or_eq.1 hj with g | g
  · exact List.mem_append_left _ (h j g)
  · subst g; simp
theorem covers_head {L : List Hit} {b n : Nat} (h : covers L b n) : covers ([⟨b, n, false⟩] ++ L) b (n + 1) := by
  intro j hj
  rcases Nat.lt_succ_iff_lt_or_eq.1 hj with g | g
  · exact List.mem_append_right _ (h j g)
  · subst g; simp
theorem hits_cons (f : List (List Nat)) (x : Hit) (l : List Hit) : hits f (x :: l) = hits (pulse f x.bank x.cell x.cut) l := rfl
theorem done_keep (f : List (List Nat)) (l : List Hit) (i j : Nat) (h : at_ f i j = 2 ∨ at_ f i j = 3) : at_ (hits f l) i j = 2 ∨ at_ (hits f l) i j = 3 := by
  rcases h with h | h
  · exact .inl (blown_hits f l i j h)
  · exact .inr ((stuck_hits f l i j).mpr h)
theorem done_hit (f : List (List Nat)) (l : List Hit) (i j : Nat) (hx : ex f i j = true) (hm : (⟨i, j, false⟩ : Hit) ∈ l) : at_ (hits f l) i j = 2 ∨ at_ (hits f l) i j = 3 := by
  induction l generalizing f with
  | nil => simp at hm
  | cons x l ih =>
    rw [hits_cons]
    rcases List.mem_cons.1 hm with h | h
    · subst h
      apply done_keep
      rw [at_pulse, if_pos ⟨hx, rfl, rfl⟩]
      unfold next
      split
      · assumption
      · exact .inl rfl
    · exact ih _ (by rw [ex_pulse]; exact hx) h
theorem raise {f : List (List Nat)} (hs : sound f = true) {k T : Nat} (hk : k < f.length) (hT : T ≤ (nthRow f k).length / 3) (o1 L o2 : List Hit) (hc : covers L k (3 * T)) :
    (T : Int) ≤ level (hits (hits (hits f o1) L) o2) k false := by
  have e1 : level (hits (hits (hits f o1) L) o2) k false = lev (nthRow (hits (hits (hits f o1) L) o2) k) false ((nthRow f k).length / 3) := by
    simp only [level, hits_length, row, Int.toNat_natCast, hits_row_length]
    rw [if_pos (by omega)]
  rw [e1]
  have key : ∀ j : Nat, j < T → 2 ≤ tri (nthRow (hits (hits (hits f o1) L) o2) k) false j := by
    intro j hj
    have hd : ∀ m : Nat, m < 3 → (at_ (hits (hits (hits f o1) L) o2) k (j * 3 + m) = 2 ∨ at_ (hits (hits (hits f o1) L) o2) k (j * 3 + m) = 3) := by
      intro m hm
      apply done_keep
      apply done_hit
      · rw [ex_hits, ex_iff]
        simp only [Int.toNat_natCast]
        omega
      · exact hc _ (by omega)
    have hst : ∀ m : Nat, (at_ (hits (hits (hits f o1) L) o2) k (j * 3 + m) = 3) = (at_ f k (j * 3 + m) = 3) := fun m => by rw [stuck_hits, stuck_hits, stuck_hits]
    have hso := sound_iff.1 hs k hk
    unfold soundRow at hso
    rw [List.all_eq_true] at hso
    have hso := of_decide_eq_true (hso j (by simp; omega))
    simp only [ssum] at hso
    have d0 := hd 0 (by omega)
    have d1 := hd 1 (by omega)
    have d2 := hd 2 (by omega)
    have s0 := hst 0
    have s1 := hst 1
    have s2 := hst 2
    rw [tri_eq]
    unfold at_ at d0 d1 d2 s0 s1 s2
    simp only [Nat.add_zero] at d0 s0 hso
    simp only [← s0, ← s1, ← s2] at hso
    generalize nth (nthRow (hits (hits (hits f o1) L) o2) k) (j * 3) = x0 at *
    generalize nth (nthRow (hits (hits (hits f o1) L) o2) k) (j * 3 + 1) = x1 at *
    generalize nth (nthRow (hits (hits (hits f o1) L) o2) k) (j * 3 + 2) = x2 at *
    rcases d0 with rfl | rfl <;> rcases d1 with rfl | rfl <;> rcases d2 with rfl | rfl <;> simp [rd] at hso ⊢
  rcases lev_cases (nthRow (hits (hits (hits f o1) L) o2) k) false ((nthRow f k).length / 3) with ⟨g1, g2⟩ | ⟨g1, g2, g3⟩
  · omega
  · rcases Nat.lt_or_ge (lev (nthRow (hits (hits (hits f o1) L) o2) k) false ((nthRow f k).length / 3)) T with hl | hl
    · have := key _ hl; omega
    · omega
end Fz

end Go.Proofs.Ytnahokblbpppeaa
