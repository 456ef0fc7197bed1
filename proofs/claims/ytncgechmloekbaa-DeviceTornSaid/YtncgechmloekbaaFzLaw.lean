/- Fuses: the plain laws: what pulses do to cells, levels, validity and soundness. -/
import Derived.Test.YtncgechmloekbaaFzR
namespace Go.Proofs.Ytncgechmloekbaa.Fz
open Go.RowKit

theorem nth_set (xs : List Nat) (j k x : Nat) : nth (xs.set j x) k = if k = j ∧ j < xs.length then x else nth xs k := by
  simp only [nth, List.getD_eq_getElem?_getD]
  by_cases h : k = j
  · subst h
    by_cases hl : k < xs.length
    · simp [hl]
    · simp [hl]
  · rw [List.getElem?_set_ne (Ne.symm h)]
    simp [h]

theorem ex_iff {f : List (List Nat)} {bank cell : Int} : ex f bank cell = true ↔ 0 ≤ bank ∧ bank < f.length ∧ 0 ≤ cell ∧ cell < (nthRow f bank.toNat).length :=
  ⟨fun h => of_decide_eq_true h, fun h => decide_eq_true h⟩

/-- the cell at row i, place j -/
def at_ (f : List (List Nat)) (i j : Nat) : Nat := nth (nthRow f i) j

theorem at_pulse (f : List (List Nat)) (bank cell : Int) (cut : Bool) (i j : Nat) :
    at_ (pulse f bank cell cut) i j = if ex f bank cell = true ∧ bank = i ∧ cell = j then next (at_ f i j) cut else at_ f i j := by
  unfold at_
  cases hx : ex f bank cell
  · simp [pulse, hx]
  · have hx' := ex_iff.1 hx
    obtain ⟨h0, h1, h2, h3⟩ := hx'
    obtain ⟨b, rfl⟩ := Int.eq_ofNat_of_zero_le h0
    obtain ⟨c, rfl⟩ := Int.eq_ofNat_of_zero_le h2
    simp only [Int.toNat_natCast] at h3
    simp only [pulse, hx, if_true, row, cellOf, Int.toNat_natCast]
    by_cases hi : i = b
    · subst hi
      rw [nthRow_set_eq _ (by omega), nth_set]
      by_cases hj : j = c
      · subst hj
        rw [if_pos ⟨rfl, by omega⟩, if_pos (by simp)]
      · rw [if_neg (fun h => hj h.1), if_neg (fun h => hj (by have := h.2.2; omega))]
    · rw [nthRow_set_ne _ hi, if_neg (fun h => hi (by have := h.2.1; omega))]

theorem ex_pulse (f : List (List Nat)) (bank cell : Int) (cut : Bool) (b c : Int) : ex (pulse f bank cell cut) b c = ex f b c := by
  rw [Bool.eq_iff_iff, ex_iff, ex_iff, pulse_length, pulse_row_length]
theorem hits_length (f : List (List Nat)) (l : List Hit) : (hits f l).length = f.length := by
  induction l generalizing f with
  | nil => rfl
  | cons x l ih => exact (ih _).trans (pulse_length _ _ _ _)
theorem hits_row_length (f : List (List Nat)) (l : List Hit) (i : Nat) : (nthRow (hits f l) i).length = (nthRow f i).length := by
  induction l generalizing f with
  | nil => rfl
  | cons x l ih => exact (ih _).trans (pulse_row_length _ _ _ _ _)
theorem ex_hits (f : List (List Nat)) (l : List Hit) (b c : Int) : ex (hits f l) b c = ex f b c := by
  rw [Bool.eq_iff_iff, ex_iff, ex_iff, hits_length, hits_row_length]

theorem next_fix {c : Nat} (cut : Bool) (h : c = 2 ∨ c = 3) : next c cut = c := by simp [next, h]
theorem next_le {c : Nat} (cut : Bool) (h : c ≤ 3) : next c cut ≤ 3 := by
  unfold next
  split
  · exact h
  · split <;> omega
theorem next_stuck {c : Nat} (cut : Bool) : (next c cut = 3) = (c = 3) := by
  unfold next
  by_cases h : c = 2 ∨ c = 3
  · rw [if_pos h]
  · rw [if_neg h]
    cases cut <;> simp <;> omega
theorem rd_next {c : Nat} (cut noise : Bool) (h : c ≤ 3) : rd c noise ≤ rd (next c cut) noise := by
  have : c = 0 ∨ c = 1 ∨ c = 2 ∨ c = 3 := by omega
  rcases this with rfl | rfl | rfl | rfl <;> cases cut <;> cases noise <;> decide
theorem rd_next_cut {c : Nat} (h : c ≤ 3) : rd (next c true) false = rd c false := by
  have : c = 0 ∨ c = 1 ∨ c = 2 ∨ c = 3 := by omega
  rcases this with rfl | rfl | rfl | rfl <;> decide
theorem rd_noise (c : Nat) (b : Bool) : rd c false ≤ rd c b ∧ rd c b ≤ rd c true := by
  unfold rd
  cases b <;> simp <;> (try split) <;> (try split) <;> simp_all

/-- a property of all cells that a pulse keeps -/
theorem hits_keep {R : Nat → Nat → Nat → Nat → Prop} (f : List (List Nat)) (l : List Hit) (hr : ∀ i j c, R i j c c) (ht : ∀ i j a b c, R i j a b → R i j b c → R i j a c)
    (hp : ∀ g : List (List Nat), (∀ i j, R i j (at_ f i j) (at_ g i j)) → ∀ i j cut, R i j (at_ g i j) (next (at_ g i j) cut)) : ∀ i j, R i j (at_ f i j) (at_ (hits f l) i j) := by
  suffices h : ∀ (l : List Hit) (g : List (List Nat)), (∀ i j, R i j (at_ f i j) (at_ g i j)) → ∀ i j, R i j (at_ f i j) (at_ (hits g l) i j) from h l f (fun i j => hr i j _)
  intro l
  induction l with
  | nil => exact fun g hg => hg
  | cons x l ih =>
    intro g hg
    refine ih (pulse g x.bank x.cell x.cut) fun i j => ?_
    rw [at_pulse]
    split
    · exact ht i j _ _ _ (hg i j) (hp g hg i j x.cut)
    · exact hg i j

theorem valid_iff {f : List (List Nat)} : valid f = true ↔ f.length ≤ 4 ∧ ∀ i, i < f.length → (nthRow f i).length % 3 = 0 ∧ (nthRow f i).length ≤ 48 ∧ ∀ j, j < (nthRow f i).length → at_ f i j ≤ 3 := by
  constructor
  · intro h
    unfold valid at h
    simp only [Bool.and_eq_true, decide_eq_true_eq, List.all_eq_true] at h
    refine ⟨h.1, fun i hi => ?_⟩
    have := h.2 _ (nthRow_mem hi)
    simp only [fitRow, Bool.and_eq_true, decide_eq_true_eq, Bool.not_eq_true'] at this
    refine ⟨this.1.1, this.1.2, fun j hj => ?_⟩
    have hb := this.2
    unfold anyBad at hb
    rw [List.any_eq_false] at hb
    have := hb (nthRow f i)[j] (List.getElem_mem hj)
    simpa [at_, nth, hj] using this
  · rintro ⟨h4, h⟩
    refine valid_yes h4 fun j hj => ?_
    obtain ⟨h1, h2, h3⟩ := h j hj
    exact fitRow_of h1 h2 (anyBad_none (fun k hk => h3 k hk))
theorem at_le {f : List (List Nat)} (h : valid f = true) (i j : Nat) : at_ f i j ≤ 3 := by
  obtain ⟨_, h2⟩ := valid_iff.1 h
  by_cases hi : i < f.length
  · by_cases hj : j < (nthRow f i).length
    · exact (h2 i hi).2.2 j hj
    · unfold at_ nth
      rw [List.getD_eq_getElem?_getD, List.getElem?_eq_none (by omega)]
      simp
  · unfold at_ nthRow
    rw [List.getD_eq_getElem?_getD, List.getElem?_eq_none (by omega)]
    simp [nth]
theorem valid_small {f : List (List Nat)} (h : valid f = true) : small f := by
  obtain ⟨h1, h2⟩ := valid_iff.1 h
  exact ⟨by omega, fun i hi => by have := (h2 i hi).2.1; omega⟩
theorem valid_thirds {f : List (List Nat)} (h : valid f = true) : ∀ i, i < f.length → (nthRow f i).length % 3 = 0 ∧ (nthRow f i).length ≤ 1000 := by
  obtain ⟨h1, h2⟩ := valid_iff.1 h
  exact fun i hi => ⟨(h2 i hi).1, by have := (h2 i hi).2.1; omega⟩
theorem hits_le {f : List (List Nat)} (h : valid f = true) (l : List Hit) : ∀ i j, at_ (hits f l) i j ≤ 3 := by
  have := hits_keep (R := fun _ _ a b => a ≤ 3 → b ≤ 3) f l (fun _ _ _ h => h) (fun _ _ _ _ _ h1 h2 h3 => h2 (h1 h3)) (fun g _ i j cut hc => next_le cut hc)
  exact fun i j => this i j (at_le h i j)
theorem valid_hits {f : List (List Nat)} (h : valid f = true) (l : List Hit) : valid (hits f l) = true := by
  obtain ⟨h1, h2⟩ := valid_iff.1 h
  refine valid_iff.2 ⟨by rw [hits_length]; exact h1, fun i hi => ?_⟩
  rw [hits_length] at hi
  rw [hits_row_length]
  exact ⟨(h2 i hi).1, (h2 i hi).2.1, fun j _ => hits_le h l i j⟩
theorem stuck_hits (f : List (List Nat)) (l : List Hit) (i j : Nat) : (at_ (hits f l) i j = 3) = (at_ f i j = 3) := by
  have := hits_keep (R := fun _ _ a b => (b = 3) = (a = 3)) f l (fun _ _ _ => rfl) (fun _ _ _ _ _ h1 h2 => h2.trans h1) (fun g _ i j cut => next_stuck cut)
  exact this i j
theorem blown_hits (f : List (List Nat)) (l : List Hit) (i j : Nat) (h : at_ f i j = 2) : at_ (hits f l) i j = 2 := by
  have := hits_keep (R := fun _ _ a b => a = 2 → b = 2) f l (fun _ _ _ h => h) (fun _ _ _ _ _ h1 h2 h3 => h2 (h1 h3)) (fun g _ i j cut hc => by rw [next_fix cut (.inl hc), hc])
  exact this i j h
theorem rd_hits {f : List (List Nat)} (h : valid f = true) (l : List Hit) (noise : Bool) (i j : Nat) : rd (at_ f i j) noise ≤ rd (at_ (hits f l) i j) noise := by
  have := hits_keep (R := fun _ _ a b => a ≤ 3 → b ≤ 3 ∧ rd a noise ≤ rd b noise) f l (fun _ _ _ h => ⟨h, Int.le_refl _⟩) (fun _ _ _ _ _ h1 h2 h3 => ⟨(h2 (h1 h3).1).1, Int.le_trans (h1 h3).2 (h2 (h1 h3).1).2⟩)
    (fun g _ i j cut hc => ⟨next_le cut hc, rd_next cut noise hc⟩)
  exact (this i j (at_le h i j)).2

theorem psum_le {xs ys : List Nat} {n1 n2 : Bool} (i : Nat) (h : ∀ j, rd (nth xs j) n1 ≤ rd (nth ys j) n2) : ∀ m, psum xs n1 i m ≤ psum ys n2 i m
  | 0 => Int.le_refl _
  | m + 1 => by
    have h1 := psum_le i h m
    have h2 := h (i * 3 + m)
    simp only [psum]
    omega
theorem ssum_congr {xs ys : List Nat} (i : Nat) (h : ∀ j, (nth xs j = 3) = (nth ys j = 3)) : ∀ m, ssum xs i m = ssum ys i m
  | 0 => rfl
  | m + 1 => by simp only [ssum, ssum_congr i h m, h]

theorem lev_cases (xs : List Nat) (noise : Bool) (n : Nat) : (lev xs noise n = n ∧ ∀ j, j < n → 2 ≤ tri xs noise j) ∨ (lev xs noise n < n ∧ (∀ j, j < lev xs noise n → 2 ≤ tri xs noise j) ∧ tri xs noise (lev xs noise n) < 2) := by
  unfold lev
  cases h : (List.range n).find? (fun i => decide (tri xs noise i < 2)) with
  | none =>
    left
    refine ⟨rfl, fun j hj => ?_⟩
    rw [List.find?_eq_none] at h
    have := h j (by simpa using hj)
    simp at this; omega
  | some i =>
    right
    rw [List.find?_range_eq_some] at h
    obtain ⟨h1, h2, h3⟩ := h
    refine ⟨by simpa using h2, fun j hj => ?_, by simpa using h1⟩
    have := h3 j hj
    simp at this; omega
theorem lev_le {xs ys : List Nat} {n1 n2 : Bool} {n : Nat} (h : ∀ j, tri xs n1 j ≤ tri ys n2 j) : lev xs n1 n ≤ lev ys n2 n := by
  rcases lev_cases xs n1 n with ⟨h1, h2⟩ | ⟨h1, h2, h3⟩ <;> rcases lev_cases ys n2 n with ⟨g1, g2⟩ | ⟨g1, g2, g3⟩
  · omega
  · have := h2 _ g1
    have := h (lev ys n2 n)
    omega
  · omega
  · rcases Nat.lt_or_ge (lev ys n2 n) (lev xs n1 n) with hl | hl
    · have := h2 _ hl
      have := h (lev ys n2 n)
      omega
    · exact hl

theorem level_hits {f : List (List Nat)} (h : valid f = true) (l : List Hit) (b : Int) (noise : Bool) : level f b noise ≤ level (hits f l) b noise := by
  unfold level
  rw [hits_length]
  split
  · simp only [row]
    rw [hits_row_length]
    have := lev_le (n := (nthRow f b.toNat).length / 3) (n1 := noise) (n2 := noise) (xs := nthRow f b.toNat) (ys := nthRow (hits f l) b.toNat) (fun j => psum_le j (fun k => rd_hits h l noise _ k) 3)
    omega
  · exact Int.le_refl _
theorem width_hits (f : List (List Nat)) (l : List Hit) (b : Int) : width (hits f l) b = width f b := by
  simp only [width, row, hits_length, hits_row_length]
theorem soundRow_congr {xs ys : List Nat} (hl : xs.length = ys.length) (h : ∀ j, (nth xs j = 3) = (nth ys j = 3)) : soundRow xs = soundRow ys := by
  unfold soundRow
  rw [hl]
  congr 1
  funext i
  rw [ssum_congr i h]
theorem sound_iff {f : List (List Nat)} : sound f = true ↔ ∀ i, i < f.length → soundRow (nthRow f i) = true := by
  refine ⟨fun h i hi => ?_, sound_all⟩
  unfold sound at h
  rw [List.all_eq_true] at h
  exact h _ (nthRow_mem hi)
theorem sound_hits (f : List (List Nat)) (l : List Hit) : sound (hits f l) = sound f := by
  rw [Bool.eq_iff_iff, sound_iff, sound_iff, hits_length]
  refine forall_congr' fun i => forall_congr' fun _ => ?_
  rw [soundRow_congr (hits_row_length f l i) (fun j => stuck_hits f l i j)]

/-! A pulse that is cut. -/
theorem hits_one (f : List (List Nat)) (b c : Int) (cut : Bool) : pulse f b c cut = hits f [⟨b, c, cut⟩] := rfl
theorem level_cut {f : List (List Nat)} (h : valid f = true) (bank cell : Int) (b : Int) : level (pulse f bank cell true) b false = level f b false := by
  unfold level
  rw [pulse_length]
  split
  · simp only [row]
    rw [pulse_row_length]
    have key : ∀ i k, rd (at_ (pulse f bank cell true) i k) false = rd (at_ f i k) false := by
      intro i k
      rw [at_pulse]
      split
      · exact rd_next_cut (at_le h i k)
      · rfl
    have h1 := lev_le (n := (nthRow f b.toNat).length / 3) (n1 := false) (n2 := false) (xs := nthRow f b.toNat) (ys := nthRow (pulse f bank cell true) b.toNat) (fun j => psum_le j (fun k => Int.le_of_eq (key _ k).symm) 3)
    have h2 := lev_le (n := (nthRow f b.toNat).length / 3) (n1 := false) (n2 := false) (xs := nthRow (pulse f bank cell true) b.toNat) (ys := nthRow f b.toNat) (fun j => psum_le j (fun k => Int.le_of_eq (key _ k)) 3)
    omega
  · rfl
end Go.Proofs.Ytncgechmloekbaa.Fz
