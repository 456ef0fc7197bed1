/- Flash: a slice of strings; the plain functions; the walks of the small functions: has, Read of both, Small. -/
import Derived.Test.YtncgechmloekbaaMem
namespace Go.Proofs.Ytncgechmloekbaa.Fm
open Go.RowKit

def nthS (f : List ByteArray) (k : Nat) : ByteArray := f.getD k ByteArray.empty
/-- A slice of strings. -/
def RStrs (w : World) (B : Nat) (v : Value) (f : List ByteArray) : Prop :=
  ∃ A c, v = .slice A f.length c ∧ f.length ≤ c ∧ c ≤ maxLen ∧ (∀ s ∈ f, s.size ≤ maxLen) ∧ Cells w B A f.length (fun i => .string (nthS f i))
theorem RStrs.below {w w' : World} {B : Nat} {v : Value} {f : List ByteArray} (h : RStrs w B v f) (hb : Below B w w') : RStrs w' B v f := by
  obtain ⟨A, c, h1, h2, h3, h4, h5⟩ := h
  exact ⟨A, c, h1, h2, h3, h4, h5.below hb⟩
theorem RStrs.more {w : World} {B B' : Nat} {v : Value} {f : List ByteArray} (h : RStrs w B v f) (hB : B ≤ B') : RStrs w B' v f := by
  obtain ⟨A, c, h1, h2, h3, h4, h5⟩ := h
  exact ⟨A, c, h1, h2, h3, h4, h5.more hB⟩
theorem nthS_mem {f : List ByteArray} {k : Nat} (hk : k < f.length) : nthS f k ∈ f := by
  simp only [nthS, List.getD_eq_getElem?_getD, List.getElem?_eq_getElem hk, Option.getD_some]
  exact List.getElem_mem hk
theorem RStrs.form {w : World} {B : Nat} {v : Value} {f : List ByteArray} (h : RStrs w B v f) : ∃ A c, v = .slice A f.length c ∧ f.length ≤ c ∧ c ≤ maxLen := by
  obtain ⟨A, c, h1, h2, h3, _⟩ := h
  exact ⟨A, c, h1, h2, h3⟩
theorem RStrs.at_ {w : World} {B : Nat} {A : Option Addr} {n c : Nat} {f : List ByteArray} (h : RStrs w B (.slice A n c) f) {k : Nat} (hk : k < f.length) :
    ∃ b o, A = some ⟨b, o, none⟩ ∧ b < B ∧ w.cell? ⟨b, o + k, none⟩ = some (.string (nthS f k)) ∧ (nthS f k).size ≤ maxLen := by
  obtain ⟨A', c', h1, h2, h3, h4, h5⟩ := h
  cases h1
  obtain ⟨b, o, hA, hb, hc⟩ := h5 (by omega)
  exact ⟨b, o, hA, hb, hc k hk, h4 _ (nthS_mem hk)⟩

namespace Fl
def has (f : List ByteArray) (s : Int) : Bool := decide (0 ≤ s ∧ s < f.length)
def readV (f : List ByteArray) (s : Int) : ByteArray := if has f s then nthS f s.toNat else ByteArray.empty
def readE (f : List ByteArray) (s : Int) : Int := if has f s then 0 else 13
def valid (f : List ByteArray) : Bool := decide (f.length ≤ 128) && f.all fun s => decide (s.size = 256)
def small (f : List ByteArray) : Bool := decide (f.length ≤ 150) && f.all fun s => decide (s.size ≤ 300)
def same (f g : List ByteArray) : Bool := decide (f = g)
theorem small_long {f : List ByteArray} (h : ¬ f.length ≤ 150) : small f = false := by simp [small, h]
theorem small_bad {f : List ByteArray} {k : Nat} (hk : k < f.length) (h : ¬ (nthS f k).size ≤ 300) : small f = false := by
  unfold small
  rw [Bool.and_eq_false_iff]
  right
  rw [List.all_eq_false]
  exact ⟨nthS f k, nthS_mem hk, by simpa using h⟩
theorem all_nthS {f : List ByteArray} {p : ByteArray → Bool} (h : ∀ j, j < f.length → p (nthS f j) = true) : f.all p = true := by
  rw [List.all_eq_true]
  intro x hx
  obtain ⟨j, hj, rfl⟩ := List.getElem_of_mem hx
  have := h j hj
  simpa [nthS, hj] using this
theorem small_yes {f : List ByteArray} (h1 : f.length ≤ 150) (h : ∀ j, j < f.length → (nthS f j).size ≤ 300) : small f = true := by
  unfold small
  rw [all_nthS (p := fun s => decide (s.size ≤ 300)) (fun j hj => by simpa using h j hj)]
  simpa using h1
theorem valid_long {f : List ByteArray} (h : ¬ f.length ≤ 128) : valid f = false := by simp [valid, h]
theorem valid_bad {f : List ByteArray} {k : Nat} (hk : k < f.length) (h : ¬ (nthS f k).size = 256) : valid f = false := by
  unfold valid
  rw [Bool.and_eq_false_iff]
  right
  rw [List.all_eq_false]
  exact ⟨nthS f k, nthS_mem hk, by simpa using h⟩
theorem valid_yes {f : List ByteArray} (h1 : f.length ≤ 128) (h : ∀ j, j < f.length → (nthS f j).size = 256) : valid f = true := by
  unfold valid
  rw [all_nthS (p := fun s => decide (s.size = 256)) (fun j hj => by simpa using h j hj)]
  simpa using h1
theorem ext_nthS {f g : List ByteArray} (hl : f.length = g.length) (h : ∀ j, j < f.length → nthS f j = nthS g j) : f = g := by
  refine List.ext_getElem hl fun j h1 h2 => ?_
  have := h j h1
  simpa [nthS, h1, h2] using this
theorem same_len {f g : List ByteArray} (h : f.length ≠ g.length) : same f g = false := by
  simp only [same, decide_eq_false_iff_not]; rintro rfl; exact h rfl
theorem same_bad {f g : List ByteArray} {k : Nat} (h : nthS f k ≠ nthS g k) : same f g = false := by
  simp only [same, decide_eq_false_iff_not]; rintro rfl; exact h rfl
theorem same_yes {f g : List ByteArray} (hl : f.length = g.length) (h : ∀ j, j < f.length → nthS f j = nthS g j) : same f g = true := by
  simp only [same, decide_eq_true_eq]; exact ext_nthS hl h
theorem same_refl (f : List ByteArray) : same f f = true := by simp [same]
theorem upto_succ {p : Nat → Prop} {k : Nat} (h : ∀ j, j < k → p j) (hk : p k) : ∀ j, j < k + 1 → p j := by
  intro j hj
  rcases Nat.lt_succ_iff_lt_or_eq.1 hj with g | g
  · exact h j g
  · subst g; exact hk
end Fl

theorem ret_int {k : IntKind} {a b : Int} (h : a = b) : Ending.returned (.int k a) = .returned (.int k b) := by rw [h]
theorem ret_bool {a b : Bool} (h : a = b) : Ending.returned (.bool a) = .returned (.bool b) := by rw [h]
theorem ret_strE {k : IntKind} {a b : ByteArray} {c d : Int} (h : a = b) (h' : c = d) : Ending.returned (.tuple #[.string a, .int k c]) = .returned (.tuple #[.string b, .int k d]) := by rw [h, h']

set_option maxRecDepth 100000 in
theorem has_any (v : Value) (f : List ByteArray) (s : Int) (w : World) (hf : RStrs w w.heap.size v f) :
    Calls Try.prog 58 #[.agg #[v], .int .i64 s] w fun e w' => e = .returned (.bool (Fl.has f s)) ∧ Below w.heap.size w w' := by
  obtain ⟨A, c, rfl, hn, hc⟩ := hf.form
  unfold maxLen at hc
  clear hf
  by_cases h0 : 0 ≤ s
  · by_cases h1 : s < f.length
    · have H := Lib.hid (show Fl.has f s = true by simp [Fl.has, h0, h1])
      go_enter Try.func58, Try.ntmps58
      go_wp2
      go_ret
      exact ⟨ret_bool H.out.symm, (Below.refl _ _).alloc (Nat.le_refl _) _⟩
    · have H := Lib.hid (show Fl.has f s = false by simp [Fl.has, h1])
      go_enter Try.func58, Try.ntmps58
      go_wp2
      go_ret
      exact ⟨ret_bool H.out.symm, (Below.refl _ _).alloc (Nat.le_refl _) _⟩
  · have H := Lib.hid (show Fl.has f s = false by simp [Fl.has, h0])
    go_enter Try.func58, Try.ntmps58
    go_wp2
    go_ret
    exact ⟨ret_bool H.out.symm, (Below.refl _ _).alloc (Nat.le_refl _) _⟩

set_option maxRecDepth 100000 in
theorem read_any (v : Value) (f : List ByteArray) (s : Int) (w : World) (hf : RStrs w w.heap.size v f) :
    Calls Try.prog 45 #[.agg #[v], .int .i64 s] w fun e w' => e = .returned (.tuple #[.string (Fl.readV f s), .int .i64 (Fl.readE f s)]) ∧ Below w.heap.size w w' := by
  obtain ⟨A, c, rfl, hn, hc⟩ := hf.form
  unfold maxLen at hc
  cases hx : Fl.has f s
  · have H := Lib.hid hx
    clear hx
    have H1 := Lib.hid (show Fl.readV f s = ByteArray.empty by simp [Fl.readV, H.out])
    have H2 := Lib.hid (show Fl.readE f s = 13 by simp [Fl.readE, H.out])
    go_enter Try.func45, Try.ntmps45
    go_wp2_with (go_at_call 58; with_reducible refine (has_any _ f _ _ ((hf.below (Below.new _)).more (by simp))).mono ?_; rintro e w1 ⟨rfl, hb1⟩; rw [H.out])
    go_ret2
    exact ⟨ret_strE H1.out.symm H2.out.symm, (Below.new _).trans (hb1.mono (by simp))⟩
  · obtain ⟨h0, h1⟩ := of_decide_eq_true hx
    obtain ⟨k, rfl⟩ := Int.eq_ofNat_of_zero_le h0
    have hk : k < f.length := by omega
    obtain ⟨b, o, rfl, hb, hcell, hsz⟩ := hf.at_ hk
    have H := Lib.hid hx
    clear hx
    have H1 := Lib.hid (show Fl.readV f k = nthS f k by simp [Fl.readV, H.out])
    have H2 := Lib.hid (show Fl.readE f k = 0 by simp [Fl.readE, H.out])
    go_enter Try.func45, Try.ntmps45
    go_wp2_with (go_at_call 58; with_reducible refine (has_any _ f _ _ ((hf.below (Below.new _)).more (by simp))).mono ?_; rintro e w1 ⟨rfl, hb1⟩; rw [H.out]; obtain ⟨hk1, hk2⟩ := bcell hb1)
    go_ret2
    exact ⟨ret_strE H1.out.symm H2.out.symm, (Below.new _).trans (hb1.mono (by simp))⟩

set_option maxRecDepth 100000 in
theorem rread_any (v : Value) (f : List ByteArray) (s : Int) (w : World) (hf : RStrs w w.heap.size v f) :
    Calls Try.prog 25 #[.agg #[v], .int .i64 s] w fun e w' => e = .returned (.tuple #[.string (Fl.readV f s), .int .i64 (Fl.readE f s)]) ∧ Below w.heap.size w w' := by
  obtain ⟨A, c, rfl, hn, hc⟩ := hf.form
  unfold maxLen at hc
  by_cases h0 : 0 ≤ s
  · by_cases h1 : s < f.length
    · obtain ⟨k, rfl⟩ := Int.eq_ofNat_of_zero_le h0
      have hk : k < f.length := by omega
      obtain ⟨b, o, rfl, hb, hcell, hsz⟩ := hf.at_ hk
      have H1 := Lib.hid (show Fl.readV f k = nthS f k by simp [Fl.readV, Fl.has, hk])
      have H2 := Lib.hid (show Fl.readE f k = 0 by simp [Fl.readE, Fl.has, hk])
      go_enter Try.func25, Try.ntmps25
      go_wp2
      go_ret2
      exact ⟨ret_strE H1.out.symm H2.out.symm, Below.new _⟩
    · have H1 := Lib.hid (show Fl.readV f s = ByteArray.empty by simp [Fl.readV, Fl.has, h1])
      have H2 := Lib.hid (show Fl.readE f s = 13 by simp [Fl.readE, Fl.has, h1])
      clear hf
      go_enter Try.func25, Try.ntmps25
      go_wp2
      go_ret2
      exact ⟨ret_strE H1.out.symm H2.out.symm, Below.new _⟩
  · have H1 := Lib.hid (show Fl.readV f s = ByteArray.empty by simp [Fl.readV, Fl.has, h0])
    have H2 := Lib.hid (show Fl.readE f s = 13 by simp [Fl.readE, Fl.has, h0])
    clear hf
    go_enter Try.func25, Try.ntmps25
    go_wp2
    go_ret2
    exact ⟨ret_strE H1.out.symm H2.out.symm, Below.new _⟩

end Go.Proofs.Ytncgechmloekbaa.Fm
