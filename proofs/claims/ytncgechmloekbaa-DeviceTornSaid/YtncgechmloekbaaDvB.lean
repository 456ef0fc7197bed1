/- Device: Same of both packages. -/
import Derived.Test.YtncgechmloekbaaDvA
import Derived.ChangeKeysEq
namespace Go.Proofs.Ytncgechmloekbaa
open Go.RowKit

/-- root keys: sixteen bytes -/
def rootEq (r s : Nat → Int) : Bool := (List.range 16).all fun i => r i == s i
def rootCells (r : Nat → Int) : Array Value := #[.int .u8 (r 0), .int .u8 (r 1), .int .u8 (r 2), .int .u8 (r 3), .int .u8 (r 4), .int .u8 (r 5), .int .u8 (r 6), .int .u8 (r 7), .int .u8 (r 8), .int .u8 (r 9), .int .u8 (r 10), .int .u8 (r 11), .int .u8 (r 12), .int .u8 (r 13), .int .u8 (r 14), .int .u8 (r 15)]
theorem rootCells_at (r : Nat → Int) {i : Nat} (hi : i < 16) : (rootCells r)[i]? = some (.int .u8 (r i)) := by
  have h : ∀ i : Fin 16, (rootCells r)[i.val]? = some (.int .u8 (r i.val)) := by
    intro i
    match i with
    | ⟨0, _⟩ => rfl
    | ⟨1, _⟩ => rfl
    | ⟨2, _⟩ => rfl
    | ⟨3, _⟩ => rfl
    | ⟨4, _⟩ => rfl
    | ⟨5, _⟩ => rfl
    | ⟨6, _⟩ => rfl
    | ⟨7, _⟩ => rfl
    | ⟨8, _⟩ => rfl
    | ⟨9, _⟩ => rfl
    | ⟨10, _⟩ => rfl
    | ⟨11, _⟩ => rfl
    | ⟨12, _⟩ => rfl
    | ⟨13, _⟩ => rfl
    | ⟨14, _⟩ => rfl
    | ⟨15, _⟩ => rfl
    | ⟨n + 16, h⟩ => exact absurd h (by omega)
  exact h ⟨i, hi⟩
theorem eqItems_root (r s : Nat → Int) (w : World) : ∀ is : List Nat, (∀ i ∈ is, i < 16) → (Op.eqItems 9999 5 1 (rootCells r) (rootCells s) is).run Try.prog w = .ok (is.all fun i => r i == s i) w := by
  intro is
  have he : Try.prog.plainKey 5 = true := by kernel_rfl
  induction is with
  | nil => intro _; simp [Op.eqItems]
  | cons j is ih =>
    intro h
    have hj := h j (List.mem_cons_self ..)
    have e1 := run_part_plain (P := Try.prog) (w := w) he (off := j * 1) (by rw [Nat.mul_one]; exact rootCells_at r hj)
    have e2 := run_part_plain (P := Try.prog) (w := w) he (off := j * 1) (by rw [Nat.mul_one]; exact rootCells_at s hj)
    have e3 := run_equalIn_int (P := Try.prog) w 9998 5 .u8 .u8 (r j) (s j) Try.underlying5
    simp only [Op.eqItems, Sem.run_bind, e1, e2, e3, Result.andThen_ok]
    cases hrs : (r j == s j)
    · simp [hrs]
    · simp only [Bool.not_true, Bool.false_eq_true, if_false, ih (fun i hi => h i (List.mem_cons_of_mem _ hi)), List.all_cons, hrs, Bool.true_and]
theorem run_root (r s : Nat → Int) (w : World) : Sem.run Try.prog (Op.equalIn 10000 29 (.agg #[.int .u8 (r 0), .int .u8 (r 1), .int .u8 (r 2), .int .u8 (r 3), .int .u8 (r 4), .int .u8 (r 5), .int .u8 (r 6), .int .u8 (r 7), .int .u8 (r 8), .int .u8 (r 9), .int .u8 (r 10), .int .u8 (r 11), .int .u8 (r 12), .int .u8 (r 13), .int .u8 (r 14), .int .u8 (r 15)]) (.agg #[.int .u8 (s 0), .int .u8 (s 1), .int .u8 (s 2), .int .u8 (s 3), .int .u8 (s 4), .int .u8 (s 5), .int .u8 (s 6), .int .u8 (s 7), .int .u8 (s 8), .int .u8 (s 9), .int .u8 (s 10), .int .u8 (s 11), .int .u8 (s 12), .int .u8 (s 13), .int .u8 (s 14), .int .u8 (s 15)])) w = .ok (rootEq r s) w := by
  have hi : ∃ i, Try.prog.info? 5 = some i := by
    obtain ⟨i0, h, _⟩ := info_parts Fm.infoU8
    exact ⟨i0, h⟩
  obtain ⟨i, hi⟩ := hi
  have h := run_equalIn_array (P := Try.prog) (w := w) 9999 (rootCells r) (rootCells s) Try.underlying29 hi
  refine h.trans ?_
  have hc : Try.prog.cellsOf 5 = 1 := by kernel_rfl
  rw [hc]
  exact eqItems_root r s w _ (fun i hi => List.mem_range.1 hi)

def hwSame (f g : List (List Nat)) (m n : List ByteArray) (r s : Nat → Int) : Bool := rootEq r s && Fm.Fl.same m n && Fz.same f g
theorem RRows.form_ {w : World} {B : Nat} {v : Value} {f : List (List Nat)} (h : RRows w B v f) : ∃ A c, v = .slice A f.length c ∧ f.length ≤ c ∧ c ≤ maxLen := by
  obtain ⟨A, c, _, h1, h2, h3, _⟩ := h
  exact ⟨A, c, h1, h2, h3⟩

set_option maxRecDepth 100000 in
set_option maxHeartbeats 2000000 in
theorem dsame_any (v u v2 u2 : Value) (f g : List (List Nat)) (m n : List ByteArray) (r s : Nat → Int) (w : World) (hf : RRows w w.heap.size v f) (hm : Fm.RStrs w w.heap.size u m) (hg : RRows w w.heap.size v2 g) (hn : Fm.RStrs w w.heap.size u2 n) :
    Calls Try.prog 15 #[.agg #[v, u, .int .u8 (r 0), .int .u8 (r 1), .int .u8 (r 2), .int .u8 (r 3), .int .u8 (r 4), .int .u8 (r 5), .int .u8 (r 6), .int .u8 (r 7), .int .u8 (r 8), .int .u8 (r 9), .int .u8 (r 10), .int .u8 (r 11), .int .u8 (r 12), .int .u8 (r 13), .int .u8 (r 14), .int .u8 (r 15)], .agg #[v2, u2, .int .u8 (s 0), .int .u8 (s 1), .int .u8 (s 2), .int .u8 (s 3), .int .u8 (s 4), .int .u8 (s 5), .int .u8 (s 6), .int .u8 (s 7), .int .u8 (s 8), .int .u8 (s 9), .int .u8 (s 10), .int .u8 (s 11), .int .u8 (s 12), .int .u8 (s 13), .int .u8 (s 14), .int .u8 (s 15)]] w fun e w' => e = .returned (.bool (hwSame f g m n r s)) ∧ Below w.heap.size w w' := by
  obtain ⟨A, c, rfl, -, -⟩ := hf.form_
  obtain ⟨A2, c2, rfl, -, -⟩ := hg.form_
  obtain ⟨A3, c3, rfl, -, -⟩ := hm.form
  obtain ⟨A4, c4, rfl, -, -⟩ := hn.form
  have hR := run_root r s
  have hB : ∀ o1 o2, Below w.heap.size w ((w.alloc o1).alloc o2) := fun o1 o2 => ((Below.refl _ _).alloc (Nat.le_refl _) _).alloc (by simp) _
  cases hr : rootEq r s
  · have H := Lib.hid (show hwSame f g m n r s = false by simp [hwSame, hr])
    rw [hr] at hR
    clear hr
    go_enter Try.func15, Try.ntmps15
    go_wp2
    go_ret
    exact ⟨ret_bool H.out.symm, hB _ _⟩
  · cases hs : Fm.Fl.same m n
    · have H := Lib.hid (show hwSame f g m n r s = false by simp [hwSame, hs])
      have HS := Lib.hid hs
      rw [hr] at hR
      clear hr hs
      go_enter Try.func15, Try.ntmps15
      go_wp2_with (go_at_call 32; (with_reducible refine (Fm.same_any _ _ _ _ _ ((hm.below (hB _ _)).more (hB _ _).size) ((hn.below (hB _ _)).more (hB _ _).size)).mono ?_); rintro e w1 ⟨rfl, hb1⟩; rw [HS.out]; have hb1 := (hB _ _).trans (hb1.mono (hB _ _).size))
      go_ret
      exact ⟨ret_bool H.out.symm, hb1⟩
    · have H := Lib.hid (show hwSame f g m n r s = Fz.same f g by simp [hwSame, hs, hr])
      have HS := Lib.hid hs
      rw [hr] at hR
      clear hr hs
      go_enter Try.func15, Try.ntmps15
      go_wp2_with fail
      refine (Fm.same_any _ _ _ _ _ ((hm.below (hB _ _)).more (hB _ _).size) ((hn.below (hB _ _)).more (hB _ _).size)).mono ?_
      rintro e w1 ⟨rfl, hb1⟩
      rw [HS.out]
      obtain ⟨hk1, hk2⟩ := bcell hb1
      have hz1 := hb1.size
      simp only [World.size_alloc] at hz1 hk1 hk2
      have hz2 : w.heap.size < w1.heap.size := by omega
      have hb1 := (hB _ _).trans (hb1.mono (hB _ _).size)
      go_wp2_with fail
      refine (equalFunc_any _ _ _ _ _ ((hf.below hb1).more hb1.size) ((hg.below hb1).more hb1.size)).mono ?_
      rintro e w2 ⟨rfl, hb2⟩
      have hb2 := hb1.trans (hb2.mono hb1.size)
      go_wp2
      go_ret
      exact ⟨ret_bool H.out.symm, hb2⟩

end Go.Proofs.Ytncgechmloekbaa
