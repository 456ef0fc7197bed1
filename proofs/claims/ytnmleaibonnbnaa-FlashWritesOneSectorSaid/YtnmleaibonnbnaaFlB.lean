/- Flash: Small, Valid, Same of the reference. -/
import Derived.Test.YtnmleaibonnbnaaFlA
namespace Go.Proofs.Ytnmleaibonnbnaa
open Go.RowKit

theorem small_any (v : Value) (f : List ByteArray) (w : World) (hf : RStrs w w.heap.size v f) :
    Calls Try.prog 10 #[.agg #[v]] w fun e w' => e = .returned (.bool (Fl.small f)) ∧ Below w.heap.size w w' := by
  obtain ⟨A, c, rfl, hn, hc⟩ := hf.form
  unfold maxLen at hc
  by_cases h4 : f.length ≤ 150
  · go_enter Try.func10, Try.ntmps10
    go_wp2
    go_loop [3] (fun i => ∃ k : Nat, k ≤ f.length ∧ Hid (∀ j, j < k → (nthS f j).size ≤ 300) ∧ i = .int .i64 k) (fun i => f.length - (intOf i).toNat)
    case atStart => exact ⟨0, Nat.zero_le _, fun j hj => absurd hj (by omega), rfl⟩
    case round =>
      obtain ⟨k, hk, HJ, rfl⟩ := hrel
      by_cases hlt : k < f.length
      · obtain ⟨b, o, rfl, hb, hcell, hsz⟩ := hf.at_ hlt
        unfold maxLen at hsz
        by_cases hs : (nthS f k).size ≤ 300
        · have H := Lib.hid (Fl.upto_succ (p := fun j => (nthS f j).size ≤ 300) HJ.out hs)
          skip
          go_wp2
          go_round
          case rel => exact ⟨k + 1, by omega, H.out, by go_num⟩
          case measure => simp [intOf]; omega
        · have H := Lib.hid (Fl.small_bad hlt hs)
          skip
          go_wp2
          go_ret
          exact ⟨ret_bool H.out.symm, Below.new _⟩
      · have H := Lib.hid (Fl.small_yes h4 (fun j hj => HJ.out j (by omega)))
        go_wp2
        go_ret
        exact ⟨ret_bool H.out.symm, Below.new _⟩
  · have H := Lib.hid (Fl.small_long h4)
    clear hf
    go_enter Try.func10, Try.ntmps10
    go_wp2
    go_ret
    exact ⟨ret_bool H.out.symm, Below.new _⟩

theorem rvalid_any (v : Value) (f : List ByteArray) (w : World) (hf : RStrs w w.heap.size v f) :
    Calls Try.prog 19 #[.agg #[v]] w fun e w' => e = .returned (.bool (Fl.valid f)) ∧ Below w.heap.size w w' := by
  obtain ⟨A, c, rfl, hn, hc⟩ := hf.form
  unfold maxLen at hc
  by_cases h4 : f.length ≤ 128
  · go_enter Try.func19, Try.ntmps19
    go_wp2
    go_loop [3] (fun i => ∃ k : Nat, k ≤ f.length ∧ Hid (∀ j, j < k → (nthS f j).size = 256) ∧ i = .int .i64 k) (fun i => f.length - (intOf i).toNat)
    case atStart => exact ⟨0, Nat.zero_le _, fun j hj => absurd hj (by omega), rfl⟩
    case round =>
      obtain ⟨k, hk, HJ, rfl⟩ := hrel
      by_cases hlt : k < f.length
      · obtain ⟨b, o, rfl, hb, hcell, hsz⟩ := hf.at_ hlt
        unfold maxLen at hsz
        by_cases hs : (nthS f k).size = 256
        · have H := Lib.hid (Fl.upto_succ (p := fun j => (nthS f j).size = 256) HJ.out hs)
          have e1 : (((nthS f k).size : Int) != 256) = false := by simp; omega
          go_wp2
          go_round
          case rel => exact ⟨k + 1, by omega, H.out, by go_num⟩
          case measure => simp [intOf]; omega
        · have H := Lib.hid (Fl.valid_bad hlt hs)
          have e1 : (((nthS f k).size : Int) != 256) = true := by simp; omega
          go_wp2
          go_ret
          exact ⟨ret_bool H.out.symm, Below.new _⟩
      · have H := Lib.hid (Fl.valid_yes h4 (fun j hj => HJ.out j (by omega)))
        go_wp2
        go_ret
        exact ⟨ret_bool H.out.symm, Below.new _⟩
  · have H := Lib.hid (Fl.valid_long h4)
    clear hf
    go_enter Try.func19, Try.ntmps19
    go_wp2
    go_ret
    exact ⟨ret_bool H.out.symm, Below.new _⟩

theorem toList_data (a : ByteArray) : a.toList = a.data.toList := by
  have := ByteArray.toList_mk a.data.toList
  simpa using this
theorem str_ne {a b : ByteArray} (h : a ≠ b) : (a.toList == b.toList) = false := by
  rw [beq_eq_false_iff_ne, toList_data, toList_data]
  intro e
  apply h
  cases a; cases b
  simp only [ByteArray.mk.injEq]
  exact Array.toList_inj.1 e

theorem below_drewN {B : Nat} {a w : World} (h : Below B a w) (n : Nat) : Below B a (w.drewN n) := ⟨h.os, h.tape, h.output, h.size, h.block⟩

theorem rsame_any (v u : Value) (f g : List ByteArray) (w : World) (hf : RStrs w w.heap.size v f) (hg : RStrs w w.heap.size u g) :
    Calls Try.prog 17 #[.agg #[v], .agg #[u]] w fun e w' => e = .returned (.bool (Fl.same f g)) ∧ Below w.heap.size w w' := by
  obtain ⟨A, c, rfl, hn, hc⟩ := hf.form
  obtain ⟨A2, c2, rfl, hn2, hc2⟩ := hg.form
  unfold maxLen at hc hc2
  by_cases hl : f.length = g.length
  · have HL := Lib.hid hl
    have eL : ((f.length : Int) == (g.length : Int)) = true := by simp; omega
    have eL' : ((f.length : Int) != (g.length : Int)) = false := by simp; omega
    have hl1 : f.length ≤ g.length := by omega
    clear hl
    go_enter Try.func17, Try.ntmps17
    go_wp2
    obtain ⟨W1, hW1⟩ : ∃ W1, W1 = (w.alloc (Obj.cells #[Value.slice A f.length c] 24)).alloc (Obj.cells #[Value.slice A2 g.length c2] 24) := ⟨_, rfl⟩
    rw [← hW1]
    have hB1 : Below w.heap.size w W1 := by rw [hW1]; exact ((Below.refl _ _).alloc (Nat.le_refl _) _).alloc (by simp) _
    have q1 : W1.cell? ⟨w.heap.size, 0, none⟩ = some (Value.slice A f.length c) := by rw [hW1]; simp
    have q2 : W1.cell? ⟨w.heap.size + 1, 0, none⟩ = some (Value.slice A2 g.length c2) := by rw [hW1]; simp [go_sem]
    clear hW1
    go_loopw [5] (fun i wr => ∃ k : Nat, k ≤ f.length ∧ Hid (∀ j, j < k → nthS f j = nthS g j) ∧ i = .int .i64 k ∧ Below (w.heap.size + 2) W1 wr) (fun i _ => f.length - (intOf i).toNat)
    case atStart => exact ⟨0, Nat.zero_le _, fun j hj => absurd hj (by omega), rfl, Below.refl _ _⟩
    case round =>
      obtain ⟨k, hk, HJ, rfl, hbw⟩ := hrel
      obtain ⟨hk1, hk2⟩ := bcell hbw
      by_cases hlt : k < f.length
      · obtain ⟨b, o, rfl, hb, hcell, hsz⟩ := (hf.below hB1).at_ hlt
        obtain ⟨b2, o2, rfl, hb2, hcell2, hsz2⟩ := (hg.below hB1).at_ (show k < g.length by omega)
        have hb_ : b < w.heap.size + 2 := by omega
        have hb2_ : b2 < w.heap.size + 2 := by omega
        by_cases hne : nthS f k = nthS g k
        · have H := Lib.hid (Fl.upto_succ (p := fun j => nthS f j = nthS g j) HJ.out hne)
          have eN : ((nthS f k).toList == (nthS g k).toList) = true := by rw [hne]; simp
          clear hne
          go_wp2
          go_quiet (fail)
          go_wp2
          go_roundw
          case rel => exact ⟨k + 1, by omega, H.out, by go_num, below_drewN hbw _⟩
          case measure => simp [intOf]; omega
        · have H := Lib.hid (Fl.same_bad hne)
          have eN : ((nthS f k).toList == (nthS g k).toList) = false := str_ne hne
          clear hne
          go_wp2
          go_quiet (fail)
          go_wp2
          go_ret
          exact ⟨ret_bool H.out.symm, hB1.trans ((below_drewN hbw _).mono (by omega))⟩
      · have H := Lib.hid (Fl.same_yes HL.out (fun j hj => HJ.out j (by omega)))
        go_wp2
        go_ret
        exact ⟨ret_bool H.out.symm, hB1.trans (hbw.mono (by omega))⟩
  · have H := Lib.hid (Fl.same_len hl)
    have eL : ((f.length : Int) == (g.length : Int)) = false := by simp; omega
    have eL' : ((f.length : Int) != (g.length : Int)) = true := by simp; omega
    clear hl
    go_enter Try.func17, Try.ntmps17
    go_wp2
    go_ret
    exact ⟨ret_bool H.out.symm, ((Below.refl _ _).alloc (Nat.le_refl _) _).alloc (by simp) _⟩

end Go.Proofs.Ytnmleaibonnbnaa
