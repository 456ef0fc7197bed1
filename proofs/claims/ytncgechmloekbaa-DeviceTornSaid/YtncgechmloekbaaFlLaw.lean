/- Flash: the plain laws: what a write leaves in its sector. -/
import Derived.Test.YtncgechmloekbaaFlK
namespace Go.Proofs.Ytncgechmloekbaa.Fm.Fl
open Go.RowKit

/-- how many bytes of the new content are there -/
def eff (cut : Int) : Nat := if cut < 0 ∨ 256 ≤ cut then 256 else cut.toNat
theorem eff_le (cut : Int) : eff cut ≤ 256 := by unfold eff; split <;> omega
theorem eff_neg : eff (-1) = 256 := by decide
theorem eff_max (a b : Nat) : eff (max (a : Int) (b : Int)) = max (eff a) (eff b) := by unfold eff; split <;> split <;> split <;> omega
theorem eff_lt {cut : Int} {i : Nat} (hi : i < 256) : i < eff cut ↔ cut < 0 ∨ (i : Int) < cut := by unfold eff; split <;> omega

theorem merge_data {old b : ByteArray} (cut : Int) (hb : b.size = 256) (ho : old.size = 256) : (merge old b cut).data.toList = b.data.toList.take (eff cut) ++ old.data.toList.drop (eff cut) := by
  have hb' : b.data.toList.length = 256 := by simpa using hb
  have ho' : old.data.toList.length = 256 := by simpa using ho
  unfold merge eff
  by_cases h : cut < 0 ∨ 256 ≤ cut
  · rw [if_pos (by omega), if_pos h, List.take_of_length_le (by omega), List.drop_of_length_le (by omega), List.append_nil]
  · rw [if_neg (by omega), if_neg h]
    have e : (min cut (old.size : Int)).toNat = cut.toNat := by omega
    rw [e]
    simp only [ByteArray.data_append, ByteArray.data_extract, Array.toList_append, Array.toList_extract, List.extract_eq_take_drop]
    rw [List.drop_zero, Nat.sub_zero, List.take_of_length_le (l := List.drop _ _) (by rw [List.length_drop]; omega)]

theorem merge_size' {old b : ByteArray} (cut : Int) (hb : b.size = 256) (ho : old.size = 256) : (merge old b cut).size = 256 := by
  have h := congrArg List.length (merge_data cut hb ho)
  have hb' : b.data.toList.length = 256 := by simpa using hb
  have ho' : old.data.toList.length = 256 := by simpa using ho
  have := eff_le cut
  simp only [List.length_append, List.length_take, List.length_drop, hb', ho'] at h
  have e : (merge old b cut).data.toList.length = (merge old b cut).size := by simp
  omega

theorem merge_get {old b : ByteArray} (cut : Int) (hb : b.size = 256) (ho : old.size = 256) (i : Nat) : (merge old b cut).data.toList[i]? = if i < eff cut then b.data.toList[i]? else old.data.toList[i]? := by
  have hb' : b.data.toList.length = 256 := by simpa using hb
  have := eff_le cut
  rw [merge_data cut hb ho, List.getElem?_append, List.length_take, hb', Nat.min_eq_left this]
  split
  · rw [List.getElem?_take]; simp [*]
  · rw [List.getElem?_drop]; congr 1; omega

theorem bytes_ext {a b : ByteArray} (h : ∀ i : Nat, a.data.toList[i]? = b.data.toList[i]?) : a = b := by
  have := List.ext_getElem? h
  cases a; cases b
  simpa [Array.toList_inj] using this

theorem merge_merge {old b : ByteArray} (c1 c2 c3 : Int) (hb : b.size = 256) (ho : old.size = 256) (he : eff c3 = max (eff c1) (eff c2)) : merge (merge old b c1) b c2 = merge old b c3 := by
  refine bytes_ext fun i => ?_
  rw [merge_get c2 hb (merge_size' c1 hb ho), merge_get c1 hb ho, merge_get c3 hb ho, he]
  by_cases h1 : i < eff c1
  · by_cases h2 : i < eff c2
    · rw [if_pos h2, if_pos (by omega)]
    · rw [if_neg h2, if_pos h1, if_pos (by omega)]
  · by_cases h2 : i < eff c2
    · rw [if_pos h2, if_pos (by omega)]
    · rw [if_neg h2, if_neg h1, if_neg (by omega)]

theorem valid_len {f : List ByteArray} (h : valid f = true) : f.length ≤ 128 := by
  simp only [valid, Bool.and_eq_true, decide_eq_true_eq] at h; exact h.1
theorem valid_size {f : List ByteArray} (h : valid f = true) {k : Nat} (hk : k < f.length) : (nthS f k).size = 256 := by
  simp only [valid, Bool.and_eq_true, List.all_eq_true, decide_eq_true_eq] at h
  exact h.2 _ (nthS_mem hk)
theorem write_yes_eq {f : List ByteArray} {k : Nat} {b : ByteArray} (cut : Int) (hk : k < f.length) (hb : b.size = 256) : write f k b cut = f.set k (merge (nthS f k) b cut) := (write_out hk hb).1
theorem writeE_yes {f : List ByteArray} {k : Nat} {b : ByteArray} (hk : k < f.length) (hb : b.size = 256) : writeE f k b = 0 := (write_out (cut := 0) hk hb).2
theorem write_length (f : List ByteArray) (s : Int) (b : ByteArray) (cut : Int) : (write f s b cut).length = f.length := by unfold write; split <;> simp
theorem nthS_set_eq {f : List ByteArray} {k : Nat} (x : ByteArray) (hk : k < f.length) : nthS (f.set k x) k = x := by simp [nthS, hk]
theorem nthS_set_ne {f : List ByteArray} {k j : Nat} (x : ByteArray) (h : j ≠ k) : nthS (f.set k x) j = nthS f j := by
  simp only [nthS, List.getD_eq_getElem?_getD, List.getElem?_set_ne (Ne.symm h)]
theorem write_write {f : List ByteArray} {k : Nat} {b : ByteArray} (c1 c2 c3 : Int) (hv : valid f = true) (hk : k < f.length) (hb : b.size = 256) (he : eff c3 = max (eff c1) (eff c2)) :
    write (write f k b c1) k b c2 = write f k b c3 := by
  have hk' : k < (write f k b c1).length := by rw [write_length]; exact hk
  rw [write_yes_eq c2 hk' hb, write_yes_eq c1 hk hb, write_yes_eq c3 hk hb, nthS_set_eq _ hk, List.set_set, merge_merge c1 c2 c3 hb (valid_size hv hk) he]
theorem valid_write {f : List ByteArray} (s : Int) {b : ByteArray} (cut : Int) (hv : valid f = true) : valid (write f s b cut) = true := by
  by_cases h : writeOK f s b = true
  · have h' := h
    simp only [writeOK, Bool.and_eq_true, decide_eq_true_eq] at h'
    obtain ⟨k, rfl, hk⟩ := has_out h'.1
    rw [write_yes_eq cut hk h'.2]
    refine valid_yes (by simpa using valid_len hv) fun j hj => ?_
    have hj' : j < f.length := by simpa using hj
    by_cases e : j = k
    · subst e; rw [nthS_set_eq _ hk]; exact merge_size' cut h'.2 (valid_size hv hk)
    · rw [nthS_set_ne _ e]; exact valid_size hv hj'
  · have : write f s b cut = f := by simp [write, h]
    rwa [this]
theorem write_other {f : List ByteArray} (s : Int) {b : ByteArray} (cut : Int) {j : Nat} (h : ((j : Int) != s || !(writeOK f s b)) = true) : nthS (write f s b cut) j = nthS f j := by
  unfold write
  split
  · rename_i hw
    simp only [hw, Bool.not_true, Bool.or_false, bne_iff_ne, ne_eq] at h
    have hx : has f s = true := by simp only [writeOK, Bool.and_eq_true] at hw; exact hw.1
    obtain ⟨k, rfl, hk⟩ := has_out hx
    exact nthS_set_ne _ (by simp; omega)
  · rfl
end Go.Proofs.Ytncgechmloekbaa.Fm.Fl
