/- Fuses: Valid of the reference. -/
import Derived.Test.YtncgechmloekbaaFzE
namespace Go.Proofs.Ytncgechmloekbaa
open Go.RowKit

namespace Fz
theorem anyBad_hit {xs : List Nat} {k : Nat} (hk : k < xs.length) (hb : 3 < nth xs k) : anyBad xs = true := by
  unfold anyBad
  rw [List.any_eq_true]
  exact ⟨xs[k], List.getElem_mem hk, by simpa [nth, hk] using hb⟩
theorem anyBad_none {xs : List Nat} (h : ∀ j, j < xs.length → nth xs j ≤ 3) : anyBad xs = false := by
  unfold anyBad
  rw [List.any_eq_false]
  intro x hx
  obtain ⟨j, hj, rfl⟩ := List.getElem_of_mem hx
  have := h j hj
  simpa [nth, hj] using this
theorem le3_succ {xs : List Nat} {k : Nat} (h : ∀ j, j < k → nth xs j ≤ 3) (hk : nth xs k ≤ 3) : ∀ j, j < k + 1 → nth xs j ≤ 3 := by
  intro j hj
  rcases Nat.lt_succ_iff_lt_or_eq.1 hj with g | g
  · exact h j g
  · subst g; exact hk
theorem valid_long {f : List (List Nat)} (h : ¬ f.length ≤ 4) : valid f = false := by simp [valid, h]
theorem valid_yes {f : List (List Nat)} (h4 : f.length ≤ 4) (h : ∀ j, j < f.length → fitRow (nthRow f j) = true) : valid f = true := by rw [valid_all h]; simp [h4]
end Fz

set_option maxRecDepth 100000 in
theorem rvalid_any (v : Value) (f : List (List Nat)) (w : World) (hf : RRows w w.heap.size v f) :
    Calls Try.prog 21 #[.agg #[v]] w fun e w' => e = .returned (.bool (Fz.valid f)) ∧ Below w.heap.size w w' := by
  have hf' := hf
  obtain ⟨A, c, vs, rfl, hn, hc, hcs, hrows⟩ := hf
  unfold maxLen at hc
  by_cases h4 : f.length ≤ 4
  · go_enter Try.func21, Try.ntmps21
    go_wp2
    go_loop [3] (fun i => ∃ k : Nat, k ≤ f.length ∧ Hid (∀ j, j < k → Fz.fitRow (nthRow f j) = true) ∧ i = .int .i64 k) (fun i => f.length - (intOf i).toNat)
    case atStart => exact ⟨0, Nat.zero_le _, fun j hj => absurd hj (by omega), rfl⟩
    case round =>
      obtain ⟨k, hk, HJ, rfl⟩ := hrel
      by_cases hlt : k < f.length
      · obtain ⟨b, o, A', c', rfl, hb, hcell, hl, hc', hbd, hg⟩ := hf'.row k hlt
        have HG := Lib.hid hg
        unfold maxLen at hc'
        clear hcs hrows hbd hg hf'
        by_cases h3 : (nthRow f k).length % 3 = 0
        · by_cases h48 : (nthRow f k).length ≤ 48
          · go_wp2
            go_loop [4] (fun i => ∃ m : Nat, m ≤ (nthRow f k).length ∧ Hid (∀ j, j < m → nth (nthRow f k) j ≤ 3) ∧ i = .int .i64 m) (fun i => (nthRow f k).length - (intOf i).toNat)
            case atStart => exact ⟨0, Nat.zero_le _, fun j hj => absurd hj (by omega), rfl⟩
            case round =>
              obtain ⟨m, hm, HM, rfl⟩ := hrel
              by_cases hlm : m < (nthRow f k).length
              · obtain ⟨b', o', rfl, hb', hgg⟩ := HG.out (by omega)
                have hcell2 := hgg m hlm
                clear hgg
                by_cases h5 : nth (nthRow f k) m ≤ 3
                · have H := Lib.hid (Fz.le3_succ HM.out h5)
                  go_wp2
                  go_round
                  case rel => exact ⟨m + 1, by omega, H.out, by go_num⟩
                  case measure => simp [intOf]; omega
                · have H := Lib.hid (Fz.valid_bad hlt (Fz.unfit3 (Fz.anyBad_hit hlm (by omega))))
                  go_wp2
                  go_ret
                  exact ⟨ret_bool H.out.symm, Below.new _⟩
              · have H := Lib.hid (Fz.all_succ HJ.out (Fz.fitRow_of h3 h48 (Fz.anyBad_none (fun j hj => HM.out j (by omega)))))
                go_wp2
                go_round
                case rel => exact ⟨k + 1, by omega, H.out, by go_num⟩
                case measure => simp [intOf]; omega
          · have H := Lib.hid (Fz.valid_bad hlt (Fz.unfit2 h48))
            go_wp2
            go_ret
            exact ⟨ret_bool H.out.symm, Below.new _⟩
        · have H := Lib.hid (Fz.valid_bad hlt (Fz.unfit1 h3))
          go_wp2
          go_ret
          exact ⟨ret_bool H.out.symm, Below.new _⟩
      · have H := Lib.hid (Fz.valid_yes (f := f) h4 (fun j hj => HJ.out j (by omega)))
        clear hcs hrows hf'
        go_wp2
        go_ret
        exact ⟨ret_bool H.out.symm, Below.new _⟩
  · have H := Lib.hid (Fz.valid_long h4)
    clear hcs hrows hf'
    go_enter Try.func21, Try.ntmps21
    go_wp2
    go_ret
    exact ⟨ret_bool H.out.symm, Below.new _⟩

end Go.Proofs.Ytncgechmloekbaa
