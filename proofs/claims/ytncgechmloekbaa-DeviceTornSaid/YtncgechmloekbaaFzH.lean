/- Fuses: Least, Most, the reference's levels. -/
import Derived.Test.YtncgechmloekbaaFzG
namespace Go.Proofs.Ytncgechmloekbaa
open Go.RowKit

set_option maxRecDepth 100000 in
theorem least_any (v : Value) (f : List (List Nat)) (bank : Int) (w : World) (hf : RRows w w.heap.size v f) :
    Calls Try.prog 20 #[.agg #[v], .int .i64 bank] w fun e w' => e = .returned (.int .i64 (Fz.level f bank false)) ∧ Below w.heap.size w w' := by
  have hf' := hf
  obtain ⟨A, c, vs, rfl, hn, hc, hcs, hrows⟩ := hf
  clear hcs hrows
  go_enter Try.func20, Try.ntmps20
  go_wp2_with (go_at_call 35; with_reducible refine (level_least _ f _ _ ((hf'.below (Below.new _)).more (by simp))).mono ?_; rintro e w1 ⟨rfl, hb1⟩)
  go_ret
  exact ⟨rfl, (Below.new _).trans (hb1.mono (by simp))⟩

namespace Fz
theorem readV_at {f : List (List Nat)} {k i : Nat} (m : Nat) (hk : k < f.length) (hi : i < (nthRow f k).length / 3) (hm : m < 3) (noise : Bool) : readV f k (3 * (i : Int) + m) noise = rd (nth (nthRow f k) (i * 3 + m)) noise := by
  have h1 : ex f k (3 * (i : Int) + m) = true := by simp [ex, row, hk]; omega
  have h2 : (3 * (i : Int) + m).toNat = i * 3 + m := by omega
  simp [readV, h1, cellOf, row, h2]
theorem readV_0 {f : List (List Nat)} {k i : Nat} (hk : k < f.length) (hi : i < (nthRow f k).length / 3) (noise : Bool) : readV f k (3 * (i : Int)) noise = rd (nth (nthRow f k) (i * 3)) noise := by
  simpa using readV_at 0 hk hi (by omega) noise
theorem tri_eq (xs : List Nat) (noise : Bool) (i : Nat) : tri xs noise i = rd (nth xs (i * 3)) noise + rd (nth xs (i * 3 + 1)) noise + rd (nth xs (i * 3 + 2)) noise := by simp [tri, psum]
end Fz

end Go.Proofs.Ytncgechmloekbaa
