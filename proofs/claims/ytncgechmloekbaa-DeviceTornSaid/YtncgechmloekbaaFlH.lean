/- Flash: the closure of Write. -/
import Derived.Test.YtncgechmloekbaaFlG
namespace Go.Proofs.Ytncgechmloekbaa.Fm
open Go.RowKit

namespace Fl
/-- what a write leaves in its sector -/
def merge (old b : ByteArray) (cut : Int) : ByteArray := if cut < 0 ∨ (b.size : Int) ≤ cut then b else b.extract 0 cut.toNat ++ old.extract (min cut (old.size : Int)).toNat old.size
def writeOK (f : List ByteArray) (s : Int) (b : ByteArray) : Bool := has f s && decide (b.size = 256)
def write (f : List ByteArray) (s : Int) (b : ByteArray) (cut : Int) : List ByteArray := if writeOK f s b then f.set s.toNat (merge (nthS f s.toNat) b cut) else f
def writeE (f : List ByteArray) (s : Int) (b : ByteArray) : Int := if has f s then (if b.size = 256 then 0 else 1) else 13
end Fl

set_option maxRecDepth 100000 in
theorem merge_any (old b : ByteArray) (cut : Int) (p q : Nat) (w : World) (hp : w.cell? ⟨p, 0, none⟩ = some (.int .i64 cut)) (hq : w.cell? ⟨q, 0, none⟩ = some (.string b)) (hb : b.size = 256) (ho : old.size ≤ maxLen) :
    Calls Try.prog 59 #[.string old, .pointer (some ⟨p, 0, none⟩), .pointer (some ⟨q, 0, none⟩)] w fun e w' => e = .returned (.string (Fl.merge old b cut)) ∧ Below w.heap.size w w' := by
  unfold maxLen at ho
  by_cases h0 : cut < 0
  · have H := Lib.hid (show Fl.merge old b cut = b by simp [Fl.merge, h0])
    go_enter Try.func59, Try.ntmps59
    go_wp2
    go_ret
    exact ⟨ret_str H.out.symm, Below.refl _ _⟩
  · by_cases h1 : 256 ≤ cut
    · have hb2 : (b.size : Int) ≤ cut := by omega
      have H := Lib.hid (show Fl.merge old b cut = b by simp [Fl.merge, hb2])
      go_enter Try.func59, Try.ntmps59
      go_wp2
      go_ret
      exact ⟨ret_str H.out.symm, Below.refl _ _⟩
    · obtain ⟨c, rfl⟩ := Int.eq_ofNat_of_zero_le (show 0 ≤ cut by omega)
      have hc : c < 256 := by omega
      have e0 : decide ((c : Int) < 0) = false := by simp
      have e1 : decide ((b.size : Int) ≤ (c : Int)) = false := by simp; omega
      have H := Lib.hid (show Fl.merge old b c = b.extract 0 c ++ old.extract (min (c : Int) (old.size : Int)).toNat old.size by unfold Fl.merge; rw [if_neg (by omega)]; rfl)
      go_enter Try.func59, Try.ntmps59
      go_wp2
      go_region
      go_wp2
      go_ret
      exact ⟨ret_str H.out.symm, (Below.refl _ _).drew⟩

end Go.Proofs.Ytncgechmloekbaa.Fm
