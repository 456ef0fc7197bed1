/- Flash: the laws' sanity. -/
import Derived.Test.YtnmleaibonnbnaaFlK
namespace Go.Proofs.Ytnmleaibonnbnaa
open Go.RowKit

namespace Fl
def F0 : List ByteArray := newF 2
def G0 : List ByteArray := write F0 1 (full 7) 3
theorem sn : newE 2 = 0 := by decide
theorem sbig : newE 129 = 1 := by decide
theorem sa : writeE F0 1 (full 7) = 0 := by decide +kernel
theorem sb : readE G0 1 = 0 := by decide +kernel
theorem sc : writeE F0 2 (full 7) = 13 := by decide +kernel
theorem sd : writeE F0 0 ⟨#[120]⟩ = 1 := by decide +kernel
theorem snone : readE F0 2 = 13 := by decide +kernel
theorem ss : readV G0 1 = ⟨#[7, 7, 7]⟩ ++ (full 0).extract 3 256 := by decide +kernel
theorem sv : valid G0 = true := by decide +kernel
theorem sw : valid [⟨#[]⟩] = false := by decide +kernel
theorem sx : same F0 F0 = true := same_refl _
theorem sy : same F0 G0 = false := by decide +kernel
end Fl

end Go.Proofs.Ytnmleaibonnbnaa
