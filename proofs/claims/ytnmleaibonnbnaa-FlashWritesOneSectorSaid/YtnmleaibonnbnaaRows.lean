/-
  No cell of these rows narrows 'for every input' (looked for: loops, veiled, ifaces, maps, wideKeys, modest, calm, conditions, laid).
  DERIVED. THE GIVEN ROWS OF THIS SEAT. 6 by the template 'for every input the law returns true; each argument reads behind the call as it read before'; 0 by the template 'total and deterministic' (their statements: YtnmleaibonnbnaaTotals.lean).
  GIVEN WITH THE SEED: the statements are not yours to turn. If you find one false, say at which input.
  Laid BY PROGRAM, IN A SANDBOX (cutbox-rows.mjs): the forced cells as the released guide's own fill.sh prints them over the translation 640a6d0682c3dd54… (all of the seat's roots in one cut). By AI agents, Wed Nov 11 2026. No macro, syntax, notation, axiom, sorry.
-/
import Derived.Test.YtnmleaibonnbnaaChecked
import GoSem.Claim
import GoSem.ClaimJoined
import GoSem.ClaimMapViews
import Derived.JoinedTies
import Derived.KernelRfl
namespace Go.Proofs.Ytnmleaibonnbnaa
/- THE CELL 'sum', in the pinned program and in every row, IS THE sha256 OF THE DUMP (.gsa) THAT YtnmleaibonnbnaaProg.lean LOADS. Nothing in Lean hashes anything: it is a label: what it is worth is what the hold of that sum in a sandbox is worth. -/
noncomputable def Try.pinned : Pinned := { name := "ytnmleaibonnbnaa", sum := "640a6d0682c3dd549a8e015b2d66b8f56dc7bec84ed7b76b4961be7e6efbffa6", checked := Try.checked }
namespace Rows
def none {H : Type} : Left H := { results := [], args := [] }

/-- 'bootchainlaw08.FlashMatchesSpec': WHATEVER THE INPUT: true; the input reads as it did. -/
def flashMatchesSpecSpec : ChangeSpec := { name := "flashMatchesSpec", fn := fun _ => fun
  | [d] => { results := [.lit (.bool true)], args := [d] }
  | _ => none }
def flashMatchesSpecRow : OpenClaim := { program := "ytnmleaibonnbnaa", sum := "640a6d0682c3dd549a8e015b2d66b8f56dc7bec84ed7b76b4961be7e6efbffa6", func := "bootchain/bootchainlaw08.FlashMatchesSpec", spec := "flashMatchesSpec", inPlace := ["internal/abi.NoEscape", "internal/bytealg.MakeNoZero"], unfollowed := true, recurses := true, apart := false }
def FlashMatchesSpecSaid : Prop := flashMatchesSpecRow.holds Try.pinned (OpenSpec.ofChange flashMatchesSpecSpec)

/-- ITS FALSE NEIGHBOUR: 'it returns false'. Refute it at one input. -/
def flashMatchesSpecWrong : ChangeSpec := { name := "flashMatchesSpec", fn := fun _ => fun
  | [d] => { results := [.lit (.bool false)], args := [d] }
  | _ => none }
def FlashMatchesSpecWrongFalsely : Prop := flashMatchesSpecRow.holds Try.pinned (OpenSpec.ofChange flashMatchesSpecWrong)

/-- 'bootchainlaw08.FlashWritesOneSector': WHATEVER THE INPUT: true; the input reads as it did. -/
def flashWritesOneSectorSpec : ChangeSpec := { name := "flashWritesOneSector", fn := fun _ => fun
  | [d] => { results := [.lit (.bool true)], args := [d] }
  | _ => none }
def flashWritesOneSectorRow : OpenClaim := { program := "ytnmleaibonnbnaa", sum := "640a6d0682c3dd549a8e015b2d66b8f56dc7bec84ed7b76b4961be7e6efbffa6", func := "bootchain/bootchainlaw08.FlashWritesOneSector", spec := "flashWritesOneSector", inPlace := ["internal/abi.NoEscape", "internal/bytealg.MakeNoZero"], unfollowed := true, recurses := true, apart := false }
def FlashWritesOneSectorSaid : Prop := flashWritesOneSectorRow.holds Try.pinned (OpenSpec.ofChange flashWritesOneSectorSpec)

/-- ITS FALSE NEIGHBOUR: 'it returns false'. Refute it at one input. -/
def flashWritesOneSectorWrong : ChangeSpec := { name := "flashWritesOneSector", fn := fun _ => fun
  | [d] => { results := [.lit (.bool false)], args := [d] }
  | _ => none }
def FlashWritesOneSectorWrongFalsely : Prop := flashWritesOneSectorRow.holds Try.pinned (OpenSpec.ofChange flashWritesOneSectorWrong)

/-- 'bootchainlaw08.FlashTearsAtByte': WHATEVER THE INPUT: true; the input reads as it did. -/
def flashTearsAtByteSpec : ChangeSpec := { name := "flashTearsAtByte", fn := fun _ => fun
  | [d] => { results := [.lit (.bool true)], args := [d] }
  | _ => none }
def flashTearsAtByteRow : OpenClaim := { program := "ytnmleaibonnbnaa", sum := "640a6d0682c3dd549a8e015b2d66b8f56dc7bec84ed7b76b4961be7e6efbffa6", func := "bootchain/bootchainlaw08.FlashTearsAtByte", spec := "flashTearsAtByte", inPlace := ["internal/abi.NoEscape", "internal/bytealg.MakeNoZero"], unfollowed := true, recurses := true, apart := false }
def FlashTearsAtByteSaid : Prop := flashTearsAtByteRow.holds Try.pinned (OpenSpec.ofChange flashTearsAtByteSpec)

/-- ITS FALSE NEIGHBOUR: 'it returns false'. Refute it at one input. -/
def flashTearsAtByteWrong : ChangeSpec := { name := "flashTearsAtByte", fn := fun _ => fun
  | [d] => { results := [.lit (.bool false)], args := [d] }
  | _ => none }
def FlashTearsAtByteWrongFalsely : Prop := flashTearsAtByteRow.holds Try.pinned (OpenSpec.ofChange flashTearsAtByteWrong)

/-- 'bootchainlaw08.FlashReadsLastWrite': WHATEVER THE INPUT: true; the input reads as it did. -/
def flashReadsLastWriteSpec : ChangeSpec := { name := "flashReadsLastWrite", fn := fun _ => fun
  | [d1, d2] => { results := [.lit (.bool true)], args := [d1, d2] }
  | _ => none }
def flashReadsLastWriteRow : OpenClaim := { program := "ytnmleaibonnbnaa", sum := "640a6d0682c3dd549a8e015b2d66b8f56dc7bec84ed7b76b4961be7e6efbffa6", func := "bootchain/bootchainlaw08.FlashReadsLastWrite", spec := "flashReadsLastWrite", inPlace := ["internal/abi.NoEscape", "internal/bytealg.MakeNoZero"], unfollowed := true, recurses := true, apart := false }
def FlashReadsLastWriteSaid : Prop := flashReadsLastWriteRow.holds Try.pinned (OpenSpec.ofChange flashReadsLastWriteSpec)

/-- ITS FALSE NEIGHBOUR: 'it returns false'. Refute it at one input. -/
def flashReadsLastWriteWrong : ChangeSpec := { name := "flashReadsLastWrite", fn := fun _ => fun
  | [d1, d2] => { results := [.lit (.bool false)], args := [d1, d2] }
  | _ => none }
def FlashReadsLastWriteWrongFalsely : Prop := flashReadsLastWriteRow.holds Try.pinned (OpenSpec.ofChange flashReadsLastWriteWrong)

/-- 'bootchainlaw08.FlashCutCompletes': WHATEVER THE INPUT: true; the input reads as it did. -/
def flashCutCompletesSpec : ChangeSpec := { name := "flashCutCompletes", fn := fun _ => fun
  | [d] => { results := [.lit (.bool true)], args := [d] }
  | _ => none }
def flashCutCompletesRow : OpenClaim := { program := "ytnmleaibonnbnaa", sum := "640a6d0682c3dd549a8e015b2d66b8f56dc7bec84ed7b76b4961be7e6efbffa6", func := "bootchain/bootchainlaw08.FlashCutCompletes", spec := "flashCutCompletes", inPlace := ["internal/abi.NoEscape", "internal/bytealg.MakeNoZero"], unfollowed := true, recurses := true, apart := false }
def FlashCutCompletesSaid : Prop := flashCutCompletesRow.holds Try.pinned (OpenSpec.ofChange flashCutCompletesSpec)

/-- ITS FALSE NEIGHBOUR: 'it returns false'. Refute it at one input. -/
def flashCutCompletesWrong : ChangeSpec := { name := "flashCutCompletes", fn := fun _ => fun
  | [d] => { results := [.lit (.bool false)], args := [d] }
  | _ => none }
def FlashCutCompletesWrongFalsely : Prop := flashCutCompletesRow.holds Try.pinned (OpenSpec.ofChange flashCutCompletesWrong)

/-- 'bootchainlaw08.FlashCutsCompose': WHATEVER THE INPUT: true; the input reads as it did. -/
def flashCutsComposeSpec : ChangeSpec := { name := "flashCutsCompose", fn := fun _ => fun
  | [d] => { results := [.lit (.bool true)], args := [d] }
  | _ => none }
def flashCutsComposeRow : OpenClaim := { program := "ytnmleaibonnbnaa", sum := "640a6d0682c3dd549a8e015b2d66b8f56dc7bec84ed7b76b4961be7e6efbffa6", func := "bootchain/bootchainlaw08.FlashCutsCompose", spec := "flashCutsCompose", inPlace := ["internal/abi.NoEscape", "internal/bytealg.MakeNoZero"], unfollowed := true, recurses := true, apart := false }
def FlashCutsComposeSaid : Prop := flashCutsComposeRow.holds Try.pinned (OpenSpec.ofChange flashCutsComposeSpec)

/-- ITS FALSE NEIGHBOUR: 'it returns false'. Refute it at one input. -/
def flashCutsComposeWrong : ChangeSpec := { name := "flashCutsCompose", fn := fun _ => fun
  | [d] => { results := [.lit (.bool false)], args := [d] }
  | _ => none }
def FlashCutsComposeWrongFalsely : Prop := flashCutsComposeRow.holds Try.pinned (OpenSpec.ofChange flashCutsComposeWrong)

/- THE SECOND FORM. 'bulk': how many values and letters a reading holds, each counted each time it is reached (what is shared counts as often as it is met; a slice's spare places count too). A statement '..UptoSaid' is the law's where the arguments, and the package variables that the reading takes, are together of bulk at most 1048576: NARROWER than '..Said'. Prove '..Said' where nothing that the law and all that it calls make is longer than what came in: it says more and counts as full. Else prove '..UptoSaid'. A law counts once. -/
mutual
def uptoBulk {H : Type} : DataW H → Nat
  | .lit (.string bytes) => bytes.length + 1
  | .lit _ => 1
  | .nil => 1
  | .ptr d => uptoBulk d + 1
  | .slice elems spare => uptoBulkAll elems + uptoBulkAll spare + 1
  | .agg parts => uptoBulkAll parts + 1
  | .iface _ d => uptoBulk d + 1
  | .map entries => uptoBulkEntries entries + 1
  | .held _ => 1
def uptoBulkAll {H : Type} : List (DataW H) → Nat
  | [] => 0
  | d :: r => uptoBulk d + uptoBulkAll r
def uptoBulkEntries {H : Type} : List (Lit × DataW H) → Nat
  | [] => 0
  | x :: r => uptoBulkEntry x + uptoBulkEntries r
def uptoBulkEntry {H : Type} : Lit × DataW H → Nat
  | (.string bytes, d) => bytes.length + uptoBulk d + 1
  | (_, d) => uptoBulk d + 1
 end
def uptoSmall : (H : Type) → List (DataW H) → Bool := fun _ ds => decide (uptoBulkAll ds ≤ 1048576)
def OpenSpec.upto (s : _root_.Go.ChangeSpec) : _root_.Go.OpenSpec := { _root_.Go.OpenSpec.ofChange s with cond := some uptoSmall }

/-- 'bootchainlaw08.FlashMatchesSpec', WHERE WHAT IT READS IS OF BULK AT MOST 1048576: true; the input reads as it did. -/
def flashMatchesSpecUptoRow : OpenClaim := { program := "ytnmleaibonnbnaa", sum := "640a6d0682c3dd549a8e015b2d66b8f56dc7bec84ed7b76b4961be7e6efbffa6", func := "bootchain/bootchainlaw08.FlashMatchesSpec", spec := "flashMatchesSpec", inPlace := ["internal/abi.NoEscape", "internal/bytealg.MakeNoZero"], unfollowed := true, recurses := true, apart := false, narrowed := true }
def FlashMatchesSpecUptoSaid : Prop := flashMatchesSpecUptoRow.holds Try.pinned (OpenSpec.upto flashMatchesSpecSpec)

/-- 'bootchainlaw08.FlashWritesOneSector', WHERE WHAT IT READS IS OF BULK AT MOST 1048576: true; the input reads as it did. -/
def flashWritesOneSectorUptoRow : OpenClaim := { program := "ytnmleaibonnbnaa", sum := "640a6d0682c3dd549a8e015b2d66b8f56dc7bec84ed7b76b4961be7e6efbffa6", func := "bootchain/bootchainlaw08.FlashWritesOneSector", spec := "flashWritesOneSector", inPlace := ["internal/abi.NoEscape", "internal/bytealg.MakeNoZero"], unfollowed := true, recurses := true, apart := false, narrowed := true }
def FlashWritesOneSectorUptoSaid : Prop := flashWritesOneSectorUptoRow.holds Try.pinned (OpenSpec.upto flashWritesOneSectorSpec)

/-- 'bootchainlaw08.FlashTearsAtByte', WHERE WHAT IT READS IS OF BULK AT MOST 1048576: true; the input reads as it did. -/
def flashTearsAtByteUptoRow : OpenClaim := { program := "ytnmleaibonnbnaa", sum := "640a6d0682c3dd549a8e015b2d66b8f56dc7bec84ed7b76b4961be7e6efbffa6", func := "bootchain/bootchainlaw08.FlashTearsAtByte", spec := "flashTearsAtByte", inPlace := ["internal/abi.NoEscape", "internal/bytealg.MakeNoZero"], unfollowed := true, recurses := true, apart := false, narrowed := true }
def FlashTearsAtByteUptoSaid : Prop := flashTearsAtByteUptoRow.holds Try.pinned (OpenSpec.upto flashTearsAtByteSpec)

/-- 'bootchainlaw08.FlashReadsLastWrite', WHERE WHAT IT READS IS OF BULK AT MOST 1048576: true; the input reads as it did. -/
def flashReadsLastWriteUptoRow : OpenClaim := { program := "ytnmleaibonnbnaa", sum := "640a6d0682c3dd549a8e015b2d66b8f56dc7bec84ed7b76b4961be7e6efbffa6", func := "bootchain/bootchainlaw08.FlashReadsLastWrite", spec := "flashReadsLastWrite", inPlace := ["internal/abi.NoEscape", "internal/bytealg.MakeNoZero"], unfollowed := true, recurses := true, apart := false, narrowed := true }
def FlashReadsLastWriteUptoSaid : Prop := flashReadsLastWriteUptoRow.holds Try.pinned (OpenSpec.upto flashReadsLastWriteSpec)

/-- 'bootchainlaw08.FlashCutCompletes', WHERE WHAT IT READS IS OF BULK AT MOST 1048576: true; the input reads as it did. -/
def flashCutCompletesUptoRow : OpenClaim := { program := "ytnmleaibonnbnaa", sum := "640a6d0682c3dd549a8e015b2d66b8f56dc7bec84ed7b76b4961be7e6efbffa6", func := "bootchain/bootchainlaw08.FlashCutCompletes", spec := "flashCutCompletes", inPlace := ["internal/abi.NoEscape", "internal/bytealg.MakeNoZero"], unfollowed := true, recurses := true, apart := false, narrowed := true }
def FlashCutCompletesUptoSaid : Prop := flashCutCompletesUptoRow.holds Try.pinned (OpenSpec.upto flashCutCompletesSpec)

/-- 'bootchainlaw08.FlashCutsCompose', WHERE WHAT IT READS IS OF BULK AT MOST 1048576: true; the input reads as it did. -/
def flashCutsComposeUptoRow : OpenClaim := { program := "ytnmleaibonnbnaa", sum := "640a6d0682c3dd549a8e015b2d66b8f56dc7bec84ed7b76b4961be7e6efbffa6", func := "bootchain/bootchainlaw08.FlashCutsCompose", spec := "flashCutsCompose", inPlace := ["internal/abi.NoEscape", "internal/bytealg.MakeNoZero"], unfollowed := true, recurses := true, apart := false, narrowed := true }
def FlashCutsComposeUptoSaid : Prop := flashCutsComposeUptoRow.holds Try.pinned (OpenSpec.upto flashCutsComposeSpec)

end Rows
end Go.Proofs.Ytnmleaibonnbnaa
