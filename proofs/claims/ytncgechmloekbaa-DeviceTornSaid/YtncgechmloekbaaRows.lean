/-
  No cell of these rows narrows 'for every input' (looked for: loops, veiled, ifaces, maps, wideKeys, modest, calm, conditions, laid).
  DERIVED. THE GIVEN ROWS OF THIS SEAT. 5 by the template 'for every input the law returns true; each argument reads behind the call as it read before'; 0 by the template 'total and deterministic' (their statements: YtncgechmloekbaaTotals.lean).
  GIVEN WITH THE SEED: the statements are not yours to turn. If you find one false, say at which input.
  Laid BY PROGRAM, IN A SANDBOX (cutbox-rows.mjs): the forced cells as the released guide's own fill.sh prints them over the translation 4021f2ebf3e24f28… (all of the seat's roots in one cut). By AI agents, Wed Nov 11 2026. No macro, syntax, notation, axiom, sorry.
-/
import Derived.Test.YtncgechmloekbaaChecked
import GoSem.Claim
import GoSem.ClaimJoined
import GoSem.ClaimMapViews
import Derived.JoinedTies
import Derived.KernelRfl
namespace Go.Proofs.Ytncgechmloekbaa
/- THE CELL 'sum', in the pinned program and in every row, IS THE sha256 OF THE DUMP (.gsa) THAT YtncgechmloekbaaProg.lean LOADS. Nothing in Lean hashes anything: it is a label: what it is worth is what the hold of that sum in a sandbox is worth. -/
noncomputable def Try.pinned : Pinned := { name := "ytncgechmloekbaa", sum := "4021f2ebf3e24f285e9a6c94ec056f1add01623a43163d626945903a3d4d7f7c", checked := Try.checked }
namespace Rows
def none {H : Type} : Left H := { results := [], args := [] }

/-- 'bootchainlaw09.DeviceMatches': WHATEVER THE INPUT: true; the input reads as it did. -/
def deviceMatchesSpec : ChangeSpec := { name := "deviceMatches", fn := fun _ => fun
  | [d1, d2, d3, d4] => { results := [.lit (.bool true)], args := [d1, d2, d3, d4] }
  | _ => none }
def deviceMatchesRow : OpenClaim := { program := "ytncgechmloekbaa", sum := "4021f2ebf3e24f285e9a6c94ec056f1add01623a43163d626945903a3d4d7f7c", func := "bootchain/bootchainlaw09.DeviceMatches", spec := "deviceMatches", inPlace := ["internal/abi.NoEscape", "internal/bytealg.MakeNoZero"], unfollowed := true, recurses := true, apart := false }
def DeviceMatchesSaid : Prop := deviceMatchesRow.holds Try.pinned (OpenSpec.ofChange deviceMatchesSpec)

/-- ITS FALSE NEIGHBOUR: 'it returns false'. Refute it at one input. -/
def deviceMatchesWrong : ChangeSpec := { name := "deviceMatches", fn := fun _ => fun
  | [d1, d2, d3, d4] => { results := [.lit (.bool false)], args := [d1, d2, d3, d4] }
  | _ => none }
def DeviceMatchesWrongFalsely : Prop := deviceMatchesRow.holds Try.pinned (OpenSpec.ofChange deviceMatchesWrong)

/-- 'bootchainlaw09.DeviceSeparate': WHATEVER THE INPUT: true; the input reads as it did. -/
def deviceSeparateSpec : ChangeSpec := { name := "deviceSeparate", fn := fun _ => fun
  | [d1, d2, d3] => { results := [.lit (.bool true)], args := [d1, d2, d3] }
  | _ => none }
def deviceSeparateRow : OpenClaim := { program := "ytncgechmloekbaa", sum := "4021f2ebf3e24f285e9a6c94ec056f1add01623a43163d626945903a3d4d7f7c", func := "bootchain/bootchainlaw09.DeviceSeparate", spec := "deviceSeparate", inPlace := ["internal/abi.NoEscape", "internal/bytealg.MakeNoZero"], unfollowed := true, recurses := true, apart := false }
def DeviceSeparateSaid : Prop := deviceSeparateRow.holds Try.pinned (OpenSpec.ofChange deviceSeparateSpec)

/-- ITS FALSE NEIGHBOUR: 'it returns false'. Refute it at one input. -/
def deviceSeparateWrong : ChangeSpec := { name := "deviceSeparate", fn := fun _ => fun
  | [d1, d2, d3] => { results := [.lit (.bool false)], args := [d1, d2, d3] }
  | _ => none }
def DeviceSeparateWrongFalsely : Prop := deviceSeparateRow.holds Try.pinned (OpenSpec.ofChange deviceSeparateWrong)

/-- 'bootchainlaw09.DeviceAll': WHATEVER THE INPUT: true; the input reads as it did. -/
def deviceAllSpec : ChangeSpec := { name := "deviceAll", fn := fun _ => fun
  | [d1, d2, d3] => { results := [.lit (.bool true)], args := [d1, d2, d3] }
  | _ => none }
def deviceAllRow : OpenClaim := { program := "ytncgechmloekbaa", sum := "4021f2ebf3e24f285e9a6c94ec056f1add01623a43163d626945903a3d4d7f7c", func := "bootchain/bootchainlaw09.DeviceAll", spec := "deviceAll", inPlace := ["internal/abi.NoEscape", "internal/bytealg.MakeNoZero"], unfollowed := true, recurses := true, apart := false }
def DeviceAllSaid : Prop := deviceAllRow.holds Try.pinned (OpenSpec.ofChange deviceAllSpec)

/-- ITS FALSE NEIGHBOUR: 'it returns false'. Refute it at one input. -/
def deviceAllWrong : ChangeSpec := { name := "deviceAll", fn := fun _ => fun
  | [d1, d2, d3] => { results := [.lit (.bool false)], args := [d1, d2, d3] }
  | _ => none }
def DeviceAllWrongFalsely : Prop := deviceAllRow.holds Try.pinned (OpenSpec.ofChange deviceAllWrong)

/-- 'bootchainlaw09.DeviceTorn': WHATEVER THE INPUT: true; the input reads as it did. -/
def deviceTornSpec : ChangeSpec := { name := "deviceTorn", fn := fun _ => fun
  | [d1, d2, d3, d4] => { results := [.lit (.bool true)], args := [d1, d2, d3, d4] }
  | _ => none }
def deviceTornRow : OpenClaim := { program := "ytncgechmloekbaa", sum := "4021f2ebf3e24f285e9a6c94ec056f1add01623a43163d626945903a3d4d7f7c", func := "bootchain/bootchainlaw09.DeviceTorn", spec := "deviceTorn", inPlace := ["internal/abi.NoEscape", "internal/bytealg.MakeNoZero"], unfollowed := true, recurses := true, apart := false }
def DeviceTornSaid : Prop := deviceTornRow.holds Try.pinned (OpenSpec.ofChange deviceTornSpec)

/-- ITS FALSE NEIGHBOUR: 'it returns false'. Refute it at one input. -/
def deviceTornWrong : ChangeSpec := { name := "deviceTorn", fn := fun _ => fun
  | [d1, d2, d3, d4] => { results := [.lit (.bool false)], args := [d1, d2, d3, d4] }
  | _ => none }
def DeviceTornWrongFalsely : Prop := deviceTornRow.holds Try.pinned (OpenSpec.ofChange deviceTornWrong)

/-- 'bootchainlaw09.DeviceMonotonic': WHATEVER THE INPUT: true; the input reads as it did. -/
def deviceMonotonicSpec : ChangeSpec := { name := "deviceMonotonic", fn := fun _ => fun
  | [d1, d2, d3] => { results := [.lit (.bool true)], args := [d1, d2, d3] }
  | _ => none }
def deviceMonotonicRow : OpenClaim := { program := "ytncgechmloekbaa", sum := "4021f2ebf3e24f285e9a6c94ec056f1add01623a43163d626945903a3d4d7f7c", func := "bootchain/bootchainlaw09.DeviceMonotonic", spec := "deviceMonotonic", inPlace := ["internal/abi.NoEscape", "internal/bytealg.MakeNoZero"], unfollowed := true, recurses := true, apart := false }
def DeviceMonotonicSaid : Prop := deviceMonotonicRow.holds Try.pinned (OpenSpec.ofChange deviceMonotonicSpec)

/-- ITS FALSE NEIGHBOUR: 'it returns false'. Refute it at one input. -/
def deviceMonotonicWrong : ChangeSpec := { name := "deviceMonotonic", fn := fun _ => fun
  | [d1, d2, d3] => { results := [.lit (.bool false)], args := [d1, d2, d3] }
  | _ => none }
def DeviceMonotonicWrongFalsely : Prop := deviceMonotonicRow.holds Try.pinned (OpenSpec.ofChange deviceMonotonicWrong)

/- THE SECOND FORM. 'bulk': how many values and letters a reading holds, each counted each time it is reached (what is shared counts as often as it is met; a slice's spare places count too). A statement '..UptoSaid' is the law's where the arguments, and the package variables that the reading takes, are together of bulk at most 1048576: NARROWER than '..Said'. Prove '..Said' where nothing that the law and all that it calls make is longer than what came in: it says more and counts as full. Else prove '..UptoSaid'. A law counts once. -/
mutual
def uptoBulk {H : Type} : DataW H → Nat
  | .lit (.string bytes) => bytes.length + 1
  | .lit _ => 1
  | .nil => 1
  | .ptr d => uptoBulk d + 1
  | .slice elems spare => uptoBulkAll elems + uptoBulkAll spare + 1
  | .agg parts => uptoBulkAll parts + 1
  | .iface _ d => uptoBulk d + 1
  | .map entries => uptoBulkEntries entries + 1
  | .held _ => 1
def uptoBulkAll {H : Type} : List (DataW H) → Nat
  | [] => 0
  | d :: r => uptoBulk d + uptoBulkAll r
def uptoBulkEntries {H : Type} : List (Lit × DataW H) → Nat
  | [] => 0
  | x :: r => uptoBulkEntry x + uptoBulkEntries r
def uptoBulkEntry {H : Type} : Lit × DataW H → Nat
  | (.string bytes, d) => bytes.length + uptoBulk d + 1
  | (_, d) => uptoBulk d + 1
 end
def uptoSmall : (H : Type) → List (DataW H) → Bool := fun _ ds => decide (uptoBulkAll ds ≤ 1048576)
def OpenSpec.upto (s : _root_.Go.ChangeSpec) : _root_.Go.OpenSpec := { _root_.Go.OpenSpec.ofChange s with cond := some uptoSmall }

/-- 'bootchainlaw09.DeviceMatches', WHERE WHAT IT READS IS OF BULK AT MOST 1048576: true; the input reads as it did. -/
def deviceMatchesUptoRow : OpenClaim := { program := "ytncgechmloekbaa", sum := "4021f2ebf3e24f285e9a6c94ec056f1add01623a43163d626945903a3d4d7f7c", func := "bootchain/bootchainlaw09.DeviceMatches", spec := "deviceMatches", inPlace := ["internal/abi.NoEscape", "internal/bytealg.MakeNoZero"], unfollowed := true, recurses := true, apart := false, narrowed := true }
def DeviceMatchesUptoSaid : Prop := deviceMatchesUptoRow.holds Try.pinned (OpenSpec.upto deviceMatchesSpec)

/-- 'bootchainlaw09.DeviceSeparate', WHERE WHAT IT READS IS OF BULK AT MOST 1048576: true; the input reads as it did. -/
def deviceSeparateUptoRow : OpenClaim := { program := "ytncgechmloekbaa", sum := "4021f2ebf3e24f285e9a6c94ec056f1add01623a43163d626945903a3d4d7f7c", func := "bootchain/bootchainlaw09.DeviceSeparate", spec := "deviceSeparate", inPlace := ["internal/abi.NoEscape", "internal/bytealg.MakeNoZero"], unfollowed := true, recurses := true, apart := false, narrowed := true }
def DeviceSeparateUptoSaid : Prop := deviceSeparateUptoRow.holds Try.pinned (OpenSpec.upto deviceSeparateSpec)

/-- 'bootchainlaw09.DeviceAll', WHERE WHAT IT READS IS OF BULK AT MOST 1048576: true; the input reads as it did. -/
def deviceAllUptoRow : OpenClaim := { program := "ytncgechmloekbaa", sum := "4021f2ebf3e24f285e9a6c94ec056f1add01623a43163d626945903a3d4d7f7c", func := "bootchain/bootchainlaw09.DeviceAll", spec := "deviceAll", inPlace := ["internal/abi.NoEscape", "internal/bytealg.MakeNoZero"], unfollowed := true, recurses := true, apart := false, narrowed := true }
def DeviceAllUptoSaid : Prop := deviceAllUptoRow.holds Try.pinned (OpenSpec.upto deviceAllSpec)

/-- 'bootchainlaw09.DeviceTorn', WHERE WHAT IT READS IS OF BULK AT MOST 1048576: true; the input reads as it did. -/
def deviceTornUptoRow : OpenClaim := { program := "ytncgechmloekbaa", sum := "4021f2ebf3e24f285e9a6c94ec056f1add01623a43163d626945903a3d4d7f7c", func := "bootchain/bootchainlaw09.DeviceTorn", spec := "deviceTorn", inPlace := ["internal/abi.NoEscape", "internal/bytealg.MakeNoZero"], unfollowed := true, recurses := true, apart := false, narrowed := true }
def DeviceTornUptoSaid : Prop := deviceTornUptoRow.holds Try.pinned (OpenSpec.upto deviceTornSpec)

/-- 'bootchainlaw09.DeviceMonotonic', WHERE WHAT IT READS IS OF BULK AT MOST 1048576: true; the input reads as it did. -/
def deviceMonotonicUptoRow : OpenClaim := { program := "ytncgechmloekbaa", sum := "4021f2ebf3e24f285e9a6c94ec056f1add01623a43163d626945903a3d4d7f7c", func := "bootchain/bootchainlaw09.DeviceMonotonic", spec := "deviceMonotonic", inPlace := ["internal/abi.NoEscape", "internal/bytealg.MakeNoZero"], unfollowed := true, recurses := true, apart := false, narrowed := true }
def DeviceMonotonicUptoSaid : Prop := deviceMonotonicUptoRow.holds Try.pinned (OpenSpec.upto deviceMonotonicSpec)

end Rows
end Go.Proofs.Ytncgechmloekbaa
