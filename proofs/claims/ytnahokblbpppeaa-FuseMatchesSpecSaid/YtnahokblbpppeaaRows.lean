/-
  No cell of these rows narrows 'for every input' (looked for: loops, veiled, ifaces, maps, wideKeys, modest, calm, conditions, laid).
  DERIVED. THE GIVEN ROWS OF THIS SEAT. 7 by the template 'for every input the law returns true; each argument reads behind the call as it read before'; 0 by the template 'total and deterministic' (their statements: YtnahokblbpppeaaTotals.lean).
  GIVEN WITH THE SEED: the statements are not yours to turn. If you find one false, say at which input.
  Laid BY PROGRAM, IN A SANDBOX (cutbox-rows.mjs): the forced cells as the released guide's own fill.sh prints them over the translation 57ad2a104e866983… (all of the seat's roots in one cut). By AI agents, Wed Nov 11 2026. No macro, syntax, notation, axiom, sorry.
-/
import Derived.Test.YtnahokblbpppeaaChecked
import GoSem.Claim
import GoSem.ClaimJoined
import GoSem.ClaimMapViews
import Derived.JoinedTies
import Derived.KernelRfl
namespace Go.Proofs.Ytnahokblbpppeaa
/- THE CELL 'sum', in the pinned program and in every row, IS THE sha256 OF THE DUMP (.gsa) THAT YtnahokblbpppeaaProg.lean LOADS. Nothing in Lean hashes anything: it is a label: what it is worth is what the hold of that sum in a sandbox is worth. -/
noncomputable def Try.pinned : Pinned := { name := "ytnahokblbpppeaa", sum := "57ad2a104e8669838016d1bc23cd087792a6fb168d47e17a9767e64c521bb49d", checked := Try.checked }
namespace Rows
def none {H : Type} : Left H := { results := [], args := [] }

/-- 'bootchainlaw07.FuseMatchesSpec': WHATEVER THE INPUT: true; the input reads as it did. -/
def fuseMatchesSpecSpec : ChangeSpec := { name := "fuseMatchesSpec", fn := fun _ => fun
  | [d1, d2, d3, d4] => { results := [.lit (.bool true)], args := [d1, d2, d3, d4] }
  | _ => none }
def fuseMatchesSpecRow : OpenClaim := { program := "ytnahokblbpppeaa", sum := "57ad2a104e8669838016d1bc23cd087792a6fb168d47e17a9767e64c521bb49d", func := "bootchain/bootchainlaw07.FuseMatchesSpec", spec := "fuseMatchesSpec", unfollowed := true, recurses := true, apart := false }
def FuseMatchesSpecSaid : Prop := fuseMatchesSpecRow.holds Try.pinned (OpenSpec.ofChange fuseMatchesSpecSpec)

/-- ITS FALSE NEIGHBOUR: 'it returns false'. Refute it at one input. -/
def fuseMatchesSpecWrong : ChangeSpec := { name := "fuseMatchesSpec", fn := fun _ => fun
  | [d1, d2, d3, d4] => { results := [.lit (.bool false)], args := [d1, d2, d3, d4] }
  | _ => none }
def FuseMatchesSpecWrongFalsely : Prop := fuseMatchesSpecRow.holds Try.pinned (OpenSpec.ofChange fuseMatchesSpecWrong)

/-- 'bootchainlaw07.FuseNew': WHATEVER THE INPUT: true; the input reads as it did. -/
def fuseNewSpec : ChangeSpec := { name := "fuseNew", fn := fun _ => fun
  | [d] => { results := [.lit (.bool true)], args := [d] }
  | _ => none }
def fuseNewRow : OpenClaim := { program := "ytnahokblbpppeaa", sum := "57ad2a104e8669838016d1bc23cd087792a6fb168d47e17a9767e64c521bb49d", func := "bootchain/bootchainlaw07.FuseNew", spec := "fuseNew", unfollowed := true, recurses := true, apart := false }
def FuseNewSaid : Prop := fuseNewRow.holds Try.pinned (OpenSpec.ofChange fuseNewSpec)

/-- ITS FALSE NEIGHBOUR: 'it returns false'. Refute it at one input. -/
def fuseNewWrong : ChangeSpec := { name := "fuseNew", fn := fun _ => fun
  | [d] => { results := [.lit (.bool false)], args := [d] }
  | _ => none }
def FuseNewWrongFalsely : Prop := fuseNewRow.holds Try.pinned (OpenSpec.ofChange fuseNewWrong)

/-- 'bootchainlaw07.FuseMonotone': WHATEVER THE INPUT: true; the input reads as it did. -/
def fuseMonotoneSpec : ChangeSpec := { name := "fuseMonotone", fn := fun _ => fun
  | [d1, d2] => { results := [.lit (.bool true)], args := [d1, d2] }
  | _ => none }
def fuseMonotoneRow : OpenClaim := { program := "ytnahokblbpppeaa", sum := "57ad2a104e8669838016d1bc23cd087792a6fb168d47e17a9767e64c521bb49d", func := "bootchain/bootchainlaw07.FuseMonotone", spec := "fuseMonotone", unfollowed := true, recurses := true, apart := false }
def FuseMonotoneSaid : Prop := fuseMonotoneRow.holds Try.pinned (OpenSpec.ofChange fuseMonotoneSpec)

/-- ITS FALSE NEIGHBOUR: 'it returns false'. Refute it at one input. -/
def fuseMonotoneWrong : ChangeSpec := { name := "fuseMonotone", fn := fun _ => fun
  | [d1, d2] => { results := [.lit (.bool false)], args := [d1, d2] }
  | _ => none }
def FuseMonotoneWrongFalsely : Prop := fuseMonotoneRow.holds Try.pinned (OpenSpec.ofChange fuseMonotoneWrong)

/-- 'bootchainlaw07.FuseNoise': WHATEVER THE INPUT: true; the input reads as it did. -/
def fuseNoiseSpec : ChangeSpec := { name := "fuseNoise", fn := fun _ => fun
  | [d1, d2, d3] => { results := [.lit (.bool true)], args := [d1, d2, d3] }
  | _ => none }
def fuseNoiseRow : OpenClaim := { program := "ytnahokblbpppeaa", sum := "57ad2a104e8669838016d1bc23cd087792a6fb168d47e17a9767e64c521bb49d", func := "bootchain/bootchainlaw07.FuseNoise", spec := "fuseNoise", unfollowed := true, recurses := true, apart := false }
def FuseNoiseSaid : Prop := fuseNoiseRow.holds Try.pinned (OpenSpec.ofChange fuseNoiseSpec)

/-- ITS FALSE NEIGHBOUR: 'it returns false'. Refute it at one input. -/
def fuseNoiseWrong : ChangeSpec := { name := "fuseNoise", fn := fun _ => fun
  | [d1, d2, d3] => { results := [.lit (.bool false)], args := [d1, d2, d3] }
  | _ => none }
def FuseNoiseWrongFalsely : Prop := fuseNoiseRow.holds Try.pinned (OpenSpec.ofChange fuseNoiseWrong)

/-- 'bootchainlaw07.FuseCut': WHATEVER THE INPUT: true; the input reads as it did. -/
def fuseCutSpec : ChangeSpec := { name := "fuseCut", fn := fun _ => fun
  | [d1, d2, d3] => { results := [.lit (.bool true)], args := [d1, d2, d3] }
  | _ => none }
def fuseCutRow : OpenClaim := { program := "ytnahokblbpppeaa", sum := "57ad2a104e8669838016d1bc23cd087792a6fb168d47e17a9767e64c521bb49d", func := "bootchain/bootchainlaw07.FuseCut", spec := "fuseCut", unfollowed := true, recurses := true, apart := false }
def FuseCutSaid : Prop := fuseCutRow.holds Try.pinned (OpenSpec.ofChange fuseCutSpec)

/-- ITS FALSE NEIGHBOUR: 'it returns false'. Refute it at one input. -/
def fuseCutWrong : ChangeSpec := { name := "fuseCut", fn := fun _ => fun
  | [d1, d2, d3] => { results := [.lit (.bool false)], args := [d1, d2, d3] }
  | _ => none }
def FuseCutWrongFalsely : Prop := fuseCutRow.holds Try.pinned (OpenSpec.ofChange fuseCutWrong)

/-- 'bootchainlaw07.FuseRaise': WHATEVER THE INPUT: true; the input reads as it did. -/
def fuseRaiseSpec : ChangeSpec := { name := "fuseRaise", fn := fun _ => fun
  | [d1, d2, d3, d4, d5] => { results := [.lit (.bool true)], args := [d1, d2, d3, d4, d5] }
  | _ => none }
def fuseRaiseRow : OpenClaim := { program := "ytnahokblbpppeaa", sum := "57ad2a104e8669838016d1bc23cd087792a6fb168d47e17a9767e64c521bb49d", func := "bootchain/bootchainlaw07.FuseRaise", spec := "fuseRaise", unfollowed := true, recurses := true, apart := false }
def FuseRaiseSaid : Prop := fuseRaiseRow.holds Try.pinned (OpenSpec.ofChange fuseRaiseSpec)

/-- ITS FALSE NEIGHBOUR: 'it returns false'. Refute it at one input. -/
def fuseRaiseWrong : ChangeSpec := { name := "fuseRaise", fn := fun _ => fun
  | [d1, d2, d3, d4, d5] => { results := [.lit (.bool false)], args := [d1, d2, d3, d4, d5] }
  | _ => none }
def FuseRaiseWrongFalsely : Prop := fuseRaiseRow.holds Try.pinned (OpenSpec.ofChange fuseRaiseWrong)

/-- 'bootchainlaw07.FusePermanent': WHATEVER THE INPUT: true; the input reads as it did. -/
def fusePermanentSpec : ChangeSpec := { name := "fusePermanent", fn := fun _ => fun
  | [d1, d2, d3, d4, d5] => { results := [.lit (.bool true)], args := [d1, d2, d3, d4, d5] }
  | _ => none }
def fusePermanentRow : OpenClaim := { program := "ytnahokblbpppeaa", sum := "57ad2a104e8669838016d1bc23cd087792a6fb168d47e17a9767e64c521bb49d", func := "bootchain/bootchainlaw07.FusePermanent", spec := "fusePermanent", unfollowed := true, recurses := true, apart := false }
def FusePermanentSaid : Prop := fusePermanentRow.holds Try.pinned (OpenSpec.ofChange fusePermanentSpec)

/-- ITS FALSE NEIGHBOUR: 'it returns false'. Refute it at one input. -/
def fusePermanentWrong : ChangeSpec := { name := "fusePermanent", fn := fun _ => fun
  | [d1, d2, d3, d4, d5] => { results := [.lit (.bool false)], args := [d1, d2, d3, d4, d5] }
  | _ => none }
def FusePermanentWrongFalsely : Prop := fusePermanentRow.holds Try.pinned (OpenSpec.ofChange fusePermanentWrong)

/- THE SECOND FORM. 'bulk': how many values and letters a reading holds, each counted each time it is reached (what is shared counts as often as it is met; a slice's spare places count too). A statement '..UptoSaid' is the law's where the arguments, and the package variables that the reading takes, are together of bulk at most 1048576: NARROWER than '..Said'. Prove '..Said' where nothing that the law and all that it calls make is longer than what came in: it says more and counts as full. Else prove '..UptoSaid'. A law counts once. -/
mutual
def uptoBulk {H : Type} : DataW H → Nat
  | .lit (.string bytes) => bytes.length + 1
  | .lit _ => 1
  | .nil => 1
  | .ptr d => uptoBulk d + 1
  | .slice elems spare => uptoBulkAll elems + uptoBulkAll spare + 1
  | .agg parts => uptoBulkAll parts + 1
  | .iface _ d => uptoBulk d + 1
  | .map entries => uptoBulkEntries entries + 1
  | .held _ => 1
def uptoBulkAll {H : Type} : List (DataW H) → Nat
  | [] => 0
  | d :: r => uptoBulk d + uptoBulkAll r
def uptoBulkEntries {H : Type} : List (Lit × DataW H) → Nat
  | [] => 0
  | x :: r => uptoBulkEntry x + uptoBulkEntries r
def uptoBulkEntry {H : Type} : Lit × DataW H → Nat
  | (.string bytes, d) => bytes.length + uptoBulk d + 1
  | (_, d) => uptoBulk d + 1
 end
def uptoSmall : (H : Type) → List (DataW H) → Bool := fun _ ds => decide (uptoBulkAll ds ≤ 1048576)
def OpenSpec.upto (s : _root_.Go.ChangeSpec) : _root_.Go.OpenSpec := { _root_.Go.OpenSpec.ofChange s with cond := some uptoSmall }

/-- 'bootchainlaw07.FuseMatchesSpec', WHERE WHAT IT READS IS OF BULK AT MOST 1048576: true; the input reads as it did. -/
def fuseMatchesSpecUptoRow : OpenClaim := { program := "ytnahokblbpppeaa", sum := "57ad2a104e8669838016d1bc23cd087792a6fb168d47e17a9767e64c521bb49d", func := "bootchain/bootchainlaw07.FuseMatchesSpec", spec := "fuseMatchesSpec", unfollowed := true, recurses := true, apart := false, narrowed := true }
def FuseMatchesSpecUptoSaid : Prop := fuseMatchesSpecUptoRow.holds Try.pinned (OpenSpec.upto fuseMatchesSpecSpec)

/-- 'bootchainlaw07.FuseNew', WHERE WHAT IT READS IS OF BULK AT MOST 1048576: true; the input reads as it did. -/
def fuseNewUptoRow : OpenClaim := { program := "ytnahokblbpppeaa", sum := "57ad2a104e8669838016d1bc23cd087792a6fb168d47e17a9767e64c521bb49d", func := "bootchain/bootchainlaw07.FuseNew", spec := "fuseNew", unfollowed := true, recurses := true, apart := false, narrowed := true }
def FuseNewUptoSaid : Prop := fuseNewUptoRow.holds Try.pinned (OpenSpec.upto fuseNewSpec)

/-- 'bootchainlaw07.FuseMonotone', WHERE WHAT IT READS IS OF BULK AT MOST 1048576: true; the input reads as it did. -/
def fuseMonotoneUptoRow : OpenClaim := { program := "ytnahokblbpppeaa", sum := "57ad2a104e8669838016d1bc23cd087792a6fb168d47e17a9767e64c521bb49d", func := "bootchain/bootchainlaw07.FuseMonotone", spec := "fuseMonotone", unfollowed := true, recurses := true, apart := false, narrowed := true }
def FuseMonotoneUptoSaid : Prop := fuseMonotoneUptoRow.holds Try.pinned (OpenSpec.upto fuseMonotoneSpec)

/-- 'bootchainlaw07.FuseNoise', WHERE WHAT IT READS IS OF BULK AT MOST 1048576: true; the input reads as it did. -/
def fuseNoiseUptoRow : OpenClaim := { program := "ytnahokblbpppeaa", sum := "57ad2a104e8669838016d1bc23cd087792a6fb168d47e17a9767e64c521bb49d", func := "bootchain/bootchainlaw07.FuseNoise", spec := "fuseNoise", unfollowed := true, recurses := true, apart := false, narrowed := true }
def FuseNoiseUptoSaid : Prop := fuseNoiseUptoRow.holds Try.pinned (OpenSpec.upto fuseNoiseSpec)

/-- 'bootchainlaw07.FuseCut', WHERE WHAT IT READS IS OF BULK AT MOST 1048576: true; the input reads as it did. -/
def fuseCutUptoRow : OpenClaim := { program := "ytnahokblbpppeaa", sum := "57ad2a104e8669838016d1bc23cd087792a6fb168d47e17a9767e64c521bb49d", func := "bootchain/bootchainlaw07.FuseCut", spec := "fuseCut", unfollowed := true, recurses := true, apart := false, narrowed := true }
def FuseCutUptoSaid : Prop := fuseCutUptoRow.holds Try.pinned (OpenSpec.upto fuseCutSpec)

/-- 'bootchainlaw07.FuseRaise', WHERE WHAT IT READS IS OF BULK AT MOST 1048576: true; the input reads as it did. -/
def fuseRaiseUptoRow : OpenClaim := { program := "ytnahokblbpppeaa", sum := "57ad2a104e8669838016d1bc23cd087792a6fb168d47e17a9767e64c521bb49d", func := "bootchain/bootchainlaw07.FuseRaise", spec := "fuseRaise", unfollowed := true, recurses := true, apart := false, narrowed := true }
def FuseRaiseUptoSaid : Prop := fuseRaiseUptoRow.holds Try.pinned (OpenSpec.upto fuseRaiseSpec)

/-- 'bootchainlaw07.FusePermanent', WHERE WHAT IT READS IS OF BULK AT MOST 1048576: true; the input reads as it did. -/
def fusePermanentUptoRow : OpenClaim := { program := "ytnahokblbpppeaa", sum := "57ad2a104e8669838016d1bc23cd087792a6fb168d47e17a9767e64c521bb49d", func := "bootchain/bootchainlaw07.FusePermanent", spec := "fusePermanent", unfollowed := true, recurses := true, apart := false, narrowed := true }
def FusePermanentUptoSaid : Prop := fusePermanentUptoRow.holds Try.pinned (OpenSpec.upto fusePermanentSpec)

end Rows
end Go.Proofs.Ytnahokblbpppeaa
