/- Chapter 29: a world that meets the rows' condition on the listed variables. -/
import Derived.Test.YtdolpmmnjndfkaaGreatDoorPoGl
import Derived.Test.YtdolpmmnjndfkaaGreatDoorChecked
import Derived.Lay
import Derived.ProofKit
import Derived.ChangeSame
import Derived.ChangeVars
import Derived.Stop.Joined
namespace Go.Proofs.YtdolpmmnjndfkaaGreatDoor
open Go.ChangeShapes Go.WideShapes Go.RowKit
theorem own : ownKnob Tryz.prog.godebug = none := by kernel_rfl
noncomputable def wE (os : Os) : World :=
  let w0 := World.holding Tryz.prog os ⟨#[], #[], []⟩
  { w0 with heap := w0.heap.modify 0 fun
      | .cells _ t fr => .cells #[.nilFunc, .func (.func 155) #[] #[], .func (.func 156) #[] #[], .func (.func 158) #[] #[], .func (.func 159) #[] #[], .func (.func 160) #[] #[], .func (.func 161) #[] #[], .func (.func 162) #[] #[], .func (.func 164) #[] #[], .func (.func 166) #[] #[], .func (.func 168) #[] #[]] t fr
      | o => o }
noncomputable def laidW (os : Os) : World := (wE os).layVars Tryz.prog laidPlain
theorem laidW_os (os : Os) : (laidW os).os = os := World.layVars_os _ _ _
theorem plain_filter : (laidAll.filter fun x => x.2.handleName?.isNone) = laidPlain := by kernel_rfl
theorem laidW_plain (os : Os) (args : Array Value) : laidMet Tryz.prog laidPlain ((laidW os).forCall (fun _ _ => 0) ⟨#[], args, []⟩).memory := by
  have e1 : (laidPlain.filter fun x => (laidPlain.map (·.1)).contains x.1) = laidPlain := by kernel_rfl
  have e2 : (laidPlain.filter fun x => !(laidPlain.map (·.1)).contains x.1) = [] := by kernel_rfl
  have h : laidMet Tryz.prog laidPlain (laidW os) := laidMet_layVars (w0 := wE os) (laidPlain.map (·.1)) [] (by rw [e1]; rfl) (by rw [e1]; kernel_rfl) (by rw [e1]; kernel_rfl) (by rw [e2]; exact LaidIn.none)
  exact h.of_heap (by simp [World.memory, World.forCall, Input.heap])
theorem laidW_met (os : Os) (args : Array Value) : laidMetH Tryz.prog laidAll ((laidW os).forCall (fun _ _ => 0) ⟨#[], args, []⟩).memory :=
  laidMetH_of_parts3 (fuel := 8) (by rw [plain_filter]; exact laidW_plain os args) (by kernel_rfl) (by kernel_rfl)
theorem laidW_shaped (os : Os) (args : Array Value) : ((laidW os).forCall (fun _ _ => 0) ⟨#[], args, []⟩).Shaped Tryz.prog := World.shaped_of_ZipB (by kernel_rfl) (by kernel_rfl)
end Go.Proofs.YtdolpmmnjndfkaaGreatDoor
