/- Chapter 38: a world that meets the rows' condition on the listed variables. -/
import Derived.Test.YtdeccekeknlnoaaGreatDoorJStGl
import Derived.Test.YtdeccekeknlnoaaGreatDoorChecked
import Derived.Lay
import Derived.ProofKit
import Derived.ChangeSame
import Derived.ChangeVars
import Derived.Stop.Joined
namespace Go.Proofs.YtdeccekeknlnoaaGreatDoor
open Go.ChangeShapes Go.WideShapes Go.RowKit
theorem own : ownKnob Tryz.prog.godebug = none := by kernel_rfl
noncomputable def wE (os : Os) : World :=
  let w0 := World.holding Tryz.prog os ⟨#[], #[], []⟩
  { w0 with heap := (w0.heap.modify 0 fun
      | .cells _ t fr => .cells #[.nilFunc, .func (.func 298) #[] #[], .func (.func 299) #[] #[], .func (.func 301) #[] #[], .func (.func 302) #[] #[], .func (.func 303) #[] #[], .func (.func 304) #[] #[], .func (.func 305) #[] #[], .func (.func 307) #[] #[], .func (.func 309) #[] #[], .func (.func 311) #[] #[]] t fr
      | o => o).modify 7 fun
      | .cells _ t fr => .cells #[.nilFunc, .func (.func 312) #[] #[], .func (.func 313) #[] #[], .func (.func 314) #[] #[], .func (.func 315) #[] #[], .func (.func 315) #[] #[], .func (.func 315) #[] #[], .func (.func 315) #[] #[], .func (.func 315) #[] #[], .func (.func 315) #[] #[], .func (.func 315) #[] #[], .func (.func 316) #[] #[], .func (.func 317) #[] #[], .func (.func 318) #[] #[], .func (.func 319) #[] #[], .func (.func 320) #[] #[], .func (.func 320) #[] #[], .func (.func 321) #[] #[]] t fr
      | o => o }
noncomputable def laidW (os : Os) : World := (wE os).layVars Tryz.prog laidPlain
theorem laidW_os (os : Os) : (laidW os).os = os := World.layVars_os _ _ _
theorem plain_filter : (laidAll.filter fun x => x.2.handleName?.isNone) = laidPlain := by kernel_rfl
theorem laidW_plain (os : Os) (args : Array Value) : laidMet Tryz.prog laidPlain ((laidW os).forCall (fun _ _ => 0) ⟨#[], args, []⟩).memory := by
  have e1 : (laidPlain.filter fun x => (laidPlain.map (·.1)).contains x.1) = laidPlain := by kernel_rfl
  have e2 : (laidPlain.filter fun x => !(laidPlain.map (·.1)).contains x.1) = [] := by kernel_rfl
  have h : laidMet Tryz.prog laidPlain (laidW os) := laidMet_layVars (w0 := wE os) (laidPlain.map (·.1)) [] (by rw [e1]; rfl) (by rw [e1]; kernel_rfl) (by rw [e1]; kernel_rfl) (by rw [e2]; exact LaidIn.none)
  exact h.of_heap (by simp [World.memory, World.forCall, Input.heap])
theorem laidW_met (os : Os) (args : Array Value) : laidMetH Tryz.prog laidAll ((laidW os).forCall (fun _ _ => 0) ⟨#[], args, []⟩).memory :=
  laidMetH_of_parts3 (fuel := 8) (by rw [plain_filter]; exact laidW_plain os args) (by kernel_rfl) (by kernel_rfl)
theorem laidW_shaped (os : Os) (args : Array Value) : ((laidW os).forCall (fun _ _ => 0) ⟨#[], args, []⟩).Shaped Tryz.prog := World.shaped_of_ZipB (by kernel_rfl) (by kernel_rfl)
end Go.Proofs.YtdeccekeknlnoaaGreatDoor
