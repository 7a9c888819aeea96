/- The examples that every statement of the chapter holds: the call returns true. -/
import Derived.Test.YtoabjjimjldcfaaGreatDoorM06Base
namespace Go.Proofs.YtoabjjimjldcfaaGreatDoor
open Go Go.Ab
theorem awake_fast : callF Tryz.prog noGl pf false 600 9 [] ⟨0, .nil⟩ (fun u _ => bareEq (.bool true) u) = true := by kernel_rfl
theorem awake_known : Known Tryz.prog 9 [] (.bool true) := by
  obtain ⟨h', hr⟩ := of_fastV prims_ref awake_fast
  exact known_of_run (run_ok 600) hr rfl rfl (by unfold YB; decide) Tryz.func9 rfl names_ok
end Go.Proofs.YtoabjjimjldcfaaGreatDoor
