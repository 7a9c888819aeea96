/- The examples of the chapter on machines hold: called in whatever memory, on every schedule, MachineExamples returns true. No condition. -/
import Derived.Test.YtoabjjimjldcfaaGreatDoorM06Awake
namespace Go.Proofs.YtoabjjimjldcfaaGreatDoor
open Go Go.Ab
noncomputable def exTab : List (List Value × Value) := [([], .bool true)]
noncomputable def exPr (f : FuncId) : Option Prim := cnd (Nat.beq f 9) (some (sMemo exTab)) (pr f)
noncomputable def exPf (f : FuncId) : Option (PrimF Bool) := cnd (Nat.beq f 9) (some (fMemo false exTab)) (pf f)
theorem exPrims_ref : PrimsRef false exPf exPr := fun f => by
  unfold exPf exPr
  cases h1 : Nat.beq f 9 with
  | true => exact .inr ⟨_, _, rfl, rfl, fun cf cr _ args h K => fMemo_ref false exTab cf cr args h K⟩
  | false => exact prims_ref f
theorem exPrims_ok {gl : Nat → Bool} : PrimsOk Tryz.prog gl exPr := fun f p h => by
  unfold exPr at h
  cases h1 : Nat.beq f 9 with
  | true =>
    rw [h1] at h
    obtain rfl := Option.some.inj h
    obtain rfl : f = 9 := by simpa [Nat.beq_eq] using h1
    exact memo_ok fun r hr => by
      obtain rfl := List.mem_singleton.1 hr
      exact ⟨awake_known, rfl⟩
  | false => rw [h1] at h; exact prims_ok f p h
theorem ex_fast : callF Tryz.prog noGl exPf false 600 6 [] ⟨0, .nil⟩ (fun u _ => bareEq (.bool true) u) = true := by kernel_rfl
theorem ex_known : Known Tryz.prog 6 [] (.bool true) := by
  obtain ⟨h', hr⟩ := of_fastV exPrims_ref ex_fast
  exact known_of_run (call_ok names_ok exPrims_ok draws_ok (drawsText_of names_ok) 600) hr rfl rfl (by unfold YB; decide) Tryz.func6 rfl names_ok

end Go.Proofs.YtoabjjimjldcfaaGreatDoor
