import Derived.Test.YtajijcfikihhjaaGreatDoorAAW
import Derived.LaidMore
import Derived.Stop.LaidErr
import Derived.OpenShut
import Derived.Stop.Joined
set_option linter.unusedSimpArgs false
set_option linter.unusedVariables false
set_option maxRecDepth 100000
set_option maxHeartbeats 16000000
namespace Go.Proofs.YtajijcfikihhjaaGreatDoor
open Go.ChangeShapes Go.WideShapes Go.ChangeAt Go.RowKit Go.Sort Go.Deep
theorem both {a b : Bool} (h : a = true) (k : b = true) : (a && b) = true := by rw [h, k]; rfl
def YO : List (String × DataW Unit) := Rows.auditEachRow.laid
theorem env_of_laid {W : World} (h : laidMetH Tryz.prog YO W) : EnvP W := by
 rw [MakeChecks.laidMetH_plain _ _ _ (by kernel_rfl)] at h
 exact ⟨Lib.tabIs_of_head (P := Tryz.prog) (k := .u64) (zs := Lib.pow10Tab) (g := 0) (t := 306) (e := 42) (n := 20) (by kernel_rfl) (by kernel_rfl) Tryz.underlying306 Tryz.underlying42 (by kernel_rfl) (by kernel_rfl) h.tail.tail⟩
theorem door_met (os : Os) (args : Array Value) : laidMetH Tryz.prog YO ((World.doorLaid Tryz.prog 272 os).forCall (fun _ _ => 0) ⟨#[], args, []⟩).memory :=
 laidMetH_of_parts3 (fuel := 8) (laidMet_of_run' 8 (by kernel_rfl) (by kernel_rfl)) (by kernel_rfl) (by kernel_rfl)
end Go.Proofs.YtajijcfikihhjaaGreatDoor
