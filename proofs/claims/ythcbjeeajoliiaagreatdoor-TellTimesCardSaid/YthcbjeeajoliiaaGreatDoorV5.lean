/- Small makers of the server: bring, a net's dial. -/
import Derived.Test.YthcbjeeajoliiaaGreatDoorV4
set_option linter.unusedVariables false
set_option linter.unusedSimpArgs false
namespace Go.Proofs.YthcbjeeajoliiaaGreatDoor
open Go.RowKit

def bringI (n most : Int) : Int := min (max n 1) most

theorem bring_any (w : World) (n m : Int) :
    Calls Tryz.prog 22 #[.int .i64 n, .int .i64 m] w fun e w' => e = .returned (.int .i64 (bringI n m)) ∧ Fr No w w' := by
  unfold bringI
  go_enter Tryz.func22, Tryz.ntmps22
  go_wp2_with fail
  all_goals go_ret
  all_goals refine ⟨congrArg (fun z => Ending.returned (Value.int .i64 z)) ?_, Fr.refl _ _⟩
  all_goals first | omega | (split at * <;> omega)

theorem infoConnP : (Tryz.prog.info? 66).map (fun i => (i.zero, i.size, i.bytes)) = some (some (.pointer none), 1, 8) := by kernel_rfl
theorem infoInt : (Tryz.prog.info? 3).map (fun i => (i.zero, i.size, i.bytes)) = some (some (.int .i64 0), 1, 8) := by kernel_rfl
end Go.Proofs.YthcbjeeajoliiaaGreatDoor
