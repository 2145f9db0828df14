/-
  The sanity check runs.
-/
import Derived.Test.YthhpebcihfcajaaGreatDoorSeA
set_option linter.unusedVariables false
set_option linter.unusedSimpArgs false
namespace Go.Ev
open Go.Proofs
theorem awake_runs (ty : Nat → TypeId) : isT (evCall E0 100000 200 10 [] (st0 ty)) = true := by kernel_rfl
end Go.Ev
