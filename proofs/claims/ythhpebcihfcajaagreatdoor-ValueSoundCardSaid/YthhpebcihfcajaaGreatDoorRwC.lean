/-
  Closed facts of the card of ValueRaw.
-/
import Derived.Test.YthhpebcihfcajaaGreatDoorCards
import Derived.Test.YthhpebcihfcajaaGreatDoorTie
import Derived.SevenTiedAt
set_option linter.unusedVariables false
set_option linter.unusedSimpArgs false
namespace Go.Proofs.YthhpebcihfcajaaGreatDoor
open Go
theorem raw5 : Rows.valueRawRow.wfByText (OpenSpec.ofChange Rows.valueRawSpec) = true := by kernel_rfl
theorem raw6 : Tryz.pinned.checked.prog.mainIs = some (true, "4ab08def90391f901e601a66e84c439b653095302883ce3ded892ec6c234a6fe".toList) := by kernel_rfl
theorem raw7 : false = Tryz.pinned.checked.prog.looks [] := by kernel_rfl
theorem noStand6 : ([3, 67, 67, 3].all fun u => !Tryz.prog.wantsStandIn u) = true := by kernel_rfl
theorem raw8 : false = Rows.valueRawRow.goesBy Tryz.pinned.checked.prog := by kernel_rfl
end Go.Proofs.YthhpebcihfcajaaGreatDoor
