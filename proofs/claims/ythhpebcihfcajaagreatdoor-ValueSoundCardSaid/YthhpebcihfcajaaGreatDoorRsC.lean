/-
  Closed facts of the card of ValueSound.
-/
import Derived.Test.YthhpebcihfcajaaGreatDoorCards
import Derived.Test.YthhpebcihfcajaaGreatDoorTie
import Derived.SevenTiedAt
set_option linter.unusedVariables false
set_option linter.unusedSimpArgs false
namespace Go.Proofs.YthhpebcihfcajaaGreatDoor
open Go
theorem snd5 : Rows.valueSoundRow.wfByText (OpenSpec.ofChange Rows.valueSoundSpec) = true := by kernel_rfl
theorem noStand7 : ([5, 21, 21, 88, 88, 5, 5].all fun u => !Tryz.prog.wantsStandIn u) = true := by kernel_rfl
theorem snd8 : false = Rows.valueSoundRow.goesBy Tryz.pinned.checked.prog := by kernel_rfl
end Go.Proofs.YthhpebcihfcajaaGreatDoor
