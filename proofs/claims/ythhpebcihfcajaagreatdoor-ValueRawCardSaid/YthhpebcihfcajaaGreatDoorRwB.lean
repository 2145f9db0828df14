/-
  Closed facts of the row of ValueRaw.
-/
import Derived.Test.YthhpebcihfcajaaGreatDoorSeE
import Derived.Test.YthhpebcihfcajaaGreatDoorCards
import Derived.Test.YthhpebcihfcajaaGreatDoorTie
import Derived.SevenTiedAt
import Derived.JoinedOf
set_option linter.unusedVariables false
set_option linter.unusedSimpArgs false
namespace Go.Proofs.YthhpebcihfcajaaGreatDoor
open Go Go.RowKit Go.ChangeShapes Go.WideShapes
theorem raw1 : Tryz.pinned.checked.prog.funcNamed Rows.valueRawRow.func = some 6 := by kernel_rfl
theorem raw2 : joinedFacts Tryz.pinned.checked.prog 6 Tryz.f6 Rows.valueRawSpec Rows.valueRawRow = true := by kernel_rfl
theorem raw3 : Tryz.f6.isInstance Tryz.pinned.checked.prog Rows.valueRawRow.origin Rows.valueRawRow.targs := of_decide_eq_true (by kernel_rfl)
theorem raw4 : Tryz.f6.isWrapper Tryz.pinned.checked.prog Rows.valueRawRow.wrapper Rows.valueRawRow.mainSum := by unfold Func.isWrapper; first | (rw [if_pos (by decide +kernel)]; kernel_rfl) | (rw [if_neg (by decide +kernel)]; exact ⟨rfl, rfl⟩)
end Go.Proofs.YthhpebcihfcajaaGreatDoor
