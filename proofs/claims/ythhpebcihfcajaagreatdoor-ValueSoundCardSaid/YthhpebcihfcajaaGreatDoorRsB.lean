/-
  Closed facts of the row of ValueSound.
-/
import Derived.Test.YthhpebcihfcajaaGreatDoorSeE
import Derived.Test.YthhpebcihfcajaaGreatDoorCards
import Derived.Test.YthhpebcihfcajaaGreatDoorTie
import Derived.SevenTiedAt
import Derived.JoinedOf
set_option linter.unusedVariables false
set_option linter.unusedSimpArgs false
namespace Go.Proofs.YthhpebcihfcajaaGreatDoor
open Go Go.RowKit Go.ChangeShapes Go.WideShapes
theorem snd1 : Tryz.pinned.checked.prog.funcNamed Rows.valueSoundRow.func = some 7 := by kernel_rfl
theorem snd2 : joinedFacts Tryz.pinned.checked.prog 7 Tryz.f7 Rows.valueSoundSpec Rows.valueSoundRow = true := by kernel_rfl
theorem snd3 : Tryz.f7.isInstance Tryz.pinned.checked.prog Rows.valueSoundRow.origin Rows.valueSoundRow.targs := of_decide_eq_true (by kernel_rfl)
theorem snd4 : Tryz.f7.isWrapper Tryz.pinned.checked.prog Rows.valueSoundRow.wrapper Rows.valueSoundRow.mainSum := by unfold Func.isWrapper; first | (rw [if_pos (by decide +kernel)]; kernel_rfl) | (rw [if_neg (by decide +kernel)]; exact ⟨rfl, rfl⟩)
end Go.Proofs.YthhpebcihfcajaaGreatDoor
