/-
  For every input, timeboundlaw09.ValueRaw returns true and leaves its arguments as they were: the row, and its card tied to the program text. Conditions: the row cells (laid: the listed package-level variables start as the program text lays them, which the card ties).
-/
import Derived.Test.YthhpebcihfcajaaGreatDoorRwA
import Derived.Test.YthhpebcihfcajaaGreatDoorRwB
import Derived.Test.YthhpebcihfcajaaGreatDoorRwC
set_option linter.unusedVariables false
set_option linter.unusedSimpArgs false
namespace Go.Proofs.YthhpebcihfcajaaGreatDoor
open Go Go.RowKit Go.ChangeShapes Go.WideShapes
set_option maxRecDepth 100000 in
theorem raw_row : Rows.ValueRawSaid :=
  OpenClaim.holds_of_wide 6 Tryz.f6 rfl rfl rfl rfl rfl rfl rfl ⟨rfl, rfl, rfl, rfl, rfl⟩ rfl rfl rfl rfl rfl raw1 Tryz.func6 raw2 raw3 raw4
    (fun os started H enc _ => Go.Ev.raw_lifted os started H enc)

set_option maxRecDepth 100000 in
theorem raw_card : Rows.ValueRawCardSaid :=
  Claim7.holds_tied_plain_at .later [] [.data, .data, .data, .widerDeep, .widerDeep] true (true, "4ab08def90391f901e601a66e84c439b653095302883ce3ded892ec6c234a6fe") false
    raw_row (fun _ h => by cases h) raw5 (fun _ h => by cases h) valueRaw_row_tie rfl ⟨rfl, rfl⟩ raw6 rfl
    (fun f fn hf hfn => by
      obtain rfl : f = 6 := Option.some.inj (raw1.symm.trans hf) |>.symm
      obtain rfl : fn = Tryz.f6 := (Option.some.inj (Tryz.func6.symm.trans hfn)).symm
      exact ⟨raw7, fun j t ht => by
        rw [Tryz.params6] at ht
        have hm : t ∈ [3, 67, 67, 3] := by simpa using Array.mem_of_getElem? ht
        exact (show Tryz.prog.wantsStandIn t = false by simpa using List.all_eq_true.1 noStand6 t hm)⟩)
    raw8
#print axioms raw_card
end Go.Proofs.YthhpebcihfcajaaGreatDoor
