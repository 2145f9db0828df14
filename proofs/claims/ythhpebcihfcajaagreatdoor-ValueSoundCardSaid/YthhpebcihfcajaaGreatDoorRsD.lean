/-
  For every input, timeboundlaw09.ValueSound returns true and leaves its arguments as they were: the row, and its card tied to the program text. Conditions: the row cells (laid: the listed package-level variables start as the program text lays them, which the card ties).
-/
import Derived.Test.YthhpebcihfcajaaGreatDoorRsA
import Derived.Test.YthhpebcihfcajaaGreatDoorRsB
import Derived.Test.YthhpebcihfcajaaGreatDoorRsC
import Derived.Test.YthhpebcihfcajaaGreatDoorRwC
set_option linter.unusedVariables false
set_option linter.unusedSimpArgs false
namespace Go.Proofs.YthhpebcihfcajaaGreatDoor
open Go Go.RowKit Go.ChangeShapes Go.WideShapes
set_option maxRecDepth 100000 in
theorem snd_row : Rows.ValueSoundSaid :=
  OpenClaim.holds_of_wide 7 Tryz.f7 rfl rfl rfl rfl rfl rfl rfl ⟨rfl, rfl, rfl, rfl, rfl⟩ rfl rfl rfl rfl rfl snd1 Tryz.func7 snd2 snd3 snd4
    (fun os started H enc _ => Go.Ev.sound_lifted os started H enc)

set_option maxRecDepth 100000 in
theorem snd_card : Rows.ValueSoundCardSaid :=
  Claim7.holds_tied_plain_at .later [] [.data, .data, .data, .widerDeep, .widerDeep] true (true, "4ab08def90391f901e601a66e84c439b653095302883ce3ded892ec6c234a6fe") false
    snd_row (fun _ h => by cases h) snd5 (fun _ h => by cases h) valueSound_row_tie rfl ⟨rfl, rfl⟩ raw6 rfl
    (fun f fn hf hfn => by
      obtain rfl : f = 7 := Option.some.inj (snd1.symm.trans hf) |>.symm
      obtain rfl : fn = Tryz.f7 := (Option.some.inj (Tryz.func7.symm.trans hfn)).symm
      exact ⟨raw7, fun j t ht => by
        rw [Tryz.params7] at ht
        have hm : t ∈ [5, 21, 21, 88, 88, 5, 5] := by simpa using Array.mem_of_getElem? ht
        exact (show Tryz.prog.wantsStandIn t = false by simpa using List.all_eq_true.1 noStand7 t hm)⟩)
    snd8
#print axioms snd_card
end Go.Proofs.YthhpebcihfcajaaGreatDoor
