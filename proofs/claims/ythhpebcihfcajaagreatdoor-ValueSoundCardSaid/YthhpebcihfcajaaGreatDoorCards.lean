/-
  DERIVED. GIVEN WITH THE SEED: THE CARDS: each row of YthhpebcihfcajaaGreatDoorRows.lean that lists a variable, with what it lists TIED to the program's text (the seventh form; the later family's looks); each row that meets fmt, with fmt's text TOLD by the authors' own Lean function (tested against real Go, not proved from fmt's source: count such statements apart). THE CARD IS WHAT COUNTS. Prove the row's statement (the work); the ties are given (YthhpebcihfcajaaGreatDoorTie.lean); close each card by the builder's one call (the guide's Derived/Test/ToyasCard.lean, 'card_holds'). Laid BY PROGRAM, IN A SANDBOX (cutbox-door.mjs). By AI agents, Wed Nov 11 2026. No macro, syntax, notation, axiom, sorry.
-/
import Derived.Test.YthhpebcihfcajaaGreatDoorRows
import GoSem.ClaimSeven
namespace Go.Proofs.YthhpebcihfcajaaGreatDoor
namespace Rows

/-- THE TIED CARD OF 'timeboundlaw09.ValueAnalyses'. -/
def valueAnalysesCard : Claim7 := { stood := { row := valueAnalysesRow, standIns := [], harness := (true, "4ab08def90391f901e601a66e84c439b653095302883ce3ded892ec6c234a6fe"), looks := false }, kinds := [], alts := [], laidByText := true, laidKinds := [.data, .data, .data, .widerDeep, .widerDeep], laidTests := true, laidLooks := .later }
def ValueAnalysesCardSaid : Prop := Claim7.holds Tryz.pinned (.plain (OpenSpec.ofChange valueAnalysesSpec)) valueAnalysesCard

/-- THE TIED CARD OF 'timeboundlaw09.ValueCovers'. -/
def valueCoversCard : Claim7 := { stood := { row := valueCoversRow, standIns := [], harness := (true, "4ab08def90391f901e601a66e84c439b653095302883ce3ded892ec6c234a6fe"), looks := false }, kinds := [], alts := [], laidByText := true, laidKinds := [.data, .data, .data, .widerDeep, .widerDeep], laidTests := true, laidLooks := .later }
def ValueCoversCardSaid : Prop := Claim7.holds Tryz.pinned (.plain (OpenSpec.ofChange valueCoversSpec)) valueCoversCard

/-- THE TIED CARD OF 'timeboundlaw09.ValueEnds'. -/
def valueEndsCard : Claim7 := { stood := { row := valueEndsRow, standIns := [], harness := (true, "4ab08def90391f901e601a66e84c439b653095302883ce3ded892ec6c234a6fe"), looks := false }, kinds := [], alts := [], laidByText := true, laidKinds := [.data, .data, .data, .widerDeep, .widerDeep], laidTests := true, laidLooks := .later }
def ValueEndsCardSaid : Prop := Claim7.holds Tryz.pinned (.plain (OpenSpec.ofChange valueEndsSpec)) valueEndsCard

/-- THE TIED CARD OF 'timeboundlaw09.ValueRaw'. -/
def valueRawCard : Claim7 := { stood := { row := valueRawRow, standIns := [], harness := (true, "4ab08def90391f901e601a66e84c439b653095302883ce3ded892ec6c234a6fe"), looks := false }, kinds := [], alts := [], laidByText := true, laidKinds := [.data, .data, .data, .widerDeep, .widerDeep], laidTests := true, laidLooks := .later }
def ValueRawCardSaid : Prop := Claim7.holds Tryz.pinned (.plain (OpenSpec.ofChange valueRawSpec)) valueRawCard

/-- THE TIED CARD OF 'timeboundlaw09.ValueSound'. -/
def valueSoundCard : Claim7 := { stood := { row := valueSoundRow, standIns := [], harness := (true, "4ab08def90391f901e601a66e84c439b653095302883ce3ded892ec6c234a6fe"), looks := false }, kinds := [], alts := [], laidByText := true, laidKinds := [.data, .data, .data, .widerDeep, .widerDeep], laidTests := true, laidLooks := .later }
def ValueSoundCardSaid : Prop := Claim7.holds Tryz.pinned (.plain (OpenSpec.ofChange valueSoundSpec)) valueSoundCard

/-- THE TIED CARD OF 'timeboundlaw09.ValueNarrows'. -/
def valueNarrowsCard : Claim7 := { stood := { row := valueNarrowsRow, standIns := [], harness := (true, "4ab08def90391f901e601a66e84c439b653095302883ce3ded892ec6c234a6fe"), looks := false }, kinds := [], alts := [], laidByText := true, laidKinds := [.data, .data, .data, .widerDeep, .widerDeep], laidTests := true, laidLooks := .later }
def ValueNarrowsCardSaid : Prop := Claim7.holds Tryz.pinned (.plain (OpenSpec.ofChange valueNarrowsSpec)) valueNarrowsCard

/-- THE SECOND FORM's CARD OF 'timeboundlaw09.ValueAnalyses'. -/
def valueAnalysesUptoCard : Claim7 := { stood := { row := valueAnalysesUptoRow, standIns := [], harness := (true, "4ab08def90391f901e601a66e84c439b653095302883ce3ded892ec6c234a6fe"), looks := false }, kinds := [], alts := [], laidByText := true, laidKinds := [.data, .data, .data, .widerDeep, .widerDeep], laidTests := true, laidLooks := .later }
def ValueAnalysesUptoCardSaid : Prop := Claim7.holds Tryz.pinned (.plain (OpenSpec.upto valueAnalysesSpec)) valueAnalysesUptoCard

/-- THE SECOND FORM's CARD OF 'timeboundlaw09.ValueCovers'. -/
def valueCoversUptoCard : Claim7 := { stood := { row := valueCoversUptoRow, standIns := [], harness := (true, "4ab08def90391f901e601a66e84c439b653095302883ce3ded892ec6c234a6fe"), looks := false }, kinds := [], alts := [], laidByText := true, laidKinds := [.data, .data, .data, .widerDeep, .widerDeep], laidTests := true, laidLooks := .later }
def ValueCoversUptoCardSaid : Prop := Claim7.holds Tryz.pinned (.plain (OpenSpec.upto valueCoversSpec)) valueCoversUptoCard

/-- THE SECOND FORM's CARD OF 'timeboundlaw09.ValueEnds'. -/
def valueEndsUptoCard : Claim7 := { stood := { row := valueEndsUptoRow, standIns := [], harness := (true, "4ab08def90391f901e601a66e84c439b653095302883ce3ded892ec6c234a6fe"), looks := false }, kinds := [], alts := [], laidByText := true, laidKinds := [.data, .data, .data, .widerDeep, .widerDeep], laidTests := true, laidLooks := .later }
def ValueEndsUptoCardSaid : Prop := Claim7.holds Tryz.pinned (.plain (OpenSpec.upto valueEndsSpec)) valueEndsUptoCard

/-- THE SECOND FORM's CARD OF 'timeboundlaw09.ValueRaw'. -/
def valueRawUptoCard : Claim7 := { stood := { row := valueRawUptoRow, standIns := [], harness := (true, "4ab08def90391f901e601a66e84c439b653095302883ce3ded892ec6c234a6fe"), looks := false }, kinds := [], alts := [], laidByText := true, laidKinds := [.data, .data, .data, .widerDeep, .widerDeep], laidTests := true, laidLooks := .later }
def ValueRawUptoCardSaid : Prop := Claim7.holds Tryz.pinned (.plain (OpenSpec.upto valueRawSpec)) valueRawUptoCard

/-- THE SECOND FORM's CARD OF 'timeboundlaw09.ValueSound'. -/
def valueSoundUptoCard : Claim7 := { stood := { row := valueSoundUptoRow, standIns := [], harness := (true, "4ab08def90391f901e601a66e84c439b653095302883ce3ded892ec6c234a6fe"), looks := false }, kinds := [], alts := [], laidByText := true, laidKinds := [.data, .data, .data, .widerDeep, .widerDeep], laidTests := true, laidLooks := .later }
def ValueSoundUptoCardSaid : Prop := Claim7.holds Tryz.pinned (.plain (OpenSpec.upto valueSoundSpec)) valueSoundUptoCard

/-- THE SECOND FORM's CARD OF 'timeboundlaw09.ValueNarrows'. -/
def valueNarrowsUptoCard : Claim7 := { stood := { row := valueNarrowsUptoRow, standIns := [], harness := (true, "4ab08def90391f901e601a66e84c439b653095302883ce3ded892ec6c234a6fe"), looks := false }, kinds := [], alts := [], laidByText := true, laidKinds := [.data, .data, .data, .widerDeep, .widerDeep], laidTests := true, laidLooks := .later }
def ValueNarrowsUptoCardSaid : Prop := Claim7.holds Tryz.pinned (.plain (OpenSpec.upto valueNarrowsSpec)) valueNarrowsUptoCard
end Rows
end Go.Proofs.YthhpebcihfcajaaGreatDoor
