/-
  NARROWER THAN 'FOR EVERY INPUT', by the rows' own cells (each row's printed sentence says how): ValueAnalyses: laid · ValueCovers: laid · ValueEnds: laid · ValueRaw: laid · ValueSound: laid · ValueNarrows: laid.
  DERIVED. THE GIVEN ROWS OF THIS SEAT. 6 by the template 'for every input the law returns true; each argument reads behind the call as it read before'; 0 by the template 'total and deterministic' (their statements: YthhpebcihfcajaaGreatDoorTotals.lean).
  GIVEN WITH THE SEED: the statements are not yours to turn. If you find one false, say at which input.
  Laid BY PROGRAM, IN A SANDBOX (cutbox-rows.mjs): the forced cells as the released guide's own fill.sh prints them over the translation 864f704590d67b4c… (all of the seat's roots in one cut). By AI agents, Wed Nov 11 2026. No macro, syntax, notation, axiom, sorry.
-/
import Derived.Test.YthhpebcihfcajaaGreatDoorChecked
import GoSem.Claim
import GoSem.ClaimJoined
import GoSem.ClaimMapViews
import Derived.JoinedTies
import Derived.KernelRfl
namespace Go.Proofs.YthhpebcihfcajaaGreatDoor
/- THE CELL 'sum', in the pinned program and in every row, IS THE sha256 OF THE DUMP (.gsa) THAT YthhpebcihfcajaaGreatDoorProg.lean LOADS. Nothing in Lean hashes anything: it is a label: what it is worth is what the hold of that sum in a sandbox is worth. -/
noncomputable def Tryz.pinned : Pinned := { name := "ythhpebcihfcajaagreatdoor", sum := "864f704590d67b4c3fb1930ff70ec9f1265d2fc4779486797cd576ca525e89b1", checked := Tryz.checked }
namespace Rows
def none {H : Type} : Left H := { results := [], args := [] }

/- WHAT THE LISTED PACKAGE-LEVEL VARIABLES READ AS WHEN THE CALL BEGINS. Each datum BY PROGRAM (the guide's laid-datum.mjs) off the statement by which the dump's own 'gosem.cut.vars' lays the variable. In a bare row this is a premise. The card (YthhpebcihfcajaaGreatDoorCards.lean) ties it to the program's text. -/
def laid_math_bits_deBruijn32tab {H : Type} : DataW H := .agg [.lit (.int .u8 0), .lit (.int .u8 1), .lit (.int .u8 28), .lit (.int .u8 2), .lit (.int .u8 29), .lit (.int .u8 14), .lit (.int .u8 24), .lit (.int .u8 3), .lit (.int .u8 30), .lit (.int .u8 22), .lit (.int .u8 20), .lit (.int .u8 15), .lit (.int .u8 25), .lit (.int .u8 17), .lit (.int .u8 4), .lit (.int .u8 8), .lit (.int .u8 31), .lit (.int .u8 27), .lit (.int .u8 13), .lit (.int .u8 23), .lit (.int .u8 21), .lit (.int .u8 19), .lit (.int .u8 16), .lit (.int .u8 7), .lit (.int .u8 26), .lit (.int .u8 12), .lit (.int .u8 18), .lit (.int .u8 6), .lit (.int .u8 11), .lit (.int .u8 5), .lit (.int .u8 10), .lit (.int .u8 9)]
def laid_math_bits_deBruijn64tab {H : Type} : DataW H := .agg [.lit (.int .u8 0), .lit (.int .u8 1), .lit (.int .u8 56), .lit (.int .u8 2), .lit (.int .u8 57), .lit (.int .u8 49), .lit (.int .u8 28), .lit (.int .u8 3), .lit (.int .u8 61), .lit (.int .u8 58), .lit (.int .u8 42), .lit (.int .u8 50), .lit (.int .u8 38), .lit (.int .u8 29), .lit (.int .u8 17), .lit (.int .u8 4), .lit (.int .u8 62), .lit (.int .u8 47), .lit (.int .u8 59), .lit (.int .u8 36), .lit (.int .u8 45), .lit (.int .u8 43), .lit (.int .u8 51), .lit (.int .u8 22), .lit (.int .u8 53), .lit (.int .u8 39), .lit (.int .u8 33), .lit (.int .u8 30), .lit (.int .u8 24), .lit (.int .u8 18), .lit (.int .u8 12), .lit (.int .u8 5), .lit (.int .u8 63), .lit (.int .u8 55), .lit (.int .u8 48), .lit (.int .u8 27), .lit (.int .u8 60), .lit (.int .u8 41), .lit (.int .u8 37), .lit (.int .u8 16), .lit (.int .u8 46), .lit (.int .u8 35), .lit (.int .u8 44), .lit (.int .u8 21), .lit (.int .u8 52), .lit (.int .u8 32), .lit (.int .u8 23), .lit (.int .u8 11), .lit (.int .u8 54), .lit (.int .u8 26), .lit (.int .u8 40), .lit (.int .u8 15), .lit (.int .u8 34), .lit (.int .u8 20), .lit (.int .u8 31), .lit (.int .u8 10), .lit (.int .u8 25), .lit (.int .u8 14), .lit (.int .u8 19), .lit (.int .u8 9), .lit (.int .u8 13), .lit (.int .u8 8), .lit (.int .u8 7), .lit (.int .u8 6)]
def laid_internal_strconv_uint64pow10 {H : Type} : DataW H := .agg [.lit (.int .u64 1), .lit (.int .u64 10), .lit (.int .u64 100), .lit (.int .u64 1000), .lit (.int .u64 10000), .lit (.int .u64 100000), .lit (.int .u64 1000000), .lit (.int .u64 10000000), .lit (.int .u64 100000000), .lit (.int .u64 1000000000), .lit (.int .u64 10000000000), .lit (.int .u64 100000000000), .lit (.int .u64 1000000000000), .lit (.int .u64 10000000000000), .lit (.int .u64 100000000000000), .lit (.int .u64 1000000000000000), .lit (.int .u64 10000000000000000), .lit (.int .u64 100000000000000000), .lit (.int .u64 1000000000000000000), .lit (.int .u64 10000000000000000000)]
def laid_timebound_tree_words {H : Type} : DataW H := .slice [.lit (.string [114, 101, 115, 111, 117, 114, 99, 101]), .lit (.string [115, 104, 97, 114, 101, 100]), .lit (.string [116, 97, 115, 107]), .lit (.string [112, 101, 114, 105, 111, 100]), .lit (.string [100, 101, 97, 100, 108, 105, 110, 101]), .lit (.string [112, 114, 105, 111, 114, 105, 116, 121]), .lit (.string [106, 105, 116, 116, 101, 114]), .lit (.string [105, 110, 112, 117, 116]), .lit (.string [118, 97, 114]), .lit (.string [97, 114, 114, 97, 121]), .lit (.string [109, 111, 100, 101]), .lit (.string [110, 101, 118, 101, 114]), .lit (.string [98, 111, 100, 121]), .lit (.string [101, 110, 100]), .lit (.string [105, 102]), .lit (.string [108, 97, 98, 101, 108]), .lit (.string [101, 108, 115, 101]), .lit (.string [119, 104, 105, 108, 101]), .lit (.string [109, 97, 120]), .lit (.string [108, 111, 99, 107])] []
def laid_timebound_tree_signs {H : Type} : DataW H := .agg [.lit (.string [43]), .lit (.string [45]), .lit (.string [42]), .lit (.string [47]), .lit (.string [37]), .lit (.string [38]), .lit (.string [124]), .lit (.string [94]), .lit (.string [60, 60]), .lit (.string [62, 62]), .lit (.string [60]), .lit (.string [60, 61]), .lit (.string [61, 61]), .lit (.string [33, 61])]

/-- 'timeboundlaw09.ValueAnalyses': WHATEVER THE INPUT: true; the input reads as it did. -/
def valueAnalysesSpec : ChangeSpec := { name := "valueAnalyses", fn := fun _ => fun
  | [d1, d2, d3, d4, d5] => { results := [.lit (.bool true)], args := [d1, d2, d3, d4, d5] }
  | _ => none }
def valueAnalysesRow : OpenClaim := { program := "ythhpebcihfcajaagreatdoor", sum := "864f704590d67b4c3fb1930ff70ec9f1265d2fc4779486797cd576ca525e89b1", func := "timebound/timeboundlaw09.ValueAnalyses", spec := "valueAnalyses", inPlace := ["internal/abi.NoEscape", "internal/bytealg.MakeNoZero"], unfollowed := true, recurses := true, named := ["timebound/tree.words", "timebound/tree.signs", "internal/strconv.uint64pow10", "math/bits.deBruijn32tab", "math/bits.deBruijn64tab"], apart := false, laid := [("math/bits.deBruijn32tab", laid_math_bits_deBruijn32tab), ("math/bits.deBruijn64tab", laid_math_bits_deBruijn64tab), ("internal/strconv.uint64pow10", laid_internal_strconv_uint64pow10), ("timebound/tree.words", laid_timebound_tree_words), ("timebound/tree.signs", laid_timebound_tree_signs)] }
def ValueAnalysesSaid : Prop := valueAnalysesRow.holds Tryz.pinned (OpenSpec.ofChange valueAnalysesSpec)

/-- ITS FALSE NEIGHBOUR: 'it returns false'. Refute it at one input. -/
def valueAnalysesWrong : ChangeSpec := { name := "valueAnalyses", fn := fun _ => fun
  | [d1, d2, d3, d4, d5] => { results := [.lit (.bool false)], args := [d1, d2, d3, d4, d5] }
  | _ => none }
def ValueAnalysesWrongFalsely : Prop := valueAnalysesRow.holds Tryz.pinned (OpenSpec.ofChange valueAnalysesWrong)

/-- 'timeboundlaw09.ValueCovers': WHATEVER THE INPUT: true; the input reads as it did. -/
def valueCoversSpec : ChangeSpec := { name := "valueCovers", fn := fun _ => fun
  | [d1, d2, d3] => { results := [.lit (.bool true)], args := [d1, d2, d3] }
  | _ => none }
def valueCoversRow : OpenClaim := { program := "ythhpebcihfcajaagreatdoor", sum := "864f704590d67b4c3fb1930ff70ec9f1265d2fc4779486797cd576ca525e89b1", func := "timebound/timeboundlaw09.ValueCovers", spec := "valueCovers", inPlace := ["internal/abi.NoEscape", "internal/bytealg.MakeNoZero"], unfollowed := true, recurses := true, named := ["timebound/tree.words", "timebound/tree.signs", "internal/strconv.uint64pow10", "math/bits.deBruijn32tab", "math/bits.deBruijn64tab"], apart := false, laid := [("math/bits.deBruijn32tab", laid_math_bits_deBruijn32tab), ("math/bits.deBruijn64tab", laid_math_bits_deBruijn64tab), ("internal/strconv.uint64pow10", laid_internal_strconv_uint64pow10), ("timebound/tree.words", laid_timebound_tree_words), ("timebound/tree.signs", laid_timebound_tree_signs)] }
def ValueCoversSaid : Prop := valueCoversRow.holds Tryz.pinned (OpenSpec.ofChange valueCoversSpec)

/-- ITS FALSE NEIGHBOUR: 'it returns false'. Refute it at one input. -/
def valueCoversWrong : ChangeSpec := { name := "valueCovers", fn := fun _ => fun
  | [d1, d2, d3] => { results := [.lit (.bool false)], args := [d1, d2, d3] }
  | _ => none }
def ValueCoversWrongFalsely : Prop := valueCoversRow.holds Tryz.pinned (OpenSpec.ofChange valueCoversWrong)

/-- 'timeboundlaw09.ValueEnds': WHATEVER THE INPUT: true; the input reads as it did. -/
def valueEndsSpec : ChangeSpec := { name := "valueEnds", fn := fun _ => fun
  | [d] => { results := [.lit (.bool true)], args := [d] }
  | _ => none }
def valueEndsRow : OpenClaim := { program := "ythhpebcihfcajaagreatdoor", sum := "864f704590d67b4c3fb1930ff70ec9f1265d2fc4779486797cd576ca525e89b1", func := "timebound/timeboundlaw09.ValueEnds", spec := "valueEnds", inPlace := ["internal/abi.NoEscape", "internal/bytealg.MakeNoZero"], unfollowed := true, recurses := true, named := ["timebound/tree.words", "timebound/tree.signs", "internal/strconv.uint64pow10", "math/bits.deBruijn32tab", "math/bits.deBruijn64tab"], apart := false, laid := [("math/bits.deBruijn32tab", laid_math_bits_deBruijn32tab), ("math/bits.deBruijn64tab", laid_math_bits_deBruijn64tab), ("internal/strconv.uint64pow10", laid_internal_strconv_uint64pow10), ("timebound/tree.words", laid_timebound_tree_words), ("timebound/tree.signs", laid_timebound_tree_signs)] }
def ValueEndsSaid : Prop := valueEndsRow.holds Tryz.pinned (OpenSpec.ofChange valueEndsSpec)

/-- ITS FALSE NEIGHBOUR: 'it returns false'. Refute it at one input. -/
def valueEndsWrong : ChangeSpec := { name := "valueEnds", fn := fun _ => fun
  | [d] => { results := [.lit (.bool false)], args := [d] }
  | _ => none }
def ValueEndsWrongFalsely : Prop := valueEndsRow.holds Tryz.pinned (OpenSpec.ofChange valueEndsWrong)

/-- 'timeboundlaw09.ValueRaw': WHATEVER THE INPUT: true; the input reads as it did. -/
def valueRawSpec : ChangeSpec := { name := "valueRaw", fn := fun _ => fun
  | [d1, d2, d3, d4] => { results := [.lit (.bool true)], args := [d1, d2, d3, d4] }
  | _ => none }
def valueRawRow : OpenClaim := { program := "ythhpebcihfcajaagreatdoor", sum := "864f704590d67b4c3fb1930ff70ec9f1265d2fc4779486797cd576ca525e89b1", func := "timebound/timeboundlaw09.ValueRaw", spec := "valueRaw", inPlace := ["internal/abi.NoEscape", "internal/bytealg.MakeNoZero"], unfollowed := true, recurses := true, named := ["math/bits.deBruijn64tab", "timebound/tree.words", "timebound/tree.signs", "internal/strconv.uint64pow10", "math/bits.deBruijn32tab"], apart := false, laid := [("math/bits.deBruijn32tab", laid_math_bits_deBruijn32tab), ("math/bits.deBruijn64tab", laid_math_bits_deBruijn64tab), ("internal/strconv.uint64pow10", laid_internal_strconv_uint64pow10), ("timebound/tree.words", laid_timebound_tree_words), ("timebound/tree.signs", laid_timebound_tree_signs)] }
def ValueRawSaid : Prop := valueRawRow.holds Tryz.pinned (OpenSpec.ofChange valueRawSpec)

/-- ITS FALSE NEIGHBOUR: 'it returns false'. Refute it at one input. -/
def valueRawWrong : ChangeSpec := { name := "valueRaw", fn := fun _ => fun
  | [d1, d2, d3, d4] => { results := [.lit (.bool false)], args := [d1, d2, d3, d4] }
  | _ => none }
def ValueRawWrongFalsely : Prop := valueRawRow.holds Tryz.pinned (OpenSpec.ofChange valueRawWrong)

/-- 'timeboundlaw09.ValueSound': WHATEVER THE INPUT: true; the input reads as it did. -/
def valueSoundSpec : ChangeSpec := { name := "valueSound", fn := fun _ => fun
  | [d1, d2, d3, d4, d5, d6, d7] => { results := [.lit (.bool true)], args := [d1, d2, d3, d4, d5, d6, d7] }
  | _ => none }
def valueSoundRow : OpenClaim := { program := "ythhpebcihfcajaagreatdoor", sum := "864f704590d67b4c3fb1930ff70ec9f1265d2fc4779486797cd576ca525e89b1", func := "timebound/timeboundlaw09.ValueSound", spec := "valueSound", inPlace := ["internal/abi.NoEscape", "internal/bytealg.MakeNoZero"], unfollowed := true, recurses := true, named := ["math/bits.deBruijn64tab", "timebound/tree.words", "timebound/tree.signs", "internal/strconv.uint64pow10", "math/bits.deBruijn32tab"], apart := false, laid := [("math/bits.deBruijn32tab", laid_math_bits_deBruijn32tab), ("math/bits.deBruijn64tab", laid_math_bits_deBruijn64tab), ("internal/strconv.uint64pow10", laid_internal_strconv_uint64pow10), ("timebound/tree.words", laid_timebound_tree_words), ("timebound/tree.signs", laid_timebound_tree_signs)] }
def ValueSoundSaid : Prop := valueSoundRow.holds Tryz.pinned (OpenSpec.ofChange valueSoundSpec)

/-- ITS FALSE NEIGHBOUR: 'it returns false'. Refute it at one input. -/
def valueSoundWrong : ChangeSpec := { name := "valueSound", fn := fun _ => fun
  | [d1, d2, d3, d4, d5, d6, d7] => { results := [.lit (.bool false)], args := [d1, d2, d3, d4, d5, d6, d7] }
  | _ => none }
def ValueSoundWrongFalsely : Prop := valueSoundRow.holds Tryz.pinned (OpenSpec.ofChange valueSoundWrong)

/-- 'timeboundlaw09.ValueNarrows': WHATEVER THE INPUT: true; the input reads as it did. -/
def valueNarrowsSpec : ChangeSpec := { name := "valueNarrows", fn := fun _ => fun
  | [d] => { results := [.lit (.bool true)], args := [d] }
  | _ => none }
def valueNarrowsRow : OpenClaim := { program := "ythhpebcihfcajaagreatdoor", sum := "864f704590d67b4c3fb1930ff70ec9f1265d2fc4779486797cd576ca525e89b1", func := "timebound/timeboundlaw09.ValueNarrows", spec := "valueNarrows", inPlace := ["internal/abi.NoEscape", "internal/bytealg.MakeNoZero"], unfollowed := true, recurses := true, named := ["timebound/tree.words", "timebound/tree.signs", "internal/strconv.uint64pow10", "math/bits.deBruijn32tab", "math/bits.deBruijn64tab"], apart := false, laid := [("math/bits.deBruijn32tab", laid_math_bits_deBruijn32tab), ("math/bits.deBruijn64tab", laid_math_bits_deBruijn64tab), ("internal/strconv.uint64pow10", laid_internal_strconv_uint64pow10), ("timebound/tree.words", laid_timebound_tree_words), ("timebound/tree.signs", laid_timebound_tree_signs)] }
def ValueNarrowsSaid : Prop := valueNarrowsRow.holds Tryz.pinned (OpenSpec.ofChange valueNarrowsSpec)

/-- ITS FALSE NEIGHBOUR: 'it returns false'. Refute it at one input. -/
def valueNarrowsWrong : ChangeSpec := { name := "valueNarrows", fn := fun _ => fun
  | [d] => { results := [.lit (.bool false)], args := [d] }
  | _ => none }
def ValueNarrowsWrongFalsely : Prop := valueNarrowsRow.holds Tryz.pinned (OpenSpec.ofChange valueNarrowsWrong)

/- THE SECOND FORM. 'bulk': how many values and letters a reading holds, each counted each time it is reached (what is shared counts as often as it is met; a slice's spare places count too). A statement '..UptoSaid' is the law's where the arguments, and the package variables that the reading takes, are together of bulk at most 1048576: NARROWER than '..Said'. Prove '..Said' where nothing that the law and all that it calls make is longer than what came in: it says more and counts as full. Else prove '..UptoSaid'. A law counts once. -/
mutual
def uptoBulk {H : Type} : DataW H → Nat
  | .lit (.string bytes) => bytes.length + 1
  | .lit _ => 1
  | .nil => 1
  | .ptr d => uptoBulk d + 1
  | .slice elems spare => uptoBulkAll elems + uptoBulkAll spare + 1
  | .agg parts => uptoBulkAll parts + 1
  | .iface _ d => uptoBulk d + 1
  | .map entries => uptoBulkEntries entries + 1
  | .held _ => 1
def uptoBulkAll {H : Type} : List (DataW H) → Nat
  | [] => 0
  | d :: r => uptoBulk d + uptoBulkAll r
def uptoBulkEntries {H : Type} : List (Lit × DataW H) → Nat
  | [] => 0
  | x :: r => uptoBulkEntry x + uptoBulkEntries r
def uptoBulkEntry {H : Type} : Lit × DataW H → Nat
  | (.string bytes, d) => bytes.length + uptoBulk d + 1
  | (_, d) => uptoBulk d + 1
 end
def uptoSmall : (H : Type) → List (DataW H) → Bool := fun _ ds => decide (uptoBulkAll ds ≤ 1048576)
def OpenSpec.upto (s : _root_.Go.ChangeSpec) : _root_.Go.OpenSpec := { _root_.Go.OpenSpec.ofChange s with cond := some uptoSmall }

/-- 'timeboundlaw09.ValueAnalyses', WHERE WHAT IT READS IS OF BULK AT MOST 1048576: true; the input reads as it did. -/
def valueAnalysesUptoRow : OpenClaim := { program := "ythhpebcihfcajaagreatdoor", sum := "864f704590d67b4c3fb1930ff70ec9f1265d2fc4779486797cd576ca525e89b1", func := "timebound/timeboundlaw09.ValueAnalyses", spec := "valueAnalyses", inPlace := ["internal/abi.NoEscape", "internal/bytealg.MakeNoZero"], unfollowed := true, recurses := true, named := ["timebound/tree.words", "timebound/tree.signs", "internal/strconv.uint64pow10", "math/bits.deBruijn32tab", "math/bits.deBruijn64tab"], apart := false, laid := [("math/bits.deBruijn32tab", laid_math_bits_deBruijn32tab), ("math/bits.deBruijn64tab", laid_math_bits_deBruijn64tab), ("internal/strconv.uint64pow10", laid_internal_strconv_uint64pow10), ("timebound/tree.words", laid_timebound_tree_words), ("timebound/tree.signs", laid_timebound_tree_signs)], narrowed := true }
def ValueAnalysesUptoSaid : Prop := valueAnalysesUptoRow.holds Tryz.pinned (OpenSpec.upto valueAnalysesSpec)

/-- 'timeboundlaw09.ValueCovers', WHERE WHAT IT READS IS OF BULK AT MOST 1048576: true; the input reads as it did. -/
def valueCoversUptoRow : OpenClaim := { program := "ythhpebcihfcajaagreatdoor", sum := "864f704590d67b4c3fb1930ff70ec9f1265d2fc4779486797cd576ca525e89b1", func := "timebound/timeboundlaw09.ValueCovers", spec := "valueCovers", inPlace := ["internal/abi.NoEscape", "internal/bytealg.MakeNoZero"], unfollowed := true, recurses := true, named := ["timebound/tree.words", "timebound/tree.signs", "internal/strconv.uint64pow10", "math/bits.deBruijn32tab", "math/bits.deBruijn64tab"], apart := false, laid := [("math/bits.deBruijn32tab", laid_math_bits_deBruijn32tab), ("math/bits.deBruijn64tab", laid_math_bits_deBruijn64tab), ("internal/strconv.uint64pow10", laid_internal_strconv_uint64pow10), ("timebound/tree.words", laid_timebound_tree_words), ("timebound/tree.signs", laid_timebound_tree_signs)], narrowed := true }
def ValueCoversUptoSaid : Prop := valueCoversUptoRow.holds Tryz.pinned (OpenSpec.upto valueCoversSpec)

/-- 'timeboundlaw09.ValueEnds', WHERE WHAT IT READS IS OF BULK AT MOST 1048576: true; the input reads as it did. -/
def valueEndsUptoRow : OpenClaim := { program := "ythhpebcihfcajaagreatdoor", sum := "864f704590d67b4c3fb1930ff70ec9f1265d2fc4779486797cd576ca525e89b1", func := "timebound/timeboundlaw09.ValueEnds", spec := "valueEnds", inPlace := ["internal/abi.NoEscape", "internal/bytealg.MakeNoZero"], unfollowed := true, recurses := true, named := ["timebound/tree.words", "timebound/tree.signs", "internal/strconv.uint64pow10", "math/bits.deBruijn32tab", "math/bits.deBruijn64tab"], apart := false, laid := [("math/bits.deBruijn32tab", laid_math_bits_deBruijn32tab), ("math/bits.deBruijn64tab", laid_math_bits_deBruijn64tab), ("internal/strconv.uint64pow10", laid_internal_strconv_uint64pow10), ("timebound/tree.words", laid_timebound_tree_words), ("timebound/tree.signs", laid_timebound_tree_signs)], narrowed := true }
def ValueEndsUptoSaid : Prop := valueEndsUptoRow.holds Tryz.pinned (OpenSpec.upto valueEndsSpec)

/-- 'timeboundlaw09.ValueRaw', WHERE WHAT IT READS IS OF BULK AT MOST 1048576: true; the input reads as it did. -/
def valueRawUptoRow : OpenClaim := { program := "ythhpebcihfcajaagreatdoor", sum := "864f704590d67b4c3fb1930ff70ec9f1265d2fc4779486797cd576ca525e89b1", func := "timebound/timeboundlaw09.ValueRaw", spec := "valueRaw", inPlace := ["internal/abi.NoEscape", "internal/bytealg.MakeNoZero"], unfollowed := true, recurses := true, named := ["math/bits.deBruijn64tab", "timebound/tree.words", "timebound/tree.signs", "internal/strconv.uint64pow10", "math/bits.deBruijn32tab"], apart := false, laid := [("math/bits.deBruijn32tab", laid_math_bits_deBruijn32tab), ("math/bits.deBruijn64tab", laid_math_bits_deBruijn64tab), ("internal/strconv.uint64pow10", laid_internal_strconv_uint64pow10), ("timebound/tree.words", laid_timebound_tree_words), ("timebound/tree.signs", laid_timebound_tree_signs)], narrowed := true }
def ValueRawUptoSaid : Prop := valueRawUptoRow.holds Tryz.pinned (OpenSpec.upto valueRawSpec)

/-- 'timeboundlaw09.ValueSound', WHERE WHAT IT READS IS OF BULK AT MOST 1048576: true; the input reads as it did. -/
def valueSoundUptoRow : OpenClaim := { program := "ythhpebcihfcajaagreatdoor", sum := "864f704590d67b4c3fb1930ff70ec9f1265d2fc4779486797cd576ca525e89b1", func := "timebound/timeboundlaw09.ValueSound", spec := "valueSound", inPlace := ["internal/abi.NoEscape", "internal/bytealg.MakeNoZero"], unfollowed := true, recurses := true, named := ["math/bits.deBruijn64tab", "timebound/tree.words", "timebound/tree.signs", "internal/strconv.uint64pow10", "math/bits.deBruijn32tab"], apart := false, laid := [("math/bits.deBruijn32tab", laid_math_bits_deBruijn32tab), ("math/bits.deBruijn64tab", laid_math_bits_deBruijn64tab), ("internal/strconv.uint64pow10", laid_internal_strconv_uint64pow10), ("timebound/tree.words", laid_timebound_tree_words), ("timebound/tree.signs", laid_timebound_tree_signs)], narrowed := true }
def ValueSoundUptoSaid : Prop := valueSoundUptoRow.holds Tryz.pinned (OpenSpec.upto valueSoundSpec)

/-- 'timeboundlaw09.ValueNarrows', WHERE WHAT IT READS IS OF BULK AT MOST 1048576: true; the input reads as it did. -/
def valueNarrowsUptoRow : OpenClaim := { program := "ythhpebcihfcajaagreatdoor", sum := "864f704590d67b4c3fb1930ff70ec9f1265d2fc4779486797cd576ca525e89b1", func := "timebound/timeboundlaw09.ValueNarrows", spec := "valueNarrows", inPlace := ["internal/abi.NoEscape", "internal/bytealg.MakeNoZero"], unfollowed := true, recurses := true, named := ["timebound/tree.words", "timebound/tree.signs", "internal/strconv.uint64pow10", "math/bits.deBruijn32tab", "math/bits.deBruijn64tab"], apart := false, laid := [("math/bits.deBruijn32tab", laid_math_bits_deBruijn32tab), ("math/bits.deBruijn64tab", laid_math_bits_deBruijn64tab), ("internal/strconv.uint64pow10", laid_internal_strconv_uint64pow10), ("timebound/tree.words", laid_timebound_tree_words), ("timebound/tree.signs", laid_timebound_tree_signs)], narrowed := true }
def ValueNarrowsUptoSaid : Prop := valueNarrowsUptoRow.holds Tryz.pinned (OpenSpec.upto valueNarrowsSpec)

end Rows
end Go.Proofs.YthhpebcihfcajaaGreatDoor
