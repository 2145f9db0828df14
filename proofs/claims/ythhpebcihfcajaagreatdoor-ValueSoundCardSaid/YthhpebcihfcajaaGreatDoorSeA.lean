/-
  What the package-level variables hold.
-/
import Derived.Test.YthhpebcihfcajaaGreatDoorEvA
import Derived.Test.YthhpebcihfcajaaGreatDoorProg
import Derived.KernelRfl
set_option linter.unusedVariables false
set_option linter.unusedSimpArgs false
namespace Go.Ev
open Go.Proofs
def str (l : List UInt8) : Value := .string ⟨⟨l⟩⟩
def u8s (l : List Int) : List Value := l.map fun n => .int .u8 n
def u64s (l : List Int) : List Value := l.map fun n => .int .u64 n
def roRow (t : TypeId) (cs : List Value) : LO := .cells t cs 0 0 true
def deB64 : List Int := [0, 1, 56, 2, 57, 49, 28, 3, 61, 58, 42, 50, 38, 29, 17, 4, 62, 47, 59, 36, 45, 43, 51, 22, 53, 39, 33, 30, 24, 18, 12, 5, 63, 55, 48, 27, 60, 41, 37, 16, 46, 35, 44, 21, 52, 32, 23, 11, 54, 26, 40, 15, 34, 20, 31, 10, 25, 14, 19, 9, 13, 8, 7, 6]
def deB32 : List Int := [0, 1, 28, 2, 29, 14, 24, 3, 30, 22, 20, 15, 25, 17, 4, 8, 31, 27, 13, 23, 21, 19, 16, 7, 26, 12, 18, 6, 11, 5, 10, 9]
def pow10 : List Int := [1, 10, 100, 1000, 10000, 100000, 1000000, 10000000, 100000000, 1000000000, 10000000000, 100000000000, 1000000000000, 10000000000000, 100000000000000, 1000000000000000, 10000000000000000, 100000000000000000, 1000000000000000000, 10000000000000000000]
def words : List (List UInt8) := [[114, 101, 115, 111, 117, 114, 99, 101], [115, 104, 97, 114, 101, 100], [116, 97, 115, 107], [112, 101, 114, 105, 111, 100], [100, 101, 97, 100, 108, 105, 110, 101], [112, 114, 105, 111, 114, 105, 116, 121], [106, 105, 116, 116, 101, 114], [105, 110, 112, 117, 116], [118, 97, 114], [97, 114, 114, 97, 121], [109, 111, 100, 101], [110, 101, 118, 101, 114], [98, 111, 100, 121], [101, 110, 100], [105, 102], [108, 97, 98, 101, 108], [101, 108, 115, 101], [119, 104, 105, 108, 101], [109, 97, 120], [108, 111, 99, 107]]
def signs : List (List UInt8) := [[43], [45], [42], [47], [37], [38], [124], [94], [60, 60], [62, 62], [60], [60, 61], [61, 61], [33, 61]]
noncomputable def heap0 (ty : Nat → TypeId) : T LO := T.ofListFrom [roRow (ty 0) (u8s deB64), roRow (ty 1) [.slice (some ⟨12, 0, none⟩) 20 20], roRow (ty 2) (signs.map str), roRow (ty 3) [poison], roRow (ty 4) (u64s pow10), roRow (ty 5) (u8s deB32), roRow 0 [], roRow 0 [], roRow 0 [], roRow 0 [], roRow 0 [], roRow (ty 6) (words.map str)] 1 .e
noncomputable def st0 (ty : Nat → TypeId) : St := ⟨heap0 ty, 13, 13⟩
noncomputable def E0 : Env := mkEnv Tryz.prog [(329, .noZero 5), (315, .noEscape)]
def isT : Option (Value × St) → Bool
  | some (.bool b, _) => b
  | _ => false
end Go.Ev
