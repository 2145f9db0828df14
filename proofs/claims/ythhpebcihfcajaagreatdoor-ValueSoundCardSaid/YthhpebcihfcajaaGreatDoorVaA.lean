/-
  Words and trailing zeros: what their functions answer.
-/
import Derived.Test.YthhpebcihfcajaaGreatDoorSeD
set_option linter.unusedVariables false
set_option linter.unusedSimpArgs false
namespace Go.Ev
open Go.Proofs

theorem t135 {R : Type} (q : Bool) (ty : Nat → TypeId) (n : Int) (k : Value → Option R) : ansK ⟨plainT, q⟩ [] 1000 20 ty 135 [.int .i64 n] k =
    (bc (!(ltB n (-2147483648))) (bc (!(ltB 2147483647 n)) (k (.bool true)) (k (.bool false))) (k (.bool false))) := by kernel_rfl

theorem t95 {R : Type} (q : Bool) (ty : Nat → TypeId) (n : Int) (k : Value → Option R) : ansK ⟨plainT, q⟩ [] 1000 20 ty 95 [.int .i64 n] k =
    (k (.int .i64 (IntKind.wrap .i64 (IntKind.wrap .i32 (IntKind.wrap .u32 n))))) := by kernel_rfl

theorem t97 {R : Type} (q : Bool) (ty : Nat → TypeId) (n : Int) (k : Value → Option R) : ansK ⟨plainT, q⟩ [] 1000 20 ty 97 [.int .i64 n] k =
    (k (.int .i64 (IntKind.wrap .i64 (IntKind.wrap .i32 (IntKind.wrap .u32 (IntKind.wrap .u64 n)))))) := by kernel_rfl

theorem t213 {R : Type} (q : Bool) (ty : Nat → TypeId) (n : Int) (k : Value → Option R) : ansK ⟨plainT, q⟩ [] 41 20 ty 213 [.int .i64 n] k =
    (bc (ltB 0 n) (bc (ltB 1 n) (bc (ltB 3 n) (bc (ltB 7 n) (bc (ltB 15 n) (bc (ltB 31 n) (bc (ltB 63 n) (bc (ltB 127 n) (bc (ltB 255 n) (bc (ltB 511 n) (bc (ltB 1023 n) (bc (ltB 2047 n) (bc (ltB 4095 n) (bc (ltB 8191 n) (bc (ltB 16383 n) (bc (ltB 32767 n) (bc (ltB 65535 n) (bc (ltB 131071 n) (bc (ltB 262143 n) (bc (ltB 524287 n) (bc (ltB 1048575 n) (bc (ltB 2097151 n) (bc (ltB 4194303 n) (bc (ltB 8388607 n) (bc (ltB 16777215 n) (bc (ltB 33554431 n) (bc (ltB 67108863 n) (bc (ltB 134217727 n) (bc (ltB 268435455 n) (bc (ltB 536870911 n) (bc (ltB 1073741823 n) (bc (ltB 2147483647 n) (bc (ltB 4294967295 n) (bc (ltB 8589934591 n) none none) (k (.int .i64 4294967295))) (k (.int .i64 2147483647))) (k (.int .i64 1073741823))) (k (.int .i64 536870911))) (k (.int .i64 268435455))) (k (.int .i64 134217727))) (k (.int .i64 67108863))) (k (.int .i64 33554431))) (k (.int .i64 16777215))) (k (.int .i64 8388607))) (k (.int .i64 4194303))) (k (.int .i64 2097151))) (k (.int .i64 1048575))) (k (.int .i64 524287))) (k (.int .i64 262143))) (k (.int .i64 131071))) (k (.int .i64 65535))) (k (.int .i64 32767))) (k (.int .i64 16383))) (k (.int .i64 8191))) (k (.int .i64 4095))) (k (.int .i64 2047))) (k (.int .i64 1023))) (k (.int .i64 511))) (k (.int .i64 255))) (k (.int .i64 127))) (k (.int .i64 63))) (k (.int .i64 31))) (k (.int .i64 15))) (k (.int .i64 7))) (k (.int .i64 3))) (k (.int .i64 1))) (k (.int .i64 0))) := by kernel_rfl

theorem t146 {R : Type} (q : Bool) (ty : Nat → TypeId) (n : Int) (k : Value → Option R) : ansK ⟨plainT, q⟩ [] 41 20 ty 146 [.int .i64 n] k =
    (bc (ltB 0 n) (bc (ltB 1 n) (bc (ltB 3 n) (bc (ltB 7 n) (bc (ltB 15 n) (bc (ltB 31 n) (bc (ltB 63 n) (bc (ltB 127 n) (bc (ltB 255 n) (bc (ltB 511 n) (bc (ltB 1023 n) (bc (ltB 2047 n) (bc (ltB 4095 n) (bc (ltB 8191 n) (bc (ltB 16383 n) (bc (ltB 32767 n) (bc (ltB 65535 n) (bc (ltB 131071 n) (bc (ltB 262143 n) (bc (ltB 524287 n) (bc (ltB 1048575 n) (bc (ltB 2097151 n) (bc (ltB 4194303 n) (bc (ltB 8388607 n) (bc (ltB 16777215 n) (bc (ltB 33554431 n) (bc (ltB 67108863 n) (bc (ltB 134217727 n) (bc (ltB 268435455 n) (bc (ltB 536870911 n) (bc (ltB 1073741823 n) (bc (ltB 2147483647 n) (bc (ltB 4294967295 n) (bc (ltB 8589934591 n) none none) (k (.int .i64 4294967295))) (k (.int .i64 2147483647))) (k (.int .i64 1073741823))) (k (.int .i64 536870911))) (k (.int .i64 268435455))) (k (.int .i64 134217727))) (k (.int .i64 67108863))) (k (.int .i64 33554431))) (k (.int .i64 16777215))) (k (.int .i64 8388607))) (k (.int .i64 4194303))) (k (.int .i64 2097151))) (k (.int .i64 1048575))) (k (.int .i64 524287))) (k (.int .i64 262143))) (k (.int .i64 131071))) (k (.int .i64 65535))) (k (.int .i64 32767))) (k (.int .i64 16383))) (k (.int .i64 8191))) (k (.int .i64 4095))) (k (.int .i64 2047))) (k (.int .i64 1023))) (k (.int .i64 511))) (k (.int .i64 255))) (k (.int .i64 127))) (k (.int .i64 63))) (k (.int .i64 31))) (k (.int .i64 15))) (k (.int .i64 7))) (k (.int .i64 3))) (k (.int .i64 1))) (k (.int .i64 0))) := by kernel_rfl

theorem t217 {R : Type} (q : Bool) (ty : Nat → TypeId) (n : Int) (k : Value → Option R) : ansK ⟨plainT, q⟩ [] 1000 20 ty 217 [.int .u64 n] k =
    (bc (eqB n 0) (k (.int .i64 64)) (bc (eqB (sealI q (shrI .u64 (wrapF .u64 (Int.mul (sealI q (andI .u64 n (IntKind.wrap .u64 (0 - n)))) 285870213051353865)) 58)) 63) (k (.int .i64 6)) (bc (eqB (sealI q (shrI .u64 (wrapF .u64 (Int.mul (sealI q (andI .u64 n (IntKind.wrap .u64 (0 - n)))) 285870213051353865)) 58)) 62) (k (.int .i64 7)) (bc (eqB (sealI q (shrI .u64 (wrapF .u64 (Int.mul (sealI q (andI .u64 n (IntKind.wrap .u64 (0 - n)))) 285870213051353865)) 58)) 61) (k (.int .i64 8)) (bc (eqB (sealI q (shrI .u64 (wrapF .u64 (Int.mul (sealI q (andI .u64 n (IntKind.wrap .u64 (0 - n)))) 285870213051353865)) 58)) 60) (k (.int .i64 13)) (bc (eqB (sealI q (shrI .u64 (wrapF .u64 (Int.mul (sealI q (andI .u64 n (IntKind.wrap .u64 (0 - n)))) 285870213051353865)) 58)) 59) (k (.int .i64 9)) (bc (eqB (sealI q (shrI .u64 (wrapF .u64 (Int.mul (sealI q (andI .u64 n (IntKind.wrap .u64 (0 - n)))) 285870213051353865)) 58)) 58) (k (.int .i64 19)) (bc (eqB (sealI q (shrI .u64 (wrapF .u64 (Int.mul (sealI q (andI .u64 n (IntKind.wrap .u64 (0 - n)))) 285870213051353865)) 58)) 57) (k (.int .i64 14)) (bc (eqB (sealI q (shrI .u64 (wrapF .u64 (Int.mul (sealI q (andI .u64 n (IntKind.wrap .u64 (0 - n)))) 285870213051353865)) 58)) 56) (k (.int .i64 25)) (bc (eqB (sealI q (shrI .u64 (wrapF .u64 (Int.mul (sealI q (andI .u64 n (IntKind.wrap .u64 (0 - n)))) 285870213051353865)) 58)) 55) (k (.int .i64 10)) (bc (eqB (sealI q (shrI .u64 (wrapF .u64 (Int.mul (sealI q (andI .u64 n (IntKind.wrap .u64 (0 - n)))) 285870213051353865)) 58)) 54) (k (.int .i64 31)) (bc (eqB (sealI q (shrI .u64 (wrapF .u64 (Int.mul (sealI q (andI .u64 n (IntKind.wrap .u64 (0 - n)))) 285870213051353865)) 58)) 53) (k (.int .i64 20)) (bc (eqB (sealI q (shrI .u64 (wrapF .u64 (Int.mul (sealI q (andI .u64 n (IntKind.wrap .u64 (0 - n)))) 285870213051353865)) 58)) 52) (k (.int .i64 34)) (bc (eqB (sealI q (shrI .u64 (wrapF .u64 (Int.mul (sealI q (andI .u64 n (IntKind.wrap .u64 (0 - n)))) 285870213051353865)) 58)) 51) (k (.int .i64 15)) (bc (eqB (sealI q (shrI .u64 (wrapF .u64 (Int.mul (sealI q (andI .u64 n (IntKind.wrap .u64 (0 - n)))) 285870213051353865)) 58)) 50) (k (.int .i64 40)) (bc (eqB (sealI q (shrI .u64 (wrapF .u64 (Int.mul (sealI q (andI .u64 n (IntKind.wrap .u64 (0 - n)))) 285870213051353865)) 58)) 49) (k (.int .i64 26)) (bc (eqB (sealI q (shrI .u64 (wrapF .u64 (Int.mul (sealI q (andI .u64 n (IntKind.wrap .u64 (0 - n)))) 285870213051353865)) 58)) 48) (k (.int .i64 54)) (bc (eqB (sealI q (shrI .u64 (wrapF .u64 (Int.mul (sealI q (andI .u64 n (IntKind.wrap .u64 (0 - n)))) 285870213051353865)) 58)) 47) (k (.int .i64 11)) (bc (eqB (sealI q (shrI .u64 (wrapF .u64 (Int.mul (sealI q (andI .u64 n (IntKind.wrap .u64 (0 - n)))) 285870213051353865)) 58)) 46) (k (.int .i64 23)) (bc (eqB (sealI q (shrI .u64 (wrapF .u64 (Int.mul (sealI q (andI .u64 n (IntKind.wrap .u64 (0 - n)))) 285870213051353865)) 58)) 45) (k (.int .i64 32)) (bc (eqB (sealI q (shrI .u64 (wrapF .u64 (Int.mul (sealI q (andI .u64 n (IntKind.wrap .u64 (0 - n)))) 285870213051353865)) 58)) 44) (k (.int .i64 52)) (bc (eqB (sealI q (shrI .u64 (wrapF .u64 (Int.mul (sealI q (andI .u64 n (IntKind.wrap .u64 (0 - n)))) 285870213051353865)) 58)) 43) (k (.int .i64 21)) (bc (eqB (sealI q (shrI .u64 (wrapF .u64 (Int.mul (sealI q (andI .u64 n (IntKind.wrap .u64 (0 - n)))) 285870213051353865)) 58)) 42) (k (.int .i64 44)) (bc (eqB (sealI q (shrI .u64 (wrapF .u64 (Int.mul (sealI q (andI .u64 n (IntKind.wrap .u64 (0 - n)))) 285870213051353865)) 58)) 41) (k (.int .i64 35)) (bc (eqB (sealI q (shrI .u64 (wrapF .u64 (Int.mul (sealI q (andI .u64 n (IntKind.wrap .u64 (0 - n)))) 285870213051353865)) 58)) 40) (k (.int .i64 46)) (bc (eqB (sealI q (shrI .u64 (wrapF .u64 (Int.mul (sealI q (andI .u64 n (IntKind.wrap .u64 (0 - n)))) 285870213051353865)) 58)) 39) (k (.int .i64 16)) (bc (eqB (sealI q (shrI .u64 (wrapF .u64 (Int.mul (sealI q (andI .u64 n (IntKind.wrap .u64 (0 - n)))) 285870213051353865)) 58)) 38) (k (.int .i64 37)) (bc (eqB (sealI q (shrI .u64 (wrapF .u64 (Int.mul (sealI q (andI .u64 n (IntKind.wrap .u64 (0 - n)))) 285870213051353865)) 58)) 37) (k (.int .i64 41)) (bc (eqB (sealI q (shrI .u64 (wrapF .u64 (Int.mul (sealI q (andI .u64 n (IntKind.wrap .u64 (0 - n)))) 285870213051353865)) 58)) 36) (k (.int .i64 60)) (bc (eqB (sealI q (shrI .u64 (wrapF .u64 (Int.mul (sealI q (andI .u64 n (IntKind.wrap .u64 (0 - n)))) 285870213051353865)) 58)) 35) (k (.int .i64 27)) (bc (eqB (sealI q (shrI .u64 (wrapF .u64 (Int.mul (sealI q (andI .u64 n (IntKind.wrap .u64 (0 - n)))) 285870213051353865)) 58)) 34) (k (.int .i64 48)) (bc (eqB (sealI q (shrI .u64 (wrapF .u64 (Int.mul (sealI q (andI .u64 n (IntKind.wrap .u64 (0 - n)))) 285870213051353865)) 58)) 33) (k (.int .i64 55)) (bc (eqB (sealI q (shrI .u64 (wrapF .u64 (Int.mul (sealI q (andI .u64 n (IntKind.wrap .u64 (0 - n)))) 285870213051353865)) 58)) 32) (k (.int .i64 63)) (bc (eqB (sealI q (shrI .u64 (wrapF .u64 (Int.mul (sealI q (andI .u64 n (IntKind.wrap .u64 (0 - n)))) 285870213051353865)) 58)) 31) (k (.int .i64 5)) (bc (eqB (sealI q (shrI .u64 (wrapF .u64 (Int.mul (sealI q (andI .u64 n (IntKind.wrap .u64 (0 - n)))) 285870213051353865)) 58)) 30) (k (.int .i64 12)) (bc (eqB (sealI q (shrI .u64 (wrapF .u64 (Int.mul (sealI q (andI .u64 n (IntKind.wrap .u64 (0 - n)))) 285870213051353865)) 58)) 29) (k (.int .i64 18)) (bc (eqB (sealI q (shrI .u64 (wrapF .u64 (Int.mul (sealI q (andI .u64 n (IntKind.wrap .u64 (0 - n)))) 285870213051353865)) 58)) 28) (k (.int .i64 24)) (bc (eqB (sealI q (shrI .u64 (wrapF .u64 (Int.mul (sealI q (andI .u64 n (IntKind.wrap .u64 (0 - n)))) 285870213051353865)) 58)) 27) (k (.int .i64 30)) (bc (eqB (sealI q (shrI .u64 (wrapF .u64 (Int.mul (sealI q (andI .u64 n (IntKind.wrap .u64 (0 - n)))) 285870213051353865)) 58)) 26) (k (.int .i64 33)) (bc (eqB (sealI q (shrI .u64 (wrapF .u64 (Int.mul (sealI q (andI .u64 n (IntKind.wrap .u64 (0 - n)))) 285870213051353865)) 58)) 25) (k (.int .i64 39)) (bc (eqB (sealI q (shrI .u64 (wrapF .u64 (Int.mul (sealI q (andI .u64 n (IntKind.wrap .u64 (0 - n)))) 285870213051353865)) 58)) 24) (k (.int .i64 53)) (bc (eqB (sealI q (shrI .u64 (wrapF .u64 (Int.mul (sealI q (andI .u64 n (IntKind.wrap .u64 (0 - n)))) 285870213051353865)) 58)) 23) (k (.int .i64 22)) (bc (eqB (sealI q (shrI .u64 (wrapF .u64 (Int.mul (sealI q (andI .u64 n (IntKind.wrap .u64 (0 - n)))) 285870213051353865)) 58)) 22) (k (.int .i64 51)) (bc (eqB (sealI q (shrI .u64 (wrapF .u64 (Int.mul (sealI q (andI .u64 n (IntKind.wrap .u64 (0 - n)))) 285870213051353865)) 58)) 21) (k (.int .i64 43)) (bc (eqB (sealI q (shrI .u64 (wrapF .u64 (Int.mul (sealI q (andI .u64 n (IntKind.wrap .u64 (0 - n)))) 285870213051353865)) 58)) 20) (k (.int .i64 45)) (bc (eqB (sealI q (shrI .u64 (wrapF .u64 (Int.mul (sealI q (andI .u64 n (IntKind.wrap .u64 (0 - n)))) 285870213051353865)) 58)) 19) (k (.int .i64 36)) (bc (eqB (sealI q (shrI .u64 (wrapF .u64 (Int.mul (sealI q (andI .u64 n (IntKind.wrap .u64 (0 - n)))) 285870213051353865)) 58)) 18) (k (.int .i64 59)) (bc (eqB (sealI q (shrI .u64 (wrapF .u64 (Int.mul (sealI q (andI .u64 n (IntKind.wrap .u64 (0 - n)))) 285870213051353865)) 58)) 17) (k (.int .i64 47)) (bc (eqB (sealI q (shrI .u64 (wrapF .u64 (Int.mul (sealI q (andI .u64 n (IntKind.wrap .u64 (0 - n)))) 285870213051353865)) 58)) 16) (k (.int .i64 62)) (bc (eqB (sealI q (shrI .u64 (wrapF .u64 (Int.mul (sealI q (andI .u64 n (IntKind.wrap .u64 (0 - n)))) 285870213051353865)) 58)) 15) (k (.int .i64 4)) (bc (eqB (sealI q (shrI .u64 (wrapF .u64 (Int.mul (sealI q (andI .u64 n (IntKind.wrap .u64 (0 - n)))) 285870213051353865)) 58)) 14) (k (.int .i64 17)) (bc (eqB (sealI q (shrI .u64 (wrapF .u64 (Int.mul (sealI q (andI .u64 n (IntKind.wrap .u64 (0 - n)))) 285870213051353865)) 58)) 13) (k (.int .i64 29)) (bc (eqB (sealI q (shrI .u64 (wrapF .u64 (Int.mul (sealI q (andI .u64 n (IntKind.wrap .u64 (0 - n)))) 285870213051353865)) 58)) 12) (k (.int .i64 38)) (bc (eqB (sealI q (shrI .u64 (wrapF .u64 (Int.mul (sealI q (andI .u64 n (IntKind.wrap .u64 (0 - n)))) 285870213051353865)) 58)) 11) (k (.int .i64 50)) (bc (eqB (sealI q (shrI .u64 (wrapF .u64 (Int.mul (sealI q (andI .u64 n (IntKind.wrap .u64 (0 - n)))) 285870213051353865)) 58)) 10) (k (.int .i64 42)) (bc (eqB (sealI q (shrI .u64 (wrapF .u64 (Int.mul (sealI q (andI .u64 n (IntKind.wrap .u64 (0 - n)))) 285870213051353865)) 58)) 9) (k (.int .i64 58)) (bc (eqB (sealI q (shrI .u64 (wrapF .u64 (Int.mul (sealI q (andI .u64 n (IntKind.wrap .u64 (0 - n)))) 285870213051353865)) 58)) 8) (k (.int .i64 61)) (bc (eqB (sealI q (shrI .u64 (wrapF .u64 (Int.mul (sealI q (andI .u64 n (IntKind.wrap .u64 (0 - n)))) 285870213051353865)) 58)) 7) (k (.int .i64 3)) (bc (eqB (sealI q (shrI .u64 (wrapF .u64 (Int.mul (sealI q (andI .u64 n (IntKind.wrap .u64 (0 - n)))) 285870213051353865)) 58)) 6) (k (.int .i64 28)) (bc (eqB (sealI q (shrI .u64 (wrapF .u64 (Int.mul (sealI q (andI .u64 n (IntKind.wrap .u64 (0 - n)))) 285870213051353865)) 58)) 5) (k (.int .i64 49)) (bc (eqB (sealI q (shrI .u64 (wrapF .u64 (Int.mul (sealI q (andI .u64 n (IntKind.wrap .u64 (0 - n)))) 285870213051353865)) 58)) 4) (k (.int .i64 57)) (bc (eqB (sealI q (shrI .u64 (wrapF .u64 (Int.mul (sealI q (andI .u64 n (IntKind.wrap .u64 (0 - n)))) 285870213051353865)) 58)) 3) (k (.int .i64 2)) (bc (eqB (sealI q (shrI .u64 (wrapF .u64 (Int.mul (sealI q (andI .u64 n (IntKind.wrap .u64 (0 - n)))) 285870213051353865)) 58)) 2) (k (.int .i64 56)) (bc (eqB (sealI q (shrI .u64 (wrapF .u64 (Int.mul (sealI q (andI .u64 n (IntKind.wrap .u64 (0 - n)))) 285870213051353865)) 58)) 1) (k (.int .i64 1)) (bc (eqB (sealI q (shrI .u64 (wrapF .u64 (Int.mul (sealI q (andI .u64 n (IntKind.wrap .u64 (0 - n)))) 285870213051353865)) 58)) 0) (k (.int .i64 0)) none))))))))))))))))))))))))))))))))))))))))))))))))))))))))))))))))) := by kernel_rfl

theorem t148 {R : Type} (q : Bool) (ty : Nat → TypeId) (a : Rs) (k : Value → Option R) : ansK ⟨plainT, q⟩ [] 40 20 ty 148 [rsV a] k =
    (bc (eqB (a.1) 0) (k (.int .i64 32)) (bc (ltB (sealI q 1) (a.1)) (bc (ltB (sealI q 2) (a.1)) (bc (ltB (sealI q 4) (a.1)) (bc (ltB (sealI q 8) (a.1)) (bc (ltB (sealI q 16) (a.1)) (bc (ltB (sealI q 32) (a.1)) (bc (ltB (sealI q 64) (a.1)) (bc (ltB (sealI q 128) (a.1)) (bc (ltB (sealI q 256) (a.1)) (bc (ltB (sealI q 512) (a.1)) (bc (ltB (sealI q 1024) (a.1)) (bc (ltB (sealI q 2048) (a.1)) (bc (ltB (sealI q 4096) (a.1)) (bc (ltB (sealI q 8192) (a.1)) (bc (ltB (sealI q 16384) (a.1)) (bc (ltB (sealI q 32768) (a.1)) (bc (ltB (sealI q 65536) (a.1)) (bc (ltB (sealI q 131072) (a.1)) (bc (ltB (sealI q 262144) (a.1)) (bc (ltB (sealI q 524288) (a.1)) (bc (ltB (sealI q 1048576) (a.1)) (bc (ltB (sealI q 2097152) (a.1)) (bc (ltB (sealI q 4194304) (a.1)) (bc (ltB (sealI q 8388608) (a.1)) (bc (ltB (sealI q 16777216) (a.1)) (bc (ltB (sealI q 33554432) (a.1)) (bc (ltB (sealI q 67108864) (a.1)) (bc (ltB (sealI q 134217728) (a.1)) (bc (ltB (sealI q 268435456) (a.1)) (bc (ltB (sealI q 536870912) (a.1)) (bc (ltB (sealI q 1073741824) (a.1)) (bc (ltB (sealI q 2147483648) (a.1)) none none) (k (.int .i64 30))) (k (.int .i64 29))) (k (.int .i64 28))) (k (.int .i64 27))) (k (.int .i64 26))) (k (.int .i64 25))) (k (.int .i64 24))) (k (.int .i64 23))) (k (.int .i64 22))) (k (.int .i64 21))) (k (.int .i64 20))) (k (.int .i64 19))) (k (.int .i64 18))) (k (.int .i64 17))) (k (.int .i64 16))) (k (.int .i64 15))) (k (.int .i64 14))) (k (.int .i64 13))) (k (.int .i64 12))) (k (.int .i64 11))) (k (.int .i64 10))) (k (.int .i64 9))) (k (.int .i64 8))) (k (.int .i64 7))) (k (.int .i64 6))) (k (.int .i64 5))) (k (.int .i64 4))) (k (.int .i64 3))) (k (.int .i64 2))) (k (.int .i64 1))) (k (.int .i64 0)))) := by kernel_rfl

end Go.Ev
namespace Go.Ev
open Go.Proofs

theorem bc_ltB {α : Type} (a b : Int) (x y : α) : bc (ltB a b) x y = if a < b then x else y := by
  rw [bc_eq]; by_cases h : a < b
  · rw [if_pos h, if_pos (ltB_iff.2 h)]
  · rw [if_neg h, if_neg (by rw [ltB_iff]; exact h)]
theorem bc_nltB {α : Type} (a b : Int) (x y : α) : bc (!ltB a b) x y = if b ≤ a then x else y := by
  rw [bc_eq]; by_cases h : b ≤ a
  · rw [if_pos h, if_pos (by rw [ltB_false.2 (by omega)]; rfl)]
  · rw [if_neg h, if_neg (by rw [ltB_iff.2 (by omega)]; simp)]
theorem bc_eqB {α : Type} (a b : Int) (x y : α) : bc (eqB a b) x y = if a = b then x else y := by
  rw [bc_eq]; by_cases h : a = b
  · rw [if_pos h, if_pos (eqB_iff.2 h)]
  · rw [if_neg h, if_neg (by rw [eqB_iff]; exact h)]
theorem bc_neqB {α : Type} (a b : Int) (x y : α) : bc (!eqB a b) x y = if a = b then y else x := by
  rw [bc_eq]; by_cases h : a = b
  · rw [if_pos h, if_neg (by rw [eqB_iff.2 h]; simp)]
  · rw [if_neg h, if_pos (by rw [eqB_false.2 h]; rfl)]
theorem bc_eqIs2 {α : Type} (a b c d : Int) (x y : α) : bc (eqIs [a, b] [c, d]) x y = if a = c ∧ b = d then x else y := by
  rw [bc_eq, eqIs2]; by_cases h : a = c ∧ b = d
  · rw [if_pos h, if_pos (by simp [h.1, h.2])]
  · rw [if_neg h, if_neg (fun e => h (by simpa using e))]
theorem bc_neqIs2 {α : Type} (a b c d : Int) (x y : α) : bc (!eqIs [a, b] [c, d]) x y = if a = c ∧ b = d then y else x := by
  rw [bc_eq, eqIs2]; by_cases h : a = c ∧ b = d
  · rw [if_pos h, if_neg (by simp [h.1, h.2])]
  · rw [if_neg h, if_pos (by cases hh : ((a == c) && (b == d)) with | false => rfl | true => exact absurd (by simpa using hh) h)]
theorem bc_dec {α : Type} (p : Prop) [Decidable p] (x y : α) : bc (decide p) x y = if p then x else y := by
  rw [bc_eq]; by_cases h : p <;> simp [h]
theorem bc_ndec {α : Type} (p : Prop) [Decidable p] (x y : α) : bc (!decide p) x y = if p then y else x := by
  rw [bc_eq]; by_cases h : p <;> simp [h]

noncomputable section
def encB : Enc Bool where
  enc b := .bool b
  dec v := boolOf? v
  inv x a h := by
    cases x with
    | bool b => simp [boolOf?] at h; rw [h]
    | _ => cases h
  pf _ := rfl

theorem a135 : Ans1 encI 135 (fun n => .bool (isW n)) := fun n => by
  refine good_tree true 1000 20 rfl (fun ty k => t135 true ty n k) (fun ty => ?_) rfl
  simp only [bc_nltB]
  split
  · split
    · rw [isW_iff.2 (by omega)]
    · rw [isW_false.2 (by omega)]
  · rw [isW_false.2 (by omega)]
def e135 : Ent := mk1 encI 135 _ a135

/-- The word that is equal modulo 2^32. -/
def w32 (n : Int) : Int := (n + 2147483648) % 4294967296 - 2147483648
theorem w32_wrap (n : Int) : IntKind.wrap .i64 (IntKind.wrap .i32 (IntKind.wrap .u32 n)) = w32 n := by
  simp only [IntKind.wrap, IntKind.bits, IntKind.signed, w32]
  simp
  split <;> split <;> omega
theorem w32_wrap' (n : Int) : IntKind.wrap .i64 (IntKind.wrap .i32 (IntKind.wrap .u32 (IntKind.wrap .u64 n))) = w32 n := by
  rw [w32_wrap]
  simp only [IntKind.wrap, IntKind.bits, IntKind.signed, w32]
  simp
  omega
theorem w32_isW (n : Int) : isW (w32 n) = true := by rw [isW_iff]; unfold w32; omega
theorem w32_of {n : Int} (h : isW n = true) : w32 n = n := by rw [isW_iff] at h; unfold w32; omega

theorem a95 : Ans1 encI 95 (fun n => .int .i64 (w32 n)) := fun n => by
  refine good_tree true 1000 20 rfl (fun ty k => t95 true ty n k) (fun ty => ?_) rfl
  rw [w32_wrap]
def e95 : Ent := mk1 encI 95 _ a95
theorem a97 : Ans1 encI 97 (fun n => .int .i64 (w32 n)) := fun n => by
  refine good_tree true 1000 20 rfl (fun ty k => t97 true ty n k) (fun ty => ?_) rfl
  rw [w32_wrap']
def e97 : Ent := mk1 encI 97 _ a97

def le31 (n : Int) : Bool := decide (n ≤ 2147483647)
theorem le31_iff {n : Int} : le31 n = true ↔ n ≤ 2147483647 := by simp [le31]
def maskF : Nat → Int → Int → Int
  | 0, m, _ => m
  | k + 1, m, n => if m < n then maskF k (2 * m + 1) n else m
/-- The least 2^k - 1 that is at least a number. -/
def maskS (n : Int) : Int := maskF 33 0 n

theorem maskF_step (k : Nat) (m n m' : Int) (h : 2 * m + 1 = m') : maskF (k + 1) m n = if m < n then maskF k m' n else m := by rw [← h]; rfl

theorem ite_some {c : Prop} [Decidable c] {X : Option Value} {a Y : Int} (h : c → X = some (.int .i64 Y)) : (if c then X else some (.int .i64 a)) = some (.int .i64 (if c then Y else a)) := by
  by_cases hc : c
  · rw [if_pos hc, if_pos hc]; exact h hc
  · rw [if_neg hc, if_neg hc]
theorem a213 : Ans1p encI 213 le31 (fun n => .int .i64 (maskS n)) := fun n hn => by
  rw [le31_iff] at hn
  refine good_tree true 41 20 rfl (fun ty k => t213 true ty n k) (fun ty => ?_) rfl
  simp only [bc_ltB]
  simp only [maskS, maskF, Int.mul_zero, Int.zero_add, Int.reduceMul, Int.reduceAdd]
  repeat (refine ite_some fun _ => ?_)
  exfalso; omega
def e213 : Ent := mk1p encI 213 _ _ a213
theorem a146 : Ans1p encI 146 le31 (fun n => .int .i64 (maskS n)) := fun n hn => by
  rw [le31_iff] at hn
  refine good_tree true 41 20 rfl (fun ty k => t146 true ty n k) (fun ty => ?_) rfl
  simp only [bc_ltB]
  simp only [maskS, maskF, Int.mul_zero, Int.zero_add, Int.reduceMul, Int.reduceAdd]
  repeat (refine ite_some fun _ => ?_)
  exfalso; omega
def e146 : Ent := mk1p encI 146 _ _ a146
end
end Go.Ev
namespace Go.Ev
open Go.Proofs

theorem land_neg (x j m : Nat) (h : x = 2 ^ j * (2 * m + 1)) (hx : x < 2 ^ 64) : x &&& (2 ^ 64 - x) = 2 ^ j := by
  have hpos : 0 < 2 ^ j := Nat.two_pow_pos j
  have hx0 : 0 < x := by rw [h]; exact Nat.mul_pos hpos (by omega)
  apply Nat.eq_of_testBit_eq
  intro i
  have e1 : 2 ^ 64 - x = 2 ^ 64 - ((x - 1) + 1) := by omega
  rw [Nat.testBit_and, e1, Nat.testBit_two_pow_sub_succ (by omega), Nat.testBit_two_pow]
  have hx1 : x - 1 = 2 ^ j * (2 * m) + (2 ^ j - 1) := by
    rw [h, Nat.mul_add]; omega
  have t1 : x.testBit i = (decide (j ≤ i) && (2 * m + 1).testBit (i - j)) := by
    rw [h, Nat.mul_comm, Nat.testBit_mul_two_pow]
  have t2 : (x - 1).testBit i = if i < j then true else (2 * m).testBit (i - j) := by
    rw [hx1, Nat.testBit_two_pow_mul_add _ (by omega)]
    split
    · rename_i hij
      rw [Nat.testBit_two_pow_sub_one]; simpa using hij
    · rfl
  rw [t1, t2]
  by_cases hij : j ≤ i
  · rw [if_neg (by omega)]
    by_cases he : j = i
    · subst he
      have h64 : j < 64 := by
        apply Nat.lt_of_not_le
        intro hc
        have : 2 ^ 64 ≤ 2 ^ j := Nat.pow_le_pow_right (by omega) hc
        have : 2 ^ j * 1 ≤ x := by rw [h]; exact Nat.mul_le_mul_left _ (by omega)
        omega
      simp [h64]
    · obtain ⟨d, hd⟩ : ∃ d, i - j = d + 1 := ⟨i - j - 1, by omega⟩
      rw [hd]
      have b1 : (2 * m + 1).testBit (d + 1) = m.testBit d := by rw [Nat.testBit_succ]; congr 1; omega
      have b2 : (2 * m).testBit (d + 1) = m.testBit d := by rw [Nat.testBit_succ]; congr 1; omega
      rw [b1, b2]
      cases m.testBit d <;> simp [he]
  · have : ¬ j = i := by omega
    simp [hij, this]

def tzF : Nat → Nat → Nat
  | 0, _ => 0
  | k + 1, n => if n % 2 = 0 then tzF k (n / 2) + 1 else 0

/-- How many of the lowest bits of a number from 0 to 2^64 - 1 are 0. -/
def tzU (u : Int) : Int := if u = 0 then 64 else (tzF 64 u.toNat : Int)

theorem tzF_spec : ∀ (k n : Nat), 0 < n → n < 2 ^ k → ∃ m, n = 2 ^ tzF k n * (2 * m + 1) ∧ tzF k n < k
  | 0, n, h, h' => by simp at h'; omega
  | k + 1, n, h, h' => by
    unfold tzF
    by_cases he : n % 2 = 0
    · rw [if_pos he]
      have : 2 ^ (k + 1) = 2 * 2 ^ k := by rw [Nat.pow_succ]; omega
      obtain ⟨m, h1, h2⟩ := tzF_spec k (n / 2) (by omega) (by omega)
      refine ⟨m, ?_, by omega⟩
      rw [Nat.pow_succ]
      have h3 : n = 2 * (n / 2) := by omega
      calc n = 2 * (n / 2) := h3
        _ = 2 * (2 ^ tzF k (n / 2) * (2 * m + 1)) := by rw [← h1]
        _ = _ := by rw [← Nat.mul_assoc, Nat.mul_comm 2]
    · rw [if_neg he]
      exact ⟨n / 2, by omega, by omega⟩

theorem and_neg {u : Int} (h0 : 0 < u) (h1 : u < 18446744073709551616) : andI .u64 u (IntKind.wrap .u64 (0 - u)) = 2 ^ tzF 64 u.toNat := by
  obtain ⟨x, rfl⟩ := Int.eq_ofNat_of_zero_le (by omega : 0 ≤ u)
  have hx : x < 2 ^ 64 := by omega
  obtain ⟨m, h2, h3⟩ := tzF_spec 64 x (by omega) hx
  have hw : IntKind.wrap .u64 (0 - (x : Int)) = ((2 ^ 64 - x : Nat) : Int) := by
    simp only [IntKind.wrap, IntKind.bits, IntKind.signed]
    simp
    omega
  unfold andI
  rw [hw]
  show IntKind.wrap .u64 (BitVec.ofInt 64 (x : Int) &&& BitVec.ofInt 64 ((2 ^ 64 - x : Nat) : Int)).toNat = _
  rw [BitVec.toNat_and, BitVec.toNat_ofInt, BitVec.toNat_ofInt]
  have e1 : ((x : Int) % ((2 ^ 64 : Nat) : Int)).toNat = x := by omega
  have e2 : (((2 ^ 64 - x : Nat) : Int) % ((2 ^ 64 : Nat) : Int)).toNat = 2 ^ 64 - x := by omega
  rw [e1, e2, land_neg x _ m h2 hx]
  have h4 : 2 ^ tzF 64 x < 2 ^ 64 := Nat.pow_lt_pow_right (by omega) h3
  have hcast : ((2 ^ tzF 64 x : Nat) : Int) = (2 : Int) ^ tzF 64 x := by simp
  show IntKind.wrap .u64 ((2 ^ tzF 64 x : Nat) : Int) = (2 : Int) ^ tzF 64 ((x : Int)).toNat
  rw [Int.toNat_natCast, ← hcast]
  simp only [IntKind.wrap, IntKind.bits, IntKind.signed]
  simp only [Bool.false_and, Bool.false_eq_true, if_false]
  generalize 2 ^ tzF 64 x = y at *
  omega

/-- A number of 64 bits without a sign. -/
def inU (u : Int) : Bool := decide (0 ≤ u) && decide (u < 18446744073709551616)
theorem inU_iff {u : Int} : inU u = true ↔ 0 ≤ u ∧ u < 18446744073709551616 := by simp [inU]
noncomputable section
theorem small64 {j : Nat} (h : j < 64) : j = 0 ∨ j = 1 ∨ j = 2 ∨ j = 3 ∨ j = 4 ∨ j = 5 ∨ j = 6 ∨ j = 7 ∨ j = 8 ∨ j = 9 ∨ j = 10 ∨ j = 11 ∨ j = 12 ∨ j = 13 ∨ j = 14 ∨ j = 15 ∨ j = 16 ∨ j = 17 ∨ j = 18 ∨ j = 19 ∨ j = 20 ∨ j = 21 ∨ j = 22 ∨ j = 23 ∨ j = 24 ∨ j = 25 ∨ j = 26 ∨ j = 27 ∨ j = 28 ∨ j = 29 ∨ j = 30 ∨ j = 31 ∨ j = 32 ∨ j = 33 ∨ j = 34 ∨ j = 35 ∨ j = 36 ∨ j = 37 ∨ j = 38 ∨ j = 39 ∨ j = 40 ∨ j = 41 ∨ j = 42 ∨ j = 43 ∨ j = 44 ∨ j = 45 ∨ j = 46 ∨ j = 47 ∨ j = 48 ∨ j = 49 ∨ j = 50 ∨ j = 51 ∨ j = 52 ∨ j = 53 ∨ j = 54 ∨ j = 55 ∨ j = 56 ∨ j = 57 ∨ j = 58 ∨ j = 59 ∨ j = 60 ∨ j = 61 ∨ j = 62 ∨ j = 63 := by omega

theorem a217 : Ans1p encU 217 inU (fun u => .int .i64 (tzU u)) := fun u hu => by
  rw [inU_iff] at hu
  refine good_tree true 1000 20 rfl (fun ty k => t217 true ty u k) (fun ty => ?_) rfl
  rw [bc_eqB]
  split
  · rename_i h; rw [h]; rfl
  · rename_i h
    have hb : tzF 64 u.toNat < 64 := by
      obtain ⟨m, -, h3⟩ := tzF_spec 64 u.toNat (by omega) (by omega)
      exact h3
    simp only [sealI_eq]
    rw [and_neg (by omega) hu.2, show tzU u = (tzF 64 u.toNat : Int) from if_neg h]
    generalize tzF 64 u.toNat = j at *
    rcases small64 hb with rfl | rfl | rfl | rfl | rfl | rfl | rfl | rfl | rfl | rfl | rfl | rfl | rfl | rfl | rfl | rfl | rfl | rfl | rfl | rfl | rfl | rfl | rfl | rfl | rfl | rfl | rfl | rfl | rfl | rfl | rfl | rfl | rfl | rfl | rfl | rfl | rfl | rfl | rfl | rfl | rfl | rfl | rfl | rfl | rfl | rfl | rfl | rfl | rfl | rfl | rfl | rfl | rfl | rfl | rfl | rfl | rfl | rfl | rfl | rfl | rfl | rfl | rfl | rfl
    all_goals rfl
def e217 : Ent := mk1p encU 217 _ _ a217
end
end Go.Ev
namespace Go.Ev
open Go.Proofs

def clF : Nat → Nat → Int → Nat
  | 0, e, _ => e
  | k + 1, e, m => if (2 : Int) ^ e < m then clF k (e + 1) m else e
/-- The bits of a modulus: 32 for 0; else the least exponent of a power of two that is no less. -/
def bitsS (m : Int) : Int := if m = 0 then 32 else (clF 31 0 m : Nat)

theorem cl_step {k e : Nat} {m p z : Int} {X : Option Value} (hp : (2 : Int) ^ e = p) (hz : z = (e : Int)) (h : p < m → X = some (.int .i64 (clF k (e + 1) m : Nat))) :
    bc (ltB p m) X (some (.int .i64 z)) = some (.int .i64 (clF (k + 1) e m : Nat)) := by
  subst hp hz
  rw [bc_ltB]
  unfold clF
  by_cases hc : (2 : Int) ^ e < m
  · rw [if_pos hc, if_pos hc]; exact h hc
  · rw [if_neg hc, if_neg hc]

def leM (a : Rs) : Bool := decide (a.m ≤ 1073741824)
theorem leM_iff {a : Rs} : leM a = true ↔ a.m ≤ 1073741824 := by simp [leM]
noncomputable section
theorem a148 : Ans1p encRs 148 leM (fun a => .int .i64 (bitsS a.m)) := fun a ha => by
  rw [leM_iff] at ha
  refine good_tree true 40 20 rfl (fun ty k => t148 true ty a k) (fun ty => ?_) rfl
  simp only [sealI_eq]
  rw [bc_eqB]
  unfold bitsS
  split
  · rfl
  · repeat (refine cl_step (by rfl) (by rfl) fun _ => ?_)
    exfalso; omega
def e148 : Ent := mk1p encRs 148 _ _ a148
end
end Go.Ev
namespace Go.Ev
open Go.Proofs

theorem t153 {R : Type} (q : Bool) (ty : Nat → TypeId) (n : Int) (k : Value → Option R) : ansK ⟨plainT, q⟩ [e217] 1000 20 ty 153 [.int .i64 n] k =
    (bc (inU (IntKind.wrap .u64 n)) (k (.int .i64 (tzU (IntKind.wrap .u64 n)))) none) := by kernel_rfl

theorem t86 {R : Type} (q : Bool) (ty : Nat → TypeId) (m r : Int) (k : Value → Option R) : ansK ⟨plainT, q⟩ [e135] 1000 20 ty 86 [rsV ⟨m, r⟩] k =
    (bc (eqB m (-1)) (bc (eqIs [m, r] [(-1), 0]) (k (.agg ⟨[(.int .i64 m), (.int .i64 r)]⟩)) (k (.agg ⟨[(.int .i64 1), (.int .i64 0)]⟩))) (bc (eqB m 0) (bc (isW r) (k (.agg ⟨[(.int .i64 m), (.int .i64 r)]⟩)) (k (.agg ⟨[(.int .i64 1), (.int .i64 0)]⟩))) (bc (!(ltB m 1)) (bc (!(ltB 1073741824 m)) (bc (eqB (sealI q (andI .i64 m (wrapF .i64 (Int.sub m 1)))) 0) (bc (!(ltB r 0)) (bc (ltB r m) (k (.agg ⟨[(.int .i64 m), (.int .i64 r)]⟩)) (k (.agg ⟨[(.int .i64 1), (.int .i64 0)]⟩))) (k (.agg ⟨[(.int .i64 1), (.int .i64 0)]⟩))) (k (.agg ⟨[(.int .i64 1), (.int .i64 0)]⟩))) (k (.agg ⟨[(.int .i64 1), (.int .i64 0)]⟩))) (k (.agg ⟨[(.int .i64 1), (.int .i64 0)]⟩))))) := by kernel_rfl

theorem t90 {R : Type} (q : Bool) (ty : Nat → TypeId) (m r : Int) (k : Value → Option R) : ansK ⟨plainT, q⟩ [e97, e148] 1000 20 ty 90 [rsV ⟨m, r⟩] k =
    (bc (eqB m (-1)) (bc (eqB r 0) (k (.agg ⟨[(.int .i64 m), (.int .i64 r)]⟩)) (k (.agg ⟨[(.int .i64 1), (.int .i64 0)]⟩))) (bc (eqB m 0) (bc (eqB (w32 r) r) (k (.agg ⟨[(.int .i64 m), (.int .i64 r)]⟩)) (k (.agg ⟨[(.int .i64 1), (.int .i64 0)]⟩))) (bc (!(ltB m 1)) (bc (!(ltB 1073741824 m)) (bc (leM (Rs.mk m r)) (bc (ltB (IntKind.wrap .u64 (bitsS m)) 0) none (bc (eqB (sealI q (shlI .i64 1 (IntKind.wrap .u64 (bitsS m)))) m) (bc (!(ltB r 0)) (bc (ltB r m) (bc (bc (bc (bc (eqB (IntKind.wrap .u64 (bitsS m)) (IntKind.wrap .u64 (bitsS m))) true false) true false) true false) (k (.agg ⟨[(.int .i64 m), (.int .i64 r)]⟩)) none) (bc (bc (bc (bc (eqB (IntKind.wrap .u64 (bitsS m)) (IntKind.wrap .u64 (bitsS m))) true false) true false) true false) (k (.agg ⟨[(.int .i64 1), (.int .i64 0)]⟩)) none)) (bc (bc (bc (bc (eqB (IntKind.wrap .u64 (bitsS m)) (IntKind.wrap .u64 (bitsS m))) true false) true false) true false) (k (.agg ⟨[(.int .i64 1), (.int .i64 0)]⟩)) none)) (bc (bc (bc (bc (eqB (IntKind.wrap .u64 (bitsS m)) (IntKind.wrap .u64 (bitsS m))) true false) true false) true false) (k (.agg ⟨[(.int .i64 1), (.int .i64 0)]⟩)) none))) none) (k (.agg ⟨[(.int .i64 1), (.int .i64 0)]⟩))) (k (.agg ⟨[(.int .i64 1), (.int .i64 0)]⟩))))) := by kernel_rfl

theorem t85 {R : Type} (q : Bool) (ty : Nat → TypeId) (lo hi : Int) (k : Value → Option R) : ansK ⟨plainT, q⟩ [e135] 1000 20 ty 85 [ivV ⟨lo, hi⟩] k =
    (bc (eqIs [lo, hi] [1, 0]) (k (.agg ⟨[(.int .i64 lo), (.int .i64 hi)]⟩)) (bc (isW lo) (bc (isW hi) (bc (!(ltB hi lo)) (k (.agg ⟨[(.int .i64 lo), (.int .i64 hi)]⟩)) (k (.agg ⟨[(.int .i64 (-2147483648)), (.int .i64 2147483647)]⟩))) (k (.agg ⟨[(.int .i64 (-2147483648)), (.int .i64 2147483647)]⟩))) (k (.agg ⟨[(.int .i64 (-2147483648)), (.int .i64 2147483647)]⟩)))) := by kernel_rfl

theorem t89 {R : Type} (q : Bool) (ty : Nat → TypeId) (lo hi : Int) (k : Value → Option R) : ansK ⟨plainT, q⟩ [e135] 1000 20 ty 89 [ivV ⟨lo, hi⟩] k =
    (bc (eqIs [lo, hi] [1, 0]) (k (.agg ⟨[(.int .i64 lo), (.int .i64 hi)]⟩)) (bc (!(ltB lo (-2147483648))) (bc (!(ltB hi lo)) (bc (!(ltB 2147483647 hi)) (k (.agg ⟨[(.int .i64 lo), (.int .i64 hi)]⟩)) (k (.agg ⟨[(.int .i64 (-2147483648)), (.int .i64 2147483647)]⟩))) (k (.agg ⟨[(.int .i64 (-2147483648)), (.int .i64 2147483647)]⟩))) (k (.agg ⟨[(.int .i64 (-2147483648)), (.int .i64 2147483647)]⟩)))) := by kernel_rfl

end Go.Ev
namespace Go.Ev
open Go.Proofs

theorem tzF_pow : ∀ (n k : Nat), k < n → tzF n (2 ^ k) = k
  | 0, k, h => by omega
  | n + 1, 0, _ => by simp [tzF]
  | n + 1, k + 1, h => by
    unfold tzF
    have e : (2 : Nat) ^ (k + 1) = 2 * 2 ^ k := by rw [Nat.pow_succ]; omega
    rw [if_pos (by omega), show (2 : Nat) ^ (k + 1) / 2 = 2 ^ k by omega, tzF_pow n k (by omega)]

/-- A power of two that is a modulus. -/
def P2 (m : Int) : Prop := ∃ k : Nat, k ≤ 30 ∧ m = 2 ^ k
/-- The exponent of a modulus. -/
def ex (m : Int) : Nat := tzF 64 m.toNat
theorem toNat_pow (k : Nat) : ((2 : Int) ^ k).toNat = 2 ^ k := by
  have : (2 : Int) ^ k = ((2 ^ k : Nat) : Int) := by simp
  rw [this, Int.toNat_natCast]
theorem ex_pow {k : Nat} (h : k ≤ 30) : ex ((2 : Int) ^ k) = k := by
  unfold ex; rw [toNat_pow, tzF_pow 64 k (by omega)]
theorem pow_le30 {k : Nat} (h : k ≤ 30) : (1 : Int) ≤ 2 ^ k ∧ (2 : Int) ^ k ≤ 1073741824 := by
  have h1 : (2 : Int) ^ k = ((2 ^ k : Nat) : Int) := by simp
  have h2 : 2 ^ k ≤ 2 ^ 30 := Nat.pow_le_pow_right (by omega) h
  have h3 : 0 < 2 ^ k := Nat.two_pow_pos k
  rw [h1]
  omega
theorem P2_iff {m : Int} : P2 m ↔ 1 ≤ m ∧ m ≤ 1073741824 ∧ m = 2 ^ ex m := by
  constructor
  · rintro ⟨k, hk, rfl⟩
    rw [ex_pow hk]
    exact ⟨(pow_le30 hk).1, (pow_le30 hk).2, rfl⟩
  · rintro ⟨h1, h2, h3⟩
    refine ⟨ex m, ?_, h3⟩
    apply Nat.le_of_not_lt
    intro h
    have h4 : (2 : Int) ^ ex m = ((2 ^ ex m : Nat) : Int) := by simp
    have h5 : 2 ^ 31 ≤ 2 ^ ex m := Nat.pow_le_pow_right (by omega) h
    omega
instance (m : Int) : Decidable (P2 m) := decidable_of_iff _ P2_iff.symm

theorem land_pred (x j m : Nat) (h : x = 2 ^ j * (2 * m + 1)) : x &&& (x - 1) = 2 ^ j * (2 * m) := by
  have hpos : 0 < 2 ^ j := Nat.two_pow_pos j
  apply Nat.eq_of_testBit_eq
  intro i
  have hx1 : x - 1 = 2 ^ j * (2 * m) + (2 ^ j - 1) := by
    rw [h, Nat.mul_add]; omega
  have t1 : x.testBit i = (decide (j ≤ i) && (2 * m + 1).testBit (i - j)) := by
    rw [h, Nat.mul_comm, Nat.testBit_mul_two_pow]
  have t2 : (x - 1).testBit i = if i < j then true else (2 * m).testBit (i - j) := by
    rw [hx1, Nat.testBit_two_pow_mul_add _ (by omega)]
    split
    · rename_i hij
      rw [Nat.testBit_two_pow_sub_one]; simpa using hij
    · rfl
  have t3 : (2 ^ j * (2 * m)).testBit i = (decide (j ≤ i) && (2 * m).testBit (i - j)) := by
    rw [Nat.mul_comm, Nat.testBit_mul_two_pow]
  rw [Nat.testBit_and, t1, t2, t3]
  by_cases hij : j ≤ i
  · rw [if_neg (by omega)]
    by_cases he : j = i
    · subst he; simp
    · obtain ⟨d, hd⟩ : ∃ d, i - j = d + 1 := ⟨i - j - 1, by omega⟩
      rw [hd]
      have b1 : (2 * m + 1).testBit (d + 1) = m.testBit d := by rw [Nat.testBit_succ]; congr 1; omega
      have b2 : (2 * m).testBit (d + 1) = m.testBit d := by rw [Nat.testBit_succ]; congr 1; omega
      rw [b1, b2]
      cases m.testBit d <;> simp
  · simp [hij]

/-- What and does to two numbers that are not negative. -/
theorem andI_nat {a c : Nat} (ha : a < 2 ^ 63) (hc : c < 2 ^ 63) : andI .i64 (a : Int) (c : Int) = ((a &&& c : Nat) : Int) := by
  unfold andI
  show IntKind.wrap .i64 (BitVec.ofInt 64 (a : Int) &&& BitVec.ofInt 64 (c : Int)).toNat = _
  rw [BitVec.toNat_and, BitVec.toNat_ofInt, BitVec.toNat_ofInt]
  have e1 : ((a : Int) % ((2 ^ 64 : Nat) : Int)).toNat = a := by omega
  have e2 : ((c : Int) % ((2 ^ 64 : Nat) : Int)).toNat = c := by omega
  rw [e1, e2]
  have h4 : a &&& c ≤ a := Nat.and_le_left
  generalize a &&& c = y at *
  simp only [IntKind.wrap, IntKind.bits, IntKind.signed]
  simp only [Bool.true_and]
  split <;> simp_all <;> omega

theorem wr_id {n : Int} (h : -9223372036854775808 ≤ n ∧ n ≤ 9223372036854775807) : wrapF .i64 n = n := by
  rw [wrapF_eq]
  simp only [IntKind.wrap, IntKind.bits, IntKind.signed]
  simp only [Bool.true_and]
  split <;> simp_all <;> omega

theorem and_pred {m : Int} (h1 : 1 ≤ m) (h2 : m ≤ 1073741824) : andI .i64 m (wrapF .i64 (Int.sub m 1)) = 0 ↔ P2 m := by
  rw [show Int.sub m 1 = m - 1 from rfl, wr_id (by omega)]
  obtain ⟨x, rfl⟩ := Int.eq_ofNat_of_zero_le (by omega : 0 ≤ m)
  have hx : 0 < x := by omega
  have hx2 : x ≤ 2 ^ 30 := by omega
  obtain ⟨q, h3, h4⟩ := tzF_spec 64 x hx (by omega)
  have e : ((x : Int) - 1) = ((x - 1 : Nat) : Int) := by omega
  rw [e, andI_nat (by omega) (by omega), land_pred x _ q h3]
  have hp : 0 < 2 ^ tzF 64 x := Nat.two_pow_pos _
  constructor
  · intro h
    have h' : 2 ^ tzF 64 x * (2 * q) = 0 := by exact_mod_cast h
    have hq : q = 0 := by
      rcases Nat.mul_eq_zero.1 h' with h5 | h5 <;> omega
    subst hq
    rw [P2_iff]
    refine ⟨h1, h2, ?_⟩
    have : x = 2 ^ tzF 64 x := by omega
    unfold ex
    rw [Int.toNat_natCast]
    have hc : ((2 : Int) ^ tzF 64 x) = ((2 ^ tzF 64 x : Nat) : Int) := by simp
    rw [hc]; exact_mod_cast this
  · rintro ⟨k, hk, he⟩
    have hxk : x = 2 ^ k := by
      have : ((2 : Int) ^ k) = ((2 ^ k : Nat) : Int) := by simp
      rw [this] at he; exact_mod_cast he
    have ht : tzF 64 x = k := by rw [hxk]; exact tzF_pow 64 k (by omega)
    rw [ht] at h3 hp ⊢
    rw [hxk] at h3
    have : q = 0 := by
      rcases Nat.eq_zero_or_pos q with h5 | h5
      · exact h5
      · exfalso
        have : 2 ^ k * 3 ≤ 2 ^ k * (2 * q + 1) := Nat.mul_le_mul_left _ (by omega)
        omega
    subst this; simp

theorem clF_spec : ∀ (k e : Nat) (m : Int), m ≤ 2 ^ (e + k) → m ≤ 2 ^ clF k e m ∧ e ≤ clF k e m ∧ clF k e m ≤ e + k ∧ (clF k e m = e ∨ (2 : Int) ^ (clF k e m - 1) < m)
  | 0, e, m, h => ⟨h, Nat.le_refl _, Nat.le_refl _, .inl rfl⟩
  | k + 1, e, m, h => by
    unfold clF
    split
    · rename_i hc
      obtain ⟨h1, h2, h3, h4⟩ := clF_spec k (e + 1) m (by rw [show e + 1 + k = e + (k + 1) by omega]; exact h)
      refine ⟨h1, by omega, by omega, .inr ?_⟩
      rcases h4 with h4 | h4
      · rw [h4, Nat.add_sub_cancel]; exact hc
      · exact h4
    · rename_i hc
      exact ⟨by omega, Nat.le_refl _, by omega, .inl rfl⟩

theorem pow_lt_iff {a b : Nat} : (2 : Int) ^ a < 2 ^ b ↔ a < b := by
  have h1 : (2 : Int) ^ a = ((2 ^ a : Nat) : Int) := by simp
  have h2 : (2 : Int) ^ b = ((2 ^ b : Nat) : Int) := by simp
  rw [h1, h2, Int.ofNat_lt]
  exact Nat.pow_lt_pow_iff_right (by omega)
theorem pow_le_iff {a b : Nat} : (2 : Int) ^ a ≤ 2 ^ b ↔ a ≤ b := by
  rw [← Int.not_lt, pow_lt_iff]; omega

theorem clF_pow {k : Nat} (hk : k ≤ 30) : clF 31 0 ((2 : Int) ^ k) = k := by
  obtain ⟨h1, h2, h3, h4⟩ := clF_spec 31 0 ((2 : Int) ^ k) (by rw [pow_le_iff]; omega)
  rw [pow_le_iff] at h1
  rcases h4 with h4 | h4
  · omega
  · rw [pow_lt_iff] at h4; omega

theorem bits_P2 {m : Int} (h1 : 1 ≤ m) (h2 : m ≤ 1073741824) : 0 ≤ bitsS m ∧ IntKind.wrap .u64 (bitsS m) = bitsS m ∧ (shlI .i64 1 (IntKind.wrap .u64 (bitsS m)) = m ↔ P2 m) := by
  have hb : bitsS m = (clF 31 0 m : Nat) := if_neg (by omega)
  obtain ⟨h3, -, h4, h5⟩ := clF_spec 31 0 m (by
    have : (2 : Int) ^ (0 + 31) = 2147483648 := rfl
    omega)
  have h6 : clF 31 0 m ≤ 30 := by
    rcases h5 with h5 | h5
    · omega
    · apply Nat.le_of_not_lt
      intro h
      have h7 : (2 : Int) ^ 30 ≤ 2 ^ (clF 31 0 m - 1) := pow_le_iff.2 (by omega)
      have : (2 : Int) ^ 30 = 1073741824 := rfl
      omega
  have hw : IntKind.wrap .u64 (bitsS m) = bitsS m := by
    rw [hb]
    simp only [IntKind.wrap, IntKind.bits, IntKind.signed]
    simp only [Bool.false_and, Bool.false_eq_true, if_false]
    omega
  refine ⟨by omega, hw, ?_⟩
  rw [hw, hb]
  have hs : shlI .i64 1 ((clF 31 0 m : Nat) : Int) = 2 ^ clF 31 0 m := by
    unfold shlI
    rw [Int.toNat_natCast, show min (clF 31 0 m) IntKind.i64.bits = clF 31 0 m by show min _ 64 = _; omega, Int.one_mul, ← wrapF_eq]
    exact wr_id (by have := pow_le30 h6; omega)
  rw [hs]
  constructor
  · intro h; exact ⟨_, h6, h.symm⟩
  · rintro ⟨k, hk, rfl⟩
    rw [clF_pow hk]

/-- An interval in form: all words in place of one that is not valid. -/
def fixI (a : Iv) : Iv := if (a.lo = 1 ∧ a.hi = 0) ∨ (-2147483648 ≤ a.lo ∧ a.lo ≤ a.hi ∧ a.hi ≤ 2147483647) then a else ⟨-2147483648, 2147483647⟩
def validR (a : Rs) : Prop := (a.m = -1 ∧ a.r = 0) ∨ (a.m = 0 ∧ -2147483648 ≤ a.r ∧ a.r ≤ 2147483647) ∨ (P2 a.m ∧ 0 ≤ a.r ∧ a.r < a.m)
instance (a : Rs) : Decidable (validR a) := by unfold validR; exact inferInstance
/-- A residue in form. -/
def fixR (a : Rs) : Rs := if validR a then a else ⟨1, 0⟩

theorem fixR_of {a : Rs} (h : validR a) : fixR a = a := if_pos h
theorem fixR_not {a : Rs} (h : ¬ validR a) : fixR a = ⟨1, 0⟩ := if_neg h
theorem validR_iff {m r : Int} : validR ⟨m, r⟩ ↔ (m = -1 ∧ r = 0) ∨ (m = 0 ∧ -2147483648 ≤ r ∧ r ≤ 2147483647) ∨ (P2 m ∧ 0 ≤ r ∧ r < m) := Iff.rfl

theorem bc_isW {α : Type} (n : Int) (x y : α) : bc (isW n) x y = if -2147483648 ≤ n ∧ n ≤ 2147483647 then x else y := by
  rw [bc_eq]; by_cases h : -2147483648 ≤ n ∧ n ≤ 2147483647
  · rw [if_pos h, if_pos (isW_iff.2 h)]
  · rw [if_neg h, if_neg (by rw [isW_iff]; exact h)]

theorem wrapU_inU (n : Int) : inU (IntKind.wrap .u64 n) = true := by
  rw [inU_iff]
  simp only [IntKind.wrap, IntKind.bits, IntKind.signed]
  simp only [Bool.false_and, Bool.false_eq_true, if_false]
  omega

noncomputable section
theorem a153 : Ans1 encI 153 (fun n => .int .i64 (tzU (IntKind.wrap .u64 n))) := fun n => by
  refine good_tree true 1000 20 rfl (fun ty k => t153 true ty n k) (fun ty => ?_) rfl
  rw [wrapU_inU]; rfl
def e153 : Ent := mk1 encI 153 _ a153

theorem a85 : Ans1 encIv 85 (fun a => ivV (fixI a)) := fun a => by
  obtain ⟨lo, hi⟩ := a
  refine good_tree true 1000 20 rfl (fun ty k => t85 true ty lo hi k) (fun ty => ?_) rfl
  simp only [bc_isW, bc_nltB, bc_eqIs2]
  unfold fixI
  repeat' split
  all_goals first | rfl | (exfalso; simp only [] at *; omega)
def e85 : Ent := mk1 encIv 85 _ a85
theorem a89 : Ans1 encIv 89 (fun a => ivV (fixI a)) := fun a => by
  obtain ⟨lo, hi⟩ := a
  refine good_tree true 1000 20 rfl (fun ty k => t89 true ty lo hi k) (fun ty => ?_) rfl
  simp only [bc_isW, bc_nltB, bc_eqIs2]
  unfold fixI
  repeat' split
  all_goals first | rfl | (exfalso; simp only [] at *; omega)
def e89 : Ent := mk1 encIv 89 _ a89

theorem a86 : Ans1 encRs 86 (fun a => rsV (fixR a)) := fun a => by
  obtain ⟨m, r⟩ := a
  refine good_tree true 1000 20 rfl (fun ty k => t86 true ty m r k) (fun ty => ?_) rfl
  simp only [bc_isW, bc_nltB, bc_ltB, bc_eqIs2, bc_eqB, sealI_eq]
  have hp : P2 m → 1 ≤ m ∧ m ≤ 1073741824 := fun h => ⟨(P2_iff.1 h).1, (P2_iff.1 h).2.1⟩
  by_cases h1 : 1 ≤ m ∧ m ≤ 1073741824
  · have h2 := and_pred h1.1 h1.2
    rw [if_neg (by omega), if_neg (by omega), if_pos h1.1, if_pos h1.2]
    by_cases hv : validR ⟨m, r⟩
    · rw [fixR_of hv]
      rw [validR_iff] at hv
      by_cases h3 : P2 m
      · rw [if_pos (h2.2 h3)]
        simp only [h3, true_and] at hv
        repeat' split
        all_goals first | rfl | (exfalso; omega)
      · simp only [h3, false_and, or_false] at hv
        exfalso; omega
    · rw [fixR_not hv]
      rw [validR_iff] at hv
      by_cases h3 : P2 m
      · rw [if_pos (h2.2 h3)]
        simp only [h3, true_and] at hv
        repeat' split
        all_goals first | rfl | (exfalso; omega)
      · rw [if_neg (fun h => h3 (h2.1 h))]; rfl
  · have h3 : ¬ P2 m := fun h => h1 (hp h)
    by_cases hv : validR ⟨m, r⟩
    · rw [fixR_of hv]
      rw [validR_iff] at hv
      simp only [h3, false_and, or_false] at hv
      repeat' split
      all_goals first | rfl | (exfalso; omega)
    · rw [fixR_not hv]
      rw [validR_iff] at hv
      simp only [h3, false_and, or_false] at hv
      repeat' split
      all_goals first | rfl | (exfalso; omega)
def e86 : Ent := mk1 encRs 86 _ a86

theorem a90 : Ans1 encRs 90 (fun a => rsV (fixR a)) := fun a => by
  obtain ⟨m, r⟩ := a
  refine good_tree true 1000 20 rfl (fun ty k => t90 true ty m r k) (fun ty => ?_) rfl
  have hself : ∀ n : Int, eqB n n = true := fun n => eqB_iff.2 rfl
  simp only [hself, bc_true]
  simp only [bc_isW, bc_nltB, bc_ltB, bc_eqIs2, bc_eqB, sealI_eq]
  have hp : P2 m → 1 ≤ m ∧ m ≤ 1073741824 := fun h => ⟨(P2_iff.1 h).1, (P2_iff.1 h).2.1⟩
  have hw : w32 r = r ↔ -2147483648 ≤ r ∧ r ≤ 2147483647 := by unfold w32; omega
  by_cases h1 : 1 ≤ m ∧ m ≤ 1073741824
  · obtain ⟨h0, hw1, h2⟩ := bits_P2 h1.1 h1.2
    rw [if_neg (by omega), if_neg (by omega), if_pos h1.1, if_pos h1.2, leM_iff.2 h1.2, bc_true, if_neg (by rw [hw1]; omega)]
    by_cases hv : validR ⟨m, r⟩
    · rw [fixR_of hv]
      rw [validR_iff] at hv
      by_cases h3 : P2 m
      · rw [if_pos (h2.2 h3)]
        simp only [h3, true_and] at hv
        repeat' split
        all_goals first | rfl | (exfalso; omega)
      · simp only [h3, false_and, or_false] at hv
        exfalso; omega
    · rw [fixR_not hv]
      rw [validR_iff] at hv
      by_cases h3 : P2 m
      · rw [if_pos (h2.2 h3)]
        simp only [h3, true_and] at hv
        repeat' split
        all_goals first | rfl | (exfalso; omega)
      · rw [if_neg (fun h => h3 (h2.1 h))]; rfl
  · have h3 : ¬ P2 m := fun h => h1 (hp h)
    simp only [hw]
    by_cases hv : validR ⟨m, r⟩
    · rw [fixR_of hv]
      rw [validR_iff] at hv
      simp only [h3, false_and, or_false] at hv
      repeat' split
      all_goals first | rfl | (exfalso; omega)
    · rw [fixR_not hv]
      rw [validR_iff] at hv
      simp only [h3, false_and, or_false] at hv
      repeat' split
      all_goals first | rfl | (exfalso; omega)
def e90 : Ent := mk1 encRs 90 _ a90
end
end Go.Ev
