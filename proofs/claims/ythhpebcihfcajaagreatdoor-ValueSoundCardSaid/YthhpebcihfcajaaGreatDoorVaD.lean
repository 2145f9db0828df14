/-
  Words and residues: what their functions answer.
-/
import Derived.Test.YthhpebcihfcajaaGreatDoorVaA
import Derived.Test.YthhpebcihfcajaaGreatDoorVaC
set_option linter.unusedVariables false
set_option linter.unusedSimpArgs false
namespace Go.Ev
open Go.Proofs

theorem t69 {R : Type} (q : Bool) (ty : Nat → TypeId) (a : Rs) (n : Int) (k : Value → Option R) : ansK ⟨plainT, q⟩ [e86, e135] 1000 20 ty 69 [rsV a, .int .i64 n] k =
    (bc (isW n) (bc (eqIs [(Rs.m (fixR a)), (Rs.r (fixR a))] [(-1), 0]) (k (.bool false)) (bc (eqB (Rs.m (fixR a)) 0) (bc (eqB n (Rs.r (fixR a))) (k (.bool true)) (k (.bool false))) (bc (eqB (Rs.m (fixR a)) 0) none (bc (eqB (sealI q (Int.tmod (wrapF .i64 (Int.sub n (Rs.r (fixR a)))) (Rs.m (fixR a)))) 0) (k (.bool true)) (k (.bool false)))))) (k (.bool false))) := by kernel_rfl

theorem t94 {R : Type} (q : Bool) (ty : Nat → TypeId) (a : Rs) (n : Int) (k : Value → Option R) : ansK ⟨plainT, q⟩ [e90, e97] 1000 20 ty 94 [rsV a, .int .i64 n] k =
    (bc (eqIs [(Rs.m (fixR a)), (Rs.r (fixR a))] [(-1), 0]) (k (.bool false)) (bc (!(eqB (w32 n) n)) (k (.bool false)) (bc (eqB (Rs.m (fixR a)) 0) (bc (eqB n (Rs.r (fixR a))) (k (.bool true)) (k (.bool false))) (bc (eqB (Rs.m (fixR a)) 0) none (bc (eqB (sealI q (Int.tmod (wrapF .i64 (Int.sub n (Rs.r (fixR a)))) (Rs.m (fixR a)))) 0) (k (.bool true)) (k (.bool false))))))) := by kernel_rfl

theorem t82 {R : Type} (q : Bool) (ty : Nat → TypeId) (a b : Rs) (k : Value → Option R) : ansK ⟨plainT, q⟩ [e86, e135] 1000 20 ty 82 [rsV a, rsV b] k =
    (bc (eqIs [(Rs.m (fixR a)), (Rs.r (fixR a))] [(-1), 0]) (k (.bool true)) (bc (eqB (Rs.m (fixR a)) 0) (bc (isW (Rs.r (fixR a))) (bc (eqIs [(Rs.m (fixR (Rs.mk (Rs.m (fixR b)) (Rs.r (fixR b))))), (Rs.r (fixR (Rs.mk (Rs.m (fixR b)) (Rs.r (fixR b)))))] [(-1), 0]) (k (.bool false)) (bc (eqB (Rs.m (fixR (Rs.mk (Rs.m (fixR b)) (Rs.r (fixR b))))) 0) (bc (eqB (Rs.r (fixR a)) (Rs.r (fixR (Rs.mk (Rs.m (fixR b)) (Rs.r (fixR b)))))) (k (.bool true)) (k (.bool false))) (bc (eqB (Rs.m (fixR (Rs.mk (Rs.m (fixR b)) (Rs.r (fixR b))))) 0) none (bc (eqB (sealI q (Int.tmod (wrapF .i64 (Int.sub (Rs.r (fixR a)) (Rs.r (fixR (Rs.mk (Rs.m (fixR b)) (Rs.r (fixR b))))))) (Rs.m (fixR (Rs.mk (Rs.m (fixR b)) (Rs.r (fixR b))))))) 0) (k (.bool true)) (k (.bool false)))))) (k (.bool false))) (bc (!(ltB (Rs.m (fixR b)) 1)) (bc (!(ltB (Rs.m (fixR a)) (Rs.m (fixR b)))) (bc (eqB (Rs.m (fixR b)) 0) none (bc (eqB (sealI q (Int.tmod (wrapF .i64 (Int.sub (Rs.r (fixR a)) (Rs.r (fixR b)))) (Rs.m (fixR b)))) 0) (k (.bool true)) (k (.bool false)))) (k (.bool false))) (k (.bool false))))) := by kernel_rfl

theorem t84 {R : Type} (q : Bool) (ty : Nat → TypeId) (a b : Rs) (k : Value → Option R) : ansK ⟨plainT, q⟩ [e90] 1000 20 ty 84 [rsV a, rsV b] k =
    (bc (eqIs [(Rs.m (fixR a)), (Rs.r (fixR a))] [(-1), 0]) (k (.bool true)) (bc (eqIs [(Rs.m (fixR b)), (Rs.r (fixR b))] [(-1), 0]) (k (.bool false)) (bc (eqB (Rs.m (fixR b)) 0) (bc (eqIs [(Rs.m (fixR a)), (Rs.r (fixR a))] [(Rs.m (fixR b)), (Rs.r (fixR b))]) (k (.bool true)) (k (.bool false))) (bc (eqB (Rs.m (fixR a)) 0) (bc (eqB (Rs.m (fixR b)) 0) none (bc (eqB (sealI q (Int.tmod (wrapF .i64 (Int.sub (Rs.r (fixR a)) (Rs.r (fixR b)))) (Rs.m (fixR b)))) 0) (k (.bool true)) (k (.bool false)))) (bc (!(ltB (Rs.m (fixR a)) (Rs.m (fixR b)))) (bc (eqB (Rs.m (fixR b)) 0) none (bc (eqB (sealI q (Int.tmod (wrapF .i64 (Int.sub (Rs.r (fixR a)) (Rs.r (fixR b)))) (Rs.m (fixR b)))) 0) (k (.bool true)) (k (.bool false)))) (k (.bool false))))))) := by kernel_rfl

theorem t77 {R : Type} (q : Bool) (ty : Nat → TypeId) (a b : Rs) (k : Value → Option R) : ansK ⟨plainT, q⟩ [e86, e153] 1000 20 ty 77 [rsV a, rsV b] k =
    (bc (eqIs [(Rs.m (fixR a)), (Rs.r (fixR a))] [(-1), 0]) (k (.agg ⟨[(.int .i64 (Rs.m (fixR b))), (.int .i64 (Rs.r (fixR b)))]⟩)) (bc (eqIs [(Rs.m (fixR a)), (Rs.r (fixR a))] [(Rs.m (fixR b)), (Rs.r (fixR b))]) (k (.agg ⟨[(.int .i64 (Rs.m (fixR b))), (.int .i64 (Rs.r (fixR b)))]⟩)) (bc (eqIs [(Rs.m (fixR b)), (Rs.r (fixR b))] [(-1), 0]) (k (.agg ⟨[(.int .i64 (Rs.m (fixR a))), (.int .i64 (Rs.r (fixR a)))]⟩)) (bc (ltB (mnI (mnI (mnI (tzU (IntKind.wrap .u64 (wrapF .i64 (Int.sub (Rs.r (fixR a)) (Rs.r (fixR b)))))) (tzU (IntKind.wrap .u64 (Rs.m (fixR a))))) (tzU (IntKind.wrap .u64 (Rs.m (fixR b))))) 30) 0) none (bc (ltB (mnI (mnI (mnI (tzU (IntKind.wrap .u64 (wrapF .i64 (Int.sub (Rs.r (fixR a)) (Rs.r (fixR b)))))) (tzU (IntKind.wrap .u64 (Rs.m (fixR a))))) (tzU (IntKind.wrap .u64 (Rs.m (fixR b))))) 30) 0) none (k (.agg ⟨[(.int .i64 (sealI q (shlI .i64 1 (mnI (mnI (mnI (tzU (IntKind.wrap .u64 (wrapF .i64 (Int.sub (Rs.r (fixR a)) (Rs.r (fixR b)))))) (tzU (IntKind.wrap .u64 (Rs.m (fixR a))))) (tzU (IntKind.wrap .u64 (Rs.m (fixR b))))) 30)))), (.int .i64 (sealI q (andI .i64 (Rs.r (fixR a)) (wrapF .i64 (Int.sub (sealI q (shlI .i64 1 (mnI (mnI (mnI (tzU (IntKind.wrap .u64 (wrapF .i64 (Int.sub (Rs.r (fixR a)) (Rs.r (fixR b)))))) (tzU (IntKind.wrap .u64 (Rs.m (fixR a))))) (tzU (IntKind.wrap .u64 (Rs.m (fixR b))))) 30))) 1)))))]⟩))))))) := by kernel_rfl

theorem t141_0 {R : Type} (q : Bool) (ty : Nat → TypeId) (x y : Int) (k : Value → Option R) : ansK ⟨plainT, q⟩ [e95] 1000 20 ty 141 [.int .i64 0, .int .i64 x, .int .i64 y] k =
    (k (.tuple ⟨[(.int .i64 0), (.int .i64 6)]⟩)) := by kernel_rfl

theorem t141_1 {R : Type} (q : Bool) (ty : Nat → TypeId) (x y : Int) (k : Value → Option R) : ansK ⟨plainT, q⟩ [e95] 1000 20 ty 141 [.int .i64 1, .int .i64 x, .int .i64 y] k =
    (k (.tuple ⟨[(.int .i64 (w32 (wrapF .i64 (Int.add (w32 x) (w32 y))))), (.int .i64 0)]⟩)) := by kernel_rfl

theorem t141_2 {R : Type} (q : Bool) (ty : Nat → TypeId) (x y : Int) (k : Value → Option R) : ansK ⟨plainT, q⟩ [e95] 1000 20 ty 141 [.int .i64 2, .int .i64 x, .int .i64 y] k =
    (k (.tuple ⟨[(.int .i64 (w32 (wrapF .i64 (Int.sub (w32 x) (w32 y))))), (.int .i64 0)]⟩)) := by kernel_rfl

theorem t141_3 {R : Type} (q : Bool) (ty : Nat → TypeId) (x y : Int) (k : Value → Option R) : ansK ⟨plainT, q⟩ [e95] 1000 20 ty 141 [.int .i64 3, .int .i64 x, .int .i64 y] k =
    (k (.tuple ⟨[(.int .i64 (w32 (wrapF .i64 (Int.mul (w32 x) (w32 y))))), (.int .i64 0)]⟩)) := by kernel_rfl

theorem t141_4 {R : Type} (q : Bool) (ty : Nat → TypeId) (x y : Int) (k : Value → Option R) : ansK ⟨plainT, q⟩ [e95] 1000 20 ty 141 [.int .i64 4, .int .i64 x, .int .i64 y] k =
    (bc (eqB (w32 y) 0) (k (.tuple ⟨[(.int .i64 0), (.int .i64 0)]⟩)) (bc (eqB (w32 y) 0) none (k (.tuple ⟨[(.int .i64 (w32 (sealI q (wrapF .i64 (Int.tdiv (w32 x) (w32 y)))))), (.int .i64 0)]⟩)))) := by kernel_rfl

theorem t141_5 {R : Type} (q : Bool) (ty : Nat → TypeId) (x y : Int) (k : Value → Option R) : ansK ⟨plainT, q⟩ [e95] 1000 20 ty 141 [.int .i64 5, .int .i64 x, .int .i64 y] k =
    (bc (eqB (w32 y) 0) (k (.tuple ⟨[(.int .i64 0), (.int .i64 0)]⟩)) (bc (eqB (w32 y) 0) none (k (.tuple ⟨[(.int .i64 (w32 (sealI q (Int.tmod (w32 x) (w32 y))))), (.int .i64 0)]⟩)))) := by kernel_rfl

theorem t141_6 {R : Type} (q : Bool) (ty : Nat → TypeId) (x y : Int) (k : Value → Option R) : ansK ⟨plainT, q⟩ [e95] 1000 20 ty 141 [.int .i64 6, .int .i64 x, .int .i64 y] k =
    (k (.tuple ⟨[(.int .i64 (w32 (sealI q (andI .i64 (w32 x) (w32 y))))), (.int .i64 0)]⟩)) := by kernel_rfl

theorem t141_7 {R : Type} (q : Bool) (ty : Nat → TypeId) (x y : Int) (k : Value → Option R) : ansK ⟨plainT, q⟩ [e95] 1000 20 ty 141 [.int .i64 7, .int .i64 x, .int .i64 y] k =
    (k (.tuple ⟨[(.int .i64 (w32 (sealI q (orI .i64 (w32 x) (w32 y))))), (.int .i64 0)]⟩)) := by kernel_rfl

theorem t141_8 {R : Type} (q : Bool) (ty : Nat → TypeId) (x y : Int) (k : Value → Option R) : ansK ⟨plainT, q⟩ [e95] 1000 20 ty 141 [.int .i64 8, .int .i64 x, .int .i64 y] k =
    (k (.tuple ⟨[(.int .i64 (w32 (sealI q (xorI .i64 (w32 x) (w32 y))))), (.int .i64 0)]⟩)) := by kernel_rfl

theorem t141_9 {R : Type} (q : Bool) (ty : Nat → TypeId) (x y : Int) (k : Value → Option R) : ansK ⟨plainT, q⟩ [e95] 1000 20 ty 141 [.int .i64 9, .int .i64 x, .int .i64 y] k =
    (bc (ltB (sealI q (andI .i64 (w32 y) 31)) 0) none (k (.tuple ⟨[(.int .i64 (w32 (sealI q (shlI .i64 (w32 x) (sealI q (andI .i64 (w32 y) 31)))))), (.int .i64 0)]⟩))) := by kernel_rfl

theorem t141_10 {R : Type} (q : Bool) (ty : Nat → TypeId) (x y : Int) (k : Value → Option R) : ansK ⟨plainT, q⟩ [e95] 1000 20 ty 141 [.int .i64 10, .int .i64 x, .int .i64 y] k =
    (bc (ltB (sealI q (andI .i64 (w32 y) 31)) 0) none (k (.tuple ⟨[(.int .i64 (w32 (sealI q (shrI .i64 (w32 x) (sealI q (andI .i64 (w32 y) 31)))))), (.int .i64 0)]⟩))) := by kernel_rfl

theorem t141_11 {R : Type} (q : Bool) (ty : Nat → TypeId) (x y : Int) (k : Value → Option R) : ansK ⟨plainT, q⟩ [e95] 1000 20 ty 141 [.int .i64 11, .int .i64 x, .int .i64 y] k =
    (bc (ltB (w32 x) (w32 y)) (k (.tuple ⟨[(.int .i64 1), (.int .i64 0)]⟩)) (k (.tuple ⟨[(.int .i64 0), (.int .i64 0)]⟩))) := by kernel_rfl

theorem t141_12 {R : Type} (q : Bool) (ty : Nat → TypeId) (x y : Int) (k : Value → Option R) : ansK ⟨plainT, q⟩ [e95] 1000 20 ty 141 [.int .i64 12, .int .i64 x, .int .i64 y] k =
    (bc (!(ltB (w32 y) (w32 x))) (k (.tuple ⟨[(.int .i64 1), (.int .i64 0)]⟩)) (k (.tuple ⟨[(.int .i64 0), (.int .i64 0)]⟩))) := by kernel_rfl

theorem t141_13 {R : Type} (q : Bool) (ty : Nat → TypeId) (x y : Int) (k : Value → Option R) : ansK ⟨plainT, q⟩ [e95] 1000 20 ty 141 [.int .i64 13, .int .i64 x, .int .i64 y] k =
    (bc (eqB (w32 x) (w32 y)) (k (.tuple ⟨[(.int .i64 1), (.int .i64 0)]⟩)) (k (.tuple ⟨[(.int .i64 0), (.int .i64 0)]⟩))) := by kernel_rfl

theorem t141_14 {R : Type} (q : Bool) (ty : Nat → TypeId) (x y : Int) (k : Value → Option R) : ansK ⟨plainT, q⟩ [e95] 1000 20 ty 141 [.int .i64 14, .int .i64 x, .int .i64 y] k =
    (bc (!(eqB (w32 x) (w32 y))) (k (.tuple ⟨[(.int .i64 1), (.int .i64 0)]⟩)) (k (.tuple ⟨[(.int .i64 0), (.int .i64 0)]⟩))) := by kernel_rfl

theorem t141_p {R : Type} (q : Bool) (ty : Nat → TypeId) (n : Nat) (x y : Int) (k : Value → Option R) : ansK ⟨plainT, q⟩ [e95] 1000 20 ty 141 [.int .i64 (.ofNat (n + 15)), .int .i64 x, .int .i64 y] k =
    (k (.tuple ⟨[(.int .i64 0), (.int .i64 6)]⟩)) := by kernel_rfl

theorem t141_n {R : Type} (q : Bool) (ty : Nat → TypeId) (n : Nat) (x y : Int) (k : Value → Option R) : ansK ⟨plainT, q⟩ [e95] 1000 20 ty 141 [.int .i64 (.negSucc n), .int .i64 x, .int .i64 y] k =
    (k (.tuple ⟨[(.int .i64 0), (.int .i64 6)]⟩)) := by kernel_rfl

theorem t43_0 {R : Type} (q : Bool) (ty : Nat → TypeId) (x y : Int) (k : Value → Option R) : ansK ⟨plainT, q⟩ [e97] 1000 20 ty 43 [.int .i64 0, .int .i64 x, .int .i64 y] k =
    (k (.tuple ⟨[(.int .i64 0), (.int .i64 6)]⟩)) := by kernel_rfl

theorem t43_1 {R : Type} (q : Bool) (ty : Nat → TypeId) (x y : Int) (k : Value → Option R) : ansK ⟨plainT, q⟩ [e97] 1000 20 ty 43 [.int .i64 1, .int .i64 x, .int .i64 y] k =
    (k (.tuple ⟨[(.int .i64 (w32 (wrapF .i64 (Int.add (w32 x) (w32 y))))), (.int .i64 0)]⟩)) := by kernel_rfl

theorem t43_2 {R : Type} (q : Bool) (ty : Nat → TypeId) (x y : Int) (k : Value → Option R) : ansK ⟨plainT, q⟩ [e97] 1000 20 ty 43 [.int .i64 2, .int .i64 x, .int .i64 y] k =
    (k (.tuple ⟨[(.int .i64 (w32 (wrapF .i64 (Int.sub (w32 x) (w32 y))))), (.int .i64 0)]⟩)) := by kernel_rfl

theorem t43_3 {R : Type} (q : Bool) (ty : Nat → TypeId) (x y : Int) (k : Value → Option R) : ansK ⟨plainT, q⟩ [e97] 1000 20 ty 43 [.int .i64 3, .int .i64 x, .int .i64 y] k =
    (k (.tuple ⟨[(.int .i64 (w32 (wrapF .i64 (Int.mul (w32 x) (w32 y))))), (.int .i64 0)]⟩)) := by kernel_rfl

theorem t43_4 {R : Type} (q : Bool) (ty : Nat → TypeId) (x y : Int) (k : Value → Option R) : ansK ⟨plainT, q⟩ [e97] 1000 20 ty 43 [.int .i64 4, .int .i64 x, .int .i64 y] k =
    (bc (!(eqB (w32 y) 0)) (bc (eqB (w32 y) 0) none (k (.tuple ⟨[(.int .i64 (w32 (sealI q (wrapF .i64 (Int.tdiv (w32 x) (w32 y)))))), (.int .i64 0)]⟩))) (k (.tuple ⟨[(.int .i64 0), (.int .i64 0)]⟩))) := by kernel_rfl

theorem t43_5 {R : Type} (q : Bool) (ty : Nat → TypeId) (x y : Int) (k : Value → Option R) : ansK ⟨plainT, q⟩ [e97] 1000 20 ty 43 [.int .i64 5, .int .i64 x, .int .i64 y] k =
    (bc (!(eqB (w32 y) 0)) (bc (eqB (w32 y) 0) none (k (.tuple ⟨[(.int .i64 (w32 (sealI q (Int.tmod (w32 x) (w32 y))))), (.int .i64 0)]⟩))) (k (.tuple ⟨[(.int .i64 0), (.int .i64 0)]⟩))) := by kernel_rfl

theorem t43_6 {R : Type} (q : Bool) (ty : Nat → TypeId) (x y : Int) (k : Value → Option R) : ansK ⟨plainT, q⟩ [e97] 1000 20 ty 43 [.int .i64 6, .int .i64 x, .int .i64 y] k =
    (k (.tuple ⟨[(.int .i64 (w32 (sealI q (andI .i64 (w32 x) (w32 y))))), (.int .i64 0)]⟩)) := by kernel_rfl

theorem t43_7 {R : Type} (q : Bool) (ty : Nat → TypeId) (x y : Int) (k : Value → Option R) : ansK ⟨plainT, q⟩ [e97] 1000 20 ty 43 [.int .i64 7, .int .i64 x, .int .i64 y] k =
    (k (.tuple ⟨[(.int .i64 (w32 (sealI q (orI .i64 (w32 x) (w32 y))))), (.int .i64 0)]⟩)) := by kernel_rfl

theorem t43_8 {R : Type} (q : Bool) (ty : Nat → TypeId) (x y : Int) (k : Value → Option R) : ansK ⟨plainT, q⟩ [e97] 1000 20 ty 43 [.int .i64 8, .int .i64 x, .int .i64 y] k =
    (k (.tuple ⟨[(.int .i64 (w32 (sealI q (xorI .i64 (w32 x) (w32 y))))), (.int .i64 0)]⟩)) := by kernel_rfl

theorem t43_9 {R : Type} (q : Bool) (ty : Nat → TypeId) (x y : Int) (k : Value → Option R) : ansK ⟨plainT, q⟩ [e97] 1000 20 ty 43 [.int .i64 9, .int .i64 x, .int .i64 y] k =
    (bc (ltB (IntKind.wrap .u64 (sealI q (andI .i64 (w32 y) 31))) 0) none (k (.tuple ⟨[(.int .i64 (w32 (sealI q (shlI .i64 (w32 x) (IntKind.wrap .u64 (sealI q (andI .i64 (w32 y) 31))))))), (.int .i64 0)]⟩))) := by kernel_rfl

theorem t43_10 {R : Type} (q : Bool) (ty : Nat → TypeId) (x y : Int) (k : Value → Option R) : ansK ⟨plainT, q⟩ [e97] 1000 20 ty 43 [.int .i64 10, .int .i64 x, .int .i64 y] k =
    (bc (ltB (IntKind.wrap .u64 (sealI q (andI .i64 (w32 y) 31))) 0) none (k (.tuple ⟨[(.int .i64 (w32 (sealI q (shrI .i64 (w32 x) (IntKind.wrap .u64 (sealI q (andI .i64 (w32 y) 31))))))), (.int .i64 0)]⟩))) := by kernel_rfl

theorem t43_11 {R : Type} (q : Bool) (ty : Nat → TypeId) (x y : Int) (k : Value → Option R) : ansK ⟨plainT, q⟩ [e97] 1000 20 ty 43 [.int .i64 11, .int .i64 x, .int .i64 y] k =
    (bc (ltB (w32 x) (w32 y)) (k (.tuple ⟨[(.int .i64 1), (.int .i64 0)]⟩)) (k (.tuple ⟨[(.int .i64 0), (.int .i64 0)]⟩))) := by kernel_rfl

theorem t43_12 {R : Type} (q : Bool) (ty : Nat → TypeId) (x y : Int) (k : Value → Option R) : ansK ⟨plainT, q⟩ [e97] 1000 20 ty 43 [.int .i64 12, .int .i64 x, .int .i64 y] k =
    (bc (!(ltB (w32 y) (w32 x))) (k (.tuple ⟨[(.int .i64 1), (.int .i64 0)]⟩)) (k (.tuple ⟨[(.int .i64 0), (.int .i64 0)]⟩))) := by kernel_rfl

theorem t43_13 {R : Type} (q : Bool) (ty : Nat → TypeId) (x y : Int) (k : Value → Option R) : ansK ⟨plainT, q⟩ [e97] 1000 20 ty 43 [.int .i64 13, .int .i64 x, .int .i64 y] k =
    (bc (eqB (w32 x) (w32 y)) (k (.tuple ⟨[(.int .i64 1), (.int .i64 0)]⟩)) (k (.tuple ⟨[(.int .i64 0), (.int .i64 0)]⟩))) := by kernel_rfl

theorem t43_14 {R : Type} (q : Bool) (ty : Nat → TypeId) (x y : Int) (k : Value → Option R) : ansK ⟨plainT, q⟩ [e97] 1000 20 ty 43 [.int .i64 14, .int .i64 x, .int .i64 y] k =
    (bc (!(eqB (w32 x) (w32 y))) (k (.tuple ⟨[(.int .i64 1), (.int .i64 0)]⟩)) (k (.tuple ⟨[(.int .i64 0), (.int .i64 0)]⟩))) := by kernel_rfl

theorem t43_p {R : Type} (q : Bool) (ty : Nat → TypeId) (n : Nat) (x y : Int) (k : Value → Option R) : ansK ⟨plainT, q⟩ [e97] 1000 20 ty 43 [.int .i64 (.ofNat (n + 15)), .int .i64 x, .int .i64 y] k =
    (k (.tuple ⟨[(.int .i64 0), (.int .i64 6)]⟩)) := by kernel_rfl

theorem t43_n {R : Type} (q : Bool) (ty : Nat → TypeId) (n : Nat) (x y : Int) (k : Value → Option R) : ansK ⟨plainT, q⟩ [e97] 1000 20 ty 43 [.int .i64 (.negSucc n), .int .i64 x, .int .i64 y] k =
    (k (.tuple ⟨[(.int .i64 0), (.int .i64 6)]⟩)) := by kernel_rfl

end Go.Ev
namespace Go.Ev
open Go.Proofs

theorem some_bool {b c : Bool} (h : b = c) : some (Value.bool b) = some (Value.bool c) := by rw [h]
noncomputable section
def Ans2p {α β : Type} (A : Enc α) (B : Enc β) (f : FuncId) (P : α → β → Bool) (F : α → β → Value) : Prop := ∀ a b, P a b = true → Good f [A.enc a, B.enc b] (F a b) ∧ pf (F a b) = true
def pre2 {α β : Type} (A : Enc α) (B : Enc β) (f : α → β → Bool) : List Value → Bool
  | [x, y] => @Option.rec α (fun _ => Bool) false (fun a => @Option.rec β (fun _ => Bool) false (fun b => f a b) (B.dec y)) (A.dec x)
  | _ => false
def mk2p {α β : Type} (A : Enc α) (B : Enc β) (f : FuncId) (P : α → β → Bool) (F : α → β → Value) (h : Ans2p A B f P F) : Ent where
  f := f
  val := on2 A B F
  pre := pre2 A B P
  ok args v hv hp := by
    match args, hv, hp with
    | [x, y], hv, hp =>
      obtain ⟨a, h1, h2⟩ := ob_eq_some.1 (show ob (A.dec x) (fun a => ob (B.dec y) fun b => some (F a b)) = some v from hv)
      obtain ⟨b, h3, h4⟩ := ob_eq_some.1 h2
      obtain rfl := Option.some.inj h4
      have hp' : @Option.rec α (fun _ => Bool) false (fun a => @Option.rec β (fun _ => Bool) false (fun b => P a b) (B.dec y)) (A.dec x) = true := hp
      rw [h1, h3] at hp'
      obtain rfl := A.inv x a h1
      obtain rfl := B.inv y b h3
      exact ⟨⟨(h a b hp').2, fun z hz => by simp at hz; rcases hz with rfl | rfl; exact A.pf a; exact B.pf b⟩, (h a b hp').1⟩

theorem a68 : Ans2 encIv encI 68 (fun a b => Value.bool (hasI a b)) := fun a b => by
  refine good_tree true 1000 20 rfl (fun ty k => t68 true ty a b k) (fun ty => ?_) rfl
  show _ = some (Value.bool (hasI a b))
  have hA := fixI_cases a
  skip
  unfold hasI
  generalize fixI a = A at *
  skip
  obtain ⟨p, q⟩ := A
  skip
  simp only [] at hA 
  simp only [bc_isW, bc_nltB, bc_ltB, bc_eqB, bc_neqB, bc_eqIs2, bc_neqIs2, bc_le31, sealI_eq, mnI_eq, mxI_eq, add_eq, sub_eq, mul_eq]
  repeat' split
  all_goals first | rfl | (exfalso; omega) | (apply iv_congr <;> omega) | (refine some_bool (Eq.symm ?_); simp only [Bool.and_eq_true, Bool.or_eq_true, Bool.and_eq_false_iff, Bool.or_eq_false_iff, decide_eq_true_iff, decide_eq_false_iff_not]; omega)
def e68 : Ent := mk2 encIv encI 68 _ a68

theorem a93 : Ans2 encIv encI 93 (fun a b => Value.bool (hasI a b)) := fun a b => by
  refine good_tree true 1000 20 rfl (fun ty k => t93 true ty a b k) (fun ty => ?_) rfl
  show _ = some (Value.bool (hasI a b))
  have hA := fixI_cases a
  skip
  unfold hasI
  generalize fixI a = A at *
  skip
  obtain ⟨p, q⟩ := A
  skip
  simp only [] at hA 
  simp only [bc_isW, bc_nltB, bc_ltB, bc_eqB, bc_neqB, bc_eqIs2, bc_neqIs2, bc_le31, sealI_eq, mnI_eq, mxI_eq, add_eq, sub_eq, mul_eq]
  repeat' split
  all_goals first | rfl | (exfalso; omega) | (apply iv_congr <;> omega) | (refine some_bool (Eq.symm ?_); simp only [Bool.and_eq_true, Bool.or_eq_true, Bool.and_eq_false_iff, Bool.or_eq_false_iff, decide_eq_true_iff, decide_eq_false_iff_not]; omega)
def e93 : Ent := mk2 encIv encI 93 _ a93

theorem a76 : Ans2 encIv encIv 76 (fun a b => ivV (joinI a b)) := fun a b => by
  refine good_tree true 1000 20 rfl (fun ty k => t76 true ty a b k) (fun ty => ?_) rfl
  show _ = some (ivV (joinI a b))
  have hA := fixI_cases a
  have hB := fixI_cases b
  unfold joinI
  generalize fixI a = A at *
  generalize fixI b = B at *
  obtain ⟨p, q⟩ := A
  obtain ⟨r, s⟩ := B
  simp only [] at hA hB
  simp only [bc_isW, bc_nltB, bc_ltB, bc_eqB, bc_neqB, bc_eqIs2, bc_neqIs2, bc_le31, sealI_eq, mnI_eq, mxI_eq, add_eq, sub_eq, mul_eq]
  repeat' split
  all_goals first | rfl | (exfalso; omega) | (apply iv_congr <;> omega) | (refine some_bool (Eq.symm ?_); simp only [Bool.and_eq_true, Bool.or_eq_true, Bool.and_eq_false_iff, Bool.or_eq_false_iff, decide_eq_true_iff, decide_eq_false_iff_not]; omega)
def e76 : Ent := mk2 encIv encIv 76 _ a76

theorem a78 : Ans2 encIv encIv 78 (fun a b => ivV (joinI a b)) := fun a b => by
  refine good_tree true 1000 20 rfl (fun ty k => t78 true ty a b k) (fun ty => ?_) rfl
  show _ = some (ivV (joinI a b))
  have hA := fixI_cases a
  have hB := fixI_cases b
  unfold joinI
  generalize fixI a = A at *
  generalize fixI b = B at *
  obtain ⟨p, q⟩ := A
  obtain ⟨r, s⟩ := B
  simp only [] at hA hB
  simp only [bc_isW, bc_nltB, bc_ltB, bc_eqB, bc_neqB, bc_eqIs2, bc_neqIs2, bc_le31, sealI_eq, mnI_eq, mxI_eq, add_eq, sub_eq, mul_eq]
  repeat' split
  all_goals first | rfl | (exfalso; omega) | (apply iv_congr <;> omega) | (refine some_bool (Eq.symm ?_); simp only [Bool.and_eq_true, Bool.or_eq_true, Bool.and_eq_false_iff, Bool.or_eq_false_iff, decide_eq_true_iff, decide_eq_false_iff_not]; omega)
def e78 : Ent := mk2 encIv encIv 78 _ a78

theorem a81 : Ans2 encIv encIv 81 (fun a b => Value.bool (leqI a b)) := fun a b => by
  refine good_tree true 1000 20 rfl (fun ty k => t81 true ty a b k) (fun ty => ?_) rfl
  show _ = some (Value.bool (leqI a b))
  have hA := fixI_cases a
  have hB := fixI_cases b
  unfold leqI
  generalize fixI a = A at *
  generalize fixI b = B at *
  obtain ⟨p, q⟩ := A
  obtain ⟨r, s⟩ := B
  simp only [] at hA hB
  simp only [bc_isW, bc_nltB, bc_ltB, bc_eqB, bc_neqB, bc_eqIs2, bc_neqIs2, bc_le31, sealI_eq, mnI_eq, mxI_eq, add_eq, sub_eq, mul_eq]
  repeat' split
  all_goals first | rfl | (exfalso; omega) | (apply iv_congr <;> omega) | (refine some_bool (Eq.symm ?_); simp only [Bool.and_eq_true, Bool.or_eq_true, Bool.and_eq_false_iff, Bool.or_eq_false_iff, decide_eq_true_iff, decide_eq_false_iff_not]; omega)
def e81 : Ent := mk2 encIv encIv 81 _ a81

theorem a83 : Ans2 encIv encIv 83 (fun a b => Value.bool (leqI a b)) := fun a b => by
  refine good_tree true 1000 20 rfl (fun ty k => t83 true ty a b k) (fun ty => ?_) rfl
  show _ = some (Value.bool (leqI a b))
  have hA := fixI_cases a
  have hB := fixI_cases b
  unfold leqI
  generalize fixI a = A at *
  generalize fixI b = B at *
  obtain ⟨p, q⟩ := A
  obtain ⟨r, s⟩ := B
  simp only [] at hA hB
  simp only [bc_isW, bc_nltB, bc_ltB, bc_eqB, bc_neqB, bc_eqIs2, bc_neqIs2, bc_le31, sealI_eq, mnI_eq, mxI_eq, add_eq, sub_eq, mul_eq]
  repeat' split
  all_goals first | rfl | (exfalso; omega) | (apply iv_congr <;> omega) | (refine some_bool (Eq.symm ?_); simp only [Bool.and_eq_true, Bool.or_eq_true, Bool.and_eq_false_iff, Bool.or_eq_false_iff, decide_eq_true_iff, decide_eq_false_iff_not]; omega)
def e83 : Ent := mk2 encIv encIv 83 _ a83


/-- What an operator answers for two words. -/
def wDo (op a b : Int) : Int :=
  if op = 1 then w32 (a + b) else if op = 2 then w32 (a - b) else if op = 3 then w32 (a * b) else if op = 4 then (if b = 0 then 0 else w32 (a.tdiv b)) else if op = 5 then (if b = 0 then 0 else w32 (a.tmod b))
  else if op = 6 then w32 (andI .i64 a b) else if op = 7 then w32 (orI .i64 a b) else if op = 8 then w32 (xorI .i64 a b) else if op = 9 then w32 (a * 2 ^ (b % 32).toNat) else if op = 10 then w32 (shr a (b % 32))
  else if op = 11 then (if a < b then 1 else 0) else if op = 12 then (if a ≤ b then 1 else 0) else if op = 13 then (if a = b then 1 else 0) else if op = 14 then (if a = b then 0 else 1) else 0
def wErr (op : Int) : Int := if 1 ≤ op ∧ op ≤ 14 then 0 else 6
def wDoV (op a b : Int) : Value := .tuple ⟨[.int .i64 (wDo op (w32 a) (w32 b)), .int .i64 (wErr op)]⟩

theorem wDo_p (n : Nat) (a b : Int) : wDo (.ofNat (n + 15)) a b = 0 := by
  unfold wDo
  have h : (Int.ofNat (n + 15) : Int) = (n : Int) + 15 := rfl
  rw [h]
  repeat (rw [if_neg (by omega)])
theorem wDo_n (n : Nat) (a b : Int) : wDo (.negSucc n) a b = 0 := by
  unfold wDo
  have h : (Int.negSucc n : Int) < 0 := Int.negSucc_lt_zero n
  repeat (rw [if_neg (by omega)])
theorem wErr_p (n : Nat) : wErr (.ofNat (n + 15)) = 6 := by
  unfold wErr
  have h : (Int.ofNat (n + 15) : Int) = (n : Int) + 15 := rfl
  rw [h, if_neg (by omega)]
theorem wErr_n (n : Nat) : wErr (.negSucc n) = 6 := by
  unfold wErr
  have h : (Int.negSucc n : Int) < 0 := Int.negSucc_lt_zero n
  rw [if_neg (by omega)]
theorem w_congr {n n' e e' : Int} (h : n = n') (h' : e = e') : some (Value.tuple ⟨[.int .i64 n, .int .i64 e]⟩) = some (.tuple ⟨[.int .i64 n', .int .i64 e']⟩) := by rw [h, h']

theorem andI_mask (n : Int) (k : Nat) (hk : k ≤ 31) : andI .i64 n (2 ^ k - 1) = n % 2 ^ k := by
  unfold andI
  have hp : (2 : Int) ^ k = ((2 ^ k : Nat) : Int) := by simp
  have h1 : 0 < 2 ^ k := Nat.two_pow_pos k
  have h2 : 2 ^ k ≤ 2 ^ 31 := Nat.pow_le_pow_right (by omega) hk
  have e : ((2 : Int) ^ k - 1) = ((2 ^ k - 1 : Nat) : Int) := by rw [hp]; omega
  rw [e]
  show IntKind.wrap .i64 (BitVec.ofInt 64 n &&& BitVec.ofInt 64 ((2 ^ k - 1 : Nat) : Int)).toNat = _
  rw [BitVec.toNat_and, BitVec.toNat_ofInt, BitVec.toNat_ofInt]
  have e2 : (((2 ^ k - 1 : Nat) : Int) % ((2 ^ 64 : Nat) : Int)).toNat = 2 ^ k - 1 := by omega
  rw [e2, Nat.and_two_pow_sub_one_eq_mod]
  have e3 : (((n % ((2 ^ 64 : Nat) : Int)).toNat % 2 ^ k : Nat) : Int) = n % 2 ^ k := by
    have h3 : 0 ≤ n % ((2 ^ 64 : Nat) : Int) := Int.emod_nonneg _ (by omega)
    rw [Int.natCast_emod, Int.toNat_of_nonneg h3, hp]
    have hd : ((2 ^ k : Nat) : Int) ∣ ((2 ^ 64 : Nat) : Int) := by
      have : 2 ^ k ∣ 2 ^ 64 := Nat.pow_dvd_pow 2 (by omega)
      exact Int.natCast_dvd_natCast.2 this
    exact Int.emod_emod_of_dvd n hd
  rw [e3]
  have h4 : 0 ≤ n % 2 ^ k := Int.emod_nonneg _ (by rw [hp]; omega)
  have h5 : n % 2 ^ k < 2 ^ k := Int.emod_lt_of_pos _ (by rw [hp]; omega)
  exact wrapI_id' (by omega) (by rw [hp] at *; omega)
theorem and31 (n : Int) : andI .i64 n 31 = n % 32 := andI_mask n 5 (by omega)

theorem shl_word {a c : Int} (h : isW a = true) (h0 : 0 ≤ c) (h' : c ≤ 31) : shlI .i64 a c = a * 2 ^ c.toNat := by
  rw [isW_iff] at h
  unfold shlI
  rw [show min c.toNat IntKind.i64.bits = c.toNat by show min _ 64 = _; omega, ← wrapF_eq]
  have h3 : (2 : Int) ^ c.toNat ≤ 2 ^ 31 := pow_le_iff.2 (by omega)
  have h4 : (1 : Int) ≤ 2 ^ c.toNat := by
    have : (2 : Int) ^ 0 ≤ 2 ^ c.toNat := pow_le_iff.2 (by omega)
    simpa using this
  have h5 : (2 : Int) ^ 31 = 2147483648 := rfl
  have hn : ((2 : Int) ^ c.toNat).natAbs ≤ 2147483648 := by omega
  have ha : a.natAbs ≤ 2147483648 := by omega
  have h6 : (a * 2 ^ c.toNat).natAbs ≤ 2147483648 * 2147483648 := by rw [Int.natAbs_mul]; exact Nat.mul_le_mul ha hn
  exact wr_id (by omega)

theorem w32_small {n : Int} (h : n = 0 ∨ n = 1) : w32 n = n := by unfold w32; omega
theorem a141_0 (x y : Int) : Good 141 [.int .i64 0, .int .i64 x, .int .i64 y] (wDoV 0 x y) ∧ pf (wDoV 0 x y) = true := by
  refine good_tree true 1000 20 rfl (fun ty k => t141_0 true ty x y k) (fun ty => ?_) rfl
  have hx := w32_isW x
  have hy := w32_isW y
  unfold wDoV
  generalize w32 x = a at *
  generalize w32 y = b at *
  have hx' := isW_iff.1 hx
  have hy' := isW_iff.1 hy
  rfl
theorem a141_1 (x y : Int) : Good 141 [.int .i64 1, .int .i64 x, .int .i64 y] (wDoV 1 x y) ∧ pf (wDoV 1 x y) = true := by
  refine good_tree true 1000 20 rfl (fun ty k => t141_1 true ty x y k) (fun ty => ?_) rfl
  have hx := w32_isW x
  have hy := w32_isW y
  unfold wDoV
  generalize w32 x = a at *
  generalize w32 y = b at *
  have hx' := isW_iff.1 hx
  have hy' := isW_iff.1 hy
  rw [wr_id (by simp only [add_eq, sub_eq]; omega)]; rfl
theorem a141_2 (x y : Int) : Good 141 [.int .i64 2, .int .i64 x, .int .i64 y] (wDoV 2 x y) ∧ pf (wDoV 2 x y) = true := by
  refine good_tree true 1000 20 rfl (fun ty k => t141_2 true ty x y k) (fun ty => ?_) rfl
  have hx := w32_isW x
  have hy := w32_isW y
  unfold wDoV
  generalize w32 x = a at *
  generalize w32 y = b at *
  have hx' := isW_iff.1 hx
  have hy' := isW_iff.1 hy
  rw [wr_id (by simp only [add_eq, sub_eq]; omega)]; rfl
theorem a141_3 (x y : Int) : Good 141 [.int .i64 3, .int .i64 x, .int .i64 y] (wDoV 3 x y) ∧ pf (wDoV 3 x y) = true := by
  refine good_tree true 1000 20 rfl (fun ty k => t141_3 true ty x y k) (fun ty => ?_) rfl
  have hx := w32_isW x
  have hy := w32_isW y
  unfold wDoV
  generalize w32 x = a at *
  generalize w32 y = b at *
  have hx' := isW_iff.1 hx
  have hy' := isW_iff.1 hy
  have hm := mul_bound hx'.1 hx'.2 hy'.1 hy'.2
  rw [wr_id (by simp only [mul_eq]; omega)]; rfl
theorem a141_4 (x y : Int) : Good 141 [.int .i64 4, .int .i64 x, .int .i64 y] (wDoV 4 x y) ∧ pf (wDoV 4 x y) = true := by
  refine good_tree true 1000 20 rfl (fun ty k => t141_4 true ty x y k) (fun ty => ?_) rfl
  have hx := w32_isW x
  have hy := w32_isW y
  unfold wDoV
  generalize w32 x = a at *
  generalize w32 y = b at *
  have hx' := isW_iff.1 hx
  have hy' := isW_iff.1 hy
  have hd := tdiv_bound (b := b) hx'.1 hx'.2
  have e : wDo 4 a b = if b = 0 then 0 else w32 (a.tdiv b) := rfl
  simp only [bc_eqB, bc_neqB, sealI_eq]
  rw [e]
  by_cases h : b = 0
  · simp only [h, if_true]; rfl
  · simp only [h, if_false]
    rw [wr_id (by omega)]; rfl
theorem a141_5 (x y : Int) : Good 141 [.int .i64 5, .int .i64 x, .int .i64 y] (wDoV 5 x y) ∧ pf (wDoV 5 x y) = true := by
  refine good_tree true 1000 20 rfl (fun ty k => t141_5 true ty x y k) (fun ty => ?_) rfl
  have hx := w32_isW x
  have hy := w32_isW y
  unfold wDoV
  generalize w32 x = a at *
  generalize w32 y = b at *
  have hx' := isW_iff.1 hx
  have hy' := isW_iff.1 hy
  have e : wDo 5 a b = if b = 0 then 0 else w32 (a.tmod b) := rfl
  simp only [bc_eqB, bc_neqB, sealI_eq]
  rw [e]
  by_cases h : b = 0
  · simp only [h, if_true]; rfl
  · simp only [h, if_false]; rfl
theorem a141_6 (x y : Int) : Good 141 [.int .i64 6, .int .i64 x, .int .i64 y] (wDoV 6 x y) ∧ pf (wDoV 6 x y) = true := by
  refine good_tree true 1000 20 rfl (fun ty k => t141_6 true ty x y k) (fun ty => ?_) rfl
  have hx := w32_isW x
  have hy := w32_isW y
  unfold wDoV
  generalize w32 x = a at *
  generalize w32 y = b at *
  have hx' := isW_iff.1 hx
  have hy' := isW_iff.1 hy
  simp only [sealI_eq]; rfl
theorem a141_7 (x y : Int) : Good 141 [.int .i64 7, .int .i64 x, .int .i64 y] (wDoV 7 x y) ∧ pf (wDoV 7 x y) = true := by
  refine good_tree true 1000 20 rfl (fun ty k => t141_7 true ty x y k) (fun ty => ?_) rfl
  have hx := w32_isW x
  have hy := w32_isW y
  unfold wDoV
  generalize w32 x = a at *
  generalize w32 y = b at *
  have hx' := isW_iff.1 hx
  have hy' := isW_iff.1 hy
  simp only [sealI_eq]; rfl
theorem a141_8 (x y : Int) : Good 141 [.int .i64 8, .int .i64 x, .int .i64 y] (wDoV 8 x y) ∧ pf (wDoV 8 x y) = true := by
  refine good_tree true 1000 20 rfl (fun ty k => t141_8 true ty x y k) (fun ty => ?_) rfl
  have hx := w32_isW x
  have hy := w32_isW y
  unfold wDoV
  generalize w32 x = a at *
  generalize w32 y = b at *
  have hx' := isW_iff.1 hx
  have hy' := isW_iff.1 hy
  simp only [sealI_eq]; rfl
theorem a141_9 (x y : Int) : Good 141 [.int .i64 9, .int .i64 x, .int .i64 y] (wDoV 9 x y) ∧ pf (wDoV 9 x y) = true := by
  refine good_tree true 1000 20 rfl (fun ty k => t141_9 true ty x y k) (fun ty => ?_) rfl
  have hx := w32_isW x
  have hy := w32_isW y
  unfold wDoV
  generalize w32 x = a at *
  generalize w32 y = b at *
  have hx' := isW_iff.1 hx
  have hy' := isW_iff.1 hy
  simp only [sealI_eq, and31, bc_ltB]
  have hb : 0 ≤ b % 32 ∧ b % 32 < 32 := by omega
  have hw : IntKind.wrap .u64 (b % 32) = b % 32 := wrapU_id (by omega) (by omega)
  try rw [hw]
  rw [if_neg (by omega), shl_word hx (by omega) (by omega)]; rfl
theorem a141_10 (x y : Int) : Good 141 [.int .i64 10, .int .i64 x, .int .i64 y] (wDoV 10 x y) ∧ pf (wDoV 10 x y) = true := by
  refine good_tree true 1000 20 rfl (fun ty k => t141_10 true ty x y k) (fun ty => ?_) rfl
  have hx := w32_isW x
  have hy := w32_isW y
  unfold wDoV
  generalize w32 x = a at *
  generalize w32 y = b at *
  have hx' := isW_iff.1 hx
  have hy' := isW_iff.1 hy
  simp only [sealI_eq, and31, bc_ltB]
  have hb : 0 ≤ b % 32 ∧ b % 32 < 32 := by omega
  have hw : IntKind.wrap .u64 (b % 32) = b % 32 := wrapU_id (by omega) (by omega)
  try rw [hw]
  rw [if_neg (by omega), shrI_eq (by omega) (by omega)]; rfl
theorem a141_11 (x y : Int) : Good 141 [.int .i64 11, .int .i64 x, .int .i64 y] (wDoV 11 x y) ∧ pf (wDoV 11 x y) = true := by
  refine good_tree true 1000 20 rfl (fun ty k => t141_11 true ty x y k) (fun ty => ?_) rfl
  have hx := w32_isW x
  have hy := w32_isW y
  unfold wDoV
  generalize w32 x = a at *
  generalize w32 y = b at *
  have hx' := isW_iff.1 hx
  have hy' := isW_iff.1 hy
  have e : wDo 11 a b = if a < b then 1 else 0 := rfl
  simp only [bc_ltB, bc_nltB, bc_eqB, bc_neqB]
  rw [e]
  by_cases h : a < b
  · simp only [h, if_true]; first | rfl | (refine w_congr ?_ rfl; first | rfl | exact w32_small (.inl rfl) | exact w32_small (.inr rfl))
  · simp only [h, if_false]; first | rfl | (refine w_congr ?_ rfl; first | rfl | exact w32_small (.inl rfl) | exact w32_small (.inr rfl))
theorem a141_12 (x y : Int) : Good 141 [.int .i64 12, .int .i64 x, .int .i64 y] (wDoV 12 x y) ∧ pf (wDoV 12 x y) = true := by
  refine good_tree true 1000 20 rfl (fun ty k => t141_12 true ty x y k) (fun ty => ?_) rfl
  have hx := w32_isW x
  have hy := w32_isW y
  unfold wDoV
  generalize w32 x = a at *
  generalize w32 y = b at *
  have hx' := isW_iff.1 hx
  have hy' := isW_iff.1 hy
  have e : wDo 12 a b = if a ≤ b then 1 else 0 := rfl
  simp only [bc_ltB, bc_nltB, bc_eqB, bc_neqB]
  rw [e]
  by_cases h : a ≤ b
  · simp only [h, if_true]; first | rfl | (refine w_congr ?_ rfl; first | rfl | exact w32_small (.inl rfl) | exact w32_small (.inr rfl))
  · simp only [h, if_false]; first | rfl | (refine w_congr ?_ rfl; first | rfl | exact w32_small (.inl rfl) | exact w32_small (.inr rfl))
theorem a141_13 (x y : Int) : Good 141 [.int .i64 13, .int .i64 x, .int .i64 y] (wDoV 13 x y) ∧ pf (wDoV 13 x y) = true := by
  refine good_tree true 1000 20 rfl (fun ty k => t141_13 true ty x y k) (fun ty => ?_) rfl
  have hx := w32_isW x
  have hy := w32_isW y
  unfold wDoV
  generalize w32 x = a at *
  generalize w32 y = b at *
  have hx' := isW_iff.1 hx
  have hy' := isW_iff.1 hy
  have e : wDo 13 a b = if a = b then 1 else 0 := rfl
  simp only [bc_ltB, bc_nltB, bc_eqB, bc_neqB]
  rw [e]
  by_cases h : a = b
  · simp only [h, if_true]; first | rfl | (refine w_congr ?_ rfl; first | rfl | exact w32_small (.inl rfl) | exact w32_small (.inr rfl))
  · simp only [h, if_false]; first | rfl | (refine w_congr ?_ rfl; first | rfl | exact w32_small (.inl rfl) | exact w32_small (.inr rfl))
theorem a141_14 (x y : Int) : Good 141 [.int .i64 14, .int .i64 x, .int .i64 y] (wDoV 14 x y) ∧ pf (wDoV 14 x y) = true := by
  refine good_tree true 1000 20 rfl (fun ty k => t141_14 true ty x y k) (fun ty => ?_) rfl
  have hx := w32_isW x
  have hy := w32_isW y
  unfold wDoV
  generalize w32 x = a at *
  generalize w32 y = b at *
  have hx' := isW_iff.1 hx
  have hy' := isW_iff.1 hy
  have e : wDo 14 a b = if a = b then 0 else 1 := rfl
  simp only [bc_ltB, bc_nltB, bc_eqB, bc_neqB]
  rw [e]
  by_cases h : a = b
  · simp only [h, if_true]; first | rfl | (refine w_congr ?_ rfl; first | rfl | exact w32_small (.inl rfl) | exact w32_small (.inr rfl))
  · simp only [h, if_false]; first | rfl | (refine w_congr ?_ rfl; first | rfl | exact w32_small (.inl rfl) | exact w32_small (.inr rfl))
theorem a141_p (n : Nat) (x y : Int) : Good 141 [.int .i64 (.ofNat (n + 15)), .int .i64 x, .int .i64 y] (wDoV (.ofNat (n + 15)) x y) ∧ pf (wDoV (.ofNat (n + 15)) x y) = true := by
  refine good_tree true 1000 20 rfl (fun ty k => t141_p true ty n x y k) (fun ty => ?_) rfl
  unfold wDoV
  rw [wDo_p, wErr_p]
theorem a141_n (n : Nat) (x y : Int) : Good 141 [.int .i64 (.negSucc n), .int .i64 x, .int .i64 y] (wDoV (.negSucc n) x y) ∧ pf (wDoV (.negSucc n) x y) = true := by
  refine good_tree true 1000 20 rfl (fun ty k => t141_n true ty n x y k) (fun ty => ?_) rfl
  unfold wDoV
  rw [wDo_n, wErr_n]
theorem a141 : Ans3 encI encI encI 141 wDoV := fun op x y => by
  match op with
  | .ofNat 0 => exact a141_0 x y
  | .ofNat 1 => exact a141_1 x y
  | .ofNat 2 => exact a141_2 x y
  | .ofNat 3 => exact a141_3 x y
  | .ofNat 4 => exact a141_4 x y
  | .ofNat 5 => exact a141_5 x y
  | .ofNat 6 => exact a141_6 x y
  | .ofNat 7 => exact a141_7 x y
  | .ofNat 8 => exact a141_8 x y
  | .ofNat 9 => exact a141_9 x y
  | .ofNat 10 => exact a141_10 x y
  | .ofNat 11 => exact a141_11 x y
  | .ofNat 12 => exact a141_12 x y
  | .ofNat 13 => exact a141_13 x y
  | .ofNat 14 => exact a141_14 x y
  | .ofNat (n + 15) => exact a141_p n x y
  | .negSucc n => exact a141_n n x y
def e141 : Ent := mk3 encI encI encI 141 _ a141

theorem a43_0 (x y : Int) : Good 43 [.int .i64 0, .int .i64 x, .int .i64 y] (wDoV 0 x y) ∧ pf (wDoV 0 x y) = true := by
  refine good_tree true 1000 20 rfl (fun ty k => t43_0 true ty x y k) (fun ty => ?_) rfl
  have hx := w32_isW x
  have hy := w32_isW y
  unfold wDoV
  generalize w32 x = a at *
  generalize w32 y = b at *
  have hx' := isW_iff.1 hx
  have hy' := isW_iff.1 hy
  rfl
theorem a43_1 (x y : Int) : Good 43 [.int .i64 1, .int .i64 x, .int .i64 y] (wDoV 1 x y) ∧ pf (wDoV 1 x y) = true := by
  refine good_tree true 1000 20 rfl (fun ty k => t43_1 true ty x y k) (fun ty => ?_) rfl
  have hx := w32_isW x
  have hy := w32_isW y
  unfold wDoV
  generalize w32 x = a at *
  generalize w32 y = b at *
  have hx' := isW_iff.1 hx
  have hy' := isW_iff.1 hy
  rw [wr_id (by simp only [add_eq, sub_eq]; omega)]; rfl
theorem a43_2 (x y : Int) : Good 43 [.int .i64 2, .int .i64 x, .int .i64 y] (wDoV 2 x y) ∧ pf (wDoV 2 x y) = true := by
  refine good_tree true 1000 20 rfl (fun ty k => t43_2 true ty x y k) (fun ty => ?_) rfl
  have hx := w32_isW x
  have hy := w32_isW y
  unfold wDoV
  generalize w32 x = a at *
  generalize w32 y = b at *
  have hx' := isW_iff.1 hx
  have hy' := isW_iff.1 hy
  rw [wr_id (by simp only [add_eq, sub_eq]; omega)]; rfl
theorem a43_3 (x y : Int) : Good 43 [.int .i64 3, .int .i64 x, .int .i64 y] (wDoV 3 x y) ∧ pf (wDoV 3 x y) = true := by
  refine good_tree true 1000 20 rfl (fun ty k => t43_3 true ty x y k) (fun ty => ?_) rfl
  have hx := w32_isW x
  have hy := w32_isW y
  unfold wDoV
  generalize w32 x = a at *
  generalize w32 y = b at *
  have hx' := isW_iff.1 hx
  have hy' := isW_iff.1 hy
  have hm := mul_bound hx'.1 hx'.2 hy'.1 hy'.2
  rw [wr_id (by simp only [mul_eq]; omega)]; rfl
theorem a43_4 (x y : Int) : Good 43 [.int .i64 4, .int .i64 x, .int .i64 y] (wDoV 4 x y) ∧ pf (wDoV 4 x y) = true := by
  refine good_tree true 1000 20 rfl (fun ty k => t43_4 true ty x y k) (fun ty => ?_) rfl
  have hx := w32_isW x
  have hy := w32_isW y
  unfold wDoV
  generalize w32 x = a at *
  generalize w32 y = b at *
  have hx' := isW_iff.1 hx
  have hy' := isW_iff.1 hy
  have hd := tdiv_bound (b := b) hx'.1 hx'.2
  have e : wDo 4 a b = if b = 0 then 0 else w32 (a.tdiv b) := rfl
  simp only [bc_eqB, bc_neqB, sealI_eq]
  rw [e]
  by_cases h : b = 0
  · simp only [h, if_true]; rfl
  · simp only [h, if_false]
    rw [wr_id (by omega)]; rfl
theorem a43_5 (x y : Int) : Good 43 [.int .i64 5, .int .i64 x, .int .i64 y] (wDoV 5 x y) ∧ pf (wDoV 5 x y) = true := by
  refine good_tree true 1000 20 rfl (fun ty k => t43_5 true ty x y k) (fun ty => ?_) rfl
  have hx := w32_isW x
  have hy := w32_isW y
  unfold wDoV
  generalize w32 x = a at *
  generalize w32 y = b at *
  have hx' := isW_iff.1 hx
  have hy' := isW_iff.1 hy
  have e : wDo 5 a b = if b = 0 then 0 else w32 (a.tmod b) := rfl
  simp only [bc_eqB, bc_neqB, sealI_eq]
  rw [e]
  by_cases h : b = 0
  · simp only [h, if_true]; rfl
  · simp only [h, if_false]; rfl
theorem a43_6 (x y : Int) : Good 43 [.int .i64 6, .int .i64 x, .int .i64 y] (wDoV 6 x y) ∧ pf (wDoV 6 x y) = true := by
  refine good_tree true 1000 20 rfl (fun ty k => t43_6 true ty x y k) (fun ty => ?_) rfl
  have hx := w32_isW x
  have hy := w32_isW y
  unfold wDoV
  generalize w32 x = a at *
  generalize w32 y = b at *
  have hx' := isW_iff.1 hx
  have hy' := isW_iff.1 hy
  simp only [sealI_eq]; rfl
theorem a43_7 (x y : Int) : Good 43 [.int .i64 7, .int .i64 x, .int .i64 y] (wDoV 7 x y) ∧ pf (wDoV 7 x y) = true := by
  refine good_tree true 1000 20 rfl (fun ty k => t43_7 true ty x y k) (fun ty => ?_) rfl
  have hx := w32_isW x
  have hy := w32_isW y
  unfold wDoV
  generalize w32 x = a at *
  generalize w32 y = b at *
  have hx' := isW_iff.1 hx
  have hy' := isW_iff.1 hy
  simp only [sealI_eq]; rfl
theorem a43_8 (x y : Int) : Good 43 [.int .i64 8, .int .i64 x, .int .i64 y] (wDoV 8 x y) ∧ pf (wDoV 8 x y) = true := by
  refine good_tree true 1000 20 rfl (fun ty k => t43_8 true ty x y k) (fun ty => ?_) rfl
  have hx := w32_isW x
  have hy := w32_isW y
  unfold wDoV
  generalize w32 x = a at *
  generalize w32 y = b at *
  have hx' := isW_iff.1 hx
  have hy' := isW_iff.1 hy
  simp only [sealI_eq]; rfl
theorem a43_9 (x y : Int) : Good 43 [.int .i64 9, .int .i64 x, .int .i64 y] (wDoV 9 x y) ∧ pf (wDoV 9 x y) = true := by
  refine good_tree true 1000 20 rfl (fun ty k => t43_9 true ty x y k) (fun ty => ?_) rfl
  have hx := w32_isW x
  have hy := w32_isW y
  unfold wDoV
  generalize w32 x = a at *
  generalize w32 y = b at *
  have hx' := isW_iff.1 hx
  have hy' := isW_iff.1 hy
  simp only [sealI_eq, and31, bc_ltB]
  have hb : 0 ≤ b % 32 ∧ b % 32 < 32 := by omega
  have hw : IntKind.wrap .u64 (b % 32) = b % 32 := wrapU_id (by omega) (by omega)
  try rw [hw]
  rw [if_neg (by omega), shl_word hx (by omega) (by omega)]; rfl
theorem a43_10 (x y : Int) : Good 43 [.int .i64 10, .int .i64 x, .int .i64 y] (wDoV 10 x y) ∧ pf (wDoV 10 x y) = true := by
  refine good_tree true 1000 20 rfl (fun ty k => t43_10 true ty x y k) (fun ty => ?_) rfl
  have hx := w32_isW x
  have hy := w32_isW y
  unfold wDoV
  generalize w32 x = a at *
  generalize w32 y = b at *
  have hx' := isW_iff.1 hx
  have hy' := isW_iff.1 hy
  simp only [sealI_eq, and31, bc_ltB]
  have hb : 0 ≤ b % 32 ∧ b % 32 < 32 := by omega
  have hw : IntKind.wrap .u64 (b % 32) = b % 32 := wrapU_id (by omega) (by omega)
  try rw [hw]
  rw [if_neg (by omega), shrI_eq (by omega) (by omega)]; rfl
theorem a43_11 (x y : Int) : Good 43 [.int .i64 11, .int .i64 x, .int .i64 y] (wDoV 11 x y) ∧ pf (wDoV 11 x y) = true := by
  refine good_tree true 1000 20 rfl (fun ty k => t43_11 true ty x y k) (fun ty => ?_) rfl
  have hx := w32_isW x
  have hy := w32_isW y
  unfold wDoV
  generalize w32 x = a at *
  generalize w32 y = b at *
  have hx' := isW_iff.1 hx
  have hy' := isW_iff.1 hy
  have e : wDo 11 a b = if a < b then 1 else 0 := rfl
  simp only [bc_ltB, bc_nltB, bc_eqB, bc_neqB]
  rw [e]
  by_cases h : a < b
  · simp only [h, if_true]; first | rfl | (refine w_congr ?_ rfl; first | rfl | exact w32_small (.inl rfl) | exact w32_small (.inr rfl))
  · simp only [h, if_false]; first | rfl | (refine w_congr ?_ rfl; first | rfl | exact w32_small (.inl rfl) | exact w32_small (.inr rfl))
theorem a43_12 (x y : Int) : Good 43 [.int .i64 12, .int .i64 x, .int .i64 y] (wDoV 12 x y) ∧ pf (wDoV 12 x y) = true := by
  refine good_tree true 1000 20 rfl (fun ty k => t43_12 true ty x y k) (fun ty => ?_) rfl
  have hx := w32_isW x
  have hy := w32_isW y
  unfold wDoV
  generalize w32 x = a at *
  generalize w32 y = b at *
  have hx' := isW_iff.1 hx
  have hy' := isW_iff.1 hy
  have e : wDo 12 a b = if a ≤ b then 1 else 0 := rfl
  simp only [bc_ltB, bc_nltB, bc_eqB, bc_neqB]
  rw [e]
  by_cases h : a ≤ b
  · simp only [h, if_true]; first | rfl | (refine w_congr ?_ rfl; first | rfl | exact w32_small (.inl rfl) | exact w32_small (.inr rfl))
  · simp only [h, if_false]; first | rfl | (refine w_congr ?_ rfl; first | rfl | exact w32_small (.inl rfl) | exact w32_small (.inr rfl))
theorem a43_13 (x y : Int) : Good 43 [.int .i64 13, .int .i64 x, .int .i64 y] (wDoV 13 x y) ∧ pf (wDoV 13 x y) = true := by
  refine good_tree true 1000 20 rfl (fun ty k => t43_13 true ty x y k) (fun ty => ?_) rfl
  have hx := w32_isW x
  have hy := w32_isW y
  unfold wDoV
  generalize w32 x = a at *
  generalize w32 y = b at *
  have hx' := isW_iff.1 hx
  have hy' := isW_iff.1 hy
  have e : wDo 13 a b = if a = b then 1 else 0 := rfl
  simp only [bc_ltB, bc_nltB, bc_eqB, bc_neqB]
  rw [e]
  by_cases h : a = b
  · simp only [h, if_true]; first | rfl | (refine w_congr ?_ rfl; first | rfl | exact w32_small (.inl rfl) | exact w32_small (.inr rfl))
  · simp only [h, if_false]; first | rfl | (refine w_congr ?_ rfl; first | rfl | exact w32_small (.inl rfl) | exact w32_small (.inr rfl))
theorem a43_14 (x y : Int) : Good 43 [.int .i64 14, .int .i64 x, .int .i64 y] (wDoV 14 x y) ∧ pf (wDoV 14 x y) = true := by
  refine good_tree true 1000 20 rfl (fun ty k => t43_14 true ty x y k) (fun ty => ?_) rfl
  have hx := w32_isW x
  have hy := w32_isW y
  unfold wDoV
  generalize w32 x = a at *
  generalize w32 y = b at *
  have hx' := isW_iff.1 hx
  have hy' := isW_iff.1 hy
  have e : wDo 14 a b = if a = b then 0 else 1 := rfl
  simp only [bc_ltB, bc_nltB, bc_eqB, bc_neqB]
  rw [e]
  by_cases h : a = b
  · simp only [h, if_true]; first | rfl | (refine w_congr ?_ rfl; first | rfl | exact w32_small (.inl rfl) | exact w32_small (.inr rfl))
  · simp only [h, if_false]; first | rfl | (refine w_congr ?_ rfl; first | rfl | exact w32_small (.inl rfl) | exact w32_small (.inr rfl))
theorem a43_p (n : Nat) (x y : Int) : Good 43 [.int .i64 (.ofNat (n + 15)), .int .i64 x, .int .i64 y] (wDoV (.ofNat (n + 15)) x y) ∧ pf (wDoV (.ofNat (n + 15)) x y) = true := by
  refine good_tree true 1000 20 rfl (fun ty k => t43_p true ty n x y k) (fun ty => ?_) rfl
  unfold wDoV
  rw [wDo_p, wErr_p]
theorem a43_n (n : Nat) (x y : Int) : Good 43 [.int .i64 (.negSucc n), .int .i64 x, .int .i64 y] (wDoV (.negSucc n) x y) ∧ pf (wDoV (.negSucc n) x y) = true := by
  refine good_tree true 1000 20 rfl (fun ty k => t43_n true ty n x y k) (fun ty => ?_) rfl
  unfold wDoV
  rw [wDo_n, wErr_n]
theorem a43 : Ans3 encI encI encI 43 wDoV := fun op x y => by
  match op with
  | .ofNat 0 => exact a43_0 x y
  | .ofNat 1 => exact a43_1 x y
  | .ofNat 2 => exact a43_2 x y
  | .ofNat 3 => exact a43_3 x y
  | .ofNat 4 => exact a43_4 x y
  | .ofNat 5 => exact a43_5 x y
  | .ofNat 6 => exact a43_6 x y
  | .ofNat 7 => exact a43_7 x y
  | .ofNat 8 => exact a43_8 x y
  | .ofNat 9 => exact a43_9 x y
  | .ofNat 10 => exact a43_10 x y
  | .ofNat 11 => exact a43_11 x y
  | .ofNat 12 => exact a43_12 x y
  | .ofNat 13 => exact a43_13 x y
  | .ofNat 14 => exact a43_14 x y
  | .ofNat (n + 15) => exact a43_p n x y
  | .negSucc n => exact a43_n n x y
def e43 : Ent := mk3 encI encI encI 43 _ a43

end
end Go.Ev
namespace Go.Ev
open Go.Proofs

theorem t143 {R : Type} (q : Bool) (ty : Nat → TypeId) (x y : Int) (k : Value → Option R) : ansK ⟨plainT, q⟩ [] 1000 20 ty 143 [.int .i64 x, .int .i64 y] k =
    (bc (ltB (mnI y 30) 0) none (bc (ltB (mnI y 30) 0) none (k (.agg ⟨[(.int .i64 (sealI q (shlI .i64 1 (mnI y 30)))), (.int .i64 (sealI q (andI .i64 x (wrapF .i64 (Int.sub (sealI q (shlI .i64 1 (mnI y 30))) 1)))))]⟩)))) := by kernel_rfl

theorem t149 {R : Type} (q : Bool) (ty : Nat → TypeId) (x y : Int) (k : Value → Option R) : ansK ⟨plainT, q⟩ [] 1000 20 ty 149 [.int .i64 x, .int .i64 y] k =
    (bc (ltB (IntKind.wrap .u64 (mnI y 30)) 0) none (bc (eqB (sealI q (shlI .i64 1 (IntKind.wrap .u64 (mnI y 30)))) 0) none (bc (eqB (sealI q (shlI .i64 1 (IntKind.wrap .u64 (mnI y 30)))) 0) none (k (.agg ⟨[(.int .i64 (sealI q (shlI .i64 1 (IntKind.wrap .u64 (mnI y 30))))), (.int .i64 (sealI q (Int.tmod (wrapF .i64 (Int.add (sealI q (Int.tmod x (sealI q (shlI .i64 1 (IntKind.wrap .u64 (mnI y 30)))))) (sealI q (shlI .i64 1 (IntKind.wrap .u64 (mnI y 30)))))) (sealI q (shlI .i64 1 (IntKind.wrap .u64 (mnI y 30)))))))]⟩))))) := by kernel_rfl

theorem t142 {R : Type} (q : Bool) (ty : Nat → TypeId) (a : Rs) (k : Value → Option R) : ansK ⟨plainT, q⟩ [e153] 1000 20 ty 142 [rsV a] k =
    (bc (eqB (Rs.m a) 0) (k (.int .i64 32)) (k (.int .i64 (tzU (IntKind.wrap .u64 (Rs.m a)))))) := by kernel_rfl

end Go.Ev
namespace Go.Ev
open Go.Proofs

def nn (_ y : Int) : Bool := decide (0 ≤ y)
theorem nn_iff {x y : Int} : nn x y = true ↔ 0 ≤ y := by simp [nn]
/-- The residue of a number modulo 2^k, k at most 30. -/
def lowS (x y : Int) : Rs := ⟨2 ^ (min y 30).toNat, x % 2 ^ (min y 30).toNat⟩
/-- How many bits of a residue are known. -/
def widS (a : Rs) : Int := if a.m = 0 then 32 else tzU (IntKind.wrap .u64 a.m)

theorem rs_congr {m r m' r' : Int} (h : m = m') (h' : r = r') : some (Value.agg ⟨[.int .i64 m, .int .i64 r]⟩) = some (rsV ⟨m', r'⟩) := by rw [h, h']; rfl
theorem shl_one {k : Nat} (h : k ≤ 30) : shlI .i64 1 (k : Int) = 2 ^ k := by
  rw [shl_word rfl (by omega) (by omega), Int.toNat_natCast, Int.one_mul]
theorem pow_pos' (k : Nat) : (0 : Int) < 2 ^ k := by
  have : (2 : Int) ^ k = ((2 ^ k : Nat) : Int) := by simp
  have h := Nat.two_pow_pos k
  rw [this]; omega

theorem tmod_low (x : Int) {m : Int} (hm : 0 < m) : (x.tmod m + m).tmod m = x % m := by
  have h1 : 0 ≤ x.tmod m + m := by
    have := Int.lt_tmod_of_pos x hm
    omega
  rw [Int.tmod_eq_emod_of_nonneg h1, Int.add_emod_right]
  rw [Int.tmod_eq_emod]
  split
  · simp
  · rw [Int.sub_emod]
    have : (m.natAbs : Int) = m := by omega
    rw [this]; simp

noncomputable section
theorem a143 : Ans2p encI encI 143 nn (fun x y => rsV (lowS x y)) := fun x y h => by
  rw [nn_iff] at h
  refine good_tree true 1000 20 rfl (fun ty k => t143 true ty x y k) (fun ty => ?_) rfl
  show _ = some (rsV (lowS x y))
  simp only [bc_ltB, sealI_eq, mnI_eq, sub_eq]
  obtain ⟨k, hk⟩ := Int.eq_ofNat_of_zero_le (show 0 ≤ min y 30 by omega)
  have hk' : k ≤ 30 := by omega
  unfold lowS
  rw [hk, if_neg (by omega), if_neg (by omega), shl_one hk', Int.toNat_natCast]
  have hb := pow_le30 hk'
  refine rs_congr rfl ?_
  rw [wr_id (by omega), andI_mask x k (by omega)]
def e143 : Ent := mk2p encI encI 143 _ _ a143

theorem a149 : Ans2p encI encI 149 nn (fun x y => rsV (lowS x y)) := fun x y h => by
  rw [nn_iff] at h
  refine good_tree true 1000 20 rfl (fun ty k => t149 true ty x y k) (fun ty => ?_) rfl
  show _ = some (rsV (lowS x y))
  simp only [bc_ltB, bc_eqB, sealI_eq, mnI_eq, add_eq]
  obtain ⟨k, hk⟩ := Int.eq_ofNat_of_zero_le (show 0 ≤ min y 30 by omega)
  have hk' : k ≤ 30 := by omega
  unfold lowS
  have hb := pow_le30 hk'
  have hw : IntKind.wrap .u64 (k : Int) = k := wrapU_id (by omega) (by omega)
  rw [hk, hw, if_neg (by omega), shl_one hk', Int.toNat_natCast, if_neg (by omega), if_neg (by omega)]
  refine rs_congr rfl ?_
  have h1 := Int.lt_tmod_of_pos x (pow_pos' k)
  have h2 := Int.tmod_lt_of_pos x (pow_pos' k)
  rw [wr_id (by omega)]
  exact tmod_low x (pow_pos' k)
def e149 : Ent := mk2p encI encI 149 _ _ a149

theorem a142 : Ans1 encRs 142 (fun a => .int .i64 (widS a)) := fun a => by
  refine good_tree true 1000 20 rfl (fun ty k => t142 true ty a k) (fun ty => ?_) rfl
  show _ = some (Value.int .i64 (widS a))
  unfold widS
  rw [bc_eqB]
  split <;> rfl
def e142 : Ent := mk1 encRs 142 _ a142
end

theorem fixR_cases (a : Rs) : ((fixR a).m = -1 ∧ (fixR a).r = 0) ∨ ((fixR a).m = 0 ∧ -2147483648 ≤ (fixR a).r ∧ (fixR a).r ≤ 2147483647) ∨ (P2 (fixR a).m ∧ 0 ≤ (fixR a).r ∧ (fixR a).r < (fixR a).m) := by
  by_cases h : validR a
  · rw [fixR_of h]; exact h
  · rw [fixR_not h]; exact .inr (.inr ⟨⟨0, by omega, rfl⟩, by decide, by decide⟩)
theorem fixR_fix (a : Rs) : fixR (fixR a) = fixR a := fixR_of (fixR_cases a)
theorem fixR_eta (a : Rs) : fixR (Rs.mk (Rs.m (fixR a)) (Rs.r (fixR a))) = fixR a := fixR_fix a
theorem fixR_bound (a : Rs) : (-1 ≤ (fixR a).m ∧ (fixR a).m ≤ 1073741824) ∧ -2147483648 ≤ (fixR a).r ∧ (fixR a).r ≤ 2147483647 := by
  rcases fixR_cases a with h | h | ⟨h, h1, h2⟩
  · omega
  · omega
  · have := P2_iff.1 h
    omega

/-- Has a residue a word? -/
def hasR (a : Rs) (n : Int) : Bool := decide ((-2147483648 ≤ n ∧ n ≤ 2147483647) ∧ (fixR a).m ≠ -1 ∧ (if (fixR a).m = 0 then n = (fixR a).r else (n - (fixR a).r) % (fixR a).m = 0))
def leqR (a b : Rs) : Bool := decide ((fixR a).m = -1 ∨ ((fixR b).m ≠ -1 ∧ (if (fixR b).m = 0 then (fixR a).m = 0 ∧ (fixR a).r = (fixR b).r else ((fixR a).m = 0 ∨ (fixR b).m ≤ (fixR a).m) ∧ ((fixR a).r - (fixR b).r) % (fixR b).m = 0)))

theorem tmod_zero (x m : Int) : x.tmod m = 0 ↔ x % m = 0 := by
  rw [← Int.dvd_iff_tmod_eq_zero, ← Int.dvd_iff_emod_eq_zero]

theorem P2_pos {m : Int} (h : P2 m) : 1 ≤ m ∧ m ≤ 1073741824 := ⟨(P2_iff.1 h).1, (P2_iff.1 h).2.1⟩

noncomputable section
theorem a69 : Ans2 encRs encI 69 (fun a n => .bool (hasR a n)) := fun a n => by
  refine good_tree true 1000 20 rfl (fun ty k => t69 true ty a n k) (fun ty => ?_) rfl
  show _ = some (Value.bool (hasR a n))
  have hA := fixR_cases a
  have hB := fixR_bound a
  unfold hasR
  generalize fixR a = A at *
  obtain ⟨m, r⟩ := A
  simp only [] at hA hB
  have hw : w32 n = n ↔ -2147483648 ≤ n ∧ n ≤ 2147483647 := by unfold w32; omega
  have hp : P2 m → 1 ≤ m := fun h => (P2_pos h).1
  simp only [bc_isW, bc_nltB, bc_ltB, bc_eqB, bc_neqB, bc_eqIs2, bc_neqIs2, sealI_eq, mnI_eq, mxI_eq, add_eq, sub_eq, mul_eq, hw]
  by_cases hn : -2147483648 ≤ n ∧ n ≤ 2147483647
  · try rw [wr_id (show -9223372036854775808 ≤ n - r ∧ n - r ≤ 9223372036854775807 by omega)]
    simp only [tmod_zero, hn, and_self, if_true, true_and]
    by_cases h1 : m = -1
    · have hr : r = 0 := by
        rcases hA with h | h | h
        · exact h.2
        · omega
        · have := hp h.1; omega
      subst h1 hr; simp
    · by_cases h0 : m = 0
      · subst h0
        by_cases e : n = r <;> simp [e]
      · by_cases e : (n - r) % m = 0 <;> simp [e, h0, h1]
  · simp [hn]
def e69 : Ent := mk2 encRs encI 69 _ a69

theorem a94 : Ans2 encRs encI 94 (fun a n => .bool (hasR a n)) := fun a n => by
  refine good_tree true 1000 20 rfl (fun ty k => t94 true ty a n k) (fun ty => ?_) rfl
  show _ = some (Value.bool (hasR a n))
  have hA := fixR_cases a
  have hB := fixR_bound a
  unfold hasR
  generalize fixR a = A at *
  obtain ⟨m, r⟩ := A
  simp only [] at hA hB
  have hw : w32 n = n ↔ -2147483648 ≤ n ∧ n ≤ 2147483647 := by unfold w32; omega
  have hp : P2 m → 1 ≤ m := fun h => (P2_pos h).1
  simp only [bc_isW, bc_nltB, bc_ltB, bc_eqB, bc_neqB, bc_eqIs2, bc_neqIs2, sealI_eq, mnI_eq, mxI_eq, add_eq, sub_eq, mul_eq, hw]
  by_cases hn : -2147483648 ≤ n ∧ n ≤ 2147483647
  · try rw [wr_id (show -9223372036854775808 ≤ n - r ∧ n - r ≤ 9223372036854775807 by omega)]
    simp only [tmod_zero, hn, and_self, if_true, true_and]
    by_cases h1 : m = -1
    · have hr : r = 0 := by
        rcases hA with h | h | h
        · exact h.2
        · omega
        · have := hp h.1; omega
      subst h1 hr; simp
    · by_cases h0 : m = 0
      · subst h0
        by_cases e : n = r <;> simp [e]
      · by_cases e : (n - r) % m = 0 <;> simp [e, h0, h1]
  · simp [hn]
def e94 : Ent := mk2 encRs encI 94 _ a94

theorem a82 : Ans2 encRs encRs 82 (fun a b => .bool (leqR a b)) := fun a b => by
  refine good_tree true 1000 20 rfl (fun ty k => t82 true ty a b k) (fun ty => ?_) rfl
  show _ = some (Value.bool (leqR a b))
  have hA := fixR_cases a
  have hB := fixR_cases b
  have hA' := fixR_bound a
  have hB' := fixR_bound b
  unfold leqR
  simp only [fixR_eta]
  generalize fixR a = A at *
  generalize fixR b = B at *
  obtain ⟨m, r⟩ := A
  obtain ⟨m', r'⟩ := B
  simp only [] at hA hB hA' hB'
  have hp : ∀ m, P2 m → 1 ≤ m := fun m h => (P2_pos h).1
  simp only [bc_isW, bc_nltB, bc_ltB, bc_eqB, bc_neqB, bc_eqIs2, bc_neqIs2, sealI_eq, mnI_eq, mxI_eq, add_eq, sub_eq, mul_eq]
  try rw [wr_id (show -9223372036854775808 ≤ r - r' ∧ r - r' ≤ 9223372036854775807 by omega)]
  simp only [tmod_zero]
  have hA2 : (m = -1 ∧ r = 0) ∨ (m = 0) ∨ (1 ≤ m) := by
    rcases hA with h | h | h
    · exact .inl h
    · exact .inr (.inl h.1)
    · exact .inr (.inr (hp m h.1))
  have hB2 : (m' = -1 ∧ r' = 0) ∨ (m' = 0) ∨ (1 ≤ m') := by
    rcases hB with h | h | h
    · exact .inl h
    · exact .inr (.inl h.1)
    · exact .inr (.inr (hp m' h.1))
  clear hA hB hp
  by_cases e : (r - r') % m' = 0
  · simp only [e, eq_self_iff_true, if_true, and_true]
    repeat' split
    all_goals first | rfl | (exfalso; omega) | (refine some_bool (Eq.symm ?_); simp only [decide_eq_true_iff, decide_eq_false_iff_not]; simp [*] <;> omega)
  · simp only [e, if_false, and_false]
    repeat' split
    all_goals first | rfl | (exfalso; omega) | (refine some_bool (Eq.symm ?_); simp only [decide_eq_true_iff, decide_eq_false_iff_not]; simp [*] <;> omega)
def e82 : Ent := mk2 encRs encRs 82 _ a82

theorem a84 : Ans2 encRs encRs 84 (fun a b => .bool (leqR a b)) := fun a b => by
  refine good_tree true 1000 20 rfl (fun ty k => t84 true ty a b k) (fun ty => ?_) rfl
  show _ = some (Value.bool (leqR a b))
  have hA := fixR_cases a
  have hB := fixR_cases b
  have hA' := fixR_bound a
  have hB' := fixR_bound b
  unfold leqR
  simp only [fixR_eta]
  generalize fixR a = A at *
  generalize fixR b = B at *
  obtain ⟨m, r⟩ := A
  obtain ⟨m', r'⟩ := B
  simp only [] at hA hB hA' hB'
  have hp : ∀ m, P2 m → 1 ≤ m := fun m h => (P2_pos h).1
  simp only [bc_isW, bc_nltB, bc_ltB, bc_eqB, bc_neqB, bc_eqIs2, bc_neqIs2, sealI_eq, mnI_eq, mxI_eq, add_eq, sub_eq, mul_eq]
  try rw [wr_id (show -9223372036854775808 ≤ r - r' ∧ r - r' ≤ 9223372036854775807 by omega)]
  simp only [tmod_zero]
  have hA2 : (m = -1 ∧ r = 0) ∨ (m = 0) ∨ (1 ≤ m) := by
    rcases hA with h | h | h
    · exact .inl h
    · exact .inr (.inl h.1)
    · exact .inr (.inr (hp m h.1))
  have hB2 : (m' = -1 ∧ r' = 0) ∨ (m' = 0) ∨ (1 ≤ m') := by
    rcases hB with h | h | h
    · exact .inl h
    · exact .inr (.inl h.1)
    · exact .inr (.inr (hp m' h.1))
  clear hA hB hp
  by_cases e : (r - r') % m' = 0
  · simp only [e, eq_self_iff_true, if_true, and_true]
    repeat' split
    all_goals first | rfl | (exfalso; omega) | (refine some_bool (Eq.symm ?_); simp only [decide_eq_true_iff, decide_eq_false_iff_not]; simp [*] <;> omega)
  · simp only [e, if_false, and_false]
    repeat' split
    all_goals first | rfl | (exfalso; omega) | (refine some_bool (Eq.symm ?_); simp only [decide_eq_true_iff, decide_eq_false_iff_not]; simp [*] <;> omega)
def e84 : Ent := mk2 encRs encRs 84 _ a84

end
end Go.Ev
