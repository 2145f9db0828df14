/-
  The program: what the evaluator asks of it.
-/
import Derived.Test.YthhpebcihfcajaaGreatDoorSeA
import Derived.Test.YthhpebcihfcajaaGreatDoorEvC
set_option linter.unusedVariables false
set_option linter.unusedSimpArgs false
namespace Go.Ev
open Go.Proofs

noncomputable def tiOk (i : TI) : Bool :=
  bc (@Option.rec TypeDesc (fun _ => Bool) false (fun _ => true) i.und) (@Option.rec Value (fun _ => Bool) false (fun z => Nat.beq z.cells.size i.size) i.zero) false
theorem types_ok : allB tiOk (Tryz.prog.types.toList.map (mkTI Tryz.prog)) = true := by kernel_rfl
theorem names_ok : allB (fun fn : Func => !(fn.name == "runtime.NumGoroutine")) Tryz.prog.funcs.toList = true := by kernel_rfl
theorem code_ok : allB (funcOk Tryz.prog.globals.size) Tryz.prog.funcs.toList = true := by kernel_rfl
theorem mixed_ok : Tryz.prog.follows .mixedOrders = true := by kernel_rfl
end Go.Ev
