/-
  The frame of the row.
-/
import Derived.Test.YthhpebcihfcajaaGreatDoorSeD
import Derived.LaidMore
set_option linter.unusedVariables false
set_option linter.unusedSimpArgs false
namespace Go.Ev
open Go.Proofs Go.Proofs.YthhpebcihfcajaaGreatDoor Go.RowKit Go.ChangeShapes Go.WideShapes

theorem door_met (os : Os) (args : Array Value) : laidMet Tryz.prog seatLaid ((World.doorLaid Tryz.prog 34 os).forCall (fun _ _ => 0) ⟨#[], args, []⟩).memory :=
  laidMet_of_run' 8 (by kernel_rfl) (by kernel_rfl)

theorem array4 {α : Type} {a : Array α} (h : a.size = 4) : ∃ x y z u, a = #[x, y, z, u] := by
  obtain ⟨l⟩ := a
  match l, h with
  | [x, y, z, u], _ => exact ⟨x, y, z, u, rfl⟩

theorem k67 : Tryz.prog.cellsOf 67 = 4 := by kernel_rfl
theorem k63 : Tryz.prog.cellsOf 63 = 2 := by kernel_rfl
theorem k65 : Tryz.prog.cellsOf 65 = 2 := by kernel_rfl
theorem k3 : Tryz.prog.cellsOf 3 = 1 := by kernel_rfl

section
variable {H : Type} {enc : TypeId × Value → H} {W : World} {spare : Nat → Bool} {held : Bool}

set_option maxRecDepth 100000 in
/-- A struct of an interval and a residue: four numbers. -/
theorem open_value {b0 : Nat} {v : Value} {d : DataW H} {p : List MemPlace} (hv : Value.okWide Tryz.prog W .any b0 67 v) (h : DataW.Trod enc Tryz.prog W 0 spare held 67 v d p) :
    ∃ lo hi m r : Int, v = .agg #[.int .i64 lo, .int .i64 hi, .int .i64 m, .int .i64 r] ∧ p = [] ∧
      (Lit.int .i64 lo).wf = true ∧ (Lit.int .i64 hi).wf = true ∧ (Lit.int .i64 m).wf = true ∧ (Lit.int .i64 r).wf = true := by
  obtain ⟨cs, rfl, hsz⟩ := okWide_struct Tryz.underlying67 hv
  obtain ⟨x, y, z, u, rfl⟩ := array4 (hsz.trans k67)
  obtain ⟨fuel, hf⟩ := h
  obtain ⟨y0, y1, n, hx, -, h0, h1⟩ := trod_struct2 Tryz.underlying67 hf
  simp only [k63, k65] at h0 h1
  obtain ⟨a0, a1, n1, hy0, -, h2, h3⟩ := trod_struct2 Tryz.underlying63 h0
  obtain ⟨a2, a3, n2, hy1, -, h4, h5⟩ := trod_struct2 Tryz.underlying65 h1
  simp only [k3] at h2 h3 h4 h5
  obtain ⟨i0, e0, rfl, w0⟩ := DataW.trod_int Tryz.underlying3 h2
  obtain ⟨i1, e1, rfl, w1⟩ := DataW.trod_int Tryz.underlying3 h3
  obtain ⟨i2, e2, rfl, w2⟩ := DataW.trod_int Tryz.underlying3 h4
  obtain ⟨i3, e3, rfl, w3⟩ := DataW.trod_int Tryz.underlying3 h5
  have e0' : x = .int .i64 i0 := List.singleton_inj.1 e0
  have e1' : y = .int .i64 i1 := List.singleton_inj.1 e1
  have e2' : z = .int .i64 i2 := List.singleton_inj.1 e2
  have e3' : u = .int .i64 i3 := List.singleton_inj.1 e3
  subst e0' e1' e2' e3'
  subst hy0 hy1
  obtain ⟨-, hp⟩ := Prod.mk.inj hx
  exact ⟨i0, i1, i2, i3, rfl, by simpa using hp, w0, w1, w2, w3⟩
end
end Go.Ev
