/-
  The row of ValueRaw, lifted.
-/
import Derived.Test.YthhpebcihfcajaaGreatDoorVaF
import Derived.Test.YthhpebcihfcajaaGreatDoorSeE
import Derived.Carry
import Derived.ChangeSame
set_option linter.unusedVariables false
set_option linter.unusedSimpArgs false
namespace Go.Ev
open Go.Proofs Go.Proofs.YthhpebcihfcajaaGreatDoor Go.RowKit Go.ChangeShapes Go.WideShapes

/-- A good answer, from any world in which the package-level variables lie. -/
theorem Good.calls {f : FuncId} {args : List Value} {v : Value} (h : Good f args v) {W : World} (G : Ground W) : Calls Tryz.prog f ⟨args⟩ W fun e w' => e = .returned v ∧ Below W.heap.size W w' :=
  h G.ty W (tabB G.tab) G.rel

theorem laid_ok : laidOutB Tryz.prog = true := by kernel_rfl
theorem rec67 : Tryz.prog.readableRec 67 = true := by kernel_rfl
theorem lt67 : 67 < Tryz.prog.types.size := by
  have h : Nat.ble (Nat.succ 67) Tryz.prog.types.size = true := by kernel_rfl
  exact ble_iff.1 h
theorem own_ok : ownKnob Tryz.prog.godebug = none := by kernel_rfl

set_option maxRecDepth 100000 in
theorem raw_lifted (os : Os) (started : os.Started) (H : Type) (enc : TypeId × Value → H) :
    ReturnsInHanded {} Tryz.checked os 6 .any (fun w args => (Rows.valueRawSpec.pre enc Tryz.prog Tryz.f6 [] false w args ∧ laidMet Tryz.prog seatLaid w) ∧ sizedMet enc Tryz.prog Tryz.f6 (OpenSpec.ofChange Rows.valueRawSpec) false w args)
      (Rows.valueRawSpec.post enc Tryz.prog Tryz.f6 false true false false) := by
  refine returnsIn_shaped (C := Tryz.checked) (X := fun w _ => laidMet Tryz.prog seatLaid w) (fun _ _ _ hh h => h.of_heap hh) own_ok started (by kernel_rfl) Tryz.func6
    (ChangeSpec.witness_shaped (enc := enc) (C := Tryz.checked) (os := os) (X := fun w _ => laidMet Tryz.prog seatLaid w) false (World.doorLaid Tryz.prog 34 os) #[.int .i64 0, vlV noneV, vlV noneV, .int .i64 0] 8 rfl (World.shaped_of_RefB (by kernel_rfl) (by kernel_rfl)) (by kernel_rfl) (by kernel_rfl) (by kernel_rfl) (door_met os _)) ?_
  intro W base args ds gs before hsh hval0 hW hL
  have hval : ∀ (j : Nat) t v, Tryz.f6.params[j]? = some t → args[j]? = some v → Value.okWide Tryz.prog W .any base t v := hval0
  have hW' := hW
  obtain ⟨p, q, hA0, hV, rfl, hfz, hnd⟩ := hW
  have hA : DataW.TrodAll enc Tryz.prog W 0 (fun _ => true) true Tryz.f6.params.toList args.toList ds p := hA0
  rw [Tryz.params6] at hA hval
  obtain ⟨v0, v1, v2, v3, d0, d1, d2, d3, p0, p1, p2, p3, rfl, rfl, rfl, h0, h1, h2, h3⟩ := trodAll_four hA
  obtain ⟨rfl, rfl⟩ := trodVars_none hV
  obtain ⟨op, rfl, rfl, rfl, w0⟩ := open_int Tryz.underlying3 (hval 0 3 v0 rfl rfl) h0
  obtain ⟨n, rfl, rfl, rfl, w3⟩ := open_int Tryz.underlying3 (hval 3 3 v3 rfl rfl) h3
  obtain ⟨a1, a2, a3, a4, rfl, rfl, -, -, -, -⟩ := open_value (hval 1 67 v1 rfl rfl) h1
  obtain ⟨b1, b2, b3, b4, rfl, rfl, -, -, -, -⟩ := open_value (hval 2 67 v2 rfl rfl) h2
  obtain ⟨G⟩ := ground_of hsh hL
  clear hA0 hval0
  have hc := (a6 op ⟨⟨a1, a2⟩, ⟨a3, a4⟩⟩ ⟨⟨b1, b2⟩, ⟨b3, b4⟩⟩ n).1.calls G
  refine hc.mono fun e W' hx => ?_
  obtain ⟨he, hb⟩ := hx
  subst he
  have t1 := Below.trod laid_ok rec67 lt67 h1 hb (fun x hx => by cases hx)
  have t2 := Below.trod laid_ok rec67 lt67 h2 hb (fun x hx => by cases hx)
  refine ⟨_, rfl, _, _, _, [], [] ++ ([] ++ ([] ++ [])), [], hW', ?_, ?_, rfl, hb.frame _, fun h => by cases h⟩
  · rw [show Tryz.f6.resultTypes = #[4] from rfl]
    exact trodAll_mk1 (shut_bool Tryz.underlying4 _)
  · rw [Tryz.params6]
    exact trodAll_mk4 (shut_int Tryz.underlying3 w0) t1 t2 (shut_int Tryz.underlying3 w3)
end Go.Ev
