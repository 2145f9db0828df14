/-
  The row of ValueSound, lifted.
-/
import Derived.Test.YthhpebcihfcajaaGreatDoorSdB
import Derived.Test.YthhpebcihfcajaaGreatDoorRwA
import Derived.OpenShut
set_option linter.unusedVariables false
set_option linter.unusedSimpArgs false
namespace Go.Ev
open Go.Proofs Go.Proofs.YthhpebcihfcajaaGreatDoor Go.RowKit Go.ChangeShapes Go.WideShapes

theorem rec88 : Tryz.prog.readableRec 88 = true := by kernel_rfl
theorem lt88 : 88 < Tryz.prog.types.size := by
  have h : Nat.ble (Nat.succ 88) Tryz.prog.types.size = true := by kernel_rfl
  exact ble_iff.1 h
theorem k88 : Tryz.prog.cellsOf 88 = 2 := by kernel_rfl

theorem array2 {α : Type} {a : Array α} (h : a.size = 2) : ∃ x y, a = #[x, y] := by
  obtain ⟨l⟩ := a
  match l, h with
  | [x, y], _ => exact ⟨x, y, rfl⟩
theorem list2 {α : Type} {l : List α} (h : l.length = 2) : ∃ x y, l = [x, y] := by
  match l, h with
  | [x, y], _ => exact ⟨x, y, rfl⟩

section
variable {H : Type} {enc : TypeId × Value → H} {W : World} {spare : Nat → Bool} {held : Bool}

theorem okWide_array' {P : Program} {w : World} {r : Reach} {base n : Nat} {t e : TypeId} {v : Value} (ht : P.underlying t = some (.array n e)) (h : Value.okWide P w r base t v) : ∃ cs, v = .agg cs ∧ cs.size = P.cellsOf t := by
  simp only [Value.okWide, ht] at h
  obtain ⟨cs, h1, h2, _⟩ := h
  exact ⟨cs, h1, h2⟩

set_option maxRecDepth 100000 in
/-- An array of two bytes. -/
theorem open_bytes {b0 : Nat} {v : Value} {d : DataW H} {p : List MemPlace} (hv : Value.okWide Tryz.prog W .any b0 88 v) (h : DataW.Trod enc Tryz.prog W 0 spare held 88 v d p) :
    ∃ x y : Int, v = .agg #[.int .u8 x, .int .u8 y] ∧ p = [] ∧ (Lit.int .u8 x).wf = true ∧ (Lit.int .u8 y).wf = true := by
  obtain ⟨cs, rfl, hsz⟩ := okWide_array' Tryz.underlying88 hv
  obtain ⟨x, y, rfl⟩ := array2 (hsz.trans k88)
  obtain ⟨fuel, hf⟩ := h
  obtain ⟨xs, m, -, hx, -, hn, hi⟩ := DataW.trod_array Tryz.underlying88 hf
  obtain ⟨z0, z1, rfl⟩ := list2 hn
  have h0 := hi 0 (by decide)
  have h1 := hi 1 (by decide)
  rw [k5] at h0 h1
  obtain ⟨i0, e0, f0, w0⟩ := DataW.trod_int Tryz.underlying5 (h0.trans rfl)
  obtain ⟨i1, e1, f1, w1⟩ := DataW.trod_int Tryz.underlying5 (h1.trans rfl)
  have e0' : x = .int .u8 i0 := List.singleton_inj.1 e0
  have e1' : y = .int .u8 i1 := List.singleton_inj.1 e1
  subst e0' e1' f0 f1
  obtain ⟨-, hp⟩ := Prod.mk.inj hx
  exact ⟨i0, i1, rfl, by simpa using hp, w0, w1⟩
end
theorem byte_of {n : Int} (h : (Lit.int .u8 n).wf = true) : byte n := by
  simp [Lit.wf, IntKind.min, IntKind.max, IntKind.signed, IntKind.bits] at h
  unfold byte; omega
theorem word_of {n : Int} (h : (Lit.int .i32 n).wf = true) : word n := by
  simp [Lit.wf, IntKind.min, IntKind.max, IntKind.signed, IntKind.bits] at h
  unfold word; omega

section
variable {H : Type} {enc : TypeId × Value → H} {P : Program} {w : World} {base : Nat} {spare : Nat → Bool} {held : Bool}
theorem trodAll_seven {t0 t1 t2 t3 t4 t5 t6 : TypeId} {args : Array Value} {ds : List (DataW H)} {ps : List MemPlace} (h : DataW.TrodAll enc P w base spare held [t0, t1, t2, t3, t4, t5, t6] args.toList ds ps) :
    ∃ v0 v1 v2 v3 v4 v5 v6 d0 d1 d2 d3 d4 d5 d6 p0 p1 p2 p3 p4 p5 p6, args = #[v0, v1, v2, v3, v4, v5, v6] ∧ ds = [d0, d1, d2, d3, d4, d5, d6] ∧ ps = p0 ++ (p1 ++ (p2 ++ (p3 ++ (p4 ++ (p5 ++ (p6 ++ [])))))) ∧
      DataW.Trod enc P w base spare held t0 v0 d0 p0 ∧ DataW.Trod enc P w base spare held t1 v1 d1 p1 ∧ DataW.Trod enc P w base spare held t2 v2 d2 p2 ∧ DataW.Trod enc P w base spare held t3 v3 d3 p3 ∧
      DataW.Trod enc P w base spare held t4 v4 d4 p4 ∧ DataW.Trod enc P w base spare held t5 v5 d5 p5 ∧ DataW.Trod enc P w base spare held t6 v6 d6 p6 := by
  obtain ⟨l⟩ := args
  obtain ⟨v0, l0, d0, m0, p0, q0, rfl, rfl, rfl, h0, h⟩ := trodAll_cons h
  obtain ⟨v1, l1, d1, m1, p1, q1, rfl, rfl, rfl, h1, h⟩ := trodAll_cons h
  obtain ⟨v2, l2, d2, m2, p2, q2, rfl, rfl, rfl, h2, h⟩ := trodAll_cons h
  obtain ⟨v3, l3, d3, m3, p3, q3, rfl, rfl, rfl, h3, h⟩ := trodAll_cons h
  obtain ⟨v4, l4, d4, m4, p4, q4, rfl, rfl, rfl, h4, h⟩ := trodAll_cons h
  obtain ⟨v5, l5, d5, m5, p5, q5, rfl, rfl, rfl, h5, h⟩ := trodAll_cons h
  obtain ⟨v6, l6, d6, m6, p6, q6, rfl, rfl, rfl, h6, h⟩ := trodAll_cons h
  obtain ⟨rfl, rfl, rfl⟩ := trodAll_nil h
  exact ⟨v0, v1, v2, v3, v4, v5, v6, d0, d1, d2, d3, d4, d5, d6, p0, p1, p2, p3, p4, p5, p6, rfl, rfl, rfl, h0, h1, h2, h3, h4, h5, h6⟩
end

def byte0 : Value := .int .u8 0
def word0 : Value := .int .i32 0
def pair0 : Value := .agg #[.int .u8 0, .int .u8 0]

set_option maxRecDepth 100000 in
theorem sound_lifted (os : Os) (started : os.Started) (H : Type) (enc : TypeId × Value → H) :
    ReturnsInHanded {} Tryz.checked os 7 .any (fun w args => (Rows.valueSoundSpec.pre enc Tryz.prog Tryz.f7 [] false w args ∧ laidMet Tryz.prog seatLaid w) ∧ sizedMet enc Tryz.prog Tryz.f7 (OpenSpec.ofChange Rows.valueSoundSpec) false w args)
      (Rows.valueSoundSpec.post enc Tryz.prog Tryz.f7 false true false false) := by
  refine returnsIn_shaped (C := Tryz.checked) (X := fun w _ => laidMet Tryz.prog seatLaid w) (fun _ _ _ hh h => h.of_heap hh) own_ok started (by kernel_rfl) Tryz.func7
    (ChangeSpec.witness_shaped (enc := enc) (C := Tryz.checked) (os := os) (X := fun w _ => laidMet Tryz.prog seatLaid w) false (World.doorLaid Tryz.prog 34 os) #[byte0, word0, word0, pair0, pair0, byte0, byte0] 8 rfl (World.shaped_of_RefB (by kernel_rfl) (by kernel_rfl)) (by kernel_rfl) (by kernel_rfl) (by kernel_rfl) (door_met os _)) ?_
  intro W base args ds gs before hsh hval0 hW hL
  have hval : ∀ (j : Nat) t v, Tryz.f7.params[j]? = some t → args[j]? = some v → Value.okWide Tryz.prog W .any base t v := hval0
  have hW' := hW
  obtain ⟨p, q, hA0, hV, rfl, hfz, hnd⟩ := hW
  have hA : DataW.TrodAll enc Tryz.prog W 0 (fun _ => true) true Tryz.f7.params.toList args.toList ds p := hA0
  rw [Tryz.params7] at hA hval
  obtain ⟨v0, v1, v2, v3, v4, v5, v6, d0, d1, d2, d3, d4, d5, d6, p0, p1, p2, p3, p4, p5, p6, rfl, rfl, rfl, h0, h1, h2, h3, h4, h5, h6⟩ := trodAll_seven hA
  obtain ⟨rfl, rfl⟩ := trodVars_none hV
  obtain ⟨op, rfl, rfl, rfl, w0⟩ := open_int Tryz.underlying5 (hval 0 5 v0 rfl rfl) h0
  obtain ⟨a, rfl, rfl, rfl, w1⟩ := open_int Tryz.underlying21 (hval 1 21 v1 rfl rfl) h1
  obtain ⟨b, rfl, rfl, rfl, w2⟩ := open_int Tryz.underlying21 (hval 2 21 v2 rfl rfl) h2
  obtain ⟨n0, n1, rfl, rfl, w3, w3'⟩ := open_bytes (hval 3 88 v3 rfl rfl) h3
  obtain ⟨c0, c1, rfl, rfl, w4, w4'⟩ := open_bytes (hval 4 88 v4 rfl rfl) h4
  obtain ⟨i, rfl, rfl, rfl, w5⟩ := open_int Tryz.underlying5 (hval 5 5 v5 rfl rfl) h5
  obtain ⟨j, rfl, rfl, rfl, w6⟩ := open_int Tryz.underlying5 (hval 6 5 v6 rfl rfl) h6
  obtain ⟨G⟩ := ground_of hsh hL
  clear hA0 hval0
  have hc := (a7 (byte_of w0) (word_of w1) (word_of w2) (byte_of w3) (byte_of w3') (byte_of w4) (byte_of w4') (byte_of w5) (byte_of w6)).1.calls G
  refine hc.mono fun e W' hx => ?_
  obtain ⟨he, hb⟩ := hx
  subst he
  have t3 := Below.trod laid_ok rec88 lt88 h3 hb (fun x hx => by cases hx)
  have t4 := Below.trod laid_ok rec88 lt88 h4 hb (fun x hx => by cases hx)
  refine ⟨_, rfl, _, _, _, [], [] ++ ([] ++ ([] ++ ([] ++ ([] ++ ([] ++ []))))), [], hW', ?_, ?_, rfl, hb.frame _, fun h => by cases h⟩
  · rw [show Tryz.f7.resultTypes = #[4] from rfl]
    exact trodAll_mk1 (shut_bool Tryz.underlying4 _)
  · rw [Tryz.params7]
    exact trodAll_cons_mk (shut_int Tryz.underlying5 w0) (trodAll_cons_mk (shut_int Tryz.underlying21 w1) (trodAll_cons_mk (shut_int Tryz.underlying21 w2) (trodAll_cons_mk t3 (trodAll_mk3 t4 (shut_int Tryz.underlying5 w5) (shut_int Tryz.underlying5 w6)))))
end Go.Ev
