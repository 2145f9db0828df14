/-
  The program: what the evaluator asks of it holds; the first heap; a table of answers, and the evaluator over it; structs of plain numbers.
-/
import Derived.Test.YthhpebcihfcajaaGreatDoorSeC
import Derived.ClosedOfChecked
import Derived.Test.YthhpebcihfcajaaGreatDoorSeB
import Derived.Test.YthhpebcihfcajaaGreatDoorRows
import Derived.ProofKit
import Derived.LaidLaws
import Derived.Handed
import Derived.OpenShut
import Derived.Test.YthhpebcihfcajaaGreatDoorEvC
set_option linter.unusedVariables false
set_option linter.unusedSimpArgs false
namespace Go.Ev
open Go.Proofs

theorem mkEnv_types (P : Program) (l : List (Nat × ExtK)) : (mkEnv P l).types = T.ofList (P.types.toList.map (mkTI P)) := rfl
theorem mkEnv_P (P : Program) (l : List (Nat × ExtK)) : (mkEnv P l).P = P := rfl
theorem mkEnv_funcs (P : Program) (l : List (Nat × ExtK)) : (mkEnv P l).funcs = T.ofList P.funcs.toList := rfl
theorem mkEnv_ext (P : Program) (l : List (Nat × ExtK)) : (mkEnv P l).ext = l := rfl
theorem E0_types : E0.types = T.ofList (Tryz.prog.types.toList.map (mkTI Tryz.prog)) := by unfold E0; exact mkEnv_types _ _
theorem E0_P : E0.P = Tryz.prog := by unfold E0; exact mkEnv_P _ _
theorem E0_funcs : E0.funcs = T.ofList Tryz.prog.funcs.toList := by unfold E0; exact mkEnv_funcs _ _
theorem E0_ext : E0.ext = [(329, .noZero 5), (315, .noEscape)] := by unfold E0; exact mkEnv_ext _ _
theorem info_of_lt {P : Program} {t : TypeId} (h : t < P.types.size) : P.info? t = P.types[t]? := by
  unfold Tables.info?
  rw [if_pos h]

theorem env_types (t : Nat) (i : TI) (h : E0.types.get t = some i) : ∃ info, Tryz.prog.info? t = some info ∧ i = mkTI Tryz.prog info ∧ tiOk i = true := by
  have h1 := h
  rw [E0_types, T.get_ofList] at h1
  have hok := (allB_iff _ _).1 types_ok i (List.mem_of_getElem? h1)
  rw [List.getElem?_map] at h1
  cases hq : Tryz.prog.types.toList[t]? with
  | none => rw [hq] at h1; cases h1
  | some info =>
    rw [hq] at h1
    have e : mkTI Tryz.prog info = i := by simpa using h1
    refine ⟨info, ?_, e.symm, hok⟩
    have hlt : t < Tryz.prog.types.size := by
      have := (List.getElem?_eq_some_iff.1 hq).1
      simpa using this
    rw [info_of_lt hlt]
    simpa using hq

theorem env_zeros (t : Nat) (i : TI) (h : E0.types.get t = some i) : ∃ z : Value, i.zero = some z ∧ z.cells.size = i.size := by
  obtain ⟨info, -, -, hok⟩ := env_types t i h
  unfold tiOk at hok
  rw [bc_eq] at hok
  split at hok
  · cases hz : i.zero with
    | none => rw [hz] at hok; cases hok
    | some z => rw [hz] at hok; exact ⟨z, rfl, beq_iff.1 hok⟩
  · cases hok

theorem env_und (t : Nat) (i : TI) (h : E0.types.get t = some i) : ∃ d, i.und = some d := by
  obtain ⟨info, -, -, hok⟩ := env_types t i h
  unfold tiOk at hok
  rw [bc_eq] at hok
  cases hd : i.und with
  | none => rw [hd] at hok; simp at hok
  | some d => exact ⟨d, rfl⟩

theorem ext315 : ∃ fn : Func, Tryz.prog.funcs[315]? = some fn ∧ fn.body.isNone = true ∧ Extern.findNext fn = none ∧ Extern.find fn = some Extern.AbiNoEscape.same :=
  ⟨Tryz.f315, Tryz.func315, by kernel_rfl, by kernel_rfl, by kernel_rfl⟩
theorem ext329 : ∃ fn : Func, Tryz.prog.funcs[329]? = some fn ∧ fn.body.isNone = true ∧ Extern.findNext fn = none ∧
    ∃ t, Extern.find fn = some (Extern.BytealgMakeNoZero.makeNoZero fn.params fn.resultTypes) ∧ fn.resultTypes[0]? = some t ∧ Tryz.prog.underlying t = some (.slice 5) :=
  ⟨Tryz.f329, Tryz.func329, by kernel_rfl, by kernel_rfl, 153, by kernel_rfl, by kernel_rfl, by kernel_rfl⟩

theorem envOK : EnvOK E0 where
  types t i h := by
    obtain ⟨info, h1, h2, -⟩ := env_types t i h
    rw [E0_P]
    exact ⟨info, h1, h2, env_und t i h⟩
  zeros := env_zeros
  funcs f := by
    rw [E0_P, E0_funcs, T.get_ofList, Array.getElem?_toList]
  names f fn h := by
    rw [E0_P] at h
    have h1 : Tryz.prog.funcs.toList[f]? = some fn := by rw [Array.getElem?_toList]; exact h
    have := (allB_iff _ _).1 names_ok fn (List.mem_of_getElem? h1)
    simpa using this
  ext g k h := by
    rw [E0_ext] at h
    rw [E0_P]
    have h' : (g, k) = (329, .noZero 5) ∨ (g, k) = (315, .noEscape) := by simpa using h
    rcases h' with h' | h'
    · obtain ⟨rfl, rfl⟩ := Prod.mk.inj h'; exact ext329
    · obtain ⟨rfl, rfl⟩ := Prod.mk.inj h'; exact ext315

theorem runOK : RunOK E0 where
  env := envOK
  mixed := by rw [E0_P]; exact mixed_ok
  code f fn h := by
    rw [E0_P] at h ⊢
    have h1 : Tryz.prog.funcs.toList[f]? = some fn := by rw [Array.getElem?_toList]; exact h
    exact (allB_iff _ _).1 code_ok fn (List.mem_of_getElem? h1)
end Go.Ev
namespace Go.Ev
open Go.Proofs Go.RowKit

abbrev Tab := Nat → Option (Loc × TypeId × List Value)
def tabB (tab : Tab) : Bt := fun id s => if s = none then (tab id).map (·.1) else none

/-- A first heap of objects that are never written. -/
theorem rel_of_tab {P : Program} {W : World} {σ : St} {tab : Tab}
    (htab : ∀ id l t cs, tab id = some (l, t, cs) → id < σ.next ∧ id ≠ 0 ∧ σ.heap.get id = some (roRow t cs) ∧ l.esz = P.cellsOf t ∧
      ∃ c fr, W.heap[l.blk]? = some (.cells c t fr) ∧ c.size = l.n + l.off ∧ cs.length ≤ l.n ∧ ∀ (j : Nat) (v : Value), cs[j]? = some v → ∃ v', c[j + l.off]? = some v' ∧ CR (tabB tab) v v')
    (hglob : ∀ g, g < P.globals.size → ∃ x, tab (g + 1) = some x ∧ x.1.blk = g ∧ x.1.off = 0) : Rel P W.heap.size W (tabB tab) σ W := by
  have hcase : ∀ id s l, tabB tab id s = some l → s = none ∧ ∃ t cs, tab id = some (l, t, cs) := by
    intro id s l h
    unfold tabB at h
    split at h
    · rename_i hs
      refine ⟨hs, ?_⟩
      cases hq : tab id with
      | none => rw [hq] at h; cases h
      | some x =>
        rw [hq] at h
        obtain ⟨l', t, cs⟩ := x
        obtain rfl : l' = l := by simpa using h
        exact ⟨t, cs, rfl⟩
    · cases h
  have hro : ∀ id s l o, tabB tab id s = some l → σ.heap.get id = some o → isRo o = true := by
    intro id s l o h ho
    obtain ⟨-, t, cs, hq⟩ := hcase id s l h
    have := (htab id l t cs hq).2.2.1
    rw [this] at ho
    obtain rfl : roRow t cs = o := by simpa using ho
    rfl
  refine ⟨Below.refl _ _, Nat.le_refl _, fun s => ?_, fun id s l h => ?_, fun id s l h => ?_, fun id s l id' s' l' o h1 h2 h3 h4 h5 => ?_, fun id e l l' h1 h2 => ?_, fun g hg => ?_, fun id s l o h1 h2 h3 => ?_⟩
  · cases hb : tabB tab 0 s with
    | none => rfl
    | some l =>
      obtain ⟨-, t, cs, hq⟩ := hcase 0 s l hb
      exact absurd rfl (htab 0 l t cs hq).2.1
  · obtain ⟨-, t, cs, hq⟩ := hcase id s l h
    obtain ⟨h1, -, -, -, c, fr, h2, -⟩ := htab id l t cs hq
    exact ⟨h1, (Array.getElem?_eq_some_iff.1 h2).1⟩
  · obtain ⟨rfl, t, cs, hq⟩ := hcase id s l h
    obtain ⟨h1, -, h2, h3, c, fr, h4, h5, h6, h7⟩ := htab id l t cs hq
    refine ⟨_, h2, ⟨⟨h3, Nat.le_refl _⟩, fun _ => ⟨c, fr, h4, h5, h6, fun _ e => (by cases e), fun j v _ hv => h7 j v hv, fun e => by cases e⟩⟩, fun e => by cases e⟩
  · have := hro id s l o h1 h4
    rw [h5] at this; cases this
  · obtain ⟨e', -⟩ := hcase id (some e) l' h2
    cases e'
  · obtain ⟨x, h1, h2, h3⟩ := hglob g hg
    refine ⟨x.1, ?_, h2, h3⟩
    unfold tabB
    rw [if_pos rfl, h1]
    rfl
  · have := hro id s l o h1 h2
    rw [h3] at this; cases this

/-- What a world's first blocks hold. -/
structure Ground (W : World) where
  ty : Nat → TypeId
  b : Nat
  off : Nat
  c3 : Array Value
  c6 : Array Value
  fr : Nat → Nat × Nat
  h0 : W.heap[0]? = some (.cells ⟨u8s deB64⟩ (ty 0) (fr 0))
  h1 : W.heap[1]? = some (.cells ⟨[.slice (some ⟨b, off, none⟩) 20 20]⟩ (ty 1) (fr 1))
  h2 : W.heap[2]? = some (.cells ⟨signs.map str⟩ (ty 2) (fr 2))
  h3 : W.heap[3]? = some (.cells c3 (ty 3) (fr 3))
  s3 : c3.size = 1
  h4 : W.heap[4]? = some (.cells ⟨u64s pow10⟩ (ty 4) (fr 4))
  h5 : W.heap[5]? = some (.cells ⟨u8s deB32⟩ (ty 5) (fr 5))
  h6 : W.heap[b]? = some (.cells c6 (ty 6) (fr 6))
  s6 : off + 20 ≤ c6.size
  w6 : ∀ (j : Nat) (v : Value), (words.map str)[j]? = some v → c6[j + off]? = some v

noncomputable def Ground.tab {W : World} (G : Ground W) : Tab
  | 1 => some (⟨0, 64, Tryz.prog.cellsOf (G.ty 0), 0⟩, G.ty 0, u8s deB64)
  | 2 => some (⟨1, 1, Tryz.prog.cellsOf (G.ty 1), 0⟩, G.ty 1, [.slice (some ⟨12, 0, none⟩) 20 20])
  | 3 => some (⟨2, 14, Tryz.prog.cellsOf (G.ty 2), 0⟩, G.ty 2, signs.map str)
  | 4 => some (⟨3, 1, Tryz.prog.cellsOf (G.ty 3), 0⟩, G.ty 3, [poison])
  | 5 => some (⟨4, 20, Tryz.prog.cellsOf (G.ty 4), 0⟩, G.ty 4, u64s pow10)
  | 6 => some (⟨5, 32, Tryz.prog.cellsOf (G.ty 5), 0⟩, G.ty 5, u8s deB32)
  | 12 => some (⟨G.b, G.c6.size - G.off, Tryz.prog.cellsOf (G.ty 6), G.off⟩, G.ty 6, words.map str)
  | _ => none

theorem plain_cells {β : Bt} {cs : List Value} (h : ∀ v ∈ cs, pf v = true) (j : Nat) (v : Value) (hv : cs[j]? = some v) : ∃ v', (⟨cs⟩ : Array Value)[j + 0]? = some v' ∧ CR β v v' :=
  ⟨v, by simpa using hv, .inr (.pf v (h v (List.mem_of_getElem? hv)))⟩

theorem u8s_pf (l : List Int) : ∀ v ∈ u8s l, pf v = true := by intro v hv; unfold u8s at hv; obtain ⟨n, -, rfl⟩ := List.mem_map.1 hv; rfl
theorem u64s_pf (l : List Int) : ∀ v ∈ u64s l, pf v = true := by intro v hv; unfold u64s at hv; obtain ⟨n, -, rfl⟩ := List.mem_map.1 hv; rfl
theorem strs_pf (l : List (List UInt8)) : ∀ v ∈ l.map str, pf v = true := by intro v hv; obtain ⟨n, -, rfl⟩ := List.mem_map.1 hv; rfl

theorem globals6 : Tryz.prog.globals.size = 6 := by kernel_rfl
theorem get1 (ty : Nat → TypeId) : (st0 ty).heap.get 1 = some (roRow (ty 0) (u8s deB64)) := by kernel_rfl
theorem get2 (ty : Nat → TypeId) : (st0 ty).heap.get 2 = some (roRow (ty 1) [.slice (some ⟨12, 0, none⟩) 20 20]) := by kernel_rfl
theorem get3 (ty : Nat → TypeId) : (st0 ty).heap.get 3 = some (roRow (ty 2) (signs.map str)) := by kernel_rfl
theorem get4 (ty : Nat → TypeId) : (st0 ty).heap.get 4 = some (roRow (ty 3) [poison]) := by kernel_rfl
theorem get5 (ty : Nat → TypeId) : (st0 ty).heap.get 5 = some (roRow (ty 4) (u64s pow10)) := by kernel_rfl
theorem get6 (ty : Nat → TypeId) : (st0 ty).heap.get 6 = some (roRow (ty 5) (u8s deB32)) := by kernel_rfl
theorem get12 (ty : Nat → TypeId) : (st0 ty).heap.get 12 = some (roRow (ty 6) (words.map str)) := by kernel_rfl

set_option maxRecDepth 100000 in
theorem Ground.rel {W : World} (G : Ground W) : Rel Tryz.prog W.heap.size W (tabB G.tab) (st0 G.ty) W := by
  refine rel_of_tab (fun id l t cs h => ?_) (fun g hg => ?_)
  · unfold Ground.tab at h
    split at h
    · cases h
      exact ⟨by show 1 < 13; omega, by omega, get1 _, rfl, _, _, G.h0, rfl, Nat.le_refl _, plain_cells (u8s_pf _)⟩
    · cases h
      refine ⟨by show 2 < 13; omega, by omega, get2 _, rfl, _, _, G.h1, rfl, Nat.le_refl _, fun j v hv => ?_⟩
      cases j with
      | succ j => simp at hv
      | zero =>
        obtain rfl : Value.slice (some ⟨12, 0, none⟩) 20 20 = v := by simpa using hv
        refine ⟨_, rfl, .inr ?_⟩
        have := VR.slice (β := tabB G.tab) ⟨12, 0, none⟩ ⟨G.b, G.c6.size - G.off, Tryz.prog.cellsOf (G.ty 6), G.off⟩ 20 20 20 rfl (Nat.le_refl _) (Nat.le_refl _) (fun e => by cases e)
        rw [show (⟨12, 0, none⟩ : Addr).off + (⟨G.b, G.c6.size - G.off, Tryz.prog.cellsOf (G.ty 6), G.off⟩ : Loc).off = G.off from Nat.zero_add _] at this
        exact this
    · cases h
      exact ⟨by show 3 < 13; omega, by omega, get3 _, rfl, _, _, G.h2, rfl, Nat.le_refl _, plain_cells (strs_pf _)⟩
    · cases h
      refine ⟨by show 4 < 13; omega, by omega, get4 _, rfl, _, _, G.h3, G.s3, Nat.le_refl _, fun j v hv => ?_⟩
      cases j with
      | succ j => simp at hv
      | zero =>
        obtain rfl : poison = v := by simpa using hv
        exact ⟨_, Array.getElem?_eq_getElem (by rw [G.s3]; exact Nat.one_pos), .inl rfl⟩
    · cases h
      exact ⟨by show 5 < 13; omega, by omega, get5 _, rfl, _, _, G.h4, rfl, Nat.le_refl _, plain_cells (u64s_pf _)⟩
    · cases h
      exact ⟨by show 6 < 13; omega, by omega, get6 _, rfl, _, _, G.h5, rfl, Nat.le_refl _, plain_cells (u8s_pf _)⟩
    · cases h
      refine ⟨by show 12 < 13; omega, by omega, get12 _, rfl, _, _, G.h6, ?_, ?_, fun j v hv => ⟨v, G.w6 j v hv, .inr (.pf v (strs_pf _ v (List.mem_of_getElem? hv)))⟩⟩
      · show G.c6.size = G.c6.size - G.off + G.off
        have := G.s6; omega
      · show 20 ≤ G.c6.size - G.off
        have := G.s6; omega
    · cases h
  · rw [globals6] at hg
    match g, hg with
    | 0, _ => exact ⟨_, rfl, rfl, rfl⟩
    | 1, _ => exact ⟨_, rfl, rfl, rfl⟩
    | 2, _ => exact ⟨_, rfl, rfl, rfl⟩
    | 3, _ => exact ⟨_, rfl, rfl, rfl⟩
    | 4, _ => exact ⟨_, rfl, rfl, rfl⟩
    | 5, _ => exact ⟨_, rfl, rfl, rfl⟩
    | n + 6, hg => omega

/-- 'awake' returns true, and changes nothing that was there. -/
theorem awake_calls {W : World} (G : Ground W) : Calls Tryz.prog 10 #[] W fun e w' => e = .returned (.bool true) ∧ Below W.heap.size W w' := by
  have hr := awake_runs G.ty
  cases hc : evCall E0 100000 200 10 [] (st0 G.ty) with
  | none => rw [hc] at hr; cases hr
  | some p =>
    obtain ⟨v, σ'⟩ := p
    rw [hc] at hr
    have hv : v = .bool true := by
      cases v with
      | bool b => have : b = true := hr; rw [this]
      | _ => cases hr
    subst hv
    have h := evCall_sound runOK 100000 200 10 [] (st0 G.ty) (.bool true) σ' hc W.heap.size W (tabB G.tab) W [] (by rw [E0_P]; exact G.rel) (by show 0 < 13; omega) (.nil _)
    rw [E0_P] at h
    refine Calls.mono h fun e w' he => ?_
    obtain ⟨v', rfl, -, β', -, hR, hV⟩ := he
    rw [hV.of_pf rfl]
    exact ⟨rfl, hR.below⟩

end Go.Ev
namespace Go.Ev
open Go.Proofs Go.RowKit

theorem var_heap {P : Program} {W : World} {name : String} {g : Nat} {cs : Array Value} (hg : P.globalNamed name = some g) (h : W.var? P name = some cs) : ∃ t fr, W.heap[g]? = some (.cells cs t fr) := by
  unfold World.var? at h
  rw [hg] at h
  simp only [Option.bind_some] at h
  split at h
  · rename_i c t fr he
    obtain rfl : c = cs := by simpa using h
    exact ⟨t, fr, he⟩
  · cases h

section
variable {P : Program} {W : World} {name : String} {g t n e : Nat} {ps : List MemPlace} {r : List (String × DataW Unit)} {ds : List (DataW Unit)}

theorem laid_arr (h : DataW.LaidVars P W ((name, .agg ds) :: r) ps) (hg : P.globalNamed name = some g) (ht : (P.globals[g]?).map (·.type) = some t) (hu : P.underlying t = some (.array n e)) (he : P.cellsOf e = 1) (hct : P.cellsOf t = n) :
    (∃ c t' fr, W.heap[g]? = some (.cells c t' fr) ∧ c.size = ds.length ∧ ∀ (i : Nat) (d : DataW Unit), ds[i]? = some d → ∃ x q m, c[i]? = some x ∧ DataW.trod (fun _ => ()) P W 0 (fun _ => true) false m e [x] = some (d, q)) ∧ ∃ q, DataW.LaidVars P W r q := by
  obtain ⟨g', t', cs, fuel, p, q, h1, h2, h3, h4, h5, -⟩ := h
  obtain rfl : g = g' := Option.some.inj (hg.symm.trans h1)
  obtain rfl : t = t' := Option.some.inj (ht.symm.trans h2)
  obtain ⟨t2, fr, h6⟩ := var_heap hg h3
  obtain ⟨xs, m, -, hx, hl, hn, hi⟩ := DataW.trod_array hu h4
  obtain ⟨hd, -⟩ := Prod.mk.inj hx
  have hd' : ds = xs.map (·.1) := by simpa using hd
  have hlen : ds.length = n := by rw [hd', List.length_map, hn]
  have hsz : cs.size = n := by rw [← Array.length_toList, hl, hct]
  refine ⟨⟨cs, t2, fr, h6, by omega, fun i d hid => ?_⟩, q, h5⟩
  have hin : i < n := by rw [← hlen]; exact (List.getElem?_eq_some_iff.1 hid).1
  have hxi := hi i hin
  rw [he, Nat.mul_one] at hxi
  have hci : i < cs.toList.length := by rw [Array.length_toList]; omega
  have hone : (cs.toList.drop i).take 1 = [cs.toList[i]] := by
    rw [List.drop_eq_getElem_cons hci]; rfl
  rw [hone] at hxi
  rw [hd', List.getElem?_map] at hid
  cases hq : xs[i]? with
  | none => rw [hq] at hid; cases hid
  | some y =>
    rw [hq] at hid hxi
    obtain rfl : y.1 = d := by simpa using hid
    exact ⟨cs.toList[i], y.2, m, by simp, hxi⟩

theorem arr_ints {k : IntKind} {l : List Int} {c : Array Value} (he : P.underlying e = some (.int k)) (hc : c.size = (l.map fun n => (DataW.lit (.int k n) : DataW Unit)).length)
    (h : ∀ (i : Nat) (d : DataW Unit), (l.map fun n => (DataW.lit (.int k n) : DataW Unit))[i]? = some d → ∃ x q m, c[i]? = some x ∧ DataW.trod (fun _ => ()) P W 0 (fun _ => true) false m e [x] = some (d, q)) :
    c = ⟨l.map fun n => .int k n⟩ := by
  apply Array.ext_getElem?
  intro i
  rw [List.length_map] at hc
  by_cases hi : i < l.length
  · obtain ⟨x, q, m, h1, h2⟩ := h i (.lit (.int k l[i])) (by rw [List.getElem?_map, List.getElem?_eq_getElem hi]; rfl)
    obtain ⟨s, hs, hx, -⟩ := DataW.trod_int he h2
    obtain ⟨hd, -⟩ := Prod.mk.inj hx
    have : l[i] = s := by simpa using hd
    have hxs : x = .int k s := by simpa using hs
    rw [h1, hxs, ← this]
    simp [hi]
  · rw [Array.getElem?_eq_none (by omega), Array.getElem?_eq_none (by simp; omega)]

theorem arr_strs {l : List (List UInt8)} {c : Array Value} (he : P.underlying e = some .string) (hc : c.size = (l.map fun n => (DataW.lit (.string n) : DataW Unit)).length)
    (h : ∀ (i : Nat) (d : DataW Unit), (l.map fun n => (DataW.lit (.string n) : DataW Unit))[i]? = some d → ∃ x q m, c[i]? = some x ∧ DataW.trod (fun _ => ()) P W 0 (fun _ => true) false m e [x] = some (d, q)) :
    c = ⟨l.map str⟩ := by
  apply Array.ext_getElem?
  intro i
  rw [List.length_map] at hc
  by_cases hi : i < l.length
  · obtain ⟨x, q, m, h1, h2⟩ := h i (.lit (.string l[i])) (by rw [List.getElem?_map, List.getElem?_eq_getElem hi]; rfl)
    obtain ⟨s, hs, hx, -⟩ := DataW.trod_string he h2
    obtain ⟨hd, -⟩ := Prod.mk.inj hx
    have : l[i] = s.data.toList := by simpa using hd
    have hxs : x = .string s := by simpa using hs
    rw [h1, hxs]
    simp only [List.getElem?_toArray, List.getElem?_map, List.getElem?_eq_getElem hi, Option.map_some, this, str]
  · rw [Array.getElem?_eq_none (by omega), Array.getElem?_eq_none (by simp; omega)]

theorem cells_one {w : World} {a : Addr} {l : List Value} (h : w.cells? 0 a 1 = some l) : ∃ x, l = [x] ∧ w.cell? a = some x := by
  unfold World.cells? at h
  rw [if_pos (Nat.zero_le _)] at h
  have e : a.add 0 = a := rfl
  simp only [List.range_one, List.mapM_cons, List.mapM_nil, e] at h
  cases hx : w.cell? a with
  | none => rw [hx] at h; cases h
  | some x =>
    rw [hx] at h
    exact ⟨x, by simpa using h.symm, rfl⟩

theorem cell_inv {w : World} {a : Addr} {x : Value} (h : w.cell? a = some x) : a.spot = none ∧ ∃ c t fr, w.heap[a.block]? = some (.cells c t fr) ∧ c[a.off]? = some x := by
  unfold World.cell? at h
  split at h
  · rename_i c t fr he
    split at h
    · cases h
    · rename_i hs
      exact ⟨by cases hh : a.spot <;> simp_all, c, t, fr, he, h⟩
  · cases h

theorem laid_slice (h : DataW.LaidVars P W ((name, .slice ds []) :: r) ps) (hg : P.globalNamed name = some g) (ht : (P.globals[g]?).map (·.type) = some t) (hu : P.underlying t = some (.slice e)) (he : P.cellsOf e = 1) (hpos : 0 < ds.length) :
    (∃ b off t1 fr1 c t2 fr2, W.heap[g]? = some (.cells ⟨[.slice (some ⟨b, off, none⟩) ds.length ds.length]⟩ t1 fr1) ∧ W.heap[b]? = some (.cells c t2 fr2) ∧ off + ds.length ≤ c.size ∧
      ∀ (i : Nat) (d : DataW Unit), ds[i]? = some d → ∃ x q m, c[i + off]? = some x ∧ DataW.trod (fun _ => ()) P W 0 (fun _ => true) false m e [x] = some (d, q)) ∧ ∃ q, DataW.LaidVars P W r q := by
  obtain ⟨g', t', cs, fuel, p, q, h1, h2, h3, h4, h5, -⟩ := h
  obtain rfl : g = g' := Option.some.inj (hg.symm.trans h1)
  obtain rfl : t = t' := Option.some.inj (ht.symm.trans h2)
  obtain ⟨t1, fr1, h6⟩ := var_heap hg h3
  rcases DataW.trod_slice hu h4 with ⟨-, hx⟩ | ⟨a, len, cap, elems, rest, m, -, hcs, hx, -, hlc, -, hlen, hel, hsp, -⟩
  · cases hx
  obtain ⟨hd, -⟩ := Prod.mk.inj hx
  have hd1 : ds = elems.map (·.1) ∧ [] = rest.map (·.1) := by simpa using hd
  have hrest : rest = [] := by have := hd1.2; simpa using this.symm
  have hcap : cap = len := by have := (hsp rfl).1; rw [hrest] at this; simp at this; omega
  have hdl : ds.length = len := by rw [hd1.1, List.length_map, hlen]
  have key : ∀ i, i < len → ∃ x y, elems[i]? = some y ∧ W.cell? (a.add i) = some x ∧ DataW.trod (fun _ => ()) P W 0 (fun _ => true) false m e [x] = some y := by
    intro i hi
    have h7 := hel i hi
    rw [he, Nat.mul_one, List.getElem?_eq_getElem (by omega : i < elems.length)] at h7
    cases hc : W.cells? 0 (a.add i) 1 with
    | none => rw [hc] at h7; cases h7
    | some l =>
      rw [hc] at h7
      obtain ⟨x, rfl, hx⟩ := cells_one hc
      exact ⟨x, _, List.getElem?_eq_getElem (by omega), hx, h7⟩
  obtain ⟨x0, y0, -, h8, -⟩ := key 0 (by omega)
  obtain ⟨hs, c, t2, fr2, h9, -⟩ := cell_inv (a := a) h8
  obtain ⟨b, off, sp⟩ := a
  have hs : sp = none := hs
  subst hs
  have hadd : ∀ i, (⟨b, off, none⟩ : Addr).add i = ⟨b, off + i, none⟩ := fun i => addr_add b off i
  have hcell : ∀ i x, W.cell? ((⟨b, off, none⟩ : Addr).add i) = some x → c[off + i]? = some x := by
    intro i x hx
    rw [hadd, cell_at h9] at hx
    exact hx
  refine ⟨⟨b, off, t1, fr1, c, t2, fr2, ?_, h9, ?_, fun i d hid => ?_⟩, q, h5⟩
  · rw [h6]
    obtain ⟨cl⟩ := cs
    have : cl = [.slice (some ⟨b, off, none⟩) len cap] := hcs
    rw [this, hcap, hdl]
  · obtain ⟨x, y, -, h10, -⟩ := key (len - 1) (by omega)
    have := (Array.getElem?_eq_some_iff.1 (hcell _ _ h10)).1
    omega
  · have hi : i < len := by rw [← hdl]; exact (List.getElem?_eq_some_iff.1 hid).1
    obtain ⟨x, y, h10, h11, h12⟩ := key i hi
    rw [hd1.1, List.getElem?_map, h10] at hid
    obtain rfl : y.1 = d := by simpa using hid
    exact ⟨x, y.2, m, by rw [Nat.add_comm]; exact hcell i x h11, h12⟩
end
end Go.Ev
namespace Go.Ev
open Go.Proofs Go.Proofs.YthhpebcihfcajaaGreatDoor Go.RowKit

def seatLaid : List (String × DataW Unit) := [("math/bits.deBruijn32tab", Rows.laid_math_bits_deBruijn32tab), ("math/bits.deBruijn64tab", Rows.laid_math_bits_deBruijn64tab), ("internal/strconv.uint64pow10", Rows.laid_internal_strconv_uint64pow10), ("timebound/tree.words", Rows.laid_timebound_tree_words), ("timebound/tree.signs", Rows.laid_timebound_tree_signs)]

theorem seatLaid_eq : seatLaid = [("math/bits.deBruijn32tab", .agg (deB32.map fun n => .lit (.int .u8 n))), ("math/bits.deBruijn64tab", .agg (deB64.map fun n => .lit (.int .u8 n))), ("internal/strconv.uint64pow10", .agg (pow10.map fun n => .lit (.int .u64 n))), ("timebound/tree.words", .slice (words.map fun s => .lit (.string s)) []), ("timebound/tree.signs", .agg (signs.map fun s => .lit (.string s)))] := by kernel_rfl

theorem row3 : (((begin Tryz.prog (fun _ _ => 0) default).world.heap[3]?).bind Obj.row?).map (fun x => (x.1.size, x.2)) = some (1, 3) := by kernel_rfl
theorem n0 : Tryz.prog.globalNamed "math/bits.deBruijn64tab" = some 0 := by kernel_rfl
theorem n1 : Tryz.prog.globalNamed "timebound/tree.words" = some 1 := by kernel_rfl
theorem n2 : Tryz.prog.globalNamed "timebound/tree.signs" = some 2 := by kernel_rfl
theorem n4 : Tryz.prog.globalNamed "internal/strconv.uint64pow10" = some 4 := by kernel_rfl
theorem n5 : Tryz.prog.globalNamed "math/bits.deBruijn32tab" = some 5 := by kernel_rfl
theorem t0 : (Tryz.prog.globals[0]?).map (·.type) = some 280 := by kernel_rfl
theorem t1 : (Tryz.prog.globals[1]?).map (·.type) = some 27 := by kernel_rfl
theorem t2 : (Tryz.prog.globals[2]?).map (·.type) = some 301 := by kernel_rfl
theorem t4 : (Tryz.prog.globals[4]?).map (·.type) = some 307 := by kernel_rfl
theorem t5 : (Tryz.prog.globals[5]?).map (·.type) = some 311 := by kernel_rfl
theorem k280 : Tryz.prog.cellsOf 280 = 64 := by kernel_rfl
theorem k301 : Tryz.prog.cellsOf 301 = 14 := by kernel_rfl
theorem k307 : Tryz.prog.cellsOf 307 = 20 := by kernel_rfl
theorem k311 : Tryz.prog.cellsOf 311 = 32 := by kernel_rfl
theorem k5 : Tryz.prog.cellsOf 5 = 1 := by kernel_rfl
theorem k9 : Tryz.prog.cellsOf 9 = 1 := by kernel_rfl
theorem k183 : Tryz.prog.cellsOf 183 = 1 := by kernel_rfl

theorem ground_of {W : World} (hs : W.ShapedOpen Tryz.prog) (h : laidMet Tryz.prog seatLaid W) : Nonempty (Ground W) := by
  rw [seatLaid_eq] at h
  obtain ⟨ps, h, -⟩ := h
  obtain ⟨⟨a5, y5, f5, g5, s5, e5⟩, q5, h⟩ := laid_arr h n5 t5 Tryz.underlying311 k5 k311
  obtain ⟨⟨a0, y0, f0, g0, s0, e0⟩, q0, h⟩ := laid_arr h n0 t0 Tryz.underlying280 k5 k280
  obtain ⟨⟨a4, y4, f4, g4, s4, e4⟩, q4, h⟩ := laid_arr h n4 t4 Tryz.underlying307 k183 k307
  obtain ⟨⟨b, off, y1, f1, a6, y6, f6, g1, g6, s6, e6⟩, q1, h⟩ := laid_slice h n1 t1 Tryz.underlying27 k9 (by decide)
  obtain ⟨⟨a2, y2, f2, g2, s2, e2⟩, q2, h⟩ := laid_arr h n2 t2 Tryz.underlying301 k9 k301
  obtain rfl := arr_ints Tryz.underlying5 s5 e5
  obtain rfl := arr_ints Tryz.underlying5 s0 e0
  obtain rfl := arr_ints Tryz.underlying183 s4 e4
  obtain rfl := arr_strs Tryz.underlying9 s2 e2
  have hr := row3
  cases hq : ((begin Tryz.prog (fun _ _ => 0) default).world.heap[3]?).bind Obj.row? with
  | none => rw [hq] at hr; cases hr
  | some x =>
    obtain ⟨zero, t⟩ := x
    rw [hq] at hr
    have hz : zero.size = 1 ∧ t = 3 := by simpa using hr
    obtain ⟨c3, g3, s3, -⟩ := hs.1 3 zero t (by rw [globals6]; omega) hq
    have hlen : (words.map fun s => (DataW.lit (.string s) : DataW Unit)).length = 20 := by decide
    rw [hlen] at g1 s6
    refine ⟨{ ty := fun i => [y0, y1, y2, t, y4, y5, y6].getD i 0, b := b, off := off, c3 := c3, c6 := a6, fr := fun i => [f0, f1, f2, (0, 0), f4, f5, f6].getD i (0, 0), h0 := g0, h1 := g1, h2 := g2, h3 := g3, s3 := by rw [s3, hz.1], h4 := g4, h5 := g5, h6 := g6, s6 := s6, w6 := fun j v hj => ?_ }⟩
    rw [List.getElem?_map] at hj
    cases hw : words[j]? with
    | none => rw [hw] at hj; cases hj
    | some s =>
      rw [hw] at hj
      have hv : str s = v := by simpa using hj
      obtain ⟨x, q, m, h1, h2⟩ := e6 j (.lit (.string s)) (by rw [List.getElem?_map, hw]; rfl)
      obtain ⟨s', hs', hx, -⟩ := DataW.trod_string Tryz.underlying9 h2
      obtain ⟨hd, -⟩ := Prod.mk.inj hx
      have e1 : s = s'.data.toList := by simpa using hd
      have e2 : x = .string s' := by simpa using hs'
      rw [h1, e2, ← hv, e1]
      rfl
end Go.Ev
namespace Go.Ev
open Go.RowKit

theorem returnsIn_shaped {H : Type} {enc : TypeId × Value → H} {a : Assume} {C : Checked} {os : Os} {f : FuncId} {fn : Func} {s : ChangeSpec} {conds : List PathCond} {apart fresh handsOn again : Bool} {X : World → Array Value → Prop}
    (hX : ∀ (w w' : World) (args : Array Value), w.heap = w'.heap → X w args → X w' args)
    (own : ownKnob C.prog.godebug = none) (started : os.Started) (noInit : C.prog.inits.idxOf? f = none) (hfn : C.prog.funcs[f]? = some fn)
    (witness : ∃ (w : World) (tape : Tape) (i : Input), w.os = os ∧ (w.forCall tape i).Shaped C.prog ∧ i.vars = [] ∧ Input.okWide C.prog (w.forCall tape i) .any w.heap.size f i ∧
      ((s.pre enc C.prog fn conds apart (w.forCall tape i).memory i.args ∧ X (w.forCall tape i).memory i.args) ∧ sizedMet enc C.prog fn (OpenSpec.ofChange s) apart (w.forCall tape i).memory i.args) ∧ a.holds C.prog (lone (Frame.enter C.prog f i.args .normal) [] (w.forCall tape i)))
    (contract : ∀ (W : World) (base : Nat) (args : Array Value) (ds gs : List (DataW H)) (before : List MemPlace), W.ShapedOpen C.prog →
      (∀ (j : Nat) t v, fn.params[j]? = some t → args[j]? = some v → Value.okWide C.prog W .any base t v) →
      DataW.Whole enc C.prog fn.params.toList s.vars apart W args.toList ds gs before → X W args →
      Calls C.prog f args W fun e W' => ∃ v, e = .returned v ∧ s.post enc C.prog fn apart fresh handsOn again W args v W') :
    ReturnsInHanded a C os f .any (fun w args => (s.pre enc C.prog fn conds apart w args ∧ X w args) ∧ sizedMet enc C.prog fn (OpenSpec.ofChange s) apart w args) (s.post enc C.prog fn apart fresh handsOn again) := by
  refine returnsInHanded_of_calls own started noInit witness ?_
  intro w tape i _ hsh _ hok hpre _
  obtain ⟨_, _, _, fn', hfn', _, _, _, _, hval⟩ := hok
  have e : fn' = fn := Option.some.inj (hfn'.symm.trans hfn)
  subst e
  obtain ⟨⟨⟨ds, gs, before, hw, _⟩, hx⟩, _⟩ := hpre
  have hw' := DataW.Whole.of_heap (w' := w.forCall tape i) (by rfl) hw
  refine (contract (w.forCall tape i) w.heap.size i.args ds gs before hsh hval hw' (hX _ _ _ (by rfl) hx)).mono fun e W' ⟨v, he, hp⟩ => ?_
  subst he
  exact ChangeSpec.post_blind hp
end Go.Ev
namespace Go.Ev
open Go.RowKit Go.Proofs

theorem Rel.keep {P : Program} {B : Nat} {W : World} {β : Bt} {σ : St} {w w' : World} (h : Rel P B W β σ w) (hb : Below w.heap.size w w') : Rel P B W β σ w' := by
  refine ⟨h.below.trans (hb.mono h.size), h.base, h.zero, fun id s l hl => ⟨(h.dom id s l hl).1, Nat.lt_of_lt_of_le (h.dom id s l hl).2 hb.size⟩, fun id s l hl => ?_, h.inj, h.kind, h.glob, h.flat⟩
  obtain ⟨o, h1, h2, h3⟩ := h.obj id s l hl
  have hk := hb.block l.blk (h.dom id s l hl).2
  refine ⟨o, h1, ?_, h3⟩
  cases o with
  | cells elem cs fl fz ro =>
    obtain ⟨h4, h5⟩ := h2
    refine ⟨h4, fun hv => ?_⟩
    obtain ⟨c, fr, r⟩ := h5 hv
    exact ⟨c, fr, by rw [hk]; exact r.at_, r.size, r.fits, r.whole, r.cell, r.free⟩
  | map es clock =>
    obtain ⟨es', h4, h5⟩ := h2
    exact ⟨es', by rw [hk]; exact h4, h5⟩

noncomputable section
/-- What the package-level variables' objects hold. -/
def gl : List (Nat × Nat × List Value) :=
  [(1, 0, u8s deB64), (2, 1, [.slice (some ⟨12, 0, none⟩) 20 20]), (3, 2, signs.map str), (4, 3, [poison]), (5, 4, u64s pow10), (6, 5, u8s deB32), (12, 6, words.map str)]

def sameC (x y : Value) : Bool := bc (isPoison x) true (sameS x y)
def sameCs (a : List Value) : List Value → Bool :=
  @List.rec Value (fun _ => List Value → Bool) (fun b => b.isEmpty) (fun x _ go b => @List.rec Value (fun _ => Bool) false (fun y s _ => bc (sameC x y) (go s) false) b) a
def objIs (cs : List Value) : LO → Bool
  | .cells _ cs' fl fz ro => bc ro (bc (Nat.beq fl 0) (bc (Nat.beq fz 0) (sameCs cs cs') false) false) false
  | .map _ _ => false
def gOk (σ : St) : Bool := bc (Nat.ble 13 σ.next) (allB (fun p => @Option.rec LO (fun _ => Bool) false (objIs p.2.2) (σ.heap.get p.1)) gl) false
end

theorem sameCs_spec : ∀ {a b : List Value}, sameCs a b = true → a.length = b.length ∧ ∀ (j : Nat) (x : Value), a[j]? = some x → isPoison x = true ∨ b[j]? = some x
  | [], b, h => by
    have h' : b.isEmpty = true := h
    have : b = [] := by simpa using h'
    subst this
    exact ⟨rfl, fun j x hx => by simp at hx⟩
  | x :: a, [], h => by cases h
  | x :: a, y :: b, h => by
    change bc (sameC x y) (sameCs a b) false = true at h
    rw [bc_eq] at h
    split at h
    · rename_i hxy
      obtain ⟨h1, h2⟩ := sameCs_spec h
      refine ⟨by simp [h1], fun j z hz => ?_⟩
      cases j with
      | zero =>
        obtain rfl : x = z := by simpa using hz
        unfold sameC at hxy
        rw [bc_eq] at hxy
        split at hxy
        · rename_i hp; exact .inl hp
        · rw [← sameS_eq hxy]; exact .inr rfl
      | succ j => simpa using h2 j z (by simpa using hz)
    · cases h

theorem gOk_obj {σ : St} (h : gOk σ = true) {p : Nat × Nat × List Value} (hp : p ∈ gl) : ∃ e cs', σ.heap.get p.1 = some (.cells e cs' 0 0 true) ∧ sameCs p.2.2 cs' = true := by
  unfold gOk at h
  rw [bc_eq] at h
  split at h
  · have h' := (allB_iff _ _).1 h p hp
    cases ho : σ.heap.get p.1 with
    | none => rw [ho] at h'; cases h'
    | some o =>
      rw [ho] at h'
      change objIs p.2.2 o = true at h'
      cases o with
      | map es c => cases h'
      | cells e cs' fl fz ro =>
        change bc ro (bc (Nat.beq fl 0) (bc (Nat.beq fz 0) (sameCs p.2.2 cs') false) false) false = true at h'
        rw [bc_eq] at h'
        split at h'
        · rename_i hr
          rw [bc_eq] at h'
          split at h'
          · rename_i hf
            rw [bc_eq] at h'
            split at h'
            · rename_i hz
              rw [beq_iff] at hf hz
              subst hf hz
              rw [hr]
              exact ⟨e, cs', rfl, h'⟩
            · cases h'
          · cases h'
        · cases h'
  · cases h

theorem gl_ids {p : Nat × Nat × List Value} (hp : p ∈ gl) : 0 < p.1 ∧ p.1 < 13 := by
  have : ∀ p ∈ gl, 0 < p.1 ∧ p.1 < 13 := by
    intro p hp
    simp only [gl, List.mem_cons, List.not_mem_nil, or_false] at hp
    rcases hp with rfl | rfl | rfl | rfl | rfl | rfl | rfl <;> exact ⟨by decide, by decide⟩
  exact this p hp

theorem st0_gl (ty : Nat → TypeId) {p : Nat × Nat × List Value} (hp : p ∈ gl) : (st0 ty).heap.get p.1 = some (roRow (ty p.2.1) p.2.2) := by
  simp only [gl, List.mem_cons, List.not_mem_nil, or_false] at hp
  rcases hp with rfl | rfl | rfl | rfl | rfl | rfl | rfl
  · exact get1 ty
  · exact get2 ty
  · exact get3 ty
  · exact get4 ty
  · exact get5 ty
  · exact get6 ty
  · exact get12 ty

/-- The cells of these objects: plain, unknown, or the view of the table of words. -/
theorem gl_cell {p : Nat × Nat × List Value} (hp : p ∈ gl) {v : Value} (hv : v ∈ p.2.2) : pf v = true ∨ isPoison v = true ∨ v = .slice (some ⟨12, 0, none⟩) 20 20 := by
  simp only [gl, List.mem_cons, List.not_mem_nil, or_false] at hp
  rcases hp with rfl | rfl | rfl | rfl | rfl | rfl | rfl
  · exact .inl (u8s_pf _ v hv)
  · simp only [List.mem_cons, List.not_mem_nil, or_false] at hv; exact .inr (.inr hv)
  · exact .inl (strs_pf _ v hv)
  · simp only [List.mem_cons, List.not_mem_nil, or_false] at hv; subst hv; exact .inr (.inl rfl)
  · exact .inl (u64s_pf _ v hv)
  · exact .inl (u8s_pf _ v hv)
  · exact .inl (strs_pf _ v hv)

def inGl (id : Nat) : Prop := ∃ p ∈ gl, p.1 = id
theorem gl_uniq {p q : Nat × Nat × List Value} (hp : p ∈ gl) (hq : q ∈ gl) (h : p.1 = q.1) : p = q := by
  simp only [gl, List.mem_cons, List.not_mem_nil, or_false] at hp hq
  rcases hp with rfl | rfl | rfl | rfl | rfl | rfl | rfl <;> rcases hq with rfl | rfl | rfl | rfl | rfl | rfl | rfl <;> first | rfl | (exfalso; revert h; decide)
theorem gl_uniq2 {p q : Nat × Nat × List Value} (hp : p ∈ gl) (hq : q ∈ gl) (h : p.2.1 = q.2.1) : p = q := by
  simp only [gl, List.mem_cons, List.not_mem_nil, or_false] at hp hq
  rcases hp with rfl | rfl | rfl | rfl | rfl | rfl | rfl <;> rcases hq with rfl | rfl | rfl | rfl | rfl | rfl | rfl <;> first | rfl | (exfalso; revert h; decide)

open Classical in
/-- Whatever else a state holds: the package-level variables alone are a first state, too. -/
theorem reground {B : Nat} {W : World} {β : Bt} {σ : St} {w : World} (h : Rel Tryz.prog B W β σ w) (hg : gOk σ = true) : ∃ ty β0, Rel Tryz.prog w.heap.size w β0 (st0 ty) w := by
  let elem (k : Nat) : TypeId := if h : ∃ e, ∃ p ∈ gl, p.2.1 = k ∧ ∃ cs', σ.heap.get p.1 = some (.cells e cs' 0 0 true) ∧ sameCs p.2.2 cs' = true then h.choose else 0
  have helem : ∀ p ∈ gl, ∃ cs', σ.heap.get p.1 = some (.cells (elem p.2.1) cs' 0 0 true) ∧ sameCs p.2.2 cs' = true := by
    intro p hp
    obtain ⟨e, cs', h1, h2⟩ := gOk_obj hg hp
    have hx : ∃ e, ∃ q ∈ gl, q.2.1 = p.2.1 ∧ ∃ cs', σ.heap.get q.1 = some (.cells e cs' 0 0 true) ∧ sameCs q.2.2 cs' = true := ⟨e, p, hp, rfl, cs', h1, h2⟩
    have he : elem p.2.1 = hx.choose := dif_pos hx
    obtain ⟨q, hq, hk, cs'', h3, h4⟩ := hx.choose_spec
    rw [gl_uniq2 hq hp hk] at h3 h4
    rw [he]
    exact ⟨cs'', h3, h4⟩
  let β0 : Bt := fun id s => if s = none ∧ inGl id then β id none else none
  have hβ : ∀ id s l, β0 id s = some l → s = none ∧ (∃ p ∈ gl, p.1 = id) ∧ β id none = some l := by
    intro id s l hl
    by_cases hc : s = none ∧ inGl id
    · rw [show β0 id s = β id none from if_pos hc] at hl
      exact ⟨hc.1, hc.2, hl⟩
    · rw [show β0 id s = none from if_neg hc] at hl; cases hl
  have hro : ∀ id s l o, β0 id s = some l → (st0 elem).heap.get id = some o → isRo o = true := by
    intro id s l o hl ho
    obtain ⟨-, ⟨p, hp, rfl⟩, -⟩ := hβ id s l hl
    rw [st0_gl elem hp] at ho
    obtain rfl := Option.some.inj ho
    rfl
  refine ⟨elem, β0, Below.refl _ _, Nat.le_refl _, fun s => ?_, fun id s l hl => ?_, fun id s l hl => ?_, fun id s l id' s' l' o h1 h2 h3 h4 h5 => ?_, fun id e l l' h1 h2 => ?_, fun g hgl => ?_, fun id s l o h1 h2 h3 => ?_⟩
  · by_cases hc : s = none ∧ inGl 0
    · obtain ⟨p, hp, h0⟩ := hc.2
      have := (gl_ids hp).1
      omega
    · exact if_neg hc
  · obtain ⟨-, ⟨p, hp, rfl⟩, hl'⟩ := hβ id s l hl
    exact ⟨(gl_ids hp).2, (h.dom _ _ _ hl').2⟩
  · obtain ⟨rfl, ⟨p, hp, rfl⟩, hl'⟩ := hβ id s l hl
    refine ⟨_, st0_gl elem hp, ?_, fun e => by cases e⟩
    obtain ⟨cs', h1, h2⟩ := helem p hp
    obtain ⟨hlen, hcell⟩ := sameCs_spec h2
    obtain ⟨o, h3, h4, -⟩ := h.obj _ _ _ hl'
    rw [h1] at h3
    obtain rfl := Option.some.inj h3
    obtain ⟨⟨h5, h6⟩, h7⟩ := h4
    refine ⟨⟨h5, Nat.le_refl _⟩, fun _ => ?_⟩
    obtain ⟨c, fr, r⟩ := h7 (fun _ e => by cases e)
    refine ⟨c, fr, r.at_, r.size, ?_, fun _ e => (by cases e), fun j v hj hv => ?_, fun e => (by cases e)⟩
    · have := r.fits
      show p.2.2.length ≤ l.n
      rw [hlen]; exact this
    · have hv' : p.2.2[j]? = some v := hv
      have hj' : j < cs'.length := by rw [← hlen]; exact hj
      rcases hcell j v hv' with hp1 | hp1
      · exact ⟨c[j + l.off]'(by rw [r.size]; have := r.fits; have : cs'.length ≤ l.n := this; omega), Array.getElem?_eq_getElem _, .inl hp1⟩
      · obtain ⟨v', h8, h9⟩ := r.cell j v hj' hp1
        refine ⟨v', h8, ?_⟩
        rcases gl_cell hp (List.mem_of_getElem? hv') with hc | hc | hc
        · rcases h9 with h9 | h9
          · exact .inl h9
          · rw [h9.of_pf hc]; exact .inr (.pf v hc)
        · exact .inl hc
        · subst hc
          rcases h9 with h9 | h9
          · exact .inl h9
          · cases h9 with
            | pf _ hq => cases hq
            | slice a l' len lb cap hl2 e1 e2 e3 =>
              refine .inr (.slice _ l' _ _ _ ?_ e1 e2 e3)
              show (if (none : Option Nat) = none ∧ inGl 12 then β 12 none else none) = some l'
              rw [if_pos ⟨rfl, ⟨(12, 6, words.map str), by simp [gl], rfl⟩⟩]
              exact hl2
  · have := hro id s l o h1 h4
    rw [h5] at this; cases this
  · obtain ⟨e', -⟩ := hβ id (some e) l' h2
    cases e'
  · obtain ⟨l, h1, h2, h3⟩ := h.glob g hgl
    refine ⟨l, ?_, h2, h3⟩
    rw [globals6] at hgl
    have hin : inGl (g + 1) := by
      match g, hgl with
      | 0, _ => exact ⟨(1, 0, u8s deB64), by simp [gl], rfl⟩
      | 1, _ => exact ⟨(2, 1, [.slice (some ⟨12, 0, none⟩) 20 20]), by simp [gl], rfl⟩
      | 2, _ => exact ⟨(3, 2, signs.map str), by simp [gl], rfl⟩
      | 3, _ => exact ⟨(4, 3, [poison]), by simp [gl], rfl⟩
      | 4, _ => exact ⟨(5, 4, u64s pow10), by simp [gl], rfl⟩
      | 5, _ => exact ⟨(6, 5, u8s deB32), by simp [gl], rfl⟩
      | n + 6, hg => omega
    show (if (none : Option Nat) = none ∧ inGl (g + 1) then β (g + 1) none else none) = some l
    rw [if_pos ⟨rfl, hin⟩]
    exact h1
  · have := hro id s l o h1 h2
    rw [h3] at this; cases this

/-- What a function answers for plain arguments, wherever the package-level variables lie. -/
def Good (f : FuncId) (args : List Value) (v : Value) : Prop :=
  ∀ ty w β, Rel Tryz.prog w.heap.size w β (st0 ty) w → Calls Tryz.prog f ⟨args⟩ w fun e w' => e = .returned v ∧ Below w.heap.size w w'

structure Ent where
  f : FuncId
  val : List Value → Option Value
  pre : List Value → Bool
  ok : ∀ args v, val args = some v → pre args = true → (pf v = true ∧ ∀ x ∈ args, pf x = true) ∧ Good f args v

noncomputable section
/-- The first entry of a function. -/
def findE (l : List Ent) (f : FuncId) (args : List Value) : Option (Value × Bool) :=
  @List.rec Ent (fun _ => Option (Value × Bool)) none (fun e _ go => bc (Nat.beq e.f f) (ob (e.val args) fun v => some (v, e.pre args)) go) l
def tabL (l : List Ent) : CallF := fun f args σ => bc (gOk σ) (ob (findE l f args) fun p => bc p.2 (some (p.1, σ)) none) none
end

theorem findE_ok : ∀ {l : List Ent} {f : FuncId} {args : List Value} {v : Value}, findE l f args = some (v, true) → (pf v = true ∧ ∀ x ∈ args, pf x = true) ∧ Good f args v
  | [], _, _, _, h => by cases h
  | e :: l, f, args, v, h => by
    change bc (Nat.beq e.f f) (ob (e.val args) fun v => some (v, e.pre args)) (findE l f args) = some (v, true) at h
    rw [bc_eq_some, beq_iff] at h
    rcases h with ⟨rfl, h⟩ | ⟨-, h⟩
    · obtain ⟨u, h1, h2⟩ := ob_eq_some.1 h
      obtain ⟨rfl, h3⟩ := Prod.mk.inj (Option.some.inj h2)
      exact e.ok args u h1 h3
    · exact findE_ok h

theorem VRL.of_pfs {β : Bt} {l l' : List Value} (h : VRL β l l') (hp : ∀ x ∈ l, pf x = true) : l' = l := by
  induction l generalizing l' with
  | nil => exact h.nil_inv
  | cons x l ih =>
    obtain ⟨y, q, rfl, h1, h2⟩ := h.cons_inv
    rw [h1.of_pf (hp x (by simp)), ih h2 fun z hz => hp z (by simp [hz])]

theorem tabL_sound (l : List Ent) : CallsS E0 (tabL l) := by
  intro f args σ v σ' h B W β w args' hR hpos hargs
  unfold tabL at h
  rw [bc_eq_some] at h
  rcases h with ⟨hg, h⟩ | ⟨-, h⟩
  · obtain ⟨⟨u, b⟩, h1, h2⟩ := ob_eq_some.1 h
    rw [bc_eq_some] at h2
    rcases h2 with ⟨hb, h2⟩ | ⟨-, h2⟩
    · have hb' : b = true := hb
      subst hb'
      obtain ⟨rfl, rfl⟩ := Prod.mk.inj (Option.some.inj h2)
      obtain ⟨⟨h3, h4⟩, h5⟩ := findE_ok h1
      rw [hargs.of_pfs h4]
      have hR' : Rel Tryz.prog B W β σ w := by have := hR; rwa [E0_P] at this
      obtain ⟨ty, β0, h6⟩ := reground hR' hg
      have h7 := h5 ty w β0 h6
      rw [E0_P]
      refine Calls.mono h7 fun e w' hx => ⟨u, hx.1, Step.refl _, β, Ext.refl _ _, hR'.keep hx.2, .pf _ h3⟩
    · cases h2
  · cases h

section
variable {R : Type} (plain : Cfg) (S0 : St) (l : List Ent)
noncomputable section
/-- Calls over a table: an answer of the table, or the function's text, walked into. -/
def callT (fuel : Nat) (n : Nat) : CallK R :=
  @Nat.rec (fun _ => CallK R) (fun _ _ _ _ => none)
    (fun _ go f args s k => @Option.rec (Value × Bool) (fun _ => Option R)
      (inlK plain E0 S0 go (fun _ _ _ _ => none) fuel f args s k)
      (fun p => bc (gOk (den S0 s)) (bc p.2 (k p.1 none) none) none) (findE l f args)) n
end

theorem loopK_none (E : Env) (tab : CallF) : LoopKS E S0 tab (fun _ _ _ _ => (none : Option R)) := fun _ _ _ _ _ h => by cases h

theorem callT_sound {plain : Cfg} {S0 : St} {l : List Ent} (hP : PlainS E0 plain) (h0 : S0.low = S0.next) (fuel : Nat) : ∀ n, CallKS E0 S0 (tabL l) (callT (R := R) plain S0 l fuel n)
  | 0 => fun _ _ _ _ _ h => by cases h
  | n + 1 => fun f args s k x h => by
    change @Option.rec (Value × Bool) (fun _ => Option R)
      (inlK plain E0 S0 (callT plain S0 l fuel n) (fun _ _ _ _ => none) fuel f args s k)
      (fun p => bc (gOk (den S0 s)) (bc p.2 (k p.1 none) none) none) (findE l f args) = some x at h
    cases hf : findE l f args with
    | none =>
      rw [hf] at h
      refine inlK_sound hP (callT_sound hP h0 fuel n) (loopK_none S0 E0 _) h0 ?_ h
      unfold tabL; rw [hf]; cases gOk (den S0 s) <;> rfl
    | some p =>
      rw [hf] at h
      change bc (gOk (den S0 s)) (bc p.2 (k p.1 none) none) none = some x at h
      rw [bc_eq_some] at h
      rcases h with ⟨hg, h⟩ | ⟨-, h⟩
      · rw [bc_eq_some] at h
        rcases h with ⟨hb, h⟩ | ⟨-, h⟩
        · refine ⟨p.1, none, run_tab E0 _ ?_, h⟩
          unfold tabL; rw [hg, hf]
          show bc p.2 (some (p.1, den S0 s)) none = _
          rw [hb]; rfl
        · cases h
      · cases h
end

noncomputable section
/-- A function's answer, from the first state on; what it hands back is plain, and it writes nothing that was there. -/
def ansK {R : Type} (plain : Cfg) (l : List Ent) (fuel n : Nat) (ty : Nat → TypeId) (f : FuncId) (args : List Value) (k : Value → Option R) : Option R :=
  fnK plain E0 (st0 ty) (callT plain (st0 ty) l fuel n) (fun _ _ _ _ => none) fuel f args .base fun v s' =>
    bc (bc (pf v) (Nat.ble 13 (den (st0 ty) s').low) false) (k v) none
end

theorem good_of {plain : Cfg} {l : List Ent} (hP : PlainS E0 plain) (fuel n : Nat) {f : FuncId} {args : List Value} {v : Value} (hargs : ∀ x ∈ args, pf x = true)
    (h : ∀ ty, ansK plain l fuel n ty f args (fun v => some v) = some v) (hn : findE l f args = none) : Good f args v ∧ pf v = true := by
  have hpf : pf v = true := by
    have h1 := h (fun _ => 0)
    unfold ansK at h1
    obtain ⟨u, s', -, h3⟩ := fnK_sound (σ := st0 fun _ => 0) hP (callT_sound hP rfl fuel n) (loopK_none _ E0 (tabL l)) (by unfold tabL; rw [hn]; cases gOk (st0 fun _ => 0) <;> rfl) rfl h1
    rw [bc_eq_some] at h3
    rcases h3 with ⟨hb, h3⟩ | ⟨-, h3⟩
    · obtain rfl := Option.some.inj h3
      rw [bc_eq] at hb
      split at hb
      · assumption
      · cases hb
    · cases h3
  refine ⟨fun ty w β hR => ?_, hpf⟩
  have h1 := h ty
  unfold ansK at h1
  obtain ⟨u, s', h2, h3⟩ := fnK_sound (σ := st0 ty) hP (callT_sound hP rfl fuel n) (loopK_none _ E0 (tabL l)) (by unfold tabL; rw [hn]; cases gOk (st0 ty) <;> rfl) rfl h1
  rw [bc_eq_some] at h3
  rcases h3 with ⟨hb, h3⟩ | ⟨-, h3⟩
  · obtain rfl := Option.some.inj h3
    have hl : leave (st0 ty) (den (st0 ty) s') u = (u, st0 ty) := by
      unfold leave
      rw [show (st0 ty).next = 13 from rfl, hb]; rfl
    rw [hl] at h2
    have h4 := run_sound E0 (tabL l) runOK (tabL_sound l) f args (st0 ty) u (st0 ty) h2 w.heap.size w β w args (by rw [E0_P]; exact hR) (by show 0 < 13; omega)
      ⟨rfl, fun i x x' hx hx' => by rw [hx] at hx'; obtain rfl := Option.some.inj hx'; exact .pf x (hargs x (List.mem_of_getElem? hx))⟩
    rw [E0_P] at h4
    refine Calls.mono h4 fun e w' hx => ?_
    obtain ⟨v', he, -, β', -, hR', hv'⟩ := hx
    rw [hv'.of_pf hpf] at he
    exact ⟨he, hR'.below⟩
  · cases h3
end Go.Ev
namespace Go.Ev
open Go.RowKit Go.Proofs

def runP {α : Type} (P : Program) : Sem α → Option α
  | .pure a => some a
  | .program k => runP P (k P)
  | _ => none

theorem runP_bind {α β : Type} (P : Program) (f : α → Sem β) : ∀ s : Sem α, runP P (s >>= f) = (runP P s).bind fun a => runP P (f a)
  | .pure a => rfl
  | .program k => runP_bind P f (k P)
  | .load .. => rfl
  | .store .. => rfl
  | .new .. => rfl
  | .shape .. => rfl
  | .freeze .. => rfl
  | .frozen .. => rfl
  | .getObj .. => rfl
  | .setObj .. => rfl
  | .choose .. => rfl
  | .sys .. => rfl
  | .mark .. => rfl
  | .halt .. => rfl
theorem runP_pure {α : Type} (P : Program) (a : α) : runP P (pure a : Sem α) = some a := rfl
theorem runPure_eq (P : Program) : ∀ s : Sem Value, runPure P (do pure (.value (← s))) = runP P s
  | .pure a => rfl
  | .program k => runPure_eq P (k P)
  | .load .. => rfl
  | .store .. => rfl
  | .new .. => rfl
  | .shape .. => rfl
  | .freeze .. => rfl
  | .frozen .. => rfl
  | .getObj .. => rfl
  | .setObj .. => rfl
  | .choose .. => rfl
  | .sys .. => rfl
  | .mark .. => rfl
  | .halt .. => rfl
theorem runP_underlying {P : Program} {t : TypeId} {d : TypeDesc} (h : P.underlying t = some d) : runP P (underlying t) = some d := by
  unfold Go.underlying
  show runP P (match P.underlying t with | some d => pure d | none => _) = _
  rw [h]; rfl

theorem equalIn_struct2 {P : Program} {t : TypeId} {f1 f2 : Field} {d : Nat} {xs ys : Array Value} {u1 u2 v1 v2 : Value} {b1 b2 : Bool}
    (hu : P.underlying t = some (.struct #[f1, f2])) (hs : P.stoodInHeld t = false) (n1 : f1.name ≠ "_") (n2 : f2.name ≠ "_")
    (p1 : runP P (part f1.type xs f1.offset) = some u1) (q1 : runP P (part f1.type ys f1.offset) = some v1) (e1 : runP P (Op.equalIn d f1.type u1 v1) = some b1)
    (p2 : runP P (part f2.type xs f2.offset) = some u2) (q2 : runP P (part f2.type ys f2.offset) = some v2) (e2 : runP P (Op.equalIn d f2.type u2 v2) = some b2) :
    runP P (Op.equalIn (d + 1) t (.agg xs) (.agg ys)) = some (b1 && b2) := by
  have hprog : runP P program = some P := rfl
  simp only [Op.equalIn, runP_bind, runP_underlying hu, Option.bind_some, hprog, hs]
  cases b1 <;> cases b2 <;>
    simp [n1, n2, runP_bind, p1, q1, e1, p2, q2, e2, runP_pure]

noncomputable def plainT (t : TypeId) : Nat := bc (Nat.beq t 63) 2 (bc (Nat.beq t 65) 2 (bc (Nat.beq t 67) 4 0))

theorem eq_int (d : Nat) (a c : Int) : runP Tryz.prog (Op.equalIn (d + 1) 3 (.int .i64 a) (.int .i64 c)) = some (a == c) := by kernel_rfl

theorem eq_63 (d : Nat) (a b a' b' : Int) : runP Tryz.prog (Op.equalIn (d + 1 + 1) 63 (.agg ⟨[.int .i64 a, .int .i64 b]⟩) (.agg ⟨[.int .i64 a', .int .i64 b']⟩)) = some ((a == a') && (b == b')) :=
  equalIn_struct2 Tryz.underlying63 (by kernel_rfl) (by decide) (by decide) (u1 := .int .i64 a) (v1 := .int .i64 a') (u2 := .int .i64 b) (v2 := .int .i64 b') (by kernel_rfl) (by kernel_rfl) (eq_int d a a') (by kernel_rfl) (by kernel_rfl) (eq_int d b b')
theorem eq_65 (d : Nat) (a b a' b' : Int) : runP Tryz.prog (Op.equalIn (d + 1 + 1) 65 (.agg ⟨[.int .i64 a, .int .i64 b]⟩) (.agg ⟨[.int .i64 a', .int .i64 b']⟩)) = some ((a == a') && (b == b')) :=
  equalIn_struct2 Tryz.underlying65 (by kernel_rfl) (by decide) (by decide) (u1 := .int .i64 a) (v1 := .int .i64 a') (u2 := .int .i64 b) (v2 := .int .i64 b') (by kernel_rfl) (by kernel_rfl) (eq_int d a a') (by kernel_rfl) (by kernel_rfl) (eq_int d b b')
theorem eq_67 (d : Nat) (a b p q a' b' p' q' : Int) : runP Tryz.prog (Op.equalIn (d + 1 + 1 + 1) 67 (.agg ⟨[.int .i64 a, .int .i64 b, .int .i64 p, .int .i64 q]⟩) (.agg ⟨[.int .i64 a', .int .i64 b', .int .i64 p', .int .i64 q']⟩)) = some (((a == a') && (b == b')) && ((p == p') && (q == q'))) :=
  equalIn_struct2 Tryz.underlying67 (by kernel_rfl) (by decide) (by decide) (u1 := .agg ⟨[.int .i64 a, .int .i64 b]⟩) (v1 := .agg ⟨[.int .i64 a', .int .i64 b']⟩) (u2 := .agg ⟨[.int .i64 p, .int .i64 q]⟩) (v2 := .agg ⟨[.int .i64 p', .int .i64 q']⟩)
    (by kernel_rfl) (by kernel_rfl) (eq_63 d a b a' b') (by kernel_rfl) (by kernel_rfl) (eq_65 d p q p' q')

theorem binOp_eql (t : TypeId) (xs ys : List Value) : binOp .eql t (.agg ⟨xs⟩) (.agg ⟨ys⟩) = (do pure (.bool (← Op.equal t (.agg ⟨xs⟩) (.agg ⟨ys⟩)))) := by kernel_rfl
theorem binOp_neq (t : TypeId) (xs ys : List Value) : binOp .neq t (.agg ⟨xs⟩) (.agg ⟨ys⟩) = (do pure (.bool (!(← Op.equal t (.agg ⟨xs⟩) (.agg ⟨ys⟩))))) := by kernel_rfl
theorem plain_of {t : TypeId} {n : Nat} (hn : plainT t = n) (hpos : n ≠ 0)
    (hg : ∀ (neg : Bool) (x y : Operand) (xs ys : List Value), runP Tryz.prog (eqGuard (if neg then .neq else .eql) t x y (.agg ⟨xs⟩) (.agg ⟨ys⟩)) = some ())
    (he : ∀ (xs ys : List Value) (l m : List Int), intsOf xs = some l → intsOf ys = some m → l.length = n → m.length = n → runP Tryz.prog (Op.equal t (.agg ⟨xs⟩) (.agg ⟨ys⟩)) = some (eqIs l m)) :
    ∀ (xs ys : List Value) (l m : List Int), intsOf xs = some l → intsOf ys = some m → l.length = plainT t → m.length = plainT t → ∀ (neg : Bool) (x y : Operand),
    runPure E0.P (do pure (.value (← (do eqGuard (if neg then .neq else .eql) t x y (.agg ⟨xs⟩) (.agg ⟨ys⟩); binOp (if neg then .neq else .eql) t (.agg ⟨xs⟩) (.agg ⟨ys⟩))))) = some (.bool (bc neg (!eqIs l m) (eqIs l m))) := by
  intro xs ys l m hl hm h1 h2 neg x y
  rw [E0_P, runPure_eq, runP_bind, hg neg x y xs ys]
  show runP Tryz.prog (binOp _ t _ _) = _
  have h3 := he xs ys l m hl hm (h1.trans hn) (h2.trans hn)
  cases neg
  · rw [if_neg (by simp), binOp_eql, runP_bind, h3]; rfl
  · rw [if_pos rfl, binOp_neq, runP_bind, h3]; rfl

theorem intsOf_cons {v : Value} {r : List Value} {l : List Int} (h : intsOf (v :: r) = some l) : ∃ n q, v = .int .i64 n ∧ intsOf r = some q ∧ l = n :: q := by
  obtain ⟨n, hn, h2⟩ := ob_eq_some.1 (show ob (i64Of? v) (fun n => ob (intsOf r) fun l => some (n :: l)) = some l from h)
  obtain ⟨q, hq, h3⟩ := ob_eq_some.1 h2
  unfold i64Of? at hn
  split at hn
  · rename_i n'
    obtain rfl := Option.some.inj hn
    exact ⟨_, q, rfl, hq, (Option.some.inj h3).symm⟩
  · cases hn
theorem intsOf_nil {l : List Int} (h : intsOf [] = some l) : l = [] := (Option.some.inj h).symm
theorem intsOf_len : ∀ {xs : List Value} {l : List Int}, intsOf xs = some l → xs.length = l.length
  | [], l, h => by rw [intsOf_nil h]; rfl
  | v :: r, l, h => by
    obtain ⟨n, q, -, hq, rfl⟩ := intsOf_cons h
    simp [intsOf_len hq]
theorem ints2 {xs : List Value} {l : List Int} (h : intsOf xs = some l) (hl : l.length = 2) : ∃ a b, xs = [.int .i64 a, .int .i64 b] ∧ l = [a, b] := by
  have hx := intsOf_len h
  match xs, hx with
  | [u, v], _ =>
    obtain ⟨a, q, rfl, h1, rfl⟩ := intsOf_cons h
    obtain ⟨b, q', rfl, h2, rfl⟩ := intsOf_cons h1
    rw [intsOf_nil h2]
    exact ⟨a, b, rfl, rfl⟩
  | [], hx => simp at hx; omega
  | [_], hx => simp at hx; omega
  | _ :: _ :: _ :: _, hx => simp at hx; omega
theorem ints4 {xs : List Value} {l : List Int} (h : intsOf xs = some l) (hl : l.length = 4) : ∃ a b c d, xs = [.int .i64 a, .int .i64 b, .int .i64 c, .int .i64 d] ∧ l = [a, b, c, d] := by
  match xs, h with
  | [], h => rw [intsOf_nil h] at hl; simp at hl
  | [u], h => have := intsOf_len h; simp at this; omega
  | u :: v :: r, h =>
    obtain ⟨a, q, rfl, h1, rfl⟩ := intsOf_cons h
    obtain ⟨b, q', rfl, h2, rfl⟩ := intsOf_cons h1
    obtain ⟨c, d, rfl, rfl⟩ := ints2 h2 (by simpa using hl)
    exact ⟨a, b, c, d, rfl, rfl⟩

theorem eqIs2 (a b c d : Int) : eqIs [a, b] [c, d] = ((a == c) && (b == d)) := by
  show bc (eqB a c) (bc (eqB b d) true false) false = _
  rw [eqB_eq, eqB_eq]
  by_cases h1 : a = c <;> by_cases h2 : b = d <;> simp [h1, h2]
theorem eqIs4 (a b c d a' b' c' d' : Int) : eqIs [a, b, c, d] [a', b', c', d'] = (((a == a') && (b == b')) && ((c == c') && (d == d'))) := by
  show bc (eqB a a') (bc (eqB b b') (bc (eqB c c') (bc (eqB d d') true false) false) false) false = _
  rw [eqB_eq, eqB_eq, eqB_eq, eqB_eq]
  by_cases h1 : a = a' <;> by_cases h2 : b = b' <;> by_cases h3 : c = c' <;> by_cases h4 : d = d' <;> simp [h1, h2, h3, h4]

theorem guard63 (neg : Bool) (x y : Operand) (xs ys : List Value) : runP Tryz.prog (eqGuard (if neg then .neq else .eql) 63 x y (.agg ⟨xs⟩) (.agg ⟨ys⟩)) = some () := by
  cases neg
  · show runP Tryz.prog (eqGuard .eql 63 x y (.agg ⟨xs⟩) (.agg ⟨ys⟩)) = some ()
    kernel_rfl
  · show runP Tryz.prog (eqGuard .neq 63 x y (.agg ⟨xs⟩) (.agg ⟨ys⟩)) = some ()
    kernel_rfl
theorem guard65 (neg : Bool) (x y : Operand) (xs ys : List Value) : runP Tryz.prog (eqGuard (if neg then .neq else .eql) 65 x y (.agg ⟨xs⟩) (.agg ⟨ys⟩)) = some () := by
  cases neg
  · show runP Tryz.prog (eqGuard .eql 65 x y (.agg ⟨xs⟩) (.agg ⟨ys⟩)) = some ()
    kernel_rfl
  · show runP Tryz.prog (eqGuard .neq 65 x y (.agg ⟨xs⟩) (.agg ⟨ys⟩)) = some ()
    kernel_rfl
theorem guard67 (neg : Bool) (x y : Operand) (xs ys : List Value) : runP Tryz.prog (eqGuard (if neg then .neq else .eql) 67 x y (.agg ⟨xs⟩) (.agg ⟨ys⟩)) = some () := by
  cases neg
  · show runP Tryz.prog (eqGuard .eql 67 x y (.agg ⟨xs⟩) (.agg ⟨ys⟩)) = some ()
    kernel_rfl
  · show runP Tryz.prog (eqGuard .neq 67 x y (.agg ⟨xs⟩) (.agg ⟨ys⟩)) = some ()
    kernel_rfl

theorem plainS (q : Bool) : PlainS E0 ⟨plainT, q⟩ := by
  intro t ht
  change plainT t ≠ 0 at ht
  show ∀ (xs ys : List Value) (l m : List Int), intsOf xs = some l → intsOf ys = some m → l.length = plainT t → m.length = plainT t → _
  by_cases h63 : t = 63
  · subst h63
    refine plain_of (n := 2) rfl (by decide) guard63 ?_
    intro xs ys l m hl hm h1 h2
    obtain ⟨a, b, rfl, rfl⟩ := ints2 hl h1
    obtain ⟨c, d, rfl, rfl⟩ := ints2 hm h2
    rw [eqIs2]; exact eq_63 9998 a b c d
  · by_cases h65 : t = 65
    · subst h65
      refine plain_of (n := 2) rfl (by decide) guard65 ?_
      intro xs ys l m hl hm h1 h2
      obtain ⟨a, b, rfl, rfl⟩ := ints2 hl h1
      obtain ⟨c, d, rfl, rfl⟩ := ints2 hm h2
      rw [eqIs2]; exact eq_65 9998 a b c d
    · by_cases h67 : t = 67
      · subst h67
        refine plain_of (n := 4) rfl (by decide) guard67 ?_
        intro xs ys l m hl hm h1 h2
        obtain ⟨a, b, c, d, rfl, rfl⟩ := ints4 hl h1
        obtain ⟨a', b', c', d', rfl, rfl⟩ := ints4 hm h2
        rw [eqIs4]; exact eq_67 9997 a b c d a' b' c' d'
      · exfalso
        apply ht
        unfold plainT
        rw [beq_false_iff.2 h63, beq_false_iff.2 h65, beq_false_iff.2 h67]; rfl
end Go.Ev
namespace Go.Ev

noncomputable section
structure Iv where
  lo : Int
  hi : Int
  deriving DecidableEq
structure Rs where
  m : Int
  r : Int
  deriving DecidableEq
structure Vl where
  i : Iv
  r : Rs
  deriving DecidableEq

/-- How plain data lie in a value. -/
structure Enc (α : Type) where
  enc : α → Value
  dec : Value → Option α
  inv : ∀ x a, dec x = some a → x = enc a
  pf : ∀ a, Ev.pf (enc a) = true

def encI : Enc Int where
  enc n := .int .i64 n
  dec v := match v with
    | .int .i64 n => some n
    | _ => none
  inv x a h := by
    cases x with
    | int k n => cases k <;> simp_all
    | _ => cases h
  pf _ := rfl
def encU : Enc Int where
  enc n := .int .u64 n
  dec v := match v with
    | .int .u64 n => some n
    | _ => none
  inv x a h := by
    cases x with
    | int k n => cases k <;> simp_all
    | _ => cases h
  pf _ := rfl

def ivV (a : Iv) : Value := .agg ⟨[.int .i64 a.lo, .int .i64 a.hi]⟩
def rsV (a : Rs) : Value := .agg ⟨[.int .i64 a.m, .int .i64 a.r]⟩
def vlV (a : Vl) : Value := .agg ⟨[.int .i64 a.i.lo, .int .i64 a.i.hi, .int .i64 a.r.m, .int .i64 a.r.r]⟩

def cells? : Value → Option (List Value)
  | .agg ⟨l⟩ => some l
  | _ => none
def ints? (v : Value) : Option (List Int) := ob (cells? v) intsOf
def two? {α : Type} (f : Int → Int → α) : List Int → Option α
  | [a, b] => some (f a b)
  | _ => none
def four? {α : Type} (f : Int → Int → Int → Int → α) : List Int → Option α
  | [a, b, c, d] => some (f a b c d)
  | _ => none

theorem cells_inv {x : Value} {l : List Value} (h : cells? x = some l) : x = .agg ⟨l⟩ := by
  cases x with
  | agg c => obtain ⟨c⟩ := c; simp [cells?] at h; rw [h]
  | _ => cases h
theorem two_inv {α : Type} {f : Int → Int → α} {l : List Int} {x : α} (h : two? f l = some x) : ∃ a b, l = [a, b] ∧ x = f a b := by
  match l, h with
  | [a, b], h => exact ⟨a, b, rfl, (Option.some.inj h).symm⟩
theorem four_inv {α : Type} {f : Int → Int → Int → Int → α} {l : List Int} {x : α} (h : four? f l = some x) : ∃ a b c d, l = [a, b, c, d] ∧ x = f a b c d := by
  match l, h with
  | [a, b, c, d], h => exact ⟨a, b, c, d, rfl, (Option.some.inj h).symm⟩
theorem intsOf_inv : ∀ {xs : List Value} {l : List Int}, intsOf xs = some l → xs = l.map fun n => .int .i64 n
  | [], l, h => by rw [intsOf_nil h]; rfl
  | v :: r, l, h => by
    obtain ⟨n, q, rfl, hq, rfl⟩ := intsOf_cons h
    rw [intsOf_inv hq]; rfl

def encIv : Enc Iv where
  enc := ivV
  dec v := ob (ints? v) (two? Iv.mk)
  inv x a h := by
    obtain ⟨l, h1, h2⟩ := ob_eq_some.1 h
    obtain ⟨c, h5, h6⟩ := ob_eq_some.1 h1
    obtain ⟨p, q, rfl, rfl⟩ := two_inv h2
    rw [cells_inv h5, intsOf_inv h6]; rfl
  pf _ := rfl
def encRs : Enc Rs where
  enc := rsV
  dec v := ob (ints? v) (two? Rs.mk)
  inv x a h := by
    obtain ⟨l, h1, h2⟩ := ob_eq_some.1 h
    obtain ⟨c, h5, h6⟩ := ob_eq_some.1 h1
    obtain ⟨p, q, rfl, rfl⟩ := two_inv h2
    rw [cells_inv h5, intsOf_inv h6]; rfl
  pf _ := rfl
def encVl : Enc Vl where
  enc := vlV
  dec v := ob (ints? v) (four? fun a b c d => ⟨⟨a, b⟩, ⟨c, d⟩⟩)
  inv x a h := by
    obtain ⟨l, h1, h2⟩ := ob_eq_some.1 h
    obtain ⟨c, h5, h6⟩ := ob_eq_some.1 h1
    obtain ⟨p, q, u, v, rfl, rfl⟩ := four_inv h2
    rw [cells_inv h5, intsOf_inv h6]; rfl
  pf _ := rfl

section
variable {α β γ : Type} (A : Enc α) (B : Enc β) (C : Enc γ)

def on1 (f : α → Value) : List Value → Option Value
  | [x] => ob (A.dec x) fun a => some (f a)
  | _ => none
def pre1 (f : α → Bool) : List Value → Bool
  | [x] => @Option.rec α (fun _ => Bool) false (fun a => f a) (A.dec x)
  | _ => false
def on2 (f : α → β → Value) : List Value → Option Value
  | [x, y] => ob (A.dec x) fun a => ob (B.dec y) fun b => some (f a b)
  | _ => none
def on3 (f : α → β → γ → Value) : List Value → Option Value
  | [x, y, z] => ob (A.dec x) fun a => ob (B.dec y) fun b => ob (C.dec z) fun c => some (f a b c)
  | _ => none

/-- An answer of a function of one argument. -/
def Ans1 (f : FuncId) (F : α → Value) : Prop := ∀ a, Good f [A.enc a] (F a) ∧ pf (F a) = true
def Ans1p (f : FuncId) (P : α → Bool) (F : α → Value) : Prop := ∀ a, P a = true → Good f [A.enc a] (F a) ∧ pf (F a) = true
def Ans2 (f : FuncId) (F : α → β → Value) : Prop := ∀ a b, Good f [A.enc a, B.enc b] (F a b) ∧ pf (F a b) = true
def Ans3 (f : FuncId) (F : α → β → γ → Value) : Prop := ∀ a b c, Good f [A.enc a, B.enc b, C.enc c] (F a b c) ∧ pf (F a b c) = true

def mk1 (f : FuncId) (F : α → Value) (h : Ans1 A f F) : Ent where
  f := f
  val := on1 A F
  pre _ := true
  ok args v hv _ := by
    match args, hv with
    | [x], hv =>
      obtain ⟨a, h1, h2⟩ := ob_eq_some.1 (show ob (A.dec x) (fun a => some (F a)) = some v from hv)
      obtain rfl := Option.some.inj h2
      obtain rfl := A.inv x a h1
      exact ⟨⟨(h a).2, fun y hy => by simp at hy; subst hy; exact A.pf a⟩, (h a).1⟩
def mk1p (f : FuncId) (P : α → Bool) (F : α → Value) (h : Ans1p A f P F) : Ent where
  f := f
  val := on1 A F
  pre := pre1 A P
  ok args v hv hp := by
    match args, hv, hp with
    | [x], hv, hp =>
      obtain ⟨a, h1, h2⟩ := ob_eq_some.1 (show ob (A.dec x) (fun a => some (F a)) = some v from hv)
      obtain rfl := Option.some.inj h2
      have hp' : @Option.rec α (fun _ => Bool) false (fun a => P a) (A.dec x) = true := hp
      rw [h1] at hp'
      obtain rfl := A.inv x a h1
      exact ⟨⟨(h a hp').2, fun y hy => by simp at hy; subst hy; exact A.pf a⟩, (h a hp').1⟩
def mk2 (f : FuncId) (F : α → β → Value) (h : Ans2 A B f F) : Ent where
  f := f
  val := on2 A B F
  pre _ := true
  ok args v hv _ := by
    match args, hv with
    | [x, y], hv =>
      obtain ⟨a, h1, h2⟩ := ob_eq_some.1 (show ob (A.dec x) (fun a => ob (B.dec y) fun b => some (F a b)) = some v from hv)
      obtain ⟨b, h3, h4⟩ := ob_eq_some.1 h2
      obtain rfl := Option.some.inj h4
      obtain rfl := A.inv x a h1
      obtain rfl := B.inv y b h3
      exact ⟨⟨(h a b).2, fun z hz => by simp at hz; rcases hz with rfl | rfl; exact A.pf a; exact B.pf b⟩, (h a b).1⟩
def mk3 (f : FuncId) (F : α → β → γ → Value) (h : Ans3 A B C f F) : Ent where
  f := f
  val := on3 A B C F
  pre _ := true
  ok args v hv _ := by
    match args, hv with
    | [x, y, z], hv =>
      obtain ⟨a, h1, h2⟩ := ob_eq_some.1 (show ob (A.dec x) (fun a => ob (B.dec y) fun b => ob (C.dec z) fun c => some (F a b c)) = some v from hv)
      obtain ⟨b, h3, h4⟩ := ob_eq_some.1 h2
      obtain ⟨c, h5, h6⟩ := ob_eq_some.1 h4
      obtain rfl := Option.some.inj h6
      obtain rfl := A.inv x a h1
      obtain rfl := B.inv y b h3
      obtain rfl := C.inv z c h5
      exact ⟨⟨(h a b c).2, fun w hw => by simp at hw; rcases hw with rfl | rfl | rfl; exact A.pf a; exact B.pf b; exact C.pf c⟩, (h a b c).1⟩
end

/-- A function's answer, out of its tree. -/
theorem good_tree {l : List Ent} (q : Bool) (fuel n : Nat) {f : FuncId} {args : List Value} {v : Value} {T : (Nat → TypeId) → (Value → Option Value) → Option Value} (hargs : allB pf args = true)
    (ht : ∀ ty k, ansK ⟨plainT, q⟩ l fuel n ty f args k = T ty k) (h : ∀ ty, T ty (fun v => some v) = some v) (hn : findE l f args = none) : Good f args v ∧ pf v = true :=
  good_of (plainS q) fuel n ((allB_iff _ _).1 hargs) (fun ty => by rw [ht]; exact h ty) hn

def isW (n : Int) : Bool := decide (-2147483648 ≤ n) && decide (n ≤ 2147483647)
theorem isW_iff {n : Int} : isW n = true ↔ -2147483648 ≤ n ∧ n ≤ 2147483647 := by simp [isW]
theorem isW_false {n : Int} : isW n = false ↔ ¬ (-2147483648 ≤ n ∧ n ≤ 2147483647) := by rw [← isW_iff, Bool.not_eq_true]
theorem ltB_iff {a b : Int} : ltB a b = true ↔ a < b := by rw [ltB_eq, decide_eq_true_iff]
theorem ltB_false {a b : Int} : ltB a b = false ↔ ¬ a < b := by rw [ltB_eq, decide_eq_false_iff_not]
theorem eqB_iff {a b : Int} : eqB a b = true ↔ a = b := by rw [eqB_eq, decide_eq_true_iff]
theorem eqB_false {a b : Int} : eqB a b = false ↔ ¬ a = b := by rw [eqB_eq, decide_eq_false_iff_not]
end
end Go.Ev
