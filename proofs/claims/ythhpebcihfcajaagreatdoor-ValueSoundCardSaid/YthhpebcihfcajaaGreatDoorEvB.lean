/-
  What the evaluator answers for an operation, the model comes to.
-/
import Derived.Test.YthhpebcihfcajaaGreatDoorEvA
import Derived.Laws.Entries
import Derived.Orders
import Derived.IntWalk
import Derived.Laws.Append
import Derived.MapKept
set_option linter.unusedVariables false
set_option linter.unusedSimpArgs false
namespace Go.Ev
open Go.RowKit

structure EnvOK (E : Env) : Prop where
  types : ∀ (t : Nat) (i : TI), E.types.get t = some i → ∃ info, E.P.info? t = some info ∧ i = mkTI E.P info ∧ ∃ d, i.und = some d
  zeros : ∀ (t : Nat) (i : TI), E.types.get t = some i → ∃ z : Value, i.zero = some z ∧ z.cells.size = i.size
  funcs : ∀ (f : Nat), E.funcs.get f = E.P.funcs[f]?
  names : ∀ (f : Nat) (fn : Func), E.P.funcs[f]? = some fn → (fn.name == "runtime.NumGoroutine") = false
  ext : ∀ (g : Nat) (k : ExtK), (g, k) ∈ E.ext → ∃ fn : Func, E.P.funcs[g]? = some fn ∧ fn.body.isNone = true ∧ Extern.findNext fn = none ∧
    match k with
    | .noEscape => Extern.find fn = some Extern.AbiNoEscape.same
    | .noZero el => ∃ t, Extern.find fn = some (Extern.BytealgMakeNoZero.makeNoZero fn.params fn.resultTypes) ∧ fn.resultTypes[0]? = some t ∧ E.P.underlying t = some (.slice el)

section
variable {E : Env}
theorem size_TI {t n : Nat} (h : size E t = some n) : ∃ i, E.types.get t = some i ∧ i.size = n := by
  obtain ⟨i, hi, h2⟩ := ob_eq_some.1 h
  exact ⟨i, hi, by simpa using h2⟩

theorem sizeP_TI {t n : Nat} (h : sizeP E t = some n) : ∃ i, E.types.get t = some i ∧ i.size = n ∧ 1 ≤ n := by
  obtain ⟨i, hi, h2⟩ := ob_eq_some.1 h
  rw [guardO_eq_some, ble_iff] at h2
  have : i.size = n := by simpa using h2.2
  exact ⟨i, hi, this, by omega⟩

theorem one_eq {l : List Value} {v : Value} (h : one? l = some v) : l = [v] := by
  unfold one? at h
  split at h
  · simpa using h
  · cases h

theorem load_one {w : World} {a : Addr} {v : Value} (h : (loadCells a 1).run E.P w = .ok ⟨[v]⟩ w) : (load a).run E.P w = .ok v w := by
  have ha : a.add 0 = a := rfl
  have h' := h
  simp only [loadCells, loadCellsFrom, Sem.run_bind, ha] at h'
  cases hr : (load a).run E.P w with
  | halt x w' => rw [hr] at h'; simp at h'
  | ok u w' =>
    rw [hr] at h'
    simp at h'
    rw [h'.1, h'.2]

theorem VR.ptr_at {β : Bt} {a : Addr} {l : Loc} (hl : β a.block a.spot = some l) (k : Nat) : VR β (.pointer (some ⟨a.block, a.off + k, a.spot⟩)) (.pointer (some ⟨l.blk, a.off + l.off + k, none⟩)) := by
  have := VR.ptr (β := β) ⟨a.block, a.off + k, a.spot⟩ l hl
  rw [show a.off + l.off + k = a.off + k + l.off by omega]
  exact this
theorem VR.slice_at {β : Bt} {a : Addr} {l : Loc} {len lb cap : Nat} (hl : β a.block a.spot = some l) (k : Nat) (h1 : lb ≤ cap) (h2 : len ≤ lb) (h3 : a.spot.isSome = true → a.off + k + cap * l.esz ≤ l.n) :
    VR β (.slice (some ⟨a.block, a.off + k, a.spot⟩) len lb) (.slice (some ⟨l.blk, a.off + l.off + k, none⟩) len cap) := by
  have := VR.slice (β := β) ⟨a.block, a.off + k, a.spot⟩ l len lb cap hl h1 h2 h3
  rw [show a.off + l.off + k = a.off + k + l.off by omega]
  exact this
theorem VR.ptr_inv {β : Bt} {a : Addr} {v' : Value} (h : VR β (.pointer (some a)) v') : ∃ l, β a.block a.spot = some l ∧ v' = .pointer (some ⟨l.blk, a.off + l.off, none⟩) := by
  cases h with
  | pf _ hp => simp [Ev.pf, pfS] at hp
  | ptr _ l hl => exact ⟨l, hl, rfl⟩

theorem pointerOf_eq {x : Value} {a : Addr} (h : pointerOf? x = some a) : x = .pointer (some a) := by
  unfold pointerOf? at h
  split at h
  · simpa using h
  · cases h

theorem natOf_eq {x : Value} {n : Nat} (h : natOf? x = some n) : ∃ k, x = .int k (.ofNat n) := by
  unfold natOf? at h
  split at h
  · obtain rfl : _ = n := by simpa using h
    exact ⟨_, rfl⟩
  · cases h

theorem VR.int_inv {β : Bt} {k : IntKind} {n : Int} {v' : Value} (h : VR β (.int k n) v') : v' = .int k n := h.of_pf rfl

theorem fieldsOf_eq {d : TypeDesc} {fs : List Field} (h : fieldsOf? d = some fs) : ∃ fa : Array Field, d = .struct fa ∧ fa.toList = fs := by
  unfold fieldsOf? at h
  split at h
  · exact ⟨_, rfl, by simpa using h⟩
  · cases h

theorem elemAddrS {β : Bt} {a : Addr} {l : Loc} {i sz n : Nat} {r : OpR} (hl : β a.block a.spot = some l) (hr : elemAddr a i sz n = some r) :
    i < n ∧ ∃ v, r = .val v ∧ VR β v (.pointer (some ⟨l.blk, a.off + l.off + i * sz, none⟩)) := by
  unfold elemAddr at hr
  rw [guardO_eq_some, ble_iff, bc_none_eq_some] at hr
  obtain ⟨h1, h2, h3⟩ := hr
  exact ⟨h1, _, by simpa using h3.symm, .ptr_at hl (i * sz)⟩

theorem VR.slice_inv {β : Bt} (hz : ∀ s, β 0 s = none) {a : Addr} {n lb : Nat} {v' : Value} (h : VR β (.slice (some a) n lb) v') :
    (∃ l cap, β a.block a.spot = some l ∧ v' = .slice (some ⟨l.blk, a.off + l.off, none⟩) n cap ∧ lb ≤ cap ∧ n ≤ lb ∧ (a.spot.isSome = true → a.off + cap * l.esz ≤ l.n) ∧ a.block ≠ 0) ∨
    (a = ⟨0, 1, some 0⟩ ∧ n = 0 ∧ lb = 0 ∧ ∃ b, v' = .slice (some b) 0 0) ∨ (a = ⟨0, 2, some 0⟩ ∧ n = 0 ∧ lb = 0 ∧ ∃ b cap, v' = .slice (some b) 0 cap) := by
  cases h with
  | pf _ hp => simp [Ev.pf, pfS] at hp
  | slice _ l _ _ cap hl h1 h2 h3 =>
    refine .inl ⟨l, cap, hl, rfl, h1, h2, h3, fun e => ?_⟩
    rw [e, hz] at hl; cases hl
  | zsl b => exact .inr (.inl ⟨rfl, rfl, rfl, b, rfl⟩)
  | dsl b cap => exact .inr (.inr ⟨rfl, rfl, rfl, b, cap, rfl⟩)

theorem someSlice_eq {x : Value} {p : Addr × Nat} (h : someSlice? x = some p) : ∃ lb, x = .slice (some p.1) p.2 lb := by
  unfold someSlice? at h
  split at h
  · exact ⟨_, by simp at h; rw [← h]⟩
  · cases h
end

section
variable {E : Env} (hE : EnvOK E)
include hE

theorem underlying_of {t : TypeId} {d : TypeDesc} (h : und E t = some d) : E.P.underlying t = some d := by
  obtain ⟨i, hi, h2⟩ := ob_eq_some.1 h
  obtain ⟨info, h3, rfl, -⟩ := hE.types t i hi
  simp only [mkTI] at h2
  unfold Program.underlying
  rw [h3]
  unfold undOf at h2
  split at h2
  · rename_i n u heq
    split at h2
    · rename_i j hj
      obtain ⟨desc, str, size, bytes, hasP, al, fal, zero, comparable, methods⟩ := info
      simp only at heq
      subst heq
      simp only [hj]
      simpa using h2
    · cases h2
  · rename_i hne
    obtain ⟨desc, str, size, bytes, hasP, al, fal, zero, comparable, methods⟩ := info
    simp only at hne h2 ⊢
    cases desc with
    | named n u => exact absurd rfl (hne n u)
    | _ => simpa using h2

theorem run_und {t : TypeId} {d : TypeDesc} (h : und E t = some d) (w : World) : (underlying t).run E.P w = .ok d w :=
  run_underlying (underlying_of hE h) w

theorem run_info {t : TypeId} {i : TI} (h : E.types.get t = some i) (w : World) : ∃ info, E.P.info? t = some info ∧ i = mkTI E.P info ∧ (typeInfo t).run E.P w = .ok info w := by
  obtain ⟨info, h1, h2, -⟩ := hE.types t i h
  exact ⟨info, h1, h2, by simp [typeInfo, h1]⟩

theorem run_sizeTI {t : TypeId} {i : TI} (h : E.types.get t = some i) (w : World) : (sizeOf t).run E.P w = .ok i.size w := by
  obtain ⟨info, -, rfl, h2⟩ := run_info hE h w
  simp [sizeOf, h2, mkTI]

theorem cellsOf_TI {t : TypeId} {i : TI} (h : E.types.get t = some i) : E.P.cellsOf t = i.size := by
  obtain ⟨info, h1, rfl, -⟩ := hE.types t i h
  simp [Program.cellsOf, h1, mkTI]

theorem run_size {t n : Nat} (h : size E t = some n) (w : World) : (sizeOf t).run E.P w = .ok n w := by
  obtain ⟨i, hi, rfl⟩ := size_TI h
  exact run_sizeTI hE hi w

theorem run_sizeP {t n : Nat} (h : sizeP E t = some n) (w : World) : (sizeOf t).run E.P w = .ok n w := by
  obtain ⟨i, hi, rfl, -⟩ := sizeP_TI h
  exact run_sizeTI hE hi w

theorem run_aggTI {t : TypeId} {i : TI} (h : E.types.get t = some i) (w : World) : (isAgg t).run E.P w = .ok i.agg w := by
  obtain ⟨info, h1, rfl, d, hd⟩ := hE.types t i h
  have hu : und E t = some d := by unfold und; rw [h]; exact hd
  have : (mkTI E.P info).agg = aggOf (some d) := by
    simp only [mkTI] at hd ⊢; rw [hd]
  rw [this]
  simp only [isAgg, Sem.run_bind, run_und hE hu, Result.andThen_ok]
  cases d <;> rfl

/-- A reading comes to a value. -/
def ValS (E : Env) (β : Bt) (w : World) (s : Sem Value) (v : Value) : Prop := ∃ v', s.run E.P w = .ok v' w ∧ VR β v v'

theorem loadVS {B : Nat} {W : World} {β : Bt} {σ : St} {w : World} (h : Rel E.P B W β σ w) {a : Addr} {l : Loc} (hl : β a.block a.spot = some l) {t : TypeId} {v : Value}
    (hv : loadV E σ t a = some v) : ValS E β w (loadVar t ⟨l.blk, a.off + l.off, none⟩) v := by
  obtain ⟨i, hi, h2⟩ := ob_eq_some.1 hv
  unfold loadTI at h2
  simp only [ValS, loadVar, Sem.run_bind, run_aggTI hE hi, Result.andThen_ok]
  rw [bc_eq_some] at h2
  rcases h2 with ⟨ha, h2⟩ | ⟨ha, h2⟩
  · obtain ⟨cs, hcs, h3⟩ := ob_eq_some.1 h2
    obtain ⟨cs', hr, hvr, -⟩ := h.loadN hl hcs
    rw [if_pos ha]
    simp only [Sem.run_bind, run_sizeTI hE hi, Result.andThen_ok, hr, Sem.run_pure]
    obtain rfl : Value.agg ⟨cs⟩ = v := by simpa using h3
    exact ⟨_, rfl, .agg cs cs' hvr.1 hvr.2⟩
  · obtain ⟨cs, hcs, h3⟩ := ob_eq_some.1 h2
    obtain ⟨cs', hr, hvr, -⟩ := h.loadN hl hcs
    obtain rfl := one_eq h3
    obtain ⟨v', r, rfl, h4, h5⟩ := hvr.cons_inv
    obtain rfl := h5.nil_inv
    rw [if_neg (by rw [ha]; simp)]
    exact ⟨v', load_one hr, h4⟩

theorem loadOpS {B : Nat} {W : World} {β : Bt} {σ : St} {w : World} (h : Rel E.P B W β σ w) {t : TypeId} {x x' : Value} {r : OpR} (hx : VR β x x') (hr : loadOp E σ t x = some r) :
    ∃ v, r = .ld v ∧ ValS E β w (Instr.loadAt t x') v := by
  obtain ⟨a, ha, h2⟩ := ob_eq_some.1 hr
  obtain rfl := pointerOf_eq ha
  obtain ⟨v, hv, h3⟩ := ob_eq_some.1 h2
  obtain ⟨l, hl, rfl⟩ := VR.ptr_inv hx
  refine ⟨v, by simpa using h3.symm, ?_⟩
  have := loadVS hE h hl hv
  simpa [ValS, Instr.loadAt, Instr.sureAddr] using this

theorem fieldAddrS {β : Bt} {w : World} {s : TypeId} {x x' : Value} {i : Nat} {r : OpR} (hx : VR β x x') (hr : fieldAddrV E s x i = some r) :
    ∃ v, r = .val v ∧ ValS E β w (Instr.fieldAt s x' i) v := by
  obtain ⟨d, hd, h2⟩ := ob_eq_some.1 hr
  obtain ⟨fs, hfs, h3⟩ := ob_eq_some.1 h2
  obtain ⟨f, hf, h4⟩ := ob_eq_some.1 h3
  obtain ⟨n, hn, h5⟩ := ob_eq_some.1 h4
  obtain ⟨a, ha, h6⟩ := ob_eq_some.1 h5
  rw [bc_none_eq_some] at h6
  obtain ⟨h0, h6⟩ := h6
  obtain ⟨fa, rfl, hfa⟩ := fieldsOf_eq hfs
  obtain rfl := pointerOf_eq ha
  obtain ⟨l, hl, rfl⟩ := VR.ptr_inv hx
  rw [nth_eq, ← hfa, Array.getElem?_toList] at hf
  obtain ⟨ti, hti, hsz, hn1⟩ := sizeP_TI hn
  refine ⟨_, by simpa using h6.symm, .pointer (some ⟨l.blk, a.off + l.off + f.offset, none⟩), ?_, .ptr_at hl f.offset⟩
  simp only [Instr.fieldAt, Sem.run_bind, run_und hE hd, Result.andThen_ok, hf, Instr.sureAddr, Sem.run_pure, fieldPlace, run_sizeP hE hn, Sem.run_ite]
  rw [if_neg (by omega)]
  simp [addr_add]

theorem indexAddrS {β : Bt} {w : World} (hz : ∀ s, β 0 s = none) {t : TypeId} {x x' ix ix' : Value} {r : OpR} (hx : VR β x x') (hi : VR β ix ix') (hr : indexAddrV E t x ix = some r) :
    ∃ v, r = .val v ∧ ValS E β w (Instr.indexAt t x' ix') v := by
  obtain ⟨i, hni, h2⟩ := ob_eq_some.1 hr
  obtain ⟨d, hd, h3⟩ := ob_eq_some.1 h2
  obtain ⟨k, rfl⟩ := natOf_eq hni
  obtain rfl := VR.int_inv hi
  unfold indexAddrD at h3
  split at h3
  · rename_i el
    obtain ⟨p, hp, h4⟩ := ob_eq_some.1 h3
    obtain ⟨sz, hsz, h5⟩ := ob_eq_some.1 h4
    obtain ⟨lb, rfl⟩ := someSlice_eq hp
    have hb : p.1.block ≠ 0 := by
      unfold elemAddr at h5
      rw [guardO_eq_some, bc_none_eq_some, beq_false_iff] at h5
      exact h5.2.1
    rcases VR.slice_inv hz hx with ⟨l, cap, hl, rfl, -, -, -, -⟩ | ⟨ha, -⟩ | ⟨ha, -⟩
    · obtain ⟨hlt, v, rfl, hv⟩ := elemAddrS hl h5
      refine ⟨v, rfl, _, ?_, hv⟩
      simp only [Instr.indexAt, Sem.run_bind, asIntOf, Sem.run_pure, Result.andThen_ok, run_und hE hd, Sem.run_ite, run_sizeP hE hsz]
      rw [if_pos ⟨Int.natCast_nonneg i, by simpa using hlt⟩]
      simp [addr_add]
    · rw [ha] at hb; exact absurd rfl hb
    · rw [ha] at hb; exact absurd rfl hb
  · rename_i n el
    obtain ⟨a, ha, h4⟩ := ob_eq_some.1 h3
    obtain ⟨sz, hsz, h5⟩ := ob_eq_some.1 h4
    obtain rfl := pointerOf_eq ha
    obtain ⟨l, hl, rfl⟩ := VR.ptr_inv hx
    obtain ⟨hlt, v, rfl, hv⟩ := elemAddrS hl h5
    refine ⟨v, rfl, _, ?_, hv⟩
    simp only [Instr.indexAt, Sem.run_bind, asIntOf, Sem.run_pure, Result.andThen_ok, run_und hE hd, Instr.sureAddr, Sem.run_ite, run_sizeP hE hsz]
    rw [if_pos ⟨Int.natCast_nonneg i, by simpa using hlt⟩]
    simp [addr_add]
  · cases h3

end
end Go.Ev
namespace Go.Ev
open Go.RowKit

section
variable {E : Env} {β : Bt} {w : World}

theorem VRL.get {c c' : List Value} (h : VRL β c c') {i : Nat} {v : Value} (hv : c[i]? = some v) : ∃ v', c'[i]? = some v' ∧ VR β v v' := by
  have hi : i < c'.length := by rw [← h.1]; exact (List.getElem?_eq_some_iff.1 hv).1
  exact ⟨c'[i], List.getElem?_eq_getElem hi, h.2 i v _ hv (List.getElem?_eq_getElem hi)⟩

theorem VRL.of_get {c c' : List Value} (hl : c.length = c'.length) (h : ∀ (i : Nat) (v : Value), c[i]? = some v → ∃ v', c'[i]? = some v' ∧ VR β v v') : VRL β c c' :=
  ⟨hl, fun i v v' hv hv' => by
    obtain ⟨u, hu, hr⟩ := h i v hv
    rw [hv'] at hu
    obtain rfl : v' = u := by simpa using hu
    exact hr⟩

theorem VR.agg_inv {c : Array Value} {v' : Value} (h : VR β (.agg c) v') : ∃ c', v' = .agg ⟨c'⟩ ∧ VRL β c.toList c' := by
  cases h with
  | agg _ c' hc h => exact ⟨c', rfl, hc, h⟩
  | pf _ hp =>
    refine ⟨c.toList, rfl, rfl, fun i x x' hx hx' => ?_⟩
    obtain rfl : x = x' := by simpa [hx] using hx'
    exact .pf _ (pf_of_pfS ((allB_iff pfS c.toList).1 hp x (List.mem_of_getElem? hx)))

theorem VR.tuple_inv {c : Array Value} {v' : Value} (h : VR β (.tuple c) v') : ∃ c', v' = .tuple ⟨c'⟩ ∧ VRL β c.toList c' := by
  cases h with
  | tuple _ c' hc h => exact ⟨c', rfl, hc, h⟩
  | pf _ hp =>
    refine ⟨c.toList, rfl, rfl, fun i x x' hx hx' => ?_⟩
    obtain rfl : x = x' := by simpa [hx] using hx'
    exact .pf _ (pf_of_pfS ((allB_iff pfS c.toList).1 hp x (List.mem_of_getElem? hx)))

theorem VR.func_inv {f : FuncId} {p c : Array Value} {v' : Value} (h : VR β (.func (.func f) p c) v') : ∃ p' c', v' = .func (.func f) ⟨p'⟩ ⟨c'⟩ ∧ VRL β p.toList p' ∧ VRL β c.toList c' := by
  cases h with
  | func _ _ p' _ c' hp hc h1 h2 => exact ⟨p', c', rfl, ⟨hp, h1⟩, ⟨hc, h2⟩⟩
  | pf _ hp =>
    obtain ⟨p⟩ := p
    obtain ⟨c⟩ := c
    cases p with
    | cons => simp [Ev.pf, pfS] at hp
    | nil => cases c with
      | cons => simp [Ev.pf, pfS] at hp
      | nil => exact ⟨[], [], rfl, .nil β, .nil β⟩

theorem VR.map_inv {id : Nat} {v' : Value} (h : VR β (.map (some id)) v') : ∃ l, β id none = some l ∧ v' = .map (some l.blk) := by
  cases h with
  | pf _ hp => simp [Ev.pf, pfS] at hp
  | map _ l hl => exact ⟨l, hl, rfl⟩

theorem aggOf_eq {x : Value} {cs : List Value} (h : aggOf? x = some cs) : ∃ c, x = .agg c ∧ c.toList = cs := by
  unfold aggOf? at h
  split at h
  · exact ⟨_, rfl, by simpa using h⟩
  · cases h
theorem tupleOf_eq {x : Value} {cs : List Value} (h : tupleOf? x = some cs) : ∃ c, x = .tuple c ∧ c.toList = cs := by
  unfold tupleOf? at h
  split at h
  · exact ⟨_, rfl, by simpa using h⟩
  · cases h
theorem boolOf_eq {x : Value} {b : Bool} (h : boolOf? x = some b) : x = .bool b := by
  unfold boolOf? at h
  split at h
  · simpa using h
  · cases h
theorem lenOf_eq {x : Value} {n : Nat} (h : lenOf? x = some n) : x = .int .i64 (.ofNat n) := by
  unfold lenOf? at h
  split at h
  · obtain rfl : _ = n := by simpa using h
    rfl
  · cases h

/-- A value alone: whatever the heap. -/
theorem okV_eq {x : Option Value} {r : OpR} (h : okV x = some r) : ∃ v, x = some v ∧ r = .val v := by
  obtain ⟨v, hv, h2⟩ := ob_eq_some.1 h
  exact ⟨v, hv, by simpa using h2.symm⟩

theorem grab_part {cs cs' l : List Value} {n off : Nat} (h : VRL β cs cs') (hg : grab n (skipTo off cs) = some l) :
    VRL β l ((cs'.drop off).take n) ∧ l.length = n ∧ ((cs'.drop off).take n).length = n := by
  rw [skipTo_eq] at hg
  obtain ⟨e1, -, e3⟩ := grab_spec _ _ _ hg
  have hle : ∀ j, j < n → off + j < cs'.length := by
    intro j hj
    have := e3 j hj
    rw [List.getElem?_drop, List.getElem?_eq_getElem (l := l) (by omega)] at this
    rw [← h.1]; exact (List.getElem?_eq_some_iff.1 this).1
  have hlen : ((cs'.drop off).take n).length = n := by
    simp only [List.length_take, List.length_drop]
    cases n with
    | zero => simp
    | succ n => have := hle n (by omega); omega
  refine ⟨VRL.of_get (by omega) fun i v hv => ?_, e1, hlen⟩
  have hi : i < n := by rw [← e1]; exact (List.getElem?_eq_some_iff.1 hv).1
  have := e3 i hi
  rw [List.getElem?_drop, hv] at this
  obtain ⟨v', h1, h2⟩ := h.get this
  refine ⟨v', ?_, h2⟩
  rw [List.getElem?_take, if_pos hi, List.getElem?_drop]; exact h1

theorem extract_take (cs : List Value) (off n : Nat) : (⟨cs⟩ : Array Value).extract off (off + n) = ⟨(cs.drop off).take n⟩ := by
  simp

theorem fold_set (off : Nat) : ∀ (xs : List Value) (k : Nat) (c : Array Value), off + k + xs.length ≤ c.size →
    ∃ c', (xs.zipIdx k).foldl (fun cs p => cs.setIfInBounds (off + p.2) p.1) c = c' ∧ c'.size = c.size ∧ ∀ j, c'[j]? = if off + k ≤ j ∧ j < off + k + xs.length then xs[j - (off + k)]? else c[j]?
  | [], k, c, _ => ⟨c, rfl, rfl, fun j => by rw [if_neg (by simp only [List.length_nil]; omega)]⟩
  | x :: xs, k, c, h => by
    simp only [List.length_cons] at h
    obtain ⟨c', h1, h2, h3⟩ := fold_set off xs (k + 1) (c.setIfInBounds (off + k) x) (by simp only [Array.size_setIfInBounds]; omega)
    refine ⟨c', by simpa [List.zipIdx_cons] using h1, by simpa using h2, fun j => ?_⟩
    rw [h3 j]
    by_cases hj : off + (k + 1) ≤ j ∧ j < off + (k + 1) + xs.length
    · rw [if_pos hj, if_pos (by simp only [List.length_cons]; omega)]
      obtain ⟨m, hm⟩ : ∃ m, j - (off + k) = m + 1 := ⟨j - (off + k) - 1, by omega⟩
      rw [hm, List.getElem?_cons_succ]
      congr 1
      omega
    · rw [if_neg hj]
      by_cases hj2 : j = off + k
      · subst hj2
        rw [if_pos (by simp only [List.length_cons]; omega)]
        have : off + k < c.size := by omega
        simp [this]
      · rw [if_neg (by simp only [List.length_cons]; omega), Array.getElem?_setIfInBounds_ne (by omega)]

/-- Parts laid into cells, against the model's. -/
theorem fillS (place : Nat → Option (Nat × Nat)) {tm : TM} {ρ : Operand → Value} : ∀ (ps : List (Nat × Operand)) (z cs : List Value) (z' : Array Value),
    (∀ p ∈ ps, VR β (evX tm p.2) (ρ p.2)) → VRL β z z'.toList → fillL place tm ps z = some cs →
    ∃ c', Instr.fill place z' (ps.map fun p => (p.1, ρ p.2)) = some c' ∧ VRL β cs c'.toList
  | [], z, cs, z', _, hz, h => by
    obtain rfl : z = cs := by change some z = some cs at h; simpa using h
    exact ⟨z', rfl, hz⟩
  | p :: ps, z, cs, z', hx, hz, h => by
    change ob (place p.1) (fun q => ob (fillOne q.2 q.1 z (cellsOfV (evX tm p.2))) (fillL place tm ps)) = some cs at h
    obtain ⟨⟨off, sz⟩, hq, h2⟩ := ob_eq_some.1 h
    obtain ⟨z1, hz1, h3⟩ := ob_eq_some.1 h2
    simp only [fillOne, guardO_eq_some, beq_iff] at hz1
    obtain ⟨e1, -, e2⟩ := hz1
    obtain ⟨f1, f2, f3⟩ := putAt_spec _ _ _ _ e2
    have hv := (hx p (by simp)).cells
    rw [cellsOfV_eq (ρ p.2)] at hv
    have hsz : (ρ p.2).cells.size = sz := by rw [← Array.length_toList, ← hv.1]; exact e1
    have hfit : off + sz ≤ z'.size := by rw [← Array.length_toList, ← hz.1]; omega
    obtain ⟨c1, g1, g2, g3⟩ := fold_set off (ρ p.2).cells.toList 0 z' (by rw [Array.length_toList, hsz]; omega)
    have hz' : VRL β z1 c1.toList := by
      refine VRL.of_get (by rw [f2, hz.1, Array.length_toList, Array.length_toList, g2]) fun i v hi => ?_
      rw [f3 i] at hi
      rw [Array.getElem?_toList, g3 i, Nat.add_zero]
      by_cases hc : off ≤ i ∧ i < off + (cellsOfV (evX tm p.2)).length
      · rw [if_pos hc] at hi
        rw [if_pos (by rw [← hv.1]; exact hc)]
        exact hv.get hi
      · rw [if_neg hc] at hi
        rw [if_neg (by rw [← hv.1]; exact hc), ← Array.getElem?_toList]
        exact hz.get hi
    obtain ⟨c', h4, h5⟩ := fillS place ps z1 cs c1 (fun q hq => hx q (by simp [hq])) hz' h3
    refine ⟨c', ?_, h5⟩
    simp only [List.map_cons, Instr.fill, hq]
    rw [if_neg (by rw [hsz]; simp; omega)]
    have : ((ρ p.2).cells.zipIdx.foldl (fun cs (x : Value × Nat) => match x with | (c, j) => cs.setIfInBounds (off + j) c) z') = c1 := by
      rw [← g1, ← Array.foldl_toList, Array.toList_zipIdx]
    rw [this]
    exact h4

theorem runPure_run {P : Program} (w : World) : ∀ (s : Sem Next) (v : Value), runPure P s = some v → s.run P w = .ok (.value v) w := by
  intro s
  induction s with
  | pure a =>
    intro v h
    cases a with
    | value u => simp only [runPure, Option.some.injEq] at h; rw [h]; rfl
    | _ => simp [runPure] at h
  | program k ih => intro v h; simp only [runPure] at h; exact ih P v h
  | _ => intro v h; simp [runPure] at h

theorem slowS {tm : TM} {a : Act} {o : Oper} {r : OpR} (hx : ∀ x ∈ o.op.operands, VR β (evX tm x) (a.eval x)) (hs : ∀ cs b, o.op ≠ .select cs b) (hr : slowOp E tm o = some r) :
    ∃ v, r = .val v ∧ pf v = true ∧ ∀ w, (execOp a.eval o).run E.P w = .ok (.value v) w := by
  simp only [slowOp, guardO_eq_some] at hr
  obtain ⟨h1, h2⟩ := hr
  obtain ⟨v, hv, h3⟩ := ob_eq_some.1 h2
  rw [guardO_eq_some] at h3
  have he : execOp a.eval o = execOp (evX tm) o := execOp_congr o hs fun x hxm =>
    (hx x hxm).of_pf ((allB_iff _ _).1 h1 x (by simpa using hxm))
  exact ⟨v, by simpa using h3.2.symm, h3.1, fun w => by rw [he]; exact runPure_run w _ _ hv⟩

theorem wrapF_eq (k : IntKind) (n : Int) : wrapF k n = k.wrap n := by
  have key : ∀ (m lo : Nat) (k : IntKind), (∀ a : Nat, a ≤ m → k.wrap (.ofNat a) = .ofNat a) → (∀ a : Nat, a + 1 ≤ lo → k.wrap (.negSucc a) = .negSucc a) → wrapIn m lo k n = k.wrap n := by
    intro m lo k h1 h2
    unfold wrapIn
    cases n with
    | ofNat a =>
      show bc (Nat.ble a m) _ _ = _
      rw [bc_eq]; split
      · rename_i h; exact (h1 a (ble_iff.1 h)).symm
      · rfl
    | negSucc a =>
      show bc (Nat.ble (a + 1) lo) _ _ = _
      rw [bc_eq]; split
      · rename_i h; exact (h2 a (ble_iff.1 h)).symm
      · rfl
  cases k with
  | i64 => exact key _ _ .i64 (fun a h => IntWalk.i64_in _ (by simp only [Int.ofNat_eq_natCast]; omega)) (fun a h => IntWalk.i64_in _ (by rw [Int.negSucc_eq]; omega))
  | u8 =>
    refine key _ _ .u8 (fun a h => ?_) (fun a h => by omega)
    show (Int.ofNat a) % (2 ^ 8 : Int) = Int.ofNat a
    simp only [Int.ofNat_eq_natCast]
    omega
  | u64 =>
    refine key _ _ .u64 (fun a h => ?_) (fun a h => by omega)
    show (Int.ofNat a) % (2 ^ 64 : Int) = Int.ofNat a
    simp only [Int.ofNat_eq_natCast]
    omega
  | _ => rfl

theorem ltB_eq (a b : Int) : ltB a b = decide (a < b) := by
  rw [Bool.eq_iff_iff, decide_eq_true_iff]
  cases a <;> cases b <;> simp only [ltB, ble_iff, Int.ofNat_eq_natCast, Int.negSucc_eq, Bool.false_eq_true, true_iff, false_iff] <;> omega
theorem eqB_eq (a b : Int) : eqB a b = decide (a = b) := by
  rw [Bool.eq_iff_iff, decide_eq_true_iff]
  cases a <;> cases b <;> simp only [eqB, beq_iff, Int.ofNat_eq_natCast, Int.negSucc_eq, Bool.false_eq_true, false_iff] <;> omega
theorem eqK_eq {a b : IntKind} (h : eqK a b = true) : a = b := by
  cases a <;> cases b <;> first | rfl | cases h

theorem fastS {b : BinOp} {x y v : Value} {x' y' : Operand} {ty : TypeId} (h : fastInts b x y = some v) : pf x = true ∧ pf y = true ∧ pf v = true ∧
    ∀ w, (do eqGuard b ty x' y' x y; binOp b ty x y : Sem Value).run E.P w = .ok v w := by
  unfold fastInts at h
  split at h
  · rename_i j a k c
    rw [guardO_eq_some] at h
    obtain ⟨h1, h2⟩ := h
    obtain rfl := eqK_eq h1
    refine ⟨rfl, rfl, ?_, fun w => ?_⟩
    · cases b <;> simp only [fastBin, intV, booV, Option.some.injEq, reduceCtorEq] at h2 <;> (cases h2; rfl)
    · cases b <;> simp only [fastBin, intV, booV, Option.some.injEq, reduceCtorEq] at h2
      all_goals
        cases h2
        simp only [eqGuard, binOp, Op.intArith, Op.intCmp, wrapF_eq, ltB_eq, eqB_eq, ne_eq, not_true_eq_false, if_false]
        first
          | rfl
          | (show Result.ok _ w = _
             congr 2
             rw [Bool.eq_iff_iff]
             simp
             try omega)
  · cases h

end
end Go.Ev
namespace Go.Ev
open Go.RowKit

section
variable {E : Env} {β : Bt} {w : World}

theorem evL_eq (tm : TM) (l : List Operand) : evL tm l = l.map (evX tm) := by
  induction l with
  | nil => rfl
  | cons x r ih => show evX tm x :: evL tm r = _; rw [ih]; rfl

theorem evL_VRL {tm : TM} {ρ : Operand → Value} : ∀ {l : List Operand}, (∀ x ∈ l, VR β (evX tm x) (ρ x)) → VRL β (evL tm l) (l.map ρ)
  | [], _ => .nil β
  | x :: r, h => .cons (h x (by simp)) (evL_VRL fun y hy => h y (by simp [hy]))

theorem VRL.self {c : List Value} (h : ∀ x ∈ c, pfS x = true) : VRL β c c :=
  ⟨rfl, fun i v v' hv hv' => by
    obtain rfl : v = v' := by simpa [hv] using hv'
    exact .pf _ (pf_of_pfS (h v (List.mem_of_getElem? hv)))⟩

theorem boundOf_eq {v : Value} {m n : Nat} (h : boundOf v m = some n) : n ≤ m ∧ ∃ k, v = .int k (.ofNat n) := by
  obtain ⟨x, hx, h2⟩ := ob_eq_some.1 h
  rw [guardO_eq_some, ble_iff] at h2
  obtain rfl : x = n := by simpa using h2.2
  exact ⟨h2.1, natOf_eq hx⟩

theorem run_sliceBound {P : Program} {v v' : Value} {m n : Nat} {code : BoundsCode} (hv : VR β v v') (h : boundOf v m = some n) {y : Nat} (hy : m ≤ y) (w : World) :
    (Instr.sliceBound v' y code).run P w = .ok n w := by
  obtain ⟨h1, k, rfl⟩ := boundOf_eq h
  obtain rfl := VR.int_inv hv
  simp only [Instr.sliceBound, asIntOf, Sem.run_bind, Sem.run_pure, Result.andThen_ok, Sem.run_ite]
  rw [if_pos ⟨Int.natCast_nonneg n, by simp; omega⟩]
  rfl

/-- Two optional operands. -/
def VRO (β : Bt) : Option Value → Option Value → Prop
  | none, none => True
  | some v, some v' => VR β v v'
  | _, _ => False

theorem VRO.of {tm : TM} {ρ : Operand → Value} {x : Option Operand} (h : ∀ y, x = some y → VR β (evX tm y) (ρ y)) : VRO β (optX tm x) (x.map ρ) := by
  cases x with
  | none => trivial
  | some y => exact h y rfl

theorem extractS {x x' : Value} {i : Nat} {r : OpR} (hx : VR β x x') (hr : extractV x i = some r) :
    ∃ v, r = .val v ∧ ValS E β w (Instr.extract x' i) v := by
  obtain ⟨vs, hvs, h2⟩ := ob_eq_some.1 hr
  obtain ⟨v, hv, rfl⟩ := okV_eq h2
  obtain ⟨c, rfl, rfl⟩ := tupleOf_eq hvs
  obtain ⟨c', rfl, hc⟩ := VR.tuple_inv hx
  rw [nth_eq] at hv
  obtain ⟨v', h3, h4⟩ := hc.get hv
  refine ⟨v, rfl, v', ?_, h4⟩
  have : (⟨c'⟩ : Array Value)[i]? = some v' := by simpa using h3
  simp only [Instr.extract, this]
  rfl

theorem run_mapM {α γ : Type} {P : Program} (f : α → Sem γ) (g : α → γ) (a : Array α) (h : ∀ x ∈ a, (f x).run P w = .ok (g x) w) : (a.mapM f).run P w = .ok (a.map g) w := by
  rw [Array.mapM_eq_mapM_toList]
  have key : ∀ (l : List α), (∀ x ∈ l, (f x).run P w = .ok (g x) w) → (l.mapM f).run P w = .ok (l.map g) w := by
    intro l
    induction l with
    | nil => intro _; rfl
    | cons x r ih =>
      intro hx
      simp only [List.mapM_cons, Sem.run_bind, hx x (by simp), Result.andThen_ok, ih (fun y hy => hx y (by simp [hy])), Sem.run_pure, List.map_cons]
  simp only [Sem.run_map, key a.toList (fun x hx => h x (by simpa using hx)), Result.andThen_ok]
  congr 1
  apply Array.ext'
  simp

end

section
variable {E : Env} (hE : EnvOK E) {β : Bt} {w : World}
include hE

theorem partS {cs cs' : List Value} (h : VRL β cs cs') {t : TypeId} {off : Nat} {v : Value} (hv : partV E t cs off = some v) : ValS E β w (part t ⟨cs'⟩ off) v := by
  obtain ⟨i, hi, h2⟩ := ob_eq_some.1 hv
  unfold partTI at h2
  simp only [ValS, part, Sem.run_bind, run_aggTI hE hi, Result.andThen_ok]
  rw [bc_eq_some] at h2
  rcases h2 with ⟨ha, h2⟩ | ⟨ha, h2⟩
  · obtain ⟨l, hl, h3⟩ := ob_eq_some.1 h2
    obtain ⟨g1, -, -⟩ := grab_part h hl
    rw [if_pos ha]
    obtain rfl : Value.agg ⟨l⟩ = v := by simpa using h3
    refine ⟨.agg ⟨(cs'.drop off).take i.size⟩, ?_, .agg _ _ g1.1 g1.2⟩
    simp only [Sem.run_bind, run_sizeTI hE hi, Result.andThen_ok, Sem.run_pure]
    rw [extract_take]
  · obtain ⟨l, hl, h3⟩ := ob_eq_some.1 h2
    obtain ⟨g1, -, -⟩ := grab_part h hl
    obtain rfl := one_eq h3
    obtain ⟨v', r, h4, h5, h6⟩ := g1.cons_inv
    rw [if_neg (by rw [ha]; simp)]
    have h7 : cs'[off]? = some v' := by
      have := congrArg (fun l : List Value => l[0]?) h4
      simp only [List.getElem?_take, List.getElem?_drop] at this
      simpa using this
    refine ⟨v', ?_, h5⟩
    have : (⟨cs'⟩ : Array Value)[off]? = some v' := by simpa using h7
    rw [this]
    rfl

theorem fieldS {s : TypeId} {x x' : Value} {i : Nat} {r : OpR} (hx : VR β x x') (hr : fieldV E s x i = some r) :
    ∃ v, r = .val v ∧ ValS E β w (Instr.field s x' i) v := by
  obtain ⟨d, hd, h2⟩ := ob_eq_some.1 hr
  obtain ⟨fs, hfs, h3⟩ := ob_eq_some.1 h2
  obtain ⟨f, hf, h4⟩ := ob_eq_some.1 h3
  obtain ⟨cs, hcs, h5⟩ := ob_eq_some.1 h4
  obtain ⟨v, hv, rfl⟩ := okV_eq h5
  obtain ⟨fa, rfl, hfa⟩ := fieldsOf_eq hfs
  obtain ⟨c, rfl, rfl⟩ := aggOf_eq hcs
  obtain ⟨c', rfl, hc⟩ := VR.agg_inv hx
  rw [nth_eq, ← hfa, Array.getElem?_toList] at hf
  refine ⟨v, rfl, ?_⟩
  have := partS hE (w := w) hc hv
  simpa [ValS, Instr.field, run_und hE hd, hf, asAgg] using this

theorem indexS {t : TypeId} {x x' ix ix' : Value} {r : OpR} (hx : VR β x x') (hi : VR β ix ix') (hr : indexV E t x ix = some r) :
    ∃ v, r = .val v ∧ ValS E β w (Instr.index t x' ix') v := by
  obtain ⟨i, hni, h2⟩ := ob_eq_some.1 hr
  obtain ⟨d, hd, h3⟩ := ob_eq_some.1 h2
  obtain ⟨k, rfl⟩ := natOf_eq hni
  obtain rfl := VR.int_inv hi
  unfold indexD at h3
  split at h3
  · rename_i n el
    obtain ⟨cs, hcs, h4⟩ := ob_eq_some.1 h3
    obtain ⟨sz, hsz, h5⟩ := ob_eq_some.1 h4
    rw [guardO_eq_some, ble_iff] at h5
    obtain ⟨hlt, h6⟩ := h5
    obtain ⟨v, hv, rfl⟩ := okV_eq h6
    obtain ⟨c, rfl, rfl⟩ := aggOf_eq hcs
    obtain ⟨c', rfl, hc⟩ := VR.agg_inv hx
    refine ⟨v, rfl, ?_⟩
    obtain ⟨v', h7, h8⟩ := partS hE (w := w) hc hv
    refine ⟨v', ?_, h8⟩
    simp only [Instr.index, Sem.run_bind, asIntOf, Sem.run_pure, Result.andThen_ok, run_und hE hd, Sem.run_ite, run_size hE hsz]
    rw [if_pos ⟨Int.natCast_nonneg i, by simp; omega⟩]
    exact h7
  · cases h3

theorem zeroTI_eq {t : TypeId} {z : List Value} (h : zeroCells E t = some z) : ∃ i v, E.types.get t = some i ∧ (zeroValue t).run E.P w = .ok v w ∧ v.cells.toList = z ∧ z.length = i.size ∧ ∀ x ∈ z, pfS x = true := by
  obtain ⟨i, hi, h2⟩ := ob_eq_some.1 h
  obtain ⟨v, hv, h3⟩ := ob_eq_some.1 h2
  rw [guardO_eq_some, guardO_eq_some, beq_iff, allB_iff] at h3
  obtain ⟨h4, h5, h6⟩ := h3
  obtain rfl : cellsOfV v = z := by simpa using h6
  obtain ⟨info, h7, rfl, h8⟩ := run_info hE hi w
  refine ⟨_, v, hi, ?_, (cellsOfV_eq v).symm, h4, h5⟩
  simp only [mkTI] at hv
  simp only [zeroValue, Sem.run_bind, h8, Result.andThen_ok, hv, Sem.run_pure]

theorem fieldsPlaces_eq : ∀ (l : List Field) (pl : List (Nat × Nat)), fieldsPlaces E l = some pl → ∃ g : Field → Nat × Nat, pl = l.map g ∧ ∀ f ∈ l, ∀ w, (do pure (f.offset, ← sizeOf f.type) : Sem (Nat × Nat)).run E.P w = .ok (g f) w
  | l, pl, h => by
    refine ⟨fun f => (f.offset, E.P.cellsOf f.type), ?_, ?_⟩
    · induction l generalizing pl with
      | nil => change some [] = some pl at h; simpa using h.symm
      | cons f r ih =>
        change ob (size E f.type) (fun n => ob (fieldsPlaces E r) fun l => some ((f.offset, n) :: l)) = some pl at h
        obtain ⟨n, hn, h2⟩ := ob_eq_some.1 h
        obtain ⟨q, hq, h3⟩ := ob_eq_some.1 h2
        obtain rfl : (f.offset, n) :: q = pl := by simpa using h3
        obtain ⟨i, hi, rfl⟩ := size_TI hn
        rw [ih q hq, List.map_cons, cellsOf_TI hE hi]
    · induction l generalizing pl with
      | nil => intro f hf; cases hf
      | cons f r ih =>
        change ob (size E f.type) (fun n => ob (fieldsPlaces E r) fun l => some ((f.offset, n) :: l)) = some pl at h
        obtain ⟨n, hn, h2⟩ := ob_eq_some.1 h
        obtain ⟨q, hq, h3⟩ := ob_eq_some.1 h2
        intro g hg w
        rcases List.mem_cons.1 hg with rfl | hg
        · obtain ⟨i, hi, rfl⟩ := size_TI hn
          simp only [Sem.run_bind, run_sizeTI hE hi, Result.andThen_ok, Sem.run_pure, cellsOf_TI hE hi]
        · exact ih q hq g hg w

theorem buildS {tm : TM} {ρ : Operand → Value} {t : TypeId} {ps : Array (Nat × Operand)} {r : OpR} (hx : ∀ p ∈ ps, VR β (evX tm p.2) (ρ p.2)) (hr : buildV E tm t ps.toList = some r) :
    ∃ v, r = .val v ∧ ValS E β w (Instr.build t (ps.map fun p => (p.1, ρ p.2))) v := by
  obtain ⟨z, hz, h2⟩ := ob_eq_some.1 hr
  obtain ⟨d, hd, h3⟩ := ob_eq_some.1 h2
  obtain ⟨i, zv, hi, hzr, hzc, -, hzp⟩ := zeroTI_eq hE (w := w) hz
  have hzz : VRL β z zv.cells.toList := by rw [hzc]; exact VRL.self hzp
  have hxl : ∀ p ∈ ps.toList, VR β (evX tm p.2) (ρ p.2) := fun p hp => hx p (by simpa using hp)
  unfold buildD at h3
  split at h3
  · rename_i fs
    obtain ⟨pl, hpl, h4⟩ := ob_eq_some.1 h3
    obtain ⟨cs, hcs, h5⟩ := ob_eq_some.1 h4
    obtain rfl : OpR.val (.agg ⟨cs⟩) = r := by simpa using h5
    obtain ⟨g, rfl, hg⟩ := fieldsPlaces_eq hE _ _ hpl
    obtain ⟨c', h6, h7⟩ := fillS (nth (fs.toList.map g)) (tm := tm) (ρ := ρ) ps.toList z cs zv.cells hxl hzz hcs
    refine ⟨_, rfl, .agg c', ?_, .agg cs c'.toList h7.1 h7.2⟩
    simp only [Instr.build, Sem.run_bind, hzr, Result.andThen_ok, run_und hE hd]
    rw [run_mapM (P := E.P) _ g fs (fun f hf => hg f (by simpa using hf) w)]
    simp only [Result.andThen_ok]
    have : (fun i => (fs.map g)[i]?) = nth (fs.toList.map g) := by
      funext j; rw [nth_eq]; simp
    rw [this]
    have e : (ps.map fun p => (p.1, ρ p.2)).toList = ps.toList.map fun p => (p.1, ρ p.2) := by simp
    rw [e, h6]
    rfl
  · rename_i n el
    obtain ⟨sz, hsz, h4⟩ := ob_eq_some.1 h3
    obtain ⟨cs, hcs, h5⟩ := ob_eq_some.1 h4
    obtain rfl : OpR.val (.agg ⟨cs⟩) = r := by simpa using h5
    obtain ⟨c', h6, h7⟩ := fillS (fun i => some (Nat.mul i sz, sz)) (tm := tm) (ρ := ρ) ps.toList z cs zv.cells hxl hzz hcs
    refine ⟨_, rfl, .agg c', ?_, .agg cs c'.toList h7.1 h7.2⟩
    simp only [Instr.build, Sem.run_bind, hzr, Result.andThen_ok, run_und hE hd, run_size hE hsz]
    have e : (ps.map fun p => (p.1, ρ p.2)).toList = ps.toList.map fun p => (p.1, ρ p.2) := by simp
    rw [e]
    have h6' : Instr.fill (fun i => some (i * sz, sz)) zv.cells (ps.toList.map fun p => (p.1, ρ p.2)) = some c' := h6
    rw [h6']
    rfl
  · cases h3

end
end Go.Ev
namespace Go.Ev
open Go.RowKit

section
variable {E : Env} {β : Bt} {w : World}

theorem VR.ptr_any {a : Option Addr} {v' : Value} (h : VR β (.pointer a) v') : ∃ a', v' = .pointer a' ∧ a'.isSome = a.isSome := by
  cases a with
  | none => exact ⟨none, h.of_pf rfl, rfl⟩
  | some a => obtain ⟨l, -, rfl⟩ := VR.ptr_inv h; exact ⟨_, rfl, rfl⟩
theorem VR.slice_any {a : Option Addr} {n c : Nat} {v' : Value} (h : VR β (.slice a n c) v') : ∃ a' c', v' = .slice a' n c' ∧ a'.isSome = a.isSome := by
  cases a with
  | none => exact ⟨none, c, h.of_pf rfl, rfl⟩
  | some a =>
    cases h with
    | pf _ hp => simp [Ev.pf, pfS] at hp
    | slice _ l _ _ cap _ _ _ _ => exact ⟨_, cap, rfl, rfl⟩
    | zsl b => exact ⟨_, 0, rfl, rfl⟩
    | dsl b cap => exact ⟨_, cap, rfl, rfl⟩
theorem VR.map_any {a : Option Nat} {v' : Value} (h : VR β (.map a) v') : ∃ a', v' = .map a' ∧ a'.isSome = a.isSome := by
  cases a with
  | none => exact ⟨none, h.of_pf rfl, rfl⟩
  | some a => obtain ⟨l, -, rfl⟩ := VR.map_inv h; exact ⟨_, rfl, rfl⟩
theorem VR.func_any {f : Fn} {p c : Array Value} {v' : Value} (h : VR β (.func f p c) v') : ∃ f' p' c', v' = .func f' p' c' := by
  cases h with
  | func f p p' c c' _ _ _ _ => exact ⟨_, _, _, rfl⟩
  | pf _ hp => exact ⟨_, _, _, rfl⟩

end

section
variable {E : Env} (hE : EnvOK E) {β : Bt} {w : World}
include hE

theorem equal_run {t : TypeId} {x y x' y' : Value} {b : Bool} (hx : VR β x x') (hy : VR β y y') (h : equalV E t x y = some b) (xo yo : Operand) :
    (do eqGuard .eql t xo yo x' y'; binOp .eql t x' y' : Sem Value).run E.P w = .ok (.bool b) w ∧
    (do eqGuard .neq t xo yo x' y'; binOp .neq t x' y' : Sem Value).run E.P w = .ok (.bool (!b)) w := by
  have fin : (∀ d, (Op.equalIn (d + 1) t x' y').run E.P w = .ok b w) → eqGuard .eql t xo yo x' y' = pure () → eqGuard .neq t xo yo x' y' = pure () →
      (binOp .eql t x' y' = do pure (.bool (← Op.equal t x' y'))) → (binOp .neq t x' y' = do pure (.bool (!(← Op.equal t x' y')))) →
      (do eqGuard .eql t xo yo x' y'; binOp .eql t x' y' : Sem Value).run E.P w = .ok (.bool b) w ∧
      (do eqGuard .neq t xo yo x' y'; binOp .neq t x' y' : Sem Value).run E.P w = .ok (.bool (!b)) w := by
    intro h0 h2 h3 h4 h5
    have h1 : (Op.equal t x' y').run E.P w = .ok b w := h0 9999
    refine ⟨?_, ?_⟩
    · rw [h2, h4, Sem.run_bind, Sem.run_pure, Result.andThen_ok, Sem.run_bind, h1]; rfl
    · rw [h3, h5, Sem.run_bind, Sem.run_pure, Result.andThen_ok, Sem.run_bind, h1]; rfl
  obtain ⟨d, hd, h2⟩ := ob_eq_some.1 h
  have hu := fun w => run_und hE hd w
  split at h2
  · -- pointers
    rename_i el
    split at h2
    · rename_i c
      obtain rfl := hx.of_pf rfl
      obtain ⟨c', rfl, hc⟩ := VR.ptr_any hy
      refine fin ?_ rfl rfl rfl rfl
      intro d
      simp only [Op.equalIn, Sem.run_bind, hu, Result.andThen_ok, Sem.run_pure]
      obtain rfl : (!c.isSome) = b := by simpa using h2
      clear fin
      cases c <;> cases c' <;> simp_all
    · rename_i a
      obtain ⟨l, -, rfl⟩ := VR.ptr_inv hx
      obtain rfl := hy.of_pf rfl
      refine fin ?_ rfl rfl rfl rfl
      intro d
      simp only [Op.equalIn, Sem.run_bind, hu, Result.andThen_ok, Sem.run_pure]
      obtain rfl : false = b := by simpa using h2
      rfl
    · rename_i a c
      obtain ⟨sz, hsz, h3⟩ := ob_eq_some.1 h2
      rw [bc_none_eq_some, guardO_eq_some, beq_iff] at h3
      obtain ⟨h4, h5, h6⟩ := h3
      obtain ⟨l, hl, rfl⟩ := VR.ptr_inv hx
      obtain ⟨l', hl', rfl⟩ := VR.ptr_inv hy
      obtain ⟨i, hi, rfl, hpos⟩ := sizeP_TI hsz
      have ha : a.spot = none := by cases hs : a.spot <;> simp_all
      have hc : c.spot = none := by cases hs : c.spot <;> simp_all
      rw [ha] at hl
      rw [hc, ← h5, hl] at hl'
      obtain rfl : l = l' := by simpa using hl'
      refine fin ?_ rfl rfl rfl rfl
      intro d
      simp only [Op.equalIn, Sem.run_bind, hu, Result.andThen_ok, run_sizeTI hE hi]
      rw [if_pos (by omega)]
      simp only [sameAddr, beq_self_eq_true, if_true]
      obtain rfl : Nat.beq a.off c.off = b := by simpa using h6
      show Result.ok _ w = _
      congr 1
      rw [Bool.eq_iff_iff, beq_iff, beq_iff_eq]
      simp
    · cases h2
  · -- slices
    split at h2
    · rename_i n0 c0 c n1 n2
      obtain rfl := hx.of_pf rfl
      obtain ⟨c', k, rfl, hc⟩ := VR.slice_any hy
      refine fin ?_ rfl rfl rfl rfl
      intro d
      simp only [Op.equalIn, Sem.run_bind, hu, Result.andThen_ok, Sem.run_pure]
      obtain rfl : (!c.isSome) = b := by simpa using h2
      clear fin
      cases c <;> cases c' <;> simp_all
    · obtain ⟨a', k, rfl, hc⟩ := VR.slice_any hx
      obtain rfl := hy.of_pf rfl
      refine fin ?_ rfl rfl rfl rfl
      intro d
      obtain rfl : false = b := by simpa using h2
      cases a' with
      | none => simp at hc
      | some a' =>
        simp only [Op.equalIn, Sem.run_bind, hu, Result.andThen_ok, Sem.run_pure]
    · cases h2
  · -- maps
    split at h2
    · rename_i c
      obtain rfl := hx.of_pf rfl
      obtain ⟨c', rfl, hc⟩ := VR.map_any hy
      refine fin ?_ rfl rfl rfl rfl
      intro d
      simp only [Op.equalIn, Sem.run_bind, hu, Result.andThen_ok, Sem.run_pure]
      obtain rfl : (!c.isSome) = b := by simpa using h2
      clear fin
      cases c <;> cases c' <;> simp_all
    · obtain ⟨a', rfl, hc⟩ := VR.map_any hx
      obtain rfl := hy.of_pf rfl
      refine fin ?_ rfl rfl rfl rfl
      intro d
      obtain rfl : false = b := by simpa using h2
      cases a' with
      | none => simp at hc
      | some a' => simp only [Op.equalIn, Sem.run_bind, hu, Result.andThen_ok, Sem.run_pure]
    · cases h2
  · -- functions
    split at h2
    · obtain rfl := hx.of_pf rfl
      obtain rfl := hy.of_pf rfl
      refine fin ?_ rfl rfl rfl rfl
      intro d
      obtain rfl : true = b := by simpa using h2
      simp only [Op.equalIn, Sem.run_bind, hu, Result.andThen_ok, Sem.run_pure]
    · obtain rfl := hx.of_pf rfl
      obtain ⟨f, p, c, rfl⟩ := VR.func_any hy
      refine fin ?_ rfl rfl rfl rfl
      intro d
      obtain rfl : false = b := by simpa using h2
      simp only [Op.equalIn, Sem.run_bind, hu, Result.andThen_ok, Sem.run_pure]
    · obtain rfl := hy.of_pf rfl
      obtain ⟨f, p, c, rfl⟩ := VR.func_any hx
      refine fin ?_ rfl rfl rfl rfl
      intro d
      obtain rfl : false = b := by simpa using h2
      simp only [Op.equalIn, Sem.run_bind, hu, Result.andThen_ok, Sem.run_pure]
    · cases h2
  · cases h2

end
end Go.Ev
namespace Go.Ev
open Go.RowKit

section
variable {β : Bt}
theorem mapOf_eq {d : TypeDesc} {ke : TypeId × TypeId} (h : mapOf? d = some ke) : d = .map ke.1 ke.2 := by
  unfold mapOf? at h
  split at h
  · obtain rfl : _ = ke := by simpa using h
    rfl
  · cases h

theorem findNow_rel {kd : TypeDesc} {k : Value} : ∀ {es es' : List MapEntry} {i : Nat} {r : Option (Nat × Value)}, MapR β es es' → Instr.findNow kd k es i = some r →
    ∃ r', Instr.findNow kd k es' i = some r' ∧ ((r = none ∧ r' = none) ∨ ∃ j v v', r = some (j, v) ∧ r' = some (j, v') ∧ VR β v v')
  | [], es', i, r, hm, h => by
    obtain rfl : es' = [] := List.eq_nil_of_length_eq_zero (by simpa using hm.1.symm)
    refine ⟨none, rfl, .inl ⟨?_, rfl⟩⟩
    change some none = some r at h
    simpa using h.symm
  | e :: es, es', i, r, hm, h => by
    cases es' with
    | nil => simp [MapR] at hm
    | cons e' es' =>
      have he := hm.2 0 e e' rfl rfl
      have hm' : MapR β es es' := ⟨by simpa using hm.1, fun j x x' hx hx' => hm.2 (j + 1) x x' (by simpa using hx) (by simpa using hx')⟩
      simp only [Instr.findNow] at h ⊢
      rw [he.key]
      cases hs : Instr.sameNow kd k e.key with
      | none => rw [hs] at h; cases h
      | some b =>
        rw [hs] at h
        cases b with
        | true =>
          obtain rfl : some (i, e.val) = r := by simpa using h
          exact ⟨_, rfl, .inr ⟨i, _, _, rfl, rfl, he.val⟩⟩
        | false => exact findNow_rel hm' h
end

section
variable {E : Env} (hE : EnvOK E) {β : Bt} {w : World}
include hE

theorem lenS {B : Nat} {W : World} {σ : St} (h : Rel E.P B W β σ w) {t : TypeId} {x x' : Value} {r : OpR} (ats : Array TypeId) (ty : TypeId) (ha : ats[0]? = some t) (hx : VR β x x')
    (hr : lenV E σ t x = some r) : ∃ v, (r = .val v ∨ r = .ld v) ∧ ValS E β w (Builtin.len_ ats ty #[x']) v := by
  unfold lenV at hr
  split at hr
  · rename_i a n c
    obtain ⟨d, hd, h2⟩ := ob_eq_some.1 hr
    rw [guardO_eq_some] at h2
    obtain ⟨h3, h4⟩ := h2
    obtain ⟨a', c', rfl, -⟩ := VR.slice_any hx
    refine ⟨_, .inl (by simpa using h4.symm), .int .i64 (.ofNat n), ?_, .pf _ rfl⟩
    cases d <;> simp only [isSliceD, Bool.false_eq_true] at h3
    simp [Builtin.len_, ha, run_und hE hd, goInt]
  · rename_i id
    obtain ⟨d, hd, h2⟩ := ob_eq_some.1 hr
    rw [guardO_eq_some] at h2
    obtain ⟨h3, h4⟩ := h2
    obtain ⟨o, ho, h5⟩ := ob_eq_some.1 h4
    obtain ⟨es, hes, h6⟩ := ob_eq_some.1 h5
    obtain ⟨l, hl, rfl⟩ := VR.map_inv hx
    obtain ⟨o', ho', hR, -⟩ := h.obj _ _ _ hl
    obtain rfl : o = o' := by rw [ho] at ho'; simpa using ho'
    cases o with
    | cells => simp [entriesO] at hes
    | map es2 clock =>
      obtain rfl : es2 = es := by simpa [entriesO] using hes
      obtain ⟨es', h7, h8⟩ := hR
      refine ⟨_, .inr (by simpa using h6.symm), .int .i64 (.ofNat es2.length), ?_, .pf _ rfl⟩
      cases d <;> simp only [isMapD, Bool.false_eq_true] at h3
      simp [Builtin.len_, ha, run_und hE hd, goInt, getObj, Sem.run, h7, h8.1]
  · cases hr

theorem capS {t : TypeId} {x x' : Value} {r : OpR} (ats : Array TypeId) (ty : TypeId) (ha : ats[0]? = some t) (hx : VR β x x')
    (hr : capV E t x = some r) : ∃ v, r = .val v ∧ ValS E β w (Builtin.cap_ ats ty #[x']) v := by
  unfold capV at hr
  split at hr
  · obtain ⟨d, hd, h2⟩ := ob_eq_some.1 hr
    rw [guardO_eq_some] at h2
    obtain ⟨h3, h4⟩ := h2
    obtain rfl := hx.of_pf rfl
    refine ⟨_, by simpa using h4.symm, .int .i64 (.ofNat 0), ?_, .pf _ rfl⟩
    cases d <;> simp only [isSliceD, Bool.false_eq_true] at h3
    simp [Builtin.cap_, ha, run_und hE hd, goInt]
  · cases hr

theorem keyOk_pf {k : Value} {kd : TypeDesc} (h : keyOk k kd = true) : pf k = true ∧ ∀ (w : World) (empty : Bool) (kt : TypeId), und E kt = some kd → (Instr.checkKey empty 10000 kt k).run E.P w = .ok () w := by
  have key : pf k = true ∧ ∀ (w : World) (empty : Bool) (kt : TypeId) (n : Nat), und E kt = some kd → (Instr.checkKey empty (n + 1) kt k).run E.P w = .ok () w := by
    unfold keyOk at h
    split at h
    · split at h
      · refine ⟨rfl, fun w empty kt n hk => ?_⟩
        simp [Instr.checkKey, run_und hE hk]
      · cases h
    · split at h
      · refine ⟨rfl, fun w empty kt n hk => ?_⟩
        simp [Instr.checkKey, run_und hE hk]
      · cases h
    · split at h
      · refine ⟨rfl, fun w empty kt n hk => ?_⟩
        simp [Instr.checkKey, run_und hE hk]
      · cases h
    · cases h
  exact ⟨key.1, fun w empty kt hk => key.2 w empty kt 9999 hk⟩

theorem zeroOf_run {t : TypeId} {z : Value} (h : zeroOf E t = some z) (w : World) : (zeroValue t).run E.P w = .ok z w := by
  obtain ⟨i, hi, h2⟩ := ob_eq_some.1 h
  obtain ⟨info, h7, rfl, h8⟩ := run_info hE hi w
  simp only [mkTI] at h2
  simp only [zeroValue, Sem.run_bind, h8, Result.andThen_ok, h2, Sem.run_pure]

theorem lookupS {B : Nat} {W : World} {σ : St} (h : Rel E.P B W β σ w) {t : TypeId} {m m' k k' : Value} {ok : Bool} {r : OpR} (hm : VR β m m') (hk : VR β k k')
    (hr : lookupV E σ t m k ok = some r) : ∃ v, r = .ld v ∧ ValS E β w (Instr.lookup t m' k' ok) v := by
  obtain ⟨d, hd, h2⟩ := ob_eq_some.1 hr
  obtain ⟨ke, hke, h3⟩ := ob_eq_some.1 h2
  obtain ⟨kd, hkd, h4⟩ := ob_eq_some.1 h3
  rw [guardO_eq_some] at h4
  obtain ⟨hkey, h5⟩ := h4
  obtain ⟨es, hes, h6⟩ := ob_eq_some.1 h5
  obtain ⟨f, hf, h7⟩ := ob_eq_some.1 h6
  obtain rfl := mapOf_eq hke
  obtain ⟨hkp, hck⟩ := keyOk_pf hE hkey
  obtain rfl := hk.of_pf hkp
  have hrun : ∀ (es' : Array MapEntry), MapR β es es'.toList → (∀ f', (Instr.findKey ke.1 k' es'.toList).run E.P w = .ok f' w →
        (∀ v v2 b, (f' = some v ∧ v2 = v.2 ∧ b = true ∨ f' = none ∧ b = false ∧ (zeroValue ke.2).run E.P w = .ok v2 w) →
          (Instr.lookup t m' k' ok).run E.P w = .ok (if ok then .tuple #[v2, .bool b] else v2) w)) →
      ∃ v, r = .ld v ∧ ValS E β w (Instr.lookup t m' k' ok) v := by
    intro es' hmr hrun
    obtain ⟨f', hf', hff⟩ := findNow_rel hmr hf
    have hfind : (Instr.findKey ke.1 k' es'.toList).run E.P w = .ok f' w := by
      simp only [Instr.findKey, Sem.run_bind, run_und hE hkd, Result.andThen_ok, hf', Sem.run_pure]
    have hrun := hrun f' hfind
    unfold foundV at h7
    split at h7
    · rename_i p
      rcases hff with ⟨hn, -⟩ | ⟨j, v, v', hj, rfl, hv⟩
      · cases hn
      · obtain rfl : p = (j, v) := by simpa using hj
        refine ⟨_, by simpa using h7.symm, _, hrun (j, v') v' true (.inl ⟨rfl, rfl, rfl⟩), ?_⟩
        cases ok with
        | false => exact hv
        | true => exact VR.tuple [v, .bool true] [v', .bool true] rfl (VRL.cons hv (VRL.cons (VR.pf _ rfl) (.nil β))).2
    · rcases hff with ⟨-, rfl⟩ | ⟨j, v, v', hj, -⟩
      · obtain ⟨z, hz, h8⟩ := ob_eq_some.1 h7
        rw [guardO_eq_some] at h8
        refine ⟨_, by simpa using h8.2.symm, _, hrun (0, z) z false (.inr ⟨rfl, rfl, zeroOf_run hE hz w⟩), ?_⟩
        cases ok with
        | false => exact VR.pf _ h8.1
        | true => exact VR.tuple [z, .bool false] [z, .bool false] rfl (VRL.cons (VR.pf _ h8.1) (VRL.cons (VR.pf _ rfl) (.nil β))).2
      · cases hj
  have hck' := fun w e => hck w e ke.1 hkd
  unfold entriesOf at hes
  split at hes
  · obtain rfl := hm.of_pf rfl
    obtain rfl : [] = es := by simpa using hes
    refine hrun #[] ⟨rfl, fun i e e' he => by simp at he⟩ fun f' hf' v v2 b hc => ?_
    have hf'' : (Instr.findKey ke.1 k' []).run E.P w = .ok f' w := hf'
    rcases hc with ⟨rfl, rfl, rfl⟩ | ⟨rfl, rfl, hz⟩
    · simp [Instr.lookup, run_und hE hd, hck', hf'']
    · simp [Instr.lookup, run_und hE hd, hck', hf'', hz]
  · obtain ⟨o, ho, h8⟩ := ob_eq_some.1 hes
    obtain ⟨l, hl, rfl⟩ := VR.map_inv hm
    obtain ⟨o', ho', hR, -⟩ := h.obj _ _ _ hl
    obtain rfl : o = o' := by rw [ho] at ho'; simpa using ho'
    cases o with
    | cells => simp [entriesO] at h8
    | map es2 clock =>
      obtain rfl : es2 = es := by simpa [entriesO] using h8
      obtain ⟨es', h9, h10⟩ := hR
      refine hrun es' h10 fun f' hf' v v2 b hc => ?_
      rcases hc with ⟨rfl, rfl, rfl⟩ | ⟨rfl, rfl, hz⟩
      · simp [Instr.lookup, run_und hE hd, hck', hf', getObj, Sem.run, h9]
      · simp [Instr.lookup, run_und hE hd, hck', hf', hz, getObj, Sem.run, h9]
  · cases hes

end
end Go.Ev
namespace Go.Ev
open Go.RowKit

section
variable {E : Env} {β : Bt} {w : World}

theorem boundOr_eq {P : Program} {x x' : Option Value} {d m n y : Nat} (hv : VRO β x x') (h : boundOr x d m = some n) (hy : m ≤ y) (code : BoundsCode) :
    (x = none ∧ x' = none ∧ n = d) ∨ ∃ v v', x = some v ∧ x' = some v' ∧ n ≤ m ∧ ∀ w : World, (Instr.sliceBound v' y code).run P w = .ok n w := by
  cases x with
  | none =>
    cases x' with
    | none => exact .inl ⟨rfl, rfl, by change some d = some n at h; simpa using h.symm⟩
    | some v' => exact hv.elim
  | some v =>
    cases x' with
    | none => exact hv.elim
    | some v' =>
      have hb : boundOf v m = some n := h
      exact .inr ⟨v, v', rfl, rfl, (boundOf_eq hb).1, fun w => run_sliceBound hv hb hy w⟩

/-- The bounds of a slice expression without a third index. -/
theorem bounds_run {P : Program} {lo lo' hi hi' : Option Value} {d m h k y len : Nat} (s : Bool) (hlo : VRO β lo lo') (hhi : VRO β hi hi') (h1 : boundOr hi d m = some h) (h2 : boundOr lo 0 h = some k)
    (hd : d = len) (hm : m ≤ y) (w : World) : (Instr.sliceBounds s len y lo' hi' none).run P w = .ok (k, h, y) w ∧ k ≤ h ∧ (h ≤ m ∨ h = len) := by
  subst hd
  have hk : k ≤ h := by
    rcases boundOr_eq (P := P) hlo h2 (Nat.le_refl h) .sliceB with ⟨-, -, rfl⟩ | ⟨v, v', -, -, h3, -⟩
    · exact Nat.zero_le _
    · exact h3
  have hcode := boundOr_eq (P := P) hhi h1 hm (if s then .sliceAcap else .sliceAlen)
  have hcode2 := boundOr_eq (P := P) hlo h2 (Nat.le_refl h) .sliceB
  refine ⟨?_, hk, ?_⟩
  · rcases hcode with ⟨-, rfl, rfl⟩ | ⟨v, v', -, rfl, -, hr⟩ <;> rcases hcode2 with ⟨-, rfl, rfl⟩ | ⟨u, u', -, rfl, -, hr2⟩ <;>
      simp [Instr.sliceBounds, *]
  · rcases hcode with ⟨-, -, rfl⟩ | ⟨v, v', -, -, h3, -⟩
    · exact .inr rfl
    · exact .inl h3

end

section
variable {E : Env} (hE : EnvOK E) {β : Bt} {w : World}
include hE

theorem sliceS {B : Nat} {W : World} {σ : St} (h : Rel E.P B W β σ w) {t : TypeId} {x x' : Value} {lo lo' hi hi' mxm mxm' : Option Value} {r : OpR} (hx : VR β x x') (hlo : VRO β lo lo')
    (hhi : VRO β hi hi') (hmx : VRO β mxm mxm') (hr : sliceV E σ t x lo hi mxm = some r) : ∃ v, (r = .val v ∨ r = .ld v) ∧ ValS E β w (Instr.sliceAt t x' lo' hi' mxm') v := by
  obtain ⟨d, hd, h2⟩ := ob_eq_some.1 hr
  cases d with
  | slice el =>
    obtain ⟨sz, hsz, h3⟩ := ob_eq_some.1 h2
    unfold sliceSl at h3
    split at h3
    · -- nil
      obtain rfl := hx.of_pf rfl
      obtain ⟨m, hm, h4⟩ := ob_eq_some.1 h3
      obtain ⟨hh, hhh, h5⟩ := ob_eq_some.1 h4
      obtain ⟨k, hk, h6⟩ := ob_eq_some.1 h5
      rw [bc_none_eq_some] at h6
      obtain ⟨h7, h8⟩ := h6
      refine ⟨.slice none 0 0, .inl (by simpa using h8.symm), .slice none 0 0, ?_, VR.pf _ rfl⟩
      have e1 := boundOr_eq (P := E.P) hmx hm (Nat.le_refl 0) .slice3Acap
      have e2 := boundOr_eq (P := E.P) hhi hhh (Nat.le_refl 0) .slice3B
      have e2' := boundOr_eq (P := E.P) hhi hhh (Nat.le_refl 0) .sliceAcap
      have e3 := boundOr_eq (P := E.P) hlo hk (Nat.le_refl 0) .slice3C
      have e3' := boundOr_eq (P := E.P) hlo hk (Nat.le_refl 0) .sliceB
      have hm0 : m = 0 := by rcases e1 with ⟨-, -, e⟩ | ⟨_, _, -, -, e, -⟩ <;> omega
      have hh0 : hh = 0 := by rcases e2 with ⟨-, -, e⟩ | ⟨_, _, -, -, e, -⟩ <;> omega
      have hk0 : k = 0 := by rcases e3 with ⟨-, -, e⟩ | ⟨_, _, -, -, e, -⟩ <;> omega
      subst hm0; subst hh0; subst hk0
      rcases e1 with ⟨rfl, rfl, -⟩ | ⟨_, _, rfl, rfl, -, r1⟩
      · rcases e2' with ⟨rfl, rfl, -⟩ | ⟨_, _, rfl, rfl, -, r2⟩ <;> rcases e3' with ⟨rfl, rfl, -⟩ | ⟨_, _, rfl, rfl, -, r3⟩ <;>
          simp [Instr.sliceAt, run_und hE hd, Instr.slice, Instr.sliceBounds, run_sizeP hE hsz, *]
      · rcases e2 with ⟨rfl, rfl, -⟩ | ⟨_, _, rfl, rfl, -, r2⟩
        · simp at h7
        · rcases e3 with ⟨rfl, rfl, -⟩ | ⟨_, _, rfl, rfl, -, r3⟩ <;>
            simp [Instr.sliceAt, run_und hE hd, Instr.slice, Instr.sliceBounds, run_sizeP hE hsz, *]
    · -- a slice
      rename_i a l lb
      rw [bc_none_eq_some, beq_false_iff] at h3
      obtain ⟨hb0, h4⟩ := h3
      rcases VR.slice_inv h.zero hx with ⟨loc, cap, hl, rfl, hcap, hlen, hfit, -⟩ | ⟨ha, -⟩ | ⟨ha, -⟩
      rotate_left
      · rw [ha] at hb0; exact absurd rfl hb0
      · rw [ha] at hb0; exact absurd rfl hb0
      cases mxm with
      | none =>
        cases mxm' with
        | some => exact hmx.elim
        | none =>
          obtain ⟨hh, hhh, h5⟩ := ob_eq_some.1 h4
          obtain ⟨k, hk, h6⟩ := ob_eq_some.1 h5
          obtain ⟨hrun, hkh, hor⟩ := bounds_run (P := E.P) true hlo hhi hhh hk rfl hcap w
          have hhl : hh ≤ lb := by omega
          have hval : (Instr.sliceAt t (.slice (some ⟨loc.blk, a.off + loc.off, none⟩) l cap) lo' hi' none).run E.P w =
              .ok (.slice (if cap = k then some ⟨loc.blk, a.off + loc.off, none⟩ else some ⟨loc.blk, a.off + loc.off + k * sz, none⟩) (hh - k) (cap - k)) w := by
            simp [Instr.sliceAt, run_und hE hd, Instr.slice, hrun, run_sizeP hE hsz, addr_add]
          cases k with
          | zero =>
            change some (OpR.val (.slice (some a) hh lb)) = some r at h6
            refine ⟨_, .inl (by simpa using h6.symm), _, hval, ?_⟩
            have := VR.slice a loc hh lb cap hl hcap hhl hfit
            simpa using this
          | succ j =>
            change bc (Nat.ble lb (j + 1)) (some (.val dslice)) (ob (σ.heap.get a.block) fun o => guardO (elemIs el o)
              (some (.ld (.slice (some ⟨a.block, a.off + (j + 1) * sz, a.spot⟩) (hh - (j + 1)) (lb - (j + 1)))))) = some r at h6
            rw [bc_eq_some, ble_iff, ble_false_iff] at h6
            rcases h6 with ⟨h7, h8⟩ | ⟨h7, h8⟩
            · refine ⟨dslice, .inl (by simpa using h8.symm), _, hval, ?_⟩
              have e : hh - (j + 1) = 0 := by omega
              rw [e]
              split
              · exact VR.dsl _ _
              · exact VR.dsl _ _
            · obtain ⟨o, ho, h9⟩ := ob_eq_some.1 h8
              rw [guardO_eq_some] at h9
              obtain ⟨h10, h11⟩ := h9
              refine ⟨_, .inr (by simpa using h11.symm), _, hval, ?_⟩
              rw [if_neg (by omega)]
              refine VR.slice_at hl ((j + 1) * sz) (by omega) (by omega) fun hs => ?_
              have hf := hfit hs
              obtain ⟨o', ho', hR, -⟩ := h.obj _ _ _ hl
              obtain rfl : o = o' := by rw [ho] at ho'; simpa using ho'
              cases o with
              | map => simp [elemIs] at h10
              | cells el' cs fl fz ro =>
                have e1 : el = el' := beq_iff.1 h10
                obtain ⟨i, hi, rfl, -⟩ := sizeP_TI hsz
                have e2 : loc.esz = i.size := by rw [hR.1.1, ← e1]; exact cellsOf_TI hE hi
                rw [e2] at hf ⊢
                show a.off + (j + 1) * i.size + (cap - (j + 1)) * i.size ≤ loc.n
                rw [Nat.add_assoc, ← Nat.add_mul, Nat.add_sub_cancel' (by omega)]
                exact hf
      | some mv =>
        cases mxm' with
        | none => exact hmx.elim
        | some mv' =>
          obtain ⟨hv, hhv, h5⟩ := ob_eq_some.1 h4
          obtain ⟨m, hm, h6⟩ := ob_eq_some.1 h5
          rw [guardO_eq_some, beq_iff] at h6
          obtain ⟨rfl, h7⟩ := h6
          obtain ⟨hh, hhh, h8⟩ := ob_eq_some.1 h7
          obtain ⟨k, hk, h9⟩ := ob_eq_some.1 h8
          subst hhv
          cases hi' with
          | none => exact hhi.elim
          | some hv' =>
            have r1 := run_sliceBound (P := E.P) (code := .slice3Acap) hmx hm hcap
            have r2 := run_sliceBound (P := E.P) (code := .slice3B) hhi hhh (Nat.le_refl 0)
            have hh0 : hh = 0 := by have := (boundOf_eq hhh).1; omega
            subst hh0
            refine ⟨zslice, .inl (by simpa using h9.symm), .slice (some ⟨loc.blk, a.off + loc.off, none⟩) 0 0, ?_, VR.zsl _⟩
            rcases boundOr_eq (P := E.P) hlo hk (Nat.le_refl 0) .slice3C with ⟨rfl, rfl, rfl⟩ | ⟨u, u', rfl, rfl, hk0, r3⟩
            · simp [Instr.sliceAt, run_und hE hd, Instr.slice, Instr.sliceBounds, run_sizeP hE hsz, r1, r2]
            · have : k = 0 := by omega
              subst this
              simp [Instr.sliceAt, run_und hE hd, Instr.slice, Instr.sliceBounds, run_sizeP hE hsz, r1, r2, r3]
    · cases h3
  | array n el =>
    obtain ⟨sz, hsz, h3⟩ := ob_eq_some.1 h2
    rw [bc_none_eq_some] at h3
    obtain ⟨hmn, h4⟩ := h3
    have hmn : mxm = none := by cases mxm <;> simp_all
    subst hmn
    have hmn' : mxm' = none := by cases mxm' with
      | none => rfl
      | some => exact hmx.elim
    subst hmn'
    obtain ⟨a, ha, h5⟩ := ob_eq_some.1 h4
    rw [bc_none_eq_some] at h5
    obtain ⟨hb0, h6⟩ := h5
    obtain ⟨hh, hhh, h7⟩ := ob_eq_some.1 h6
    obtain ⟨k, hk, h8⟩ := ob_eq_some.1 h7
    obtain rfl := pointerOf_eq ha
    obtain ⟨loc, hl, rfl⟩ := VR.ptr_inv hx
    obtain ⟨hrun, hkh, hor⟩ := bounds_run (P := E.P) false hlo hhi hhh hk rfl (Nat.le_refl n) w
    have hval : (Instr.sliceAt t (.pointer (some ⟨loc.blk, a.off + loc.off, none⟩)) lo' hi' none).run E.P w =
        .ok (.slice (some (if n = k then ⟨loc.blk, a.off + loc.off, none⟩ else ⟨loc.blk, a.off + loc.off + k * sz, none⟩)) (hh - k) (n - k)) w := by
      simp [Instr.sliceAt, run_und hE hd, Instr.sureAddr, hrun, run_sizeP hE hsz, addr_add]
    rw [bc_eq_some, ble_iff, ble_false_iff] at h8
    rcases h8 with ⟨h9, h10⟩ | ⟨h9, h10⟩
    · refine ⟨dslice, .inl (by simpa using h10.symm), _, hval, ?_⟩
      have e : hh - k = 0 := by omega
      rw [e]
      exact VR.dsl _ _
    · refine ⟨_, .inl (by simpa using h10.symm), _, hval, ?_⟩
      rw [if_neg (by omega)]
      have hs : a.spot = none := by cases hs : a.spot <;> simp_all
      exact VR.slice_at hl (k * sz) (by omega) (by omega) fun e => by simp [hs] at e
  | _ => cases h2

end
end Go.Ev
namespace Go.Ev
open Go.RowKit

section
variable {E : Env} {β : Bt} {w : World}

theorem byteOf_eq {v : Value} {b : UInt8} (h : byteOf? v = some b) : ∃ n : Nat, v = .int .u8 (.ofNat n) ∧ n ≤ 255 ∧ b = UInt8.ofNat n := by
  unfold byteOf? at h
  split at h
  · rename_i n
    rw [guardO_eq_some, ble_iff] at h
    exact ⟨n, rfl, h.1, by simpa using h.2.symm⟩
  · cases h

theorem bytesOf_forall : ∀ {l : List Value} {bs : List UInt8}, bytesOf l = some bs → bs.length = l.length ∧ ∀ (i : Nat) (v : Value), l[i]? = some v → ∃ n : Nat, v = .int .u8 (.ofNat n) ∧ n ≤ 255 ∧ bs[i]? = some (UInt8.ofNat n)
  | [], bs, h => by
    obtain rfl : [] = bs := by change some [] = some bs at h; simpa using h
    exact ⟨rfl, fun i v hv => by simp at hv⟩
  | v :: l, bs, h => by
    change ob (byteOf? v) (fun b => ob (bytesOf l) fun l => some (b :: l)) = some bs at h
    obtain ⟨b, hb, h2⟩ := ob_eq_some.1 h
    obtain ⟨q, hq, h3⟩ := ob_eq_some.1 h2
    obtain rfl : b :: q = bs := by simpa using h3
    obtain ⟨e1, e2⟩ := bytesOf_forall hq
    refine ⟨by simp [e1], fun i u hu => ?_⟩
    cases i with
    | zero =>
      obtain rfl : v = u := by simpa using hu
      obtain ⟨n, h4, h5, h6⟩ := byteOf_eq hb
      exact ⟨n, h4, h5, by simp [h6]⟩
    | succ i => simpa using e2 i u (by simpa using hu)

theorem bytesOf_pf {l : List Value} {bs : List UInt8} (h : bytesOf l = some bs) : ∀ x ∈ l, pfS x = true := by
  intro x hx
  obtain ⟨i, hi⟩ := List.getElem?_of_mem hx
  obtain ⟨n, rfl, -, -⟩ := (bytesOf_forall h).2 i x hi
  rfl

/-- Bytes pushed one behind the other. -/
theorem push_bytes {P : Program} : ∀ {l : List Value} {bs : List UInt8}, bytesOf l = some bs → ∀ (s : ByteArray) (w : World),
    (forIn l s fun c s => do
      let .int .u8 n := c | stuck "bytesToString: byte expected"
      pure (ForInStep.yield (s.push (UInt8.ofNat n.toNat))) : Sem ByteArray).run P w = .ok ⟨s.data ++ ⟨bs⟩⟩ w
  | [], bs, h, s, w => by
    obtain rfl : [] = bs := by change some [] = some bs at h; simpa using h
    simp
  | v :: l, bs, h, s, w => by
    change ob (byteOf? v) (fun b => ob (bytesOf l) fun l => some (b :: l)) = some bs at h
    obtain ⟨b, hb, h2⟩ := ob_eq_some.1 h
    obtain ⟨q, hq, h3⟩ := ob_eq_some.1 h2
    obtain rfl : b :: q = bs := by simpa using h3
    obtain ⟨n, rfl, -, rfl⟩ := byteOf_eq hb
    rw [List.forIn_cons]
    have ih := push_bytes (P := P) hq (s.push (UInt8.ofNat n)) w
    simp only [Sem.run_bind, Sem.run_pure, Result.andThen_ok]
    have e : (Int.ofNat n).toNat = n := rfl
    rw [e, ih]
    congr 1
    cases s
    simp [ByteArray.push]

theorem bytesStrS {B : Nat} {W : World} {σ : St} (h : Rel E.P B W β σ w) {x x' : Value} {r : OpR} (hx : VR β x x') (hr : bytesStr σ x = some r) :
    ∃ v, (r = .val v ∨ r = .ld v) ∧ ValS E β w (Conv.bytesToString x') v := by
  unfold bytesStr at hr
  split at hr
  · rename_i a n c
    rw [bc_eq_some, beq_iff, beq_false_iff] at hr
    rcases hr with ⟨rfl, h2⟩ | ⟨hn, h2⟩
    · obtain ⟨a', c', rfl, ha⟩ := VR.slice_any hx
      cases a' with
      | none => simp at ha
      | some a' =>
        refine ⟨.string .empty, .inl (by simpa using h2.symm), .string .empty, ?_, VR.pf _ rfl⟩
        simp only [Conv.bytesToString, Sem.run_bind]
        have : (loadCells a' 0).run E.P w = .ok #[] w := rfl
        rw [this]
        rfl
    · obtain ⟨cs, hcs, h3⟩ := ob_eq_some.1 h2
      obtain ⟨bs, hbs, h4⟩ := ob_eq_some.1 h3
      rcases VR.slice_inv h.zero hx with ⟨loc, cap, hl, rfl, -, -, -, -⟩ | ⟨-, e, -⟩ | ⟨-, e, -⟩
      · obtain ⟨cs', hrun, hvr, -⟩ := h.loadN hl hcs
        obtain rfl := hvr.of_pfS (bytesOf_pf hbs)
        refine ⟨.string ⟨⟨bs⟩⟩, .inr (by simpa using h4.symm), .string ⟨⟨bs⟩⟩, ?_, VR.pf _ rfl⟩
        simp only [Conv.bytesToString, Sem.run_bind, hrun, Result.andThen_ok]
        have hp := push_bytes (P := E.P) hbs ByteArray.empty w
        rw [← Array.forIn_toList]
        have hp' := congrArg (fun q => Result.andThen q fun s w => Result.ok (Value.string s) w) hp
        simp only [Result.andThen_ok] at hp'
        refine Eq.trans ?_ (hp'.trans ?_)
        · congr 1
        · simp
      · exact absurd e hn
      · exact absurd e hn
  · cases hr

theorem plainRow_eq {B : Nat} {W : World} {σ : St} (h : Rel E.P B W β σ w) {x x' : Value} {p : Addr × TypeId × Nat} (hx : VR β x x') (hp : plainRow σ x = some p) :
    ∃ loc : Loc, x = .pointer (some p.1) ∧ x' = .pointer (some ⟨loc.blk, p.1.off, none⟩) ∧ w.shape? loc.blk = some (p.2.1, p.2.2) := by
  obtain ⟨a, ha, h2⟩ := ob_eq_some.1 hp
  rw [bc_none_eq_some] at h2
  obtain ⟨hs, h3⟩ := h2
  obtain ⟨o, ho, h4⟩ := ob_eq_some.1 h3
  obtain ⟨q, hq, h5⟩ := ob_eq_some.1 h4
  obtain rfl : (a, q.1, q.2) = p := by simpa using h5
  obtain rfl := pointerOf_eq ha
  obtain ⟨loc, hl, rfl⟩ := VR.ptr_inv hx
  have hs : a.spot = none := by cases hs' : a.spot <;> simp_all
  obtain ⟨o', ho', hR, -⟩ := h.obj _ _ _ hl
  obtain rfl : o = o' := by rw [ho] at ho'; simpa using ho'
  cases o with
  | map => simp [rowLen?] at hq
  | cells el cs fl fz ro =>
    have hq' : bc ro none (some (el, cs.length)) = some q := hq
    rw [bc_none_eq_some] at hq'
    obtain ⟨hro, hq''⟩ := hq'
    obtain rfl : (el, cs.length) = q := by simpa using hq''
    obtain ⟨c, fr, r⟩ := hR.2 (fun e he => by rw [hs] at he; cases he)
    refine ⟨loc, rfl, by rw [(r.whole hs hro).2]; rfl, ?_⟩
    simp only [World.shape?, r.at_, r.size, (r.whole hs hro).1, (r.whole hs hro).2, Nat.add_zero]

theorem sliceDataS (hz : ∀ s, β 0 s = none) {x x' : Value} {r : OpR} (ats : Array TypeId) (ty : TypeId) (hx : VR β x x') (hr : sliceDataV x = some r) :
    ∃ v, r = .val v ∧ ValS E β w (Builtin.unsafeSliceData_ ats ty #[x']) v := by
  unfold sliceDataV at hr
  split at hr
  · obtain rfl := hx.of_pf rfl
    exact ⟨_, by simpa using hr.symm, .pointer none, rfl, VR.pf _ rfl⟩
  · rename_i a n lb
    rw [bc_none_eq_some, bc_none_eq_some, beq_false_iff, beq_false_iff] at hr
    obtain ⟨h1, h2, h3⟩ := hr
    rcases VR.slice_inv hz hx with ⟨loc, cap, hl, rfl, hcap, -, -, -⟩ | ⟨-, -, e, -⟩ | ⟨-, -, e, -⟩
    · refine ⟨_, by simpa using h3.symm, .pointer (some ⟨loc.blk, a.off + loc.off, none⟩), ?_, VR.ptr a loc hl⟩
      show Sem.run E.P (if cap ≠ 0 then (pure (Value.pointer (some ⟨loc.blk, a.off + loc.off, none⟩)) : Sem Value) else _) w = _
      rw [if_pos (by omega)]
      rfl
    · exact absurd e h1
    · exact absurd e h1
  · cases hr

end

section
variable {E : Env} (hE : EnvOK E) {β : Bt} {w : World}
include hE

theorem convertS {B : Nat} {W : World} {σ : St} (h : Rel E.P B W β σ w) {src dst : TypeId} {x x' : Value} {r : OpR} (hx : VR β x x') (hr : convertV E σ src dst x = some r) :
    ∃ v, (r = .val v ∨ r = .ld v) ∧ ValS E β w (convert src dst x') v := by
  obtain ⟨sd, hsd, h2⟩ := ob_eq_some.1 hr
  obtain ⟨dd, hdd, h3⟩ := ob_eq_some.1 h2
  have u1 := run_und hE hsd
  have u2 := run_und hE hdd
  split at h3
  · rename_i t
    obtain ⟨sz, hsz, h4⟩ := ob_eq_some.1 h3
    obtain ⟨p, hp, h5⟩ := ob_eq_some.1 h4
    rw [guardO_eq_some, ble_iff] at h5
    obtain ⟨hlt, h6⟩ := h5
    obtain ⟨loc, rfl, rfl, hsh⟩ := plainRow_eq h hx hp
    obtain ⟨i, hi, rfl, hpos⟩ := sizeP_TI hsz
    refine ⟨_, .inr (by simpa using h6.symm), _, ?_, hx⟩
    have h0 : ¬ i.size = 0 := by omega
    have h1 : ¬ p.2.2 ≤ p.1.off := by omega
    simp [convert, u1, u2, Conv.unsafePointer, Conv.seenAt, viewAt, cellsIn, hsh, run_sizeTI hE hi, h0, h1]
  · rename_i u
    obtain ⟨sz, hsz, h4⟩ := ob_eq_some.1 h3
    obtain ⟨p, hp, h5⟩ := ob_eq_some.1 h4
    rw [guardO_eq_some] at h5
    obtain ⟨hlies, h6⟩ := h5
    obtain ⟨loc, rfl, rfl, hsh⟩ := plainRow_eq h hx hp
    obtain ⟨i, hi, rfl, hpos⟩ := sizeP_TI hsz
    refine ⟨_, .inr (by simpa using h6.symm), _, ?_, hx⟩
    have h0 : ¬ i.size = 0 := by omega
    have hl' : liesAt E.P E.P.depth p.2.1 (p.2.2 / E.P.cellsOf p.2.1) p.1.off u 1 = true := hlies
    simp [convert, u1, u2, Conv.unsafePointer, Conv.seenAt, viewAt, variablesAt, hsh, run_sizeTI hE hi, h0, hl']
  · rw [guardO_eq_some] at h3
    obtain ⟨h4, h5⟩ := h3
    cases x with
    | pointer a =>
      obtain ⟨a', rfl, -⟩ := VR.ptr_any hx
      refine ⟨_, .inl (by simpa using h5.symm), _, ?_, hx⟩
      simp [convert, u1, u2, Conv.unsafePointer]
    | _ => simp [isPtr] at h4
  · rename_i e
    obtain ⟨ed, hed, h4⟩ := ob_eq_some.1 h3
    rw [guardO_eq_some] at h4
    obtain ⟨hu8, h5⟩ := h4
    obtain ⟨v, hv, v', h6, h7⟩ := bytesStrS h hx h5
    refine ⟨v, hv, v', ?_, h7⟩
    have u3 := run_und hE hed
    have hed' : ed = .int .u8 := by
      unfold u8D at hu8
      split at hu8
      · rfl
      · cases hu8
    subst hed'
    have hsl : ∃ a n c, x' = .slice a n c := by
      unfold bytesStr at h5
      split at h5
      · obtain ⟨a', c', rfl, -⟩ := VR.slice_any hx
        exact ⟨_, _, _, rfl⟩
      · cases h5
    obtain ⟨a, n, c, rfl⟩ := hsl
    simp [convert, u1, u2, u3, h6]
  · cases h3

end
end Go.Ev
namespace Go.Ev
open Go.RowKit

section
variable {P : Program} {B : Nat} {W : World} {β : Bt} {σ : St} {w : World}

theorem oneC_all {β : Bt} {xs xs' : List Value} (h : VRL β xs xs') (h1 : ∀ x ∈ xs, oneC x = true) : ∀ v ∈ xs', v.oneCell' = true := by
  intro v hv
  obtain ⟨i, hi⟩ := List.getElem?_of_mem hv
  have hlt : i < xs.length := by rw [h.1]; exact (List.getElem?_eq_some_iff.1 hi).1
  exact (h.2 i xs[i] v (List.getElem?_eq_getElem hlt) hi).oneC (h1 _ (List.getElem_mem hlt))

theorem Rel.storeN (h : Rel P B W β σ w) {a : Addr} {l : Loc} (hl : β a.block a.spot = some l) {xs xs' : List Value} {σ' : St} (hx : VRL β xs xs') (hs : σ.storeN a xs = some σ') :
    Step σ σ' ∧ ∃ w', (storeCells ⟨l.blk, a.off + l.off, none⟩ xs').run P w = .ok () w' ∧ Rel P B W β σ' w' := by
  simp only [St.storeN, guardO_eq_some] at hs
  obtain ⟨h1, h2⟩ := hs
  rw [allB_iff] at h1
  obtain ⟨o, ho, h3⟩ := ob_eq_some.1 h2
  obtain ⟨o', ho', h4⟩ := ob_eq_some.1 h3
  obtain rfl : σ.put a.block o' = σ' := by simpa using h4
  refine ⟨Step.put _ _ _, ?_⟩
  obtain ⟨q, hq, hR, hB⟩ := h.obj _ _ _ hl
  obtain rfl : o = q := by rw [ho] at hq; simpa using hq
  cases o with
  | map => simp [storeAtO] at ho'
  | cells elem cs fl fz ro =>
    simp only [storeAtO] at ho'
    rw [bc_none_eq_some, guardO_eq_some, ble_iff] at ho'
    obtain ⟨hro, hfz, h5⟩ := ho'
    subst hro
    obtain ⟨cs', hcs', h6⟩ := ob_eq_some.1 h5
    obtain ⟨p1, p2, p3⟩ := putAt_spec _ _ _ _ hcs'
    have hcase : (a.spot = none ∧ o' = .cells elem cs' fl fz false) ∨ (a.spot = some cs.length ∧ fl ≤ cs.length ∧ o' = .cells elem cs' cs.length fz false) := by
      unfold rowPut at h6
      split at h6
      · rename_i hsp; exact .inl ⟨hsp, by simpa using h6.symm⟩
      · rename_i e hsp
        rw [guardO_eq_some, beq_iff, guardO_eq_some, ble_iff] at h6
        obtain ⟨rfl, h7, h8⟩ := h6
        exact .inr ⟨hsp, h7, by simpa using h8.symm⟩
    have hvis : vis a.spot fl := by
      rcases hcase with ⟨hsp, -⟩ | ⟨hsp, hfl, -⟩
      · intro e he; rw [hsp] at he; cases he
      · intro e he; rw [hsp] at he; cases he; exact hfl
    have hlim : lim a.spot cs = cs.length := by
      rcases hcase with ⟨hsp, -⟩ | ⟨hsp, -, -⟩ <;> rw [hsp] <;> rfl
    obtain ⟨c, fr, r⟩ := hR.2 hvis
    have hfits := r.fits
    rw [hlim] at hfits
    have hoff : l.off = 0 := h.flat _ _ _ _ hl ho rfl
    rw [hoff]
    have hlen : xs.length = xs'.length := hx.1
    obtain ⟨w', c', g1, g2, g3, g4, g5⟩ := run_storeCells_row (P := P) l.blk a.off elem fr xs' 0 c w r.at_ (by rw [r.size]; omega)
      (fun j hj => by have := r.free rfl; omega) (oneC_all hx h1)
    refine ⟨w', g1, h.put hl ho rfl g2 (fun s l' hl' => ?_)⟩
    -- the row as it is now, for this view
    have hrow : RowR β w' l a.spot elem cs' fz false c' fr := by
      refine ⟨g3, by rw [g4, r.size], ?_, ?_, ?_, r.free⟩
      · have : lim a.spot cs' = cs.length := by
          rcases hcase with ⟨hsp, -⟩ | ⟨hsp, -, -⟩ <;> rw [hsp]
          · exact p2
          · rfl
        omega
      · intro hsp _; rw [(r.whole hsp rfl).1, p2]; exact ⟨rfl, hoff⟩
      · intro j v hj hv
        have hj' : j < cs.length := by
          rw [← p2]; exact (List.getElem?_eq_some_iff.1 hv).1
        rw [p3 j] at hv
        rw [hoff, Nat.add_zero, g5 j, Nat.add_zero]
        by_cases hc : a.off ≤ j ∧ j < a.off + xs.length
        · rw [if_pos hc] at hv
          rw [if_pos (by omega)]
          obtain ⟨v', h8, h9⟩ := hx.get hv
          exact ⟨v', h8, .inr h9⟩
        · rw [if_neg hc] at hv
          rw [if_neg (by omega)]
          have h10 := r.cell j v (by omega) hv
          rw [hoff] at h10
          exact h10
    rcases hcase with ⟨hsp, rfl⟩ | ⟨hsp, hfl, rfl⟩
    · have hs' : s = none := by
        cases s with
        | none => rfl
        | some e => rw [hsp] at hl; exact (h.kind _ _ _ _ hl hl').elim
      subst hs'
      rw [hsp] at hl
      obtain rfl : l = l' := by rw [hl] at hl'; simpa using hl'
      rw [hsp] at hrow
      exact ⟨⟨hR.1.1, Nat.le_refl _⟩, fun _ => ⟨c', fr, hrow⟩⟩
    · cases s with
      | none => rw [hsp] at hl; exact (h.kind _ _ _ _ hl' hl).elim
      | some e =>
        obtain ⟨q', hq', hR', -⟩ := h.obj _ _ _ hl'
        obtain rfl : LO.cells elem cs fl fz false = q' := by rw [ho] at hq'; simpa using hq'
        have hle : e ≤ cs.length := hR'.1.2
        refine ⟨⟨hR'.1.1, by rw [p2]; exact hle⟩, fun hv => ?_⟩
        have : cs.length ≤ e := hv e rfl
        have he : e = cs.length := by omega
        subst he
        rw [hsp] at hl hrow
        obtain rfl : l = l' := by rw [hl] at hl'; simpa using hl'
        exact ⟨c', fr, hrow⟩

theorem Rel.storeN_off (h : Rel P B W β σ w) {a : Addr} {l : Loc} (hl : β a.block a.spot = some l) {xs : List Value} {σ' : St} (hs : σ.storeN a xs = some σ') : l.off = 0 := by
  simp only [St.storeN, guardO_eq_some] at hs
  obtain ⟨h1, h2⟩ := hs
  obtain ⟨o, ho, h3⟩ := ob_eq_some.1 h2
  obtain ⟨o', ho', h4⟩ := ob_eq_some.1 h3
  cases o with
  | map => simp [storeAtO] at ho'
  | cells elem cs fl fz ro =>
    simp only [storeAtO] at ho'
    rw [bc_none_eq_some] at ho'
    exact h.flat _ _ _ _ hl ho ho'.1

/-- The cells that are appended, or copied. -/
theorem srcS (h : Rel P B W β σ w) {sz : Nat} {x x' : Value} {p : Nat × List Value} (hx : VR β x x') (hs : srcCells σ sz x = some p) :
    (∀ w1 : World, (Builtin.lenOf x').run P w1 = .ok p.1 w1) ∧ ∃ cs', (∀ w1 : World, w1.heap = w.heap → (Builtin.firstCells sz p.1 x').run P w1 = .ok ⟨cs'⟩ w1) ∧ VRL β p.2 cs' ∧ (p.2.length = p.1 * sz ∨ ∃ s, x = .string s ∧ p.2.length = p.1) := by
  unfold srcCells at hs
  split at hs
  · obtain rfl := hx.of_pf rfl
    obtain rfl : (0, []) = p := by simpa using hs
    exact ⟨fun _ => rfl, [], (fun _ _ => rfl), .nil β, .inl (by simp)⟩
  · rename_i a n c
    rw [bc_eq_some, beq_iff, beq_false_iff] at hs
    rcases hs with ⟨rfl, h2⟩ | ⟨hn, h2⟩
    · obtain rfl : (0, []) = p := by simpa using h2
      obtain ⟨a', c', rfl, ha⟩ := VR.slice_any hx
      cases a' with
      | none => simp at ha
      | some a' =>
        refine ⟨fun _ => rfl, [], (fun w1 _ => ?_), .nil β, .inl (by simp)⟩
        simp only [Builtin.firstCells, Nat.zero_mul]
        rfl
    · obtain ⟨cs, hcs, h3⟩ := ob_eq_some.1 h2
      obtain rfl : (n, cs) = p := by simpa using h3
      rcases VR.slice_inv h.zero hx with ⟨loc, cap, hl, rfl, -, -, -, -⟩ | ⟨-, e, -⟩ | ⟨-, e, -⟩
      · obtain ⟨cs', hrun, hvr, hlen⟩ := h.loadN' hl hcs
        exact ⟨fun _ => rfl, cs', hrun, hvr, .inl hlen⟩
      · exact absurd e hn
      · exact absurd e hn
  · rename_i s
    obtain rfl := hx.of_pf rfl
    obtain rfl : (s.size, s.data.toList.map fun b => Value.int .u8 b.toNat) = p := by simpa using hs
    refine ⟨fun _ => rfl, s.data.toList.map fun b => Value.int .u8 b.toNat, (fun w1 _ => ?_), VRL.self (fun x hx => ?_), .inr ⟨s, rfl, by simp⟩⟩
    · simp only [Builtin.firstCells]
      show Result.ok _ w1 = _
      congr 1
      apply Array.ext'
      simp
    · obtain ⟨b, -, rfl⟩ := List.mem_map.1 hx; rfl
  · cases hs

end

section
variable {E : Env} (hE : EnvOK E) {B : Nat} {W : World} {β : Bt} {σ : St} {w : World}
include hE

theorem storeOpS (h : Rel E.P B W β σ w) {t : TypeId} {a a' x x' : Value} {r : OpR} (ha : VR β a a') (hx : VR β x x') (hr : storeOp E σ t a x = some r) :
    ∃ σ', r = .eff undefV σ' ∧ Step σ σ' ∧ ∃ w', (Instr.storeAt t a' x').run E.P w = .ok () w' ∧ Rel E.P B W β σ' w' := by
  obtain ⟨ad, had, h2⟩ := ob_eq_some.1 hr
  obtain ⟨n, hn, h3⟩ := ob_eq_some.1 h2
  rw [guardO_eq_some, beq_iff] at h3
  obtain ⟨hlen, h4⟩ := h3
  obtain ⟨σ', hσ', h5⟩ := ob_eq_some.1 h4
  obtain rfl := pointerOf_eq had
  obtain ⟨l, hl, rfl⟩ := VR.ptr_inv ha
  obtain ⟨hst, w', h6, h7⟩ := h.storeN hl hx.cells hσ'
  refine ⟨σ', by simpa using h5.symm, hst, w', ?_, h7⟩
  have hsz : x'.cells.size = n := by
    rw [← Array.length_toList, ← cellsOfV_eq, ← hx.cells.1]; exact hlen
  simp only [Instr.storeAt, Instr.sureAddr, Sem.run_bind, Sem.run_pure, Result.andThen_ok, storeVar, run_size hE hn, Sem.run_ite]
  rw [if_neg (by simp [hsz])]
  rw [cellsOfV_eq] at h6
  simp [h6]

end
end Go.Ev
namespace Go.Ev
open Go.RowKit

/-- A new object, in a new block. -/
def NewS (P : Program) (β : Bt) (w w' : World) (v' : Value) (sp : Option Nat) (mk : Nat → Value) (o : LO) : Prop :=
  Below w.heap.size w w' ∧ w'.heap.size = w.heap.size + 1 ∧ isRo o = false ∧ ∃ n esz, ∀ id, (∀ s, β id s = none) →
    VR (upd β id sp ⟨w.heap.size, n, esz, 0⟩) (mk id) v' ∧ ObjR P (upd β id sp ⟨w.heap.size, n, esz, 0⟩) w' ⟨w.heap.size, n, esz, 0⟩ sp o

/-- A turned heap. -/
def EffS (P : Program) (B : Nat) (W : World) (β : Bt) (σ σ' : St) (w' : World) (v v' : Value) : Prop :=
  Step σ σ' ∧ ∃ β', Ext σ.next β β' ∧ Rel P B W β' σ' w' ∧ VR β' v v'

theorem below_push (w : World) (o : Obj) (k : Nat) : Below w.heap.size w { w with heap := w.heap.push o, drawn := k } :=
  ⟨rfl, rfl, rfl, by simp, fun i hi => by show (w.heap.push o)[i]? = _; rw [Array.getElem?_push, if_neg (by omega)]⟩

/-- A new row of cells, in a new block: some of them known. -/
theorem newRowS {P : Program} {β : Bt} {w w' : World} {el : TypeId} {cs : List Value} {c : Array Value} (hb : Below w.heap.size w w') (hh : w'.heap = w.heap.push (.cells c el))
    (sp : Option Nat) (hsp : sp = none ∨ sp = some cs.length) (hc : cs.length ≤ c.size) (hw : sp = none → c.size = cs.length)
    (hcell : ∀ (j : Nat) (v : Value), cs[j]? = some v → ∃ v', c[j]? = some v' ∧ CR β v v') (mk : Nat → Value) (v' : Value)
    (hv : ∀ id, VR (upd β id sp ⟨w.heap.size, c.size, P.cellsOf el, 0⟩) (mk id) v') : NewS P β w w' v' sp mk (rowOf el cs) := by
  have hlim : lim sp cs = cs.length := by rcases hsp with rfl | rfl <;> rfl
  refine ⟨hb, by rw [hh]; simp, rfl, c.size, P.cellsOf el, fun id hid => ⟨hv id, ⟨rfl, by rw [hlim]; exact Nat.le_refl _⟩, fun _ => ⟨c, (0, 0), ?_⟩⟩⟩
  refine ⟨by rw [hh]; simp, rfl, by rw [hlim]; exact hc, fun e _ => ⟨hw e, rfl⟩, fun j v _ hj => ?_, fun _ => Nat.zero_le _⟩
  obtain ⟨u, h1, h2⟩ := hcell j v hj
  exact ⟨u, h1, h2.mono (upd_le (hid sp))⟩

theorem zeroCells_rep {zero : Array Value} {z : List Value} (h : zero.toList = z) (n : Nat) : Builtin.zeroCells zero n = ⟨rep z n⟩ := by
  subst h
  apply Array.ext'
  show ((Array.range (n * zero.size)).map fun i => zero[i % zero.size]!).toList = rep zero.toList n
  apply List.ext_getElem?
  intro j
  rw [Array.toList_map, Array.toList_range, List.getElem?_map]
  by_cases hj : j < n * zero.size
  · rw [rep_get _ _ _ (by simpa using hj)]
    have hpos : 0 < zero.size := by
      cases hz : zero.size with
      | zero => rw [hz] at hj; simp at hj
      | succ k => omega
    have hm : j % zero.size < zero.size := Nat.mod_lt _ hpos
    simp [List.getElem?_range hj, hm]
  · rw [List.getElem?_eq_none (by simpa using hj), List.getElem?_eq_none (by rw [rep_length]; simpa using hj)]
    rfl

theorem intm (xd : TypeDesc) : (match xd with | .int _ => true | _ => false) = isIntD xd := by cases xd <;> rfl

section
variable {E : Env} (hE : EnvOK E) {B : Nat} {W : World} {β : Bt} {σ : St} {w : World}
include hE

theorem bytesOk_eq {el n : Nat} {i : TI} (hi : E.types.get el = some i) (h : bytesOk E el n = true) (w : World) :
    ∃ info, (typeInfo el).run E.P w = .ok info w ∧ n * info.bytes ≤ 70368744177664 ∧ n ≤ 4611686018427387904 := by
  obtain ⟨info, h1, rfl, h2⟩ := run_info hE hi w
  unfold bytesOk at h
  rw [hi] at h
  change bc (Nat.ble (n * info.bytes) 70368744177664) (Nat.ble n 4611686018427387904) false = true at h
  rw [bc_eq] at h
  split at h
  · rename_i h3
    exact ⟨info, h2, ble_iff.1 h3, ble_iff.1 h⟩
  · cases h

/-- What is appended: how much, and its cells. -/
def AppSrc (E : Env) (w : World) (el xt : TypeId) (sz : Nat) (x' : Value) (n : Nat) (new : List Value) : Prop :=
  (∃ xd, und E xt = some xd ∧ isIntD xd = false ∧ (∀ w1 : World, (Builtin.lenOf x').run E.P w1 = .ok n w1) ∧ ∀ w1 : World, w1.heap = w.heap → (Builtin.firstCells sz n x').run E.P w1 = .ok ⟨new⟩ w1) ∨
  (∃ xd, und E xt = some xd ∧ isIntD xd = true ∧ x' = .int .i64 (.ofNat n) ∧ bytesOk E el n = true ∧ ∃ z, zeroCells E el = some z ∧ new = rep z n)

/-- The model's append, its first part carried out. -/
theorem append_start {t xt el sz n : Nat} {x' : Value} {new : List Value} (ht : elemOfSlice E t = some el) (hsz : sizeP E el = some sz) (hsrc : AppSrc E w el xt sz x' n new) (hnew : new.length = n * sz)
    (base : Option Addr) (sLen sCap : Nat) (ty : TypeId) :
    ((sLen + n ≤ sCap) → (Builtin.append_ #[t, xt] ty #[.slice base sLen sCap, x']).run E.P w =
      ((match base with | some a => storeCells (a.add (sLen * sz)) new | none => pure () : Sem Unit).run E.P w).andThen fun _ w' => .ok (.slice base (sLen + n) sCap) w') ∧
    ((sCap < sLen + n) → bytesOk E el (sLen + n) = true → ∀ old : List Value, (∀ w1 : World, w1.heap = w.heap → (Builtin.firstCells sz sLen (.slice base sLen sCap)).run E.P w1 = .ok ⟨old⟩ w1) →
      ∃ (newCap k : Nat) (rest : List Value), sLen + n ≤ newCap ∧ rest.length = (newCap - (sLen + n)) * sz ∧
        (Builtin.append_ #[t, xt] ty #[.slice base sLen sCap, x']).run E.P w =
          .ok (.slice (some ⟨w.heap.size, 0, none⟩) (sLen + n) newCap) { w with heap := w.heap.push (.cells ⟨old ++ new ++ rest⟩ el), drawn := k }) := by
  have hund : und E t = some (.slice el) := by
    obtain ⟨d, hd, h2⟩ := ob_eq_some.1 ht
    unfold sliceOf? at h2
    split at h2
    · obtain rfl : _ = el := by simpa using h2
      exact hd
    · cases h2
  obtain ⟨i, hi, rfl, hpos⟩ := sizeP_TI hsz
  obtain ⟨info, hinfo, hiinfo, -⟩ := hE.types el i hi
  have rinfo : ∀ w1 : World, (typeInfo el).run E.P w1 = .ok info w1 := fun w1 => by simp [typeInfo, hinfo]
  have rund := run_und hE hund
  have rsize := run_sizeTI hE hi
  obtain ⟨zv, hzv, hzs⟩ := hE.zeros el i hi
  have rzero : ∀ w1 : World, (zeroValue el).run E.P w1 = .ok zv w1 := fun w1 => by
    have : info.zero = some zv := by rw [hiinfo] at hzv; exact hzv
    simp [zeroValue, rinfo, this]
  have hadd : ∀ (A : Addr), A.add (sLen * i.size) = A.add (sLen * i.size) := fun _ => rfl
  clear hadd
  -- the two kinds of what is appended
  have hn64 : ∀ k : Nat, k ≤ 4611686018427387904 → ¬ ((k : Int) > IntKind.i64.max) := fun k hk => by
    have : IntKind.i64.max = 9223372036854775807 := by decide
    omega
  rcases hsrc with ⟨xd, hxd, hnint, h1, h2⟩ | ⟨xd, hxd, hint, rfl, hb, z, hz, rfl⟩
  · have hr := run_und hE hxd
    have hm : ∀ k, xd = .int k → False := fun k e => by subst e; cases hnint
    refine ⟨fun hle => ?_, fun hlt hbytes old hold => ?_⟩
    · have h2' := h2 w rfl
      cases base with
      | none => simp [Builtin.append_, rund, rsize, hr, h1, h2', hle]
      | some a => simp [Builtin.append_, rund, rsize, hr, h1, h2', hle]
    · obtain ⟨info', hi', hb1, hb2⟩ := bytesOk_eq hE hi hbytes w
      obtain rfl : info = info' := by
        have := rinfo w
        rw [hi'] at this
        simpa using this.symm
      have hnle : ¬ sLen + n ≤ sCap := by omega
      have hfits := growslice_fits (need := sLen + n) (old := sCap) (bytes := info.bytes) (by omega) (by omega)
      have h3 : ¬ (Builtin.nextslicecap (sLen + n) sCap * info.bytes > 281474976710656) := by omega
      have h4 := hn64 _ hb2
      have h5 := h2 w.drew rfl
      have h6 := hold w.drew rfl
      refine ⟨sLen + n + w.tape w.drawn (.appendCap (sLen + n) sCap el) % (2 ^ 63 - (sLen + n)), w.drawn + 1, rep zv.cells.toList (w.tape w.drawn (.appendCap (sLen + n) sCap el) % (2 ^ 63 - (sLen + n))), by omega, ?_, ?_⟩
      · rw [rep_length, Array.length_toList, hzs]; congr 1; omega
      · have h7 := zeroCells_rep (zero := zv.cells) rfl (sLen + n + w.tape w.drawn (.appendCap (sLen + n) sCap el) % (2 ^ 63 - (sLen + n)) - (sLen + n))
        rw [Nat.add_sub_cancel_left] at h7
        have h8 : ¬ (9223372036854775807 < (sLen : Int) + n) := by omega
        simp [Builtin.append_, rund, rsize, hr, h1, hnle, rinfo, h3, h8, h5, h6, rzero, Question.forced, Question.cut, h7, newRow]
        rfl
  · have hr := run_und hE hxd
    obtain ⟨k, rfl⟩ : ∃ k, xd = .int k := by cases xd <;> first | exact ⟨_, rfl⟩ | cases hint
    obtain ⟨info', hi', hb1, hb2⟩ := bytesOk_eq hE hi hb w
    obtain rfl : info = info' := by
      have := rinfo w
      rw [hi'] at this
      simpa using this.symm
    obtain ⟨i2, v2, hi2, hv2, hc2, -, -⟩ := zeroTI_eq hE (w := w) hz
    obtain rfl : zv = v2 := by
      have := rzero w
      rw [hv2] at this
      simpa using this.symm
    have hwrap : IntKind.i64.wrap (n : Int) = (n : Int) := IntWalk.i64_in _ ⟨Int.le_trans (by omega) (Int.natCast_nonneg n), Int.le_trans (Int.ofNat_le.2 hb2) (by omega)⟩
    have hwrap0 : IntKind.i64.wrap 0 = 0 := rfl
    have g3 : ¬ ((n : Int) < 0) := by omega
    have g5 : ((n * info.bytes : Nat) : Int) ≤ 70368744177664 := Int.ofNat_le.2 hb1
    have g4 : ¬ (281474976710656 < (n : Int) * (info.bytes : Int)) := by
      intro h
      rw [← Int.natCast_mul] at h
      omega
    have g6 := zeroCells_rep hc2 n
    have g7 : n * i.size = 0 → rep z n = [] := fun h0 => List.eq_nil_of_length_eq_zero (by rw [hnew]; exact h0)
    refine ⟨fun hle => ?_, fun hlt hbytes old hold => ?_⟩
    · by_cases h0 : n = 0
      · have g8 := g7 (by rw [h0, Nat.zero_mul])
        rw [g8]
        subst h0
        have hle0 : sLen ≤ sCap := hle
        cases base with
        | none => simp [Builtin.append_, rund, rsize, hr, asInt, asIntOf, hwrap0, rinfo, hle0]
        | some a => simp [Builtin.append_, rund, rsize, hr, asInt, asIntOf, hwrap0, rinfo, hle0]
      · have h0' : ¬ (n * i.size = 0) := fun e => by rcases Nat.mul_eq_zero.1 e with e | e <;> omega
        cases base with
        | none => simp [Builtin.append_, rund, rsize, hr, asInt, asIntOf, hwrap, g3, g4, rinfo, hle, rzero, g6]
        | some a => simp [Builtin.append_, rund, rsize, hr, asInt, asIntOf, hwrap, g3, g4, rinfo, hle, h0', rzero, g6]
    · obtain ⟨info', hi', hb1', hb2'⟩ := bytesOk_eq hE hi hbytes w
      obtain rfl : info = info' := by
        have := rinfo w
        rw [hi'] at this
        simpa using this.symm
      have hnle : ¬ sLen + n ≤ sCap := by omega
      have hfits := growslice_fits (need := sLen + n) (old := sCap) (bytes := info.bytes) (by omega) (by omega)
      have h3 : ¬ (Builtin.nextslicecap (sLen + n) sCap * info.bytes > 281474976710656) := by omega
      have h6 := hold w.drew rfl
      refine ⟨sLen + n + w.tape w.drawn (.appendCap (sLen + n) sCap el) % (2 ^ 63 - (sLen + n)), w.drawn + 1, rep zv.cells.toList (w.tape w.drawn (.appendCap (sLen + n) sCap el) % (2 ^ 63 - (sLen + n))), by omega, ?_, ?_⟩
      · rw [rep_length, Array.length_toList, hzs]; congr 1; omega
      · have h7 := zeroCells_rep (zero := zv.cells) rfl (sLen + n + w.tape w.drawn (.appendCap (sLen + n) sCap el) % (2 ^ 63 - (sLen + n)) - (sLen + n))
        rw [Nat.add_sub_cancel_left] at h7
        have h8 : ¬ (9223372036854775807 < (sLen : Int) + n) := by omega
        by_cases h0 : n = 0
        · have g8 := g7 (by rw [h0, Nat.zero_mul])
          rw [g8]
          subst h0
          rw [Nat.add_zero] at hnle h3 h7 ⊢
          have h9 : ¬ (9223372036854775807 < (sLen : Int)) := by omega
          simp [Builtin.append_, rund, rsize, hr, asInt, asIntOf, hwrap0, rinfo, hnle, h3, h9, h6, rzero, Question.forced, Question.cut, h7, newRow]
          rfl
        · have h0' : ¬ (n * i.size = 0) := fun e => by rcases Nat.mul_eq_zero.1 e with e | e <;> omega
          simp [Builtin.append_, rund, rsize, hr, asInt, asIntOf, hwrap, g3, g4, rinfo, hnle, h3, h8, h6, h0', rzero, g6, Question.forced, Question.cut, h7, newRow]
          rfl

end
end Go.Ev
namespace Go.Ev
open Go.RowKit

section
variable {P : Program} {B : Nat} {W : World} {β : Bt} {σ : St} {w : World}

theorem Rel.no_view (h : Rel P B W β σ w) {id e' : Nat} {el : TypeId} {cs : List Value} {fl fz : Nat} {ro : Bool} (ho : σ.heap.get id = some (.cells el cs fl fz ro)) (he : cs.length < e') : β id (some e') = none := by
  cases hb : β id (some e') with
  | none => rfl
  | some l =>
    obtain ⟨q, hq, hR, -⟩ := h.obj _ _ _ hb
    obtain rfl : LO.cells el cs fl fz ro = q := by rw [ho] at hq; simpa using hq
    have : e' ≤ cs.length := hR.1.2
    omega

/-- A row grows at its end: its longest view lies in a block of which the views that are as good as before are told. -/
theorem Rel.extend (h : Rel P B W β σ w) {id e : Nat} {l l' : Loc} {el : TypeId} {cs new : List Value} {fl fz : Nat} {w' : World} (hl : β id (some e) = some l)
    (ho : σ.heap.get id = some (.cells el cs fl fz false)) (hnew : 0 < new.length) (hb : Below B w w') (hsz : w.heap.size ≤ w'.heap.size)
    (hothers : ∀ k, k < w.heap.size → k ≠ l.blk → w'.heap[k]? = w.heap[k]?) (hl1 : l'.blk < w'.heap.size) (hl2 : B ≤ l'.blk) (hl3 : l'.esz = P.cellsOf el) (hl4 : l'.off = 0)
    (hinj : ∀ id' s' l'', β id' s' = some l'' → l''.blk = l'.blk → id' = id)
    (hview : ∀ e1 l1, β id (some e1) = some l1 → fl ≤ e1 → ∃ c fr, RowR β w' l1 (some e1) el (cs ++ new) fz false c fr)
    (hrow : ∃ c fr, RowR β w' l' (some (cs.length + new.length)) el (cs ++ new) fz false c fr) :
    Ext σ.next β (upd β id (some (cs.length + new.length)) l') ∧ Rel P B W (upd β id (some (cs.length + new.length)) l') (σ.put id (.cells el (cs ++ new) fl fz false)) w' := by
  have hn := h.no_view (e' := cs.length + new.length) ho (by omega)
  have hle := upd_le (l := l') hn
  have rmono : ∀ {l1 s1 c fr}, RowR β w' l1 s1 el (cs ++ new) fz false c fr → RowR (upd β id (some (cs.length + new.length)) l') w' l1 s1 el (cs ++ new) fz false c fr :=
    fun r => ⟨r.at_, r.size, r.fits, r.whole, fun j v hj hcs => let ⟨v', h1, h2⟩ := r.cell j v hj hcs; ⟨v', h1, h2.mono hle⟩, r.free⟩
  have hcase : ∀ i t x, upd β id (some (cs.length + new.length)) l' i t = some x → (i = id ∧ t = some (cs.length + new.length) ∧ x = l') ∨ β i t = some x := by
    intro i t x hx
    unfold upd at hx
    split at hx
    · rename_i e; exact .inl ⟨e.1, e.2, by simpa using hx.symm⟩
    · exact .inr hx
  have hid := h.dom _ _ _ hl
  have hid0 : id ≠ 0 := fun e0 => by rw [e0, h.zero] at hl; cases hl
  have hB : B ≤ l.blk := by
    obtain ⟨q, hq, -, h3⟩ := h.obj _ _ _ hl
    obtain rfl : LO.cells el cs fl fz false = q := by rw [ho] at hq; simpa using hq
    exact h3 rfl
  refine ⟨⟨hle, fun i _ hs s => ?_⟩, h.below.trans hb, h.base, fun t => ?_, fun i t x hx => ?_, fun i t x hx => ?_, fun i t x i' t' x' q h1 h2 h3 h4 h5 => ?_, fun i e' x x' h1 h2 => ?_, fun g hg => ?_, fun i t x q h1 h2 h3 => ?_⟩
  · unfold upd
    rw [if_neg (fun hc => by rw [hc.1] at hs; have h9 := hs (some e); rw [hl] at h9; cases h9)]
    exact hs s
  · unfold upd; rw [if_neg (by omega)]; exact h.zero t
  · rcases hcase i t x hx with ⟨rfl, rfl, rfl⟩ | hx
    · exact ⟨hid.1, hl1⟩
    · have := h.dom i t x hx
      exact ⟨this.1, by omega⟩
  · simp only [St.put]
    rw [T.get_set]
    by_cases hi : i = id
    · subst hi
      rw [if_pos rfl]
      refine ⟨_, rfl, ?_, fun _ => ?_⟩
      · rcases hcase i t x hx with ⟨_, rfl, rfl⟩ | hx
        · obtain ⟨c, fr, r⟩ := hrow
          exact ⟨⟨hl3, by simp [lim]⟩, fun _ => ⟨c, fr, rmono r⟩⟩
        · cases t with
          | none => exact (h.kind _ _ _ _ hx hl).elim
          | some e1 =>
            obtain ⟨q, hq, hR, -⟩ := h.obj _ _ _ hx
            obtain rfl : LO.cells el cs fl fz false = q := by rw [ho] at hq; simpa using hq
            have h12 : e1 ≤ cs.length := hR.1.2
            refine ⟨⟨hR.1.1, by show e1 ≤ _; simp; omega⟩, fun hv => ?_⟩
            obtain ⟨c, fr, r⟩ := hview e1 x hx (hv e1 rfl)
            exact ⟨c, fr, rmono r⟩
      · rcases hcase i t x hx with ⟨_, rfl, rfl⟩ | hx
        · exact hl2
        · obtain ⟨q, hq, -, h3⟩ := h.obj _ _ _ hx
          obtain rfl : LO.cells el cs fl fz false = q := by rw [ho] at hq; simpa using hq
          exact h3 rfl
    · rw [if_neg hi]
      have hx : β i t = some x := (hcase i t x hx).resolve_left (fun e => hi e.1)
      obtain ⟨q, hq, h2, h3⟩ := h.obj i t x hx
      refine ⟨q, hq, (h2.congr (hothers _ (h.dom i t x hx).2 (fun e1 => ?_))).mono hle, h3⟩
      exact hi (h.inj id (some e) l i t x _ hl hx e1.symm ho rfl).symm
  · simp only [St.put] at h4
    rw [T.get_set] at h4
    rcases hcase i t x h1 with ⟨rfl, rfl, rfl⟩ | hx
    · rcases hcase i' t' x' h2 with ⟨rfl, rfl, rfl⟩ | hx'
      · rfl
      · exact (hinj i' t' x' hx' h3.symm).symm
    · rcases hcase i' t' x' h2 with ⟨rfl, rfl, rfl⟩ | hx'
      · exact hinj i t x hx h3
      · by_cases hi : i = id
        · subst hi
          exact h.inj i t x i' t' x' _ hx hx' h3 ho rfl
        · rw [if_neg hi] at h4
          exact h.inj i t x i' t' x' q hx hx' h3 h4 h5
  · rcases hcase i none x h1 with ⟨_, he, _⟩ | hx
    · cases he
    · rcases hcase i (some e') x' h2 with ⟨rfl, _, _⟩ | hx'
      · exact h.kind i e x l hx hl
      · exact h.kind i e' x x' hx hx'
  · obtain ⟨x, h1, h2⟩ := h.glob g hg
    exact ⟨x, hle _ _ _ h1, h2⟩
  · simp only [St.put] at h2
    rw [T.get_set] at h2
    rcases hcase i t x h1 with ⟨rfl, rfl, rfl⟩ | hx
    · exact hl4
    · by_cases hi : i = id
      · subst hi
        exact h.flat i t x _ hx ho rfl
      · rw [if_neg hi] at h2
        exact h.flat i t x q hx h2 h3

end
end Go.Ev
namespace Go.Ev
open Go.RowKit

theorem mk_get (L : List Value) (j : Nat) : (⟨L⟩ : Array Value)[j]? = L[j]? := by simp

section
variable {E : Env} (hE : EnvOK E) {B : Nat} {W : World} {β : Bt} {σ : St} {w : World}
include hE

/-- An append that makes a new row. -/
theorem appendNewS {t xt el sz n : Nat} {x' : Value} {new new' : List Value} {r : OpR} (ht : elemOfSlice E t = some el) (hsz : sizeP E el = some sz) (hsrc : AppSrc E w el xt sz x' n new') (hvr : VRL β new new')
    (hlen : new.length = n * sz) (hn : n ≠ 0) (base : Option Addr) (hbase : ∀ w1 : World, (Builtin.firstCells sz 0 (.slice base 0 0)).run E.P w1 = .ok #[] w1) (hb : bytesOk E el n = true) (hr : newSlice el n sz new = r) (ty : TypeId) :
    ∃ sp mk o, r = .new sp mk o ∧ ∃ v' w', (Builtin.append_ #[t, xt] ty #[.slice base 0 0, x']).run E.P w = .ok v' w' ∧ NewS E.P β w w' v' sp mk o := by
  obtain ⟨i, hi, rfl, hpos⟩ := sizeP_TI hsz
  have hlen' : new'.length = n * i.size := by rw [← hvr.1]; exact hlen
  obtain ⟨newCap, k, rest, h1, h2, h3⟩ := (append_start hE ht hsz hsrc hlen' base 0 0 ty).2 (by omega) (by rw [Nat.zero_add]; exact hb) [] (fun w1 _ => hbase w1)
  subst hr
  rw [Nat.zero_add] at h1 h2 h3
  refine ⟨_, _, _, rfl, _, _, h3, ?_⟩
  have hcs : ([] ++ new' ++ rest).length = newCap * i.size := by
    rw [List.nil_append, List.length_append, hlen', h2, ← Nat.add_mul]; congr 1; omega
  refine newRowS (below_push _ _ _) rfl _ (.inr (by rw [hlen]; rfl)) ?_ (fun e => by cases e) (fun j v hj => ?_) _ _ (fun id => ?_)
  · show new.length ≤ ([] ++ new' ++ rest).length
    rw [hcs, hlen]; exact Nat.mul_le_mul_right _ h1
  · obtain ⟨v', h4, h5⟩ := hvr.get hj
    refine ⟨v', ?_, .inr h5⟩
    rw [mk_get]
    have hjl := (List.getElem?_eq_some_iff.1 h4).1
    rw [List.nil_append, List.getElem?_append_left hjl]; exact h4
  · refine VR.slice ⟨id, 0, some (n * i.size)⟩ ⟨w.heap.size, _, _, 0⟩ n n newCap (upd_self _ _ _ _) h1 (Nat.le_refl n) fun _ => ?_
    show 0 + newCap * E.P.cellsOf el ≤ ([] ++ new' ++ rest).length
    rw [hcs, cellsOf_TI hE hi]; omega

theorem appendS (h : Rel E.P B W β σ w) {t xt : TypeId} {s s' x x' : Value} {r : OpR} (hs : VR β s s') (hx : VR β x x') (hr : appendV E σ t xt s x = some r) (ty : TypeId) :
    (∃ v, r = .val v ∧ ValS E β w (Builtin.append_ #[t, xt] ty #[s', x']) v) ∨
    (∃ sp mk o, r = .new sp mk o ∧ ∃ v' w', (Builtin.append_ #[t, xt] ty #[s', x']).run E.P w = .ok v' w' ∧ NewS E.P β w w' v' sp mk o) ∨
    (∃ v σ', r = .eff v σ' ∧ ∃ v' w', (Builtin.append_ #[t, xt] ty #[s', x']).run E.P w = .ok v' w' ∧ EffS E.P B W β σ σ' w' v v') := by
  obtain ⟨el, hel, h2⟩ := ob_eq_some.1 hr
  obtain ⟨xd, hxd, h3⟩ := ob_eq_some.1 h2
  obtain ⟨sz, hsz, h4⟩ := ob_eq_some.1 h3
  obtain ⟨⟨n, new⟩, hp, h5⟩ := ob_eq_some.1 h4
  rw [guardO_eq_some, guardO_eq_some, beq_iff, allB_iff] at h5
  obtain ⟨hone, hlen, h6⟩ := h5
  replace hlen : new.length = n * sz := hlen
  replace hone : ∀ x ∈ new, oneC x = true := hone
  replace h6 : appendTo E σ el sz n new s = some r := h6
  -- what is appended
  have hsrc : ∃ new', AppSrc E w el xt sz x' n new' ∧ VRL β new new' := by
    rw [bc_eq_some] at hp
    rcases hp with ⟨hint, h7⟩ | ⟨hint, h7⟩
    · obtain ⟨m, hm, h8⟩ := ob_eq_some.1 h7
      rw [guardO_eq_some] at h8
      obtain ⟨hb, h9⟩ := h8
      obtain ⟨z, hz, h10⟩ := ob_eq_some.1 h9
      have h10 : (m, rep z m) = (n, new) := by simpa using h10
      rw [Prod.mk.injEq] at h10
      obtain ⟨rfl, rfl⟩ := h10
      obtain rfl := lenOf_eq hm
      obtain rfl := hx.of_pf rfl
      refine ⟨rep z m, .inr ⟨xd, hxd, hint, rfl, hb, z, hz, rfl⟩, VRL.self fun y hy => ?_⟩
      obtain ⟨i2, v2, -, -, -, -, hzp⟩ := zeroTI_eq hE (w := w) hz
      exact hzp y (rep_mem hy)
    · obtain ⟨g1, cs', g2, g3, -⟩ := srcS h hx h7
      exact ⟨cs', .inl ⟨xd, hxd, hint, g1, g2⟩, g3⟩
  obtain ⟨new', hsrc, hvr⟩ := hsrc
  have hlen' : new'.length = n * sz := by rw [← hvr.1]; exact hlen
  obtain ⟨i, hi, rfl, hpos⟩ := sizeP_TI hsz
  have hstart := fun base sLen sCap => append_start hE hel hsz hsrc hlen' base sLen sCap ty
  -- nothing is appended
  have hzero : ∀ base sLen sCap, n = 0 → sLen ≤ sCap → (Builtin.append_ #[t, xt] ty #[.slice base sLen sCap, x']).run E.P w = .ok (.slice base sLen sCap) w := by
    intro base sLen sCap h0 hle
    have hnil : new' = [] := List.eq_nil_of_length_eq_zero (by rw [hlen', h0, Nat.zero_mul])
    have := (hstart base sLen sCap).1 (by omega)
    rw [this, hnil, h0]
    cases base <;> rfl
  unfold appendTo at h6
  split at h6
  · -- a nil slice
    obtain rfl := hs.of_pf rfl
    rw [bc_eq_some, beq_iff, beq_false_iff, guardO_eq_some] at h6
    rcases h6 with ⟨h0, h7⟩ | ⟨h0, hb, h7⟩
    · exact .inl ⟨_, by simpa using h7.symm, _, hzero none 0 0 h0 (Nat.le_refl 0), VR.pf _ rfl⟩
    · exact .inr (.inl (appendNewS hE hel hsz hsrc hvr hlen h0 none (fun _ => rfl) hb (by simpa using h7) ty))
  · rename_i a l lb
    rw [bc_eq_some, beq_iff, beq_false_iff] at h6
    rcases h6 with ⟨h0, h7⟩ | ⟨h0, h7⟩
    · refine .inl ⟨_, by simpa using h7.symm, s', ?_, hs⟩
      rcases VR.slice_inv h.zero hs with ⟨loc, cap, -, rfl, g1, g2, -, -⟩ | ⟨-, rfl, -, b, rfl⟩ | ⟨-, rfl, -, b, cap, rfl⟩
      · exact hzero _ _ _ h0 (by omega)
      · exact hzero _ _ _ h0 (by omega)
      · exact hzero _ _ _ h0 (by omega)
    · rw [bc_eq_some, beq_iff, beq_false_iff] at h7
      rcases h7 with ⟨hb0, h8⟩ | ⟨hb0, h8⟩
      · rw [guardO_eq_some, beq_iff, guardO_eq_some] at h8
        obtain ⟨hoff, hb, h9⟩ := h8
        rcases VR.slice_inv h.zero hs with ⟨loc, cap, -, -, -, -, -, g⟩ | ⟨-, rfl, -, b, rfl⟩ | ⟨ha, -⟩
        · exact absurd hb0 g
        · exact .inr (.inl (appendNewS hE hel hsz hsrc hvr hlen h0 (some b) (fun w1 => by simp only [Builtin.firstCells, Nat.zero_mul]; rfl) hb (by simpa using h9) ty))
        · rw [ha] at hoff; simp at hoff
      · rw [guardO_eq_some, beq_iff] at h8
        obtain ⟨hoff, h9⟩ := h8
        obtain ⟨e, hsp, h10⟩ := ob_eq_some.1 h9
        rcases VR.slice_inv h.zero hs with ⟨loc, cap, hl, rfl, hcap, hll, hfit, -⟩ | ⟨ha, -⟩ | ⟨ha, -⟩
        rotate_left
        · rw [ha] at hb0; exact absurd rfl hb0
        · rw [ha] at hb0; exact absurd rfl hb0
        refine .inr (.inr ?_)
        rw [hoff] at hfit ⊢
        rw [hsp] at hl hfit
        rw [bc_eq_some, ble_iff, ble_false_iff] at h10
        rcases h10 with ⟨hle, h11⟩ | ⟨hnle, h11⟩
        · -- within what is there
          obtain ⟨σ', hσ', h12⟩ := ob_eq_some.1 h11
          have hle' : l + n ≤ lb := hle
          obtain ⟨hst, w', g1, g2⟩ := h.storeN (a := ⟨a.block, l * i.size, some e⟩) hl hvr hσ'
          have hlo : loc.off = 0 := h.storeN_off (a := ⟨a.block, l * i.size, some e⟩) hl hσ'
          rw [hlo] at g1 ⊢
          rw [show 0 + 0 = 0 from rfl]
          refine ⟨_, σ', by simpa using h12.symm, .slice (some ⟨loc.blk, 0, none⟩) (l + n) cap, w', ?_, hst, β, Ext.refl _ _, g2, ?_⟩
          · rw [(hstart (some ⟨loc.blk, 0, none⟩) l cap).1 (by omega)]
            show ((storeCells ((⟨loc.blk, 0, none⟩ : Addr).add (l * i.size)) new').run E.P w).andThen _ = _
            rw [addr_add, Nat.zero_add]
            have g1' : (storeCells ⟨loc.blk, l * i.size, none⟩ new').run E.P w = .ok () w' := g1
            rw [g1']
            rfl
          · have := VR.slice (β := β) a loc (l + n) lb cap (by rw [hsp]; exact hl) hcap hle' (by rw [hoff, hsp]; exact hfit)
            rw [hoff, hlo] at this
            exact this
        · -- at the end
          obtain ⟨o, ho, h12⟩ := ob_eq_some.1 h11
          cases o with
          | map => simp [extendRow] at h12
          | cells el' cs fl fz ro =>
            simp only [extendRow] at h12
            rw [bc_none_eq_some, guardO_eq_some, beq_iff, guardO_eq_some, beq_iff, guardO_eq_some, beq_iff, guardO_eq_some, guardO_eq_some] at h12
            obtain ⟨hro, he, hle, hee, hfz, hb, h13⟩ := h12
            subst hro
            subst he
            subst hee
            have hle : l * i.size = cs.length := hle
            have hfz' : fz ≤ cs.length ∧ fl ≤ cs.length := by
              rw [bc_eq] at hfz
              split at hfz
              · rename_i g; exact ⟨ble_iff.1 g, ble_iff.1 hfz⟩
              · cases hfz
            obtain ⟨q, hq, hR, hBl⟩ := h.obj _ _ _ hl
            obtain rfl : LO.cells el cs fl fz false = q := by rw [ho] at hq; simpa using hq
            have hesz : loc.esz = i.size := by rw [hR.1.1]; exact cellsOf_TI hE hi
            have hBl := hBl rfl
            have hlo : loc.off = 0 := h.flat _ _ _ _ hl ho rfl
            rw [hlo, show 0 + 0 = 0 from rfl]
            have hnl : 0 < new.length := by rw [hlen]; exact Nat.mul_pos (by omega) hpos
            have hcl : (cs ++ new).length = (l + n) * i.size := by rw [List.length_append, hlen, ← hle, Nat.add_mul]
            obtain ⟨c, fr, row⟩ := hR.2 (fun e he => by cases he; exact hfz'.2)
            have hσ' : OpR.eff (.slice (some ⟨a.block, 0, some (cs.length + n * i.size)⟩) (l + n) (l + n)) (σ.put a.block (.cells el (cs ++ new) fl fz false)) = r := by simpa using h13
            have hkey : cs.length + n * i.size = cs.length + new.length := by rw [hlen]
            rw [hkey] at hσ'
            by_cases hc : l + n ≤ cap
            · -- in its own block
              have hfit' : (l + n) * i.size ≤ loc.n := by
                have := hfit rfl
                rw [hesz] at this
                have h20 : (l + n) * i.size ≤ cap * i.size := Nat.mul_le_mul_right _ hc
                omega
              have hcap' : cs.length + new.length ≤ loc.n := by rw [← List.length_append, hcl]; exact hfit'
              obtain ⟨w', c', g1, g2, g3, g4, g5⟩ := run_storeCells_row (P := E.P) loc.blk cs.length el fr new' 0 c w row.at_ (by rw [row.size, ← hvr.1]; omega)
                (fun j hj => by have := row.free rfl; omega) (oneC_all hvr hone)
              have hrow : ∀ e1, e1 ≤ cs.length + new.length → RowR β w' loc (some e1) el (cs ++ new) fz false c' fr := by
                intro e1 he1
                refine ⟨g3, by rw [g4, row.size], by show e1 ≤ loc.n; omega, (fun e => by cases e), fun j v hj hv => ?_, row.free⟩
                have hj : j < e1 := hj
                rw [hlo, Nat.add_zero, g5 j, Nat.add_zero]
                by_cases hjc : j < cs.length
                · rw [List.getElem?_append_left hjc] at hv
                  rw [if_neg (by omega)]
                  have g8 := row.cell j v hjc hv
                  rw [hlo] at g8
                  exact g8
                · rw [List.getElem?_append_right (by omega)] at hv
                  rw [if_pos (by rw [← hvr.1]; omega)]
                  obtain ⟨v', g6, g7⟩ := hvr.get hv
                  exact ⟨v', g6, .inr g7⟩
              obtain ⟨hext, hrel⟩ := h.extend (l' := loc) hl ho hnl (g2.below hBl) (by rw [g2.size]; exact Nat.le_refl _) (fun k _ hk => g2.block k hk) (by rw [g2.size]; exact (h.dom _ _ _ hl).2) hBl hR.1.1 hlo
                (fun id' s2 l2 h21 h22 => (h.inj a.block _ loc id' s2 l2 _ hl h21 h22.symm ho rfl).symm)
                (fun e1 l1 h21 h22 => by
                  obtain ⟨q, hq, hR1, -⟩ := h.obj _ _ _ h21
                  obtain rfl : LO.cells el cs fl fz false = q := by rw [ho] at hq; simpa using hq
                  have he1 : e1 ≤ cs.length := hR1.1.2
                  by_cases hbk : l1.blk = loc.blk
                  · obtain ⟨c1, fr1, row1⟩ := hR1.2 (fun e he => by cases he; exact h22)
                    have hat := row1.at_
                    rw [hbk, row.at_] at hat
                    simp only [Option.some.injEq, Obj.cells.injEq] at hat
                    obtain ⟨rfl, -, rfl⟩ := hat
                    have hr := hrow e1 (by omega)
                    exact ⟨c', fr, ⟨by rw [hbk]; exact hr.at_, by rw [g4]; exact row1.size, row1.fits, (fun e => by cases e), (fun j v hj hv => by
                      have g8 := hr.cell j v hj hv
                      rw [hlo] at g8
                      rw [h.flat _ _ _ _ h21 ho rfl]
                      exact g8), row1.free⟩⟩
                  · obtain ⟨c1, fr1, row1⟩ := hR1.2 (fun e he => by cases he; exact h22)
                    exact ⟨c1, fr1, ⟨by rw [g2.block _ hbk]; exact row1.at_, row1.size, row1.fits, (fun e => by cases e), (fun j v hj hv => row1.cell j v hj (by
                      have hj : j < e1 := hj
                      rw [List.getElem?_append_left (by omega)] at hv; exact hv)), row1.free⟩⟩)
                ⟨c', fr, hrow _ (Nat.le_refl _)⟩
              refine ⟨_, _, hσ'.symm, .slice (some ⟨loc.blk, 0, none⟩) (l + n) cap, w', ?_, Step.put _ _ _, _, hext, hrel, ?_⟩
              · rw [(hstart (some ⟨loc.blk, 0, none⟩) l cap).1 hc]
                show ((storeCells ((⟨loc.blk, 0, none⟩ : Addr).add (l * i.size)) new').run E.P w).andThen _ = _
                rw [addr_add, Nat.zero_add, hle, g1]
                rfl
              · have g8 := VR.slice (β := upd β a.block (some (cs.length + new.length)) loc) ⟨a.block, 0, some (cs.length + new.length)⟩ loc (l + n) (l + n) cap (upd_self _ _ _ _) hc (Nat.le_refl _) (fun _ => hfit rfl)
                rw [hlo] at g8
                exact g8
            · -- in a new block
              have hold : ∀ w1 : World, w1.heap = w.heap → (Builtin.firstCells i.size l (.slice (some ⟨loc.blk, 0, none⟩) l cap)).run E.P w1 = .ok ⟨(c.toList.take cs.length)⟩ w1 := by
                intro w1 hw1
                have hct : cs.length ≤ c.size := by rw [row.size]; exact Nat.le_trans row.fits (Nat.le_add_right _ _)
                have := run_loadCells_list (P := E.P) w1 ⟨loc.blk, 0, none⟩ (c.toList.take cs.length) (fun j v hj => by
                  rw [addr_add, cell_at (w := w1) (by rw [hw1]; exact row.at_), Nat.zero_add]
                  rw [List.getElem?_take] at hj
                  split at hj
                  · simpa using hj
                  · cases hj)
                have hlen2 : (c.toList.take cs.length).length = l * i.size := by have h30 : c.toList.length = c.size := Array.length_toList; rw [List.length_take, hle]; omega
                rw [hlen2] at this
                exact this
              obtain ⟨newCap, k, rest, g1, g2, g3⟩ := (hstart (some ⟨loc.blk, 0, none⟩) l cap).2 (by omega) hb _ hold
              have hct : (c.toList.take cs.length).length = cs.length := by
                have h30 : c.toList.length = c.size := Array.length_toList
                rw [List.length_take]
                have : cs.length ≤ c.size := by rw [row.size]; exact Nat.le_trans row.fits (Nat.le_add_right _ _)
                omega
              have hcsz : (c.toList.take cs.length ++ new' ++ rest).length = newCap * i.size := by
                rw [List.length_append, List.length_append, hct, hlen', g2, ← hle, ← Nat.add_mul, ← Nat.add_mul]; congr 1; omega
              have hbel := below_push w (.cells ⟨c.toList.take cs.length ++ new' ++ rest⟩ el) k
              obtain ⟨hext, hrel⟩ := h.extend (l' := ⟨w.heap.size, newCap * i.size, E.P.cellsOf el, 0⟩) hl ho hnl (hbel.mono h.size) hbel.size (fun j hj _ => hbel.block j hj) (by simp) h.size rfl rfl
                (fun id' s2 l2 h21 h22 => by have := (h.dom _ _ _ h21).2; rw [h22] at this; exact absurd this (Nat.lt_irrefl _))
                (fun e1 l1 h21 h22 => by
                  obtain ⟨q, hq, hR1, -⟩ := h.obj _ _ _ h21
                  obtain rfl : LO.cells el cs fl fz false = q := by rw [ho] at hq; simpa using hq
                  have he1 : e1 ≤ cs.length := hR1.1.2
                  obtain ⟨c1, fr1, row1⟩ := hR1.2 (fun e he => by cases he; exact h22)
                  exact ⟨c1, fr1, ⟨by rw [hbel.block _ (h.dom _ _ _ h21).2]; exact row1.at_, row1.size, row1.fits, (fun e => by cases e), (fun j v hj hv => row1.cell j v hj (by
                      have hj : j < e1 := hj
                      rw [List.getElem?_append_left (by omega)] at hv; exact hv)), row1.free⟩⟩)
                ⟨⟨c.toList.take cs.length ++ new' ++ rest⟩, (0, 0), ⟨by simp, hcsz, by
                    show cs.length + new.length ≤ newCap * i.size
                    rw [← List.length_append, hcl]; exact Nat.mul_le_mul_right _ g1, (fun e => by cases e), fun j v hj hv => by
                    have hj : j < cs.length + new.length := hj
                    show ∃ v', (⟨c.toList.take cs.length ++ new' ++ rest⟩ : Array Value)[j]? = some v' ∧ CR β v v'
                    rw [mk_get, List.getElem?_append_left (by rw [List.length_append, hct, ← hvr.1]; exact hj)]
                    by_cases hjc : j < cs.length
                    · rw [List.getElem?_append_left hjc] at hv
                      rw [List.getElem?_append_left (by rw [hct]; exact hjc), List.getElem?_take, if_pos hjc]
                      obtain ⟨v', g6, g7⟩ := row.cell j v hjc hv
                      rw [hlo] at g6
                      exact ⟨v', by simpa using g6, g7⟩
                    · rw [List.getElem?_append_right (by omega)] at hv
                      rw [List.getElem?_append_right (by rw [hct]; omega), hct]
                      obtain ⟨v', g6, g7⟩ := hvr.get hv
                      exact ⟨v', g6, .inr g7⟩, fun _ => Nat.zero_le _⟩⟩
              refine ⟨_, _, hσ'.symm, _, _, g3, Step.put _ _ _, _, hext, hrel, ?_⟩
              refine VR.slice ⟨a.block, 0, some (cs.length + new.length)⟩ ⟨w.heap.size, newCap * i.size, E.P.cellsOf el, 0⟩ (l + n) (l + n) newCap (upd_self _ _ _ _) g1 (Nat.le_refl _) (fun _ => ?_)
              show 0 + newCap * E.P.cellsOf el ≤ newCap * i.size
              rw [cellsOf_TI hE hi]; omega
  · cases h6

end
end Go.Ev
namespace Go.Ev
open Go.RowKit

section
variable {E : Env} {B : Nat} {W : World} {β : Bt} {σ : St} {w : World}
theorem und_of_slice {t el : TypeId} (h : elemOfSlice E t = some el) : und E t = some (.slice el) := by
  obtain ⟨d, hd, h2⟩ := ob_eq_some.1 h
  unfold sliceOf? at h2
  split at h2
  · obtain rfl : _ = el := by simpa using h2
    exact hd
  · cases h2

theorem copyToS (h : Rel E.P B W β σ w) {a : Addr} {l : Loc} (hl : β a.block a.spot = some l) {n : Nat} {cs cs' : List Value} {r : OpR} (hc : VRL β cs cs') (hr : copyTo σ a n cs = some r) :
    ∃ σ', r = .eff (.int .i64 (.ofNat n)) σ' ∧ Step σ σ' ∧ ∃ w', (storeCells ⟨l.blk, a.off + l.off, none⟩ cs').run E.P w = .ok () w' ∧ Rel E.P B W β σ' w' := by
  obtain ⟨σ', hσ, h2⟩ := ob_eq_some.1 hr
  obtain ⟨h3, h4⟩ := h.storeN hl hc hσ
  exact ⟨σ', by simpa using h2.symm, h3, h4⟩
end

section
variable {E : Env} (hE : EnvOK E) {B : Nat} {W : World} {β : Bt} {σ : St} {w : World}
include hE

theorem copyS (h : Rel E.P B W β σ w) {t : TypeId} {d d' x x' : Value} {r : OpR} (ats : Array TypeId) (ty : TypeId) (ha : ats[0]? = some t) (hd : VR β d d') (hx : VR β x x') (hr : copyV E σ t d x = some r) :
    (∃ v, r = .val v ∧ ValS E β w (Builtin.copy_ ats ty #[d', x']) v) ∨
    (∃ v σ', r = .eff v σ' ∧ ∃ v' w', (Builtin.copy_ ats ty #[d', x']).run E.P w = .ok v' w' ∧ EffS E.P B W β σ σ' w' v v') := by
  obtain ⟨el, hel, h2⟩ := ob_eq_some.1 hr
  obtain ⟨sz, hsz, h3⟩ := ob_eq_some.1 h2
  have hund := run_und hE (und_of_slice hel)
  have hsize := run_sizeP hE hsz
  split at h3
  · obtain rfl := hd.of_pf rfl
    split at h3
    · obtain ⟨a', c', rfl, hs⟩ := VR.slice_any hx
      refine .inl ⟨_, by simpa using h3.symm, .int .i64 (.ofNat 0), ?_, VR.pf _ rfl⟩
      cases a' with
      | none => simp [Builtin.copy_, ha, hund, hsize, Builtin.lenOf, Builtin.firstCells, goInt]
      | some a' =>
        have : (loadCells a' 0).run E.P w = .ok #[] w := rfl
        simp [Builtin.copy_, ha, hund, hsize, Builtin.lenOf, Builtin.firstCells, goInt, this]
    · obtain rfl := hx.of_pf rfl
      refine .inl ⟨_, by simpa using h3.symm, .int .i64 (.ofNat 0), ?_, VR.pf _ rfl⟩
      simp [Builtin.copy_, ha, hund, hsize, Builtin.lenOf, Builtin.firstCells, goInt]
    · cases h3
  · rename_i a l lb
    -- the place
    obtain ⟨A, c, rfl, hA⟩ := VR.slice_any hd
    cases A with
    | none => simp at hA
    | some A =>
    have hzero : ∀ n, min n l = 0 → ∀ cells, (Builtin.lenOf x').run E.P w = .ok n w → (Builtin.firstCells sz 0 x').run E.P w = .ok cells w → cells = #[] →
        (Builtin.copy_ ats ty #[.slice (some A) l c, x']).run E.P w = .ok (.int .i64 (.ofNat 0)) w := by
      intro n hn cells h4 h5 h6
      subst h6
      have h7 : Nat.min n l = 0 := hn
      have : (storeCells A []).run E.P w = .ok () w := rfl
      simp [Builtin.copy_, ha, hund, hsize, h4, h7, h5, goInt, this]
    split at h3
    · obtain rfl := hx.of_pf rfl
      exact .inl ⟨_, by simpa using h3.symm, _, hzero 0 (by omega) #[] rfl rfl rfl, VR.pf _ rfl⟩
    · rename_i b n nb
      rw [bc_eq_some, beq_iff, beq_false_iff, mn_eq] at h3
      obtain ⟨b', c2, rfl, hb'⟩ := VR.slice_any hx
      cases b' with
      | none => simp at hb'
      | some b' =>
      rcases h3 with ⟨h0, h4⟩ | ⟨h0, h4⟩
      · exact .inl ⟨_, by simpa using h4.symm, _, hzero n h0 _ rfl (by simp only [Builtin.firstCells, Nat.zero_mul]; rfl) rfl, VR.pf _ rfl⟩
      · obtain ⟨cs, hcs, h5⟩ := ob_eq_some.1 h4
        rcases VR.slice_inv h.zero hd with ⟨loc, cap, hl, e1, -, -, -, -⟩ | ⟨-, e, -⟩ | ⟨-, e, -⟩
        rotate_left
        · omega
        · omega
        rcases VR.slice_inv h.zero hx with ⟨loc2, cap2, hl2, e2, -, -, -, -⟩ | ⟨-, e, -⟩ | ⟨-, e, -⟩
        rotate_left
        · omega
        · omega
        obtain ⟨cs', hrun, hvr, -⟩ := h.loadN hl2 hcs
        obtain ⟨σ', h6, h7, w', h8, h9⟩ := copyToS h hl hvr h5
        refine .inr ⟨_, σ', h6, .int .i64 (.ofNat (min n l)), w', ?_, h7, β, Ext.refl _ _, h9, VR.pf _ rfl⟩
        rw [Value.slice.injEq] at e1 e2
        obtain ⟨e1, -, -⟩ := e1
        obtain ⟨e2, -, -⟩ := e2
        rw [e1, e2]
        have hmin : Nat.min n l = min n l := rfl
        have hrun' : (loadCells ⟨loc2.blk, b.off + loc2.off, none⟩ (min n l * sz)).run E.P w = .ok ⟨cs'⟩ w := hrun
        simp [Builtin.copy_, ha, hund, hsize, Builtin.lenOf, Builtin.firstCells, goInt, hmin, hrun', h8]
    · rename_i s
      rw [bc_eq_some, beq_iff, beq_false_iff, mn_eq] at h3
      obtain rfl := hx.of_pf rfl
      rcases h3 with ⟨h0, h4⟩ | ⟨h0, h4⟩
      · exact .inl ⟨_, by simpa using h4.symm, _, hzero s.size h0 _ rfl rfl (by apply Array.ext'; simp), VR.pf _ rfl⟩
      · rcases VR.slice_inv h.zero hd with ⟨loc, cap, hl, e1, -, -, -, -⟩ | ⟨-, e, -⟩ | ⟨-, e, -⟩
        rotate_left
        · omega
        · omega
        have hvr : VRL β ((s.extract 0 (min s.size l)).data.toList.map fun b => Value.int .u8 b.toNat) ((s.extract 0 (min s.size l)).data.toList.map fun b => Value.int .u8 b.toNat) :=
          VRL.self fun y hy => by obtain ⟨q, -, rfl⟩ := List.mem_map.1 hy; rfl
        obtain ⟨σ', h6, h7, w', h8, h9⟩ := copyToS h hl hvr h4
        refine .inr ⟨_, σ', h6, .int .i64 (.ofNat (min s.size l)), w', ?_, h7, β, Ext.refl _ _, h9, VR.pf _ rfl⟩
        rw [Value.slice.injEq] at e1
        obtain ⟨e1, -, -⟩ := e1
        rw [e1]
        have hmin : Nat.min s.size l = min s.size l := rfl
        have harr : ((s.extract 0 (min s.size l)).data.map fun b => Value.int .u8 b.toNat).toList = ((s.extract 0 (min s.size l)).data.toList.map fun b => Value.int .u8 b.toNat) := by simp
        simp only [Builtin.copy_, ha, hund, hsize, Builtin.lenOf, Builtin.firstCells, goInt, hmin, Sem.run_bind, Sem.run_pure, Result.andThen_ok, List.getElem?_toArray, List.getElem?_cons_zero, List.getElem?_cons_succ]
        rw [harr, h8]
        rfl
    · cases h3
  · cases h3

end
end Go.Ev
namespace Go.Ev
open Go.RowKit

section
variable {E : Env} {B : Nat} {W : World} {β : Bt} {σ : St} {w : World}

theorem setEntry_get (k v : Value) : ∀ (es : List MapEntry) (i j : Nat), (setEntry k v es i)[j]? = if j = i then (es[j]?).map (fun e => { e with key := k, val := v }) else es[j]?
  | [], i, j => by simp [setEntry]
  | e :: r, 0, j => by
    show ({ e with key := k, val := v } :: r)[j]? = _
    cases j with
    | zero => simp
    | succ j => simp
  | e :: r, i + 1, j => by
    show (e :: setEntry k v r i)[j]? = _
    cases j with
    | zero => simp
    | succ j =>
      rw [List.getElem?_cons_succ, setEntry_get k v r i j, List.getElem?_cons_succ]
      simp only [Nat.add_right_cancel_iff]

theorem setEntry_length (k v : Value) : ∀ (es : List MapEntry) (i : Nat), (setEntry k v es i).length = es.length
  | [], _ => rfl
  | e :: r, 0 => by show ({ e with key := k, val := v } :: r).length = _; simp
  | e :: r, i + 1 => by show (e :: setEntry k v r i).length = _; simp [setEntry_length k v r i]

theorem findNow_at {kd : TypeDesc} {k : Value} : ∀ {es : List MapEntry} {i j : Nat} {v : Value}, Instr.findNow kd k es i = some (some (j, v)) →
    ∃ e, i ≤ j ∧ es[j - i]? = some e ∧ e.val = v ∧ Instr.sameNow kd k e.key = some true
  | [], i, j, v, h => by simp [Instr.findNow] at h
  | e :: es, i, j, v, h => by
    simp only [Instr.findNow] at h
    cases hs : Instr.sameNow kd k e.key with
    | none => rw [hs] at h; cases h
    | some b =>
      rw [hs] at h
      cases b with
      | true =>
        simp only [Option.some.injEq, Prod.mk.injEq] at h
        obtain ⟨rfl, rfl⟩ := h
        exact ⟨e, Nat.le_refl _, by simp, rfl, hs⟩
      | false =>
        obtain ⟨e', h1, h2, h3, h4⟩ := findNow_at h
        refine ⟨e', by omega, ?_, h3, h4⟩
        rw [show j - i = (j - (i + 1)) + 1 by omega, List.getElem?_cons_succ]; exact h2

theorem sameBits_of {kd : TypeDesc} {k k' : Value} (h : Instr.sameNow kd k k' = some true) : Instr.sameBits 10000 k' k = true := by
  have key : ∀ n, Instr.sameBits n k' k = true := by
    intro n
    unfold Instr.sameNow at h
    split at h
    · rename_i j a j' b
      split at h
      · rename_i e
        subst e
        have : a = b := by simpa using h
        subst this
        simp [Instr.sameBits]
      · cases h
    · rename_i a b
      have : a = b := (MapKept.bytes_beq a b).1 (by simpa using h)
      subst this
      have h2 : (a == a) = true := (MapKept.bytes_beq a a).2 rfl
      simp only [Instr.sameBits, h2]
    · rename_i a b
      have : a = b := by simpa using h
      subst this
      simp [Instr.sameBits]
    · cases h
  exact key 10000

end

section
variable {E : Env} (hE : EnvOK E) {B : Nat} {W : World} {β : Bt} {σ : St} {w : World}
include hE

theorem updateS (h : Rel E.P B W β σ w) {t : TypeId} {m m' k k' v v' : Value} {r : OpR} (hm : VR β m m') (hk : VR β k k') (hv : VR β v v') (hr : updateV E σ t m k v = some r) :
    ∃ σ', r = .eff undefV σ' ∧ Step σ σ' ∧ ∃ w', (Instr.mapUpdate t m' k' v').run E.P w = .ok () w' ∧ Rel E.P B W β σ' w' := by
  obtain ⟨d, hd, h2⟩ := ob_eq_some.1 hr
  obtain ⟨ke, hke, h3⟩ := ob_eq_some.1 h2
  obtain ⟨kd, hkd, h4⟩ := ob_eq_some.1 h3
  rw [guardO_eq_some] at h4
  obtain ⟨hkey, h5⟩ := h4
  obtain ⟨id, hid, h6⟩ := ob_eq_some.1 h5
  obtain ⟨o, ho, h7⟩ := ob_eq_some.1 h6
  obtain rfl := mapOf_eq hke
  obtain ⟨hkp, hck⟩ := keyOk_pf hE hkey
  obtain rfl := hk.of_pf hkp
  have hm' : m = .map (some id) := by
    unfold idOf? at hid
    split at hid
    · obtain rfl : _ = id := by simpa using hid
      rfl
    · cases hid
  subst hm'
  obtain ⟨l, hl, rfl⟩ := VR.map_inv hm
  obtain ⟨o', ho', hR, -⟩ := h.obj _ _ _ hl
  obtain rfl : o = o' := by rw [ho] at ho'; simpa using ho'
  cases o with
  | cells => simp [updateO] at h7
  | map es clock =>
    obtain ⟨es', h9, hmr⟩ := hR
    obtain ⟨f, hf, h10⟩ := ob_eq_some.1 h7
    obtain ⟨f', hf', hff⟩ := findNow_rel hmr hf
    have hfind : (Instr.findKey ke.1 k' es'.toList).run E.P w = .ok f' w := by
      simp only [Instr.findKey, Sem.run_bind, run_und hE hkd, Result.andThen_ok, hf', Sem.run_pure]
    have hget : (getObj l.blk).run E.P w = .ok (.map es' clock) w := by simp [getObj, Sem.run, h9]
    have hset : ∀ o : Obj, (setObj l.blk o).run E.P w = .ok () { w with heap := w.heap.setIfInBounds l.blk o } := fun o => by simp [setObj, Sem.run, h9]
    have hlt : l.blk < w.heap.size := (h.dom _ _ _ hl).2
    have hsame : ∀ o : Obj, SameBut l.blk w { w with heap := w.heap.setIfInBounds l.blk o } := fun o =>
      ⟨rfl, rfl, rfl, by simp, fun k hk => by show (w.heap.setIfInBounds l.blk o)[k]? = _; rw [Array.getElem?_setIfInBounds_ne (by omega)]⟩
    have hpf : pfS k' = true := by
      cases k' <;> first | exact hkp | (exfalso; unfold keyOk at hkey; split at hkey <;> simp at hkey)
    have fin : ∀ (es2 : List MapEntry) (es2' : Array MapEntry) (c2 : Nat), MapR β es2 es2'.toList →
        Rel E.P B W β (σ.put id (.map es2 c2)) { w with heap := w.heap.setIfInBounds l.blk (.map es2' c2) } := by
      intro es2 es2' c2 hmr2
      refine h.put hl ho rfl (hsame _) fun s l' hl' => ?_
      have hs : s = none := by
        cases s with
        | none => rfl
        | some e => exact (h.kind _ _ _ _ hl hl').elim
      subst hs
      obtain rfl : l = l' := by rw [hl] at hl'; simpa using hl'
      exact ⟨es2', by simp [hlt], hmr2⟩
    have hck' := fun w e => hck w e ke.1 hkd
    cases f with
    | none =>
      rcases hff with ⟨-, rfl⟩ | ⟨_, _, _, hj, -⟩
      · change some (OpR.eff undefV (σ.put id (.map (es ++ [⟨k', v, clock⟩]) (clock + 1)))) = some r at h10
        refine ⟨_, by simpa using h10.symm, Step.put _ _ _, _, ?_, fin (es ++ [⟨k', v, clock⟩]) (es'.push ⟨k', v', clock⟩) (clock + 1) ⟨by simp [hmr.1], fun i e e' he he' => ?_⟩⟩
        · simp [Instr.mapUpdate, run_und hE hd, hget, hck', hfind, hset]
        · rw [Array.toList_push] at he'
          by_cases hi : i < es.length
          · rw [List.getElem?_append_left hi] at he
            rw [List.getElem?_append_left (by rw [← hmr.1]; exact hi)] at he'
            exact hmr.2 i e e' he he'
          · rw [List.getElem?_append_right (by omega)] at he
            rw [List.getElem?_append_right (by rw [← hmr.1]; omega), ← hmr.1] at he'
            have hi0 : i - es.length = 0 := by
              have := (List.getElem?_eq_some_iff.1 he).1
              simp at this; omega
            rw [hi0] at he he'
            simp at he he'
            subst he; subst he'
            exact ⟨rfl, hpf, hv, rfl⟩
      · cases hj
    | some p =>
      rcases hff with ⟨hn, -⟩ | ⟨j, u, u', hj, rfl, hu⟩
      · cases hn
      · obtain rfl : p = (j, u) := by simpa using hj
        change some (OpR.eff undefV (σ.put id (.map (setEntry k' v es j) clock))) = some r at h10
        obtain ⟨e0, -, he0, -, hsame0⟩ := findNow_at hf'
        rw [Nat.sub_zero] at he0
        have hbits := sameBits_of hsame0
        have he0' : es'[j]? = some e0 := by rw [← Array.getElem?_toList]; exact he0
        have hkeep : ∀ w1 : World, (Instr.keyThatStays e0.key k').run E.P w1 = .ok k' w1 := fun w1 => by simp [Instr.keyThatStays, hbits]
        refine ⟨_, by simpa using h10.symm, Step.put _ _ _, _, ?_, fin (setEntry k' v es j) (es'.modify j fun e => { e with key := k', val := v' }) clock ⟨by rw [setEntry_length, hmr.1]; simp, fun i e e' he he' => ?_⟩⟩
        · simp [Instr.mapUpdate, run_und hE hd, hget, hck', hfind, hset, he0', hkeep]
        · rw [setEntry_get] at he
          rw [Array.getElem?_toList, Array.getElem?_modify] at he'
          by_cases hij : i = j
          · subst hij
            rw [if_pos rfl] at he he'
            cases hes : es[i]? with
            | none => rw [hes] at he; simp at he
            | some q =>
              rw [hes] at he
              rw [he0'] at he'
              simp at he he'
              subst he; subst he'
              have hq := hmr.2 i q e0 hes he0
              exact ⟨rfl, hpf, hv, hq.born⟩
          · rw [if_neg hij] at he
            rw [if_neg (fun e => hij e.symm), ← Array.getElem?_toList] at he'
            exact hmr.2 i e e' he he'

end
end Go.Ev
namespace Go.Ev
open Go.RowKit

section
variable {E : Env} {B : Nat} {W : World} {β : Bt} {σ : St} {w : World}

theorem run_loadBytes {P : Program} (b : Nat) : ∀ (l : List Value) (bs : List UInt8) (o : Nat) (acc : ByteArray) (w : World), bytesOf l = some bs →
    (∀ (j : Nat) (v : Value), l[j]? = some v → w.cell? ⟨b, o + j, none⟩ = some v) → (loadBytes ⟨b, o, none⟩ acc l.length).run P w = .ok ⟨acc.data ++ ⟨bs⟩⟩ w
  | [], bs, o, acc, w, h, _ => by
    obtain rfl : [] = bs := by change some [] = some bs at h; simpa using h
    show Result.ok acc w = _
    congr 1
  | v :: l, bs, o, acc, w, h, hc => by
    change ob (byteOf? v) (fun b => ob (bytesOf l) fun l => some (b :: l)) = some bs at h
    obtain ⟨x, hx, h2⟩ := ob_eq_some.1 h
    obtain ⟨q, hq, h3⟩ := ob_eq_some.1 h2
    obtain rfl : x :: q = bs := by simpa using h3
    obtain ⟨n, rfl, hn, rfl⟩ := byteOf_eq hx
    have h0 := hc 0 _ rfl
    rw [Nat.add_zero] at h0
    have ih := run_loadBytes (P := P) b l q (o + 1) (acc.push (UInt8.ofNat n)) w hq (fun j v hj => by
      have := hc (j + 1) v (by simpa using hj)
      rw [show o + 1 + j = o + (j + 1) by omega]; exact this)
    simp only [List.length_cons, loadBytes, Sem.run_bind, run_load, h0, Result.andThen_ok, addr_add]
    have e : ((Int.ofNat n).toNat.toUInt8) = UInt8.ofNat n := rfl
    rw [e, ih]
    congr 1
    cases acc
    simp [ByteArray.push]

theorem freeze_same {b o n : Nat} {c : Array Value} {el : TypeId} {lo hi : Nat} (hat : w.heap[b]? = some (.cells c el (lo, hi))) :
    SameBut b w (w.freeze ⟨b, o, none⟩ n) ∧ ∃ fr : Nat × Nat, (w.freeze ⟨b, o, none⟩ n).heap[b]? = some (.cells c el fr) ∧ fr.2 ≤ max hi (o + n) := by
  unfold World.freeze
  by_cases hn : n = 0
  · rw [if_pos hn]
    exact ⟨.refl _ _, (lo, hi), hat, by omega⟩
  · rw [if_neg hn]
    refine ⟨⟨rfl, rfl, rfl, by simp, fun k hk => ?_⟩, if lo == hi then (o, o + n) else (min lo o, max hi (o + n)), ?_, ?_⟩
    · show (w.heap.modify b _)[k]? = _
      rw [Array.getElem?_modify, if_neg (fun e => hk e.symm)]
    · show (w.heap.modify b _)[b]? = _
      rw [Array.getElem?_modify, if_pos rfl, hat]
      rfl
    · split
      · show o + n ≤ _; omega
      · show max hi (o + n) ≤ _; omega

end

theorem unsafeString_def (ats : Array TypeId) (ty : TypeId) (p : Option Addr) (len_ : Value) : Builtin.unsafeString_ ats ty #[.pointer p, len_] = (do
    let n ← asInt len_
    let some pt := ats[0]? | stuck "unsafe.String: no argument types"
    if n < 0 then runtimePanic (.error "unsafe.String: len out of range")
    if n > IntKind.i64.max then unsupported (.unsafePointer "String: a length above the largest int")
    match p with
    | none =>
      if n = 0 then pure (.string .empty)
      else runtimePanic (.error "unsafe.String: ptr is nil and len is not zero")
    | some a =>
      if n = 0 then pure (.string .empty)
      else if ← variablesAt a (← elemOf pt) n.toNat then do
        let s ← loadBytes a .empty n.toNat
        freeze a n.toNat
        pure (.string s)
      else unsupported (.unsafePointer "String: not so many bytes at ptr")) := rfl

section
variable {E : Env} (hE : EnvOK E) {B : Nat} {W : World} {β : Bt} {σ : St} {w : World}
include hE

theorem unsafeStringS (h : Rel E.P B W β σ w) {pt : TypeId} {x x' n n' : Value} {r : OpR} (ats : Array TypeId) (ty : TypeId) (ha : ats[0]? = some pt) (hx : VR β x x') (hn : VR β n n')
    (hr : unsafeStringV E σ pt x n = some r) :
    (∃ v, r = .val v ∧ ValS E β w (Builtin.unsafeString_ ats ty #[x', n']) v) ∨
    (∃ v σ', r = .eff v σ' ∧ ∃ v' w', (Builtin.unsafeString_ ats ty #[x', n']).run E.P w = .ok v' w' ∧ EffS E.P B W β σ σ' w' v v') := by
  obtain ⟨d, hd, h2⟩ := ob_eq_some.1 hr
  obtain ⟨u, hu, h3⟩ := ob_eq_some.1 h2
  obtain ⟨k, hk, h4⟩ := ob_eq_some.1 h3
  rw [guardO_eq_some] at h4
  obtain ⟨hptr, h5⟩ := h4
  have hd' : d = .pointer u := by
    unfold elemOfPtr at hu
    split at hu
    · obtain rfl : _ = u := by simpa using hu
      rfl
    · cases hu
  subst hd'
  obtain rfl := lenOf_eq hk
  obtain rfl := hn.of_pf rfl
  have hnn : ¬ ((k : Int) < 0) := by omega
  rw [bc_eq_some, beq_iff, beq_false_iff] at h5
  rcases h5 with ⟨rfl, h6⟩ | ⟨hk0, h6⟩
  · refine .inl ⟨_, by simpa using h6.symm, .string .empty, ?_, VR.pf _ rfl⟩
    cases x <;> simp [isPtr] at hptr
    obtain ⟨a', rfl, -⟩ := VR.ptr_any hx
    rw [unsafeString_def]
    cases a' <;> simp [asInt, asIntOf, ha]
  · obtain ⟨a, hpa, h7⟩ := ob_eq_some.1 h6
    obtain ⟨o, ho, h8⟩ := ob_eq_some.1 h7
    obtain ⟨o', ho', h9⟩ := ob_eq_some.1 h8
    rw [guardO_eq_some, ble_iff] at h9
    obtain ⟨hkb, h10⟩ := h9
    obtain ⟨l, hl, h11⟩ := ob_eq_some.1 h10
    obtain ⟨bs, hbs, h12⟩ := ob_eq_some.1 h11
    obtain rfl := pointerOf_eq hpa
    obtain ⟨loc, hloc, rfl⟩ := VR.ptr_inv hx
    obtain ⟨q, hq, hR, hBl⟩ := h.obj _ _ _ hloc
    obtain rfl : o = q := by rw [ho] at hq; simpa using hq
    cases o with
    | map => simp [freezeO] at ho'
    | cells el cs fl fz ro =>
      simp only [freezeO] at ho'
      rw [bc_none_eq_some, guardO_eq_some, beq_iff, guardO_eq_some, beq_iff] at ho'
      obtain ⟨hro, hcell1, hund, h13⟩ := ho'
      subst hro
      obtain ⟨e, hsp, h14⟩ := ob_eq_some.1 h13
      rw [guardO_eq_some, beq_iff, guardO_eq_some, ble_iff] at h14
      obtain ⟨rfl, hfl, h15⟩ := h14
      obtain rfl : LO.cells el cs cs.length (mx fz (a.off + k)) false = o' := by simpa using h15
      have hBl := hBl rfl
      have hlo : loc.off = 0 := h.flat _ _ _ _ hloc ho rfl
      rw [hlo, Nat.add_zero]
      obtain ⟨c, fr, row⟩ := hR.2 (fun e he => by rw [hsp] at he; cases he; exact hfl)
      obtain ⟨l', hcells, hvr, hlen⟩ := h.cellsN hloc hl
      rw [hlo, Nat.add_zero] at hcells
      obtain rfl := hvr.of_pfS (bytesOf_pf hbs)
      have hlb := run_loadBytes (P := E.P) loc.blk l' bs a.off ByteArray.empty w hbs hcells
      rw [hlen] at hlb
      have hlb' : (loadBytes ⟨loc.blk, a.off, none⟩ ByteArray.empty k).run E.P w = .ok ⟨⟨bs⟩⟩ w := by rw [hlb]; congr 1; congr 1; simp
      -- how far the view goes
      have hfit : a.off + k ≤ c.size := by
        have h20 := hcells (k - 1) (l'[k - 1]'(by omega)) (List.getElem?_eq_getElem (by omega))
        rw [cell_at row.at_] at h20
        have := (Array.getElem?_eq_some_iff.1 h20).1
        omega
      have hsl : sameLayout E.P E.P.depth el u = true := by
        have : ∃ m, E.P.depth = m + 1 := ⟨_, rfl⟩
        obtain ⟨m, hm⟩ := this
        rw [hm]
        simp [sameLayout, hund]
      have hlies : liesAt E.P E.P.depth el (c.size / E.P.cellsOf el) a.off u k = true := by
        have : ∃ m, E.P.depth = m + 1 := ⟨_, rfl⟩
        obtain ⟨m, hm⟩ := this
        have hrow : ∀ n, rowAt E.P (sameLayout E.P E.P.depth · u) (n + 1) el (c.size / E.P.cellsOf el) a.off k = true := by
          intro n
          simp only [rowAt, hcell1]
          simp [Nat.mod_one, hfit, hsl]
        have hrow' : rowAt E.P (sameLayout E.P E.P.depth · u) E.P.depth el (c.size / E.P.cellsOf el) a.off k = true := by
          rw [congrArg (rowAt E.P (sameLayout E.P E.P.depth · u)) hm]; exact hrow m
        rw [congrArg (liesAt E.P) hm]
        simp only [liesAt, hrow', Bool.true_or]
      obtain ⟨hs1, fr', hs2, hs3⟩ := freeze_same (o := a.off) (n := k) row.at_
      have hvar : (variablesAt ⟨loc.blk, a.off, none⟩ u k).run E.P w = .ok true w := by
        simp [variablesAt, World.shape?, row.at_, hlies]
      have hmax : ¬ ((k : Int) > IntKind.i64.max) := by
        have : IntKind.i64.max = 9223372036854775807 := by decide
        omega
      refine .inr ⟨_, _, by simpa using h12.symm, .string ⟨⟨bs⟩⟩, w.freeze ⟨loc.blk, a.off, none⟩ k, ?_, Step.put _ _ _, β, Ext.refl _ _, h.put hloc ho rfl hs1 (fun s l1 hl1 => ?_), VR.pf _ rfl⟩
      · have e1 : (elemOf pt).run E.P w = .ok u w := by simp [elemOf, run_und hE hd]
        rw [unsafeString_def]
        have hmax' : ¬ (9223372036854775807 < (k : Int)) := by omega
        simp [asInt, asIntOf, ha, hnn, hmax', hk0, e1, hvar, hlb']
      · cases s with
        | none => rw [hsp] at hloc; exact (h.kind _ _ _ _ hl1 hloc).elim
        | some e =>
          obtain ⟨q', hq', hR', -⟩ := h.obj _ _ _ hl1
          obtain rfl : LO.cells el cs fl fz false = q' := by rw [ho] at hq'; simpa using hq'
          have hle : e ≤ cs.length := hR'.1.2
          refine ⟨⟨hR'.1.1, hle⟩, fun hv => ?_⟩
          have : cs.length ≤ e := hv e rfl
          have he : e = cs.length := by omega
          subst he
          rw [hsp] at hloc row
          obtain rfl : loc = l1 := by rw [hloc] at hl1; simpa using hl1
          refine ⟨c, fr', hs2, row.size, row.fits, (fun e => by cases e), row.cell, fun _ => ?_⟩
          rw [mx_eq]
          have := row.free rfl
          show fr'.2 ≤ _
          have h21 : fr'.2 ≤ max fr.2 (a.off + k) := hs3
          omega

theorem allocS {t : TypeId} {r : OpR} (hr : allocV E t = some r) :
    ∃ sp mk o, r = .new sp mk o ∧ ∃ v' w', (Instr.alloc t true (.tuple #[])).run E.P w = .ok v' w' ∧ NewS E.P β w w' v' sp mk o := by
  obtain ⟨cs, hcs, h2⟩ := ob_eq_some.1 hr
  obtain ⟨i, zv, hi, hz, rfl, hlen, hp⟩ := zeroTI_eq hE (w := w) hcs
  refine ⟨_, _, _, by simpa using h2.symm, .pointer (some ⟨w.heap.size, 0, none⟩), { w with heap := w.heap.push (.cells zv.cells t) }, ?_, ?_⟩
  · simp [Instr.alloc, hz, newVar, newRow]
  · refine newRowS (below_push w _ w.drawn) rfl none (.inl rfl) (by simp) (fun _ => by simp) (fun j v hj => ⟨v, by simpa using hj, .inr (.pf _ (pf_of_pfS (hp v (List.mem_of_getElem? hj))))⟩) _ _ (fun id => ?_)
    exact VR.ptr ⟨id, 0, none⟩ ⟨w.heap.size, _, _, 0⟩ (upd_self _ _ _ _)

end

section
variable {E : Env} {β : Bt} {w : World}

theorem boxS {P : Program} {t : TypeId} {x x' : Value} {r : OpR} (hx : VR β x x') (hr : boxV t x = some r) :
    ∃ sp mk o, r = .new sp mk o ∧ ∃ v' w', (Instr.box t x').run P w = .ok v' w' ∧ NewS P β w w' v' sp mk o := by
  simp only [boxV, guardO_eq_some] at hr
  refine ⟨_, _, _, by simpa using hr.2.symm, .pointer (some ⟨w.heap.size, 0, none⟩), { w with heap := w.heap.push (.cells x'.cells t) }, ?_, ?_⟩
  · simp [Instr.box, newVar, newRow]
  · have hc := hx.cells
    have hsz : x'.cells.size = (cellsOfV x).length := by rw [hc.1, cellsOfV_eq, Array.length_toList]
    refine newRowS (below_push w _ w.drawn) rfl none (.inl rfl) (by omega) (fun _ => hsz) (fun j v hj => ?_) _ _ (fun id => ?_)
    · obtain ⟨v', h1, h2⟩ := hc.get hj
      rw [cellsOfV_eq, Array.getElem?_toList] at h1
      exact ⟨v', h1, .inr h2⟩
    · exact VR.ptr ⟨id, 0, none⟩ ⟨w.heap.size, _, _, 0⟩ (upd_self _ _ _ _)

theorem makeMapS {P : Program} {t : TypeId} {m : Option Operand} {ρ : Operand → Value} {r : OpR} (hr : makeMapV m = some r) :
    ∃ sp mk o, r = .new sp mk o ∧ ∃ v' w', (Instr.makeMap t (m.map ρ)).run P w = .ok v' w' ∧ NewS P β w w' v' sp mk o := by
  cases m with
  | some => cases hr
  | none =>
    change some (OpR.new none (fun id => .map (some id)) (.map [] 0)) = some r at hr
    refine ⟨none, fun id => .map (some id), .map [] 0, by simpa using hr.symm, .map (some w.heap.size), { w with heap := w.heap.push (.map #[] 0) }, rfl, below_push w _ w.drawn, by simp, rfl, 0, 0, fun id hid => ⟨VR.map id ⟨w.heap.size, 0, 0, 0⟩ (upd_self _ _ _ _), ?_⟩⟩
    exact ⟨#[], by simp, rfl, fun i e e' he => by simp at he⟩

end
end Go.Ev
namespace Go.Ev
open Go.RowKit

section
variable {β : Bt} {w : World}
/-- A new slice over a row. -/
theorem newSliceS {P : Program} {el : TypeId} {n cap sz k : Nat} {cs cs' : List Value} (hvr : VRL β cs cs') (hlen : cs.length = cap * sz) (hsz : P.cellsOf el = sz) (hn : n ≤ cap) :
    NewS P β w { w with heap := w.heap.push (.cells ⟨cs'⟩ el), drawn := k } (.slice (some ⟨w.heap.size, 0, none⟩) n cap) (some (cap * sz)) (fun id => .slice (some ⟨id, 0, some (cap * sz)⟩) n cap) (rowOf el cs) := by
  refine newRowS (below_push w _ k) rfl _ (.inr (by rw [hlen])) (by show cs.length ≤ cs'.length; rw [hvr.1]; exact Nat.le_refl _) (fun e => by cases e) (fun j v hj => ?_) _ _ (fun id => ?_)
  · obtain ⟨v', h1, h2⟩ := hvr.get hj
    exact ⟨v', by rw [mk_get]; exact h1, .inr h2⟩
  · refine VR.slice ⟨id, 0, some (cap * sz)⟩ ⟨w.heap.size, _, _, 0⟩ n cap cap (upd_self _ _ _ _) (Nat.le_refl _) hn fun _ => ?_
    show 0 + cap * P.cellsOf el ≤ cs'.length
    rw [← hvr.1, hlen, hsz]; omega
end

theorem range0 : ((Array.range 0).map fun _ => (default : Value)) = #[] := by simp

section
variable {E : Env} (hE : EnvOK E) {B : Nat} {W : World} {β : Bt} {σ : St} {w : World}
include hE

theorem buildSliceS {tm : TM} {ρ : Operand → Value} {t : TypeId} {len : Nat} {ps : Array (Nat × Operand)} {r : OpR} (hx : ∀ p ∈ ps, VR β (evX tm p.2) (ρ p.2)) (hr : buildSliceV E tm t len ps.toList = some r) :
    ∃ sp mk o, r = .new sp mk o ∧ ∃ v' w', (Instr.buildSlice t len (ps.map fun p => (p.1, ρ p.2))).run E.P w = .ok v' w' ∧ NewS E.P β w w' v' sp mk o := by
  obtain ⟨el, hel, h2⟩ := ob_eq_some.1 hr
  obtain ⟨sz, hsz, h3⟩ := ob_eq_some.1 h2
  obtain ⟨z, hz, h4⟩ := ob_eq_some.1 h3
  rw [guardO_eq_some, ble_iff] at h4
  obtain ⟨hsmall, h5⟩ := h4
  obtain ⟨cs, hcs, h6⟩ := ob_eq_some.1 h5
  obtain ⟨i, hi, rfl, hpos⟩ := sizeP_TI hsz
  obtain ⟨i2, zv, hi2, hzr, hzc, hzl, hzp⟩ := zeroTI_eq hE (w := w) hz
  obtain rfl : i = i2 := by rw [hi] at hi2; simpa using hi2
  have hxl : ∀ p ∈ ps.toList, VR β (evX tm p.2) (ρ p.2) := fun p hp => hx p (by simpa using hp)
  have hsm : ¬ (len * i.size > 2 ^ 24) := by have : len * i.size ≤ 16777216 := hsmall; omega
  have hcells : VRL β (rep z len) ((⟨rep z len⟩ : Array Value)).toList := VRL.self fun y hy => hzp y (rep_mem hy)
  obtain ⟨c', h7, h8⟩ := fillS (fun i_1 => some (i_1 * i.size, i.size)) (tm := tm) (ρ := ρ) ps.toList (rep z len) cs ⟨rep z len⟩ hxl hcells hcs
  have hlen : cs.length = len * i.size := by
    -- laying parts into cells keeps their number
    have key : ∀ (l : List (Nat × Operand)) (a b : List Value), fillL (fun i_1 => some (i_1 * i.size, i.size)) tm l a = some b → b.length = a.length := by
      intro l
      induction l with
      | nil => intro a b hab; change some a = some b at hab; rw [Option.some.injEq] at hab; rw [hab]
      | cons p l ih =>
        intro a b hab
        change ob (some (p.1 * i.size, i.size)) (fun q => ob (fillOne q.2 q.1 a (cellsOfV (evX tm p.2))) (fillL (fun i_1 => some (i_1 * i.size, i.size)) tm l)) = some b at hab
        obtain ⟨q, -, h20⟩ := ob_eq_some.1 hab
        obtain ⟨y, hy, h21⟩ := ob_eq_some.1 h20
        simp only [fillOne, guardO_eq_some] at hy
        rw [ih y b h21, (putAt_spec _ _ _ _ hy.2.2).2.1]
    rw [key _ _ _ hcs, rep_length, hzl]
  have hzero : ((Array.range (len * i.size)).map (zv.cells[· % zv.cells.size]!)) = ⟨rep z len⟩ := by
    have h9 := zeroCells_rep hzc len
    have h10 : zv.cells.size = i.size := by rw [← Array.length_toList, hzc]; exact hzl
    unfold Builtin.zeroCells at h9
    rw [h10] at h9
    rw [h10]
    exact h9
  refine ⟨_, _, _, by simpa [newSlice] using h6.symm, .slice (some ⟨w.heap.size, 0, none⟩) len len, { w with heap := w.heap.push (.cells ⟨c'.toList⟩ el), drawn := w.drawn }, ?_, newSliceS h8 hlen (cellsOf_TI hE hi) (Nat.le_refl _)⟩
  have e : (ps.map fun p => (p.1, ρ p.2)).toList = ps.toList.map fun p => (p.1, ρ p.2) := by simp
  have hsm' : ¬ (16777216 < len * i.size) := hsm
  by_cases h0 : len * i.size = 0
  · have hl0 : len = 0 := by rcases Nat.mul_eq_zero.1 h0 with h | h <;> omega
    subst hl0
    have h11 : Instr.fill (fun i_1 => some (i_1 * i.size, i.size)) #[] (ps.map fun p => (p.1, ρ p.2)).toList = some c' := by
      rw [e]
      exact h7
    rw [e] at h11
    simp [Instr.buildSlice, run_und hE (und_of_slice hel), run_sizeTI hE hi, newRow, range0, h11]
  · have h12 := h7
    rw [← hzero] at h12
    simp [Instr.buildSlice, run_und hE (und_of_slice hel), run_sizeTI hE hi, hsm', h0, hzr, newRow, h12]

theorem makeSliceS {t : TypeId} {l l' c c' : Value} {r : OpR} (hl : VR β l l') (hc : VR β c c') (hr : makeSliceV E t l c = some r) :
    ∃ sp mk o, r = .new sp mk o ∧ ∃ v' w', (Instr.makeSlice t l' c').run E.P w = .ok v' w' ∧ NewS E.P β w w' v' sp mk o := by
  obtain ⟨el, hel, h2⟩ := ob_eq_some.1 hr
  obtain ⟨ln, hln, h3⟩ := ob_eq_some.1 h2
  obtain ⟨cn, hcn, h4⟩ := ob_eq_some.1 h3
  obtain ⟨sz, hsz, h5⟩ := ob_eq_some.1 h4
  obtain ⟨z, hz, h6⟩ := ob_eq_some.1 h5
  rw [guardO_eq_some, guardO_eq_some, ble_iff] at h6
  obtain ⟨hb, hle, h7⟩ := h6
  obtain rfl := lenOf_eq hln
  obtain rfl := lenOf_eq hcn
  obtain rfl := hl.of_pf rfl
  obtain rfl := hc.of_pf rfl
  obtain ⟨i, hi, rfl, hpos⟩ := sizeP_TI hsz
  obtain ⟨i2, zv, hi2, hzr, hzc, hzl, hzp⟩ := zeroTI_eq hE (w := w) hz
  obtain rfl : i = i2 := by rw [hi] at hi2; simpa using hi2
  obtain ⟨info, hinfo, hb1, hb2⟩ := bytesOk_eq hE hi hb w
  have hwl : IntKind.i64.wrap (ln : Int) = (ln : Int) := IntWalk.i64_in _ ⟨Int.le_trans (by omega) (Int.natCast_nonneg ln), Int.le_trans (Int.ofNat_le.2 (Nat.le_trans hle hb2)) (by omega)⟩
  have hwc : IntKind.i64.wrap (cn : Int) = (cn : Int) := IntWalk.i64_in _ ⟨Int.le_trans (by omega) (Int.natCast_nonneg cn), Int.le_trans (Int.ofNat_le.2 hb2) (by omega)⟩
  have h8 : ¬ ((cn : Int) < 0) := by omega
  have h9 : ¬ ((ln : Int) < 0) := by omega
  have h10 : ¬ (281474976710656 < (info.bytes : Int) * (cn : Int)) := by
    intro h
    rw [← Int.natCast_mul, Nat.mul_comm] at h
    have : ((cn * info.bytes : Nat) : Int) ≤ 70368744177664 := Int.ofNat_le.2 hb1
    omega
  have h11 : ¬ cn < ln := by omega
  have h12 := zeroCells_rep hzc cn
  have h13 : zv.cells.size = i.size := by rw [← Array.length_toList, hzc]; exact hzl
  unfold Builtin.zeroCells at h12
  rw [h13] at h12
  refine ⟨_, _, _, by simpa using h7.symm, .slice (some ⟨w.heap.size, 0, none⟩) ln cn, { w with heap := w.heap.push (.cells ⟨rep z cn⟩ el), drawn := w.drawn }, ?_,
    newSliceS (VRL.self fun y hy => hzp y (rep_mem hy)) (by rw [rep_length, hzl]) (cellsOf_TI hE hi) hle⟩
  by_cases h0 : cn = 0
  · subst h0
    have hnil : rep z 0 = [] := rfl
    have hwc0 : IntKind.i64.wrap 0 = 0 := rfl
    have hln0 : ln = 0 := by omega
    subst hln0
    simp [Instr.makeSlice, run_und hE (und_of_slice hel), asInt, asIntOf, hinfo, hwc0, run_sizeTI hE hi, newRow, hnil, range0]
  · have h0' : ¬ (cn * i.size = 0) := fun e => by rcases Nat.mul_eq_zero.1 e with e | e <;> omega
    simp [Instr.makeSlice, run_und hE (und_of_slice hel), asInt, asIntOf, hinfo, hwl, hwc, h8, h9, h10, h11, run_sizeTI hE hi, h0', hzr, newRow]
    rw [h13, h12]

end
end Go.Ev
namespace Go.Ev
open Go.RowKit

section
variable {E : Env} {B : Nat} {W : World} {β : Bt} {σ : St} {w : World}

/-- The value that a slot gets. -/
def Gives (n : Next) (v : Value) : Prop := n = .value v ∨ (n = .skip ∧ v = undef)

def OpS (E : Env) (B : Nat) (W : World) (β : Bt) (σ : St) (w : World) (s : Sem Next) : OpR → Prop
  | .val v => ∃ v', s.run E.P w = .ok (.value v') w ∧ VR β v v'
  | .ld v => ∃ v', s.run E.P w = .ok (.value v') w ∧ VR β v v'
  | .new sp mk o => ∃ v' w', s.run E.P w = .ok (.value v') w' ∧ NewS E.P β w w' v' sp mk o
  | .eff v σ' => ∃ n v' w', s.run E.P w = .ok n w' ∧ Gives n v' ∧ EffS E.P B W β σ σ' w' v v'
  | .call f args => ∃ args', s.run E.P w = .ok (.enter f ⟨args'⟩) w ∧ VRL β args args'

theorem makeNoZero_def (ps rs : Array TypeId) (n : Int) : Extern.BytealgMakeNoZero.makeNoZero ps rs #[.int .i64 n] = (do
    let some t := rs[0]? | stuck "bytealg.MakeNoZero: no result type"
    let .slice elem ← underlying t | stuck "bytealg.MakeNoZero: slice type expected"
    if n < 0 || n > 2 ^ 48 then runtimePanic (.error "makeslice: len out of range")
    let cap ← choose (.appendCap n.toNat 0 elem)
    askRoom cap
    let bytes ← choose (.extern "internal/bytealg.MakeNoZero.bytes" 0)
    let a ← newRow elem (Extern.BytealgMakeNoZero.digits cap bytes #[])
    pure (.slice (some a) n.toNat cap)) := rfl

theorem digits_size : ∀ (n t : Nat) (acc : Array Value), (Extern.BytealgMakeNoZero.digits n t acc).size = acc.size + n
  | 0, _, acc => rfl
  | n + 1, t, acc => by
    simp only [Extern.BytealgMakeNoZero.digits, digits_size n]
    simp; omega

theorem valS_op {s : Sem Value} {v : Value} (h : ValS E β w s v) : OpS E B W β σ w (do pure (.value (← s))) (.val v) := by
  obtain ⟨v', h1, h2⟩ := h
  exact ⟨v', by simp [h1], h2⟩
theorem ldS_op {s : Sem Value} {v : Value} (h : ValS E β w s v) : OpS E B W β σ w (do pure (.value (← s))) (.ld v) := by
  obtain ⟨v', h1, h2⟩ := h
  exact ⟨v', by simp [h1], h2⟩
theorem newS_op {s : Sem Value} {r : OpR} (h : ∃ sp mk o, r = .new sp mk o ∧ ∃ v' w', s.run E.P w = .ok v' w' ∧ NewS E.P β w w' v' sp mk o) : OpS E B W β σ w (do pure (.value (← s))) r := by
  obtain ⟨sp, mk, o, rfl, v', w', h1, h2⟩ := h
  exact ⟨v', w', by simp [h1], h2⟩
theorem effS_op {s : Sem Value} {r : OpR} (h : ∃ v σ', r = .eff v σ' ∧ ∃ v' w', s.run E.P w = .ok v' w' ∧ EffS E.P B W β σ σ' w' v v') : OpS E B W β σ w (do pure (.value (← s))) r := by
  obtain ⟨v, σ', rfl, v', w', h1, h2⟩ := h
  exact ⟨_, v', w', by simp [h1], .inl rfl, h2⟩
theorem unitS_op {s : Sem Unit} {r : OpR} (h : ∃ σ', r = .eff undefV σ' ∧ Step σ σ' ∧ ∃ w', s.run E.P w = .ok () w' ∧ Rel E.P B W β σ' w') : OpS E B W β σ w (do s; pure .skip) r := by
  obtain ⟨σ', rfl, h0, w', h1, h2⟩ := h
  exact ⟨_, undef, w', by simp [h1], .inr ⟨rfl, rfl⟩, h0, β, Ext.refl _ _, h2, VR.undef⟩

theorem head_eq {l : Array TypeId} {t : TypeId} (h : head? l.toList = some t) : l[0]? = some t := by
  obtain ⟨l⟩ := l
  cases l with
  | nil => cases h
  | cons a l => simpa [head?] using h
theorem snd_eq {l : Array TypeId} {t u : TypeId} (h : head? l.toList = some t) (h2 : snd? l.toList = some u) : l = #[t, u] := by
  obtain ⟨l⟩ := l
  match l, h, h2 with
  | [a, b], h, h2 =>
    have e1 : a = t := by simpa [head?] using h
    have e2 : b = u := by simpa [snd?] using h2
    rw [e1, e2]
theorem one2_eq {l : List Value} {f : Value → Option OpR} {r : OpR} (h : one2 l f = some r) : ∃ x, l = [x] ∧ f x = some r := by
  match l, h with
  | [x], h => exact ⟨x, rfl, h⟩
theorem two2_eq {l : List Value} {f : Value → Value → Option OpR} {r : OpR} (h : two2 l f = some r) : ∃ x y, l = [x, y] ∧ f x y = some r := by
  match l, h with
  | [x, y], h => exact ⟨x, y, rfl, h⟩
theorem one_arr {args : Array Operand} {ρ : Operand → Value} {x : Value} {l : List Value} (hv : VRL β l (args.toList.map ρ)) (h : l = [x]) : ∃ x', VR β x x' ∧ args.map ρ = #[x'] := by
  subst h
  obtain ⟨x', q, h1, h2, h3⟩ := hv.cons_inv
  obtain rfl := h3.nil_inv
  exact ⟨x', h2, by apply Array.ext'; simpa using h1⟩
theorem two_arr {args : Array Operand} {ρ : Operand → Value} {x y : Value} {l : List Value} (hv : VRL β l (args.toList.map ρ)) (h : l = [x, y]) : ∃ x' y', VR β x x' ∧ VR β y y' ∧ args.map ρ = #[x', y'] := by
  subst h
  obtain ⟨x', q, h1, h2, h3⟩ := hv.cons_inv
  obtain ⟨y', q', rfl, h5, h6⟩ := h3.cons_inv
  obtain rfl := h6.nil_inv
  exact ⟨x', y', h2, h5, by apply Array.ext'; simpa using h1⟩

end

section
variable {E : Env} (hE : EnvOK E) {B : Nat} {W : World} {β : Bt} {σ : St} {w : World}
include hE

theorem extS {g : FuncId} {args args' : List Value} {r : OpR} (hv : VRL β args args') : ∀ {l : List (Nat × ExtK)}, (∀ p ∈ l, p ∈ E.ext) → extV E g args l = some r → OpS E B W β σ w (callFunc g ⟨args'⟩) r
  | [], _, h => by cases h
  | p :: l, hm, h => by
    change bc (Nat.beq g p.1) (extK E p.2 args) (extV E g args l) = some r at h
    rw [bc_eq_some, beq_iff] at h
    rcases h with ⟨rfl, h2⟩ | ⟨-, h2⟩
    · obtain ⟨fn, hfn, hnb, hnext, hk⟩ := hE.ext p.1 p.2 (hm p (by simp))
      have hname := hE.names _ _ hfn
      have hname' : ¬ (fn.name = "runtime.NumGoroutine") := by simpa using hname
      have hb : fn.body = none := by cases hb : fn.body <;> simp_all
      have hcall : ∀ e : Array Value → Sem Value, Extern.find fn = some e → ∀ v' w', (e ⟨args'⟩).run E.P w = .ok v' w' → (callFunc p.1 ⟨args'⟩).run E.P w = .ok (.value v') w' := by
        intro e he v' w' hr
        simp [callFunc, hfn, hname', hb, hnext, he, hr]
      obtain ⟨g', k⟩ := p
      cases k with
      | noEscape =>
        obtain ⟨v, hv1, rfl⟩ := okV_eq h2
        obtain rfl := one_eq hv1
        obtain ⟨v', q, rfl, h3, h4⟩ := hv.cons_inv
        obtain rfl := h4.nil_inv
        exact ⟨v', hcall _ hk v' w rfl, h3⟩
      | noZero el =>
        obtain ⟨v, hv1, h3⟩ := ob_eq_some.1 h2
        obtain ⟨n, hn, h4⟩ := ob_eq_some.1 h3
        obtain ⟨s, hs, h5⟩ := ob_eq_some.1 h4
        rw [guardO_eq_some, beq_iff, guardO_eq_some, ble_iff] at h5
        obtain ⟨rfl, hb1, h6⟩ := h5
        obtain rfl := one_eq hv1
        obtain ⟨v', q, rfl, h7, h8⟩ := hv.cons_inv
        obtain rfl := h8.nil_inv
        obtain rfl := lenOf_eq hn
        obtain rfl := h7.of_pf rfl
        obtain ⟨t, hfind, hres, hund⟩ := hk
        obtain ⟨i, hi, hi1⟩ := size_TI hs
        obtain rfl : OpR.new (some n) (fun id => .slice (some ⟨id, 0, some n⟩) n n) (rowOf el (rep [poison] n)) = r := by simpa using h6
        have hn48 : ¬ (281474976710656 < (n : Int)) := by omega
        have hn0 : ¬ ((n : Int) < 0) := by omega
        have hrep : (rep [poison] n).length = n := by rw [rep_length]; simp
        let cap := n + w.tape w.drawn (.appendCap n 0 el) % (2 ^ 63 - n)
        let bytes := w.drew.tape w.drew.drawn (.extern "internal/bytealg.MakeNoZero.bytes" 0)
        refine ⟨.slice (some ⟨w.heap.size, 0, none⟩) n cap, { w with heap := w.heap.push (.cells (Extern.BytealgMakeNoZero.digits cap bytes #[]) el), drawn := w.drawn + 2 }, hcall _ hfind _ _ ?_, ?_⟩
        · show (Extern.BytealgMakeNoZero.makeNoZero fn.params fn.resultTypes #[.int .i64 (n : Int)]).run E.P w = _
          rw [makeNoZero_def]
          have hu : ∀ w : World, (underlying t).run E.P w = .ok (.slice el) w := fun w => run_underlying hund w
          simp [hres, hu, hn0, hn48, Question.forced, Question.cut, newRow, cap, bytes]
          rfl
        · refine newRowS (below_push w _ _) rfl _ (.inr (by rw [hrep])) ?_ (fun e => by cases e) (fun j v hj => ?_) _ _ (fun id => ?_)
          · rw [hrep, digits_size]
            show n ≤ 0 + (n + _); omega
          · have hj2 : j < n := by rw [← hrep]; exact (List.getElem?_eq_some_iff.1 hj).1
            have hp : v = poison := by
              have := rep_mem (List.mem_of_getElem? hj)
              simpa using this
            refine ⟨_, Array.getElem?_eq_getElem (by rw [digits_size]; show j < 0 + (n + _); omega), .inl (by rw [hp]; rfl)⟩
          · refine VR.slice ⟨id, 0, some n⟩ ⟨w.heap.size, _, _, 0⟩ n n cap (upd_self _ _ _ _) (by show n ≤ n + _; omega) (Nat.le_refl _) fun _ => ?_
            show 0 + cap * E.P.cellsOf el ≤ _
            rw [cellsOf_TI hE hi, hi1, digits_size]
            simp
    · exact extS hv (fun q hq => hm q (by simp [hq])) h2

theorem callVS {g : FuncId} {args args' : List Value} {r : OpR} (hv : VRL β args args') (h : callV E g args = some r) : OpS E B W β σ w (callFunc g ⟨args'⟩) r := by
  obtain ⟨fn, hfn, h2⟩ := ob_eq_some.1 h
  rw [hE.funcs] at hfn
  rw [bc_eq_some] at h2
  rcases h2 with ⟨hb, h3⟩ | ⟨-, h3⟩
  · have hname := hE.names _ _ hfn
    have hname' : ¬ (fn.name = "runtime.NumGoroutine") := by simpa using hname
    obtain rfl : OpR.call g args = r := by simpa using h3
    have hb' : ¬ fn.body = none := by cases hb' : fn.body <;> simp_all
    exact ⟨args', by simp [callFunc, hfn, hname', hb'], hv⟩
  · exact extS hE hv (fun p hp => hp) h3

/-- What an operation answers in the evaluator, it comes to in the model. -/
theorem opSound (h : Rel E.P B W β σ w) {tm : TM} {a : Act} {o : Oper} {r : OpR} (hx : ∀ x ∈ o.op.operands, VR β (evX tm x) (a.eval x)) (hr : evOp E tm σ o = some r) :
    OpS E B W β σ w (execOp a.eval o) r := by
  obtain ⟨dst, op, type, pos, after, guard⟩ := o
  have slow : (∀ cs b, op ≠ .select cs b) → slowOp E tm ⟨dst, op, type, pos, after, guard⟩ = some r → OpS E B W β σ w (execOp a.eval ⟨dst, op, type, pos, after, guard⟩) r := by
    intro hs hsl
    obtain ⟨v, rfl, hp, hrun⟩ := slowS hx hs hsl
    exact ⟨v, hrun w, .pf v hp⟩
  simp only at hx
  unfold evOp at hr
  simp only at hr
  split at hr
  · rename_i x
    obtain rfl : OpR.val (evX tm x) = r := by simpa using hr
    exact ⟨_, rfl, hx x (by simp [Op.operands])⟩
  · rename_i x
    obtain rfl : OpR.val (evX tm x) = r := by simpa using hr
    exact ⟨_, rfl, hx x (by simp [Op.operands])⟩
  · rename_i c p q
    obtain ⟨b, hb, h2⟩ := ob_eq_some.1 hr
    have hc := hx c (by simp [Op.operands])
    rw [boolOf_eq hb] at hc
    have hc' := hc.of_pf rfl
    obtain rfl : OpR.val (bc b (evX tm p) (evX tm q)) = r := by simpa using h2
    refine ⟨if b then a.eval p else a.eval q, ?_, ?_⟩
    · simp [execOp, hc', asBool]
    · cases b
      · exact hx q (by simp [Op.operands])
      · exact hx p (by simp [Op.operands])
  · exact newS_op (allocS hE hr)
  · rename_i t x
    exact newS_op (boxS (hx x (by simp [Op.operands])) hr)
  · rename_i t ps
    obtain ⟨v, rfl, hv⟩ := buildS hE (w := w) (ρ := a.eval) (fun p hp => hx p.2 (by simp only [Op.operands]; simp only [List.mem_toArray, List.mem_map, Array.mem_toList_iff]; exact ⟨p, hp, rfl⟩)) hr
    exact valS_op hv
  · rename_i t len ps
    exact newS_op (buildSliceS hE (ρ := a.eval) (fun p hp => hx p.2 (by simp only [Op.operands]; simp only [List.mem_toArray, List.mem_map, Array.mem_toList_iff]; exact ⟨p, hp, rfl⟩)) hr)
  · rename_i t ad
    obtain ⟨v, rfl, hv⟩ := loadOpS hE h (hx ad (by simp [Op.operands])) hr
    exact ldS_op hv
  · rename_i t ad x
    exact unitS_op (storeOpS hE h (hx ad (by simp [Op.operands])) (hx x (by simp [Op.operands])) hr)
  · rename_i x
    have hv := hx x (by simp [Op.operands])
    unfold nilCheckV at hr
    split at hr
    · rename_i ad heq
      rw [heq] at hv
      obtain ⟨l, hl, he⟩ := VR.ptr_inv hv
      obtain rfl : OpR.val (.pointer (some ad)) = r := by simpa using hr
      exact ⟨.pointer (some ⟨l.blk, ad.off + l.off, none⟩), by simp [execOp, he], .ptr ad l hl⟩
    · rename_i f p c heq
      rw [heq] at hv
      obtain ⟨p', c', he, hp, hc⟩ := VR.func_inv hv
      obtain rfl : OpR.val (.func (.func f) p c) = r := by simpa using hr
      exact ⟨.func (.func f) ⟨p'⟩ ⟨c'⟩, by simp [execOp, he], .func f p.toList p' c.toList c' hp.1 hc.1 hp.2 hc.2⟩
    · cases hr
  · rename_i b t x y yt
    have hvx := hx x (by simp [Op.operands])
    have hvy := hx y (by simp [Op.operands])
    unfold binV at hr
    rw [orElse_eq_some, orElse_eq_some] at hr
    rcases hr with h2 | ⟨-, h2 | ⟨-, h2⟩⟩
    · obtain ⟨v, hv, rfl⟩ := okV_eq h2
      obtain ⟨p1, p2, p3, hrun⟩ := fastS (E := E) (x' := x) (y' := y) (ty := t) hv
      have e1 := hvx.of_pf p1
      have e2 := hvy.of_pf p2
      refine valS_op ⟨v, ?_, .pf v p3⟩
      rw [e1, e2]; exact hrun w
    · exact slow (fun _ _ => by simp) h2
    · split at h2
      · obtain ⟨q, hq, h3⟩ := ob_eq_some.1 h2
        obtain rfl : OpR.val (.bool q) = r := by simpa using h3
        exact valS_op ⟨_, (equal_run hE hvx hvy hq x y).1, .pf _ rfl⟩
      · obtain ⟨q, hq, h3⟩ := ob_eq_some.1 h2
        obtain rfl : OpR.val (.bool (!q)) = r := by simpa using h3
        exact valS_op ⟨_, (equal_run hE hvx hvy hq x y).2, .pf _ rfl⟩
      · cases h2
  · exact slow (fun _ _ => by simp) hr
  · rename_i s d x
    rw [orElse_eq_some] at hr
    rcases hr with h2 | ⟨-, h2⟩
    · exact slow (fun _ _ => by simp) h2
    · obtain ⟨v, hv, hS⟩ := convertS hE h (hx x (by simp [Op.operands])) h2
      rcases hv with rfl | rfl
      · exact valS_op hS
      · exact ldS_op hS
  · rename_i fn p c
    unfold makeFuncV at hr
    split at hr
    · rename_i f
      rw [guardO_eq_some, guardO_eq_some] at hr
      obtain ⟨-, -, h2⟩ := hr
      obtain rfl : OpR.val (.func (.func f) ⟨evL tm p.toList⟩ ⟨evL tm c.toList⟩) = r := by simpa using h2
      have hp := evL_VRL (tm := tm) (ρ := a.eval) (l := p.toList) (fun y hy => hx y (by simp only [Op.operands, Array.mem_append]; exact .inl (by simpa using hy)))
      have hc := evL_VRL (tm := tm) (ρ := a.eval) (l := c.toList) (fun y hy => hx y (by simp only [Op.operands, Array.mem_append]; exact .inr (by simpa using hy)))
      refine valS_op ⟨.func (.func f) (p.map a.eval) (c.map a.eval), rfl, ?_⟩
      have e1 : p.map a.eval = ⟨p.toList.map a.eval⟩ := by apply Array.ext'; simp
      have e2 : c.map a.eval = ⟨c.toList.map a.eval⟩ := by apply Array.ext'; simp
      rw [e1, e2]
      exact .func f _ _ _ _ hp.1 hc.1 hp.2 hc.2
    · cases hr
  · exact newS_op (makeMapS hr)
  · rename_i t l c
    exact newS_op (makeSliceS hE (hx l (by simp [Op.operands])) (hx c (by simp [Op.operands])) hr)
  · rename_i t x lo hi mxm
    rw [orElse_eq_some] at hr
    rcases hr with h2 | ⟨-, h2⟩
    · obtain ⟨v, hv, hS⟩ := sliceS hE h (hx x (by simp [Op.operands])) (lo' := lo.map a.eval) (hi' := hi.map a.eval) (mxm' := mxm.map a.eval)
        (VRO.of fun y hy => hx y (by simp [Op.operands, hy])) (VRO.of fun y hy => hx y (by simp [Op.operands, hy])) (VRO.of fun y hy => hx y (by simp [Op.operands, hy])) h2
      rcases hv with rfl | rfl
      · exact valS_op hS
      · exact ldS_op hS
    · exact slow (fun _ _ => by simp) h2
  · rename_i s x i
    obtain ⟨v, rfl, hS⟩ := fieldAddrS hE (w := w) (hx x (by simp [Op.operands])) hr
    exact valS_op hS
  · rename_i s x i
    obtain ⟨v, rfl, hS⟩ := fieldS hE (w := w) (hx x (by simp [Op.operands])) hr
    exact valS_op hS
  · rename_i t x ix
    obtain ⟨v, rfl, hS⟩ := indexAddrS hE (w := w) h.zero (hx x (by simp [Op.operands])) (hx ix (by simp [Op.operands])) hr
    exact valS_op hS
  · rename_i t x ix
    rw [orElse_eq_some] at hr
    rcases hr with h2 | ⟨-, h2⟩
    · exact slow (fun _ _ => by simp) h2
    · obtain ⟨v, rfl, hS⟩ := indexS hE (w := w) (hx x (by simp [Op.operands])) (hx ix (by simp [Op.operands])) h2
      exact valS_op hS
  · rename_i t m k ok
    obtain ⟨v, rfl, hS⟩ := lookupS hE h (hx m (by simp [Op.operands])) (hx k (by simp [Op.operands])) hr
    exact ldS_op hS
  · rename_i t m k v
    rw [guardO_eq_some] at hr
    exact unitS_op (updateS hE h (hx m (by simp [Op.operands])) (hx k (by simp [Op.operands])) (hx v (by simp [Op.operands])) hr.2)
  · rename_i x i
    obtain ⟨v, rfl, hS⟩ := extractS (E := E) (w := w) (hx x (by simp [Op.operands])) hr
    exact valS_op hS
  · rename_i c
    obtain ⟨callee, args, ats⟩ := c
    have hargs : VRL β (evL tm args.toList) (args.toList.map a.eval) := evL_VRL (tm := tm) (ρ := a.eval) (l := args.toList) (fun y hy => hx y (by cases callee <;> simp only [Op.operands, Call.operands, Array.mem_append] <;> first | exact .inr (by simpa using hy) | simpa using hy))
    cases callee with
    | builtin b =>
      change builtinV E tm σ _ b ats.toList args.toList = some r at hr
      have hlift : ∀ {s : Sem Value}, (builtin b ats type (args.map fun | .const _ => true | _ => false) (args.map a.eval) = do pure (.value (← s))) → OpS E B W β σ w (do pure (.value (← s))) r → OpS E B W β σ w (execOp a.eval ⟨dst, .call ⟨.builtin b, args, ats⟩, type, pos, after, guard⟩) r := by
        intro s h1 h2
        rw [← h1] at h2
        exact h2
      cases b with
      | append =>
        obtain ⟨t, ht, h2⟩ := ob_eq_some.1 hr
        obtain ⟨xt, hxt, h3⟩ := ob_eq_some.1 h2
        obtain ⟨s, x, hl, h4⟩ := two2_eq h3
        obtain ⟨s', x', hs, hx', ea⟩ := two_arr hargs hl
        obtain rfl := snd_eq ht hxt
        refine hlift rfl ?_
        rw [ea]
        rcases appendS hE h hs hx' h4 type with ⟨v, rfl, hv⟩ | ⟨sp, mk, o, rfl, hv⟩ | ⟨v, σ', rfl, hv⟩
        · exact valS_op hv
        · exact newS_op ⟨_, _, _, rfl, hv⟩
        · exact effS_op ⟨_, _, rfl, hv⟩
      | copy =>
        obtain ⟨t, ht, h2⟩ := ob_eq_some.1 hr
        obtain ⟨s, x, hl, h4⟩ := two2_eq h2
        obtain ⟨s', x', hs, hx', ea⟩ := two_arr hargs hl
        refine hlift rfl ?_
        rw [ea]
        rcases copyS hE h ats type (head_eq ht) hs hx' h4 with ⟨v, rfl, hv⟩ | ⟨v, σ', rfl, hv⟩
        · exact valS_op hv
        · exact effS_op ⟨_, _, rfl, hv⟩
      | len =>
        have hr' : orElse (ob (head? ats.toList) fun t => one2 (evL tm args.toList) (lenV E σ t)) (slowOp E tm ⟨dst, .call ⟨.builtin .len, args, ats⟩, type, pos, after, guard⟩) = some r := hr
        rw [orElse_eq_some] at hr'
        rcases hr' with h1 | ⟨-, h1⟩
        · obtain ⟨t, ht, h2⟩ := ob_eq_some.1 h1
          obtain ⟨x, hl, h4⟩ := one2_eq h2
          obtain ⟨x', hx', ea⟩ := one_arr hargs hl
          refine hlift rfl ?_
          rw [ea]
          obtain ⟨v, hv, hS⟩ := lenS hE h ats type (head_eq ht) hx' h4
          rcases hv with rfl | rfl
          · exact valS_op hS
          · exact ldS_op hS
        · exact slow (fun _ _ => by simp) h1
      | cap =>
        obtain ⟨t, ht, h2⟩ := ob_eq_some.1 hr
        obtain ⟨x, hl, h4⟩ := one2_eq h2
        obtain ⟨x', hx', ea⟩ := one_arr hargs hl
        refine hlift rfl ?_
        rw [ea]
        obtain ⟨v, rfl, hS⟩ := capS hE (w := w) ats type (head_eq ht) hx' h4
        exact valS_op hS
      | max => exact slow (fun _ _ => by simp) hr
      | min => exact slow (fun _ _ => by simp) hr
      | unsafeString =>
        obtain ⟨t, ht, h2⟩ := ob_eq_some.1 hr
        obtain ⟨s, x, hl, h4⟩ := two2_eq h2
        obtain ⟨s', x', hs, hx', ea⟩ := two_arr hargs hl
        refine hlift rfl ?_
        rw [ea]
        rcases unsafeStringS hE h ats type (head_eq ht) hs hx' h4 with ⟨v, rfl, hv⟩ | ⟨v, σ', rfl, hv⟩
        · exact valS_op hv
        · exact effS_op ⟨_, _, rfl, hv⟩
      | unsafeSliceData =>
        obtain ⟨x, hl, h4⟩ := one2_eq hr
        obtain ⟨x', hx', ea⟩ := one_arr hargs hl
        refine hlift rfl ?_
        rw [ea]
        obtain ⟨v, rfl, hS⟩ := sliceDataS (w := w) h.zero ats type hx' h4
        exact valS_op hS
      | _ => cases hr
    | value f =>
      change callF E (evX tm f) (evL tm args.toList) = some r at hr
      have hvf := hx f (by simp [Op.operands, Call.operands])
      unfold callF at hr
      split at hr
      · rename_i g first captured heq
        rw [heq] at hvf
        obtain ⟨p', c', he, hp, hc⟩ := VR.func_inv hvf
        have e1 : execOp a.eval ⟨dst, .call ⟨.value f, args, ats⟩, type, pos, after, guard⟩ = callFunc g (⟨p'⟩ ++ args.map a.eval ++ ⟨c'⟩) := by
          show (do let d ← Deferred.ofValue (a.eval f) (args.map a.eval); invoke d.target d.args : Sem Next) = _
          rw [he]
          rfl
        rw [e1]
        have e2 : (⟨p'⟩ : Array Value) ++ args.map a.eval ++ ⟨c'⟩ = ⟨p' ++ (args.toList.map a.eval ++ c')⟩ := by apply Array.ext'; simp
        rw [e2]
        exact callVS hE (hp.append (hargs.append hc)) hr
      · cases hr
    | invoke x n => cases hr
  · cases hr

end
end Go.Ev
