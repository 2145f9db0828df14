/-
  What the evaluator answers for a call, the model comes to; the evaluator without a bound, and in passing style.
-/
import Derived.Test.YthhpebcihfcajaaGreatDoorEvB
import Derived.Tactics
import Derived.Orders
import Derived.LoopN
set_option linter.unusedVariables false
set_option linter.unusedSimpArgs false
namespace Go.Ev
open Go.RowKit

def TMR (β : Bt) (tm : TM) (a : Act) : Prop := ∀ t : Nat, VR β (orUndef (tm.get t)) (a.tmps.getD t undef)

theorem TMR.mono {β β' : Bt} {tm : TM} {a : Act} (h : TMR β tm a) (hb : Bt.le β β') : TMR β' tm a := fun t => (h t).mono hb

theorem getD_put {a : Act} {d : Tmp} {v : Value} (hd : d < a.tmps.size) (t : Nat) : (a.put (some d) v).tmps.getD t undef = if t = d then v else a.tmps.getD t undef := by
  simp only [Act.put, Array.getD_eq_getD_getElem?, Array.getElem?_setIfInBounds]
  by_cases h : t = d
  · subst h; simp [hd]
  · rw [if_neg (fun e => h e.symm), if_neg h]

theorem put_size (a : Act) (d : Option Tmp) (v : Value) : (a.put d v).tmps.size = a.tmps.size := by
  cases d <;> simp [Act.put]
theorem put_defers (a : Act) (d : Option Tmp) (v : Value) : (a.put d v).defers = a.defers := by
  cases d <;> simp [Act.put]

theorem TMR.set {β : Bt} {tm : TM} {a : Act} {dst : Option Tmp} {v v' : Value} (h : TMR β tm a) (hv : VR β v v') (hd : ∀ d, dst = some d → d < a.tmps.size) :
    TMR β (setT tm dst v) (a.put dst v') := by
  cases dst with
  | none => exact h
  | some d =>
    intro t
    rw [getD_put (hd d rfl)]
    show VR β (orUndef ((tm.set d v).get t)) _
    rw [T.get_set]
    by_cases ht : t = d
    · rw [if_pos ht, if_pos ht]; exact hv
    · rw [if_neg ht, if_neg ht]; exact h t

theorem evX_VR {P : Program} {B : Nat} {W : World} {β : Bt} {σ : St} {w : World} (h : Rel P B W β σ w) {tm : TM} {a : Act} {x : Operand} (hx : globB P.globals.size x = true)
    (ht : ∀ t, x = .tmp t → VR β (orUndef (tm.get t)) (a.tmps.getD t undef)) : VR β (evX tm x) (a.eval x) := by
  cases x with
  | tmp t => exact ht t rfl
  | const v => exact .pf v hx
  | global g =>
    have hg : g + 1 ≤ P.globals.size := ble_iff.1 hx
    obtain ⟨l, hl, e, e0⟩ := h.glob g (by omega)
    have := VR.ptr (β := β) ⟨g + 1, 0, none⟩ l hl
    rw [e, e0] at this
    exact this
  | func f => exact .pf _ rfl

theorem VR.bool_inv {β : Bt} {x : Value} {b : Bool} (h : VR β x (.bool b)) : x = .bool b := by cases h; rfl
theorem sameB_iff {a b : Bool} : sameB a b = true ↔ a = b := by cases a <;> cases b <;> decide

theorem wanted_eq {β : Bt} {ops : Array Oper} {tm : TM} {a : Act} {o : Oper} (h : ∀ d, guardTmp ops.toList o = some d → VR β (orUndef (tm.get d)) (a.tmps.getD d undef)) :
    Region.wanted o (yielded ops a.tmps) = wantedB ops.toList tm o := by
  unfold Region.wanted wantedB guardTmp at *
  cases hg : o.guard with
  | none => rfl
  | some gw =>
    obtain ⟨g, want⟩ := gw
    rw [hg] at h
    simp only [ob_some] at h
    show (yielded ops a.tmps g == some want) = @Option.rec Bool (fun _ => Bool) false (sameB want) (yieldOf ops.toList tm g)
    have hd : dstOf (nth ops.toList g) = (ops[g]?).bind (·.dst) := by
      rw [nth_eq]; simp only [Array.getElem?_toList]
      cases ops[g]? <;> rfl
    unfold yielded yieldOf
    rw [hd] at h ⊢
    cases hdd : (ops[g]?).bind (·.dst) with
    | none => simp
    | some d =>
      have hv := h d hdd
      simp only [ob_some, Option.bind_some]
      cases ht : tm.get d with
      | none =>
        rw [ht] at hv
        simp only [ob_none]
        cases ha : a.tmps[d]? with
        | none => simp
        | some u =>
          have : a.tmps.getD d undef = u := by simp [Array.getD_eq_getD_getElem?, ha]
          rw [this] at hv
          have := hv.of_pf rfl
          subst this
          rfl
      | some x =>
        rw [ht] at hv
        change VR β x _ at hv
        simp only [ob_some]
        cases hb : boolOf? x with
        | some b =>
          obtain rfl : x = .bool b := by cases x <;> simp_all [boolOf?]
          have e := hv.of_pf rfl
          have : a.tmps[d]? = some (.bool b) := by
            cases ha : a.tmps[d]? with
            | none => simp [Array.getD_eq_getD_getElem?, ha, undef] at e
            | some u => simpa [Array.getD_eq_getD_getElem?, ha] using e
          rw [this]
          show (some b == some want) = sameB want b
          cases b <;> cases want <;> rfl
        | none =>
          cases ha : a.tmps[d]? with
          | none => simp
          | some u =>
            have e : a.tmps.getD d undef = u := by simp [Array.getD_eq_getD_getElem?, ha]
            rw [e] at hv
            cases u with
            | bool b => obtain rfl := hv.bool_inv; simp [boolOf?] at hb
            | _ => rfl

/-- What a call answers in the evaluator, it comes to in the model. -/
def CallsS (E : Env) (call : CallF) : Prop :=
  ∀ (f : FuncId) (args : List Value) (σ : St) (v : Value) (σ' : St), call f args σ = some (v, σ') → ∀ (B : Nat) (W : World) (β : Bt) (w : World) (args' : List Value),
    Rel E.P B W β σ w → 0 < σ.next → VRL β args args' → Calls E.P f ⟨args'⟩ w fun e w' => ∃ v', e = .returned v' ∧ EffS E.P B W β σ σ' w' v v'

section
variable {E : Env} (hE : EnvOK E) {call : CallF} (hcall : CallsS E call) {B : Nat} {W : World}
include hE hcall

theorem oper_wp {β : Bt} {σ : St} {w : World} (h : Rel E.P B W β σ w) (hn : 0 < σ.next) {tm : TM} {a : Act} {o : Oper} {r : OpR} (hx : ∀ x ∈ o.op.operands, VR β (evX tm x) (a.eval x))
    (hr : evOp E tm σ o = some r) {v : Value} {σ' : St} (ha : afterR call σ r = some (v, σ')) {K : Act → World → Prop} {Q : Exit → Act → World → Prop}
    (hK : ∀ v' w', EffS E.P B W β σ σ' w' v v' → K (a.put o.dst v') w') : o.wp E.P a w K Q := by
  have hs := opSound hE h hx hr
  unfold Oper.wp
  cases r with
  | val u =>
    obtain ⟨rfl, rfl⟩ : u = v ∧ σ = σ' := by simpa [afterR] using ha
    obtain ⟨v', h1, h2⟩ := hs
    rw [h1]
    exact hK v' w ⟨Step.refl _, β, Ext.refl _ _, h, h2⟩
  | ld u =>
    obtain ⟨rfl, rfl⟩ : u = v ∧ σ = σ' := by simpa [afterR] using ha
    obtain ⟨v', h1, h2⟩ := hs
    rw [h1]
    exact hK v' w ⟨Step.refl _, β, Ext.refl _ _, h, h2⟩
  | new sp mk x =>
    obtain ⟨rfl, rfl⟩ : mk σ.next = v ∧ σ.add x = σ' := by simpa [afterR] using ha
    obtain ⟨v', w', h1, hb, hsz, hro, n, esz, h2⟩ := hs
    rw [h1]
    obtain ⟨h3, h4⟩ := h2 σ.next h.next_none
    refine hK v' w' ⟨Step.add _ _, _, ?_, (h.add x).new (n := n) (esz := esz) (h.next_none) (by omega) ?_ (by simp [St.add]) hb hsz h4, h3⟩
    · refine ⟨upd_le (h.next_none _), fun id hid hs s => ?_⟩
      unfold upd
      rw [if_neg (by omega)]
      exact hs s
    · simp only [St.add]; rw [T.get_set, if_pos rfl]
  | eff u τ =>
    obtain ⟨rfl, rfl⟩ : u = v ∧ τ = σ' := by simpa [afterR] using ha
    obtain ⟨n, v', w', h1, h2, h3⟩ := hs
    rw [h1]
    rcases h2 with rfl | ⟨rfl, rfl⟩
    · exact hK v' w' h3
    · exact hK _ w' h3
  | call f args =>
    change call f args σ = some (v, σ') at ha
    obtain ⟨args', h1, h2⟩ := hs
    rw [h1]
    refine Calls.mono (hcall f args σ v σ' ha B W β w args' h hn h2) fun e w' he => ?_
    obtain ⟨v', rfl, h3⟩ := he
    exact hK v' w' h3

/-- What holds behind a piece of code. -/
def Post (E : Env) (B : Nat) (W : World) (β : Bt) (σ : St) (a : Act) (tm' : TM) (σ' : St) (a' : Act) (w' : World) : Prop :=
  Step σ σ' ∧ a'.defers = a.defers ∧ a'.tmps.size = a.tmps.size ∧ ∃ β', Ext σ.next β β' ∧ Rel E.P B W β' σ' w' ∧ TMR β' tm' a'

omit hE hcall in
theorem Post.refl {β : Bt} {σ : St} {w : World} {tm : TM} {a : Act} (h : Rel E.P B W β σ w) (ht : TMR β tm a) : Post E B W β σ a tm σ a w :=
  ⟨Step.refl _, rfl, rfl, β, Ext.refl _ _, h, ht⟩

omit hE hcall in
theorem Post.trans {β : Bt} {σ σ1 σ2 : St} {w1 w2 : World} {tm1 tm2 : TM} {a a1 a2 : Act} (h : Post E B W β σ a tm1 σ1 a1 w1)
    (h2 : ∀ β1, Rel E.P B W β1 σ1 w1 → TMR β1 tm1 a1 → Post E B W β1 σ1 a1 tm2 σ2 a2 w2) : Post E B W β σ a tm2 σ2 a2 w2 := by
  obtain ⟨s, d, z, β1, e, r, t⟩ := h
  obtain ⟨s2, d2, z2, β2, e2, r2, t2⟩ := h2 β1 r t
  exact ⟨s.trans s2, d2.trans d, z2.trans z, β2, e.trans e2 s.next, r2, t2⟩

omit hE hcall in
theorem operOk_iff {n G : Nat} {o : Oper} (h : operOk n G o = true) : (∀ d, o.dst = some d → d < n) ∧ ∀ x ∈ o.op.operands, globB G x = true := by
  unfold operOk at h
  rw [bc_eq] at h
  split at h
  · rename_i h1
    refine ⟨fun d hd => ?_, fun x hx => (allB_iff _ _).1 h x (by simpa using hx)⟩
    rw [hd] at h1
    exact ble_iff.1 h1
  · cases h

theorem evOps_wp {n : Nat} {ops : Array Oper} {Q : Exit → Act → World → Prop} {tm' : TM} {σ' : St} : ∀ (l : List Oper) (tm : TM) (σ : St), evOps E call ops.toList l tm σ = some (tm', σ') → (∀ o ∈ l, operOk n E.P.globals.size o = true) →
    ∀ (β : Bt) (a : Act) (w : World), Rel E.P B W β σ w → 0 < σ.next → TMR β tm a → n ≤ a.tmps.size → (∀ a' w', Post E B W β σ a tm' σ' a' w' → Q .normal a' w') → wpList E.P ops Q l a w := by
  intro l
  induction l with
  | nil =>
    intro tm σ h _ β a w hR _ ht _ hQ
    obtain ⟨rfl, rfl⟩ : tm = tm' ∧ σ = σ' := by simpa [evOps] using h
    exact hQ a w (Post.refl hR ht)
  | cons o l ih =>
    intro tm σ h hok β a w hR hn ht hsz hQ
    obtain ⟨h1, h2⟩ := operOk_iff (hok o (by simp))
    change bc (wantedB ops.toList tm o) (ob (evOp E tm σ o) fun r => ob (doneR call o.dst tm σ r) fun p => evOps E call ops.toList l p.1 p.2) (evOps E call ops.toList l (setT tm o.dst undefV) σ) = some (tm', σ') at h
    have hwt : Region.wanted o (yielded ops a.tmps) = wantedB ops.toList tm o := wanted_eq fun d _ => ht d
    unfold wpList
    rw [hwt]
    rw [bc_eq_some] at h
    rcases h with ⟨hw, h⟩ | ⟨hw, h⟩
    · rw [hw, if_pos rfl]
      obtain ⟨r, hr, h3⟩ := ob_eq_some.1 h
      obtain ⟨p, hp, h4⟩ := ob_eq_some.1 h3
      obtain ⟨⟨v, σ1⟩, hq, h5⟩ := ob_eq_some.1 hp
      obtain rfl : (setT tm o.dst v, σ1) = p := by simpa using h5
      refine .inl (oper_wp hE hcall hR hn (fun x hx => evX_VR hR (h2 x hx) fun t _ => ht t) hr hq fun v' w' hS => ?_)
      obtain ⟨hst, β1, hext, hR1, hv⟩ := hS
      refine ih _ _ h4 (fun o ho => hok o (by simp [ho])) β1 _ w' hR1 (Nat.lt_of_lt_of_le hn hst.next) ((ht.mono hext.1).set hv fun d hd => Nat.lt_of_lt_of_le (h1 d hd) hsz) (by rw [put_size]; exact hsz) fun a' w'' hP => hQ _ _ ?_
      obtain ⟨s2, d2, z2, β2, e2, r2, t2⟩ := hP
      exact ⟨hst.trans s2, by rw [d2, put_defers], by rw [z2, put_size], β2, hext.trans e2 hst.next, r2, t2⟩
    · rw [hw, if_neg (by simp)]
      refine ih _ _ h (fun o ho => hok o (by simp [ho])) β _ w hR hn (ht.set VR.undef fun d hd => Nat.lt_of_lt_of_le (h1 d hd) hsz) (by rw [put_size]; exact hsz) fun a' w'' hP => hQ _ _ ?_
      obtain ⟨s2, d2, z2, β2, e2, r2, t2⟩ := hP
      exact ⟨s2, by rw [d2, put_defers], by rw [z2, put_size], β2, e2, r2, t2⟩

end
end Go.Ev
namespace Go.Ev
open Go.RowKit

section bits
theorem hasB_eq (m j : Nat) : hasB m j = m.testBit j := by
  show Nat.beq ((m >>> j) % 2) 1 = _
  rw [Nat.testBit_eq_decide_div_mod_eq, Nat.shiftRight_eq_div_pow]
  by_cases h : m / 2 ^ j % 2 = 1
  · rw [h]; rfl
  · rw [decide_eq_false h, beq_false_iff]; exact h

theorem hasB_bit (d i j : Nat) : hasB (Nat.lor d (bit i)) j = (hasB d j || decide (i = j)) := by
  rw [hasB_eq, hasB_eq]
  show (d ||| (1 <<< i)).testBit j = _
  rw [Nat.testBit_or, Nat.one_shiftLeft, Nat.testBit_two_pow]

theorem hasB_lor (a b j : Nat) : hasB (Nat.lor a b) j = (hasB a j || hasB b j) := by
  rw [hasB_eq, hasB_eq, hasB_eq]
  show (a ||| b).testBit j = _
  rw [Nat.testBit_or]

theorem hasB_bit' (i j : Nat) : hasB (bit i) j = decide (i = j) := by
  rw [hasB_eq]
  show (1 <<< i).testBit j = _
  rw [Nat.one_shiftLeft, Nat.testBit_two_pow]

theorem readyB_spec {done : Nat} {x : It} (h : readyB done x = true) (j : Nat) (hj : hasB x.m j = true) : hasB done j = true := by
  have e : x.m &&& done = x.m := beq_iff.1 h
  rw [hasB_eq] at *
  rw [← e, Nat.testBit_and] at hj
  simp at hj
  exact hj.2
end bits

section masks
theorem maskOf_spec {acc : T Nat} {i : Nat} : ∀ (l : List Edge) (m r : Nat), maskOf acc i l m = some r →
    (∀ e ∈ l, bindsB e = true → e.on < i) ∧ ∀ j, hasB r j = true → hasB m j = true ∨ ∃ e ∈ l, bindsB e = true ∧ (j = e.on ∨ ∃ k, acc.get e.on = some k ∧ hasB k j = true)
  | [], m, r, h => by
    obtain rfl : m = r := by simpa [maskOf] using h
    exact ⟨by simp, fun j hj => .inl hj⟩
  | e :: l, m, r, h => by
    change bc (bindsB e) (guardO (Nat.ble (Nat.succ e.on) i) (ob (acc.get e.on) fun k => maskOf acc i l (Nat.lor m (Nat.lor k (bit e.on))))) (maskOf acc i l m) = some r at h
    rw [bc_eq_some] at h
    rcases h with ⟨hb, h⟩ | ⟨hb, h⟩
    · rw [guardO_eq_some] at h
      obtain ⟨h1, h2⟩ := h
      obtain ⟨k, hk, h3⟩ := ob_eq_some.1 h2
      obtain ⟨h4, h5⟩ := maskOf_spec l _ r h3
      refine ⟨fun e' he' hb' => ?_, fun j hj => ?_⟩
      · rcases List.mem_cons.1 he' with rfl | he'
        · exact ble_iff.1 h1
        · exact h4 e' he' hb'
      · rcases h5 j hj with h6 | ⟨e', he', h7⟩
        · rw [hasB_lor, hasB_lor, hasB_bit'] at h6
          simp only [Bool.or_eq_true, decide_eq_true_eq] at h6
          rcases h6 with h6 | h6 | h6
          · exact .inl h6
          · exact .inr ⟨e, by simp, hb, .inr ⟨k, hk, h6⟩⟩
          · exact .inr ⟨e, by simp, hb, .inl h6.symm⟩
        · exact .inr ⟨e', by simp [he'], h7⟩
    · obtain ⟨h4, h5⟩ := maskOf_spec l _ r h
      refine ⟨fun e' he' hb' => ?_, fun j hj => ?_⟩
      · rcases List.mem_cons.1 he' with rfl | he'
        · rw [hb] at hb'; cases hb'
        · exact h4 e' he' hb'
      · rcases h5 j hj with h6 | ⟨e', he', h7⟩
        · exact .inl h6
        · exact .inr ⟨e', by simp [he'], h7⟩

theorem masks_spec : ∀ (l : List Oper) (i : Nat) (acc : T Nat) (its : List It), masks l i acc = some its →
    its.length = l.length ∧ (∀ (k : Nat) (x : It), its[k]? = some x → x.i = i + k ∧ l[k]? = some x.o) ∧
    (∀ x ∈ its, ∀ e ∈ x.o.after, bindsB e = true → e.on < x.i) ∧
    ∀ G : Nat → Option Nat, (∀ k, k < i → acc.get k = G k) → (∀ (k : Nat) (x : It), its[k]? = some x → G (i + k) = some x.m) →
      ∀ x ∈ its, ∀ j, hasB x.m j = true → ∃ e ∈ x.o.after, bindsB e = true ∧ (j = e.on ∨ ∃ k, G e.on = some k ∧ hasB k j = true)
  | [], i, acc, its, h => by
    obtain rfl : [] = its := by simpa [masks] using h
    exact ⟨rfl, by simp, by simp, by simp⟩
  | o :: l, i, acc, its, h => by
    change ob (maskOf acc i o.after.toList 0) (fun m => ob (masks l (i + 1) (acc.set i m)) fun q => some (⟨i, m, o⟩ :: q)) = some its at h
    obtain ⟨m, hm, h2⟩ := ob_eq_some.1 h
    obtain ⟨q, hq, h3⟩ := ob_eq_some.1 h2
    obtain rfl : (⟨i, m, o⟩ : It) :: q = its := by simpa using h3
    obtain ⟨e1, e2, e3, e4⟩ := masks_spec l (i + 1) (acc.set i m) q hq
    obtain ⟨m1, m2⟩ := maskOf_spec _ _ _ hm
    refine ⟨by simp [e1], fun k x hk => ?_, fun x hx => ?_, fun G hG hG2 x hx j hj => ?_⟩
    · cases k with
      | zero =>
        obtain rfl : (⟨i, m, o⟩ : It) = x := by simpa using hk
        exact ⟨rfl, rfl⟩
      | succ k =>
        obtain ⟨h4, h5⟩ := e2 k x (by simpa using hk)
        exact ⟨by rw [h4]; omega, by simpa using h5⟩
    · rcases List.mem_cons.1 hx with rfl | hx
      · intro e he hb; exact m1 e (by simpa using he) hb
      · exact e3 x hx
    · rcases List.mem_cons.1 hx with rfl | hx
      · rcases m2 j hj with h0 | ⟨e, he, hb, h5⟩
        · rw [hasB_eq] at h0; simp at h0
        · have hlt := m1 e he hb
          refine ⟨e, by simpa using he, hb, ?_⟩
          rcases h5 with h5 | ⟨k, hk, h6⟩
          · exact .inl h5
          · exact .inr ⟨k, by rw [← hG _ hlt]; exact hk, h6⟩
      · refine e4 G (fun k hk => ?_) (fun k x hk => ?_) x hx j hj
        · rw [T.get_set]
          by_cases hki : k = i
          · subst hki
            rw [if_pos rfl]
            exact (hG2 0 ⟨k, m, o⟩ rfl).symm
          · rw [if_neg hki]; exact hG k (by omega)
        · have := hG2 (k + 1) x (by simpa using hk)
          rw [← this]; congr 1; omega

/-- What is known of the places of a region. -/
structure Its (ops : Array Oper) (its : List It) : Prop where
  len : its.length = ops.size
  at_ : ∀ (k : Nat) (x : It), its[k]? = some x → x.i = k ∧ ops[k]? = some x.o
  back : ∀ x ∈ its, ∀ e ∈ x.o.after, bindsB e = true → e.on < x.i
  mask : ∀ x ∈ its, ∀ j, hasB x.m j = true → ∃ e ∈ x.o.after, bindsB e = true ∧ (j = e.on ∨ ∃ y ∈ its, y.i = e.on ∧ hasB y.m j = true)

theorem its_of {ops : Array Oper} {its : List It} (h : masks ops.toList 0 .e = some its) : Its ops its := by
  obtain ⟨e1, e2, e3, e4⟩ := masks_spec _ _ _ _ h
  refine ⟨by simpa using e1, fun k x hk => ?_, e3, fun x hx j hj => ?_⟩
  · have := e2 k x hk
    exact ⟨by omega, by simpa using this.2⟩
  · obtain ⟨e, he, hb, h5⟩ := e4 (fun k => (its[k]?).map (·.m)) (fun k hk => by omega) (fun k x hk => by simp [hk]) x hx j hj
    refine ⟨e, he, hb, h5.imp id fun ⟨k, hk, h6⟩ => ?_⟩
    cases hy : its[e.on]? with
    | none => rw [hy] at hk; simp at hk
    | some y =>
      rw [hy] at hk
      have hk' : y.m = k := by simpa using hk
      refine ⟨y, List.mem_of_getElem? hy, ?_, by rw [hk']; exact h6⟩
      have := (e2 _ y hy).1
      omega

theorem Its.mem {ops : Array Oper} {its : List It} (h : Its ops its) {x : It} (hx : x ∈ its) : its[x.i]? = some x ∧ ops[x.i]? = some x.o := by
  obtain ⟨k, hk⟩ := List.getElem?_of_mem hx
  obtain ⟨h1, h2⟩ := h.at_ k x hk
  rw [h1]
  exact ⟨hk, h2⟩
theorem Its.uniq {ops : Array Oper} {its : List It} (h : Its ops its) {x y : It} (hx : x ∈ its) (hy : y ∈ its) (e : x.i = y.i) : x = y := by
  have h1 := (h.mem hx).1
  have h2 := (h.mem hy).1
  rw [e, h2] at h1
  simpa using h1.symm
end masks

section writers
theorem wrOf_spec : ∀ (l : List It) (W0 W : T It), wrOf l W0 = some W →
    (∀ (t : Tmp) (y : It), W0.get t = some y → W.get t = some y) ∧ (∀ x ∈ l, ∀ t, x.o.dst = some t → W.get t = some x) ∧
    ∀ (t : Tmp) (y : It), W.get t = some y → W0.get t = some y ∨ (y ∈ l ∧ y.o.dst = some t)
  | [], W0, W, h => by
    obtain rfl : W0 = W := by simpa [wrOf] using h
    exact ⟨fun _ _ h => h, by simp, fun _ _ h => .inl h⟩
  | x :: l, W0, W, h => by
    change @Option.rec Tmp (fun _ => Option (T It)) (wrOf l W0) (fun d => @Option.rec It (fun _ => Option (T It)) (wrOf l (W0.set d x)) (fun _ => none) (W0.get d)) x.o.dst = some W at h
    cases hd : x.o.dst with
    | none =>
      rw [hd] at h
      obtain ⟨h1, h2, h3⟩ := wrOf_spec l W0 W h
      refine ⟨h1, fun y hy t ht => ?_, fun t y hy => (h3 t y hy).imp id fun ⟨a, b⟩ => ⟨by simp [a], b⟩⟩
      rcases List.mem_cons.1 hy with rfl | hy
      · rw [hd] at ht; cases ht
      · exact h2 y hy t ht
    | some d =>
      rw [hd] at h
      simp only at h
      cases hg : W0.get d with
      | some y => rw [hg] at h; cases h
      | none =>
        rw [hg] at h
        obtain ⟨h1, h2, h3⟩ := wrOf_spec l (W0.set d x) W h
        refine ⟨fun t y hy => h1 t y ?_, fun y hy t ht => ?_, fun t y hy => ?_⟩
        · rw [T.get_set]
          by_cases e : t = d
          · subst e; rw [hg] at hy; cases hy
          · rw [if_neg e]; exact hy
        · rcases List.mem_cons.1 hy with rfl | hy
          · rw [hd] at ht
            obtain rfl : d = t := by simpa using ht
            exact h1 d y (by rw [T.get_set, if_pos rfl])
          · exact h2 y hy t ht
        · rcases h3 t y hy with h4 | ⟨h4, h5⟩
          · rw [T.get_set] at h4
            by_cases e : t = d
            · rw [if_pos e] at h4
              obtain rfl : x = y := by simpa using h4
              exact .inr ⟨by simp, by rw [hd, e]⟩
            · rw [if_neg e] at h4; exact .inl h4
          · exact .inr ⟨by simp [h4], h5⟩

/-- Who writes the slots of a region. -/
structure Wrs (its : List It) (W : T It) : Prop where
  put : ∀ x ∈ its, ∀ t, x.o.dst = some t → W.get t = some x
  by_ : ∀ (t : Tmp) (y : It), W.get t = some y → y ∈ its ∧ y.o.dst = some t

theorem wrs_of {its : List It} {W : T It} (h : wrOf its .e = some W) : Wrs its W := by
  obtain ⟨-, h2, h3⟩ := wrOf_spec _ _ _ h
  exact ⟨h2, fun t y hy => (h3 t y hy).resolve_left (by simp)⟩

/-- A slot that an operation looks at. -/
def Looks (ops : List Oper) (o : Oper) (t : Tmp) : Prop := Operand.tmp t ∈ o.op.operands ∨ guardTmp ops o = some t

theorem itOk_looks {ops : List Oper} {W : T It} {x : It} (h : itOk ops W x = true) {t : Tmp} (ht : Looks ops x.o t) : lookB W x t = true := by
  unfold itOk at h
  rw [bc_eq] at h
  split at h
  · rename_i h1
    rcases ht with ht | ht
    · exact (allB_iff _ _).1 h1 (.tmp t) (by simpa using ht)
    · rw [ht] at h; exact h
  · cases h

theorem lookB_spec {W : T It} {x y : It} {t : Tmp} (h : lookB W x t = true) (hy : W.get t = some y) : y.i = x.i ∨ hasB x.m y.i = true ∨ hasB y.m x.i = true := by
  unfold lookB at h
  rw [hy] at h
  change bc (Nat.beq y.i x.i) true (bc (hasB x.m y.i) true (hasB y.m x.i)) = true at h
  rw [bc_eq, bc_eq] at h
  split at h
  · rename_i h1; exact .inl (beq_iff.1 h1)
  · split at h
    · rename_i h1; exact .inr (.inl h1)
    · exact .inr (.inr h)

/-- A set of places that holds what must come ahead of each of them. -/
def Closed (its : List It) (d : Nat → Bool) : Prop := ∀ x ∈ its, d x.i = true → ∀ j, hasB x.m j = true → d j = true

/-- What the slots hold when a set of places is done. -/
noncomputable def view (W : T It) (tm0 fin : TM) (d : Nat → Bool) (t : Tmp) : Option Value :=
  match W.get t with
  | none => tm0.get t
  | some y => if d y.i then fin.get t else tm0.get t

theorem view_agree {its : List It} {W : T It} (hW : Wrs its W) {tm0 fin : TM} {d d' : Nat → Bool} (hd : Closed its d) (hd' : Closed its d') {x : It} (h1 : d x.i = false) (h1' : d' x.i = false)
    (h2 : ∀ j, hasB x.m j = true → d j = true) (h2' : ∀ j, hasB x.m j = true → d' j = true) {t : Tmp} (hl : lookB W x t = true) :
    view W tm0 fin d t = view W tm0 fin d' t := by
  unfold view
  cases hy : W.get t with
  | none => rfl
  | some y =>
    simp only
    have hyi := (hW.by_ t y hy).1
    have key : d y.i = d' y.i := by
      rcases lookB_spec hl hy with e | e | e
      · rw [e, h1, h1']
      · rw [h2 _ e, h2' _ e]
      · have f1 : d y.i = false := by
          cases hh : d y.i with
          | false => rfl
          | true => rw [hd y hyi hh _ e] at h1; cases h1
        have f2 : d' y.i = false := by
          cases hh : d' y.i with
          | false => rfl
          | true => rw [hd' y hyi hh _ e] at h1'; cases h1'
        rw [f1, f2]
    rw [key]

theorem view_step {ops : Array Oper} {its : List It} (hI : Its ops its) {W : T It} (hW : Wrs its W) {tm0 fin : TM} {d d' : Nat → Bool} {x : It} (hx : x ∈ its) (hd' : ∀ j, d' j = (d j || decide (x.i = j))) {β : Bt} {a : Act} {v v' : Value}
    (h : ∀ t, VR β (orUndef (view W tm0 fin d t)) (a.tmps.getD t undef)) (hv : VR β v v') (hf : ∀ t, x.o.dst = some t → fin.get t = some v) (hs : ∀ t, x.o.dst = some t → t < a.tmps.size) (t : Tmp) :
    VR β (orUndef (view W tm0 fin d' t)) ((a.put x.o.dst v').tmps.getD t undef) := by
  have other : ∀ t, x.o.dst ≠ some t → view W tm0 fin d' t = view W tm0 fin d t := by
    intro t ht
    unfold view
    cases hy : W.get t with
    | none => rfl
    | some y =>
      simp only
      obtain ⟨h1, h2⟩ := hW.by_ t y hy
      have hne : x.i ≠ y.i := fun e => ht (by rw [hI.uniq hx h1 e]; exact h2)
      rw [hd', decide_eq_false hne, Bool.or_false]
  cases hdst : x.o.dst with
  | none =>
    rw [other t (by rw [hdst]; simp)]
    exact h t
  | some u =>
    rw [getD_put (hs u hdst)]
    by_cases e : t = u
    · subst e
      rw [if_pos rfl]
      have : view W tm0 fin d' t = some v := by
        unfold view
        rw [hW.put x hx t hdst]
        simp only
        rw [hd', decide_eq_true rfl, Bool.or_true, if_pos rfl]
        exact hf t hdst
      rw [this]
      exact hv
    · rw [if_neg e, other t (by rw [hdst]; simpa using fun h => e h.symm)]
      exact h t
end writers
end Go.Ev
namespace Go.Ev
open Go.RowKit

section
variable {E : Env} {call : CallF}

/-- New objects were added, nothing else was done. -/
inductive Adds : St → St → Prop
  | refl (σ : St) : Adds σ σ
  | step {σ σ' : St} (o : LO) (h : Adds σ σ') : Adds σ (σ'.add o)

theorem Adds.toStep {σ σ' : St} (h : Adds σ σ') : Step σ σ' := by
  induction h with
  | refl => exact Step.refl _
  | step o _ ih => exact ih.trans (Step.add _ o)

theorem Adds.rel {P : Program} {B : Nat} {W : World} {β : Bt} {σ σ' : St} {w : World} (h : Adds σ σ') (hR : Rel P B W β σ w) : Rel P B W β σ' w := by
  induction h with
  | refl => exact hR
  | step o _ ih => exact ih.add o

/-- The effects of a run, the latest first: between them new objects come. -/
inductive Effs (σ0 : St) : List Ef → St → Prop
  | nil {σ : St} (h : Adds σ0 σ) : Effs σ0 [] σ
  | cons {f : Ef} {l : List Ef} {σ : St} (h : Effs σ0 l f.σ) (hn : ∀ g ∈ l, g.i ≠ f.i) (ha : Adds f.τ σ) : Effs σ0 (f :: l) σ

theorem Effs.add {σ0 : St} {l : List Ef} {σ : St} (h : Effs σ0 l σ) (o : LO) : Effs σ0 l (σ.add o) := by
  cases h with
  | nil h => exact .nil (.step o h)
  | cons h hn ha => exact .cons h hn (.step o ha)

def stage : List Ef → St → St
  | [], σ => σ
  | f :: L, _ => stage L f.σ

theorem stage_snoc (L : List Ef) (f : Ef) (σ : St) : stage (L ++ [f]) σ = f.σ := by
  induction L generalizing σ with
  | nil => rfl
  | cons g L ih => exact ih g.σ

theorem Effs.first {σ0 : St} {l : List Ef} {σ : St} (h : Effs σ0 l σ) : Adds σ0 (stage l σ) := by
  induction h with
  | nil h => exact h
  | cons _ _ _ ih => exact ih

theorem Effs.at_ {σ0 : St} {f : Ef} {D : List Ef} : ∀ (L : List Ef) (σ : St), Effs σ0 (L ++ f :: D) σ → Adds f.τ (stage L σ) ∧ (∀ g ∈ L, g.i ≠ f.i)
  | [], σ, h => by
    cases h with
    | cons _ _ ha => exact ⟨ha, by simp⟩
  | g :: L, σ, h => by
    cases h with
    | cons h hn ha =>
      obtain ⟨h1, h2⟩ := Effs.at_ L _ h
      refine ⟨h1, fun k hk => ?_⟩
      rcases List.mem_cons.1 hk with rfl | hk
      · exact fun e => hn f (by simp) e.symm
      · exact h2 k hk

theorem takeReady_spec {done : Nat} : ∀ (l : List It) (x : It) (l' : List It), takeReady done l = some (x, l') → readyB done x = true ∧ l.Perm (x :: l')
  | [], x, l', h => by cases h
  | y :: l, x, l', h => by
    change bc (bc (isEff y.o.op) false (readyB done y)) (some (y, l)) (ob (takeReady done l) fun p => some (p.1, y :: p.2)) = some (x, l') at h
    rw [bc_eq_some] at h
    rcases h with ⟨h1, h2⟩ | ⟨-, h2⟩
    · obtain ⟨rfl, rfl⟩ : y = x ∧ l = l' := by simpa using h2
      refine ⟨?_, List.Perm.refl _⟩
      rw [bc_eq] at h1
      split at h1
      · cases h1
      · exact h1
    · obtain ⟨⟨z, q⟩, hp, h3⟩ := ob_eq_some.1 h2
      obtain ⟨rfl, rfl⟩ : z = x ∧ y :: q = l' := by simpa using h3
      obtain ⟨h4, h5⟩ := takeReady_spec l z q hp
      exact ⟨h4, (h5.cons y).trans (List.Perm.swap z y q)⟩

theorem takeNext_spec {done : Nat} {l : List It} {x : It} {l' : List It} (h : takeNext done l = some (x, l')) : readyB done x = true ∧ l.Perm (x :: l') := by
  unfold takeNext at h
  rw [orElse_eq_some] at h
  rcases h with h | ⟨-, h⟩
  · exact takeReady_spec l x l' h
  · cases l with
    | nil => cases h
    | cons y l =>
      change guardO (readyB done y) (some (y, l)) = some (x, l') at h
      rw [guardO_eq_some] at h
      obtain ⟨h1, h2⟩ := h
      obtain ⟨rfl, rfl⟩ : y = x ∧ l = l' := by simpa using h2
      exact ⟨h1, List.Perm.refl _⟩

/-- The three kinds of operations: what a step adds to what is known. -/
theorem stepD_spec {ops : List Oper} {x : It} {s s' : Dr} (h : stepD E call ops x s = some s') :
    s'.done = Nat.lor s.done (bit x.i) ∧ ∃ v, s'.tm = setT s.tm x.o.dst v ∧
      ((wantedB ops s.tm x.o = false ∧ v = undefV ∧ s'.σ = s.σ ∧ s'.tr = s.tr) ∨
       (wantedB ops s.tm x.o = true ∧ ∃ r, evOp E s.tm s.σ x.o = some r ∧
        ((∃ τ, afterR call s.σ r = some (v, τ) ∧ s'.σ = τ ∧ s'.tr = ⟨⟨x.i, x.m, s.σ, τ⟩ :: s.tr.effs, s.tr.loads, s.tr.news⟩) ∨
         (pureOp x.o.op = true ∧ (r = .val v ∨ r = .ld v) ∧ s'.σ = s.σ ∧ s'.tr = s.tr) ∨
         (pureOp x.o.op = true ∧ ∃ sp mk o, r = .new sp mk o ∧ v = mk s.σ.next ∧ s'.σ = s.σ.add o ∧ s'.tr = ⟨s.tr.effs, s.tr.loads, ⟨x.i, x.m, s.σ.next, o⟩ :: s.tr.news⟩) ∨
         ((r = .val v ∨ r = .ld v) ∧ s'.σ = s.σ ∧ s'.tr = ⟨s.tr.effs, ⟨x.i, x.m, x.o, s.tm, v⟩ :: s.tr.loads, s.tr.news⟩)))) := by
  unfold stepD at h
  rw [bc_eq_some] at h
  rcases h with ⟨hw, h⟩ | ⟨hw, h⟩
  · obtain ⟨r, hr, h2⟩ := ob_eq_some.1 h
    unfold doneD at h2
    rw [bc_eq_some, bc_eq_some] at h2
    rcases h2 with ⟨h3, h4⟩ | ⟨h3, ⟨h5, h4⟩ | ⟨h5, h4⟩⟩
    · obtain ⟨⟨v, τ⟩, hp, h6⟩ := ob_eq_some.1 h4
      have h6' := (Option.some.inj h6).symm
      subst h6'
      exact ⟨rfl, v, rfl, .inr ⟨hw, r, hr, .inl ⟨τ, hp, rfl, rfl⟩⟩⟩
    · cases r with
      | val v => have h6 := (Option.some.inj h4).symm; subst h6; exact ⟨rfl, v, rfl, .inr ⟨hw, _, hr, .inr (.inl ⟨h5, .inl rfl, rfl, rfl⟩)⟩⟩
      | ld v => have h6 := (Option.some.inj h4).symm; subst h6; exact ⟨rfl, v, rfl, .inr ⟨hw, _, hr, .inr (.inl ⟨h5, .inr rfl, rfl, rfl⟩)⟩⟩
      | new sp mk o => have h6 := (Option.some.inj h4).symm; subst h6; exact ⟨rfl, _, rfl, .inr ⟨hw, _, hr, .inr (.inr (.inl ⟨h5, sp, mk, o, rfl, rfl, rfl, rfl⟩))⟩⟩
      | eff v τ => cases h4
      | call f args => cases h4
    · cases r with
      | val v => have h6 := (Option.some.inj h4).symm; subst h6; exact ⟨rfl, v, rfl, .inr ⟨hw, _, hr, .inr (.inr (.inr ⟨.inl rfl, rfl, rfl⟩))⟩⟩
      | ld v => have h6 := (Option.some.inj h4).symm; subst h6; exact ⟨rfl, v, rfl, .inr ⟨hw, _, hr, .inr (.inr (.inr ⟨.inr rfl, rfl, rfl⟩))⟩⟩
      | new sp mk o => cases h4
      | eff v τ => cases h4
      | call f args => cases h4
  · have h6 := (Option.some.inj h).symm
    subst h6
    exact ⟨rfl, undefV, rfl, .inl ⟨hw, rfl, rfl, rfl⟩⟩

theorem evOp_pure {tm : TM} {σ : St} {o : Oper} (h : pureOp o.op = true) (σ' : St) : evOp E tm σ' o = evOp E tm σ o := by
  obtain ⟨dst, op, type, pos, after, guard⟩ := o
  cases op with
  | call c =>
    obtain ⟨callee, args, ats⟩ := c
    cases callee with
    | builtin b => cases b <;> first | rfl | (cases h)
    | value f => cases h
    | invoke x n => cases h
  | load t a => cases h
  | store t a x => cases h
  | mapUpdate t m k v => cases h
  | convert s d x => cases h
  | slice t x lo hi mx => cases h
  | lookup t m k ok => cases h
  | _ => rfl

structure CInv (its : List It) (W : T It) (tm0 : TM) (σ0 : St) (l : List It) (s : Dr) : Prop where
  mem : ∀ x ∈ l, x ∈ its
  nodup : (l.map (·.i)).Nodup
  out : ∀ x ∈ l, hasB s.done x.i = false
  all : ∀ x ∈ its, hasB s.done x.i = true ∨ x ∈ l
  closed : Closed its (hasB s.done)
  old : ∀ t, (∀ y, W.get t = some y → hasB s.done y.i = false) → s.tm.get t = tm0.get t
  effs : Effs σ0 s.tr.effs s.σ
  efdone : ∀ f ∈ s.tr.effs, hasB s.done f.i = true
  efit : ∀ f ∈ s.tr.effs, ∃ y ∈ its, y.i = f.i ∧ y.m = f.m

theorem setT_get (tm : TM) (d : Option Tmp) (v : Value) (t : Tmp) : (setT tm d v).get t = if d = some t then some v else tm.get t := by
  cases d with
  | none => simp [setT]
  | some u =>
    show (tm.set u v).get t = _
    rw [T.get_set]
    by_cases e : t = u
    · subst e; simp
    · rw [if_neg e, if_neg (by simpa using fun h => e h.symm)]

variable {ops : Array Oper} {its : List It} {W : T It} {tm0 : TM} {σ0 : St}

theorem CInv.step (hI : Its ops its) (hW : Wrs its W) {l l' : List It} {x : It} {s s' : Dr} (h : CInv its W tm0 σ0 l s) (ht : takeNext s.done l = some (x, l')) (hs : stepD E call ops.toList x s = some s') :
    CInv its W tm0 σ0 l' s' ∧ x ∈ its ∧ hasB s.done x.i = false ∧ (∀ j, hasB x.m j = true → hasB s.done j = true) ∧ (∀ y ∈ l', y.i ≠ x.i) := by
  obtain ⟨hr, hp⟩ := takeNext_spec ht
  obtain ⟨hdone, v, htm, hk⟩ := stepD_spec hs
  have hxl : x ∈ l := hp.mem_iff.2 (by simp)
  have hx := h.mem x hxl
  have hm := readyB_spec hr
  have hnd : ((x :: l').map (·.i)).Nodup := (hp.map _).nodup_iff.1 h.nodup
  have hne : ∀ y ∈ l', y.i ≠ x.i := fun y hy e => by
    have := (List.nodup_cons.1 hnd).1
    exact this (List.mem_map.2 ⟨y, hy, e⟩)
  have hdn : ∀ j, hasB s'.done j = (hasB s.done j || decide (x.i = j)) := fun j => by rw [hdone, hasB_bit]
  have hxout := h.out x hxl
  have effs' : Effs σ0 s'.tr.effs s'.σ ∧ (∀ f ∈ s'.tr.effs, f ∈ s.tr.effs ∨ (f.i = x.i ∧ f.m = x.m)) := by
    rcases hk with ⟨-, -, e1, e2⟩ | ⟨-, r, -, ⟨τ, -, e1, e2⟩ | ⟨-, -, e1, e2⟩ | ⟨-, sp, mk, o, -, -, e1, e2⟩ | ⟨-, e1, e2⟩⟩
    · rw [e1, e2]; exact ⟨h.effs, fun f hf => .inl hf⟩
    · rw [e1, e2]
      refine ⟨.cons h.effs (fun g hg e => ?_) (.refl _), fun f hf => ?_⟩
      · have h1 := h.efdone g hg
        have h2 : hasB s.done x.i = true := by rw [← show g.i = x.i from e]; exact h1
        rw [hxout] at h2; cases h2
      · rcases List.mem_cons.1 hf with rfl | hf
        · exact .inr ⟨rfl, rfl⟩
        · exact .inl hf
    · rw [e1, e2]; exact ⟨h.effs, fun f hf => .inl hf⟩
    · rw [e1, e2]; exact ⟨h.effs.add o, fun f hf => .inl hf⟩
    · rw [e1, e2]; exact ⟨h.effs, fun f hf => .inl hf⟩
  refine ⟨⟨fun y hy => h.mem y (hp.mem_iff.2 (by simp [hy])), (List.nodup_cons.1 hnd).2, fun y hy => ?_, fun y hy => ?_, fun y hy hd j hj => ?_, fun t ht => ?_, effs'.1, fun f hf => ?_, fun f hf => ?_⟩, hx, hxout, hm, hne⟩
  · rw [hdn, h.out y (hp.mem_iff.2 (by simp [hy])), decide_eq_false fun e => hne y hy e.symm]; rfl
  · rw [hdn]
    rcases h.all y hy with h1 | h1
    · exact .inl (by rw [h1]; rfl)
    · rcases List.mem_cons.1 (hp.mem_iff.1 h1) with rfl | h1
      · exact .inl (by simp)
      · exact .inr h1
  · rw [hdn] at hd ⊢
    have : hasB s.done j = true := by
      by_cases e : x.i = y.i
      · have := hI.uniq hx hy e
        subst this
        exact hm j hj
      · rw [decide_eq_false e, Bool.or_false] at hd
        exact h.closed y hy hd j hj
    rw [this]; rfl
  · rw [htm, setT_get]
    by_cases e : x.o.dst = some t
    · have := ht x (hW.put x hx t e)
      rw [hdn] at this
      simp at this
    · rw [if_neg e]
      refine h.old t fun y hy => ?_
      have := ht y hy
      rw [hdn] at this
      cases hh : hasB s.done y.i with
      | false => rfl
      | true => rw [hh] at this; cases this
  · rw [hdn]
    rcases effs'.2 f hf with h1 | ⟨h1, -⟩
    · rw [h.efdone f h1]; rfl
    · rw [h1]; simp
  · rcases effs'.2 f hf with h1 | ⟨h1, h2⟩
    · exact h.efit f h1
    · exact ⟨x, hx, h1.symm, h2.symm⟩

/-- What is known of an operation behind the run. -/
def Fact (E : Env) (call : CallF) (ops : Array Oper) (its : List It) (W : T It) (tm0 : TM) (fin : Dr) (x : It) : Prop :=
  ∃ (tmx : TM) (d : Nat → Bool) (v : Value), Closed its d ∧ d x.i = false ∧ (∀ j, hasB x.m j = true → d j = true) ∧ (∀ t, orUndef (tmx.get t) = orUndef (view W tm0 fin.tm d t)) ∧
    (∀ t, x.o.dst = some t → fin.tm.get t = some v) ∧
    ((wantedB ops.toList tmx x.o = false ∧ v = undefV ∧ ∀ f ∈ fin.tr.effs, f.i ≠ x.i) ∨
     (wantedB ops.toList tmx x.o = true ∧
      ((∃ f ∈ fin.tr.effs, f.i = x.i ∧ f.m = x.m ∧ ∃ r, evOp E tmx f.σ x.o = some r ∧ afterR call f.σ r = some (v, f.τ)) ∨
       ((∀ f ∈ fin.tr.effs, f.i ≠ x.i) ∧
        ((∀ σ, evOp E tmx σ x.o = some (.val v) ∨ evOp E tmx σ x.o = some (.ld v)) ∨
         (∃ sp mk o id, (∀ σ, evOp E tmx σ x.o = some (.new sp mk o)) ∧ v = mk id ∧ (⟨x.i, x.m, id, o⟩ : Ne) ∈ fin.tr.news) ∨
         (⟨x.i, x.m, x.o, tmx, v⟩ : Lo) ∈ fin.tr.loads)))))

/-- The run to its end: what was known is known still. -/
theorem evDraw_keeps (hI : Its ops its) (hW : Wrs its W) : ∀ (n : Nat) (l : List It) (s fin : Dr), evDraw E call ops.toList n l s = some fin → CInv its W tm0 σ0 l s →
    (∀ t, (∀ y, W.get t = some y → hasB s.done y.i = true) → fin.tm.get t = s.tm.get t) ∧ (∀ f ∈ fin.tr.effs, f ∈ s.tr.effs ∨ ∃ y ∈ l, y.i = f.i) ∧
    (∀ f ∈ s.tr.effs, f ∈ fin.tr.effs) ∧ (∀ f ∈ s.tr.loads, f ∈ fin.tr.loads) ∧ (∀ f ∈ s.tr.news, f ∈ fin.tr.news) ∧ CInv its W tm0 σ0 [] fin
  | 0, l, s, fin, h, hC => by
    change bc l.isEmpty (some s) none = some fin at h
    cases l with
    | cons => cases h
    | nil =>
      obtain rfl : s = fin := by simpa using h
      exact ⟨fun _ _ => rfl, fun f hf => .inl hf, fun _ h => h, fun _ h => h, fun _ h => h, hC⟩
  | n + 1, l, s, fin, h, hC => by
    change ob (takeNext s.done l) (fun p => ob (stepD E call ops.toList p.1 s) (evDraw E call ops.toList n p.2)) = some fin at h
    obtain ⟨⟨x, l'⟩, ht, h2⟩ := ob_eq_some.1 h
    obtain ⟨s1, hs, h3⟩ := ob_eq_some.1 h2
    obtain ⟨hC1, hx, hout, hm, hne⟩ := hC.step hI hW ht hs
    obtain ⟨k1, k2, k3, k4, k5, k6⟩ := evDraw_keeps hI hW n l' s1 fin h3 hC1
    obtain ⟨-, hp⟩ := takeNext_spec ht
    obtain ⟨hdone, v, htm, hk⟩ := stepD_spec hs
    have hdn : ∀ j, hasB s1.done j = (hasB s.done j || decide (x.i = j)) := fun j => by rw [hdone, hasB_bit]
    have hxl : x ∈ l := hp.mem_iff.2 (by simp)
    refine ⟨fun t ht => ?_, fun f hf => ?_, fun f hf => k3 f ?_, fun f hf => k4 f ?_, fun f hf => k5 f ?_, k6⟩
    · rw [k1 t fun y hy => by rw [hdn, ht y hy]; rfl, htm, setT_get]
      rw [if_neg fun e => ?_]
      have := ht x (hW.put x hx t e)
      rw [hout] at this; cases this
    · rcases k2 f hf with h4 | ⟨y, hy, h4⟩
      · rcases hk with ⟨-, -, -, e2⟩ | ⟨-, r, -, ⟨τ, -, -, e2⟩ | ⟨-, -, -, e2⟩ | ⟨-, sp, mk, o, -, -, -, e2⟩ | ⟨-, -, e2⟩⟩
        · rw [e2] at h4; exact .inl h4
        · rw [e2] at h4
          rcases List.mem_cons.1 h4 with rfl | h4
          · exact .inr ⟨x, hxl, rfl⟩
          · exact .inl h4
        · rw [e2] at h4; exact .inl h4
        · rw [e2] at h4; exact .inl h4
        · rw [e2] at h4; exact .inl h4
      · exact .inr ⟨y, hp.mem_iff.2 (by simp [hy]), h4⟩
    · rcases hk with ⟨-, -, -, e2⟩ | ⟨-, r, -, ⟨τ, -, -, e2⟩ | ⟨-, -, -, e2⟩ | ⟨-, sp, mk, o, -, -, -, e2⟩ | ⟨-, -, e2⟩⟩ <;> rw [e2] <;> simp [hf]
    · rcases hk with ⟨-, -, -, e2⟩ | ⟨-, r, -, ⟨τ, -, -, e2⟩ | ⟨-, -, -, e2⟩ | ⟨-, sp, mk, o, -, -, -, e2⟩ | ⟨-, -, e2⟩⟩ <;> rw [e2] <;> simp [hf]
    · rcases hk with ⟨-, -, -, e2⟩ | ⟨-, r, -, ⟨τ, -, -, e2⟩ | ⟨-, -, -, e2⟩ | ⟨-, sp, mk, o, -, -, -, e2⟩ | ⟨-, -, e2⟩⟩ <;> rw [e2] <;> simp [hf]

theorem evDraw_facts (hI : Its ops its) (hW : Wrs its W) : ∀ (n : Nat) (l : List It) (s fin : Dr), evDraw E call ops.toList n l s = some fin → CInv its W tm0 σ0 l s →
    ∀ x ∈ l, Fact E call ops its W tm0 fin x
  | 0, l, s, fin, h, hC => by
    change bc l.isEmpty (some s) none = some fin at h
    cases l with
    | cons => cases h
    | nil => simp
  | n + 1, l, s, fin, h, hC => by
    have hkeep := evDraw_keeps hI hW (n + 1) l s fin h hC
    change ob (takeNext s.done l) (fun p => ob (stepD E call ops.toList p.1 s) (evDraw E call ops.toList n p.2)) = some fin at h
    obtain ⟨⟨x, l'⟩, ht, h2⟩ := ob_eq_some.1 h
    obtain ⟨s1, hs, h3⟩ := ob_eq_some.1 h2
    obtain ⟨hC1, hx, hout, hm, hne⟩ := hC.step hI hW ht hs
    obtain ⟨k1, k2, k3, k4, k5, k6⟩ := evDraw_keeps hI hW n l' s1 fin h3 hC1
    obtain ⟨-, hp⟩ := takeNext_spec ht
    obtain ⟨hdone, v, htm, hk⟩ := stepD_spec hs
    have hdn : ∀ j, hasB s1.done j = (hasB s.done j || decide (x.i = j)) := fun j => by rw [hdone, hasB_bit]
    intro y hy
    rcases List.mem_cons.1 (hp.mem_iff.1 hy) with rfl | hy
    · refine ⟨s.tm, hasB s.done, v, hC.closed, hout, hm, fun t => ?_, fun t hd => ?_, ?_⟩
      · unfold view
        cases hy : W.get t with
        | none => simp only; rw [hC.old t (by simp [hy])]
        | some z =>
          simp only
          cases hz : hasB s.done z.i with
          | true =>
            rw [if_pos rfl, hkeep.1 t]
            intro z' hz'
            rw [hy] at hz'
            obtain rfl : z = z' := by simpa using hz'
            exact hz
          | false =>
            rw [if_neg (by simp), hC.old t]
            intro z' hz'
            rw [hy] at hz'
            obtain rfl : z = z' := by simpa using hz'
            exact hz
      · rw [k1 t, htm, setT_get, if_pos hd]
        intro z hz
        rw [hW.put y hx t hd] at hz
        obtain rfl : y = z := by simpa using hz
        rw [hdn]; simp
      · have hno : s1.tr.effs = s.tr.effs → ∀ f ∈ fin.tr.effs, f.i ≠ y.i := by
          intro e f hf e2
          rcases k2 f hf with h4 | ⟨z, hz, h4⟩
          · rw [e] at h4
            have := hC.efdone f h4
            rw [e2, hout] at this; cases this
          · exact hne z hz (h4.trans e2)
        rcases hk with ⟨hw, hv, -, e2⟩ | ⟨hw, r, hr, ⟨τ, hτ, -, e2⟩ | ⟨hpu, hrv, -, e2⟩ | ⟨hpu, sp, mk, o, hrv, hv, -, e2⟩ | ⟨hrv, -, e2⟩⟩
        · exact .inl ⟨hw, hv, hno (by rw [e2])⟩
        · exact .inr ⟨hw, .inl ⟨⟨y.i, y.m, s.σ, τ⟩, k3 _ (by rw [e2]; simp), rfl, rfl, r, hr, hτ⟩⟩
        · refine .inr ⟨hw, .inr ⟨hno (by rw [e2]), .inl fun σ => ?_⟩⟩
          rw [evOp_pure hpu (σ := s.σ), hr]
          rcases hrv with rfl | rfl
          · exact .inl rfl
          · exact .inr rfl
        · refine .inr ⟨hw, .inr ⟨hno (by rw [e2]), .inr (.inl ⟨sp, mk, o, s.σ.next, fun σ => ?_, hv, k5 _ (by rw [e2]; simp)⟩)⟩⟩
          rw [evOp_pure hpu (σ := s.σ), hr, hrv]
        · exact .inr ⟨hw, .inr ⟨hno (by rw [e2]), .inr (.inr (k4 _ (by rw [e2]; simp)))⟩⟩
    · exact evDraw_facts hI hW n l' s1 fin h3 hC1 y hy

end
end Go.Ev
namespace Go.Ev
open Go.RowKit

theorem bc3 {a b : Bool} : bc a b false = true ↔ a = true ∧ b = true := by cases a <;> simp
theorem bc4 {a b : Bool} : bc a true b = true ↔ a = true ∨ b = true := by cases a <;> simp

section same
theorem sameS_eq {a b : Value} (h : sameS a b = true) : a = b := by
  unfold sameS at h
  split at h
  · rw [sameB_iff.1 h]
  · rw [bc3] at h
    obtain ⟨h1, h2⟩ := h
    rw [eqB_eq] at h2
    rw [eqK_eq h1, of_decide_eq_true h2]
  · rw [of_decide_eq_true h]
  · rfl
  · rw [of_decide_eq_true h]
  · rw [bc3, beq_iff, beq_iff] at h
    rw [h.1, h.2]
  · rw [bc3, bc3, beq_iff, beq_iff] at h
    rw [of_decide_eq_true h.1, h.2.1, h.2.2]
  · rw [of_decide_eq_true h]
  · rfl
  · rfl
  · cases h

theorem sameL_eq : ∀ {a b : List Value}, sameL a b = true → a = b
  | [], [], _ => rfl
  | [], _ :: _, h => by cases h
  | _ :: _, [], h => by cases h
  | x :: r, y :: s, h => by
    change bc (sameS x y) (sameL r s) false = true at h
    rw [bc3] at h
    rw [sameS_eq h.1, sameL_eq h.2]

theorem sameV_eq {a b : Value} (h : sameV a b = true) : a = b := by
  unfold sameV at h
  split at h
  · rename_i a b; rw [Array.toList_inj.1 (sameL_eq h)]
  · rename_i a b; rw [Array.toList_inj.1 (sameL_eq h)]
  · exact sameS_eq h

theorem sameO_eq {a b : LO} (h : sameO a b = true) : a = b := by
  unfold sameO at h
  split at h
  · simp only [bc3, beq_iff] at h
    obtain ⟨h1, h2, h3, h4, h5⟩ := h
    rw [h1, h2, h3, sameB_iff.1 h4, sameL_eq h5]
  · rw [beq_iff.1 h]
  · cases h
end same

section
variable {E : Env}

theorem chain_adj {f g : Ef} {R : List Ef} : ∀ (A : List Ef) (o : Option Nat), chain (A ++ f :: g :: R) o = true → hasB f.m g.i = true
  | [], o, h => by
    change bc _ (bc (hasB f.m g.i) (chain R (some g.m)) false) false = true at h
    rw [bc3, bc3] at h
    exact h.2.1
  | a :: A, o, h => by
    change bc _ (chain (A ++ f :: g :: R) (some a.m)) false = true at h
    rw [bc3] at h
    exact chain_adj A _ h.2

theorem stagesOk_spec {m i : Nat} {chk : St → Bool} {D : List Ef} (hD : ∀ g, D.head? = some g → hasB g.m i = false) : ∀ (L : List Ef) (σ : St) (later : Option Nat), (∀ f ∈ L, hasB m f.i = false) → laterB m later = false →
    stagesOk m i chk (L ++ D) σ later = true → chk (stage L σ) = true
  | [], σ, later, _, hl, h => by
    cases D with
    | nil =>
      change bc (laterB m later) true (chk σ) = true at h
      rw [hl] at h; exact h
    | cons g D =>
      change bc (bc (bc (hasB g.m i) true (laterB m later)) true (chk σ)) _ false = true at h
      rw [bc3, hD g rfl, hl] at h
      exact h.1
  | f :: L, σ, later, hL, hl, h => by
    change bc _ (stagesOk m i chk (L ++ D) f.σ (some f.i)) false = true at h
    rw [bc3] at h
    exact stagesOk_spec hD L f.σ (some f.i) (fun g hg => hL g (by simp [hg])) (hL f (by simp)) h.2

theorem fallB_spec : ∀ (l : List Ne) (b : Nat), fallB l b = true → (∀ x ∈ l, x.id < b) ∧ ∀ x ∈ l, ∀ y ∈ l, x.id = y.id → x = y
  | [], b, _ => ⟨by simp, by simp⟩
  | x :: l, b, h => by
    change bc (Nat.ble (Nat.succ x.id) b) (fallB l x.id) false = true at h
    rw [bc3, ble_iff] at h
    obtain ⟨h1, h2⟩ := fallB_spec l x.id h.2
    refine ⟨fun y hy => ?_, fun y hy z hz e => ?_⟩
    · rcases List.mem_cons.1 hy with rfl | hy
      · omega
      · have := h1 y hy; omega
    · rcases List.mem_cons.1 hy with e1 | hy1
      · rcases List.mem_cons.1 hz with e2 | hz1
        · rw [e1, e2]
        · have := h1 z hz1; rw [e1] at e; omega
      · rcases List.mem_cons.1 hz with e2 | hz1
        · have := h1 y hy1; rw [e2] at e; omega
        · exact h2 y hy1 z hz1 e

theorem ldSame_spec {x : Lo} {σ : St} (h : ldSame E x σ = true) : evOp E x.tm σ x.o = some (.ld x.v) ∨ evOp E x.tm σ x.o = some (.val x.v) := by
  unfold ldSame at h
  split at h
  · rename_i u he; rw [he, sameV_eq h]; exact .inl rfl
  · rename_i u he; rw [he, sameV_eq h]; exact .inr rfl
  · cases h

theorem newSame_spec {x : Ne} {σ : St} (h : newSame x σ = true) : x.id < σ.next ∧ σ.heap.get x.id = some x.x := by
  unfold newSame at h
  rw [bc3, ble_iff] at h
  obtain ⟨h1, h⟩ := h
  refine ⟨h1, ?_⟩
  cases hg : σ.heap.get x.id with
  | none => rw [hg] at h; cases h
  | some o =>
    rw [hg] at h
    rw [sameO_eq h]

structure TrOk (E : Env) (σ0 σ1 : St) (tr : Tr) : Prop where
  chain : chain tr.effs none = true
  loads : ∀ x ∈ tr.loads, stagesOk x.m x.i (ldSame E x) tr.effs σ1 none = true
  fall : ∀ x ∈ tr.news, ∀ y ∈ tr.news, x.id = y.id → x = y
  late : ∀ x ∈ tr.news, σ0.next ≤ x.id
  apart : ∀ x ∈ tr.news, ∀ f ∈ tr.effs, x.id < f.σ.next ∨ f.τ.next ≤ x.id
  news : ∀ x ∈ tr.news, stagesOk x.m x.i (newSame x) tr.effs σ1 none = true

theorem trOk_of {σ0 σ1 : St} {tr : Tr} (h : trOk E σ0 σ1 tr = true) : TrOk E σ0 σ1 tr := by
  unfold trOk at h
  rw [bc3, bc3, bc3, allB_iff, allB_iff] at h
  obtain ⟨h1, h2, h3, h4⟩ := h
  have h5 : ∀ x ∈ tr.news, σ0.next ≤ x.id ∧ (∀ f ∈ tr.effs, apartB x f = true) ∧ stagesOk x.m x.i (newSame x) tr.effs σ1 none = true := by
    intro x hx
    have := h4 x hx
    rw [bc3, bc3, allB_iff, ble_iff] at this
    exact this
  refine ⟨h1, h2, (fallB_spec _ _ h3).2, fun x hx => (h5 x hx).1, fun x hx f hf => ?_, fun x hx => (h5 x hx).2.2⟩
  have := (h5 x hx).2.1 f hf
  unfold apartB at this
  rw [bc4, ble_iff, ble_iff] at this
  exact this.imp Nat.lt_of_succ_le id
end
end Go.Ev
namespace Go.Ev
open Go.RowKit

section
variable {E : Env} (hE : EnvOK E) {call : CallF} (hcall : CallsS E call) {B : Nat} {W0 : World}
variable {ops : Array Oper} {its : List It} {W : T It} {tm0 : TM} {σ0 : St} {β0 : Bt} {a0 : Act} {fin : Dr}

/-- What holds of a state in which a set of places is done. -/
def Mid (E : Env) (B : Nat) (W0 : World) (its : List It) (W : T It) (tm0 : TM) (σ0 : St) (β0 : Bt) (a0 : Act) (fin : Dr) (d : Nat → Bool) (a : Act) (w : World) : Prop :=
  Closed its d ∧ a.defers = a0.defers ∧ a.tmps.size = a0.tmps.size ∧
  ∃ (β : Bt) (L D : List Ef), fin.tr.effs = L ++ D ∧ (∀ f ∈ L, d f.i = false) ∧ (∀ f ∈ D, d f.i = true) ∧
    Ext σ0.next β0 β ∧ Step σ0 (stage L fin.σ) ∧ Rel E.P B W0 β (stage L fin.σ) w ∧
    (∀ t, VR β (orUndef (view W tm0 fin.tm d t)) (a.tmps.getD t undef)) ∧ (∀ x ∈ fin.tr.news, d x.i = false → ∀ s, β x.id s = none)

theorem closed_add (hI : Its ops its) {d d' : Nat → Bool} (hc : Closed its d) {x : It} (hx : x ∈ its) (hm : ∀ j, hasB x.m j = true → d j = true) (hd' : ∀ j, d' j = (d j || decide (x.i = j))) : Closed its d' := by
  intro y hy hd j hj
  rw [hd'] at hd ⊢
  have : d j = true := by
    by_cases e : x.i = y.i
    · have := hI.uniq hx hy e
      subst this
      exact hm j hj
    · rw [decide_eq_false e, Bool.or_false] at hd
      exact hc y hy hd j hj
  rw [this]; rfl

/-- One step: the heap turns from a stage to what lies ahead of the next one. -/
theorem mid_step (hI : Its ops its) (hW : Wrs its W) {d d' : Nat → Bool} {a : Act} {w' : World} {x : It} (hx : x ∈ its) (hm : ∀ j, hasB x.m j = true → d j = true) (hd' : ∀ j, d' j = (d j || decide (x.i = j)))
    (hc : Closed its d) (ha1 : a.defers = a0.defers) (ha2 : a.tmps.size = a0.tmps.size) {β : Bt} {L L' D' : List Ef} (hL' : fin.tr.effs = L' ++ D') (hL1 : ∀ f ∈ L', d' f.i = false) (hD1 : ∀ f ∈ D', d' f.i = true)
    (hext : Ext σ0.next β0 β) (hst : Step σ0 (stage L fin.σ)) {τ : St} (hadds : Adds τ (stage L' fin.σ))
    (hsl : ∀ t, VR β (orUndef (view W tm0 fin.tm d t)) (a.tmps.getD t undef)) (hnews : ∀ x ∈ fin.tr.news, d x.i = false → ∀ s, β x.id s = none)
    (hapart : ∀ y ∈ fin.tr.news, y.id < (stage L fin.σ).next ∨ τ.next ≤ y.id) {v v' : Value} (hv : ∀ t, x.o.dst = some t → fin.tm.get t = some v) (hs : ∀ t, x.o.dst = some t → t < a.tmps.size)
    (hS : EffS E.P B W0 β (stage L fin.σ) τ w' v v') : Mid E B W0 its W tm0 σ0 β0 a0 fin d' (a.put x.o.dst v') w' := by
  obtain ⟨h1, β', h2, h3, h4⟩ := hS
  refine ⟨closed_add hI hc hx hm hd', by rw [put_defers, ha1], by rw [put_size, ha2], β', L', D', hL', hL1, hD1, hext.trans h2 hst.next, (hst.trans h1).trans hadds.toStep, hadds.rel h3, ?_, fun y hy hyd s => ?_⟩
  · exact view_step hI hW hx hd' (fun t => (hsl t).mono h2.1) h4 hv hs
  · have hyd' : d y.i = false := by
      rw [hd'] at hyd
      cases hh : d y.i with
      | false => rfl
      | true => rw [hh] at hyd; cases hyd
    rcases hapart y hy with h5 | h5
    · exact h2.2 y.id h5 (hnews y hy hyd') s
    · cases hb : β' y.id s with
      | none => rfl
      | some l =>
        have := (h3.dom _ _ _ hb).1
        omega

include hE hcall in
theorem mid_op (hI : Its ops its) (hW : Wrs its W) (hit : ∀ x ∈ its, itOk ops.toList W x = true) {n : Nat} (hok : ∀ x ∈ its, operOk n E.P.globals.size x.o = true) (hn0 : n ≤ a0.tmps.size) (hpos : 0 < σ0.next)
    (hfin : CInv its W tm0 σ0 [] fin) (htr : TrOk E σ0 fin.σ fin.tr) (hfact : ∀ x ∈ its, Fact E call ops its W tm0 fin x)
    {d d' : Nat → Bool} {a : Act} {w : World} (hM : Mid E B W0 its W tm0 σ0 β0 a0 fin d a w) {x : It} (hx : x ∈ its) (hdx : d x.i = false) (hm : ∀ j, hasB x.m j = true → d j = true) (hd' : ∀ j, d' j = (d j || decide (x.i = j)))
    {K : Act → World → Prop} {Q : Exit → Act → World → Prop} (hK : ∀ a' w', Mid E B W0 its W tm0 σ0 β0 a0 fin d' a' w' → K a' w') : wpOp E.P ops Q x.i K a w := by
  obtain ⟨hc, ha1, ha2, β, L, D, hLD, hL, hD, hext, hst, hR, hsl, hnews⟩ := hM
  obtain ⟨tmx, dx, v, fc, fd, fm, fv, fdst, fk⟩ := hfact x hx
  obtain ⟨ok1, ok2⟩ := operOk_iff (hok x hx)
  have hdst : ∀ t, x.o.dst = some t → t < a.tmps.size := fun t ht => by have := ok1 t ht; rw [ha2]; exact Nat.lt_of_lt_of_le this hn0
  have hlook : ∀ t, Looks ops.toList x.o t → VR β (orUndef (tmx.get t)) (a.tmps.getD t undef) := by
    intro t ht
    rw [fv t, view_agree hW fc hc fd hdx fm hm (itOk_looks (hit x hx) ht)]
    exact hsl t
  have hops : ops[x.i]? = some x.o := (hI.mem hx).2
  have hnpos : 0 < (stage L fin.σ).next := Nat.lt_of_lt_of_le hpos hst.next
  have hdne : ∀ f : Ef, f.i ≠ x.i → d' f.i = d f.i := fun f hf => by rw [hd', decide_eq_false fun e => hf e.symm, Bool.or_false]
  have hdmono : ∀ j, d j = true → d' j = true := fun j hj => by rw [hd', hj]; rfl
  have hD' : ∀ g, D.head? = some g → hasB g.m x.i = false := by
    intro g hg
    have hgD : g ∈ D := List.mem_of_mem_head? hg
    cases hh : hasB g.m x.i with
    | false => rfl
    | true =>
      obtain ⟨y, hy, e1, e2⟩ := hfin.efit g (by rw [hLD]; simp [hgD])
      have := hc y hy (by rw [e1]; exact hD g hgD) x.i (by rw [e2]; exact hh)
      rw [hdx] at this; cases this
  have hLm : ∀ f ∈ L, hasB x.m f.i = false := by
    intro f hf
    cases hh : hasB x.m f.i with
    | false => rfl
    | true => have := hm _ hh; rw [hL f hf] at this; cases this
  unfold wpOp
  rw [hops]
  simp only
  have hwt : Region.wanted x.o (yielded ops a.tmps) = wantedB ops.toList tmx x.o := wanted_eq fun t ht => hlook t (.inr ht)
  rw [hwt]
  have same : (∀ f ∈ fin.tr.effs, f.i ≠ x.i) → ∀ {v' w'}, EffS E.P B W0 β (stage L fin.σ) (stage L fin.σ) w' v v' → K (a.put x.o.dst v') w' := by
    intro hno v' w' hS
    refine hK _ _ (mid_step hI hW hx hm hd' hc ha1 ha2 hLD (fun f hf => ?_) (fun f hf => hdmono _ (hD f hf)) hext hst (.refl _) hsl hnews (fun y _ => by omega) fdst hdst hS)
    rw [hdne f (hno f (by rw [hLD]; simp [hf]))]
    exact hL f hf
  rcases fk with ⟨hw, rfl, hno⟩ | ⟨hw, fk⟩
  · rw [hw, if_neg (by simp)]
    exact same hno ⟨Step.refl _, β, Ext.refl _ _, hR, VR.undef⟩
  · rw [hw, if_pos rfl]
    refine .inl ?_
    have hx' : ∀ y ∈ x.o.op.operands, VR β (evX tmx y) (a.eval y) := fun y hy => evX_VR hR (ok2 y hy) fun t ht => hlook t (.inl (ht ▸ hy))
    have simple : (∀ f ∈ fin.tr.effs, f.i ≠ x.i) → (evOp E tmx (stage L fin.σ) x.o = some (.val v) ∨ evOp E tmx (stage L fin.σ) x.o = some (.ld v)) → x.o.wp E.P a w K Q := by
      intro hno hev
      rcases hev with hev | hev
      · exact oper_wp hE hcall hR hnpos hx' hev rfl fun v' w' hS => same hno hS
      · exact oper_wp hE hcall hR hnpos hx' hev rfl fun v' w' hS => same hno hS
    rcases fk with ⟨f, hf, fi, fmm, r, hr, hra⟩ | ⟨hno, hval | ⟨sp, mk, o, id, hev, rfl, hnew⟩ | hld⟩
    · -- an effect
      have hfL : f ∈ L := by
        rw [hLD] at hf
        rcases List.mem_append.1 hf with h1 | h1
        · exact h1
        · have := hD f h1; rw [fi, hdx] at this; cases this
      obtain ⟨A, R, hAR⟩ := List.append_of_mem hfL
      have hR0 : R = [] := by
        cases R with
        | nil => rfl
        | cons g R =>
          have h1 := htr.chain
          rw [hLD, hAR, List.append_assoc, List.cons_append, List.cons_append] at h1
          have h2 := chain_adj A none h1
          rw [fmm] at h2
          have h3 := hm _ h2
          rw [hL g (by rw [hAR]; simp)] at h3
          cases h3
      subst hR0
      have hstage : stage L fin.σ = f.σ := by rw [hAR]; exact stage_snoc A f fin.σ
      have heffs := hfin.effs
      rw [hLD, hAR, List.append_assoc, List.singleton_append] at heffs
      obtain ⟨hadds, hne⟩ := Effs.at_ A fin.σ heffs
      rw [hstage] at hR
      refine oper_wp hE hcall hR (by rw [← hstage]; exact hnpos) hx' hr hra fun v' w' hS => ?_
      rw [← hstage] at hS hR
      refine hK _ _ (mid_step hI hW hx hm hd' hc ha1 ha2 (L' := A) (D' := f :: D) (by rw [hLD, hAR]; simp) (fun g hg => ?_) (fun g hg => ?_) hext hst hadds hsl hnews (fun y hy => ?_) fdst hdst hS)
      · rw [hdne g (by rw [← fi]; exact hne g hg)]
        exact hL g (by rw [hAR]; simp [hg])
      · rcases List.mem_cons.1 hg with rfl | hg
        · rw [fi, hd']; simp
        · exact hdmono _ (hD g hg)
      · rw [hstage]; exact htr.apart y hy f hf
    · exact simple hno (hval _)
    · -- a new object
      have hst2 := stagesOk_spec (m := x.m) (i := x.i) (chk := newSame ⟨x.i, x.m, id, o⟩) hD' L fin.σ none hLm rfl (by rw [← hLD]; exact htr.news _ hnew)
      obtain ⟨hid, hobj⟩ := newSame_spec hst2
      have hS := opSound hE hR hx' (hev (stage L fin.σ))
      unfold Oper.wp
      obtain ⟨v', w', h1, hb, hsz, hro, k, esz, h2⟩ := hS
      rw [h1]
      have hnone : ∀ s, β id s = none := hnews _ hnew hdx
      obtain ⟨h3, h4⟩ := h2 id hnone
      have hlate : σ0.next ≤ id := htr.late _ hnew
      show K (a.put x.o.dst v') w'
      have hRn := hR.new (n := k) (esz := esz) hnone (by omega) hobj hid hb hsz h4
      have hle := upd_le (l := ⟨w.heap.size, k, esz, 0⟩) (hnone sp)
      refine hK _ _ ⟨closed_add hI hc hx hm hd', by rw [put_defers, ha1], by rw [put_size, ha2], _, L, D, hLD, fun f hf => ?_, fun f hf => hdmono _ (hD f hf), hext.trans ⟨hle, fun i hi hs s => ?_⟩ (Nat.le_refl _), hst, hRn, ?_, fun y hy hyd s => ?_⟩
      · rw [hdne f (hno f (by rw [hLD]; simp [hf]))]
        exact hL f hf
      · unfold upd
        rw [if_neg (by omega)]
        exact hs s
      · exact view_step hI hW hx hd' (fun t => (hsl t).mono hle) h3 fdst hdst
      · have hyx : y.i ≠ x.i := fun e => by
          rw [hd', e] at hyd
          simp at hyd
        have hyid : y.id ≠ id := fun e => hyx (by rw [htr.fall y hy _ hnew e])
        have hyd' : d y.i = false := by
          rw [hd'] at hyd
          cases hh : d y.i with
          | false => rfl
          | true => rw [hh] at hyd; cases hyd
        unfold upd
        rw [if_neg (fun e => hyid e.1)]
        exact hnews y hy hyd' s
    · refine simple hno ?_
      have h1 := stagesOk_spec (m := x.m) (i := x.i) (chk := ldSame E ⟨x.i, x.m, x.o, tmx, v⟩) hD' L fin.σ none hLm rfl (by rw [← hLD]; exact htr.loads _ hld)
      exact (ldSame_spec h1).symm

end
end Go.Ev
namespace Go.Ev
open Go.RowKit

theorem binds_any (e : Edge) : Region.binds .any e = bindsB e := by
  unfold Region.binds bindsB
  cases e.ground <;> rfl

section
variable {E : Env} (hE : EnvOK E) {call : CallF} (hcall : CallsS E call) {B : Nat} {W0 : World}
variable {ops : Array Oper} {its : List It} {W : T It} {tm0 : TM} {σ0 : St} {β0 : Bt} {a0 : Act} {fin : Dr}

def undone (ops : Array Oper) (listed : Array Bool) : Nat := ((List.range ops.size).filter fun j => !listed.getD j false).length

theorem getD_eq {listed : Array Bool} {j : Nat} (h : j < listed.size) (b b' : Bool) : listed.getD j b = listed.getD j b' := by
  simp [Array.getD_eq_getD_getElem?, h]

theorem getD_upd {listed : Array Bool} {i : Nat} (h : i < listed.size) (j : Nat) : (listed.setIfInBounds i true).getD j false = (listed.getD j false || decide (i = j)) := by
  simp only [Array.getD_eq_getD_getElem?, Array.getElem?_setIfInBounds]
  by_cases e : i = j
  · subst e; simp [h]
  · simp [e]

theorem undone_lt {listed : Array Bool} {i : Nat} (hi : i < ops.size) (hs : listed.size = ops.size) (hn : listed.getD i false = false) : undone ops (listed.setIfInBounds i true) < undone ops listed := by
  unfold undone
  have e : (List.range ops.size).filter (fun j => !(listed.setIfInBounds i true).getD j false) = ((List.range ops.size).filter fun j => !listed.getD j false).filter fun j => !decide (i = j) := by
    rw [List.filter_filter]
    apply List.filter_congr
    intro j _
    rw [getD_upd (by omega)]
    cases listed.getD j false <;> simp
  rw [e]
  apply List.length_filter_lt_length_iff_exists.2
  exact ⟨i, List.mem_filter.2 ⟨List.mem_range.2 hi, by simp [hn]⟩, by simp⟩

theorem all_done (hI : Its ops its) {listed : Array Bool} (hs : listed.size = ops.size) (hr : Region.ready .any ops listed = []) : ∀ j, j < ops.size → listed.getD j false = true := by
  intro j
  induction j using Nat.strongRecOn with
  | ind j ih =>
    intro hj
    cases hd : listed.getD j false with
    | true => rfl
    | false =>
      have hx : ∃ x, its[j]? = some x := ⟨_, List.getElem?_eq_getElem (by rw [hI.len]; exact hj)⟩
      obtain ⟨x, hx⟩ := hx
      obtain ⟨h1, h2⟩ := hI.at_ j x hx
      have : j ∈ Region.ready .any ops listed := mem_ready.2 ⟨by rw [getD_eq (by omega) true false]; exact hd, x.o, h2, fun e he hb => by
        rw [binds_any] at hb
        have := hI.back x (List.mem_of_getElem? hx) e he hb
        exact ih e.on (by omega) (by omega)⟩
      rw [hr] at this
      cases this

theorem mid_end (hI : Its ops its) (hW : Wrs its W) (hfin : CInv its W tm0 σ0 [] fin) {d : Nat → Bool} {a : Act} {w : World} (hd : ∀ j, j < ops.size → d j = true) (h : Mid E B W0 its W tm0 σ0 β0 a0 fin d a w) :
    Post E B W0 β0 σ0 a0 fin.tm fin.σ a w := by
  obtain ⟨-, ha1, ha2, β, L, D, hLD, hL, -, hext, hst, hR, hsl, -⟩ := h
  have lt : ∀ y ∈ its, y.i < ops.size := fun y hy => (Array.getElem?_eq_some_iff.1 (hI.mem hy).2).1
  have hL0 : L = [] := by
    cases L with
    | nil => rfl
    | cons f L =>
      obtain ⟨y, hy, e1, -⟩ := hfin.efit f (by rw [hLD]; simp)
      have h1 := hL f (by simp)
      rw [hd _ (by rw [← e1]; exact lt y hy)] at h1
      cases h1
  subst hL0
  refine ⟨hst, ha1, ha2, β, hext, hR, fun t => ?_⟩
  have h1 := hsl t
  have : view W tm0 fin.tm d t = fin.tm.get t := by
    unfold view
    cases hy : W.get t with
    | none => exact (hfin.old t (by simp [hy])).symm
    | some y => simp only; rw [if_pos (hd _ (lt y (hW.by_ t y hy).1))]
  rw [this] at h1
  exact h1

include hE hcall in
theorem mid_any (hI : Its ops its) (hW : Wrs its W) (hit : ∀ x ∈ its, itOk ops.toList W x = true) {n : Nat} (hok : ∀ x ∈ its, operOk n E.P.globals.size x.o = true) (hn0 : n ≤ a0.tmps.size) (hpos : 0 < σ0.next)
    (hfin : CInv its W tm0 σ0 [] fin) (htr : TrOk E σ0 fin.σ fin.tr) (hfact : ∀ x ∈ its, Fact E call ops its W tm0 fin x) {Q : Exit → Act → World → Prop} (hQ : ∀ a' w', Post E B W0 β0 σ0 a0 fin.tm fin.σ a' w' → Q .normal a' w') :
    ∀ (fuel : Nat) (listed : Array Bool) (a : Act) (w : World), listed.size = ops.size → undone ops listed ≤ fuel → Mid E B W0 its W tm0 σ0 β0 a0 fin (fun j => listed.getD j false) a w → wpAny E.P .any ops Q fuel listed a w
  | 0, listed, a, w, hs, hu, hM => by
    have hr : Region.ready .any ops listed = [] := by
      apply List.eq_nil_iff_forall_not_mem.2
      intro j hj
      obtain ⟨h1, o, ho, -⟩ := mem_ready.1 hj
      have hj' := (Array.getElem?_eq_some_iff.1 ho).1
      have h2 : listed.getD j false = false := by rw [getD_eq (by omega) false true]; exact h1
      have := undone_lt hj' hs h2
      omega
    exact ⟨hr, hQ _ _ (mid_end hI hW hfin (all_done hI hs hr) hM)⟩
  | fuel + 1, listed, a, w, hs, hu, hM => by
    refine ⟨fun hr => hQ _ _ (mid_end hI hW hfin (all_done hI hs hr) hM), fun i hi => ?_⟩
    obtain ⟨h1, o, ho, hall⟩ := mem_ready.1 hi
    have hi' := (Array.getElem?_eq_some_iff.1 ho).1
    have h2 : listed.getD i false = false := by rw [getD_eq (by omega) false true]; exact h1
    obtain ⟨x, hx⟩ : ∃ x, its[i]? = some x := ⟨_, List.getElem?_eq_getElem (by rw [hI.len]; exact hi')⟩
    obtain ⟨e1, e2⟩ := hI.at_ i x hx
    have hxm := List.mem_of_getElem? hx
    have heo : o = x.o := by rw [ho] at e2; simpa using e2
    subst heo
    subst e1
    refine mid_op hE hcall hI hW hit hok hn0 hpos hfin htr hfact hM hxm h2 (fun j hj => ?_) (d' := fun j => (listed.setIfInBounds x.i true).getD j false) (fun j => getD_upd (by omega) j) fun a' w' hM' => ?_
    · obtain ⟨e, he, hb, h3⟩ := hI.mask x hxm j hj
      have h4 := hall e he (by rw [binds_any]; exact hb)
      rcases h3 with rfl | ⟨y, hy, h5, h6⟩
      · exact h4
      · exact hM.1 y hy (by rw [h5]; exact h4) j h6
    · have h7 := undone_lt hi' hs h2
      exact mid_any hI hW hit hok hn0 hpos hfin htr hfact hQ fuel _ a' w' (by simpa using hs) (by omega) hM'

theorem cinv_start (hI : Its ops its) (tm : TM) (σ : St) : CInv its W tm σ its ⟨0, ⟨[], [], []⟩, tm, σ⟩ := by
  have h0 : ∀ j, hasB 0 j = false := fun j => by rw [hasB_eq]; simp
  refine ⟨fun _ h => h, ?_, fun x _ => h0 _, fun x hx => .inr hx, fun x _ hd => ?_, fun _ _ => rfl, .nil (.refl _), by simp, by simp⟩
  · have : its.map (·.i) = List.range its.length := by
      apply List.ext_getElem?
      intro k
      rw [List.getElem?_map]
      by_cases hk : k < its.length
      · rw [List.getElem?_range hk]
        have hx := List.getElem?_eq_getElem hk
        rw [hx]
        simp only [Option.map_some]
        rw [(hI.at_ k _ hx).1]
      · rw [List.getElem?_eq_none (by omega), List.getElem?_eq_none (by simp; omega)]
        rfl
    rw [this]
    exact List.nodup_range
  · have := h0 x.i
    rw [show hasB (⟨0, ⟨[], [], []⟩, tm, σ⟩ : Dr).done x.i = hasB 0 x.i from rfl, this] at hd
    cases hd

include hE hcall in
theorem region_wp (hmix : E.P.follows .mixedOrders = true) {draw : Bool} {tm tm' : TM} {σ σ' : St} (h : evRegion E call ops.toList draw tm σ = some (tm', σ')) {n : Nat} (hok : allB (operOk n E.P.globals.size) ops.toList = true)
    (hrg : draw = true → regionOk ops.toList = true) {β : Bt} {a : Act} {w : World} (hR : Rel E.P B W0 β σ w) (hpos : 0 < σ.next) (ht : TMR β tm a) (hn : n ≤ a.tmps.size) {Q : Exit → Act → World → Prop}
    (hQ : ∀ a' w', Post E B W0 β σ a tm' σ' a' w' → Q .normal a' w') (id : Nat) : (Code.region id ops draw).wp E.P Q a w := by
  rw [allB_iff] at hok
  unfold evRegion at h
  rw [bc_eq_some] at h
  rcases h with ⟨rfl, h⟩ | ⟨rfl, h⟩
  · obtain ⟨its, hits, h2⟩ := ob_eq_some.1 h
    obtain ⟨fin, hfin, h3⟩ := ob_eq_some.1 h2
    rw [guardO_eq_some] at h3
    obtain ⟨htr, h4⟩ := h3
    obtain ⟨rfl, rfl⟩ : fin.tm = tm' ∧ fin.σ = σ' := by simpa using h4
    have hI := its_of hits
    have hrg' := hrg rfl
    unfold regionOk at hrg'
    rw [hits] at hrg'
    simp only at hrg'
    cases hWW : wrOf its .e with
    | none => rw [hWW] at hrg'; cases hrg'
    | some W =>
      rw [hWW] at hrg'
      change allB (itOk ops.toList W) its = true at hrg'
      rw [allB_iff] at hrg'
      have hW := wrs_of hWW
      have hC := cinv_start (W := W) hI tm σ
      have htrO := trOk_of htr
      have hkeep := evDraw_keeps hI hW _ _ _ _ hfin hC
      have hfact := evDraw_facts hI hW _ _ _ _ hfin hC
      have hfi := hkeep.2.2.2.2.2
      have hR1 : Rel E.P B W0 β σ { w with drawn := w.drawn + 1 } := hR.congr rfl rfl rfl rfl
      refine wp_region_any hmix (mid_any hE hcall hI hW hrg' (n := n) (fun x hx => hok x.o ?_) hn hpos hfi htrO hfact hQ ops.size _ a _ (by simp) ?_ ?_)
      · have := (hI.mem hx).2
        exact List.mem_of_getElem? (by rw [Array.getElem?_toList]; exact this)
      · exact Nat.le_trans (List.length_filter_le _ _) (by simp)
      · have hfalse : ∀ j, (Array.replicate ops.size false).getD j false = false := fun j => by
          simp only [Array.getD_eq_getD_getElem?, Array.getElem?_replicate]
          split <;> rfl
        refine ⟨fun x _ hd => (by have hd' : (Array.replicate ops.size false).getD x.i false = true := hd; rw [hfalse] at hd'; cases hd'), rfl, rfl, β, fin.tr.effs, [], by simp, fun f _ => hfalse _, by simp, Ext.refl _ _, hfi.effs.first.toStep, hfi.effs.first.rel hR1, fun t => ?_, fun x hx _ s => ?_⟩
        · have : view W tm fin.tm (fun j => (Array.replicate ops.size false).getD j false) t = tm.get t := by
            unfold view
            cases W.get t with
            | none => rfl
            | some y => exact if_neg (by show ¬ (Array.replicate ops.size false).getD y.i false = true; rw [hfalse]; simp)
          rw [this]; exact ht t
        · cases hb : β x.id s with
          | none => rfl
          | some l =>
            have h5 := (hR.dom _ _ _ hb).1
            have h6 := htrO.late x hx
            omega
  · exact wp_region_list (evOps_wp hE hcall ops.toList tm σ h hok β a w hR hpos ht hn hQ)

end
end Go.Ev
namespace Go.Ev
open Go.RowKit

structure RunOK (E : Env) : Prop where
  env : EnvOK E
  mixed : E.P.follows .mixedOrders = true
  code : ∀ (f : Nat) (fn : Func), E.P.funcs[f]? = some fn → funcOk E.P.globals.size fn = true

def toExit : Ex → Exit
  | .normal => .normal
  | .exit id => .exit id
  | .ret => .ret

section
variable {E : Env} (hE : RunOK E) {call : CallF} (hcall : CallsS E call) {B : Nat} {W0 : World}

/-- What the evaluator answers for a piece of code. -/
def CodeS (E : Env) (go : CodeF) : Prop :=
  ∀ (c : Code) (tm : TM) (σ : St) (out : Out), go c tm σ = some out → ∀ (n : Nat), codeOk n E.P.globals.size c = true → ∀ (B : Nat) (W0 : World) (β : Bt) (a : Act) (w : World),
    Rel E.P B W0 β σ w → 0 < σ.next → TMR β tm a → n ≤ a.tmps.size → ∀ Q : Exit → Act → World → Prop, (∀ a' w', Post E B W0 β σ a out.tm out.σ a' w' → Q (toExit out.x) a' w') → c.wp E.P Q a w

def LoopS (E : Env) (m : Nat) (go : CodeF) : Prop :=
  ∀ (c : Code) (tm : TM) (σ : St) (out : Out), go (.loop c) tm σ = some out → ∀ (n : Nat), codeOk n E.P.globals.size c = true → ∀ (B : Nat) (W0 : World) (β : Bt) (a : Act) (w : World),
    Rel E.P B W0 β σ w → 0 < σ.next → TMR β tm a → n ≤ a.tmps.size → ∀ Q : Exit → Act → World → Prop, (∀ a' w', Post E B W0 β σ a out.tm out.σ a' w' → Q (toExit out.x) a' w') → Code.rounds E.P c Q m a w

omit hE hcall in
theorem bc5 {a b : Bool} : bc a b false = true ↔ a = true ∧ b = true := bc3

theorem Post.go {P : Program} {β : Bt} {σ σ1 : St} {a a1 : Act} {w1 : World} {tm1 : TM} (h : Post E B W0 β σ a tm1 σ1 a1 w1) (hpos : 0 < σ.next) {n : Nat} (hn : n ≤ a.tmps.size) :
    ∃ β1, Rel E.P B W0 β1 σ1 w1 ∧ 0 < σ1.next ∧ TMR β1 tm1 a1 ∧ n ≤ a1.tmps.size ∧ ∀ {tm2 σ2 a2 w2}, Post E B W0 β1 σ1 a1 tm2 σ2 a2 w2 → Post E B W0 β σ a tm2 σ2 a2 w2 := by
  obtain ⟨s, d, z, β1, e, r, t⟩ := h
  refine ⟨β1, r, Nat.lt_of_lt_of_le hpos s.next, t, by rw [z]; exact hn, fun {tm2 σ2 a2 w2} h2 => ?_⟩
  obtain ⟨s2, d2, z2, β2, e2, r2, t2⟩ := h2
  exact ⟨s.trans s2, d2.trans d, z2.trans z, β2, e.trans e2 s.next, r2, t2⟩

include hE hcall in
theorem code_wp : ∀ n : Nat, CodeS E (evCode E call n) ∧ LoopS E n (evCode E call n)
  | 0 => ⟨fun _ _ _ _ h => (by cases h), fun _ _ _ _ h => (by cases h)⟩
  | n + 1 => by
    obtain ⟨ihc, ihl⟩ := code_wp n
    have hl : LoopS E (n + 1) (evCode E call (n + 1)) := by
      intro c tm σ out h k hok B W0 β a w hR hpos ht hk Q hQ
      change ob (evCode E call n c tm σ) (fun r => normalThen r (evCode E call n (.loop c))) = some out at h
      obtain ⟨r, hr, h2⟩ := ob_eq_some.1 h
      obtain ⟨x, tm1, σ1⟩ := r
      rw [rounds_succ]
      cases x with
      | normal =>
        change evCode E call n (.loop c) tm1 σ1 = some out at h2
        refine ihc c tm σ _ hr k hok B W0 β a w hR hpos ht hk _ fun a' w' hP => ?_
        obtain ⟨β1, hR1, hp1, ht1, hk1, hcomp⟩ := Post.go (P := E.P) hP hpos hk
        exact ihl c tm1 σ1 out h2 k hok B W0 β1 a' w' hR1 hp1 ht1 hk1 Q fun a2 w2 hP2 => hQ _ _ (hcomp hP2)
      | exit id =>
        obtain rfl : (⟨.exit id, tm1, σ1⟩ : Out) = out := by simpa [normalThen] using h2
        exact ihc c tm σ _ hr k hok B W0 β a w hR hpos ht hk _ fun a' w' hP => hQ a' w' hP
      | ret =>
        obtain rfl : (⟨.ret, tm1, σ1⟩ : Out) = out := by simpa [normalThen] using h2
        exact ihc c tm σ _ hr k hok B W0 β a w hR hpos ht hk _ fun a' w' hP => hQ a' w' hP
    refine ⟨?_, hl⟩
    intro c tm σ out h k hok B W0 β a w hR hpos ht hk Q hQ
    cases c with
    | skip =>
      obtain rfl : (⟨.normal, tm, σ⟩ : Out) = out := by simpa [evCode, codeStep] using h
      exact wp_skip (hQ _ _ (Post.refl hR ht))
    | exit id =>
      obtain rfl : (⟨.exit id, tm, σ⟩ : Out) = out := by simpa [evCode, codeStep] using h
      exact wp_exit (hQ _ _ (Post.refl hR ht))
    | ret =>
      obtain rfl : (⟨.ret, tm, σ⟩ : Out) = out := by simpa [evCode, codeStep] using h
      exact wp_ret (hQ _ _ (Post.refl hR ht))
    | region id ops draw =>
      change ob (evRegion E call ops.toList draw tm σ) (fun p => some ⟨.normal, p.1, p.2⟩) = some out at h
      obtain ⟨⟨tm1, σ1⟩, hp, h2⟩ := ob_eq_some.1 h
      obtain rfl : (⟨.normal, tm1, σ1⟩ : Out) = out := by simpa using h2
      unfold codeOk at hok
      rw [bc3] at hok
      refine region_wp hE.env hcall hE.mixed hp hok.1 (fun hd => ?_) hR hpos ht hk hQ id
      have := hok.2
      rw [hd] at this
      exact this
    | seq x y =>
      change ob (evCode E call n x tm σ) (fun r => normalThen r (evCode E call n y)) = some out at h
      unfold codeOk at hok
      rw [bc3] at hok
      obtain ⟨r, hr, h2⟩ := ob_eq_some.1 h
      obtain ⟨e, tm1, σ1⟩ := r
      apply wp_seq
      cases e with
      | normal =>
        change evCode E call n y tm1 σ1 = some out at h2
        refine ihc x tm σ _ hr k hok.1 B W0 β a w hR hpos ht hk _ fun a' w' hP => ?_
        obtain ⟨β1, hR1, hp1, ht1, hk1, hcomp⟩ := Post.go (P := E.P) hP hpos hk
        exact ihc y tm1 σ1 out h2 k hok.2 B W0 β1 a' w' hR1 hp1 ht1 hk1 Q fun a2 w2 hP2 => hQ _ _ (hcomp hP2)
      | exit id =>
        obtain rfl : (⟨.exit id, tm1, σ1⟩ : Out) = out := by simpa [normalThen] using h2
        exact ihc x tm σ _ hr k hok.1 B W0 β a w hR hpos ht hk _ fun a' w' hP => hQ a' w' hP
      | ret =>
        obtain rfl : (⟨.ret, tm1, σ1⟩ : Out) = out := by simpa [normalThen] using h2
        exact ihc x tm σ _ hr k hok.1 B W0 β a w hR hpos ht hk _ fun a' w' hP => hQ a' w' hP
    | cond x p q =>
      change ob (boolOf? (evX tm x)) (fun t => bc t (evCode E call n p tm σ) (evCode E call n q tm σ)) = some out at h
      unfold codeOk at hok
      rw [bc3, bc3] at hok
      obtain ⟨t, hb, h2⟩ := ob_eq_some.1 h
      have hv := evX_VR hR (tm := tm) (a := a) hok.1 fun t _ => ht t
      have hx : a.eval x = .bool t := by
        cases hh : evX tm x with
        | bool b =>
          rw [hh] at hb hv
          obtain rfl : b = t := by simpa [boolOf?] using hb
          exact hv.of_pf rfl
        | _ => rw [hh] at hb; simp [boolOf?] at hb
      refine wp_cond hx ?_
      cases t with
      | true => exact ihc p tm σ out h2 k hok.2.1 B W0 β a w hR hpos ht hk Q hQ
      | false => exact ihc q tm σ out h2 k hok.2.2 B W0 β a w hR hpos ht hk Q hQ
    | block id b =>
      change ob (evCode E call n b tm σ) (fun r => some (outOf id r)) = some out at h
      unfold codeOk at hok
      obtain ⟨r, hr, h2⟩ := ob_eq_some.1 h
      obtain ⟨e, tm1, σ1⟩ := r
      have h2' : outOf id ⟨e, tm1, σ1⟩ = out := by simpa using h2
      apply wp_block
      refine ihc b tm σ _ hr k hok B W0 β a w hR hpos ht hk _ fun a' w' hP => ?_
      cases e with
      | normal => subst h2'; exact hQ a' w' hP
      | ret => subst h2'; exact hQ a' w' hP
      | exit j =>
        change bc (Nat.beq j id) (⟨.normal, tm1, σ1⟩ : Out) ⟨.exit j, tm1, σ1⟩ = out at h2'
        show if j = id then Q .normal a' w' else Q (.exit j) a' w'
        rw [bc_eq] at h2'
        by_cases hj : j = id
        · rw [if_pos (beq_iff.2 hj)] at h2'
          subst h2'
          rw [if_pos hj]
          exact hQ a' w' hP
        · rw [if_neg (fun e => hj (beq_iff.1 e))] at h2'
          subst h2'
          rw [if_neg hj]
          exact hQ a' w' hP
    | loop b =>
      exact wp_loop_rounds (n + 1) (hl b tm σ out h k (by unfold codeOk at hok; exact hok) B W0 β a w hR hpos ht hk Q hQ)
    | _ => cases h

end
end Go.Ev
namespace Go.Ev
open Go.RowKit

theorem VR.down {β β' : Bt} (hb : Bt.le β β') (hz : ∀ s, β' 0 s = none) {v u u' : Value} (h : VR β v u) : VR β' v u' → VR β v u' := by
  have mid : ∀ {c c' c'' : List Value}, c.length = c'.length → c.length = c''.length →
      (∀ (i : Nat) (v v' : Value), c[i]? = some v → c'[i]? = some v' → ∀ {u' : Value}, VR β' v u' → VR β v u') →
      (∀ (i : Nat) (v v' : Value), c[i]? = some v → c''[i]? = some v' → VR β' v v') → ∀ (i : Nat) (v v' : Value), c[i]? = some v → c''[i]? = some v' → VR β v v' := by
    intro c c' c'' h1 h2 h3 h4 i v v' hv hv'
    have hi : i < c.length := (List.getElem?_eq_some_iff.1 hv).1
    exact h3 i v _ hv (List.getElem?_eq_getElem (by omega : i < c'.length)) (h4 i v v' hv hv')
  induction h generalizing u' with
  | pf v hp => intro h'; rw [h'.of_pf hp]; exact .pf v hp
  | ptr a l hl =>
    intro h'
    cases h' with
    | pf _ hp => cases hp
    | ptr _ l' hl' =>
      have e := hb _ _ _ hl
      rw [e] at hl'
      obtain rfl : l = l' := by simpa using hl'
      exact .ptr a l hl
  | slice a l len lb cap hl h1 h2 h3 =>
    intro h'
    cases h' with
    | pf _ hp => cases hp
    | slice _ l' _ _ cap' hl' h1' h2' h3' =>
      have e := hb _ _ _ hl
      rw [e] at hl'
      obtain rfl : l = l' := by simpa using hl'
      exact .slice a l len lb cap' hl h1' h2' h3'
    | zsl b => exact .zsl b
    | dsl b c => exact .dsl b c
  | zsl b =>
    intro h'
    cases h' with
    | pf _ hp => cases hp
    | slice _ l' _ _ cap' hl' h1' h2' h3' => rw [hz] at hl'; cases hl'
    | zsl b => exact .zsl b
  | dsl b cap =>
    intro h'
    cases h' with
    | pf _ hp => cases hp
    | slice _ l' _ _ cap' hl' h1' h2' h3' => rw [hz] at hl'; cases hl'
    | dsl b c => exact .dsl b c
  | map id l hl =>
    intro h'
    cases h' with
    | pf _ hp => cases hp
    | map _ l' hl' =>
      have e := hb _ _ _ hl
      rw [e] at hl'
      obtain rfl : l = l' := by simpa using hl'
      exact .map id l hl
  | func f p p' c c' hp hc h1 h2 ih1 ih2 =>
    intro h'
    cases h' with
    | pf _ hp => exact .pf _ hp
    | func _ _ p'' _ c'' hp' hc' h1' h2' => exact .func f p p'' c c'' hp' hc' (mid hp hp' ih1 h1') (mid hc hc' ih2 h2')
  | agg c c' hc h ih =>
    intro h'
    cases h' with
    | pf _ hp => exact .pf _ hp
    | agg _ c'' hc' h' => exact .agg c c'' hc' (mid hc hc' ih h')
  | tuple c c' hc h ih =>
    intro h'
    cases h' with
    | pf _ hp => exact .pf _ hp
    | tuple _ c'' hc' h' => exact .tuple c c'' hc' (mid hc hc' ih h')

section
variable {P : Program} {B : Nat} {W : World} {β β' : Bt} {σ σ' : St} {w w' : World}

theorem Rel.low (h : Rel P B W β σ w) (k : Nat) : Rel P B W β ⟨σ.heap, σ.next, k⟩ w :=
  ⟨h.below, h.base, h.zero, h.dom, h.obj, h.inj, h.kind, h.glob, h.flat⟩

theorem CR.down (hb : Bt.le β β') (hz : ∀ s, β' 0 s = none) {v u u' : Value} (h : CR β v u) (h' : CR β' v u') : CR β v u' := by
  rcases h' with h' | h'
  · exact .inl h'
  · rcases h with h | h
    · exact .inl h
    · exact .inr (h.down hb hz h')

theorem ObjR.down (hb : Bt.le β β') (hz : ∀ s, β' 0 s = none) {l : Loc} {s : Option Nat} {o : LO} (h : ObjR P β w l s o) (h' : ObjR P β' w' l s o) : ObjR P β w' l s o := by
  cases o with
  | cells elem cs fl fz ro =>
    obtain ⟨h1, h2⟩ := h
    obtain ⟨h1', h2'⟩ := h'
    refine ⟨h1, fun hv => ?_⟩
    obtain ⟨c, fr, r⟩ := h2 hv
    obtain ⟨c', fr', r'⟩ := h2' hv
    refine ⟨c', fr', r'.at_, r'.size, r'.fits, r'.whole, fun j v hj hjv => ?_, r'.free⟩
    obtain ⟨u', h3, h4⟩ := r'.cell j v hj hjv
    obtain ⟨u, h5, h6⟩ := r.cell j v hj hjv
    exact ⟨u', h3, h6.down hb hz h4⟩
  | map es clock =>
    obtain ⟨es1, h1, h2⟩ := h
    obtain ⟨es2, h3, h4⟩ := h'
    refine ⟨es2, h3, h4.1, fun i e e' he he' => ?_⟩
    have hi : i < es.length := (List.getElem?_eq_some_iff.1 he).1
    have r1 := h2.2 i e _ he (List.getElem?_eq_getElem (by have := h2.1; omega))
    have r2 := h4.2 i e e' he he'
    exact ⟨r2.key, r2.pf, r1.val.down hb hz r2.val, r2.born⟩

/-- Behind a call that wrote nothing that was there before: what was known of the world is known of it still. -/
theorem Rel.back (h : Rel P B W β σ w) (h' : Rel P B W β' σ' w') (hb : Bt.le β β') (hs : ∀ id, id < σ.next → σ'.heap.get id = σ.heap.get id) : Rel P B W β σ w' := by
  refine ⟨h'.below, h.base, h.zero, fun id s l hl => ⟨(h.dom id s l hl).1, (h'.dom id s l (hb _ _ _ hl)).2⟩, fun id s l hl => ?_, h.inj, h.kind, h.glob, h.flat⟩
  obtain ⟨o, h1, h2, h3⟩ := h.obj id s l hl
  obtain ⟨o', h1', h2', -⟩ := h'.obj id s l (hb _ _ _ hl)
  rw [hs id (h.dom id s l hl).1, h1] at h1'
  obtain rfl : o = o' := by simpa using h1'
  exact ⟨o, h1, h2.down hb h'.zero h2', h3⟩
end

section
variable {E : Env} (hE : RunOK E)

def resOf (tmps : Array Value) : ResultVar → Sem Value
  | .tmp t => pure (tmps.getD t undef)
  | .cell a t => do loadVar t (← asAddr (tmps.getD a undef))

theorem results_def (fn : Func) (tmps : Array Value) : results fn tmps = (do
    let vs ← fn.results.mapM (resOf tmps)
    pure (if h : vs.size = 1 then vs[0] else .tuple vs)) := by
  unfold results
  congr 1

include hE in
theorem resL_spec {B : Nat} {W : World} {β : Bt} {σ : St} {w : World} (hR : Rel E.P B W β σ w) {tm : TM} {a : Act} (ht : TMR β tm a) : ∀ (l : List ResultVar) (vs : List Value), resL E tm σ l = some vs →
    ∃ vs', (l.mapM (resOf a.tmps)).run E.P w = .ok vs' w ∧ VRL β vs vs'
  | [], vs, h => by
    obtain rfl : [] = vs := by simpa [resL] using h
    exact ⟨[], rfl, .nil β⟩
  | x :: l, vs, h => by
    change ob (resOne E tm σ x) (fun v => ob (resL E tm σ l) fun q => some (v :: q)) = some vs at h
    obtain ⟨v, hv, h2⟩ := ob_eq_some.1 h
    obtain ⟨q, hq, h3⟩ := ob_eq_some.1 h2
    obtain rfl : v :: q = vs := by simpa using h3
    obtain ⟨vs', h4, h5⟩ := resL_spec hR ht l q hq
    have hone : ∃ v', (resOf a.tmps x).run E.P w = .ok v' w ∧ VR β v v' := by
      cases x with
      | tmp t =>
        obtain rfl : orUndef (tm.get t) = v := by simpa [resOne] using hv
        exact ⟨_, rfl, ht t⟩
      | cell c t =>
        change ob (pointerOf? (orUndef (tm.get c))) (loadV E σ t) = some v at hv
        obtain ⟨ad, h6, h7⟩ := ob_eq_some.1 hv
        have hp := ht c
        cases hx : orUndef (tm.get c) with
        | pointer p =>
          cases p with
          | none => rw [hx] at h6; cases h6
          | some p =>
            rw [hx] at h6 hp
            obtain rfl : p = ad := by simpa [pointerOf?] using h6
            obtain ⟨l1, hl1, he⟩ := VR.ptr_inv hp
            obtain ⟨v', h8, h9⟩ := loadVS hE.env hR hl1 h7
            refine ⟨v', ?_, h9⟩
            show (do loadVar t (← asAddr (a.tmps.getD c undef)) : Sem Value).run E.P w = _
            rw [he]
            exact h8
        | _ => rw [hx] at h6; cases h6
    obtain ⟨v', h8, h9⟩ := hone
    refine ⟨v' :: vs', ?_, .cons h9 h5⟩
    rw [List.mapM_cons]
    simp [Sem.run_bind, h8, h4]

theorem setArgs_eq : ∀ (l : List Value) (i : Nat) (tm : TM), setArgs l i tm = T.ofListFrom l i tm
  | [], _, _ => rfl
  | v :: l, i, tm => by
    show setArgs l (i + 1) (tm.set i v) = T.ofListFrom l (i + 1) (tm.set i v)
    exact setArgs_eq l _ _

theorem TMR.args {β : Bt} {args args' : List Value} (h : VRL β args args') (k : Nat) : TMR β (setArgs args 0 .e) { tmps := ⟨args'⟩ ++ Array.replicate k undef, defers := [] } := by
  intro t
  rw [setArgs_eq]
  show VR β (orUndef ((T.ofList args).get t)) _
  rw [T.get_ofList]
  simp only [Array.getD_eq_getD_getElem?]
  by_cases ht : t < args.length
  · have ht' : t < args'.length := by rw [← h.1]; exact ht
    rw [Array.getElem?_append_left (by simpa using ht'), List.getElem?_eq_getElem ht]
    simp only [List.getElem?_toArray, List.getElem?_eq_getElem ht', Option.getD_some]
    exact h.2 t _ _ (List.getElem?_eq_getElem ht) (List.getElem?_eq_getElem ht')
  · rw [List.getElem?_eq_none (by omega), Array.getElem?_append_right (by have := h.1; simp; omega), Array.getElem?_replicate]
    split
    · exact VR.undef
    · exact VR.undef

theorem VRL.tup {β : Bt} {l l' : List Value} (h : VRL β l l') : VR β (tupV l) (if h : (⟨l'⟩ : Array Value).size = 1 then (⟨l'⟩ : Array Value)[0] else .tuple ⟨l'⟩) := by
  match l, h with
  | [], h => obtain rfl := h.nil_inv; exact .pf _ rfl
  | [v], h =>
    obtain ⟨v', q, rfl, h1, h2⟩ := h.cons_inv
    obtain rfl := h2.nil_inv
    exact h1
  | v :: u :: r, h =>
    rw [dif_neg (by have := h.1; simp at this ⊢; omega)]
    exact .tuple _ _ h.1 h.2

include hE in
theorem call_step {fuel : Nat} {call : CallF} (hcall : CallsS E call) : CallsS E (callStep E fuel call) := by
  intro f args σ v σ' h B W β w args' hR hpos hargs
  obtain ⟨fn, hfn, h2⟩ := ob_eq_some.1 h
  obtain ⟨c, hc, h3⟩ := ob_eq_some.1 h2
  obtain ⟨out, hout, h4⟩ := ob_eq_some.1 h3
  rw [hE.env.funcs] at hfn
  unfold finish at h4
  rw [bc_none_eq_some] at h4
  obtain ⟨hx, h5⟩ := h4
  obtain ⟨vs, hvs, h6⟩ := ob_eq_some.1 h5
  have h6' : leave σ out.σ (tupV vs) = (v, σ') := by simpa using h6
  have hok := hE.code f fn hfn
  unfold funcOk at hok
  rw [hc] at hok
  change codeOk fn.ntmps E.P.globals.size c = true at hok
  refine calls_of_wp hfn hc ((code_wp hE hcall fuel).1 c _ _ out hout fn.ntmps hok B W β _ w (hR.low σ.next) hpos (TMR.args hargs _) (by simp; omega) _ fun a' w' hP => ?_)
  obtain ⟨s, d, z, β', e, r, t⟩ := hP
  obtain ⟨vs', h7, h8⟩ := resL_spec hE r t _ _ hvs
  have hres : (results fn a'.tmps).run E.P w' = .ok (if h : (⟨vs'⟩ : Array Value).size = 1 then (⟨vs'⟩ : Array Value)[0] else .tuple ⟨vs'⟩) w' := by
    rw [results_def, Array.mapM_eq_mapM_toList]
    simp [Sem.run_bind, h7]
  have hEff : EffS E.P B W β σ σ' w' v (if h : (⟨vs'⟩ : Array Value).size = 1 then (⟨vs'⟩ : Array Value)[0] else .tuple ⟨vs'⟩) := by
    have hv := h8.tup
    unfold leave at h6'
    rw [bc_eq] at h6'
    split at h6'
    · rename_i hpf
      rw [bc3, ble_iff] at hpf
      obtain ⟨rfl, rfl⟩ : tupV vs = v ∧ σ = σ' := by simpa using h6'
      refine ⟨Step.refl _, β, Ext.refl _ _, hR.back r e.1 fun id hid => ?_, ?_⟩
      · exact s.same id (by omega) hid
      · rw [hv.of_pf hpf.1]; exact .pf _ hpf.1
    · obtain ⟨rfl, rfl⟩ : tupV vs = v ∧ (⟨out.σ.heap, out.σ.next, mn σ.low out.σ.low⟩ : St) = σ' := by simpa using h6'
      refine ⟨⟨s.next, ?_, fun id hid hn => ?_⟩, β', e, r.low _, hv⟩
      · show mn σ.low out.σ.low ≤ σ.low
        rw [mn_eq]; omega
      · have hid' : id < mn σ.low out.σ.low := hid
        rw [mn_eq] at hid'
        exact s.same id (by omega) hn
  cases hxx : out.x with
  | normal => exact ⟨d, _, hres, _, rfl, hEff⟩
  | ret => exact ⟨d, _, hres, _, rfl, hEff⟩
  | exit id => rw [hxx] at hx; cases hx

include hE in
theorem evCall_sound (fuel : Nat) : ∀ n, CallsS E (evCall E fuel n)
  | 0 => fun _ _ _ _ _ h => by cases h
  | n + 1 => call_step hE (evCall_sound fuel n)

end
end Go.Ev
namespace Go.Ev
open Go.RowKit

section mono
variable (E : Env)

def OLe {α : Type} (x y : Option α) : Prop := ∀ r, x = some r → y = some r
theorem OLe.refl {α : Type} (x : Option α) : OLe x x := fun _ h => h
theorem OLe.trans {α : Type} {x y z : Option α} (h : OLe x y) (h' : OLe y z) : OLe x z := fun r e => h' r (h r e)
theorem OLe.none {α : Type} (y : Option α) : OLe none y := fun _ h => by cases h
theorem OLe.ob {α β : Type} {x x' : Option α} {f f' : α → Option β} (h : OLe x x') (h' : ∀ z, OLe (f z) (f' z)) : OLe (ob x f) (ob x' f') := by
  intro r e
  obtain ⟨z, h1, h2⟩ := ob_eq_some.1 e
  exact ob_eq_some.2 ⟨z, h z h1, h' z r h2⟩
theorem OLe.bc {α : Type} {c : Bool} {x x' y y' : Option α} (h : OLe x x') (h' : OLe y y') : OLe (bc c x y) (bc c x' y') := by
  cases c
  · exact h'
  · exact h
theorem OLe.guardO {α : Type} {c : Bool} {x x' : Option α} (h : OLe x x') : OLe (guardO c x) (guardO c x') := by
  cases c
  · exact fun _ h => h
  · exact h

def CLe (c c' : CallF) : Prop := ∀ f args σ, OLe (c f args σ) (c' f args σ)

variable {c c' : CallF} (h : CLe c c')
include h

theorem afterR_mono (σ : St) (r : OpR) : OLe (afterR c σ r) (afterR c' σ r) := by
  cases r with
  | call f args => exact h f args σ
  | _ => exact OLe.refl _

theorem evOps_mono (ops : List Oper) : ∀ (l : List Oper) (tm : TM) (σ : St), OLe (evOps E c ops l tm σ) (evOps E c' ops l tm σ)
  | [], _, _ => OLe.refl _
  | o :: l, tm, σ => OLe.bc (OLe.ob (OLe.refl _) fun r => OLe.ob (OLe.ob (afterR_mono h σ r) fun _ => OLe.refl _) fun p => evOps_mono ops l p.1 p.2) (evOps_mono ops l _ σ)

theorem doneD_mono (x : It) (s : Dr) (r : OpR) : OLe (doneD c x s r) (doneD c' x s r) :=
  OLe.bc (OLe.ob (afterR_mono h s.σ r) fun _ => OLe.refl _) (OLe.refl _)

theorem stepD_mono (ops : List Oper) (x : It) (s : Dr) : OLe (stepD E c ops x s) (stepD E c' ops x s) :=
  OLe.bc (OLe.ob (OLe.refl _) fun r => doneD_mono h x s r) (OLe.refl _)

theorem evDraw_mono (ops : List Oper) : ∀ (n : Nat) (l : List It) (s : Dr), OLe (evDraw E c ops n l s) (evDraw E c' ops n l s)
  | 0, _, _ => OLe.refl _
  | n + 1, l, s => OLe.ob (OLe.refl _) fun p => OLe.ob (stepD_mono E h ops p.1 s) fun s' => evDraw_mono ops n p.2 s'

theorem evRegion_mono (ops : List Oper) (draw : Bool) (tm : TM) (σ : St) : OLe (evRegion E c ops draw tm σ) (evRegion E c' ops draw tm σ) :=
  OLe.bc (OLe.ob (OLe.refl _) fun l => OLe.ob (evDraw_mono E h ops _ l _) fun _ => OLe.refl _) (evOps_mono E h ops ops tm σ)

omit h in
theorem normalThen_mono {r : Out} {f f' : TM → St → Option Out} (hf : ∀ tm σ, OLe (f tm σ) (f' tm σ)) : OLe (normalThen r f) (normalThen r f') := by
  unfold normalThen
  cases r.x with
  | normal => exact hf _ _
  | _ => exact OLe.refl _

theorem codeStep_mono {go go' : CodeF} (hg : ∀ d tm σ, OLe (go d tm σ) (go' d tm σ)) (d : Code) (tm : TM) (σ : St) : OLe (codeStep E c go d tm σ) (codeStep E c' go' d tm σ) := by
  cases d with
  | region n ops draw => exact OLe.ob (evRegion_mono E h ops.toList draw tm σ) fun _ => OLe.refl _
  | seq a b => exact OLe.ob (hg a tm σ) fun r => normalThen_mono fun tm σ => hg b tm σ
  | cond x a b => exact OLe.ob (OLe.refl _) fun t => OLe.bc (hg a tm σ) (hg b tm σ)
  | block id b => exact OLe.ob (hg b tm σ) fun r => OLe.refl _
  | loop b => exact OLe.ob (hg b tm σ) fun r => normalThen_mono fun tm σ => hg _ tm σ
  | _ => exact OLe.refl _

theorem evCode_mono : ∀ (n m : Nat), n ≤ m → ∀ (d : Code) (tm : TM) (σ : St), OLe (evCode E c n d tm σ) (evCode E c' m d tm σ)
  | 0, _, _, _, _, _ => OLe.none _
  | n + 1, 0, hn, _, _, _ => absurd hn (by omega)
  | n + 1, m + 1, hn, d, tm, σ => codeStep_mono E h (fun d tm σ => evCode_mono n m (by omega) d tm σ) d tm σ

theorem callStep_mono (n m : Nat) (hn : n ≤ m) (f : FuncId) (args : List Value) (σ : St) : OLe (callStep E n c f args σ) (callStep E m c' f args σ) :=
  OLe.ob (OLe.refl _) fun _ => OLe.ob (OLe.refl _) fun d => OLe.ob (evCode_mono E h n m hn d _ _) fun _ => OLe.refl _
end mono

noncomputable section lim
variable (E : Env) (tab : CallF)

/-- The evaluator over a table of answers that it is given. -/
def evT (m : Nat) : Nat → CallF
  | 0 => tab
  | n + 1 => fun f args σ => orElse (tab f args σ) (callStep E m (evT m n) f args σ)

theorem orElse_mono {α : Type} {x y y' : Option α} (h : OLe y y') : OLe (orElse x y) (orElse x y') := by
  cases x
  · exact h
  · exact OLe.refl _

theorem evT_tab (m : Nat) : ∀ n, CLe tab (evT E tab m n)
  | 0 => fun _ _ _ => OLe.refl _
  | n + 1 => fun f args σ r h => by
    show orElse (tab f args σ) _ = some r
    rw [h]; rfl

theorem evT_mono {m m' : Nat} (hm : m ≤ m') : ∀ {n n' : Nat}, n ≤ n' → CLe (evT E tab m n) (evT E tab m' n')
  | 0, n', _ => evT_tab E tab m' n'
  | n + 1, 0, h => absurd h (by omega)
  | n + 1, n' + 1, h => fun f args σ => orElse_mono (callStep_mono E (evT_mono hm (by omega)) m m' hm f args σ)

open Classical in
/-- What a call comes to. -/
def run : CallF := fun f args σ => if h : ∃ r, ∃ n, evT E tab n n f args σ = some r then some (Classical.choose h) else none

theorem run_iff {f : FuncId} {args : List Value} {σ : St} {r : Value × St} : run E tab f args σ = some r ↔ ∃ n, evT E tab n n f args σ = some r := by
  unfold run
  constructor
  · intro h
    split at h
    · rename_i hr
      obtain rfl := Option.some.inj h
      exact Classical.choose_spec hr
    · cases h
  · rintro ⟨n, h⟩
    have hr : ∃ r, ∃ n, evT E tab n n f args σ = some r := ⟨r, n, h⟩
    rw [dif_pos hr]
    obtain ⟨n', h'⟩ := Classical.choose_spec hr
    have h1 := evT_mono E tab (Nat.le_max_left n n') (Nat.le_max_left n n') f args σ _ h
    have h2 := evT_mono E tab (Nat.le_max_right n n') (Nat.le_max_right n n') f args σ _ h'
    rw [h1] at h2
    exact h2.symm

theorem run_tab {f : FuncId} {args : List Value} {σ : St} {r : Value × St} (h : tab f args σ = some r) : run E tab f args σ = some r :=
  (run_iff E tab).2 ⟨0, h⟩

theorem evT_sound (hE : RunOK E) (htab : CallsS E tab) (m : Nat) : ∀ n, CallsS E (evT E tab m n)
  | 0 => htab
  | n + 1 => fun f args σ v σ' h => by
    change orElse (tab f args σ) _ = _ at h
    rcases orElse_eq_some.1 h with h | ⟨-, h⟩
    · exact htab f args σ v σ' h
    · exact call_step hE (evT_sound hE htab m n) f args σ v σ' h

theorem run_sound (hE : RunOK E) (htab : CallsS E tab) : CallsS E (run E tab) := fun f args σ v σ' h => by
  obtain ⟨n, h⟩ := (run_iff E tab).1 h
  exact evT_sound E tab hE htab n n f args σ v σ' h

/-- What hangs on calls hangs on finitely many of their rounds. -/
def Cts {α : Type} (X : CallF → Option α) : Prop := ∀ r, X (run E tab) = some r → ∃ m, ∀ n, m ≤ n → X (evT E tab n n) = some r

variable {E tab}
theorem Cts.const {α : Type} (x : Option α) : Cts E tab (fun _ => x) := fun _ h => ⟨0, fun _ _ => h⟩
theorem Cts.ob {α β : Type} {X : CallF → Option α} {Y : CallF → α → Option β} (h : Cts E tab X) (h' : ∀ z, Cts E tab (fun c => Y c z)) : Cts E tab (fun c => ob (X c) (Y c)) := by
  intro r e
  obtain ⟨z, h1, h2⟩ := ob_eq_some.1 e
  obtain ⟨m, hm⟩ := h z h1
  obtain ⟨m', hm'⟩ := h' z r h2
  exact ⟨max m m', fun n hn => ob_eq_some.2 ⟨z, hm n (by omega), hm' n (by omega)⟩⟩
theorem Cts.bc {α : Type} {c : Bool} {X Y : CallF → Option α} (h : Cts E tab X) (h' : Cts E tab Y) : Cts E tab (fun d => bc c (X d) (Y d)) := by
  cases c
  · exact h'
  · exact h
theorem Cts.call (f : FuncId) (args : List Value) (σ : St) : Cts E tab (fun c => c f args σ) := by
  intro r e
  obtain ⟨m, hm⟩ := (run_iff E tab).1 e
  exact ⟨m, fun n hn => evT_mono E tab hn hn f args σ r hm⟩

theorem afterR_cts (σ : St) (r : OpR) : Cts E tab (fun c => afterR c σ r) := by
  cases r with
  | call f args => exact Cts.call f args σ
  | _ => exact Cts.const _

theorem evOps_cts (ops : List Oper) : ∀ (l : List Oper) (tm : TM) (σ : St), Cts E tab (fun c => evOps E c ops l tm σ)
  | [], _, _ => Cts.const _
  | o :: l, tm, σ => Cts.bc (Cts.ob (Cts.const _) fun r => Cts.ob (Cts.ob (afterR_cts σ r) fun _ => Cts.const _) fun p => evOps_cts ops l p.1 p.2) (evOps_cts ops l _ σ)

theorem stepD_cts (ops : List Oper) (x : It) (s : Dr) : Cts E tab (fun c => stepD E c ops x s) :=
  Cts.bc (Cts.ob (Cts.const _) fun r => Cts.bc (Cts.ob (afterR_cts s.σ r) fun _ => Cts.const _) (Cts.const _)) (Cts.const _)

theorem evDraw_cts (ops : List Oper) : ∀ (n : Nat) (l : List It) (s : Dr), Cts E tab (fun c => evDraw E c ops n l s)
  | 0, _, _ => Cts.const _
  | n + 1, l, s => Cts.ob (Cts.const _) fun p => Cts.ob (stepD_cts ops p.1 s) fun s' => evDraw_cts ops n p.2 s'

theorem evRegion_cts (ops : List Oper) (draw : Bool) (tm : TM) (σ : St) : Cts E tab (fun c => evRegion E c ops draw tm σ) :=
  Cts.bc (Cts.ob (Cts.const _) fun l => Cts.ob (evDraw_cts ops _ l _) fun _ => Cts.const _) (evOps_cts ops ops tm σ)

theorem normalThen_cts {r : Out} {f : CallF → TM → St → Option Out} (h : ∀ tm σ, Cts E tab (fun c => f c tm σ)) : Cts E tab (fun c => normalThen r (f c)) := by
  unfold normalThen
  cases r.x with
  | normal => exact h _ _
  | _ => exact Cts.const _

theorem codeStep_cts {go : CallF → CodeF} (hg : ∀ d tm σ, Cts E tab (fun c => go c d tm σ)) (d : Code) (tm : TM) (σ : St) : Cts E tab (fun c => codeStep E c (go c) d tm σ) := by
  cases d with
  | region n ops draw => exact Cts.ob (evRegion_cts ops.toList draw tm σ) fun _ => Cts.const _
  | seq a b => exact Cts.ob (hg a tm σ) fun r => normalThen_cts fun tm σ => hg b tm σ
  | cond x a b => exact Cts.ob (Cts.const _) fun t => Cts.bc (hg a tm σ) (hg b tm σ)
  | block id b => exact Cts.ob (hg b tm σ) fun r => Cts.const _
  | loop b => exact Cts.ob (hg b tm σ) fun r => normalThen_cts fun tm σ => hg _ tm σ
  | _ => exact Cts.const _

theorem evCode_cts : ∀ (n : Nat) (d : Code) (tm : TM) (σ : St), Cts E tab (fun c => evCode E c n d tm σ)
  | 0, _, _, _ => Cts.const _
  | n + 1, d, tm, σ => codeStep_cts (fun d tm σ => evCode_cts n d tm σ) d tm σ

theorem callStep_cts (n : Nat) (f : FuncId) (args : List Value) (σ : St) : Cts E tab (fun c => callStep E n c f args σ) :=
  Cts.ob (Cts.const _) fun _ => Cts.ob (Cts.const _) fun d => Cts.ob (evCode_cts n d _ _) fun _ => Cts.const _

theorem run_step {n : Nat} {f : FuncId} {args : List Value} {σ : St} {r : Value × St} (ht : tab f args σ = none) (h : callStep E n (run E tab) f args σ = some r) : run E tab f args σ = some r := by
  obtain ⟨m, hm⟩ := callStep_cts n f args σ r h
  refine (run_iff E tab).2 ⟨max m n + 1, ?_⟩
  show orElse (tab f args σ) (callStep E (max m n + 1) (evT E tab (max m n + 1) (max m n)) f args σ) = some r
  rw [ht]
  show callStep E (max m n + 1) (evT E tab (max m n + 1) (max m n)) f args σ = some r
  refine callStep_mono E (evT_mono E tab (m := max m n) (n := max m n) (Nat.le_succ _) (Nat.le_refl _)) n _ (by omega) f args σ r ?_
  exact hm (max m n) (Nat.le_max_left m n)

/-- What a text comes to, without a bound. -/
def CodeTo (E : Env) (tab : CallF) (d : Code) (tm : TM) (σ : St) (o : Out) : Prop := ∃ n, evCode E (run E tab) n d tm σ = some o

end lim
end Go.Ev
namespace Go.Ev
open Go.RowKit

noncomputable section defs
variable {R : Type}

/-- A state: the given one, or another. -/
inductive SS where
  | base
  | ext (σ : St)
def den (S0 : St) (s : SS) : St := @SS.rec (fun _ => St) S0 (fun σ => σ) s
structure OutK where
  x : Ex
  tm : TM
  s : SS
def denO (S0 : St) (o : OutK) : Out := ⟨o.x, o.tm, den S0 o.s⟩

/-- A state behind something: as it was, or another. -/
def aft (s : SS) (x : Option SS) : SS := @Option.rec SS (fun _ => SS) s (fun t => t) x

abbrev CallK (R : Type) := FuncId → List Value → SS → (Value → Option SS → Option R) → Option R
abbrev CodeK (R : Type) := Code → TM → SS → (OutK → Option R) → Option R

/-- Which types are structs of how many plain numbers; a cover ahead of numbers that are costly to look into. -/
structure Cfg where
  pl : TypeId → Nat
  q : Bool
def sealI (q : Bool) (n : Int) : Int := bc q n n
def i64Of? : Value → Option Int
  | .int .i64 n => some n
  | _ => none
def anyInt? : Value → Option Int
  | .int _ n => some n
  | _ => none
def intsOf (l : List Value) : Option (List Int) :=
  @List.rec Value (fun _ => Option (List Int)) (some []) (fun v _ go => ob (i64Of? v) fun n => ob go fun l => some (n :: l)) l

def eqIs (a : List Int) : List Int → Bool :=
  @List.rec Int (fun _ => List Int → Bool) (fun _ => true) (fun x _ go b => @List.rec Int (fun _ => Bool) true (fun y s _ => bc (eqB x y) (go s) false) b) a

def mnI (x y : Int) : Int := bc (ltB y x) y x
def mxI (x y : Int) : Int := bc (ltB x y) y x
def shlI (k : IntKind) (a c : Int) : Int := k.wrap (a * 2 ^ (min c.toNat k.bits))
def shrI (k : IntKind) (a c : Int) : Int := a.fdiv (2 ^ (min c.toNat k.bits))

def andI (k : IntKind) (a c : Int) : Int := k.wrap (BitVec.ofInt k.bits a &&& BitVec.ofInt k.bits c).toNat
def orI (k : IntKind) (a c : Int) : Int := k.wrap (BitVec.ofInt k.bits a ||| BitVec.ofInt k.bits c).toNat
def xorI (k : IntKind) (a c : Int) : Int := k.wrap (BitVec.ofInt k.bits a ^^^ BitVec.ofInt k.bits c).toNat

def foldI (f : Int → Int → Int) (k : IntKind) (kv : Value → Option R) (l : List Value) : Int → Option R :=
  @List.rec Value (fun _ => Int → Option R) (fun x => kv (.int k x)) (fun v _ go x => ob (anyInt? v) fun y => go (f x y)) l

def mnmxK (f : Int → Int → Int) (kv : Value → Option R) (other : Option R) (l : List Value) : Option R :=
  match l with
  | .int k x :: r => foldI f k kv r x
  | _ => other

def intK (q : Bool) (b : BinOp) (j : IntKind) (a : Int) (k : IntKind) (c : Int) (kv : Value → Option R) (other : Option R) : Option R :=
  match b with
  | .quo => guardO (eqK j k) (bc (eqB c 0) none (kv (.int j (sealI q (wrapF j (Int.tdiv a c))))))
  | .rem => guardO (eqK j k) (bc (eqB c 0) none (kv (.int j (sealI q (Int.tmod a c)))))
  | .shl => bc (ltB c 0) none (kv (.int j (sealI q (shlI j a c))))
  | .shr => bc (ltB c 0) none (kv (.int j (sealI q (shrI j a c))))
  | .and => guardO (eqK j k) (kv (.int j (sealI q (andI j a c))))
  | .or => guardO (eqK j k) (kv (.int j (sealI q (orI j a c))))
  | .xor => guardO (eqK j k) (kv (.int j (sealI q (xorI j a c))))
  | _ => other

variable (plain : Cfg)

def aggK (neg : Bool) (t : TypeId) (xs ys : List Value) (kv : Value → Option R) (other : Option R) : Option R :=
  bc (Nat.beq (plain.pl t) 0) other (ob (intsOf xs) fun l => ob (intsOf ys) fun m => guardO (Nat.beq l.length (plain.pl t)) (guardO (Nat.beq m.length (plain.pl t)) (kv (.bool (bc neg (!eqIs l m) (eqIs l m))))))

def binK (b : BinOp) (t : TypeId) (x y : Value) (kv : Value → Option R) (other : Option R) : Option R :=
  match x, y with
  | .int j a, .int k c => intK plain.q b j a k c kv other
  | .agg xs, .agg ys => (match b with
    | .eql => aggK plain false t xs.toList ys.toList kv other
    | .neq => aggK plain true t xs.toList ys.toList kv other
    | _ => other)
  | _, _ => other

def pickK (c a b : Value) (kv : Value → Option R) (other : Option R) : Option R :=
  match c with
  | .bool t => bc t (kv a) (kv b)
  | _ => other

def valK (r : OpR) (kv : Value → Option R) : Option R :=
  match r with
  | .val v => kv v
  | _ => none
/-- An index into an array of known length, by cases. -/
def idxK (E : Env) (σ : St) (tm : TM) (o : Oper) (t : Tmp) (k : IntKind) (z : Int) (kv : Value → Option R) (n : Nat) : Option R :=
  @Nat.rec (fun _ => Option R) none (fun m go => bc (eqB z (.ofNat m)) (ob (evOp E (tm.set t (.int k (.ofNat m))) σ o) fun r => valK r kv) go) n
def idxD (E : Env) (σ : St) (tm : TM) (o : Oper) (t : Tmp) (kv : Value → Option R) (other : Option R) (v : Value) (d : TypeDesc) : Option R :=
  match v, d with
  | .int k z, .array n _ => bc (Nat.ble n 64) (idxK E σ tm o t k z kv n) other
  | _, _ => other
def idxT (E : Env) (σ : St) (tm : TM) (o : Oper) (ty : TypeId) (ix : Operand) (kv : Value → Option R) (other : Option R) : Option R :=
  match ix with
  | .tmp t => @Option.rec TypeDesc (fun _ => Option R) other (idxD E σ tm o t kv other (orUndef (tm.get t))) (und E ty)
  | _ => other

def fastK (E : Env) (σ : St) (tm : TM) (o : Oper) (kv : Value → Option R) (other : Option R) : Option R :=
  match o.op with
  | .index ty _ ix => idxT E σ tm o ty ix kv other
  | .indexAddr ty _ ix => idxT E σ tm o ty ix kv other
  | .pick c a b => pickK (evX tm c) (evX tm a) (evX tm b) kv other
  | .binOp b t x y _ => binK plain b t (evX tm x) (evX tm y) kv other
  | .call c => (match c.callee with
    | .builtin .min => mnmxK mnI kv other (evL tm c.args.toList)
    | .builtin .max => mnmxK mxI kv other (evL tm c.args.toList)
    | _ => other)
  | _ => other

variable (E : Env) (S0 : St) (callK : CallK R) (loopK : CodeK R)

def afterK (s : SS) (r : OpR) (k : Value → Option SS → Option R) : Option R :=
  match r with
  | .val v => k v none
  | .ld v => k v none
  | .new _ v o => k (v (den S0 s).next) (some (.ext ((den S0 s).add o)))
  | .eff v σ' => k v (some (.ext σ'))
  | .call f args => callK f args s k

/-- A truth value that is not decided is decided at once. -/
def splitB (v : Value) (k : Value → Option R) : Option R :=
  match v with
  | .bool c => bc c (k (.bool true)) (k (.bool false))
  | v => k v

def opsK (ops : List Oper) (l : List Oper) : TM → SS → (TM → SS → Option R) → Option R :=
  @List.rec Oper (fun _ => TM → SS → (TM → SS → Option R) → Option R) (fun tm s k => k tm s)
    (fun o _ go tm s k => bc (wantedB ops tm o)
      (fastK plain E (den S0 s) tm o (fun v => splitB v fun v => go (setT tm o.dst v) s k) (ob (evOp E tm (den S0 s) o) fun r => afterK S0 callK s r fun v s' => splitB v fun v => go (setT tm o.dst v) (aft s s') k))
      (go (setT tm o.dst undefV) s k)) l

def selfS : Value → Bool
  | .bool _ | .int _ _ | .string _ | .pointer _ | .slice _ _ _ | .map _ | .nilFunc | .nilIface => true
  | _ => false
def selfOk : Value → Bool
  | .agg cs => allB selfS cs.toList
  | .tuple cs => allB selfS cs.toList
  | v => selfS v
def selfO : LO → Bool
  | .cells _ cs _ _ _ => allB selfS cs
  | .map [] _ => true
  | _ => false

/-- The object that a load looks at. -/
def ldBlk (tm : TM) : Op → Option Nat
  | .load _ a => ob (pointerOf? (evX tm a)) fun a => some a.block
  | _ => none

structure EfK where
  i : Nat
  m : Nat
  s : SS
  t : SS
  ver : Nat
structure LoK where
  i : Nat
  m : Nat
  o : Oper
  tm : TM
  v : Value
  ver : Nat
  blk : Nat
  ok : Bool
structure NeK where
  i : Nat
  m : Nat
  id : Nat
  x : LO
  ver : Nat
  ok : Bool
structure DrK where
  done : Nat
  effs : List EfK
  loads : List LoK
  news : List NeK
  tm : TM
  s : SS
  ver : Nat
def denE (e : EfK) : Ef := ⟨e.i, e.m, den S0 e.s, den S0 e.t⟩
def denL (x : LoK) : Lo := ⟨x.i, x.m, x.o, x.tm, x.v⟩
def denN (x : NeK) : Ne := ⟨x.i, x.m, x.id, x.x⟩
def denD (d : DrK) : Dr := ⟨d.done, ⟨d.effs.map (denE S0), d.loads.map denL, d.news.map denN⟩, d.tm, den S0 d.s⟩

def valD (x : It) (d : DrK) (v : Value) : DrK := ⟨Nat.lor d.done (bit x.i), d.effs, d.loads, d.news, setT d.tm x.o.dst v, d.s, d.ver⟩
def efD (x : It) (d : DrK) (v : Value) (s' : Option SS) : DrK :=
  ⟨Nat.lor d.done (bit x.i), ⟨x.i, x.m, d.s, aft d.s s', d.ver⟩ :: d.effs, d.loads, d.news, setT d.tm x.o.dst v, aft d.s s', @Option.rec SS (fun _ => Nat) d.ver (fun _ => Nat.succ d.ver) s'⟩
def newD (x : It) (d : DrK) (v : Value) (o : LO) : DrK :=
  ⟨Nat.lor d.done (bit x.i), d.effs, d.loads, ⟨x.i, x.m, (den S0 d.s).next, o, d.ver, selfO o⟩ :: d.news, setT d.tm x.o.dst v, .ext ((den S0 d.s).add o), d.ver⟩
def ldOk (b : Option Nat) (v : Value) (next : Nat) : Bool := @Option.rec Nat (fun _ => Bool) false (fun b => bc (selfOk v) (Nat.ble (Nat.succ b) next) false) b
def blkD (b : Option Nat) : Nat := @Option.rec Nat (fun _ => Nat) 0 (fun b => b) b
def ldD (x : It) (d : DrK) (v : Value) : DrK :=
  ⟨Nat.lor d.done (bit x.i), d.effs, ⟨x.i, x.m, x.o, d.tm, v, d.ver, blkD (ldBlk d.tm x.o.op), ldOk (ldBlk d.tm x.o.op) v (den S0 d.s).next⟩ :: d.loads, d.news, setT d.tm x.o.dst v, d.s, d.ver⟩

def pureK (x : It) (d : DrK) (r : OpR) (k : DrK → Option R) : Option R :=
  match r with
  | .val v => splitB v fun v => k (valD x d v)
  | .ld v => splitB v fun v => k (valD x d v)
  | .new _ v o => k (newD S0 x d (v (den S0 d.s).next) o)
  | _ => none
def loadK (x : It) (d : DrK) (r : OpR) (k : DrK → Option R) : Option R :=
  match r with
  | .val v => splitB v fun v => k (ldD S0 x d v)
  | .ld v => splitB v fun v => k (ldD S0 x d v)
  | _ => none

def doneK (x : It) (d : DrK) (r : OpR) (k : DrK → Option R) : Option R :=
  bc (isEff x.o.op) (afterK S0 callK d.s r fun v s' => splitB v fun v => k (efD x d v s')) (bc (pureOp x.o.op) (pureK S0 x d r k) (loadK S0 x d r k))

def stepK (ops : List Oper) (x : It) (d : DrK) (k : DrK → Option R) : Option R :=
  bc (wantedB ops d.tm x.o)
    (fastK plain E (den S0 d.s) d.tm x.o (fun v => splitB v fun v => k (valD x d v)) (ob (evOp E d.tm (den S0 d.s) x.o) fun r => doneK S0 callK x d r k))
    (k (valD x d undefV))

def drawK (ops : List Oper) (n : Nat) : List It → DrK → (DrK → Option R) → Option R :=
  @Nat.rec (fun _ => List It → DrK → (DrK → Option R) → Option R) (fun l d k => bc l.isEmpty (k d) none)
    (fun _ go l d k => ob (takeNext d.done l) fun p => stepK plain E S0 callK ops p.1 d fun d' => go p.2 d' k) n

def chkL (x : LoK) (s : SS) (ver : Nat) : Bool :=
  bc (bc x.ok (bc (Nat.beq ver x.ver) (Nat.ble (Nat.succ x.blk) (den S0 s).next) false) false) true (ldSame E (denL x) (den S0 s))
def chkN (x : NeK) (s : SS) (ver : Nat) : Bool :=
  bc (bc x.ok (bc (Nat.beq ver x.ver) (Nat.ble (Nat.succ x.id) (den S0 s).next) false) false) true (newSame (denN x) (den S0 s))

def stagesK (m i : Nat) (chk : SS → Nat → Bool) (l : List EfK) : SS → Nat → Option Nat → Bool :=
  @List.rec EfK (fun _ => SS → Nat → Option Nat → Bool) (fun s ver later => bc (laterB m later) true (chk s ver))
    (fun f _ go s ver later => bc (bc (bc (hasB f.m i) true (laterB m later)) true (chk s ver)) (go f.s f.ver (some f.i)) false) l

def trK (s0 : SS) (d : DrK) : Bool :=
  bc (chain (d.effs.map (denE S0)) none)
    (bc (allB (fun x => stagesK x.m x.i (chkL E S0 x) d.effs d.s d.ver none) d.loads)
      (bc (fallB (d.news.map denN) (den S0 d.s).next)
        (allB (fun x => bc (Nat.ble (den S0 s0).next x.id) (bc (allB (apartB (denN x)) (d.effs.map (denE S0))) (stagesK x.m x.i (chkN S0 x) d.effs d.s d.ver none) false) false) d.news) false) false) false

def regionK (ops : List Oper) (draw : Bool) (tm : TM) (s : SS) (k : TM → SS → Option R) : Option R :=
  bc draw
    (ob (masks ops 0 .e) fun l => drawK plain E S0 callK ops ops.length l ⟨0, [], [], [], tm, s, 0⟩ fun d => guardO (trK E S0 s d) (k d.tm d.s))
    (opsK plain E S0 callK ops ops tm s k)

def thenK (r : OutK) (k : OutK → Option R) (f : TM → SS → Option R) : Option R :=
  match r.x with
  | .normal => f r.tm r.s
  | _ => k r

def outK (id : Nat) (r : OutK) : OutK :=
  match r.x with
  | .exit k => bc (Nat.beq k id) ⟨.normal, r.tm, r.s⟩ r
  | _ => r

def codeStepK (go : CodeK R) (c : Code) (tm : TM) (s : SS) (k : OutK → Option R) : Option R :=
  match c with
  | .skip => k ⟨.normal, tm, s⟩
  | .region _ ops draw => regionK plain E S0 callK ops.toList draw tm s fun tm s => k ⟨.normal, tm, s⟩
  | .seq a b => go a tm s fun r => thenK r k fun tm s => go b tm s k
  | .cond x a b => ob (boolOf? (evX tm x)) fun t => bc t (go a tm s k) (go b tm s k)
  | .block id b => go b tm s fun r => k (outK id r)
  | .loop b => orElse (loopK (.loop b) tm s k) (go b tm s fun r => thenK r k fun tm s => go (.loop b) tm s k)
  | .exit id => k ⟨.exit id, tm, s⟩
  | .ret => k ⟨.ret, tm, s⟩
  | _ => none

def codeK (n : Nat) : CodeK R := @Nat.rec (fun _ => CodeK R) (fun _ _ _ _ => none) (fun _ go => codeStepK plain E S0 callK loopK go) n

/-- A function's text, from a state at its beginning. -/
def fnK (fuel : Nat) (f : FuncId) (args : List Value) (s : SS) (k : Value → SS → Option R) : Option R :=
  ob (E.funcs.get f) fun fn => ob fn.body fun c => codeK plain E S0 callK loopK fuel c (setArgs args 0 .e) s fun o =>
    bc (isExit o.x) none (ob (resL E o.tm (den S0 o.s) fn.results.toList) fun l => k (tupV l) o.s)

/-- The state at the beginning of a call. -/
def enterK (s : SS) : SS := @SS.rec (fun _ => SS) .base (fun σ => .ext ⟨σ.heap, σ.next, σ.next⟩) s
/-- A call, walked into. -/
def inlK (fuel : Nat) (f : FuncId) (args : List Value) (s : SS) (k : Value → Option SS → Option R) : Option R :=
  fnK plain E S0 callK loopK fuel f args (enterK s) fun v s' =>
    bc (bc (pf v) (Nat.ble (den S0 s).next (den S0 s').low) false) (k v none) (k v (some (.ext ⟨(den S0 s').heap, (den S0 s').next, mn (den S0 s).low (den S0 s').low⟩)))
end defs

section sound
variable {R : Type} {E : Env} {S0 : St} {tab : CallF} {plain : Cfg} {callK : CallK R} {loopK : CodeK R}

def CallKS (E : Env) (S0 : St) (tab : CallF) (callK : CallK R) : Prop :=
  ∀ f args s k r, callK f args s k = some r → ∃ v s', run E tab f args (den S0 s) = some (v, den S0 (aft s s')) ∧ k v s' = some r
def LoopKS (E : Env) (S0 : St) (tab : CallF) (loopK : CodeK R) : Prop :=
  ∀ d tm s k r, loopK d tm s k = some r → ∃ o, CodeTo E tab d tm (den S0 s) (denO S0 o) ∧ k o = some r
/-- Types of structs of plain numbers. -/
def PlainS (E : Env) (plain : Cfg) : Prop :=
  ∀ t, plain.pl t ≠ 0 → ∀ (xs ys : List Value) (l m : List Int), intsOf xs = some l → intsOf ys = some m → l.length = plain.pl t → m.length = plain.pl t → ∀ (neg : Bool) (x y : Operand),
    runPure E.P (do pure (.value (← (do eqGuard (if neg then .neq else .eql) t x y (.agg ⟨xs⟩) (.agg ⟨ys⟩); binOp (if neg then .neq else .eql) t (.agg ⟨xs⟩) (.agg ⟨ys⟩))))) = some (.bool (bc neg (!eqIs l m) (eqIs l m)))

theorem intsOf_pf : ∀ {xs : List Value} {l : List Int}, intsOf xs = some l → allB pfS xs = true
  | [], _, _ => rfl
  | v :: r, l, h => by
    obtain ⟨n, hn, h2⟩ := ob_eq_some.1 (show ob (i64Of? v) (fun n => ob (intsOf r) fun l => some (n :: l)) = some l from h)
    obtain ⟨q, hq, -⟩ := ob_eq_some.1 h2
    unfold i64Of? at hn
    split at hn
    · rename_i n'
      show bc (pfS (Value.int .i64 n')) (allB pfS r) false = true
      rw [intsOf_pf hq]; rfl
    · cases hn

theorem pfL_iff {tm : TM} {l : List Operand} : pfL tm l = true ↔ ∀ x ∈ l, pf (evX tm x) = true := by
  unfold pfL; rw [allB_iff]

theorem slow_of {tm : TM} {o : Oper} {v : Value} (hp : ∀ x ∈ o.op.operands.toList, pf (evX tm x) = true) (h : runPure E.P (execOp (evX tm) o) = some v) (hv : pf v = true) : slowOp E tm o = some (.val v) := by
  unfold slowOp
  rw [pfL_iff.2 hp, h]
  simp [hv]

theorem evOp_bin {tm : TM} {σ : St} {o : Oper} {b : BinOp} {t : TypeId} {x y : Operand} {q : TypeId} {v : Value} (ho : o.op = .binOp b t x y q) (hf : fastInts b (evX tm x) (evX tm y) = none)
    (hp : pf (evX tm x) = true) (hp' : pf (evX tm y) = true) (h : runPure E.P (do pure (.value (← (do eqGuard b t x y (evX tm x) (evX tm y); binOp b t (evX tm x) (evX tm y))))) = some v) (hv : pf v = true) :
    evOp E tm σ o = some (.val v) := by
  unfold evOp
  rw [ho]
  show binV E tm o b t x y = _
  unfold binV
  rw [hf]
  show orElse none _ = _
  have hs : slowOp E tm o = some (.val v) := by
    refine slow_of ?_ ?_ hv
    · rw [ho]; intro z hz
      have : z = x ∨ z = y := by simpa [Op.operands] using hz
      rcases this with rfl | rfl
      · exact hp
      · exact hp'
    · unfold execOp; rw [ho]; exact h
  rw [hs]; rfl

theorem sealI_eq (q : Bool) (n : Int) : sealI q n = n := by cases q <;> rfl

theorem intK_sound {sq : Bool} {tm : TM} {σ : St} {o : Oper} {b : BinOp} {t : TypeId} {x y : Operand} {q : TypeId} {j k : IntKind} {a c : Int} {kv : Value → Option R} {other : Option R} {r : R}
    (ho : o.op = .binOp b t x y q) (hx : evX tm x = .int j a) (hy : evX tm y = .int k c) (h : intK sq b j a k c kv other = some r) :
    (∃ v, evOp E tm σ o = some (.val v) ∧ kv v = some r) ∨ other = some r := by
  have go : ∀ {v : Value}, fastInts b (.int j a) (.int k c) = none → runPure E.P (do pure (.value (← (do eqGuard b t x y (.int j a) (.int k c); binOp b t (.int j a) (.int k c))))) = some v → pf v = true → kv v = some r →
      (∃ v, evOp E tm σ o = some (.val v) ∧ kv v = some r) ∨ other = some r := by
    intro v h1 h2 h3 h4
    refine .inl ⟨v, evOp_bin ho ?_ ?_ ?_ ?_ h3, h4⟩
    · rw [hx, hy]; exact h1
    · rw [hx]; rfl
    · rw [hy]; rfl
    · rw [hx, hy]; exact h2
  cases b with
  | quo =>
    unfold intK at h
    simp only [sealI_eq] at h
    rw [guardO_eq_some, bc_none_eq_some] at h
    obtain ⟨h1, h2, h3⟩ := h
    obtain rfl := eqK_eq h1
    rw [eqB_eq, decide_eq_false_iff_not] at h2
    refine go ?_ ?_ rfl h3
    · cases j <;> rfl
    · rw [wrapF_eq]; simp [eqGuard, binOp, Op.intDiv, h2]; rfl
  | rem =>
    unfold intK at h
    simp only [sealI_eq] at h
    rw [guardO_eq_some, bc_none_eq_some] at h
    obtain ⟨h1, h2, h3⟩ := h
    obtain rfl := eqK_eq h1
    rw [eqB_eq, decide_eq_false_iff_not] at h2
    refine go ?_ ?_ rfl h3
    · cases j <;> rfl
    · simp [eqGuard, binOp, Op.intDiv, h2]; rfl
  | shl =>
    unfold intK at h
    simp only [sealI_eq] at h
    rw [bc_none_eq_some, ltB_eq, decide_eq_false_iff_not] at h
    refine go ?_ ?_ rfl h.2
    · cases j <;> cases k <;> rfl
    · simp [eqGuard, binOp, Op.shift, h.1]; rfl
  | shr =>
    unfold intK at h
    simp only [sealI_eq] at h
    rw [bc_none_eq_some, ltB_eq, decide_eq_false_iff_not] at h
    refine go ?_ ?_ rfl h.2
    · cases j <;> cases k <;> rfl
    · simp [eqGuard, binOp, Op.shift, h.1]; rfl
  | and =>
    unfold intK at h
    simp only [sealI_eq] at h
    rw [guardO_eq_some] at h
    obtain rfl := eqK_eq h.1
    refine go ?_ ?_ rfl h.2
    · cases j <;> rfl
    · simp [eqGuard, binOp, Op.intBits]; rfl
  | or =>
    unfold intK at h
    simp only [sealI_eq] at h
    rw [guardO_eq_some] at h
    obtain rfl := eqK_eq h.1
    refine go ?_ ?_ rfl h.2
    · cases j <;> rfl
    · simp [eqGuard, binOp, Op.intBits]; rfl
  | xor =>
    unfold intK at h
    simp only [sealI_eq] at h
    rw [guardO_eq_some] at h
    obtain rfl := eqK_eq h.1
    refine go ?_ ?_ rfl h.2
    · cases j <;> rfl
    · simp [eqGuard, binOp, Op.intBits]; rfl
  | _ => exact .inr h

theorem aggK_sound (hP : PlainS E plain) {neg : Bool} {tm : TM} {σ : St} {o : Oper} {t : TypeId} {x y : Operand} {q : TypeId} {xs ys : Array Value} {kv : Value → Option R} {other : Option R} {r : R}
    (ho : o.op = .binOp (if neg then .neq else .eql) t x y q) (hx : evX tm x = .agg xs) (hy : evX tm y = .agg ys) (h : aggK plain neg t xs.toList ys.toList kv other = some r) :
    (∃ v, evOp E tm σ o = some (.val v) ∧ kv v = some r) ∨ other = some r := by
  unfold aggK at h
  rw [bc_eq_some] at h
  rcases h with ⟨-, h⟩ | ⟨ht, h⟩
  · exact .inr h
  · rw [beq_false_iff] at ht
    obtain ⟨l, hl, h1⟩ := ob_eq_some.1 h
    obtain ⟨m, hm, h2⟩ := ob_eq_some.1 h1
    rw [guardO_eq_some, beq_iff, guardO_eq_some, beq_iff] at h2
    refine .inl ⟨_, evOp_bin ho ?_ ?_ ?_ ?_ rfl, h2.2.2⟩
    · rw [hx, hy]; rfl
    · rw [hx]; exact intsOf_pf hl
    · rw [hy]; exact intsOf_pf hm
    · rw [hx, hy]
      exact hP t ht xs.toList ys.toList l m hl hm h2.1 h2.2.1 neg x y

theorem binK_sound (hP : PlainS E plain) {tm : TM} {σ : St} {o : Oper} {b : BinOp} {t : TypeId} {x y : Operand} {q : TypeId} {kv : Value → Option R} {other : Option R} {r : R}
    (ho : o.op = .binOp b t x y q) (h : binK plain b t (evX tm x) (evX tm y) kv other = some r) :
    (∃ v, evOp E tm σ o = some (.val v) ∧ kv v = some r) ∨ other = some r := by
  unfold binK at h
  split at h
  · rename_i h1 h2
    exact intK_sound ho h1 h2 h
  · rename_i h1 h2
    split at h
    · exact aggK_sound (neg := false) hP ho h1 h2 h
    · exact aggK_sound (neg := true) hP ho h1 h2 h
    · exact .inr h
  · exact .inr h

theorem pickK_sound {tm : TM} {σ : St} {o : Oper} {c a b : Operand} {kv : Value → Option R} {other : Option R} {r : R}
    (ho : o.op = .pick c a b) (h : pickK (evX tm c) (evX tm a) (evX tm b) kv other = some r) :
    (∃ v, evOp E tm σ o = some (.val v) ∧ kv v = some r) ∨ other = some r := by
  unfold pickK at h
  split at h
  · rename_i t ht
    refine .inl ⟨bc t (evX tm a) (evX tm b), ?_, ?_⟩
    · unfold evOp; rw [ho]
      show pickV (evX tm c) (evX tm a) (evX tm b) = _
      unfold pickV; rw [ht]; rfl
    · cases t <;> exact h
  · exact .inr h

theorem runPure_fold (P : Program) (step : Value → Value → Sem Value) (f : Int → Int → Int) (hs : ∀ k k' x y, step (.int k x) (.int k' y) = pure (.int k (f x y))) :
    ∀ (l : List Value) (k : IntKind) (x : Int) (kv : Value → Option R) (r : R), foldI f k kv l x = some r → ∃ z, runPure P (do pure (.value (← l.foldlM step (.int k x)))) = some (.int k z) ∧ (∀ v ∈ l, pf v = true) ∧ kv (.int k z) = some r
  | [], k, x, kv, r, h => ⟨x, rfl, by simp, h⟩
  | v :: l, k, x, kv, r, h => by
    obtain ⟨y, hy, h'⟩ := ob_eq_some.1 (show ob (anyInt? v) (fun y => foldI f k kv l (f x y)) = some r from h)
    unfold anyInt? at hy
    split at hy
    · rename_i k' y'
      have hyy := Option.some.inj hy
      subst hyy
      obtain ⟨z, h1, h2, h3⟩ := runPure_fold P step f hs l k (f x y') kv r h'
      refine ⟨z, ?_, ?_, h3⟩
      · rw [List.foldlM_cons, hs]
        exact h1
      · intro v hv
        rcases List.mem_cons.1 hv with rfl | hv
        · rfl
        · exact h2 v hv
    · cases hy

theorem evL_eq' (tm : TM) : ∀ l, evL tm l = l.map (evX tm)
  | [] => rfl
  | x :: l => by show evX tm x :: evL tm l = _; rw [evL_eq']; rfl

theorem mnmx_sound {tm : TM} {σ : St} {o : Oper} {c : Call} {kv : Value → Option R} {other : Option R} {r : R} (f : Int → Int → Int) (mx : Bool)
    (hs : ∀ k k' x y, (bif mx then Builtin.max2 else Builtin.min2) (.int k x) (.int k' y) = pure (.int k (f x y)))
    (ho : o.op = .call c) (hc : c.callee = .builtin (bif mx then .max else .min)) (h : mnmxK f kv other (evL tm c.args.toList) = some r) :
    (∃ v, evOp E tm σ o = some (.val v) ∧ kv v = some r) ∨ other = some r := by
  unfold mnmxK at h
  split at h
  · rename_i k x l hl
    obtain ⟨z, h1, h2, h3⟩ := runPure_fold E.P _ f hs l k x kv r h
    refine .inl ⟨.int k z, ?_, h3⟩
    have hslow : slowOp E tm o = some (.val (.int k z)) := by
      have hm : (c.args.map (evX tm)).toList = .int k x :: l := by rw [Array.toList_map, ← evL_eq', hl]
      refine slow_of ?_ ?_ rfl
      · rw [ho]; intro y hy
        have hy' : y ∈ c.args.toList := by cases mx <;> simpa [Op.operands, Call.operands, hc] using hy
        have : evX tm y ∈ evL tm c.args.toList := by rw [evL_eq']; exact List.mem_map_of_mem hy'
        rw [hl] at this
        rcases List.mem_cons.1 this with e | e
        · rw [e]; rfl
        · exact h2 _ e
      · unfold execOp; rw [ho]
        show runPure E.P (do let d ← resolve (evX tm) c o.type; invoke d.target d.args) = _
        unfold resolve
        cases mx
        · rw [hc]
          show runPure E.P (do pure (.value (← Builtin.min_ c.argTypes o.type (c.args.map (evX tm))))) = _
          unfold Builtin.min_
          rw [hm]
          exact h1
        · rw [hc]
          show runPure E.P (do pure (.value (← Builtin.max_ c.argTypes o.type (c.args.map (evX tm))))) = _
          unfold Builtin.max_
          rw [hm]
          exact h1
    unfold evOp; rw [ho]
    show calleeV E tm σ o c = _
    unfold calleeV; rw [hc]
    cases mx
    · exact hslow
    · exact hslow
  · exact .inr h

theorem evX_set {tm : TM} {t : Tmp} {v : Value} (h : orUndef (tm.get t) = v) : evX (tm.set t v) = evX tm := by
  funext x
  cases x with
  | tmp u =>
    show orUndef ((tm.set t v).get u) = orUndef (tm.get u)
    rw [T.get_set]
    by_cases hu : u = t
    · subst hu; rw [if_pos rfl, h]; rfl
    · rw [if_neg hu]
  | _ => rfl

theorem slowOp_congr {tm tm' : TM} {o : Oper} (h : evX tm' = evX tm) : slowOp E tm' o = slowOp E tm o := by
  unfold slowOp pfL
  rw [h]

theorem idxK_sound {σ : St} {tm : TM} {o : Oper} {t : Tmp} {k : IntKind} {z : Int} {kv : Value → Option R} {r : R} (hz : orUndef (tm.get t) = .int k z) :
    ∀ (n : Nat), idxK E σ tm o t k z kv n = some r → ∃ v, (∃ tm', evX tm' = evX tm ∧ evOp E tm' σ o = some (.val v)) ∧ kv v = some r
  | 0, h => by cases h
  | n + 1, h => by
    change bc (eqB z (.ofNat n)) (ob (evOp E (tm.set t (.int k (.ofNat n))) σ o) fun r => valK r kv) (idxK E σ tm o t k z kv n) = some r at h
    rw [bc_eq_some] at h
    rcases h with ⟨he, h⟩ | ⟨-, h⟩
    · rw [eqB_eq, decide_eq_true_iff] at he
      obtain ⟨x, h1, h2⟩ := ob_eq_some.1 h
      cases x with
      | val v => exact ⟨v, ⟨_, evX_set (by rw [hz, he]), h1⟩, h2⟩
      | _ => cases h2
    · exact idxK_sound hz n h

theorem idxT_sound {σ : St} {tm : TM} {o : Oper} {ty : TypeId} {ix : Operand} {kv : Value → Option R} {other : Option R} {r : R} (h : idxT E σ tm o ty ix kv other = some r) :
    (∃ v, (∃ tm', evX tm' = evX tm ∧ evOp E tm' σ o = some (.val v)) ∧ kv v = some r) ∨ other = some r := by
  unfold idxT at h
  split at h
  · rename_i t
    cases hu : und E ty with
    | none => rw [hu] at h; exact .inr h
    | some d =>
      rw [hu] at h
      change idxD E σ tm o t kv other (orUndef (tm.get t)) d = some r at h
      unfold idxD at h
      split at h
      · rename_i hv
        rw [bc_eq_some] at h
        rcases h with ⟨-, h⟩ | ⟨-, h⟩
        · exact .inl (idxK_sound hv _ h)
        · exact .inr h
      · exact .inr h
  · exact .inr h

theorem fastK_sound (hP : PlainS E plain) {tm : TM} {σ : St} {o : Oper} {kv : Value → Option R} {other : Option R} {r : R}
    (h : fastK plain E σ tm o kv other = some r) : (∃ v, evOp E tm σ o = some (.val v) ∧ kv v = some r ∧ isEff o.op = false ∧ pureOp o.op = true) ∨ other = some r := by
  unfold fastK at h
  split at h
  · rename_i ty x ix ho
    rcases idxT_sound h with ⟨v, ⟨tm', h1, h2⟩, h3⟩ | h1
    · refine .inl ⟨v, ?_, h3, by rw [ho]; rfl, by rw [ho]; rfl⟩
      rw [← h2]
      unfold evOp
      rw [ho]
      show orElse (slowOp E tm o) (indexV E ty (evX tm x) (evX tm ix)) = orElse (slowOp E tm' o) (indexV E ty (evX tm' x) (evX tm' ix))
      rw [slowOp_congr h1, h1]
    · exact .inr h1
  · rename_i ty x ix ho
    rcases idxT_sound h with ⟨v, ⟨tm', h1, h2⟩, h3⟩ | h1
    · refine .inl ⟨v, ?_, h3, by rw [ho]; rfl, by rw [ho]; rfl⟩
      rw [← h2]
      unfold evOp
      rw [ho]
      show indexAddrV E ty (evX tm x) (evX tm ix) = indexAddrV E ty (evX tm' x) (evX tm' ix)
      rw [h1]
    · exact .inr h1
  · rename_i ho
    rcases pickK_sound (E := E) (σ := σ) ho h with ⟨v, h1, h2⟩ | h1
    · exact .inl ⟨v, h1, h2, by rw [ho]; rfl, by rw [ho]; rfl⟩
    · exact .inr h1
  · rename_i ho
    rcases binK_sound (σ := σ) hP ho h with ⟨v, h1, h2⟩ | h1
    · exact .inl ⟨v, h1, h2, by rw [ho]; rfl, by rw [ho]; rfl⟩
    · exact .inr h1
  · rename_i c ho
    split at h
    · rename_i hc
      rcases mnmx_sound (E := E) (σ := σ) mnI false (fun k k' x y => by simp [Builtin.min2, mnI, bc_eq, ltB_eq]) ho hc h with ⟨v, h1, h2⟩ | h1
      · exact .inl ⟨v, h1, h2, by rw [ho]; simp [isEff, hc], by rw [ho]; simp [pureOp, hc]⟩
      · exact .inr h1
    · rename_i hc
      rcases mnmx_sound (E := E) (σ := σ) mxI true (fun k k' x y => by simp [Builtin.max2, mxI, bc_eq, ltB_eq]) ho hc h with ⟨v, h1, h2⟩ | h1
      · exact .inl ⟨v, h1, h2, by rw [ho]; simp [isEff, hc], by rw [ho]; simp [pureOp, hc]⟩
      · exact .inr h1
    · exact .inr h
  · exact .inr h

theorem splitB_sound {v : Value} {k : Value → Option R} {r : R} (h : splitB v k = some r) : k v = some r := by
  unfold splitB at h
  split at h
  · rename_i c
    cases c <;> exact h
  · exact h

section steps
variable (hP : PlainS E plain) (hC : CallKS E S0 tab callK) (hL : LoopKS E S0 tab loopK)

include hC in
theorem afterK_sound {s : SS} {r : OpR} {k : Value → Option SS → Option R} {x : R} (h : afterK S0 callK s r k = some x) : ∃ v s', afterR (run E tab) (den S0 s) r = some (v, den S0 (aft s s')) ∧ k v s' = some x := by
  cases r with
  | val v => exact ⟨v, none, rfl, h⟩
  | ld v => exact ⟨v, none, rfl, h⟩
  | new sp v o => exact ⟨_, some _, rfl, h⟩
  | eff v σ' => exact ⟨v, some _, rfl, h⟩
  | call f args => exact hC f args s k x h

include hP hC in
theorem opsK_sound (ops : List Oper) : ∀ (l : List Oper) (tm : TM) (s : SS) (k : TM → SS → Option R) (x : R), opsK plain E S0 callK ops l tm s k = some x →
    ∃ tm' s', evOps E (run E tab) ops l tm (den S0 s) = some (tm', den S0 s') ∧ k tm' s' = some x
  | [], tm, s, k, x, h => ⟨tm, s, rfl, h⟩
  | o :: l, tm, s, k, x, h => by
    change bc (wantedB ops tm o) (fastK plain E (den S0 s) tm o (fun v => splitB v fun v => opsK plain E S0 callK ops l (setT tm o.dst v) s k) (ob (evOp E tm (den S0 s) o) fun r => afterK S0 callK s r fun v s' => splitB v fun v => opsK plain E S0 callK ops l (setT tm o.dst v) (aft s s') k)) (opsK plain E S0 callK ops l (setT tm o.dst undefV) s k) = some x at h
    show ∃ tm' s', bc (wantedB ops tm o) (ob (evOp E tm (den S0 s) o) fun r => ob (doneR (run E tab) o.dst tm (den S0 s) r) fun p => evOps E (run E tab) ops l p.1 p.2) (evOps E (run E tab) ops l (setT tm o.dst undefV) (den S0 s)) = some (tm', den S0 s') ∧ _
    rw [bc_eq_some] at h
    rcases h with ⟨hw, h⟩ | ⟨hw, h⟩
    · rw [hw]
      rcases fastK_sound (σ := den S0 s) hP h with ⟨v, h1, h2, -, -⟩ | h
      · obtain ⟨tm', s', h3, h4⟩ := opsK_sound ops l _ _ k x (splitB_sound h2)
        exact ⟨tm', s', by rw [h1]; exact h3, h4⟩
      · obtain ⟨r, h1, h2⟩ := ob_eq_some.1 h
        obtain ⟨v, s1, h3, h4⟩ := afterK_sound hC h2
        obtain ⟨tm', s', h5, h6⟩ := opsK_sound ops l _ _ k x (splitB_sound h4)
        refine ⟨tm', s', ?_, h6⟩
        rw [h1]
        show ob (doneR (run E tab) o.dst tm (den S0 s) r) _ = _
        unfold doneR
        rw [h3]
        exact h5
    · rw [hw]
      exact opsK_sound ops l _ _ k x h

/-- Everything that lies in a state lies in another as it is. -/
def Sub (σ σ' : St) : Prop := σ.next ≤ σ'.next ∧ ∀ id, id < σ.next → σ'.heap.get id = σ.heap.get id
theorem Sub.refl (σ : St) : Sub σ σ := ⟨Nat.le_refl _, fun _ _ => rfl⟩
theorem Sub.trans {a b c : St} (h : Sub a b) (h' : Sub b c) : Sub a c := ⟨Nat.le_trans h.1 h'.1, fun id hid => by rw [h'.2 id (Nat.lt_of_lt_of_le hid h.1), h.2 id hid]⟩
theorem Sub.add (σ : St) (o : LO) : Sub σ (σ.add o) := ⟨Nat.le_succ _, fun id hid => by
  show (σ.heap.set σ.next o).get id = _
  rw [T.get_set, if_neg (by omega)]⟩

theorem sameS_refl {v : Value} (h : selfS v = true) : sameS v v = true := by
  cases v with
  | bool b => cases b <;> rfl
  | int k n =>
    show bc (eqK k k) (eqB n n) false = true
    rw [eqB_eq]; cases k <;> simp [eqK]
  | string s => show decide (s = s) = true; simp
  | pointer a =>
    cases a with
    | none => rfl
    | some a => show decide (a = a) = true; simp
  | slice a l c =>
    cases a with
    | none => show bc (Nat.beq l l) (Nat.beq c c) false = true; rw [Nat.beq_refl, Nat.beq_refl]; rfl
    | some a => show bc (decide (a = a)) (bc (Nat.beq l l) (Nat.beq c c) false) false = true; rw [Nat.beq_refl, Nat.beq_refl]; simp
  | map a => show decide (a = a) = true; simp
  | nilFunc => rfl
  | nilIface => rfl
  | _ => cases h
theorem sameL_refl : ∀ {l : List Value}, allB selfS l = true → sameL l l = true
  | [], _ => rfl
  | v :: l, h => by
    rw [allB_iff] at h
    show bc (sameS v v) (sameL l l) false = true
    rw [sameS_refl (h v (by simp)), sameL_refl ((allB_iff _ _).2 fun x hx => h x (by simp [hx]))]
    rfl
theorem sameV_refl {v : Value} (h : selfOk v = true) : sameV v v = true := by
  cases v with
  | agg cs => exact sameL_refl h
  | tuple cs => exact sameL_refl h
  | bool b => exact sameS_refl (v := .bool b) h
  | int k n => exact sameS_refl (v := .int k n) h
  | string s => exact sameS_refl (v := .string s) h
  | pointer a => exact sameS_refl (v := .pointer a) h
  | slice a l c => exact sameS_refl (v := .slice a l c) h
  | map a => exact sameS_refl (v := .map a) h
  | nilFunc => rfl
  | nilIface => rfl
  | _ => cases h
theorem sameO_refl {o : LO} (h : selfO o = true) : sameO o o = true := by
  cases o with
  | cells e c f z r =>
    show bc (Nat.beq e e) (bc (Nat.beq f f) (bc (Nat.beq z z) (bc (sameB r r) (sameL c c) false) false) false) false = true
    rw [Nat.beq_refl, Nat.beq_refl, Nat.beq_refl, sameL_refl h]
    cases r <;> rfl
  | map es n =>
    cases es with
    | nil => exact Nat.beq_refl n
    | cons e es => cases h

/-- A load comes to the same wherever its object is the same. -/
def LdAt (E : Env) (x : LoK) (σx : St) : Prop := x.blk < σx.next ∧ ∀ σ, σ.heap.get x.blk = σx.heap.get x.blk → ldSame E (denL x) σ = true
def NeAt (x : NeK) (σx : St) : Prop := x.id < σx.next ∧ ∀ σ, x.id < σ.next → σ.heap.get x.id = σx.heap.get x.id → newSame (denN x) σ = true

def Near (S0 : St) (d : DrK) (ver : Nat) (σx : St) : Prop :=
  (ver = d.ver → Sub σx (den S0 d.s)) ∧ ∀ f ∈ d.effs, f.ver = ver → Sub σx (den S0 f.s) ∨ Sub (den S0 f.s) σx

structure InvD (E : Env) (S0 : St) (d : DrK) : Prop where
  vl : ∀ x ∈ d.loads, x.ver ≤ d.ver
  vn : ∀ x ∈ d.news, x.ver ≤ d.ver
  ve : ∀ f ∈ d.effs, f.ver ≤ d.ver
  sub : ∀ f ∈ d.effs, f.ver = d.ver → Sub (den S0 f.s) (den S0 d.s)
  ld : ∀ x ∈ d.loads, x.ok = true → ∃ σx, LdAt E x σx ∧ Near S0 d x.ver σx
  nw : ∀ x ∈ d.news, x.ok = true → ∃ σx, NeAt x σx ∧ Near S0 d x.ver σx

theorem InvD.val {d : DrK} (h : InvD E S0 d) (x : It) (v : Value) : InvD E S0 (valD x d v) := ⟨h.vl, h.vn, h.ve, h.sub, h.ld, h.nw⟩

theorem InvD.ef {d : DrK} (h : InvD E S0 d) (x : It) (v : Value) (s' : Option SS) : InvD E S0 (efD x d v s') := by
  cases s' with
  | none =>
    refine ⟨h.vl, h.vn, fun f hf => ?_, fun f hf e => ?_, fun y hy ho => ?_, fun y hy ho => ?_⟩
    · rcases List.mem_cons.1 hf with rfl | hf
      · exact Nat.le_refl _
      · exact h.ve f hf
    · rcases List.mem_cons.1 hf with rfl | hf
      · exact Sub.refl _
      · exact h.sub f hf e
    · obtain ⟨σx, h1, h2, h3⟩ := h.ld y hy ho
      refine ⟨σx, h1, h2, fun f hf e => ?_⟩
      rcases List.mem_cons.1 hf with rfl | hf
      · exact .inl (h2 e.symm)
      · exact h3 f hf e
    · obtain ⟨σx, h1, h2, h3⟩ := h.nw y hy ho
      refine ⟨σx, h1, h2, fun f hf e => ?_⟩
      rcases List.mem_cons.1 hf with rfl | hf
      · exact .inl (h2 e.symm)
      · exact h3 f hf e
  | some s' =>
    refine ⟨fun y hy => Nat.le_succ_of_le (h.vl y hy), fun y hy => Nat.le_succ_of_le (h.vn y hy), fun f hf => ?_, fun f hf e => ?_, fun y hy ho => ?_, fun y hy ho => ?_⟩
    · rcases List.mem_cons.1 hf with rfl | hf
      · exact Nat.le_succ _
      · exact Nat.le_succ_of_le (h.ve f hf)
    · exfalso
      have e' : f.ver = d.ver + 1 := e
      rcases List.mem_cons.1 hf with rfl | hf
      · have : d.ver = d.ver + 1 := e
        omega
      · have := h.ve f hf; omega
    · obtain ⟨σx, h1, h2, h3⟩ := h.ld y hy ho
      refine ⟨σx, h1, fun e => ?_, fun f hf e => ?_⟩
      · have e' : y.ver = d.ver + 1 := e
        have := h.vl y hy; omega
      · rcases List.mem_cons.1 hf with rfl | hf
        · exact .inl (h2 e.symm)
        · exact h3 f hf e
    · obtain ⟨σx, h1, h2, h3⟩ := h.nw y hy ho
      refine ⟨σx, h1, fun e => ?_, fun f hf e => ?_⟩
      · have e' : y.ver = d.ver + 1 := e
        have := h.vn y hy; omega
      · rcases List.mem_cons.1 hf with rfl | hf
        · exact .inl (h2 e.symm)
        · exact h3 f hf e

theorem InvD.new {d : DrK} (h : InvD E S0 d) (x : It) (v : Value) (o : LO) : InvD E S0 (newD S0 x d v o) := by
  have near : ∀ {ver : Nat} {σx : St}, Near S0 d ver σx → Near S0 (newD S0 x d v o) ver σx := fun h => ⟨fun e => (h.1 e).trans (Sub.add _ _), h.2⟩
  refine ⟨h.vl, fun y hy => ?_, h.ve, fun f hf e => (h.sub f hf e).trans (Sub.add _ _), fun y hy ho => ?_, fun y hy ho => ?_⟩
  · rcases List.mem_cons.1 hy with rfl | hy
    · exact Nat.le_refl _
    · exact h.vn y hy
  · obtain ⟨σx, h1, h2⟩ := h.ld y hy ho
    exact ⟨σx, h1, near h2⟩
  · rcases List.mem_cons.1 hy with rfl | hy
    · refine ⟨(den S0 d.s).add o, ⟨Nat.lt_succ_self _, fun σ hid hg => ?_⟩, fun _ => Sub.refl _, fun f hf e => .inr ((h.sub f hf e).trans (Sub.add _ _))⟩
      have hg' : σ.heap.get (den S0 d.s).next = some o := by
        rw [show σ.heap.get (den S0 d.s).next = ((den S0 d.s).add o).heap.get (den S0 d.s).next from hg]
        show ((den S0 d.s).heap.set (den S0 d.s).next o).get _ = _
        rw [T.get_set, if_pos rfl]
      show bc (Nat.ble (Nat.succ (den S0 d.s).next) σ.next) (@Option.rec LO (fun _ => Bool) false (sameO o) (σ.heap.get (den S0 d.s).next)) false = true
      rw [hg', ble_iff.2 hid]
      exact sameO_refl ho
    · obtain ⟨σx, h1, h2⟩ := h.nw y hy ho
      exact ⟨σx, h1, near h2⟩

theorem load_same {tm : TM} {σ σ' : St} {o : Oper} {b : Nat} (hb : ldBlk tm o.op = some b) (h : σ'.heap.get b = σ.heap.get b) : evOp E tm σ' o = evOp E tm σ o := by
  unfold ldBlk at hb
  split at hb
  · rename_i t a ho
    obtain ⟨ad, h1, h2⟩ := ob_eq_some.1 hb
    obtain rfl := Option.some.inj h2
    unfold evOp
    rw [ho]
    show loadOp E σ' t (evX tm a) = loadOp E σ t (evX tm a)
    unfold loadOp
    rw [h1]
    show okL (loadV E σ' t ad) = okL (loadV E σ t ad)
    have hl : ∀ n, σ'.loadN ad n = σ.loadN ad n := fun n => by unfold St.loadN; rw [h]
    have hi : loadTI σ' ad = loadTI σ ad := by funext i; unfold loadTI; rw [hl, hl]
    unfold loadV; rw [hi]
  · cases hb

theorem InvD.load {d : DrK} (h : InvD E S0 d) (x : It) {r : OpR} {v : Value} (hr : r = .val v ∨ r = .ld v) (he : evOp E d.tm (den S0 d.s) x.o = some r) : InvD E S0 (ldD S0 x d v) := by
  refine ⟨fun y hy => ?_, h.vn, h.ve, h.sub, fun y hy ho => ?_, h.nw⟩
  · rcases List.mem_cons.1 hy with rfl | hy
    · exact Nat.le_refl _
    · exact h.vl y hy
  · rcases List.mem_cons.1 hy with rfl | hy
    · have ho' : ldOk (ldBlk d.tm x.o.op) v (den S0 d.s).next = true := ho
      cases hb : ldBlk d.tm x.o.op with
      | none => rw [hb] at ho'; cases ho'
      | some b =>
        rw [hb] at ho'
        change bc (selfOk v) (Nat.ble (Nat.succ b) (den S0 d.s).next) false = true at ho'
        rw [bc_eq] at ho'
        split at ho'
        · rename_i hv
          refine ⟨den S0 d.s, ⟨?_, fun σ hσ => ?_⟩, fun _ => Sub.refl _, fun f hf e => .inr (h.sub f hf e)⟩
          · exact ble_iff.1 ho'
          · have hσ' : σ.heap.get b = (den S0 d.s).heap.get b := hσ
            unfold ldSame
            show (match evOp E d.tm σ x.o with
              | some (.ld u) => sameV v u
              | some (.val u) => sameV v u
              | _ => false) = true
            rw [load_same (E := E) (o := x.o) hb hσ', he]
            rcases hr with rfl | rfl
            · exact sameV_refl hv
            · exact sameV_refl hv
        · cases ho'
    · exact h.ld y hy ho

include hP hC in
theorem stepK_sound {ops : List Oper} {y : It} {d : DrK} {k : DrK → Option R} {x : R} (hd : InvD E S0 d) (h : stepK plain E S0 callK ops y d k = some x) :
    ∃ d', stepD E (run E tab) ops y (denD S0 d) = some (denD S0 d') ∧ InvD E S0 d' ∧ k d' = some x := by
  unfold stepK at h
  unfold stepD
  rw [bc_eq_some] at h
  rcases h with ⟨hw, h⟩ | ⟨hw, h⟩
  · have hw' : wantedB ops (denD S0 d).tm y.o = true := hw
    rw [hw']
    rcases fastK_sound (σ := den S0 d.s) hP h with ⟨v, h1, h2, h3, h4⟩ | h
    · refine ⟨_, ?_, hd.val y v, splitB_sound h2⟩
      have h1' : evOp E (denD S0 d).tm (denD S0 d).σ y.o = some (.val v) := h1
      rw [h1']
      show doneD (run E tab) y (denD S0 d) (.val v) = _
      unfold doneD
      rw [h3, h4]; rfl
    · obtain ⟨r, h1, h2⟩ := ob_eq_some.1 h
      have h1' : evOp E (denD S0 d).tm (denD S0 d).σ y.o = some r := h1
      rw [h1']
      show ∃ d', doneD (run E tab) y (denD S0 d) r = some (denD S0 d') ∧ _
      unfold doneK at h2
      unfold doneD
      rw [bc_eq_some] at h2
      rcases h2 with ⟨he, h2⟩ | ⟨he, h2⟩
      · rw [he]
        obtain ⟨v, s', h3, h4⟩ := afterK_sound hC h2
        refine ⟨_, ?_, hd.ef y v s', splitB_sound h4⟩
        show effD (run E tab) y (denD S0 d) r = _
        unfold effD
        have h3' : afterR (run E tab) (denD S0 d).σ r = some (v, den S0 (aft d.s s')) := h3
        rw [h3']; rfl
      · rw [he]
        rw [bc_eq_some] at h2
        rcases h2 with ⟨hp, h2⟩ | ⟨hp, h2⟩
        · rw [hp]
          unfold pureK at h2
          split at h2
          · exact ⟨_, rfl, hd.val y _, splitB_sound h2⟩
          · exact ⟨_, rfl, hd.val y _, splitB_sound h2⟩
          · exact ⟨_, rfl, hd.new y _ _, h2⟩
          · cases h2
        · rw [hp]
          unfold loadK at h2
          split at h2
          · exact ⟨_, rfl, hd.load y (.inl rfl) h1, splitB_sound h2⟩
          · exact ⟨_, rfl, hd.load y (.inr rfl) h1, splitB_sound h2⟩
          · cases h2
  · have hw' : wantedB ops (denD S0 d).tm y.o = false := hw
    rw [hw']
    exact ⟨_, rfl, hd.val y undefV, h⟩

include hP hC in
theorem drawK_sound (ops : List Oper) : ∀ (n : Nat) (l : List It) (d : DrK) (k : DrK → Option R) (x : R), InvD E S0 d → drawK plain E S0 callK ops n l d k = some x →
    ∃ d', evDraw E (run E tab) ops n l (denD S0 d) = some (denD S0 d') ∧ InvD E S0 d' ∧ k d' = some x
  | 0, l, d, k, x, hd, h => by
    change bc l.isEmpty (k d) none = some x at h
    show ∃ d', bc l.isEmpty (some (denD S0 d)) none = some (denD S0 d') ∧ _
    cases hl : l.isEmpty
    · rw [hl] at h; cases h
    · rw [hl] at h; exact ⟨d, rfl, hd, h⟩
  | n + 1, l, d, k, x, hd, h => by
    change ob (takeNext d.done l) (fun p => stepK plain E S0 callK ops p.1 d fun d' => drawK plain E S0 callK ops n p.2 d' k) = some x at h
    obtain ⟨p, h1, h2⟩ := ob_eq_some.1 h
    obtain ⟨d1, h3, hd1, h4⟩ := stepK_sound hP hC hd h2
    obtain ⟨d', h5, hd', h6⟩ := drawK_sound ops n p.2 d1 k x hd1 h4
    refine ⟨d', ?_, hd', h6⟩
    show ob (takeNext d.done l) (fun p => ob (stepD E (run E tab) ops p.1 (denD S0 d)) (evDraw E (run E tab) ops n p.2)) = _
    rw [h1]
    show ob (stepD E (run E tab) ops p.1 (denD S0 d)) _ = _
    rw [h3]
    exact h5

theorem stagesK_sound {m i : Nat} {chk : SS → Nat → Bool} {chk' : St → Bool} : ∀ (l : List EfK) (s : SS) (ver : Nat) (later : Option Nat), (∀ f ∈ l, chk f.s f.ver = true → chk' (den S0 f.s) = true) → (chk s ver = true → chk' (den S0 s) = true) →
    stagesK m i chk l s ver later = true → stagesOk m i chk' (l.map (denE S0)) (den S0 s) later = true
  | [], s, ver, later, _, h, hs => by
    change bc (laterB m later) true (chk s ver) = true at hs
    show bc (laterB m later) true (chk' (den S0 s)) = true
    cases hl : laterB m later
    · rw [hl] at hs; exact h hs
    · rfl
  | f :: l, s, ver, later, hl, h, hs => by
    change bc (bc (bc (hasB f.m i) true (laterB m later)) true (chk s ver)) (stagesK m i chk l f.s f.ver (some f.i)) false = true at hs
    show bc (bc (bc (hasB f.m i) true (laterB m later)) true (chk' (den S0 s))) (stagesOk m i chk' (l.map (denE S0)) (den S0 f.s) (some f.i)) false = true
    rw [bc_eq] at hs
    split at hs
    · rename_i h1
      rw [stagesK_sound l f.s f.ver (some f.i) (fun g hg => hl g (by simp [hg])) (hl f (by simp)) hs]
      cases hb : bc (hasB f.m i) true (laterB m later)
      · rw [hb] at h1
        rw [show bc false true (chk' (den S0 s)) = chk' (den S0 s) from rfl, h h1]; rfl
      · rfl
    · cases hs

theorem chkL_sound {d : DrK} (hd : InvD E S0 d) {x : LoK} (hx : x ∈ d.loads) {s : SS} {ver : Nat} (hs : (s = d.s ∧ ver = d.ver) ∨ ∃ f ∈ d.effs, s = f.s ∧ ver = f.ver) (h : chkL E S0 x s ver = true) : ldSame E (denL x) (den S0 s) = true := by
  unfold chkL at h
  cases hc : bc x.ok (bc (Nat.beq ver x.ver) (Nat.ble (Nat.succ x.blk) (den S0 s).next) false) false with
  | false => rw [hc] at h; exact h
  | true =>
    cases ho : x.ok with
    | false => rw [ho] at hc; cases hc
    | true =>
      rw [ho] at hc
      change bc (Nat.beq ver x.ver) (Nat.ble (Nat.succ x.blk) (den S0 s).next) false = true at hc
      rw [bc_eq] at hc
      split at hc
      · rename_i hv
        rw [beq_iff] at hv
        rw [ble_iff] at hc
        obtain ⟨σx, ⟨h1, h2⟩, h3, h4⟩ := hd.ld x hx ho
        refine h2 _ ?_
        rcases hs with ⟨rfl, e⟩ | ⟨f, hf, rfl, e⟩
        · exact (h3 (by omega)).2 _ h1
        · rcases h4 f hf (by omega) with h5 | h5
          · exact h5.2 _ h1
          · exact (h5.2 _ (by omega)).symm
      · cases hc

theorem chkN_sound {d : DrK} (hd : InvD E S0 d) {x : NeK} (hx : x ∈ d.news) {s : SS} {ver : Nat} (hs : (s = d.s ∧ ver = d.ver) ∨ ∃ f ∈ d.effs, s = f.s ∧ ver = f.ver) (h : chkN S0 x s ver = true) : newSame (denN x) (den S0 s) = true := by
  unfold chkN at h
  cases hc : bc x.ok (bc (Nat.beq ver x.ver) (Nat.ble (Nat.succ x.id) (den S0 s).next) false) false with
  | false => rw [hc] at h; exact h
  | true =>
    cases ho : x.ok with
    | false => rw [ho] at hc; cases hc
    | true =>
      rw [ho] at hc
      change bc (Nat.beq ver x.ver) (Nat.ble (Nat.succ x.id) (den S0 s).next) false = true at hc
      rw [bc_eq] at hc
      split at hc
      · rename_i hv
        rw [beq_iff] at hv
        rw [ble_iff] at hc
        obtain ⟨σx, ⟨h1, h2⟩, h3, h4⟩ := hd.nw x hx ho
        refine h2 _ (by omega) ?_
        rcases hs with ⟨rfl, e⟩ | ⟨f, hf, rfl, e⟩
        · exact (h3 (by omega)).2 _ h1
        · rcases h4 f hf (by omega) with h5 | h5
          · exact h5.2 _ h1
          · exact (h5.2 _ (by omega)).symm
      · cases hc

theorem trK_sound {s0 : SS} {d : DrK} (hd : InvD E S0 d) (h : trK E S0 s0 d = true) : trOk E (den S0 s0) (den S0 d.s) (denD S0 d).tr = true := by
  unfold trK at h
  unfold trOk
  show bc (chain (d.effs.map (denE S0)) none) (bc (allB (fun x => stagesOk x.m x.i (ldSame E x) (d.effs.map (denE S0)) (den S0 d.s) none) (d.loads.map denL)) (bc (fallB (d.news.map denN) (den S0 d.s).next)
    (allB (fun x => bc (Nat.ble (den S0 s0).next x.id) (bc (allB (apartB x) (d.effs.map (denE S0))) (stagesOk x.m x.i (newSame x) (d.effs.map (denE S0)) (den S0 d.s) none) false) false) (d.news.map denN)) false) false) false = true
  rw [bc_eq] at h
  split at h
  · rename_i h1
    rw [h1]
    rw [bc_eq] at h
    split at h
    · rename_i h2
      have h2' : allB (fun x => stagesOk x.m x.i (ldSame E x) (d.effs.map (denE S0)) (den S0 d.s) none) (d.loads.map denL) = true := by
        rw [allB_iff] at h2 ⊢
        intro y hy
        obtain ⟨x, hx, rfl⟩ := List.mem_map.1 hy
        exact stagesK_sound d.effs d.s d.ver none (fun f hf hc => chkL_sound hd hx (.inr ⟨f, hf, rfl, rfl⟩) hc) (fun hc => chkL_sound hd hx (.inl ⟨rfl, rfl⟩) hc) (h2 x hx)
      rw [h2']
      rw [bc_eq] at h
      split at h
      · rename_i h3
        rw [h3]
        show allB _ _ = true
        rw [allB_iff] at h ⊢
        intro y hy
        obtain ⟨x, hx, rfl⟩ := List.mem_map.1 hy
        have h4 := h x hx
        rw [bc_eq] at h4
        split at h4
        · rename_i h5
          rw [bc_eq] at h4
          split at h4
          · rename_i h6
            have h7 := stagesK_sound (chk' := newSame (denN x)) d.effs d.s d.ver none (fun f hf hc => chkN_sound hd hx (.inr ⟨f, hf, rfl, rfl⟩) hc) (fun hc => chkN_sound hd hx (.inl ⟨rfl, rfl⟩) hc) h4
            show bc (Nat.ble (den S0 s0).next x.id) (bc (allB (apartB (denN x)) (d.effs.map (denE S0))) (stagesOk x.m x.i (newSame (denN x)) (d.effs.map (denE S0)) (den S0 d.s) none) false) false = true
            rw [h5, h6, h7]; rfl
          · cases h4
        · cases h4
      · cases h
    · cases h
  · cases h

include hP hC in
theorem regionK_sound {ops : List Oper} {draw : Bool} {tm : TM} {s : SS} {k : TM → SS → Option R} {x : R} (h : regionK plain E S0 callK ops draw tm s k = some x) :
    ∃ tm' s', evRegion E (run E tab) ops draw tm (den S0 s) = some (tm', den S0 s') ∧ k tm' s' = some x := by
  unfold regionK at h
  unfold evRegion
  cases draw
  · exact opsK_sound hP hC ops ops tm s k x h
  · obtain ⟨l, h1, h2⟩ := ob_eq_some.1 h
    obtain ⟨d, h3, hd, h4⟩ := drawK_sound hP hC ops _ l _ _ x ⟨fun _ h => (by cases h), fun _ h => (by cases h), fun _ h => (by cases h), fun _ h => (by cases h), fun _ h => (by cases h), fun _ h => (by cases h)⟩ h2
    rw [guardO_eq_some] at h4
    refine ⟨d.tm, d.s, ?_, h4.2⟩
    show ob (masks ops 0 .e) _ = _
    rw [h1]
    show ob (evDraw E (run E tab) ops ops.length l _) _ = _
    have h3' : evDraw E (run E tab) ops ops.length l ⟨0, ⟨[], [], []⟩, tm, den S0 s⟩ = some (denD S0 d) := h3
    rw [h3']
    show guardO (trOk E (den S0 s) (den S0 d.s) (denD S0 d).tr) _ = _
    rw [trK_sound hd h4.1]; rfl

theorem CodeTo.mono {d : Code} {tm : TM} {σ : St} {o : Out} (h : CodeTo E tab d tm σ o) : ∃ n, ∀ m, n ≤ m → evCode E (run E tab) m d tm σ = some o := by
  obtain ⟨n, hn⟩ := h
  exact ⟨n, fun m hm => evCode_mono E (fun _ _ _ => OLe.refl _) n m hm d tm σ o hn⟩

/-- One step of a text. -/
theorem CodeTo.of_step {d : Code} {tm : TM} {σ : St} {o : Out} (h : ∃ n, codeStep E (run E tab) (evCode E (run E tab) n) d tm σ = some o) : CodeTo E tab d tm σ o := by
  obtain ⟨n, hn⟩ := h
  exact ⟨n + 1, hn⟩

theorem CodeTo.seq {a b : Code} {tm : TM} {σ : St} {r o : Out} (h : CodeTo E tab a tm σ r) (h' : ∀ tm' σ', r.x = .normal → r.tm = tm' → r.σ = σ' → CodeTo E tab b tm' σ' o) (h2 : r.x ≠ .normal → r = o) : CodeTo E tab (.seq a b) tm σ o := by
  obtain ⟨n, hn⟩ := h.mono
  refine CodeTo.of_step ?_
  cases hx : r.x with
  | normal =>
    obtain ⟨m, hm⟩ := (h' _ _ hx rfl rfl).mono
    refine ⟨max n m, ?_⟩
    show ob (evCode E (run E tab) (max n m) a tm σ) _ = _
    rw [hn _ (by omega)]
    show normalThen r _ = _
    unfold normalThen; rw [hx]
    exact hm _ (by omega)
  | _ =>
    refine ⟨n, ?_⟩
    show ob (evCode E (run E tab) n a tm σ) _ = _
    rw [hn _ (by omega)]
    show normalThen r _ = _
    unfold normalThen; rw [hx]
    rw [h2 (by rw [hx]; exact fun e => by cases e)]

theorem CodeTo.loop {b : Code} {tm : TM} {σ : St} {r o : Out} (h : CodeTo E tab b tm σ r) (h' : ∀ tm' σ', r.x = .normal → r.tm = tm' → r.σ = σ' → CodeTo E tab (.loop b) tm' σ' o) (h2 : r.x ≠ .normal → r = o) : CodeTo E tab (.loop b) tm σ o := by
  obtain ⟨n, hn⟩ := h.mono
  refine CodeTo.of_step ?_
  cases hx : r.x with
  | normal =>
    obtain ⟨m, hm⟩ := (h' _ _ hx rfl rfl).mono
    refine ⟨max n m, ?_⟩
    show ob (evCode E (run E tab) (max n m) b tm σ) _ = _
    rw [hn _ (by omega)]
    show normalThen r _ = _
    unfold normalThen; rw [hx]
    exact hm _ (by omega)
  | _ =>
    refine ⟨n, ?_⟩
    show ob (evCode E (run E tab) n b tm σ) _ = _
    rw [hn _ (by omega)]
    show normalThen r _ = _
    unfold normalThen; rw [hx]
    rw [h2 (by rw [hx]; exact fun e => by cases e)]

theorem thenK_sound {r : OutK} {k : OutK → Option R} {f : TM → SS → Option R} {x : R} (h : thenK r k f = some x) : (r.x = .normal ∧ f r.tm r.s = some x) ∨ (r.x ≠ .normal ∧ k r = some x) := by
  unfold thenK at h
  split at h
  · rename_i hx; exact .inl ⟨hx, h⟩
  · rename_i hx; exact .inr ⟨hx, h⟩

theorem outK_den (id : Nat) (r : OutK) : denO S0 (outK id r) = outOf id (denO S0 r) := by
  obtain ⟨x, tm, s⟩ := r
  cases x with
  | exit k =>
    show denO S0 (bc (Nat.beq k id) ⟨.normal, tm, s⟩ ⟨.exit k, tm, s⟩) = bc (Nat.beq k id) ⟨.normal, tm, den S0 s⟩ ⟨.exit k, tm, den S0 s⟩
    cases Nat.beq k id <;> rfl
  | _ => rfl

include hP hC hL in
theorem codeK_sound : ∀ (n : Nat) (d : Code) (tm : TM) (s : SS) (k : OutK → Option R) (x : R), codeK plain E S0 callK loopK n d tm s k = some x → ∃ o, CodeTo E tab d tm (den S0 s) (denO S0 o) ∧ k o = some x
  | 0, _, _, _, _, _, h => by cases h
  | n + 1, d, tm, s, k, x, h => by
    change codeStepK plain E S0 callK loopK (codeK plain E S0 callK loopK n) d tm s k = some x at h
    unfold codeStepK at h
    split at h
    · exact ⟨_, CodeTo.of_step ⟨0, rfl⟩, h⟩
    · rename_i m ops draw
      obtain ⟨tm', s', h1, h2⟩ := regionK_sound hP hC h
      refine ⟨_, CodeTo.of_step ⟨0, ?_⟩, h2⟩
      show ob (evRegion E (run E tab) ops.toList draw tm (den S0 s)) _ = _
      rw [h1]; rfl
    · rename_i a b
      obtain ⟨r, h1, h2⟩ := codeK_sound n a tm s _ x h
      rcases thenK_sound h2 with ⟨hx, h3⟩ | ⟨hx, h3⟩
      · obtain ⟨o, h4, h5⟩ := codeK_sound n b _ _ k x h3
        exact ⟨o, h1.seq (fun tm' σ' _ e1 e2 => by rw [← e1, ← e2]; exact h4) (fun e => absurd hx e), h5⟩
      · exact ⟨r, h1.seq (fun _ _ e => absurd e hx) (fun _ => rfl), h3⟩
    · rename_i y a b
      obtain ⟨t, h1, h2⟩ := ob_eq_some.1 h
      rw [bc_eq_some] at h2
      rcases h2 with ⟨ht, h2⟩ | ⟨ht, h2⟩
      · obtain ⟨o, ⟨m, h3⟩, h4⟩ := codeK_sound n a tm s k x h2
        refine ⟨o, CodeTo.of_step ⟨m, ?_⟩, h4⟩
        show ob (boolOf? (evX tm y)) _ = _
        rw [h1, ht]; exact h3
      · obtain ⟨o, ⟨m, h3⟩, h4⟩ := codeK_sound n b tm s k x h2
        refine ⟨o, CodeTo.of_step ⟨m, ?_⟩, h4⟩
        show ob (boolOf? (evX tm y)) _ = _
        rw [h1, ht]; exact h3
    · rename_i id b
      obtain ⟨r, ⟨m, h1⟩, h2⟩ := codeK_sound n b tm s _ x h
      refine ⟨_, CodeTo.of_step ⟨m, ?_⟩, h2⟩
      show ob (evCode E (run E tab) m b tm (den S0 s)) _ = _
      rw [h1, outK_den]; rfl
    · rename_i b
      rcases orElse_eq_some.1 h with h | ⟨-, h⟩
      · exact hL _ tm s k x h
      · obtain ⟨r, h1, h2⟩ := codeK_sound n b tm s _ x h
        rcases thenK_sound h2 with ⟨hx, h3⟩ | ⟨hx, h3⟩
        · obtain ⟨o, h4, h5⟩ := codeK_sound n (.loop b) _ _ k x h3
          exact ⟨o, h1.loop (fun tm' σ' _ e1 e2 => by rw [← e1, ← e2]; exact h4) (fun e => absurd hx e), h5⟩
        · exact ⟨r, h1.loop (fun _ _ e => absurd e hx) (fun _ => rfl), h3⟩
    · exact ⟨_, CodeTo.of_step ⟨0, rfl⟩, h⟩
    · exact ⟨_, CodeTo.of_step ⟨0, rfl⟩, h⟩
    · cases h

include hP hC hL in
/-- What a function's text comes to in passing style, its call comes to. -/
theorem fnK_sound {fuel : Nat} {f : FuncId} {args : List Value} {σ : St} {s : SS} {k : Value → SS → Option R} {x : R} (ht : tab f args σ = none) (hs : den S0 s = ⟨σ.heap, σ.next, σ.next⟩)
    (h : fnK plain E S0 callK loopK fuel f args s k = some x) : ∃ v s', run E tab f args σ = some (leave σ (den S0 s') v) ∧ k v s' = some x := by
  unfold fnK at h
  obtain ⟨fn, h1, h2⟩ := ob_eq_some.1 h
  obtain ⟨c, h3, h4⟩ := ob_eq_some.1 h2
  obtain ⟨o, ⟨n, h5⟩, h6⟩ := codeK_sound hP hC hL fuel c _ _ _ x h4
  rw [bc_none_eq_some] at h6
  obtain ⟨l, h7, h8⟩ := ob_eq_some.1 h6.2
  refine ⟨_, _, run_step (n := n) ht ?_, h8⟩
  unfold callStep
  rw [h1]
  show ob fn.body _ = _
  rw [h3]
  show ob (evCode E (run E tab) n c _ _) _ = _
  rw [← hs, h5]
  show finish E fn σ (denO S0 o) = _
  unfold finish
  have e : isExit (denO S0 o).x = false := h6.1
  have e' : resL E (denO S0 o).tm (denO S0 o).σ fn.results.toList = some l := h7
  rw [e, e']; rfl

include hP hC hL in
theorem inlK_sound (h0 : S0.low = S0.next) {fuel : Nat} {f : FuncId} {args : List Value} {s : SS} {k : Value → Option SS → Option R} {x : R} (ht : tab f args (den S0 s) = none)
    (h : inlK plain E S0 callK loopK fuel f args s k = some x) : ∃ v s', run E tab f args (den S0 s) = some (v, den S0 (aft s s')) ∧ k v s' = some x := by
  obtain ⟨v, s', h1, h2⟩ := fnK_sound hP hC hL ht (s := enterK s) (by
    cases s with
    | base =>
      show S0 = ⟨S0.heap, S0.next, S0.next⟩
      obtain ⟨a, b, c⟩ := S0
      obtain rfl : c = b := h0
      rfl
    | ext σ => rfl) h
  rw [bc_eq_some] at h2
  unfold leave at h1
  rcases h2 with ⟨hb, h2⟩ | ⟨hb, h2⟩
  · rw [hb] at h1
    exact ⟨v, none, h1, h2⟩
  · rw [hb] at h1
    exact ⟨v, some (.ext _), h1, h2⟩
end steps
end sound
end Go.Ev
