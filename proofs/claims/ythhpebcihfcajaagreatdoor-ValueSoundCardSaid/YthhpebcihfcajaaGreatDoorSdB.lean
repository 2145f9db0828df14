/-
  ValueSound and its helper: what they answer.
-/
import Derived.Test.YthhpebcihfcajaaGreatDoorVaF
import Derived.Test.YthhpebcihfcajaaGreatDoorSdA
set_option linter.unusedVariables false
set_option linter.unusedSimpArgs false
namespace Go.Ev
open Go.Proofs

def encI32 : Enc Int where
  enc n := .int .i32 n
  dec v := match v with
    | .int .i32 n => some n
    | _ => none
  inv x a h := by
    cases x with
    | int k n => cases k <;> simp_all
    | _ => cases h
  pf _ := rfl
def encU8 : Enc Int where
  enc n := .int .u8 n
  dec v := match v with
    | .int .u8 n => some n
    | _ => none
  inv x a h := by
    cases x with
    | int k n => cases k <;> simp_all
    | _ => cases h
  pf _ := rfl

noncomputable section
section
variable {α β γ : Type} (A : Enc α) (B : Enc β) (C : Enc γ)
def Ans3p (f : FuncId) (P : α → β → γ → Bool) (F : α → β → γ → Value) : Prop := ∀ a b c, P a b c = true → Good f [A.enc a, B.enc b, C.enc c] (F a b c) ∧ pf (F a b c) = true
def pre3 (f : α → β → γ → Bool) : List Value → Bool
  | [x, y, z] => @Option.rec α (fun _ => Bool) false (fun a => @Option.rec β (fun _ => Bool) false (fun b => @Option.rec γ (fun _ => Bool) false (fun c => f a b c) (C.dec z)) (B.dec y)) (A.dec x)
  | _ => false
def mk3p (f : FuncId) (P : α → β → γ → Bool) (F : α → β → γ → Value) (h : Ans3p A B C f P F) : Ent where
  f := f
  val := on3 A B C F
  pre := pre3 A B C P
  ok args v hv hp := by
    match args, hv, hp with
    | [x, y, z], hv, hp =>
      obtain ⟨a, h1, h2⟩ := ob_eq_some.1 (show ob (A.dec x) (fun a => ob (B.dec y) fun b => ob (C.dec z) fun c => some (F a b c)) = some v from hv)
      obtain ⟨b, h3, h4⟩ := ob_eq_some.1 h2
      obtain ⟨c, h5, h6⟩ := ob_eq_some.1 h4
      obtain rfl := Option.some.inj h6
      have hp' : @Option.rec α (fun _ => Bool) false (fun a => @Option.rec β (fun _ => Bool) false (fun b => @Option.rec γ (fun _ => Bool) false (fun c => P a b c) (C.dec z)) (B.dec y)) (A.dec x) = true := hp
      rw [h1, h3, h5] at hp'
      obtain rfl := A.inv x a h1
      obtain rfl := B.inv y b h3
      obtain rfl := C.inv z c h5
      exact ⟨⟨(h a b c hp').2, fun w hw => by simp at hw; rcases hw with rfl | rfl | rfl; exact A.pf a; exact B.pf b; exact C.pf c⟩, (h a b c hp').1⟩
end

/-- A word and two bytes. -/
def p42 (a n c : Int) : Bool := decide ((-2147483648 ≤ a ∧ a ≤ 2147483647) ∧ (0 ≤ n ∧ n ≤ 255) ∧ (0 ≤ c ∧ c ≤ 255))
theorem p42_iff {a n c : Int} : p42 a n c = true ↔ (-2147483648 ≤ a ∧ a ≤ 2147483647) ∧ (0 ≤ n ∧ n ≤ 255) ∧ (0 ≤ c ∧ c ≤ 255) := by unfold p42; rw [decide_eq_true_iff]
def x42 (a c : Int) : Int := if 60 < c then a.tmod 50 else a
def m42 (c : Int) : Int := 2 ^ (c % 6).toNat
/-- What the helper answers. -/
def ofS (a n c : Int) : Vl := redV ⟨⟨x42 a c, min 2147483647 (x42 a c + m42 c * (n % 20))⟩, ⟨m42 c, x42 a c % m42 c⟩⟩

def mq (q : Bool) (c : Int) : Int := sealI q (shlI .i64 1 (IntKind.wrap .u64 (sealI q (Int.tmod c 6))))
def vq42 (q : Bool) (x n c : Int) : Vl :=
  ⟨⟨x, mnI 2147483647 (wrapF .i64 (Int.add x (wrapF .i64 (Int.mul (mq q c) (sealI q (Int.tmod (IntKind.wrap .i64 n) 20))))))⟩, ⟨mq q c, sealI q (Int.tmod (wrapF .i64 (Int.add (sealI q (Int.tmod x (mq q c))) (mq q c))) (mq q c))⟩⟩
def b42 {R : Type} (q : Bool) (x n c : Int) (k : Value → Option R) : Option R :=
  bc (ltB (IntKind.wrap .u64 (sealI q (Int.tmod c 6))) 0) none (bc (eqB (mq q c) 0) none (bc (eqB (mq q c) 0) none (k (vlV (redV (vq42 q x n c))))))
theorem t42 {R : Type} (q : Bool) (ty : Nat → TypeId) (a n c : Int) (k : Value → Option R) : ansK ⟨plainT, q⟩ [e33] 1000 20 ty 42 [.int .i32 a, .int .u8 n, .int .u8 c] k =
    bc (ltB 60 c) (b42 q (sealI q (Int.tmod (IntKind.wrap .i64 a) 50)) n c k) (b42 q (IntKind.wrap .i64 a) n c k) := by kernel_rfl

theorem mq_eq {c : Int} (h : 0 ≤ c) : IntKind.wrap .u64 (sealI true (Int.tmod c 6)) = c % 6 ∧ mq true c = m42 c ∧ 1 ≤ m42 c ∧ m42 c ≤ 32 := by
  have e : IntKind.wrap .u64 (sealI true (Int.tmod c 6)) = c % 6 := by
    rw [sealI_eq, Int.tmod_eq_emod_of_nonneg h, wrapU_id (by omega) (by omega)]
  have h1 : (c % 6).toNat ≤ 5 := by omega
  refine ⟨e, ?_, ?_⟩
  · unfold mq m42
    rw [e, sealI_eq]
    have := shl_one (k := (c % 6).toNat) (by omega)
    rwa [show (((c % 6).toNat : Nat) : Int) = c % 6 by omega] at this
  · have a := pow_pos' (c % 6).toNat
    have b : (2 : Int) ^ (c % 6).toNat ≤ 2 ^ 5 := pow_le_iff.2 h1
    have d : (2 : Int) ^ 5 = 32 := rfl
    unfold m42
    omega
theorem b42_eq {x n c : Int} (hx : -2147483648 ≤ x ∧ x ≤ 2147483647) (hn : 0 ≤ n ∧ n ≤ 255) (hc : 0 ≤ c) :
    b42 true x n c (fun v => some v) = some (vlV (redV ⟨⟨x, min 2147483647 (x + m42 c * (n % 20))⟩, ⟨m42 c, x % m42 c⟩⟩)) := by
  obtain ⟨e1, e2, e3, e4⟩ := mq_eq hc
  unfold b42 vq42
  rw [e1, e2]
  simp only [bc_ltB, bc_eqB, sealI_eq, mnI_eq, add_eq, mul_eq]
  rw [if_neg (by omega), if_neg (by omega), if_neg (by omega)]
  rw [wrapI_id' (n := n) (by omega) (by omega), Int.tmod_eq_emod_of_nonneg hn.1]
  have h20 : 0 ≤ n % 20 ∧ n % 20 ≤ 19 := by omega
  have hm : 0 ≤ m42 c * (n % 20) ∧ m42 c * (n % 20) ≤ 608 := by
    refine ⟨Int.mul_nonneg (by omega) h20.1, ?_⟩
    exact Int.mul_le_mul e4 h20.2 h20.1 (by omega)
  have ht1 := Int.lt_tmod_of_pos x (show 0 < m42 c by omega)
  have ht2 := Int.tmod_lt_of_pos x (show 0 < m42 c by omega)
  rw [wr_id' (n := m42 c * (n % 20)) (by omega) (by omega), wr_id' (n := x + m42 c * (n % 20)) (by omega) (by omega), wr_id' (n := x.tmod (m42 c) + m42 c) (by omega) (by omega), tmod_low x (by omega)]
theorem x42_word {a c : Int} (h : -2147483648 ≤ a ∧ a ≤ 2147483647) : -2147483648 ≤ x42 a c ∧ x42 a c ≤ 2147483647 := by
  unfold x42
  split
  · have h1 := Int.lt_tmod_of_pos a (show (0 : Int) < 50 by decide)
    have h2 := Int.tmod_lt_of_pos a (show (0 : Int) < 50 by decide)
    omega
  · exact h
theorem a42 : Ans3p encI32 encU8 encU8 42 p42 (fun a n c => vlV (ofS a n c)) := fun a n c h => by
  obtain ⟨h1, h2, h3⟩ := p42_iff.1 h
  refine good_tree true 1000 20 rfl (fun ty k => t42 true ty a n c k) (fun ty => ?_) rfl
  have hx := x42_word (c := c) h1
  simp only [bc_ltB, sealI_eq]
  rw [wrapI_id' (n := a) (by omega) (by omega)]
  unfold ofS
  unfold x42 at *
  by_cases h60 : 60 < c
  · rw [if_pos h60] at hx ⊢
    simp only [if_pos h60]
    exact b42_eq hx h2 h3.1
  · rw [if_neg h60] at hx ⊢
    simp only [if_neg h60]
    exact b42_eq hx h2 h3.1
def e42 : Ent := mk3p encI32 encU8 encU8 42 _ _ a42
end
end Go.Ev
namespace Go.Ev
open Go.Proofs

noncomputable section
def pS (q : Bool) (X : Vl) (i : Int) : Int := mnI X.i.hi (wrapF .i64 (Int.add X.i.lo (wrapF .i64 (Int.mul X.r.m (sealI q (Int.tmod (IntKind.wrap .i64 i) 20))))))
def oS (q : Bool) (op : Int) : Int := wrapF .i64 (Int.add 1 (sealI q (Int.tmod (IntKind.wrap .i64 op) 14)))
def vq2 (v w : Vl) : Bool := eqIs [v.i.lo, v.i.hi, v.r.m, v.r.r] [w.i.lo, w.i.hi, w.r.m, w.r.r]
def tail7 {R : Type} (X Y : Vl) (o p q : Int) (k : Value → Option R) : Option R :=
  bc (hasV X p) (bc (hasV Y q) (bc (hasV (doV o X Y) (wDo o (w32 p) (w32 q))) (bc (hasV (joinV X Y) p) (bc (hasV (joinV X Y) q) (bc (leqV X (joinV X Y)) (bc (leqV Y (joinV X Y)) (bc (vq2 (redV X) X)
    (bc (vq2 (redV (doV o X Y)) (doV o X Y)) (bc (emptyV (doV o X Y)) (k (.bool false)) (k (.bool true))) (k (.bool false))) (k (.bool false))) (k (.bool false))) (k (.bool false))) (k (.bool false))) (k (.bool false))) (k (.bool false))) (k (.bool false))) (k (.bool false))
def head7 {R : Type} (s : Bool) (X Y : Vl) (op i j : Int) (k : Value → Option R) : Option R :=
  bc (ltB 0 X.r.m) (bc (ltB 0 Y.r.m) (tail7 X Y (oS s op) (pS s X i) (pS s Y j) k) (tail7 X Y (oS s op) (pS s X i) Y.i.lo k))
    (bc (ltB 0 Y.r.m) (tail7 X Y (oS s op) X.i.lo (pS s Y j) k) (tail7 X Y (oS s op) X.i.lo Y.i.lo k))
def ents7 : List Ent := [e42, e43, e27, e29, e21, e31, e33, e36, e10]
theorem t7 {R : Type} (s : Bool) (ty : Nat → TypeId) (op a b n0 n1 c0 c1 i j : Int) (k : Value → Option R) :
    ansK ⟨plainT, s⟩ ents7 1000 20 ty 7 [.int .u8 op, .int .i32 a, .int .i32 b, .agg ⟨[.int .u8 n0, .int .u8 n1]⟩, .agg ⟨[.int .u8 c0, .int .u8 c1]⟩, .int .u8 i, .int .u8 j] k =
    bc (p42 a n0 c0) (bc (p42 b n1 c1) (head7 s (ofS a n0 c0) (ofS b n1 c1) op i j k) none) none := by kernel_rfl

theorem tail7_true {X Y : Vl} {o p q : Int} (hx : Rf X) (hy : Rf Y) (hp : gam X p) (hq : gam Y q) (o1 : 1 ≤ o) (o2 : o ≤ 14) :
    tail7 X Y o p q (fun v => some v) = some (.bool true) := by
  obtain ⟨h1, h2, h3, h4, h5, h6, h7, h8, h9, h10⟩ := sound_law hx hy hp hq o1 o2
  unfold tail7
  rw [w32_id (Rf_word hx hp), w32_id (Rf_word hy hq), h1, h2, h3, h4, h5, h6, h7, h8, h9, h10]
  have v1 : vq2 X X = true := vq_true X
  have v2 : vq2 (doV o X Y) (doV o X Y) = true := vq_true _
  rw [v1, v2]
  rfl
theorem pS_gam {X : Vl} {n i : Int} (hX : Rf X) (hn : gam X n) (hm : 0 < X.r.m) (hi : 0 ≤ i ∧ i ≤ 255) : gam X (pS true X i) := by
  rcases hX with rfl | ⟨m, hm', rfl⟩ | hX
  · exact absurd hn gam_none
  · exact absurd hm (by show ¬ (0 : Int) < 0; decide)
  · obtain ⟨h1, h2, h3, h4, h5, h6, h7, h8⟩ := hX
    have hP := P2_pos h4
    have h20 : 0 ≤ i % 20 ∧ i % 20 ≤ 19 := by omega
    have hb : 0 ≤ X.r.m * (i % 20) ∧ X.r.m * (i % 20) ≤ 1073741824 * 19 :=
      ⟨Int.mul_nonneg (by omega) h20.1, Int.mul_le_mul hP.2 h20.2 h20.1 (by omega)⟩
    unfold pS
    rw [mnI_eq, sealI_eq, add_eq, mul_eq, wrapI_id' (n := i) (by omega) (by omega), Int.tmod_eq_emod_of_nonneg hi.1, wr_id' (n := X.r.m * (i % 20)) (by omega) (by omega), wr_id' (by omega) (by omega)]
    refine ⟨⟨by omega, by omega⟩, (inR_pos hP.1).2 ?_⟩
    by_cases hle : X.i.hi ≤ X.i.lo + X.r.m * (i % 20)
    · rw [show min X.i.hi (X.i.lo + X.r.m * (i % 20)) = X.i.hi by omega]; exact h8
    · rw [show min X.i.hi (X.i.lo + X.r.m * (i % 20)) - X.r.r = X.i.lo - X.r.r + X.r.m * (i % 20) by omega]
      exact Int.emod_eq_zero_of_dvd (Int.dvd_add (Int.dvd_of_emod_eq_zero h7) (Int.dvd_mul_right _ _))
theorem ofS_gam {a n c : Int} (h : p42 a n c = true) : gam (ofS a n c) (x42 a c) := by
  obtain ⟨h1, h2, h3⟩ := p42_iff.1 h
  have hx := x42_word (c := c) h1
  obtain ⟨-, -, e3, e4⟩ := mq_eq h3.1
  have h20 : 0 ≤ n % 20 ∧ n % 20 ≤ 19 := by omega
  have hm : 0 ≤ m42 c * (n % 20) := Int.mul_nonneg (by omega) h20.1
  unfold ofS
  refine redV_in hx ⟨Int.le_refl _, ?_⟩ ((inR_pos (f := ⟨m42 c, x42 a c % m42 c⟩) e3).2 ?_)
  · simp only []; omega
  · exact Int.emod_eq_zero_of_dvd Int.dvd_self_sub_emod
theorem oS_in {op : Int} (h : 0 ≤ op ∧ op ≤ 255) : 1 ≤ oS true op ∧ oS true op ≤ 14 := by
  unfold oS
  rw [sealI_eq, add_eq, wrapI_id' (n := op) (by omega) (by omega), Int.tmod_eq_emod_of_nonneg h.1, wr_id' (by omega) (by omega)]
  omega
def byte (n : Int) : Prop := 0 ≤ n ∧ n ≤ 255
theorem a7 {op a b n0 n1 c0 c1 i j : Int} (ho : byte op) (ha : word a) (hb : word b) (h0 : byte n0) (h1 : byte n1) (h2 : byte c0) (h3 : byte c1) (hi : byte i) (hj : byte j) :
    Good 7 [.int .u8 op, .int .i32 a, .int .i32 b, .agg ⟨[.int .u8 n0, .int .u8 n1]⟩, .agg ⟨[.int .u8 c0, .int .u8 c1]⟩, .int .u8 i, .int .u8 j] (.bool true) ∧ pf (.bool true) = true := by
  refine good_tree (l := ents7) true 1000 20 rfl (fun ty k => t7 true ty op a b n0 n1 c0 c1 i j k) (fun ty => ?_) rfl
  have px : p42 a n0 c0 = true := p42_iff.2 ⟨ha, h0, h2⟩
  have py : p42 b n1 c1 = true := p42_iff.2 ⟨hb, h1, h3⟩
  rw [px, py]
  show head7 true (ofS a n0 c0) (ofS b n1 c1) op i j (fun v => some v) = some (.bool true)
  have rx : Rf (ofS a n0 c0) := redV_Rf _
  have ry : Rf (ofS b n1 c1) := redV_Rf _
  have gx := ofS_gam px
  have gy := ofS_gam py
  generalize ofS a n0 c0 = X at *
  generalize ofS b n1 c1 = Y at *
  have ex := (ends_in rx gx).1
  have ey := (ends_in ry gy).1
  have hoo := oS_in ho
  unfold head7
  simp only [bc_ltB]
  by_cases hX : 0 < X.r.m
  · rw [if_pos hX]
    by_cases hY : 0 < Y.r.m
    · rw [if_pos hY]; exact tail7_true rx ry (pS_gam rx gx hX hi) (pS_gam ry gy hY hj) hoo.1 hoo.2
    · rw [if_neg hY]; exact tail7_true rx ry (pS_gam rx gx hX hi) ey hoo.1 hoo.2
  · rw [if_neg hX]
    by_cases hY : 0 < Y.r.m
    · rw [if_pos hY]; exact tail7_true rx ry ex (pS_gam ry gy hY hj) hoo.1 hoo.2
    · rw [if_neg hY]; exact tail7_true rx ry ex ey hoo.1 hoo.2
end
end Go.Ev
