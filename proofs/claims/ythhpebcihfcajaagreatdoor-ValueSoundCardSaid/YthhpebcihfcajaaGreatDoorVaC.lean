/-
  Intervals: what their functions answer, in the program and in the reference.
-/
import Derived.Test.YthhpebcihfcajaaGreatDoorVaB
set_option linter.unusedVariables false
set_option linter.unusedSimpArgs false
namespace Go.Ev
open Go.Proofs

theorem mnI_eq (x y : Int) : mnI x y = min x y := by
  unfold mnI; rw [bc_ltB]; split <;> omega
theorem mxI_eq (x y : Int) : mxI x y = max x y := by
  unfold mxI; rw [bc_ltB]; split <;> omega
theorem add_eq (a b : Int) : Int.add a b = a + b := rfl
theorem sub_eq (a b : Int) : Int.sub a b = a - b := rfl
theorem mul_eq (a b : Int) : Int.mul a b = a * b := rfl
theorem wr_id' {n : Int} (h : -9223372036854775808 ≤ n) (h' : n ≤ 9223372036854775807) : wrapF .i64 n = n := wr_id ⟨h, h'⟩

theorem fixI_cases (a : Iv) : ((fixI a).lo = 1 ∧ (fixI a).hi = 0) ∨ (-2147483648 ≤ (fixI a).lo ∧ (fixI a).lo ≤ (fixI a).hi ∧ (fixI a).hi ≤ 2147483647) := by
  unfold fixI
  split
  · assumption
  · exact .inr (by simp only []; omega)
theorem fixI_fix (a : Iv) : fixI (fixI a) = fixI a := if_pos (fixI_cases a)
theorem fixI_eta (a : Iv) : fixI (Iv.mk (Iv.lo (fixI a)) (Iv.hi (fixI a))) = fixI a := fixI_fix a

def noneI : Iv := ⟨1, 0⟩
def allI : Iv := ⟨-2147483648, 2147483647⟩
/-- From the least to the greatest; all words where one is no word. -/
def hull (lo hi : Int) : Iv := if -2147483648 ≤ lo ∧ hi ≤ 2147483647 then ⟨lo, hi⟩ else allI
def min4 (a b c d : Int) : Int := min (min (min a b) c) d
def max4 (a b c d : Int) : Int := max (max (max a b) c) d
def truthI (always never : Prop) [Decidable always] [Decidable never] : Iv := if always then ⟨1, 1⟩ else if never then ⟨0, 0⟩ else ⟨0, 1⟩

def cAdd (p q r s : Int) : Iv := hull (p + r) (q + s)
def cSub (p q r s : Int) : Iv := hull (p - s) (q - r)
def cMul (p q r s : Int) : Iv := hull (min4 (p * r) (p * s) (q * r) (q * s)) (max4 (p * r) (p * s) (q * r) (q * s))
def cDiv (p q r s : Int) : Iv := if 1 ≤ r then hull (min4 (p.tdiv r) (p.tdiv s) (q.tdiv r) (q.tdiv s)) (max4 (p.tdiv r) (p.tdiv s) (q.tdiv r) (q.tdiv s)) else allI
def cRem (p q r s : Int) : Iv := if 1 ≤ r then ⟨if p < 0 then max p (1 - s) else 0, if 0 < q then min q (s - 1) else 0⟩ else allI
def cAnd (p q r s : Int) : Iv := if 0 ≤ p then (if 0 ≤ r then ⟨0, min q s⟩ else ⟨0, q⟩) else if 0 ≤ r then ⟨0, s⟩ else allI
def cOr (p q r s : Int) : Iv := if 0 ≤ p ∧ 0 ≤ r then ⟨max p r, maskS (max q s)⟩ else allI
def cXor (p q r s : Int) : Iv := if 0 ≤ p ∧ 0 ≤ r then ⟨0, maskS (max q s)⟩ else allI
def cShl (p q r s : Int) : Iv := if r = s ∧ 0 ≤ r ∧ r ≤ 31 ∧ 0 ≤ p ∧ q * 2 ^ r.toNat ≤ 2147483647 then ⟨p * 2 ^ r.toNat, q * 2 ^ r.toNat⟩ else allI
def shr (a c : Int) : Int := a.fdiv (2 ^ c.toNat)
def cShr (p q r s : Int) : Iv := if 0 ≤ r ∧ s ≤ 31 then hull (min4 (shr p r) (shr p s) (shr q r) (shr q s)) (max4 (shr p r) (shr p s) (shr q r) (shr q s)) else ⟨min p 0, max q 0⟩
def cLt (p q r s : Int) : Iv := truthI (q < r) (s ≤ p)
def cLe (p q r s : Int) : Iv := truthI (q ≤ r) (s < p)
def cEq (p q r s : Int) : Iv := truthI (p = q ∧ r = s ∧ p = r) (q < r ∨ s < p)
def cNe (p q r s : Int) : Iv := truthI (q < r ∨ s < p) (p = q ∧ r = s ∧ p = r)
def coreI (op p q r s : Int) : Iv :=
  if op = 1 then cAdd p q r s else if op = 2 then cSub p q r s else if op = 3 then cMul p q r s else if op = 4 then cDiv p q r s else if op = 5 then cRem p q r s
  else if op = 6 then cAnd p q r s else if op = 7 then cOr p q r s else if op = 8 then cXor p q r s else if op = 9 then cShl p q r s else if op = 10 then cShr p q r s
  else if op = 11 then cLt p q r s else if op = 12 then cLe p q r s else if op = 13 then cEq p q r s else if op = 14 then cNe p q r s else allI
/-- The interval of the results of an operator. -/
def doI (op : Int) (a b : Iv) : Iv :=
  if (fixI a).hi < (fixI a).lo ∨ (fixI b).hi < (fixI b).lo then noneI else coreI op (fixI a).lo (fixI a).hi (fixI b).lo (fixI b).hi
def hasI (a : Iv) (n : Int) : Bool := decide ((fixI a).lo ≤ n) && decide (n ≤ (fixI a).hi)
def joinI (a b : Iv) : Iv :=
  if (fixI a).hi < (fixI a).lo then fixI b else if (fixI b).hi < (fixI b).lo then fixI a else ⟨min (fixI a).lo (fixI b).lo, max (fixI a).hi (fixI b).hi⟩
def leqI (a b : Iv) : Bool := decide ((fixI a).hi < (fixI a).lo) || (decide ((fixI b).lo ≤ (fixI a).lo) && decide ((fixI a).hi ≤ (fixI b).hi))

theorem iv_congr {lo hi lo' hi' : Int} (h : lo = lo') (h' : hi = hi') : some (Value.agg ⟨[.int .i64 lo, .int .i64 hi]⟩) = some (ivV ⟨lo', hi'⟩) := by rw [h, h']; rfl
theorem bc_le31 {α : Type} (n : Int) (x y : α) : bc (le31 n) x y = if n ≤ 2147483647 then x else y := by
  rw [bc_eq]; by_cases h : n ≤ 2147483647
  · rw [if_pos h, if_pos (le31_iff.2 h)]
  · rw [if_neg h, if_neg (by rw [le31_iff]; exact h)]

theorem mul_bound {a b : Int} (h1 : -2147483648 ≤ a) (h2 : a ≤ 2147483647) (h3 : -2147483648 ≤ b) (h4 : b ≤ 2147483647) : -4611686018427387904 ≤ a * b ∧ a * b ≤ 4611686018427387904 := by
  have ha : a.natAbs ≤ 2147483648 := by omega
  have hb : b.natAbs ≤ 2147483648 := by omega
  have h : (a * b).natAbs ≤ 2147483648 * 2147483648 := by rw [Int.natAbs_mul]; exact Nat.mul_le_mul ha hb
  omega
theorem tdiv_bound {a b : Int} (h1 : -2147483648 ≤ a) (h2 : a ≤ 2147483647) : -2147483648 ≤ a.tdiv b ∧ a.tdiv b ≤ 2147483648 := by
  have h : (a.tdiv b).natAbs ≤ a.natAbs := by rw [Int.natAbs_tdiv]; exact Nat.div_le_self _ _
  omega
theorem shr_bound {a c : Int} (h1 : -2147483648 ≤ a) (h2 : a ≤ 2147483647) : -2147483648 ≤ shr a c ∧ shr a c ≤ 2147483647 := by
  unfold shr
  have hp : (0 : Int) < 2 ^ c.toNat := by
    have : (1 : Int) ≤ 2 ^ c.toNat := by
      have : (2 : Int) ^ 0 ≤ 2 ^ c.toNat := pow_le_iff.2 (by omega)
      simpa using this
    omega
  rw [Int.fdiv_eq_ediv_of_nonneg _ (by omega)]
  constructor
  · rw [Int.le_ediv_iff_mul_le hp]
    have : (-2147483648 : Int) * 2 ^ c.toNat ≤ -2147483648 * 1 := Int.mul_le_mul_of_nonpos_left (by omega) (by omega)
    omega
  · have h3 : a / 2 ^ c.toNat < 2147483648 := by
      rw [Int.ediv_lt_iff_lt_mul hp]
      have : (2147483648 : Int) * 1 ≤ 2147483648 * 2 ^ c.toNat := Int.mul_le_mul_of_nonneg_left (by omega) (by omega)
      omega
    omega
theorem shrI_eq {a c : Int} (h : 0 ≤ c) (h' : c ≤ 63) : shrI .i64 a c = shr a c := by
  unfold shrI shr
  rw [show min c.toNat IntKind.i64.bits = c.toNat by show min _ 64 = _; omega]
theorem shlI_eq {a c : Int} (h1 : 0 ≤ a) (h2 : a ≤ 2147483647) (h : 0 ≤ c) (h' : c ≤ 31) : shlI .i64 a c = a * 2 ^ c.toNat := by
  unfold shlI
  rw [show min c.toNat IntKind.i64.bits = c.toNat by show min _ 64 = _; omega, ← wrapF_eq]
  have h3 : (2 : Int) ^ c.toNat ≤ 2 ^ 31 := pow_le_iff.2 (by omega)
  have h4 : (1 : Int) ≤ 2 ^ c.toNat := by
    have : (2 : Int) ^ 0 ≤ 2 ^ c.toNat := pow_le_iff.2 (by omega)
    simpa using this
  have h5 : (2 : Int) ^ 31 = 2147483648 := rfl
  have h6 : a * 2 ^ c.toNat ≤ 2147483647 * 2147483648 := Int.mul_le_mul h2 (by omega) (by omega) (by omega)
  have h7 : 0 ≤ a * 2 ^ c.toNat := Int.mul_nonneg h1 (by omega)
  exact wr_id (by omega)
theorem wrapI_id' {n : Int} (h : -9223372036854775808 ≤ n) (h' : n ≤ 9223372036854775807) : IntKind.wrap .i64 n = n := by rw [← wrapF_eq]; exact wr_id ⟨h, h'⟩
theorem maskF_ge : ∀ (k : Nat) (m n : Int), 0 ≤ m → n ≤ 2 ^ k * (m + 1) - 1 → n ≤ maskF k m n ∧ 0 ≤ maskF k m n
  | 0, m, n, h0, h => by simp only [maskF]; omega
  | k + 1, m, n, h0, h => by
    unfold maskF
    split
    · refine maskF_ge k (2 * m + 1) n (by omega) ?_
      rw [show (2 * m + 1 + 1 : Int) = 2 * (m + 1) by omega, ← Int.mul_assoc]
      rw [Int.pow_succ] at h
      exact h
    · omega
theorem maskS_ge {n : Int} (h : n ≤ 2147483647) : n ≤ maskS n ∧ 0 ≤ maskS n := maskF_ge 33 0 n (by omega) (by omega)
theorem wrapU_id {n : Int} (h : 0 ≤ n) (h' : n < 18446744073709551616) : IntKind.wrap .u64 n = n := by
  simp only [IntKind.wrap, IntKind.bits, IntKind.signed]
  simp only [Bool.false_and, Bool.false_eq_true, if_false]
  omega
noncomputable section
theorem a72_0 (a b : Iv) : Good 72 [.int .i64 (0), ivV a, ivV b] (ivV (doI (0) a b)) ∧ pf (ivV (doI (0) a b)) = true := by
  refine good_tree true 1000 20 rfl (fun ty k => t72_0 true ty a b k) (fun ty => ?_) rfl
  have hA := fixI_cases a
  have hB := fixI_cases b
  unfold doI
  simp only [fixI_eta]
  generalize fixI a = A at *
  generalize fixI b = B at *
  obtain ⟨p, q⟩ := A
  obtain ⟨r, s⟩ := B
  simp only [] at hA hB
  have hp : -2147483648 ≤ p ∧ p ≤ 2147483647 := by omega
  have hq : -2147483648 ≤ q ∧ q ≤ 2147483647 := by omega
  have hr : -2147483648 ≤ r ∧ r ≤ 2147483647 := by omega
  have hs : -2147483648 ≤ s ∧ s ≤ 2147483647 := by omega
  simp only [bc_isW, bc_nltB, bc_ltB, bc_eqB, bc_neqB, bc_eqIs2, bc_neqIs2, bc_le31, sealI_eq, mnI_eq, mxI_eq, add_eq, sub_eq, mul_eq]
  try simp (disch := omega) only [wr_id', wrapI_id']
  by_cases e1 : q < p
  · rw [if_pos e1]
    rw [if_pos (show q < p ∨ s < r from .inl e1)]; rfl
  by_cases e2 : s < r
  · rw [if_neg e1, if_pos e2]
    rw [if_pos (show q < p ∨ s < r from .inr e2)]; rfl
  rw [if_neg (show ¬ (q < p ∨ s < r) by omega)]
  rw [if_neg e1, if_neg e2]
  change _ = some (ivV (allI))
  try simp only [e1, e2, if_false]
  have hpq : p ≤ q := by omega
  have hrs : r ≤ s := by omega
  clear hA hB
  unfold allI
  try unfold allI
  repeat' split
  all_goals first | rfl | (exfalso; omega) | (apply iv_congr <;> omega)

theorem a74_0 (a b : Iv) : Good 74 [.int .i64 (0), ivV a, ivV b] (ivV (doI (0) a b)) ∧ pf (ivV (doI (0) a b)) = true := by
  refine good_tree true 1000 20 rfl (fun ty k => t74_0 true ty a b k) (fun ty => ?_) rfl
  have hA := fixI_cases a
  have hB := fixI_cases b
  unfold doI
  simp only [fixI_eta]
  generalize fixI a = A at *
  generalize fixI b = B at *
  obtain ⟨p, q⟩ := A
  obtain ⟨r, s⟩ := B
  simp only [] at hA hB
  have hp : -2147483648 ≤ p ∧ p ≤ 2147483647 := by omega
  have hq : -2147483648 ≤ q ∧ q ≤ 2147483647 := by omega
  have hr : -2147483648 ≤ r ∧ r ≤ 2147483647 := by omega
  have hs : -2147483648 ≤ s ∧ s ≤ 2147483647 := by omega
  simp only [bc_isW, bc_nltB, bc_ltB, bc_eqB, bc_neqB, bc_eqIs2, bc_neqIs2, bc_le31, sealI_eq, mnI_eq, mxI_eq, add_eq, sub_eq, mul_eq]
  try simp (disch := omega) only [wr_id', wrapI_id']
  by_cases e1 : q < p
  · rw [if_pos (show p = 1 ∧ q = 0 by omega)]
    rw [if_pos (show q < p ∨ s < r from .inl e1)]; rfl
  by_cases e2 : s < r
  · rw [if_neg (show ¬ (p = 1 ∧ q = 0) by omega), if_pos (show r = 1 ∧ s = 0 by omega)]
    rw [if_pos (show q < p ∨ s < r from .inr e2)]; rfl
  rw [if_neg (show ¬ (q < p ∨ s < r) by omega)]
  rw [if_neg (show ¬ (p = 1 ∧ q = 0) by omega), if_neg (show ¬ (r = 1 ∧ s = 0) by omega)]
  change _ = some (ivV (allI))
  try simp only [e1, e2, if_false]
  have hpq : p ≤ q := by omega
  have hrs : r ≤ s := by omega
  clear hA hB
  unfold allI
  try unfold allI
  repeat' split
  all_goals first | rfl | (exfalso; omega) | (apply iv_congr <;> omega)

theorem a72_1 (a b : Iv) : Good 72 [.int .i64 (1), ivV a, ivV b] (ivV (doI (1) a b)) ∧ pf (ivV (doI (1) a b)) = true := by
  refine good_tree true 1000 20 rfl (fun ty k => t72_1 true ty a b k) (fun ty => ?_) rfl
  have hA := fixI_cases a
  have hB := fixI_cases b
  unfold doI
  simp only [fixI_eta]
  generalize fixI a = A at *
  generalize fixI b = B at *
  obtain ⟨p, q⟩ := A
  obtain ⟨r, s⟩ := B
  simp only [] at hA hB
  have hp : -2147483648 ≤ p ∧ p ≤ 2147483647 := by omega
  have hq : -2147483648 ≤ q ∧ q ≤ 2147483647 := by omega
  have hr : -2147483648 ≤ r ∧ r ≤ 2147483647 := by omega
  have hs : -2147483648 ≤ s ∧ s ≤ 2147483647 := by omega
  simp only [bc_isW, bc_nltB, bc_ltB, bc_eqB, bc_neqB, bc_eqIs2, bc_neqIs2, bc_le31, sealI_eq, mnI_eq, mxI_eq, add_eq, sub_eq, mul_eq]
  try simp (disch := omega) only [wr_id', wrapI_id']
  by_cases e1 : q < p
  · rw [if_pos e1]
    rw [if_pos (show q < p ∨ s < r from .inl e1)]; rfl
  by_cases e2 : s < r
  · rw [if_neg e1, if_pos e2]
    rw [if_pos (show q < p ∨ s < r from .inr e2)]; rfl
  rw [if_neg (show ¬ (q < p ∨ s < r) by omega)]
  rw [if_neg e1, if_neg e2]
  change _ = some (ivV (cAdd p q r s))
  try simp only [e1, e2, if_false]
  have hpq : p ≤ q := by omega
  have hrs : r ≤ s := by omega
  clear hA hB
  unfold cAdd hull
  try unfold allI
  repeat' split
  all_goals first | rfl | (exfalso; omega) | (apply iv_congr <;> omega)

theorem a74_1 (a b : Iv) : Good 74 [.int .i64 (1), ivV a, ivV b] (ivV (doI (1) a b)) ∧ pf (ivV (doI (1) a b)) = true := by
  refine good_tree true 1000 20 rfl (fun ty k => t74_1 true ty a b k) (fun ty => ?_) rfl
  have hA := fixI_cases a
  have hB := fixI_cases b
  unfold doI
  simp only [fixI_eta]
  generalize fixI a = A at *
  generalize fixI b = B at *
  obtain ⟨p, q⟩ := A
  obtain ⟨r, s⟩ := B
  simp only [] at hA hB
  have hp : -2147483648 ≤ p ∧ p ≤ 2147483647 := by omega
  have hq : -2147483648 ≤ q ∧ q ≤ 2147483647 := by omega
  have hr : -2147483648 ≤ r ∧ r ≤ 2147483647 := by omega
  have hs : -2147483648 ≤ s ∧ s ≤ 2147483647 := by omega
  simp only [bc_isW, bc_nltB, bc_ltB, bc_eqB, bc_neqB, bc_eqIs2, bc_neqIs2, bc_le31, sealI_eq, mnI_eq, mxI_eq, add_eq, sub_eq, mul_eq]
  try simp (disch := omega) only [wr_id', wrapI_id']
  by_cases e1 : q < p
  · rw [if_pos (show p = 1 ∧ q = 0 by omega)]
    rw [if_pos (show q < p ∨ s < r from .inl e1)]; rfl
  by_cases e2 : s < r
  · rw [if_neg (show ¬ (p = 1 ∧ q = 0) by omega), if_pos (show r = 1 ∧ s = 0 by omega)]
    rw [if_pos (show q < p ∨ s < r from .inr e2)]; rfl
  rw [if_neg (show ¬ (q < p ∨ s < r) by omega)]
  rw [if_neg (show ¬ (p = 1 ∧ q = 0) by omega), if_neg (show ¬ (r = 1 ∧ s = 0) by omega)]
  change _ = some (ivV (cAdd p q r s))
  try simp only [e1, e2, if_false]
  have hpq : p ≤ q := by omega
  have hrs : r ≤ s := by omega
  clear hA hB
  unfold cAdd hull
  try unfold allI
  repeat' split
  all_goals first | rfl | (exfalso; omega) | (apply iv_congr <;> omega)

theorem a72_2 (a b : Iv) : Good 72 [.int .i64 (2), ivV a, ivV b] (ivV (doI (2) a b)) ∧ pf (ivV (doI (2) a b)) = true := by
  refine good_tree true 1000 20 rfl (fun ty k => t72_2 true ty a b k) (fun ty => ?_) rfl
  have hA := fixI_cases a
  have hB := fixI_cases b
  unfold doI
  simp only [fixI_eta]
  generalize fixI a = A at *
  generalize fixI b = B at *
  obtain ⟨p, q⟩ := A
  obtain ⟨r, s⟩ := B
  simp only [] at hA hB
  have hp : -2147483648 ≤ p ∧ p ≤ 2147483647 := by omega
  have hq : -2147483648 ≤ q ∧ q ≤ 2147483647 := by omega
  have hr : -2147483648 ≤ r ∧ r ≤ 2147483647 := by omega
  have hs : -2147483648 ≤ s ∧ s ≤ 2147483647 := by omega
  simp only [bc_isW, bc_nltB, bc_ltB, bc_eqB, bc_neqB, bc_eqIs2, bc_neqIs2, bc_le31, sealI_eq, mnI_eq, mxI_eq, add_eq, sub_eq, mul_eq]
  try simp (disch := omega) only [wr_id', wrapI_id']
  by_cases e1 : q < p
  · rw [if_pos e1]
    rw [if_pos (show q < p ∨ s < r from .inl e1)]; rfl
  by_cases e2 : s < r
  · rw [if_neg e1, if_pos e2]
    rw [if_pos (show q < p ∨ s < r from .inr e2)]; rfl
  rw [if_neg (show ¬ (q < p ∨ s < r) by omega)]
  rw [if_neg e1, if_neg e2]
  change _ = some (ivV (cSub p q r s))
  try simp only [e1, e2, if_false]
  have hpq : p ≤ q := by omega
  have hrs : r ≤ s := by omega
  clear hA hB
  unfold cSub hull
  try unfold allI
  repeat' split
  all_goals first | rfl | (exfalso; omega) | (apply iv_congr <;> omega)

theorem a74_2 (a b : Iv) : Good 74 [.int .i64 (2), ivV a, ivV b] (ivV (doI (2) a b)) ∧ pf (ivV (doI (2) a b)) = true := by
  refine good_tree true 1000 20 rfl (fun ty k => t74_2 true ty a b k) (fun ty => ?_) rfl
  have hA := fixI_cases a
  have hB := fixI_cases b
  unfold doI
  simp only [fixI_eta]
  generalize fixI a = A at *
  generalize fixI b = B at *
  obtain ⟨p, q⟩ := A
  obtain ⟨r, s⟩ := B
  simp only [] at hA hB
  have hp : -2147483648 ≤ p ∧ p ≤ 2147483647 := by omega
  have hq : -2147483648 ≤ q ∧ q ≤ 2147483647 := by omega
  have hr : -2147483648 ≤ r ∧ r ≤ 2147483647 := by omega
  have hs : -2147483648 ≤ s ∧ s ≤ 2147483647 := by omega
  simp only [bc_isW, bc_nltB, bc_ltB, bc_eqB, bc_neqB, bc_eqIs2, bc_neqIs2, bc_le31, sealI_eq, mnI_eq, mxI_eq, add_eq, sub_eq, mul_eq]
  try simp (disch := omega) only [wr_id', wrapI_id']
  by_cases e1 : q < p
  · rw [if_pos (show p = 1 ∧ q = 0 by omega)]
    rw [if_pos (show q < p ∨ s < r from .inl e1)]; rfl
  by_cases e2 : s < r
  · rw [if_neg (show ¬ (p = 1 ∧ q = 0) by omega), if_pos (show r = 1 ∧ s = 0 by omega)]
    rw [if_pos (show q < p ∨ s < r from .inr e2)]; rfl
  rw [if_neg (show ¬ (q < p ∨ s < r) by omega)]
  rw [if_neg (show ¬ (p = 1 ∧ q = 0) by omega), if_neg (show ¬ (r = 1 ∧ s = 0) by omega)]
  change _ = some (ivV (cSub p q r s))
  try simp only [e1, e2, if_false]
  have hpq : p ≤ q := by omega
  have hrs : r ≤ s := by omega
  clear hA hB
  unfold cSub hull
  try unfold allI
  repeat' split
  all_goals first | rfl | (exfalso; omega) | (apply iv_congr <;> omega)

theorem a72_3 (a b : Iv) : Good 72 [.int .i64 (3), ivV a, ivV b] (ivV (doI (3) a b)) ∧ pf (ivV (doI (3) a b)) = true := by
  refine good_tree true 1000 20 rfl (fun ty k => t72_3 true ty a b k) (fun ty => ?_) rfl
  have hA := fixI_cases a
  have hB := fixI_cases b
  unfold doI
  simp only [fixI_eta]
  generalize fixI a = A at *
  generalize fixI b = B at *
  obtain ⟨p, q⟩ := A
  obtain ⟨r, s⟩ := B
  simp only [] at hA hB
  have hp : -2147483648 ≤ p ∧ p ≤ 2147483647 := by omega
  have hq : -2147483648 ≤ q ∧ q ≤ 2147483647 := by omega
  have hr : -2147483648 ≤ r ∧ r ≤ 2147483647 := by omega
  have hs : -2147483648 ≤ s ∧ s ≤ 2147483647 := by omega
  have m1 := mul_bound hp.1 hp.2 hr.1 hr.2
  have m2 := mul_bound hp.1 hp.2 hs.1 hs.2
  have m3 := mul_bound hq.1 hq.2 hr.1 hr.2
  have m4 := mul_bound hq.1 hq.2 hs.1 hs.2
  simp only [bc_isW, bc_nltB, bc_ltB, bc_eqB, bc_neqB, bc_eqIs2, bc_neqIs2, bc_le31, sealI_eq, mnI_eq, mxI_eq, add_eq, sub_eq, mul_eq]
  try simp (disch := omega) only [wr_id', wrapI_id']
  by_cases e1 : q < p
  · rw [if_pos e1]
    rw [if_pos (show q < p ∨ s < r from .inl e1)]; rfl
  by_cases e2 : s < r
  · rw [if_neg e1, if_pos e2]
    rw [if_pos (show q < p ∨ s < r from .inr e2)]; rfl
  rw [if_neg (show ¬ (q < p ∨ s < r) by omega)]
  rw [if_neg e1, if_neg e2]
  change _ = some (ivV (cMul p q r s))
  try simp only [e1, e2, if_false]
  have hpq : p ≤ q := by omega
  have hrs : r ≤ s := by omega
  clear hA hB
  have hlh : min4 (p * r) (p * s) (q * r) (q * s) ≤ max4 (p * r) (p * s) (q * r) (q * s) := by unfold min4 max4; omega
  unfold cMul
  change _ = some (ivV _)
  simp only [show ∀ x y z w : Int, min (min (min x y) z) w = min4 x y z w from fun _ _ _ _ => rfl, show ∀ x y z w : Int, max (max (max x y) z) w = max4 x y z w from fun _ _ _ _ => rfl]
  generalize min4 (p * r) (p * s) (q * r) (q * s) = lo at *
  generalize max4 (p * r) (p * s) (q * r) (q * s) = hi at *
  unfold hull
  try unfold allI
  repeat' split
  all_goals first | rfl | (exfalso; omega) | (apply iv_congr <;> omega)

theorem a74_3 (a b : Iv) : Good 74 [.int .i64 (3), ivV a, ivV b] (ivV (doI (3) a b)) ∧ pf (ivV (doI (3) a b)) = true := by
  refine good_tree true 1000 20 rfl (fun ty k => t74_3 true ty a b k) (fun ty => ?_) rfl
  have hA := fixI_cases a
  have hB := fixI_cases b
  unfold doI
  simp only [fixI_eta]
  generalize fixI a = A at *
  generalize fixI b = B at *
  obtain ⟨p, q⟩ := A
  obtain ⟨r, s⟩ := B
  simp only [] at hA hB
  have hp : -2147483648 ≤ p ∧ p ≤ 2147483647 := by omega
  have hq : -2147483648 ≤ q ∧ q ≤ 2147483647 := by omega
  have hr : -2147483648 ≤ r ∧ r ≤ 2147483647 := by omega
  have hs : -2147483648 ≤ s ∧ s ≤ 2147483647 := by omega
  have m1 := mul_bound hp.1 hp.2 hr.1 hr.2
  have m2 := mul_bound hp.1 hp.2 hs.1 hs.2
  have m3 := mul_bound hq.1 hq.2 hr.1 hr.2
  have m4 := mul_bound hq.1 hq.2 hs.1 hs.2
  simp only [bc_isW, bc_nltB, bc_ltB, bc_eqB, bc_neqB, bc_eqIs2, bc_neqIs2, bc_le31, sealI_eq, mnI_eq, mxI_eq, add_eq, sub_eq, mul_eq]
  try simp (disch := omega) only [wr_id', wrapI_id']
  by_cases e1 : q < p
  · rw [if_pos (show p = 1 ∧ q = 0 by omega)]
    rw [if_pos (show q < p ∨ s < r from .inl e1)]; rfl
  by_cases e2 : s < r
  · rw [if_neg (show ¬ (p = 1 ∧ q = 0) by omega), if_pos (show r = 1 ∧ s = 0 by omega)]
    rw [if_pos (show q < p ∨ s < r from .inr e2)]; rfl
  rw [if_neg (show ¬ (q < p ∨ s < r) by omega)]
  rw [if_neg (show ¬ (p = 1 ∧ q = 0) by omega), if_neg (show ¬ (r = 1 ∧ s = 0) by omega)]
  change _ = some (ivV (cMul p q r s))
  try simp only [e1, e2, if_false]
  have hpq : p ≤ q := by omega
  have hrs : r ≤ s := by omega
  clear hA hB
  have hlh : min4 (p * r) (p * s) (q * r) (q * s) ≤ max4 (p * r) (p * s) (q * r) (q * s) := by unfold min4 max4; omega
  unfold cMul
  change _ = some (ivV _)
  simp only [show ∀ x y z w : Int, min (min (min x y) z) w = min4 x y z w from fun _ _ _ _ => rfl, show ∀ x y z w : Int, max (max (max x y) z) w = max4 x y z w from fun _ _ _ _ => rfl]
  generalize min4 (p * r) (p * s) (q * r) (q * s) = lo at *
  generalize max4 (p * r) (p * s) (q * r) (q * s) = hi at *
  unfold hull
  try unfold allI
  repeat' split
  all_goals first | rfl | (exfalso; omega) | (apply iv_congr <;> omega)

theorem a72_4 (a b : Iv) : Good 72 [.int .i64 (4), ivV a, ivV b] (ivV (doI (4) a b)) ∧ pf (ivV (doI (4) a b)) = true := by
  refine good_tree true 1000 20 rfl (fun ty k => t72_4 true ty a b k) (fun ty => ?_) rfl
  have hA := fixI_cases a
  have hB := fixI_cases b
  unfold doI
  simp only [fixI_eta]
  generalize fixI a = A at *
  generalize fixI b = B at *
  obtain ⟨p, q⟩ := A
  obtain ⟨r, s⟩ := B
  simp only [] at hA hB
  have hp : -2147483648 ≤ p ∧ p ≤ 2147483647 := by omega
  have hq : -2147483648 ≤ q ∧ q ≤ 2147483647 := by omega
  have hr : -2147483648 ≤ r ∧ r ≤ 2147483647 := by omega
  have hs : -2147483648 ≤ s ∧ s ≤ 2147483647 := by omega
  have d1 := tdiv_bound (b := r) hp.1 hp.2
  have d2 := tdiv_bound (b := s) hp.1 hp.2
  have d3 := tdiv_bound (b := r) hq.1 hq.2
  have d4 := tdiv_bound (b := s) hq.1 hq.2
  have w1 : wrapF .i64 (p.tdiv r) = p.tdiv r := wr_id (by omega)
  have w2 : wrapF .i64 (p.tdiv s) = p.tdiv s := wr_id (by omega)
  have w3 : wrapF .i64 (q.tdiv r) = q.tdiv r := wr_id (by omega)
  have w4 : wrapF .i64 (q.tdiv s) = q.tdiv s := wr_id (by omega)
  simp only [bc_isW, bc_nltB, bc_ltB, bc_eqB, bc_neqB, bc_eqIs2, bc_neqIs2, bc_le31, sealI_eq, mnI_eq, mxI_eq, add_eq, sub_eq, mul_eq]
  try simp (disch := omega) only [wr_id', wrapI_id']
  by_cases e1 : q < p
  · rw [if_pos e1]
    rw [if_pos (show q < p ∨ s < r from .inl e1)]; rfl
  by_cases e2 : s < r
  · rw [if_neg e1, if_pos e2]
    rw [if_pos (show q < p ∨ s < r from .inr e2)]; rfl
  rw [if_neg (show ¬ (q < p ∨ s < r) by omega)]
  rw [if_neg e1, if_neg e2]
  change _ = some (ivV (cDiv p q r s))
  try simp only [e1, e2, if_false]
  have hpq : p ≤ q := by omega
  have hrs : r ≤ s := by omega
  clear hA hB
  have hlh : min4 (p.tdiv r) (p.tdiv s) (q.tdiv r) (q.tdiv s) ≤ max4 (p.tdiv r) (p.tdiv s) (q.tdiv r) (q.tdiv s) := by unfold min4 max4; omega
  by_cases h1 : 1 ≤ r
  · have n1 : ¬ r = 0 := by omega
    have n2 : ¬ s = 0 := by omega
    simp only [cDiv, h1, n1, n2, w1, w2, w3, w4, if_true, if_false, show ∀ x y z w : Int, min (min (min x y) z) w = min4 x y z w from fun _ _ _ _ => rfl, show ∀ x y z w : Int, max (max (max x y) z) w = max4 x y z w from fun _ _ _ _ => rfl]
    generalize min4 (p.tdiv r) (p.tdiv s) (q.tdiv r) (q.tdiv s) = lo at *
    generalize max4 (p.tdiv r) (p.tdiv s) (q.tdiv r) (q.tdiv s) = hi at *
    unfold hull allI
    repeat' split
    all_goals first | rfl | (exfalso; omega) | (apply iv_congr <;> omega)
  · simp only [cDiv, h1, if_false, allI]; first | rfl | ((repeat' split) <;> first | rfl | (exfalso; omega))

theorem a74_4 (a b : Iv) : Good 74 [.int .i64 (4), ivV a, ivV b] (ivV (doI (4) a b)) ∧ pf (ivV (doI (4) a b)) = true := by
  refine good_tree true 1000 20 rfl (fun ty k => t74_4 true ty a b k) (fun ty => ?_) rfl
  have hA := fixI_cases a
  have hB := fixI_cases b
  unfold doI
  simp only [fixI_eta]
  generalize fixI a = A at *
  generalize fixI b = B at *
  obtain ⟨p, q⟩ := A
  obtain ⟨r, s⟩ := B
  simp only [] at hA hB
  have hp : -2147483648 ≤ p ∧ p ≤ 2147483647 := by omega
  have hq : -2147483648 ≤ q ∧ q ≤ 2147483647 := by omega
  have hr : -2147483648 ≤ r ∧ r ≤ 2147483647 := by omega
  have hs : -2147483648 ≤ s ∧ s ≤ 2147483647 := by omega
  have d1 := tdiv_bound (b := r) hp.1 hp.2
  have d2 := tdiv_bound (b := s) hp.1 hp.2
  have d3 := tdiv_bound (b := r) hq.1 hq.2
  have d4 := tdiv_bound (b := s) hq.1 hq.2
  have w1 : wrapF .i64 (p.tdiv r) = p.tdiv r := wr_id (by omega)
  have w2 : wrapF .i64 (p.tdiv s) = p.tdiv s := wr_id (by omega)
  have w3 : wrapF .i64 (q.tdiv r) = q.tdiv r := wr_id (by omega)
  have w4 : wrapF .i64 (q.tdiv s) = q.tdiv s := wr_id (by omega)
  simp only [bc_isW, bc_nltB, bc_ltB, bc_eqB, bc_neqB, bc_eqIs2, bc_neqIs2, bc_le31, sealI_eq, mnI_eq, mxI_eq, add_eq, sub_eq, mul_eq]
  try simp (disch := omega) only [wr_id', wrapI_id']
  by_cases e1 : q < p
  · rw [if_pos (show p = 1 ∧ q = 0 by omega)]
    rw [if_pos (show q < p ∨ s < r from .inl e1)]; rfl
  by_cases e2 : s < r
  · rw [if_neg (show ¬ (p = 1 ∧ q = 0) by omega), if_pos (show r = 1 ∧ s = 0 by omega)]
    rw [if_pos (show q < p ∨ s < r from .inr e2)]; rfl
  rw [if_neg (show ¬ (q < p ∨ s < r) by omega)]
  rw [if_neg (show ¬ (p = 1 ∧ q = 0) by omega), if_neg (show ¬ (r = 1 ∧ s = 0) by omega)]
  change _ = some (ivV (cDiv p q r s))
  try simp only [e1, e2, if_false]
  have hpq : p ≤ q := by omega
  have hrs : r ≤ s := by omega
  clear hA hB
  have hlh : min4 (p.tdiv r) (p.tdiv s) (q.tdiv r) (q.tdiv s) ≤ max4 (p.tdiv r) (p.tdiv s) (q.tdiv r) (q.tdiv s) := by unfold min4 max4; omega
  by_cases h1 : 1 ≤ r
  · have n1 : ¬ r = 0 := by omega
    have n2 : ¬ s = 0 := by omega
    simp only [cDiv, h1, n1, n2, w1, w2, w3, w4, if_true, if_false, show ∀ x y z w : Int, min (min (min x y) z) w = min4 x y z w from fun _ _ _ _ => rfl, show ∀ x y z w : Int, max (max (max x y) z) w = max4 x y z w from fun _ _ _ _ => rfl]
    generalize min4 (p.tdiv r) (p.tdiv s) (q.tdiv r) (q.tdiv s) = lo at *
    generalize max4 (p.tdiv r) (p.tdiv s) (q.tdiv r) (q.tdiv s) = hi at *
    unfold hull allI
    repeat' split
    all_goals first | rfl | (exfalso; omega) | (apply iv_congr <;> omega)
  · simp only [cDiv, h1, if_false, allI]; first | rfl | ((repeat' split) <;> first | rfl | (exfalso; omega))

theorem a72_5 (a b : Iv) : Good 72 [.int .i64 (5), ivV a, ivV b] (ivV (doI (5) a b)) ∧ pf (ivV (doI (5) a b)) = true := by
  refine good_tree true 1000 20 rfl (fun ty k => t72_5 true ty a b k) (fun ty => ?_) rfl
  have hA := fixI_cases a
  have hB := fixI_cases b
  unfold doI
  simp only [fixI_eta]
  generalize fixI a = A at *
  generalize fixI b = B at *
  obtain ⟨p, q⟩ := A
  obtain ⟨r, s⟩ := B
  simp only [] at hA hB
  have hp : -2147483648 ≤ p ∧ p ≤ 2147483647 := by omega
  have hq : -2147483648 ≤ q ∧ q ≤ 2147483647 := by omega
  have hr : -2147483648 ≤ r ∧ r ≤ 2147483647 := by omega
  have hs : -2147483648 ≤ s ∧ s ≤ 2147483647 := by omega
  simp only [bc_isW, bc_nltB, bc_ltB, bc_eqB, bc_neqB, bc_eqIs2, bc_neqIs2, bc_le31, sealI_eq, mnI_eq, mxI_eq, add_eq, sub_eq, mul_eq]
  try simp (disch := omega) only [wr_id', wrapI_id']
  by_cases e1 : q < p
  · rw [if_pos e1]
    rw [if_pos (show q < p ∨ s < r from .inl e1)]; rfl
  by_cases e2 : s < r
  · rw [if_neg e1, if_pos e2]
    rw [if_pos (show q < p ∨ s < r from .inr e2)]; rfl
  rw [if_neg (show ¬ (q < p ∨ s < r) by omega)]
  rw [if_neg e1, if_neg e2]
  change _ = some (ivV (cRem p q r s))
  try simp only [e1, e2, if_false]
  have hpq : p ≤ q := by omega
  have hrs : r ≤ s := by omega
  clear hA hB
  unfold cRem
  try unfold allI
  repeat' split
  all_goals first | rfl | (exfalso; omega) | (apply iv_congr <;> omega)

theorem a74_5 (a b : Iv) : Good 74 [.int .i64 (5), ivV a, ivV b] (ivV (doI (5) a b)) ∧ pf (ivV (doI (5) a b)) = true := by
  refine good_tree true 1000 20 rfl (fun ty k => t74_5 true ty a b k) (fun ty => ?_) rfl
  have hA := fixI_cases a
  have hB := fixI_cases b
  unfold doI
  simp only [fixI_eta]
  generalize fixI a = A at *
  generalize fixI b = B at *
  obtain ⟨p, q⟩ := A
  obtain ⟨r, s⟩ := B
  simp only [] at hA hB
  have hp : -2147483648 ≤ p ∧ p ≤ 2147483647 := by omega
  have hq : -2147483648 ≤ q ∧ q ≤ 2147483647 := by omega
  have hr : -2147483648 ≤ r ∧ r ≤ 2147483647 := by omega
  have hs : -2147483648 ≤ s ∧ s ≤ 2147483647 := by omega
  simp only [bc_isW, bc_nltB, bc_ltB, bc_eqB, bc_neqB, bc_eqIs2, bc_neqIs2, bc_le31, sealI_eq, mnI_eq, mxI_eq, add_eq, sub_eq, mul_eq]
  try simp (disch := omega) only [wr_id', wrapI_id']
  by_cases e1 : q < p
  · rw [if_pos (show p = 1 ∧ q = 0 by omega)]
    rw [if_pos (show q < p ∨ s < r from .inl e1)]; rfl
  by_cases e2 : s < r
  · rw [if_neg (show ¬ (p = 1 ∧ q = 0) by omega), if_pos (show r = 1 ∧ s = 0 by omega)]
    rw [if_pos (show q < p ∨ s < r from .inr e2)]; rfl
  rw [if_neg (show ¬ (q < p ∨ s < r) by omega)]
  rw [if_neg (show ¬ (p = 1 ∧ q = 0) by omega), if_neg (show ¬ (r = 1 ∧ s = 0) by omega)]
  change _ = some (ivV (cRem p q r s))
  try simp only [e1, e2, if_false]
  have hpq : p ≤ q := by omega
  have hrs : r ≤ s := by omega
  clear hA hB
  unfold cRem
  try unfold allI
  repeat' split
  all_goals first | rfl | (exfalso; omega) | (apply iv_congr <;> omega)

theorem a72_6 (a b : Iv) : Good 72 [.int .i64 (6), ivV a, ivV b] (ivV (doI (6) a b)) ∧ pf (ivV (doI (6) a b)) = true := by
  refine good_tree true 1000 20 rfl (fun ty k => t72_6 true ty a b k) (fun ty => ?_) rfl
  have hA := fixI_cases a
  have hB := fixI_cases b
  unfold doI
  simp only [fixI_eta]
  generalize fixI a = A at *
  generalize fixI b = B at *
  obtain ⟨p, q⟩ := A
  obtain ⟨r, s⟩ := B
  simp only [] at hA hB
  have hp : -2147483648 ≤ p ∧ p ≤ 2147483647 := by omega
  have hq : -2147483648 ≤ q ∧ q ≤ 2147483647 := by omega
  have hr : -2147483648 ≤ r ∧ r ≤ 2147483647 := by omega
  have hs : -2147483648 ≤ s ∧ s ≤ 2147483647 := by omega
  simp only [bc_isW, bc_nltB, bc_ltB, bc_eqB, bc_neqB, bc_eqIs2, bc_neqIs2, bc_le31, sealI_eq, mnI_eq, mxI_eq, add_eq, sub_eq, mul_eq]
  try simp (disch := omega) only [wr_id', wrapI_id']
  by_cases e1 : q < p
  · rw [if_pos e1]
    rw [if_pos (show q < p ∨ s < r from .inl e1)]; rfl
  by_cases e2 : s < r
  · rw [if_neg e1, if_pos e2]
    rw [if_pos (show q < p ∨ s < r from .inr e2)]; rfl
  rw [if_neg (show ¬ (q < p ∨ s < r) by omega)]
  rw [if_neg e1, if_neg e2]
  change _ = some (ivV (cAnd p q r s))
  try simp only [e1, e2, if_false]
  have hpq : p ≤ q := by omega
  have hrs : r ≤ s := by omega
  clear hA hB
  unfold cAnd
  try unfold allI
  repeat' split
  all_goals first | rfl | (exfalso; omega) | (apply iv_congr <;> omega)

theorem a74_6 (a b : Iv) : Good 74 [.int .i64 (6), ivV a, ivV b] (ivV (doI (6) a b)) ∧ pf (ivV (doI (6) a b)) = true := by
  refine good_tree true 1000 20 rfl (fun ty k => t74_6 true ty a b k) (fun ty => ?_) rfl
  have hA := fixI_cases a
  have hB := fixI_cases b
  unfold doI
  simp only [fixI_eta]
  generalize fixI a = A at *
  generalize fixI b = B at *
  obtain ⟨p, q⟩ := A
  obtain ⟨r, s⟩ := B
  simp only [] at hA hB
  have hp : -2147483648 ≤ p ∧ p ≤ 2147483647 := by omega
  have hq : -2147483648 ≤ q ∧ q ≤ 2147483647 := by omega
  have hr : -2147483648 ≤ r ∧ r ≤ 2147483647 := by omega
  have hs : -2147483648 ≤ s ∧ s ≤ 2147483647 := by omega
  simp only [bc_isW, bc_nltB, bc_ltB, bc_eqB, bc_neqB, bc_eqIs2, bc_neqIs2, bc_le31, sealI_eq, mnI_eq, mxI_eq, add_eq, sub_eq, mul_eq]
  try simp (disch := omega) only [wr_id', wrapI_id']
  by_cases e1 : q < p
  · rw [if_pos (show p = 1 ∧ q = 0 by omega)]
    rw [if_pos (show q < p ∨ s < r from .inl e1)]; rfl
  by_cases e2 : s < r
  · rw [if_neg (show ¬ (p = 1 ∧ q = 0) by omega), if_pos (show r = 1 ∧ s = 0 by omega)]
    rw [if_pos (show q < p ∨ s < r from .inr e2)]; rfl
  rw [if_neg (show ¬ (q < p ∨ s < r) by omega)]
  rw [if_neg (show ¬ (p = 1 ∧ q = 0) by omega), if_neg (show ¬ (r = 1 ∧ s = 0) by omega)]
  change _ = some (ivV (cAnd p q r s))
  try simp only [e1, e2, if_false]
  have hpq : p ≤ q := by omega
  have hrs : r ≤ s := by omega
  clear hA hB
  unfold cAnd
  try unfold allI
  repeat' split
  all_goals first | rfl | (exfalso; omega) | (apply iv_congr <;> omega)

theorem a72_7 (a b : Iv) : Good 72 [.int .i64 (7), ivV a, ivV b] (ivV (doI (7) a b)) ∧ pf (ivV (doI (7) a b)) = true := by
  refine good_tree true 1000 20 rfl (fun ty k => t72_7 true ty a b k) (fun ty => ?_) rfl
  have hA := fixI_cases a
  have hB := fixI_cases b
  unfold doI
  simp only [fixI_eta]
  generalize fixI a = A at *
  generalize fixI b = B at *
  obtain ⟨p, q⟩ := A
  obtain ⟨r, s⟩ := B
  simp only [] at hA hB
  have hp : -2147483648 ≤ p ∧ p ≤ 2147483647 := by omega
  have hq : -2147483648 ≤ q ∧ q ≤ 2147483647 := by omega
  have hr : -2147483648 ≤ r ∧ r ≤ 2147483647 := by omega
  have hs : -2147483648 ≤ s ∧ s ≤ 2147483647 := by omega
  simp only [bc_isW, bc_nltB, bc_ltB, bc_eqB, bc_neqB, bc_eqIs2, bc_neqIs2, bc_le31, sealI_eq, mnI_eq, mxI_eq, add_eq, sub_eq, mul_eq]
  try simp (disch := omega) only [wr_id', wrapI_id']
  by_cases e1 : q < p
  · rw [if_pos e1]
    rw [if_pos (show q < p ∨ s < r from .inl e1)]; rfl
  by_cases e2 : s < r
  · rw [if_neg e1, if_pos e2]
    rw [if_pos (show q < p ∨ s < r from .inr e2)]; rfl
  rw [if_neg (show ¬ (q < p ∨ s < r) by omega)]
  rw [if_neg e1, if_neg e2]
  change _ = some (ivV (cOr p q r s))
  try simp only [e1, e2, if_false]
  have hpq : p ≤ q := by omega
  have hrs : r ≤ s := by omega
  clear hA hB
  have hm := maskS_ge (n := max q s) (by omega)
  unfold cOr
  try unfold allI
  repeat' split
  all_goals first | rfl | (exfalso; omega) | (apply iv_congr <;> omega)

theorem a74_7 (a b : Iv) : Good 74 [.int .i64 (7), ivV a, ivV b] (ivV (doI (7) a b)) ∧ pf (ivV (doI (7) a b)) = true := by
  refine good_tree true 1000 20 rfl (fun ty k => t74_7 true ty a b k) (fun ty => ?_) rfl
  have hA := fixI_cases a
  have hB := fixI_cases b
  unfold doI
  simp only [fixI_eta]
  generalize fixI a = A at *
  generalize fixI b = B at *
  obtain ⟨p, q⟩ := A
  obtain ⟨r, s⟩ := B
  simp only [] at hA hB
  have hp : -2147483648 ≤ p ∧ p ≤ 2147483647 := by omega
  have hq : -2147483648 ≤ q ∧ q ≤ 2147483647 := by omega
  have hr : -2147483648 ≤ r ∧ r ≤ 2147483647 := by omega
  have hs : -2147483648 ≤ s ∧ s ≤ 2147483647 := by omega
  simp only [bc_isW, bc_nltB, bc_ltB, bc_eqB, bc_neqB, bc_eqIs2, bc_neqIs2, bc_le31, sealI_eq, mnI_eq, mxI_eq, add_eq, sub_eq, mul_eq]
  try simp (disch := omega) only [wr_id', wrapI_id']
  by_cases e1 : q < p
  · rw [if_pos (show p = 1 ∧ q = 0 by omega)]
    rw [if_pos (show q < p ∨ s < r from .inl e1)]; rfl
  by_cases e2 : s < r
  · rw [if_neg (show ¬ (p = 1 ∧ q = 0) by omega), if_pos (show r = 1 ∧ s = 0 by omega)]
    rw [if_pos (show q < p ∨ s < r from .inr e2)]; rfl
  rw [if_neg (show ¬ (q < p ∨ s < r) by omega)]
  rw [if_neg (show ¬ (p = 1 ∧ q = 0) by omega), if_neg (show ¬ (r = 1 ∧ s = 0) by omega)]
  change _ = some (ivV (cOr p q r s))
  try simp only [e1, e2, if_false]
  have hpq : p ≤ q := by omega
  have hrs : r ≤ s := by omega
  clear hA hB
  have hm := maskS_ge (n := max q s) (by omega)
  unfold cOr
  try unfold allI
  repeat' split
  all_goals first | rfl | (exfalso; omega) | (apply iv_congr <;> omega)

theorem a72_8 (a b : Iv) : Good 72 [.int .i64 (8), ivV a, ivV b] (ivV (doI (8) a b)) ∧ pf (ivV (doI (8) a b)) = true := by
  refine good_tree true 1000 20 rfl (fun ty k => t72_8 true ty a b k) (fun ty => ?_) rfl
  have hA := fixI_cases a
  have hB := fixI_cases b
  unfold doI
  simp only [fixI_eta]
  generalize fixI a = A at *
  generalize fixI b = B at *
  obtain ⟨p, q⟩ := A
  obtain ⟨r, s⟩ := B
  simp only [] at hA hB
  have hp : -2147483648 ≤ p ∧ p ≤ 2147483647 := by omega
  have hq : -2147483648 ≤ q ∧ q ≤ 2147483647 := by omega
  have hr : -2147483648 ≤ r ∧ r ≤ 2147483647 := by omega
  have hs : -2147483648 ≤ s ∧ s ≤ 2147483647 := by omega
  simp only [bc_isW, bc_nltB, bc_ltB, bc_eqB, bc_neqB, bc_eqIs2, bc_neqIs2, bc_le31, sealI_eq, mnI_eq, mxI_eq, add_eq, sub_eq, mul_eq]
  try simp (disch := omega) only [wr_id', wrapI_id']
  by_cases e1 : q < p
  · rw [if_pos e1]
    rw [if_pos (show q < p ∨ s < r from .inl e1)]; rfl
  by_cases e2 : s < r
  · rw [if_neg e1, if_pos e2]
    rw [if_pos (show q < p ∨ s < r from .inr e2)]; rfl
  rw [if_neg (show ¬ (q < p ∨ s < r) by omega)]
  rw [if_neg e1, if_neg e2]
  change _ = some (ivV (cXor p q r s))
  try simp only [e1, e2, if_false]
  have hpq : p ≤ q := by omega
  have hrs : r ≤ s := by omega
  clear hA hB
  have hm := maskS_ge (n := max q s) (by omega)
  unfold cXor
  try unfold allI
  repeat' split
  all_goals first | rfl | (exfalso; omega) | (apply iv_congr <;> omega)

theorem a74_8 (a b : Iv) : Good 74 [.int .i64 (8), ivV a, ivV b] (ivV (doI (8) a b)) ∧ pf (ivV (doI (8) a b)) = true := by
  refine good_tree true 1000 20 rfl (fun ty k => t74_8 true ty a b k) (fun ty => ?_) rfl
  have hA := fixI_cases a
  have hB := fixI_cases b
  unfold doI
  simp only [fixI_eta]
  generalize fixI a = A at *
  generalize fixI b = B at *
  obtain ⟨p, q⟩ := A
  obtain ⟨r, s⟩ := B
  simp only [] at hA hB
  have hp : -2147483648 ≤ p ∧ p ≤ 2147483647 := by omega
  have hq : -2147483648 ≤ q ∧ q ≤ 2147483647 := by omega
  have hr : -2147483648 ≤ r ∧ r ≤ 2147483647 := by omega
  have hs : -2147483648 ≤ s ∧ s ≤ 2147483647 := by omega
  simp only [bc_isW, bc_nltB, bc_ltB, bc_eqB, bc_neqB, bc_eqIs2, bc_neqIs2, bc_le31, sealI_eq, mnI_eq, mxI_eq, add_eq, sub_eq, mul_eq]
  try simp (disch := omega) only [wr_id', wrapI_id']
  by_cases e1 : q < p
  · rw [if_pos (show p = 1 ∧ q = 0 by omega)]
    rw [if_pos (show q < p ∨ s < r from .inl e1)]; rfl
  by_cases e2 : s < r
  · rw [if_neg (show ¬ (p = 1 ∧ q = 0) by omega), if_pos (show r = 1 ∧ s = 0 by omega)]
    rw [if_pos (show q < p ∨ s < r from .inr e2)]; rfl
  rw [if_neg (show ¬ (q < p ∨ s < r) by omega)]
  rw [if_neg (show ¬ (p = 1 ∧ q = 0) by omega), if_neg (show ¬ (r = 1 ∧ s = 0) by omega)]
  change _ = some (ivV (cXor p q r s))
  try simp only [e1, e2, if_false]
  have hpq : p ≤ q := by omega
  have hrs : r ≤ s := by omega
  clear hA hB
  have hm := maskS_ge (n := max q s) (by omega)
  unfold cXor
  try unfold allI
  repeat' split
  all_goals first | rfl | (exfalso; omega) | (apply iv_congr <;> omega)

theorem a72_9 (a b : Iv) : Good 72 [.int .i64 (9), ivV a, ivV b] (ivV (doI (9) a b)) ∧ pf (ivV (doI (9) a b)) = true := by
  refine good_tree true 1000 20 rfl (fun ty k => t72_9 true ty a b k) (fun ty => ?_) rfl
  have hA := fixI_cases a
  have hB := fixI_cases b
  unfold doI
  simp only [fixI_eta]
  generalize fixI a = A at *
  generalize fixI b = B at *
  obtain ⟨p, q⟩ := A
  obtain ⟨r, s⟩ := B
  simp only [] at hA hB
  have hp : -2147483648 ≤ p ∧ p ≤ 2147483647 := by omega
  have hq : -2147483648 ≤ q ∧ q ≤ 2147483647 := by omega
  have hr : -2147483648 ≤ r ∧ r ≤ 2147483647 := by omega
  have hs : -2147483648 ≤ s ∧ s ≤ 2147483647 := by omega
  simp only [bc_isW, bc_nltB, bc_ltB, bc_eqB, bc_neqB, bc_eqIs2, bc_neqIs2, bc_le31, sealI_eq, mnI_eq, mxI_eq, add_eq, sub_eq, mul_eq]
  try simp (disch := omega) only [wr_id', wrapI_id']
  by_cases e1 : q < p
  · rw [if_pos e1]
    rw [if_pos (show q < p ∨ s < r from .inl e1)]; rfl
  by_cases e2 : s < r
  · rw [if_neg e1, if_pos e2]
    rw [if_pos (show q < p ∨ s < r from .inr e2)]; rfl
  rw [if_neg (show ¬ (q < p ∨ s < r) by omega)]
  rw [if_neg e1, if_neg e2]
  change _ = some (ivV (cShl p q r s))
  try simp only [e1, e2, if_false]
  have hpq : p ≤ q := by omega
  have hrs : r ≤ s := by omega
  clear hA hB
  by_cases h1 : r = s ∧ 0 ≤ r ∧ r ≤ 31 ∧ 0 ≤ p
  · obtain ⟨h1, h2, h3, h4⟩ := h1
    subst h1
    have hwu : IntKind.wrap .u64 r = r := wrapU_id (by omega) (by omega)
    have h2' : ¬ r < 0 := by omega
    have hs1 : shlI .i64 p r = p * 2 ^ r.toNat := shlI_eq h4 hp.2 h2 h3
    have hs2 : shlI .i64 q r = q * 2 ^ r.toNat := shlI_eq (by omega) hq.2 h2 h3
    simp only [hwu, hs1, hs2, h2, h2', h3, h4, if_true, if_false, cShl, true_and]
    have h7 : (1 : Int) ≤ 2 ^ r.toNat := by
      have : (2 : Int) ^ 0 ≤ 2 ^ r.toNat := pow_le_iff.2 (by omega)
      simpa using this
    have h5 : p * 2 ^ r.toNat ≤ q * 2 ^ r.toNat := Int.mul_le_mul_of_nonneg_right hpq (by omega)
    have h6 : 0 ≤ p * 2 ^ r.toNat := Int.mul_nonneg h4 (by omega)
    unfold allI
    repeat' split
    all_goals first | rfl | (exfalso; omega) | (apply iv_congr <;> omega)
  · rw [show cShl p q r s = allI from if_neg (by omega)]
    unfold allI
    repeat' split
    all_goals first | rfl | (exfalso; omega) | (apply iv_congr <;> omega)

theorem a74_9 (a b : Iv) : Good 74 [.int .i64 (9), ivV a, ivV b] (ivV (doI (9) a b)) ∧ pf (ivV (doI (9) a b)) = true := by
  refine good_tree true 1000 20 rfl (fun ty k => t74_9 true ty a b k) (fun ty => ?_) rfl
  have hA := fixI_cases a
  have hB := fixI_cases b
  unfold doI
  simp only [fixI_eta]
  generalize fixI a = A at *
  generalize fixI b = B at *
  obtain ⟨p, q⟩ := A
  obtain ⟨r, s⟩ := B
  simp only [] at hA hB
  have hp : -2147483648 ≤ p ∧ p ≤ 2147483647 := by omega
  have hq : -2147483648 ≤ q ∧ q ≤ 2147483647 := by omega
  have hr : -2147483648 ≤ r ∧ r ≤ 2147483647 := by omega
  have hs : -2147483648 ≤ s ∧ s ≤ 2147483647 := by omega
  simp only [bc_isW, bc_nltB, bc_ltB, bc_eqB, bc_neqB, bc_eqIs2, bc_neqIs2, bc_le31, sealI_eq, mnI_eq, mxI_eq, add_eq, sub_eq, mul_eq]
  try simp (disch := omega) only [wr_id', wrapI_id']
  by_cases e1 : q < p
  · rw [if_pos (show p = 1 ∧ q = 0 by omega)]
    rw [if_pos (show q < p ∨ s < r from .inl e1)]; rfl
  by_cases e2 : s < r
  · rw [if_neg (show ¬ (p = 1 ∧ q = 0) by omega), if_pos (show r = 1 ∧ s = 0 by omega)]
    rw [if_pos (show q < p ∨ s < r from .inr e2)]; rfl
  rw [if_neg (show ¬ (q < p ∨ s < r) by omega)]
  rw [if_neg (show ¬ (p = 1 ∧ q = 0) by omega), if_neg (show ¬ (r = 1 ∧ s = 0) by omega)]
  change _ = some (ivV (cShl p q r s))
  try simp only [e1, e2, if_false]
  have hpq : p ≤ q := by omega
  have hrs : r ≤ s := by omega
  clear hA hB
  by_cases h1 : r = s ∧ 0 ≤ r ∧ r ≤ 31 ∧ 0 ≤ p
  · obtain ⟨h1, h2, h3, h4⟩ := h1
    subst h1
    have hwu : IntKind.wrap .u64 r = r := wrapU_id (by omega) (by omega)
    have h2' : ¬ r < 0 := by omega
    have hs1 : shlI .i64 p r = p * 2 ^ r.toNat := shlI_eq h4 hp.2 h2 h3
    have hs2 : shlI .i64 q r = q * 2 ^ r.toNat := shlI_eq (by omega) hq.2 h2 h3
    simp only [hwu, hs1, hs2, h2, h2', h3, h4, if_true, if_false, cShl, true_and]
    have h7 : (1 : Int) ≤ 2 ^ r.toNat := by
      have : (2 : Int) ^ 0 ≤ 2 ^ r.toNat := pow_le_iff.2 (by omega)
      simpa using this
    have h5 : p * 2 ^ r.toNat ≤ q * 2 ^ r.toNat := Int.mul_le_mul_of_nonneg_right hpq (by omega)
    have h6 : 0 ≤ p * 2 ^ r.toNat := Int.mul_nonneg h4 (by omega)
    unfold allI
    repeat' split
    all_goals first | rfl | (exfalso; omega) | (apply iv_congr <;> omega)
  · rw [show cShl p q r s = allI from if_neg (by omega)]
    unfold allI
    repeat' split
    all_goals first | rfl | (exfalso; omega) | (apply iv_congr <;> omega)

theorem a72_10 (a b : Iv) : Good 72 [.int .i64 (10), ivV a, ivV b] (ivV (doI (10) a b)) ∧ pf (ivV (doI (10) a b)) = true := by
  refine good_tree true 1000 20 rfl (fun ty k => t72_10 true ty a b k) (fun ty => ?_) rfl
  have hA := fixI_cases a
  have hB := fixI_cases b
  unfold doI
  simp only [fixI_eta]
  generalize fixI a = A at *
  generalize fixI b = B at *
  obtain ⟨p, q⟩ := A
  obtain ⟨r, s⟩ := B
  simp only [] at hA hB
  have hp : -2147483648 ≤ p ∧ p ≤ 2147483647 := by omega
  have hq : -2147483648 ≤ q ∧ q ≤ 2147483647 := by omega
  have hr : -2147483648 ≤ r ∧ r ≤ 2147483647 := by omega
  have hs : -2147483648 ≤ s ∧ s ≤ 2147483647 := by omega
  simp only [bc_isW, bc_nltB, bc_ltB, bc_eqB, bc_neqB, bc_eqIs2, bc_neqIs2, bc_le31, sealI_eq, mnI_eq, mxI_eq, add_eq, sub_eq, mul_eq]
  try simp (disch := omega) only [wr_id', wrapI_id']
  by_cases e1 : q < p
  · rw [if_pos e1]
    rw [if_pos (show q < p ∨ s < r from .inl e1)]; rfl
  by_cases e2 : s < r
  · rw [if_neg e1, if_pos e2]
    rw [if_pos (show q < p ∨ s < r from .inr e2)]; rfl
  rw [if_neg (show ¬ (q < p ∨ s < r) by omega)]
  rw [if_neg e1, if_neg e2]
  change _ = some (ivV (cShr p q r s))
  try simp only [e1, e2, if_false]
  have hpq : p ≤ q := by omega
  have hrs : r ≤ s := by omega
  clear hA hB
  by_cases h1 : 0 ≤ r ∧ s ≤ 31
  · have b1 := shr_bound (c := r) hp.1 hp.2
    have b2 := shr_bound (c := s) hp.1 hp.2
    have b3 := shr_bound (c := r) hq.1 hq.2
    have b4 := shr_bound (c := s) hq.1 hq.2
    have hw1 : IntKind.wrap .u64 r = r := wrapU_id (by omega) (by omega)
    have hw2 : IntKind.wrap .u64 s = s := wrapU_id (by omega) (by omega)
    have g1 : ∀ a, shrI .i64 a r = shr a r := fun a => shrI_eq (by omega) (by omega)
    have g2 : ∀ a, shrI .i64 a s = shr a s := fun a => shrI_eq (by omega) (by omega)
    have n1 : ¬ r < 0 := by omega
    have n2 : ¬ s < 0 := by omega
    have hlh : min4 (shr p r) (shr p s) (shr q r) (shr q s) ≤ max4 (shr p r) (shr p s) (shr q r) (shr q s) := by unfold min4 max4; omega
    simp only [hw1, hw2, g1, g2, n1, n2, h1.1, h1.2, if_true, if_false, cShr, and_self, show ∀ x y z w : Int, min (min (min x y) z) w = min4 x y z w from fun _ _ _ _ => rfl, show ∀ x y z w : Int, max (max (max x y) z) w = max4 x y z w from fun _ _ _ _ => rfl]
    generalize min4 (shr p r) (shr p s) (shr q r) (shr q s) = lo at *
    generalize max4 (shr p r) (shr p s) (shr q r) (shr q s) = hi at *
    unfold hull allI
    repeat' split
    all_goals first | rfl | (exfalso; omega) | (apply iv_congr <;> omega)
  · rw [show cShr p q r s = ⟨min p 0, max q 0⟩ from if_neg h1]
    repeat' split
    all_goals first | rfl | (exfalso; omega) | (apply iv_congr <;> omega)

theorem a74_10 (a b : Iv) : Good 74 [.int .i64 (10), ivV a, ivV b] (ivV (doI (10) a b)) ∧ pf (ivV (doI (10) a b)) = true := by
  refine good_tree true 1000 20 rfl (fun ty k => t74_10 true ty a b k) (fun ty => ?_) rfl
  have hA := fixI_cases a
  have hB := fixI_cases b
  unfold doI
  simp only [fixI_eta]
  generalize fixI a = A at *
  generalize fixI b = B at *
  obtain ⟨p, q⟩ := A
  obtain ⟨r, s⟩ := B
  simp only [] at hA hB
  have hp : -2147483648 ≤ p ∧ p ≤ 2147483647 := by omega
  have hq : -2147483648 ≤ q ∧ q ≤ 2147483647 := by omega
  have hr : -2147483648 ≤ r ∧ r ≤ 2147483647 := by omega
  have hs : -2147483648 ≤ s ∧ s ≤ 2147483647 := by omega
  simp only [bc_isW, bc_nltB, bc_ltB, bc_eqB, bc_neqB, bc_eqIs2, bc_neqIs2, bc_le31, sealI_eq, mnI_eq, mxI_eq, add_eq, sub_eq, mul_eq]
  try simp (disch := omega) only [wr_id', wrapI_id']
  by_cases e1 : q < p
  · rw [if_pos (show p = 1 ∧ q = 0 by omega)]
    rw [if_pos (show q < p ∨ s < r from .inl e1)]; rfl
  by_cases e2 : s < r
  · rw [if_neg (show ¬ (p = 1 ∧ q = 0) by omega), if_pos (show r = 1 ∧ s = 0 by omega)]
    rw [if_pos (show q < p ∨ s < r from .inr e2)]; rfl
  rw [if_neg (show ¬ (q < p ∨ s < r) by omega)]
  rw [if_neg (show ¬ (p = 1 ∧ q = 0) by omega), if_neg (show ¬ (r = 1 ∧ s = 0) by omega)]
  change _ = some (ivV (cShr p q r s))
  try simp only [e1, e2, if_false]
  have hpq : p ≤ q := by omega
  have hrs : r ≤ s := by omega
  clear hA hB
  by_cases h1 : 0 ≤ r ∧ s ≤ 31
  · have b1 := shr_bound (c := r) hp.1 hp.2
    have b2 := shr_bound (c := s) hp.1 hp.2
    have b3 := shr_bound (c := r) hq.1 hq.2
    have b4 := shr_bound (c := s) hq.1 hq.2
    have hw1 : IntKind.wrap .u64 r = r := wrapU_id (by omega) (by omega)
    have hw2 : IntKind.wrap .u64 s = s := wrapU_id (by omega) (by omega)
    have g1 : ∀ a, shrI .i64 a r = shr a r := fun a => shrI_eq (by omega) (by omega)
    have g2 : ∀ a, shrI .i64 a s = shr a s := fun a => shrI_eq (by omega) (by omega)
    have n1 : ¬ r < 0 := by omega
    have n2 : ¬ s < 0 := by omega
    have hlh : min4 (shr p r) (shr p s) (shr q r) (shr q s) ≤ max4 (shr p r) (shr p s) (shr q r) (shr q s) := by unfold min4 max4; omega
    simp only [hw1, hw2, g1, g2, n1, n2, h1.1, h1.2, if_true, if_false, cShr, and_self, show ∀ x y z w : Int, min (min (min x y) z) w = min4 x y z w from fun _ _ _ _ => rfl, show ∀ x y z w : Int, max (max (max x y) z) w = max4 x y z w from fun _ _ _ _ => rfl]
    generalize min4 (shr p r) (shr p s) (shr q r) (shr q s) = lo at *
    generalize max4 (shr p r) (shr p s) (shr q r) (shr q s) = hi at *
    unfold hull allI
    repeat' split
    all_goals first | rfl | (exfalso; omega) | (apply iv_congr <;> omega)
  · rw [show cShr p q r s = ⟨min p 0, max q 0⟩ from if_neg h1]
    repeat' split
    all_goals first | rfl | (exfalso; omega) | (apply iv_congr <;> omega)

theorem a72_11 (a b : Iv) : Good 72 [.int .i64 (11), ivV a, ivV b] (ivV (doI (11) a b)) ∧ pf (ivV (doI (11) a b)) = true := by
  refine good_tree true 1000 20 rfl (fun ty k => t72_11 true ty a b k) (fun ty => ?_) rfl
  have hA := fixI_cases a
  have hB := fixI_cases b
  unfold doI
  simp only [fixI_eta]
  generalize fixI a = A at *
  generalize fixI b = B at *
  obtain ⟨p, q⟩ := A
  obtain ⟨r, s⟩ := B
  simp only [] at hA hB
  have hp : -2147483648 ≤ p ∧ p ≤ 2147483647 := by omega
  have hq : -2147483648 ≤ q ∧ q ≤ 2147483647 := by omega
  have hr : -2147483648 ≤ r ∧ r ≤ 2147483647 := by omega
  have hs : -2147483648 ≤ s ∧ s ≤ 2147483647 := by omega
  simp only [bc_isW, bc_nltB, bc_ltB, bc_eqB, bc_neqB, bc_eqIs2, bc_neqIs2, bc_le31, sealI_eq, mnI_eq, mxI_eq, add_eq, sub_eq, mul_eq]
  try simp (disch := omega) only [wr_id', wrapI_id']
  by_cases e1 : q < p
  · rw [if_pos e1]
    rw [if_pos (show q < p ∨ s < r from .inl e1)]; rfl
  by_cases e2 : s < r
  · rw [if_neg e1, if_pos e2]
    rw [if_pos (show q < p ∨ s < r from .inr e2)]; rfl
  rw [if_neg (show ¬ (q < p ∨ s < r) by omega)]
  rw [if_neg e1, if_neg e2]
  change _ = some (ivV (cLt p q r s))
  try simp only [e1, e2, if_false]
  have hpq : p ≤ q := by omega
  have hrs : r ≤ s := by omega
  clear hA hB
  unfold cLt truthI
  try unfold allI
  repeat' split
  all_goals first | rfl | (exfalso; omega) | (apply iv_congr <;> omega)

theorem a74_11 (a b : Iv) : Good 74 [.int .i64 (11), ivV a, ivV b] (ivV (doI (11) a b)) ∧ pf (ivV (doI (11) a b)) = true := by
  refine good_tree true 1000 20 rfl (fun ty k => t74_11 true ty a b k) (fun ty => ?_) rfl
  have hA := fixI_cases a
  have hB := fixI_cases b
  unfold doI
  simp only [fixI_eta]
  generalize fixI a = A at *
  generalize fixI b = B at *
  obtain ⟨p, q⟩ := A
  obtain ⟨r, s⟩ := B
  simp only [] at hA hB
  have hp : -2147483648 ≤ p ∧ p ≤ 2147483647 := by omega
  have hq : -2147483648 ≤ q ∧ q ≤ 2147483647 := by omega
  have hr : -2147483648 ≤ r ∧ r ≤ 2147483647 := by omega
  have hs : -2147483648 ≤ s ∧ s ≤ 2147483647 := by omega
  simp only [bc_isW, bc_nltB, bc_ltB, bc_eqB, bc_neqB, bc_eqIs2, bc_neqIs2, bc_le31, sealI_eq, mnI_eq, mxI_eq, add_eq, sub_eq, mul_eq]
  try simp (disch := omega) only [wr_id', wrapI_id']
  by_cases e1 : q < p
  · rw [if_pos (show p = 1 ∧ q = 0 by omega)]
    rw [if_pos (show q < p ∨ s < r from .inl e1)]; rfl
  by_cases e2 : s < r
  · rw [if_neg (show ¬ (p = 1 ∧ q = 0) by omega), if_pos (show r = 1 ∧ s = 0 by omega)]
    rw [if_pos (show q < p ∨ s < r from .inr e2)]; rfl
  rw [if_neg (show ¬ (q < p ∨ s < r) by omega)]
  rw [if_neg (show ¬ (p = 1 ∧ q = 0) by omega), if_neg (show ¬ (r = 1 ∧ s = 0) by omega)]
  change _ = some (ivV (cLt p q r s))
  try simp only [e1, e2, if_false]
  have hpq : p ≤ q := by omega
  have hrs : r ≤ s := by omega
  clear hA hB
  unfold cLt truthI
  try unfold allI
  repeat' split
  all_goals first | rfl | (exfalso; omega) | (apply iv_congr <;> omega)

theorem a72_12 (a b : Iv) : Good 72 [.int .i64 (12), ivV a, ivV b] (ivV (doI (12) a b)) ∧ pf (ivV (doI (12) a b)) = true := by
  refine good_tree true 1000 20 rfl (fun ty k => t72_12 true ty a b k) (fun ty => ?_) rfl
  have hA := fixI_cases a
  have hB := fixI_cases b
  unfold doI
  simp only [fixI_eta]
  generalize fixI a = A at *
  generalize fixI b = B at *
  obtain ⟨p, q⟩ := A
  obtain ⟨r, s⟩ := B
  simp only [] at hA hB
  have hp : -2147483648 ≤ p ∧ p ≤ 2147483647 := by omega
  have hq : -2147483648 ≤ q ∧ q ≤ 2147483647 := by omega
  have hr : -2147483648 ≤ r ∧ r ≤ 2147483647 := by omega
  have hs : -2147483648 ≤ s ∧ s ≤ 2147483647 := by omega
  simp only [bc_isW, bc_nltB, bc_ltB, bc_eqB, bc_neqB, bc_eqIs2, bc_neqIs2, bc_le31, sealI_eq, mnI_eq, mxI_eq, add_eq, sub_eq, mul_eq]
  try simp (disch := omega) only [wr_id', wrapI_id']
  by_cases e1 : q < p
  · rw [if_pos e1]
    rw [if_pos (show q < p ∨ s < r from .inl e1)]; rfl
  by_cases e2 : s < r
  · rw [if_neg e1, if_pos e2]
    rw [if_pos (show q < p ∨ s < r from .inr e2)]; rfl
  rw [if_neg (show ¬ (q < p ∨ s < r) by omega)]
  rw [if_neg e1, if_neg e2]
  change _ = some (ivV (cLe p q r s))
  try simp only [e1, e2, if_false]
  have hpq : p ≤ q := by omega
  have hrs : r ≤ s := by omega
  clear hA hB
  unfold cLe truthI
  try unfold allI
  repeat' split
  all_goals first | rfl | (exfalso; omega) | (apply iv_congr <;> omega)

theorem a74_12 (a b : Iv) : Good 74 [.int .i64 (12), ivV a, ivV b] (ivV (doI (12) a b)) ∧ pf (ivV (doI (12) a b)) = true := by
  refine good_tree true 1000 20 rfl (fun ty k => t74_12 true ty a b k) (fun ty => ?_) rfl
  have hA := fixI_cases a
  have hB := fixI_cases b
  unfold doI
  simp only [fixI_eta]
  generalize fixI a = A at *
  generalize fixI b = B at *
  obtain ⟨p, q⟩ := A
  obtain ⟨r, s⟩ := B
  simp only [] at hA hB
  have hp : -2147483648 ≤ p ∧ p ≤ 2147483647 := by omega
  have hq : -2147483648 ≤ q ∧ q ≤ 2147483647 := by omega
  have hr : -2147483648 ≤ r ∧ r ≤ 2147483647 := by omega
  have hs : -2147483648 ≤ s ∧ s ≤ 2147483647 := by omega
  simp only [bc_isW, bc_nltB, bc_ltB, bc_eqB, bc_neqB, bc_eqIs2, bc_neqIs2, bc_le31, sealI_eq, mnI_eq, mxI_eq, add_eq, sub_eq, mul_eq]
  try simp (disch := omega) only [wr_id', wrapI_id']
  by_cases e1 : q < p
  · rw [if_pos (show p = 1 ∧ q = 0 by omega)]
    rw [if_pos (show q < p ∨ s < r from .inl e1)]; rfl
  by_cases e2 : s < r
  · rw [if_neg (show ¬ (p = 1 ∧ q = 0) by omega), if_pos (show r = 1 ∧ s = 0 by omega)]
    rw [if_pos (show q < p ∨ s < r from .inr e2)]; rfl
  rw [if_neg (show ¬ (q < p ∨ s < r) by omega)]
  rw [if_neg (show ¬ (p = 1 ∧ q = 0) by omega), if_neg (show ¬ (r = 1 ∧ s = 0) by omega)]
  change _ = some (ivV (cLe p q r s))
  try simp only [e1, e2, if_false]
  have hpq : p ≤ q := by omega
  have hrs : r ≤ s := by omega
  clear hA hB
  unfold cLe truthI
  try unfold allI
  repeat' split
  all_goals first | rfl | (exfalso; omega) | (apply iv_congr <;> omega)

theorem a72_13 (a b : Iv) : Good 72 [.int .i64 (13), ivV a, ivV b] (ivV (doI (13) a b)) ∧ pf (ivV (doI (13) a b)) = true := by
  refine good_tree true 1000 20 rfl (fun ty k => t72_13 true ty a b k) (fun ty => ?_) rfl
  have hA := fixI_cases a
  have hB := fixI_cases b
  unfold doI
  simp only [fixI_eta]
  generalize fixI a = A at *
  generalize fixI b = B at *
  obtain ⟨p, q⟩ := A
  obtain ⟨r, s⟩ := B
  simp only [] at hA hB
  have hp : -2147483648 ≤ p ∧ p ≤ 2147483647 := by omega
  have hq : -2147483648 ≤ q ∧ q ≤ 2147483647 := by omega
  have hr : -2147483648 ≤ r ∧ r ≤ 2147483647 := by omega
  have hs : -2147483648 ≤ s ∧ s ≤ 2147483647 := by omega
  simp only [bc_isW, bc_nltB, bc_ltB, bc_eqB, bc_neqB, bc_eqIs2, bc_neqIs2, bc_le31, sealI_eq, mnI_eq, mxI_eq, add_eq, sub_eq, mul_eq]
  try simp (disch := omega) only [wr_id', wrapI_id']
  by_cases e1 : q < p
  · rw [if_pos e1]
    rw [if_pos (show q < p ∨ s < r from .inl e1)]; rfl
  by_cases e2 : s < r
  · rw [if_neg e1, if_pos e2]
    rw [if_pos (show q < p ∨ s < r from .inr e2)]; rfl
  rw [if_neg (show ¬ (q < p ∨ s < r) by omega)]
  rw [if_neg e1, if_neg e2]
  change _ = some (ivV (cEq p q r s))
  try simp only [e1, e2, if_false]
  have hpq : p ≤ q := by omega
  have hrs : r ≤ s := by omega
  clear hA hB
  unfold cEq truthI
  try unfold allI
  repeat' split
  all_goals first | rfl | (exfalso; omega) | (apply iv_congr <;> omega)

theorem a74_13 (a b : Iv) : Good 74 [.int .i64 (13), ivV a, ivV b] (ivV (doI (13) a b)) ∧ pf (ivV (doI (13) a b)) = true := by
  refine good_tree true 1000 20 rfl (fun ty k => t74_13 true ty a b k) (fun ty => ?_) rfl
  have hA := fixI_cases a
  have hB := fixI_cases b
  unfold doI
  simp only [fixI_eta]
  generalize fixI a = A at *
  generalize fixI b = B at *
  obtain ⟨p, q⟩ := A
  obtain ⟨r, s⟩ := B
  simp only [] at hA hB
  have hp : -2147483648 ≤ p ∧ p ≤ 2147483647 := by omega
  have hq : -2147483648 ≤ q ∧ q ≤ 2147483647 := by omega
  have hr : -2147483648 ≤ r ∧ r ≤ 2147483647 := by omega
  have hs : -2147483648 ≤ s ∧ s ≤ 2147483647 := by omega
  simp only [bc_isW, bc_nltB, bc_ltB, bc_eqB, bc_neqB, bc_eqIs2, bc_neqIs2, bc_le31, sealI_eq, mnI_eq, mxI_eq, add_eq, sub_eq, mul_eq]
  try simp (disch := omega) only [wr_id', wrapI_id']
  by_cases e1 : q < p
  · rw [if_pos (show p = 1 ∧ q = 0 by omega)]
    rw [if_pos (show q < p ∨ s < r from .inl e1)]; rfl
  by_cases e2 : s < r
  · rw [if_neg (show ¬ (p = 1 ∧ q = 0) by omega), if_pos (show r = 1 ∧ s = 0 by omega)]
    rw [if_pos (show q < p ∨ s < r from .inr e2)]; rfl
  rw [if_neg (show ¬ (q < p ∨ s < r) by omega)]
  rw [if_neg (show ¬ (p = 1 ∧ q = 0) by omega), if_neg (show ¬ (r = 1 ∧ s = 0) by omega)]
  change _ = some (ivV (cEq p q r s))
  try simp only [e1, e2, if_false]
  have hpq : p ≤ q := by omega
  have hrs : r ≤ s := by omega
  clear hA hB
  unfold cEq truthI
  try unfold allI
  repeat' split
  all_goals first | rfl | (exfalso; omega) | (apply iv_congr <;> omega)

theorem a72_14 (a b : Iv) : Good 72 [.int .i64 (14), ivV a, ivV b] (ivV (doI (14) a b)) ∧ pf (ivV (doI (14) a b)) = true := by
  refine good_tree true 1000 20 rfl (fun ty k => t72_14 true ty a b k) (fun ty => ?_) rfl
  have hA := fixI_cases a
  have hB := fixI_cases b
  unfold doI
  simp only [fixI_eta]
  generalize fixI a = A at *
  generalize fixI b = B at *
  obtain ⟨p, q⟩ := A
  obtain ⟨r, s⟩ := B
  simp only [] at hA hB
  have hp : -2147483648 ≤ p ∧ p ≤ 2147483647 := by omega
  have hq : -2147483648 ≤ q ∧ q ≤ 2147483647 := by omega
  have hr : -2147483648 ≤ r ∧ r ≤ 2147483647 := by omega
  have hs : -2147483648 ≤ s ∧ s ≤ 2147483647 := by omega
  simp only [bc_isW, bc_nltB, bc_ltB, bc_eqB, bc_neqB, bc_eqIs2, bc_neqIs2, bc_le31, sealI_eq, mnI_eq, mxI_eq, add_eq, sub_eq, mul_eq]
  try simp (disch := omega) only [wr_id', wrapI_id']
  by_cases e1 : q < p
  · rw [if_pos e1]
    rw [if_pos (show q < p ∨ s < r from .inl e1)]; rfl
  by_cases e2 : s < r
  · rw [if_neg e1, if_pos e2]
    rw [if_pos (show q < p ∨ s < r from .inr e2)]; rfl
  rw [if_neg (show ¬ (q < p ∨ s < r) by omega)]
  rw [if_neg e1, if_neg e2]
  change _ = some (ivV (cNe p q r s))
  try simp only [e1, e2, if_false]
  have hpq : p ≤ q := by omega
  have hrs : r ≤ s := by omega
  clear hA hB
  unfold cNe truthI
  try unfold allI
  repeat' split
  all_goals first | rfl | (exfalso; omega) | (apply iv_congr <;> omega)

theorem a74_14 (a b : Iv) : Good 74 [.int .i64 (14), ivV a, ivV b] (ivV (doI (14) a b)) ∧ pf (ivV (doI (14) a b)) = true := by
  refine good_tree true 1000 20 rfl (fun ty k => t74_14 true ty a b k) (fun ty => ?_) rfl
  have hA := fixI_cases a
  have hB := fixI_cases b
  unfold doI
  simp only [fixI_eta]
  generalize fixI a = A at *
  generalize fixI b = B at *
  obtain ⟨p, q⟩ := A
  obtain ⟨r, s⟩ := B
  simp only [] at hA hB
  have hp : -2147483648 ≤ p ∧ p ≤ 2147483647 := by omega
  have hq : -2147483648 ≤ q ∧ q ≤ 2147483647 := by omega
  have hr : -2147483648 ≤ r ∧ r ≤ 2147483647 := by omega
  have hs : -2147483648 ≤ s ∧ s ≤ 2147483647 := by omega
  simp only [bc_isW, bc_nltB, bc_ltB, bc_eqB, bc_neqB, bc_eqIs2, bc_neqIs2, bc_le31, sealI_eq, mnI_eq, mxI_eq, add_eq, sub_eq, mul_eq]
  try simp (disch := omega) only [wr_id', wrapI_id']
  by_cases e1 : q < p
  · rw [if_pos (show p = 1 ∧ q = 0 by omega)]
    rw [if_pos (show q < p ∨ s < r from .inl e1)]; rfl
  by_cases e2 : s < r
  · rw [if_neg (show ¬ (p = 1 ∧ q = 0) by omega), if_pos (show r = 1 ∧ s = 0 by omega)]
    rw [if_pos (show q < p ∨ s < r from .inr e2)]; rfl
  rw [if_neg (show ¬ (q < p ∨ s < r) by omega)]
  rw [if_neg (show ¬ (p = 1 ∧ q = 0) by omega), if_neg (show ¬ (r = 1 ∧ s = 0) by omega)]
  change _ = some (ivV (cNe p q r s))
  try simp only [e1, e2, if_false]
  have hpq : p ≤ q := by omega
  have hrs : r ≤ s := by omega
  clear hA hB
  unfold cNe truthI
  try unfold allI
  repeat' split
  all_goals first | rfl | (exfalso; omega) | (apply iv_congr <;> omega)

theorem coreI_p (n : Nat) (p q r s : Int) : coreI (.ofNat (n + 15)) p q r s = allI := by
  unfold coreI
  have h : (Int.ofNat (n + 15) : Int) = (n : Int) + 15 := rfl
  rw [h]
  repeat (rw [if_neg (by omega)])
theorem coreI_n (n : Nat) (p q r s : Int) : coreI (.negSucc n) p q r s = allI := by
  unfold coreI
  have h : (Int.negSucc n : Int) < 0 := Int.negSucc_lt_zero n
  repeat (rw [if_neg (by omega)])
theorem a72_p (n : Nat) (a b : Iv) : Good 72 [.int .i64 (.ofNat (n + 15)), ivV a, ivV b] (ivV (doI (.ofNat (n + 15)) a b)) ∧ pf (ivV (doI (.ofNat (n + 15)) a b)) = true := by
  refine good_tree true 1000 20 rfl (fun ty k => t72_p true ty n a b k) (fun ty => ?_) rfl
  have hA := fixI_cases a
  have hB := fixI_cases b
  unfold doI
  simp only [fixI_eta]
  generalize fixI a = A at *
  generalize fixI b = B at *
  obtain ⟨p, q⟩ := A
  obtain ⟨r, s⟩ := B
  simp only [] at hA hB
  have hp : -2147483648 ≤ p ∧ p ≤ 2147483647 := by omega
  have hq : -2147483648 ≤ q ∧ q ≤ 2147483647 := by omega
  have hr : -2147483648 ≤ r ∧ r ≤ 2147483647 := by omega
  have hs : -2147483648 ≤ s ∧ s ≤ 2147483647 := by omega
  simp only [bc_isW, bc_nltB, bc_ltB, bc_eqB, bc_neqB, bc_eqIs2, bc_neqIs2, bc_le31, sealI_eq, mnI_eq, mxI_eq, add_eq, sub_eq, mul_eq]
  by_cases e1 : q < p
  · rw [if_pos e1]
    rw [if_pos (show q < p ∨ s < r from .inl e1)]; rfl
  by_cases e2 : s < r
  · rw [if_neg e1, if_pos e2]
    rw [if_pos (show q < p ∨ s < r from .inr e2)]; rfl
  rw [if_neg (show ¬ (q < p ∨ s < r) by omega)]
  rw [if_neg e1, if_neg e2]
  rw [coreI_p]
  try simp only [e1, e2, if_false]
  have hpq : p ≤ q := by omega
  have hrs : r ≤ s := by omega
  clear hA hB
  unfold allI
  try unfold allI
  repeat' split
  all_goals first | rfl | (exfalso; omega) | (apply iv_congr <;> omega)

theorem a72_n (n : Nat) (a b : Iv) : Good 72 [.int .i64 (.negSucc n), ivV a, ivV b] (ivV (doI (.negSucc n) a b)) ∧ pf (ivV (doI (.negSucc n) a b)) = true := by
  refine good_tree true 1000 20 rfl (fun ty k => t72_n true ty n a b k) (fun ty => ?_) rfl
  have hA := fixI_cases a
  have hB := fixI_cases b
  unfold doI
  simp only [fixI_eta]
  generalize fixI a = A at *
  generalize fixI b = B at *
  obtain ⟨p, q⟩ := A
  obtain ⟨r, s⟩ := B
  simp only [] at hA hB
  have hp : -2147483648 ≤ p ∧ p ≤ 2147483647 := by omega
  have hq : -2147483648 ≤ q ∧ q ≤ 2147483647 := by omega
  have hr : -2147483648 ≤ r ∧ r ≤ 2147483647 := by omega
  have hs : -2147483648 ≤ s ∧ s ≤ 2147483647 := by omega
  simp only [bc_isW, bc_nltB, bc_ltB, bc_eqB, bc_neqB, bc_eqIs2, bc_neqIs2, bc_le31, sealI_eq, mnI_eq, mxI_eq, add_eq, sub_eq, mul_eq]
  by_cases e1 : q < p
  · rw [if_pos e1]
    rw [if_pos (show q < p ∨ s < r from .inl e1)]; rfl
  by_cases e2 : s < r
  · rw [if_neg e1, if_pos e2]
    rw [if_pos (show q < p ∨ s < r from .inr e2)]; rfl
  rw [if_neg (show ¬ (q < p ∨ s < r) by omega)]
  rw [if_neg e1, if_neg e2]
  rw [coreI_n]
  try simp only [e1, e2, if_false]
  have hpq : p ≤ q := by omega
  have hrs : r ≤ s := by omega
  clear hA hB
  unfold allI
  try unfold allI
  repeat' split
  all_goals first | rfl | (exfalso; omega) | (apply iv_congr <;> omega)

theorem a72 : Ans3 encI encIv encIv 72 (fun op a b => ivV (doI op a b)) := fun op a b => by
  match op with
  | .ofNat 0 => exact a72_0 a b
  | .ofNat 1 => exact a72_1 a b
  | .ofNat 2 => exact a72_2 a b
  | .ofNat 3 => exact a72_3 a b
  | .ofNat 4 => exact a72_4 a b
  | .ofNat 5 => exact a72_5 a b
  | .ofNat 6 => exact a72_6 a b
  | .ofNat 7 => exact a72_7 a b
  | .ofNat 8 => exact a72_8 a b
  | .ofNat 9 => exact a72_9 a b
  | .ofNat 10 => exact a72_10 a b
  | .ofNat 11 => exact a72_11 a b
  | .ofNat 12 => exact a72_12 a b
  | .ofNat 13 => exact a72_13 a b
  | .ofNat 14 => exact a72_14 a b
  | .ofNat (n + 15) => exact a72_p n a b
  | .negSucc n => exact a72_n n a b
def e72 : Ent := mk3 encI encIv encIv 72 _ a72

theorem a74_p (n : Nat) (a b : Iv) : Good 74 [.int .i64 (.ofNat (n + 15)), ivV a, ivV b] (ivV (doI (.ofNat (n + 15)) a b)) ∧ pf (ivV (doI (.ofNat (n + 15)) a b)) = true := by
  refine good_tree true 1000 20 rfl (fun ty k => t74_p true ty n a b k) (fun ty => ?_) rfl
  have hA := fixI_cases a
  have hB := fixI_cases b
  unfold doI
  simp only [fixI_eta]
  generalize fixI a = A at *
  generalize fixI b = B at *
  obtain ⟨p, q⟩ := A
  obtain ⟨r, s⟩ := B
  simp only [] at hA hB
  have hp : -2147483648 ≤ p ∧ p ≤ 2147483647 := by omega
  have hq : -2147483648 ≤ q ∧ q ≤ 2147483647 := by omega
  have hr : -2147483648 ≤ r ∧ r ≤ 2147483647 := by omega
  have hs : -2147483648 ≤ s ∧ s ≤ 2147483647 := by omega
  simp only [bc_isW, bc_nltB, bc_ltB, bc_eqB, bc_neqB, bc_eqIs2, bc_neqIs2, bc_le31, sealI_eq, mnI_eq, mxI_eq, add_eq, sub_eq, mul_eq]
  by_cases e1 : q < p
  · rw [if_pos (show p = 1 ∧ q = 0 by omega)]
    rw [if_pos (show q < p ∨ s < r from .inl e1)]; rfl
  by_cases e2 : s < r
  · rw [if_neg (show ¬ (p = 1 ∧ q = 0) by omega), if_pos (show r = 1 ∧ s = 0 by omega)]
    rw [if_pos (show q < p ∨ s < r from .inr e2)]; rfl
  rw [if_neg (show ¬ (q < p ∨ s < r) by omega)]
  rw [if_neg (show ¬ (p = 1 ∧ q = 0) by omega), if_neg (show ¬ (r = 1 ∧ s = 0) by omega)]
  rw [coreI_p]
  try simp only [e1, e2, if_false]
  have hpq : p ≤ q := by omega
  have hrs : r ≤ s := by omega
  clear hA hB
  unfold allI
  try unfold allI
  repeat' split
  all_goals first | rfl | (exfalso; omega) | (apply iv_congr <;> omega)

theorem a74_n (n : Nat) (a b : Iv) : Good 74 [.int .i64 (.negSucc n), ivV a, ivV b] (ivV (doI (.negSucc n) a b)) ∧ pf (ivV (doI (.negSucc n) a b)) = true := by
  refine good_tree true 1000 20 rfl (fun ty k => t74_n true ty n a b k) (fun ty => ?_) rfl
  have hA := fixI_cases a
  have hB := fixI_cases b
  unfold doI
  simp only [fixI_eta]
  generalize fixI a = A at *
  generalize fixI b = B at *
  obtain ⟨p, q⟩ := A
  obtain ⟨r, s⟩ := B
  simp only [] at hA hB
  have hp : -2147483648 ≤ p ∧ p ≤ 2147483647 := by omega
  have hq : -2147483648 ≤ q ∧ q ≤ 2147483647 := by omega
  have hr : -2147483648 ≤ r ∧ r ≤ 2147483647 := by omega
  have hs : -2147483648 ≤ s ∧ s ≤ 2147483647 := by omega
  simp only [bc_isW, bc_nltB, bc_ltB, bc_eqB, bc_neqB, bc_eqIs2, bc_neqIs2, bc_le31, sealI_eq, mnI_eq, mxI_eq, add_eq, sub_eq, mul_eq]
  by_cases e1 : q < p
  · rw [if_pos (show p = 1 ∧ q = 0 by omega)]
    rw [if_pos (show q < p ∨ s < r from .inl e1)]; rfl
  by_cases e2 : s < r
  · rw [if_neg (show ¬ (p = 1 ∧ q = 0) by omega), if_pos (show r = 1 ∧ s = 0 by omega)]
    rw [if_pos (show q < p ∨ s < r from .inr e2)]; rfl
  rw [if_neg (show ¬ (q < p ∨ s < r) by omega)]
  rw [if_neg (show ¬ (p = 1 ∧ q = 0) by omega), if_neg (show ¬ (r = 1 ∧ s = 0) by omega)]
  rw [coreI_n]
  try simp only [e1, e2, if_false]
  have hpq : p ≤ q := by omega
  have hrs : r ≤ s := by omega
  clear hA hB
  unfold allI
  try unfold allI
  repeat' split
  all_goals first | rfl | (exfalso; omega) | (apply iv_congr <;> omega)

theorem a74 : Ans3 encI encIv encIv 74 (fun op a b => ivV (doI op a b)) := fun op a b => by
  match op with
  | .ofNat 0 => exact a74_0 a b
  | .ofNat 1 => exact a74_1 a b
  | .ofNat 2 => exact a74_2 a b
  | .ofNat 3 => exact a74_3 a b
  | .ofNat 4 => exact a74_4 a b
  | .ofNat 5 => exact a74_5 a b
  | .ofNat 6 => exact a74_6 a b
  | .ofNat 7 => exact a74_7 a b
  | .ofNat 8 => exact a74_8 a b
  | .ofNat 9 => exact a74_9 a b
  | .ofNat 10 => exact a74_10 a b
  | .ofNat 11 => exact a74_11 a b
  | .ofNat 12 => exact a74_12 a b
  | .ofNat 13 => exact a74_13 a b
  | .ofNat 14 => exact a74_14 a b
  | .ofNat (n + 15) => exact a74_p n a b
  | .negSucc n => exact a74_n n a b
def e74 : Ent := mk3 encI encIv encIv 74 _ a74

end
end Go.Ev
