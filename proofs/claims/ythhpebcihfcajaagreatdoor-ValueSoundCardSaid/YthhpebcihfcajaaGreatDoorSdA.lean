/-
  Values permit what they must: the law, in plain numbers.
-/
import Derived.Test.YthhpebcihfcajaaGreatDoorVaF
set_option linter.unusedVariables false
set_option linter.unusedSimpArgs false
namespace Go.Ev

def word (n : Int) : Prop := -2147483648 ≤ n ∧ n ≤ 2147483647
theorem word_w32 (n : Int) : word (w32 n) := isW_iff.1 (w32_isW n)
theorem word_wDo (op a b : Int) : word (wDo op a b) := isW_iff.1 (wDo_isW op a b)
theorem w32_id {n : Int} (h : word n) : w32 n = n := w32_of (isW_iff.2 h)

/-- A word between two ends. -/
def inI (i : Iv) (n : Int) : Prop := i.lo ≤ n ∧ n ≤ i.hi

section tdiv
theorem tdiv_mono {a b q : Int} (hq : 1 ≤ q) (h : a ≤ b) : a.tdiv q ≤ b.tdiv q := Int.tdiv_le_tdiv (by omega) h
theorem tdiv_anti {p q s : Int} (hq : 1 ≤ q) (hs : q ≤ s) (hp : 0 ≤ p) : p.tdiv s ≤ p.tdiv q ∧ 0 ≤ p.tdiv s := by
  rw [Int.tdiv_eq_ediv_of_nonneg hp, Int.tdiv_eq_ediv_of_nonneg hp]
  refine ⟨?_, Int.ediv_nonneg hp (by omega)⟩
  rw [Int.le_ediv_iff_mul_le (by omega)]
  have h1 : p / s * q ≤ p / s * s := Int.mul_le_mul_of_nonneg_left hs (Int.ediv_nonneg hp (by omega))
  have h2 : p / s * s ≤ p := Int.ediv_mul_le p (by omega)
  omega
theorem tdiv_neg_eq (p q : Int) : p.tdiv q = -((-p).tdiv q) := by rw [Int.neg_tdiv]; omega
/-- Divided by what lies between r and s, the quotient lies between those by r and by s. -/
theorem tdiv_between {p q r s : Int} (hr : 1 ≤ r) (h1 : r ≤ q) (h2 : q ≤ s) : min (p.tdiv r) (p.tdiv s) ≤ p.tdiv q ∧ p.tdiv q ≤ max (p.tdiv r) (p.tdiv s) := by
  by_cases hp : 0 ≤ p
  · have a1 := (tdiv_anti hr h1 hp).1
    have a2 := (tdiv_anti (show 1 ≤ q by omega) h2 hp).1
    omega
  · have a1 := (tdiv_anti (p := -p) hr h1 (by omega)).1
    have a2 := (tdiv_anti (p := -p) (show 1 ≤ q by omega) h2 (by omega)).1
    have e1 := tdiv_neg_eq p r
    have e2 := tdiv_neg_eq p q
    have e3 := tdiv_neg_eq p s
    omega
end tdiv

theorem hull_in {lo hi z : Int} (h1 : lo ≤ z) (h2 : z ≤ hi) : inI (hull lo hi) (w32 z) := by
  unfold hull inI
  split
  · rename_i h
    have : w32 z = z := w32_id (by unfold word; omega)
    rw [this]; exact ⟨h1, h2⟩
  · exact word_w32 z

theorem mul_mono_right {a b c : Int} (h : a ≤ b) (hc : 0 ≤ c) : a * c ≤ b * c := Int.mul_le_mul_of_nonneg_right h hc
theorem mul_anti_right {a b c : Int} (h : a ≤ b) (hc : c ≤ 0) : b * c ≤ a * c := Int.mul_le_mul_of_nonpos_right h hc
theorem mul_between {p0 p1 p c : Int} (h1 : p0 ≤ p) (h2 : p ≤ p1) : min (p0 * c) (p1 * c) ≤ p * c ∧ p * c ≤ max (p0 * c) (p1 * c) := by
  by_cases hc : 0 ≤ c
  · have a := mul_mono_right h1 hc
    have b := mul_mono_right h2 hc
    omega
  · have a := mul_anti_right (c := c) h1 (by omega)
    have b := mul_anti_right (c := c) h2 (by omega)
    omega
theorem mul_corners {p0 p1 r s p q : Int} (h1 : p0 ≤ p) (h2 : p ≤ p1) (h3 : r ≤ q) (h4 : q ≤ s) :
    min4 (p0 * r) (p0 * s) (p1 * r) (p1 * s) ≤ p * q ∧ p * q ≤ max4 (p0 * r) (p0 * s) (p1 * r) (p1 * s) := by
  have a := mul_between (c := q) h1 h2
  have b := mul_between (p0 := r) (p1 := s) (p := q) (c := p0) h3 h4
  have c := mul_between (p0 := r) (p1 := s) (p := q) (c := p1) h3 h4
  rw [Int.mul_comm r p0, Int.mul_comm s p0, Int.mul_comm q p0] at b
  rw [Int.mul_comm r p1, Int.mul_comm s p1, Int.mul_comm q p1] at c
  unfold min4 max4
  omega
theorem div_corners {p0 p1 r s p q : Int} (hr : 1 ≤ r) (h1 : p0 ≤ p) (h2 : p ≤ p1) (h3 : r ≤ q) (h4 : q ≤ s) :
    min4 (p0.tdiv r) (p0.tdiv s) (p1.tdiv r) (p1.tdiv s) ≤ p.tdiv q ∧ p.tdiv q ≤ max4 (p0.tdiv r) (p0.tdiv s) (p1.tdiv r) (p1.tdiv s) := by
  have a := tdiv_mono (q := q) (by omega) h1
  have b := tdiv_mono (q := q) (by omega) h2
  have c := tdiv_between (p := p0) hr h3 h4
  have d := tdiv_between (p := p1) hr h3 h4
  unfold min4 max4
  omega

/-- Shifts to the right. -/
theorem shr_ediv (a c : Int) : shr a c = a / 2 ^ c.toNat := by
  unfold shr
  rw [Int.fdiv_eq_ediv_of_nonneg _ (by have := pow_pos' c.toNat; omega)]
theorem shr_mono {a b c : Int} (h : a ≤ b) : shr a c ≤ shr b c := by
  rw [shr_ediv, shr_ediv]
  exact Int.ediv_le_ediv (pow_pos' _) h
theorem shr_step {a c d : Int} (h0 : 0 ≤ c) (h : c ≤ d) : (0 ≤ a → 0 ≤ shr a d ∧ shr a d ≤ shr a c) ∧ (a < 0 → shr a c ≤ shr a d ∧ shr a d < 0) := by
  rw [shr_ediv, shr_ediv]
  obtain ⟨x, rfl⟩ := Int.eq_ofNat_of_zero_le h0
  obtain ⟨y, rfl⟩ := Int.eq_ofNat_of_zero_le (show 0 ≤ d by omega)
  rw [Int.toNat_natCast, Int.toNat_natCast]
  obtain ⟨z, rfl⟩ : ∃ z, y = x + z := ⟨y - x, by omega⟩
  have e : a / 2 ^ (x + z) = a / 2 ^ x / 2 ^ z := by
    rw [Int.pow_add, Int.ediv_ediv_of_nonneg (by have := pow_pos' x; omega)]
  rw [e]
  have hx := pow_pos' x
  have hz := pow_pos' z
  constructor
  · intro ha
    have h1 : 0 ≤ a / 2 ^ x := Int.ediv_nonneg ha (by omega)
    refine ⟨Int.ediv_nonneg h1 (by omega), ?_⟩
    exact Int.ediv_le_self _ h1
  · intro ha
    have h1 : a / 2 ^ x < 0 := Int.ediv_neg_of_neg_of_pos ha hx
    have h2 : a / 2 ^ x / 2 ^ z < 0 := Int.ediv_neg_of_neg_of_pos h1 hz
    refine ⟨?_, h2⟩
    rw [Int.le_ediv_iff_mul_le hz]
    have : (a / 2 ^ x) * 2 ^ z ≤ (a / 2 ^ x) * 1 := Int.mul_le_mul_of_nonpos_left (by omega) (by omega)
    omega
theorem shr_zero (a : Int) : shr a 0 = a := by rw [shr_ediv]; simp
theorem shr_corners {p0 p1 r s p q : Int} (hr : 0 ≤ r) (h1 : p0 ≤ p) (h2 : p ≤ p1) (h3 : r ≤ q) (h4 : q ≤ s) :
    min4 (shr p0 r) (shr p0 s) (shr p1 r) (shr p1 s) ≤ shr p q ∧ shr p q ≤ max4 (shr p0 r) (shr p0 s) (shr p1 r) (shr p1 s) := by
  have a := shr_mono (c := q) h1
  have b := shr_mono (c := q) h2
  have c1 := shr_step (a := p0) hr h3
  have c2 := shr_step (a := p0) (show 0 ≤ q by omega) h4
  have d1 := shr_step (a := p1) hr h3
  have d2 := shr_step (a := p1) (show 0 ≤ q by omega) h4
  unfold min4 max4
  by_cases hp0 : 0 ≤ p0
  · have := c1.1 hp0
    have := c2.1 hp0
    by_cases hp1 : 0 ≤ p1
    · have := d1.1 hp1
      have := d2.1 hp1
      omega
    · have := d1.2 (by omega)
      have := d2.2 (by omega)
      omega
  · have := c1.2 (by omega)
    have := c2.2 (by omega)
    by_cases hp1 : 0 ≤ p1
    · have := d1.1 hp1
      have := d2.1 hp1
      omega
    · have := d1.2 (by omega)
      have := d2.2 (by omega)
      omega
end Go.Ev
namespace Go.Ev

/-- The natural number of the lowest 64 bits. -/
def n64 (a : Int) : Nat := (a % ((2 ^ 64 : Nat) : Int)).toNat
theorem n64_lt (a : Int) : n64 a < 2 ^ 64 := by unfold n64; omega
theorem n64_nat {a : Int} (h0 : 0 ≤ a) (h : a < 2 ^ 63) : (n64 a : Int) = a := by unfold n64; omega
theorem andI_n (a b : Int) : andI .i64 a b = IntKind.wrap .i64 ((n64 a &&& n64 b : Nat) : Int) := by
  show IntKind.wrap .i64 (BitVec.ofInt 64 a &&& BitVec.ofInt 64 b).toNat = _
  rw [BitVec.toNat_and, BitVec.toNat_ofInt, BitVec.toNat_ofInt]; rfl
theorem orI_n (a b : Int) : orI .i64 a b = IntKind.wrap .i64 ((n64 a ||| n64 b : Nat) : Int) := by
  show IntKind.wrap .i64 (BitVec.ofInt 64 a ||| BitVec.ofInt 64 b).toNat = _
  rw [BitVec.toNat_or, BitVec.toNat_ofInt, BitVec.toNat_ofInt]; rfl
theorem xorI_n (a b : Int) : xorI .i64 a b = IntKind.wrap .i64 ((n64 a ^^^ n64 b : Nat) : Int) := by
  show IntKind.wrap .i64 (BitVec.ofInt 64 a ^^^ BitVec.ofInt 64 b).toNat = _
  rw [BitVec.toNat_xor, BitVec.toNat_ofInt, BitVec.toNat_ofInt]; rfl

theorem two_pow_nat (k : Nat) : (2 : Int) ^ k = ((2 ^ k : Nat) : Int) := by simp
theorem pow_dvd32 {k : Nat} (hk : k ≤ 32) {n : Nat} (hn : 32 ≤ n) : ((2 ^ k : Nat) : Int) ∣ ((2 ^ n : Nat) : Int) :=
  Int.natCast_dvd_natCast.2 (Nat.pow_dvd_pow 2 (by omega))
theorem wrap_mod (n : Int) {k : Nat} (hk : k ≤ 30) : IntKind.wrap .i64 n % 2 ^ k = n % 2 ^ k := by
  have h : (2 : Int) ^ k ∣ IntKind.wrap .i64 n - n := by
    rw [two_pow_nat]
    refine Int.dvd_trans (pow_dvd32 (k := k) (by omega) (n := 64) (by omega)) ?_
    simp only [IntKind.wrap, IntKind.bits, IntKind.signed]
    simp only [Bool.true_and]
    split <;> omega
  rw [Int.emod_emod_of_dvd _ (Int.dvd_refl _) |>.symm]
  exact Int.emod_eq_emod_iff_emod_sub_eq_zero.2 (Int.emod_eq_zero_of_dvd h) |> fun e => by rw [e, Int.emod_emod_of_dvd _ (Int.dvd_refl _)]
theorem n64_mod (a : Int) {k : Nat} (hk : k ≤ 30) : ((n64 a % 2 ^ k : Nat) : Int) = a % 2 ^ k := by
  unfold n64
  rw [Int.natCast_emod, Int.toNat_of_nonneg (Int.emod_nonneg _ (by omega)), two_pow_nat]
  exact Int.emod_emod_of_dvd a (pow_dvd32 (by omega) (by omega))
theorem n64_congr {a b : Int} {k : Nat} (hk : k ≤ 30) (h : a % 2 ^ k = b % 2 ^ k) : n64 a % 2 ^ k = n64 b % 2 ^ k := by
  have h1 := n64_mod a hk
  have h2 := n64_mod b hk
  omega

theorem and_congr' {a b c d : Int} {k : Nat} (hk : k ≤ 30) (h : a % 2 ^ k = c % 2 ^ k) (h' : b % 2 ^ k = d % 2 ^ k) : andI .i64 a b % 2 ^ k = andI .i64 c d % 2 ^ k := by
  rw [andI_n, andI_n, wrap_mod _ hk, wrap_mod _ hk, two_pow_nat, ← Int.natCast_emod, ← Int.natCast_emod, Nat.and_mod_two_pow, Nat.and_mod_two_pow, n64_congr hk h, n64_congr hk h']
theorem or_congr' {a b c d : Int} {k : Nat} (hk : k ≤ 30) (h : a % 2 ^ k = c % 2 ^ k) (h' : b % 2 ^ k = d % 2 ^ k) : orI .i64 a b % 2 ^ k = orI .i64 c d % 2 ^ k := by
  rw [orI_n, orI_n, wrap_mod _ hk, wrap_mod _ hk, two_pow_nat, ← Int.natCast_emod, ← Int.natCast_emod, Nat.or_mod_two_pow, Nat.or_mod_two_pow, n64_congr hk h, n64_congr hk h']
theorem xor_congr' {a b c d : Int} {k : Nat} (hk : k ≤ 30) (h : a % 2 ^ k = c % 2 ^ k) (h' : b % 2 ^ k = d % 2 ^ k) : xorI .i64 a b % 2 ^ k = xorI .i64 c d % 2 ^ k := by
  rw [xorI_n, xorI_n, wrap_mod _ hk, wrap_mod _ hk, two_pow_nat, ← Int.natCast_emod, ← Int.natCast_emod, Nat.xor_mod_two_pow, Nat.xor_mod_two_pow, n64_congr hk h, n64_congr hk h']

theorem wrap_small {n : Nat} (h : n < 2 ^ 63) : IntKind.wrap .i64 (n : Int) = n := by
  simp only [IntKind.wrap, IntKind.bits, IntKind.signed]
  simp only [Bool.true_and]
  split <;> rename_i h1
  · exfalso; have := of_decide_eq_true h1; omega
  · omega
theorem and_right {a b : Int} (h0 : 0 ≤ b) (h : b ≤ 2147483647) : 0 ≤ andI .i64 a b ∧ andI .i64 a b ≤ b := by
  have hb := n64_nat h0 (by omega)
  have h1 : n64 a &&& n64 b ≤ n64 b := Nat.and_le_right
  rw [andI_n, wrap_small (by omega)]
  omega
theorem and_left {a b : Int} (h0 : 0 ≤ a) (h : a ≤ 2147483647) : 0 ≤ andI .i64 a b ∧ andI .i64 a b ≤ a := by
  have hb := n64_nat h0 (by omega)
  have h1 : n64 a &&& n64 b ≤ n64 a := Nat.and_le_left
  rw [andI_n, wrap_small (by omega)]
  omega
theorem nat_lt_pow {a : Int} {k : Nat} (h0 : 0 ≤ a) (h1 : a < 2 ^ 63) (h : a < 2 ^ k) : n64 a < 2 ^ k := by
  have hb := n64_nat h0 h1
  rw [two_pow_nat] at h
  omega
theorem or_bound {a b : Int} {k : Nat} (ha : 0 ≤ a) (hb : 0 ≤ b) (ha' : a ≤ 2147483647) (hb' : b ≤ 2147483647) (h : a < 2 ^ k) (h' : b < 2 ^ k) :
    a ≤ orI .i64 a b ∧ b ≤ orI .i64 a b ∧ orI .i64 a b ≤ 2147483647 ∧ orI .i64 a b < 2 ^ k := by
  have e1 := n64_nat ha (by omega)
  have e2 := n64_nat hb (by omega)
  have l1 : n64 a ≤ n64 a ||| n64 b := Nat.left_le_or
  have l2 : n64 b ≤ n64 a ||| n64 b := Nat.right_le_or
  have l3 : n64 a ||| n64 b < 2 ^ 31 := Nat.or_lt_two_pow (by omega) (by omega)
  have l4 : n64 a ||| n64 b < 2 ^ k := Nat.or_lt_two_pow (nat_lt_pow ha (by omega) h) (nat_lt_pow hb (by omega) h')
  rw [orI_n, wrap_small (by omega), two_pow_nat]
  omega
theorem xor_bound {a b : Int} {k : Nat} (ha : 0 ≤ a) (hb : 0 ≤ b) (ha' : a ≤ 2147483647) (hb' : b ≤ 2147483647) (h : a < 2 ^ k) (h' : b < 2 ^ k) :
    0 ≤ xorI .i64 a b ∧ xorI .i64 a b ≤ 2147483647 ∧ xorI .i64 a b < 2 ^ k := by
  have e1 := n64_nat ha (by omega)
  have e2 := n64_nat hb (by omega)
  have l3 : n64 a ^^^ n64 b < 2 ^ 31 := Nat.xor_lt_two_pow (by omega) (by omega)
  have l4 : n64 a ^^^ n64 b < 2 ^ k := Nat.xor_lt_two_pow (nat_lt_pow ha (by omega) h) (nat_lt_pow hb (by omega) h')
  rw [xorI_n, wrap_small (by omega), two_pow_nat]
  omega

theorem maskF_spec : ∀ (k e : Nat) (n : Int), n < 2 ^ (e + k) → ∃ j, maskF k (2 ^ e - 1) n = 2 ^ j - 1 ∧ n < 2 ^ j
  | 0, e, n, h => ⟨e, rfl, h⟩
  | k + 1, e, n, h => by
    by_cases h1 : 2 ^ e - 1 < n
    · have e2 : 2 * ((2 : Int) ^ e - 1) + 1 = 2 ^ (e + 1) - 1 := by rw [Int.pow_succ]; omega
      rw [maskF_step k _ n _ e2, if_pos h1]
      exact maskF_spec k (e + 1) n (by rw [show e + 1 + k = e + (k + 1) by omega]; exact h)
    · refine ⟨e, ?_, by omega⟩
      rw [maskF_step k _ n _ rfl, if_neg h1]
theorem maskS_spec {n : Int} (h : n ≤ 2147483647) : ∃ j, maskS n = 2 ^ j - 1 ∧ n < 2 ^ j :=
  maskF_spec 33 0 n (by have : (2 : Int) ^ (0 + 33) = 8589934592 := rfl; omega)
end Go.Ev
set_option linter.unusedSectionVars false
namespace Go.Ev

theorem tmod_pos {p q : Int} (hp : 0 ≤ p) (hq : 1 ≤ q) : 0 ≤ p.tmod q ∧ p.tmod q ≤ p ∧ p.tmod q < q := by
  rw [Int.tmod_eq_emod_of_nonneg hp]
  have h1 := Int.emod_nonneg p (show q ≠ 0 by omega)
  have h2 := Int.emod_lt_of_pos p (show 0 < q by omega)
  have h3 : q * (p / q) + p % q = p := Int.mul_ediv_add_emod p q
  have h4 : 0 ≤ q * (p / q) := Int.mul_nonneg (by omega) (Int.ediv_nonneg hp (by omega))
  omega
theorem tmod_neg {p q : Int} (hp : p ≤ 0) (hq : 1 ≤ q) : p ≤ p.tmod q ∧ p.tmod q ≤ 0 ∧ -q < p.tmod q := by
  have h := tmod_pos (p := -p) (q := q) (by omega) hq
  rw [Int.neg_tmod] at h
  omega

section
variable {p0 p1 r0 r1 p q : Int} (hp0 : -2147483648 ≤ p0) (hp1 : p1 ≤ 2147483647) (hr0 : -2147483648 ≤ r0) (hr1 : r1 ≤ 2147483647) (h1 : p0 ≤ p) (h2 : p ≤ p1) (h3 : r0 ≤ q) (h4 : q ≤ r1)
include h1 h2 h3 h4
theorem in1 : inI (cAdd p0 p1 r0 r1) (wDo 1 p q) := hull_in (by omega) (by omega)
theorem in2 : inI (cSub p0 p1 r0 r1) (wDo 2 p q) := hull_in (by omega) (by omega)
theorem in3 : inI (cMul p0 p1 r0 r1) (wDo 3 p q) := hull_in (mul_corners h1 h2 h3 h4).1 (mul_corners h1 h2 h3 h4).2
theorem in4 : inI (cDiv p0 p1 r0 r1) (wDo 4 p q) := by
  unfold cDiv
  split
  · rename_i h
    have e : wDo 4 p q = if q = 0 then 0 else w32 (p.tdiv q) := rfl
    rw [e, if_neg (by omega)]
    exact hull_in (div_corners h h1 h2 h3 h4).1 (div_corners h h1 h2 h3 h4).2
  · exact word_wDo 4 p q
include hp0 hp1
theorem in5 : inI (cRem p0 p1 r0 r1) (wDo 5 p q) := by
  unfold cRem
  split
  · rename_i h
    have e : wDo 5 p q = w32 (p.tmod q) := (show wDo 5 p q = if q = 0 then 0 else w32 (p.tmod q) from rfl).trans (if_neg (by omega))
    rw [e]
    by_cases hp : 0 ≤ p
    · have := tmod_pos hp (show 1 ≤ q by omega)
      rw [w32_id (by unfold word; omega)]
      unfold inI
      simp only []
      constructor
      · split <;> omega
      · split <;> omega
    · have := tmod_neg (show p ≤ 0 by omega) (show 1 ≤ q by omega)
      rw [w32_id (by unfold word; omega)]
      unfold inI
      simp only []
      constructor
      · split <;> omega
      · split <;> omega
  · exact word_wDo 5 p q
include hr1
theorem in6 : inI (cAnd p0 p1 r0 r1) (wDo 6 p q) := by
  have e : wDo 6 p q = w32 (andI .i64 p q) := rfl
  unfold cAnd
  split
  · have a := and_left (a := p) (b := q) (by omega) (by omega)
    split
    · have b := and_right (a := p) (b := q) (by omega) (by omega)
      rw [e, w32_id (by unfold word; omega)]
      unfold inI; simp only []; omega
    · rw [e, w32_id (by unfold word; omega)]
      unfold inI; simp only []; omega
  · split
    · have b := and_right (a := p) (b := q) (by omega) (by omega)
      rw [e, w32_id (by unfold word; omega)]
      unfold inI; simp only []; omega
    · exact word_wDo 6 p q
theorem in7 : inI (cOr p0 p1 r0 r1) (wDo 7 p q) := by
  have e : wDo 7 p q = w32 (orI .i64 p q) := rfl
  unfold cOr
  split
  · obtain ⟨j, hj, hj'⟩ := maskS_spec (n := max p1 r1) (by omega)
    have b := or_bound (a := p) (b := q) (k := j) (by omega) (by omega) (by omega) (by omega) (by omega) (by omega)
    rw [e, w32_id (by unfold word; omega), hj]
    unfold inI; simp only []; omega
  · exact word_wDo 7 p q
theorem in8 : inI (cXor p0 p1 r0 r1) (wDo 8 p q) := by
  have e : wDo 8 p q = w32 (xorI .i64 p q) := rfl
  unfold cXor
  split
  · obtain ⟨j, hj, hj'⟩ := maskS_spec (n := max p1 r1) (by omega)
    have b := xor_bound (a := p) (b := q) (k := j) (by omega) (by omega) (by omega) (by omega) (by omega) (by omega)
    rw [e, w32_id (by unfold word; omega), hj]
    unfold inI; simp only []; omega
  · exact word_wDo 8 p q
theorem in9 : inI (cShl p0 p1 r0 r1) (wDo 9 p q) := by
  have e : wDo 9 p q = w32 (p * 2 ^ (q % 32).toNat) := rfl
  unfold cShl
  split
  · rename_i h
    have hq : q = r0 := by omega
    have hq' : q % 32 = r0 := by omega
    have hk := pow_pos' r0.toNat
    have a := mul_mono_right (c := 2 ^ r0.toNat) h1 (by omega)
    have b := mul_mono_right (c := 2 ^ r0.toNat) h2 (by omega)
    have c : 0 ≤ p0 * 2 ^ r0.toNat := Int.mul_nonneg (by omega) (by omega)
    rw [e, hq', w32_id (by unfold word; omega)]
    unfold inI; simp only []; omega
  · exact word_wDo 9 p q
theorem in10 : inI (cShr p0 p1 r0 r1) (wDo 10 p q) := by
  have e : wDo 10 p q = w32 (shr p (q % 32)) := rfl
  unfold cShr
  split
  · have hq : q % 32 = q := by omega
    rw [e, hq]
    exact hull_in (shr_corners (by omega) h1 h2 h3 h4).1 (shr_corners (by omega) h1 h2 h3 h4).2
  · have a := shr_step (a := p) (c := 0) (d := q % 32) (by omega) (by omega)
    rw [shr_zero] at a
    have b : (0 ≤ p → 0 ≤ shr p (q % 32) ∧ shr p (q % 32) ≤ p) ∧ (p < 0 → p ≤ shr p (q % 32) ∧ shr p (q % 32) < 0) := a
    rw [e, w32_id (by unfold word; omega)]
    unfold inI; simp only []; omega
omit hp0 hp1 hr1
theorem in11 : inI (cLt p0 p1 r0 r1) (wDo 11 p q) := by
  have e : wDo 11 p q = if p < q then 1 else 0 := rfl
  rw [e]; unfold cLt truthI inI
  repeat' split
  all_goals (simp only [] ; omega)
theorem in12 : inI (cLe p0 p1 r0 r1) (wDo 12 p q) := by
  have e : wDo 12 p q = if p ≤ q then 1 else 0 := rfl
  rw [e]; unfold cLe truthI inI
  repeat' split
  all_goals (simp only [] ; omega)
theorem in13 : inI (cEq p0 p1 r0 r1) (wDo 13 p q) := by
  have e : wDo 13 p q = if p = q then 1 else 0 := rfl
  rw [e]; unfold cEq truthI inI
  repeat' split
  all_goals (simp only [] ; omega)
theorem in14 : inI (cNe p0 p1 r0 r1) (wDo 14 p q) := by
  have e : wDo 14 p q = if p = q then 0 else 1 := rfl
  rw [e]; unfold cNe truthI inI
  repeat' split
  all_goals (simp only [] ; omega)
end

theorem ops14 {op : Int} (h1 : 1 ≤ op) (h2 : op ≤ 14) : op = 1 ∨ op = 2 ∨ op = 3 ∨ op = 4 ∨ op = 5 ∨ op = 6 ∨ op = 7 ∨ op = 8 ∨ op = 9 ∨ op = 10 ∨ op = 11 ∨ op = 12 ∨ op = 13 ∨ op = 14 := by omega

theorem fixI_word {a : Iv} {n : Int} (h : inI (fixI a) n) : -2147483648 ≤ (fixI a).lo ∧ (fixI a).lo ≤ (fixI a).hi ∧ (fixI a).hi ≤ 2147483647 := by
  have := fixI_cases a
  unfold inI at h
  omega
theorem doI_in {op p q : Int} {a b : Iv} (o1 : 1 ≤ op) (o2 : op ≤ 14) (ha : inI (fixI a) p) (hb : inI (fixI b) q) : inI (doI op a b) (wDo op p q) := by
  have wa := fixI_word ha
  have wb := fixI_word hb
  obtain ⟨h1, h2⟩ := ha
  obtain ⟨h3, h4⟩ := hb
  unfold doI
  rw [if_neg (by omega)]
  rcases ops14 o1 o2 with rfl | rfl | rfl | rfl | rfl | rfl | rfl | rfl | rfl | rfl | rfl | rfl | rfl | rfl
  · exact in1 h1 h2 h3 h4
  · exact in2 h1 h2 h3 h4
  · exact in3 h1 h2 h3 h4
  · exact in4 h1 h2 h3 h4
  · exact in5 wa.1 wa.2.2 h1 h2 h3 h4
  · exact in6 wa.1 wa.2.2 wb.2.2 h1 h2 h3 h4
  · exact in7 wa.1 wa.2.2 wb.2.2 h1 h2 h3 h4
  · exact in8 wa.1 wa.2.2 wb.2.2 h1 h2 h3 h4
  · exact in9 wa.1 wa.2.2 wb.2.2 h1 h2 h3 h4
  · exact in10 wa.1 wa.2.2 wb.2.2 h1 h2 h3 h4
  · exact in11 h1 h2 h3 h4
  · exact in12 h1 h2 h3 h4
  · exact in13 h1 h2 h3 h4
  · exact in14 h1 h2 h3 h4

/-- A word that an interval has, it has in form. -/
theorem inI_fix {a : Iv} {n : Int} (h : word n) (ha : inI a n) : inI (fixI a) n := by
  unfold fixI
  split
  · exact ha
  · exact h
theorem joinI_in {a b : Iv} {n : Int} (h : inI (fixI a) n ∨ inI (fixI b) n) : inI (joinI a b) n := by
  unfold joinI inI at *
  repeat' split
  all_goals first | omega | (simp only []; omega)
end Go.Ev
set_option linter.unusedSectionVars false
namespace Go.Ev

/-- Has a residue a number? -/
def inR (f : Rs) (n : Int) : Prop := f.m ≠ -1 ∧ (if f.m = 0 then n = f.r else (n - f.r) % f.m = 0)
def formR (f : Rs) : Prop := f.m = 0 ∨ P2 f.m

theorem mod_sub {a b : Int} {k : Nat} : a % 2 ^ k = b % 2 ^ k ↔ (2 : Int) ^ k ∣ a - b := by
  rw [Int.emod_eq_emod_iff_emod_sub_eq_zero, Int.dvd_iff_emod_eq_zero]
theorem pow_dvd' {a b : Nat} (h : a ≤ b) : (2 : Int) ^ a ∣ 2 ^ b := by
  rw [two_pow_nat, two_pow_nat]; exact Int.natCast_dvd_natCast.2 (Nat.pow_dvd_pow 2 h)

theorem inR_mod {f : Rs} {n : Int} (hf : formR f) (h : inR f n) {k : Nat} (hk : (k : Int) ≤ exR f) : n % 2 ^ k = f.r % 2 ^ k := by
  obtain ⟨h0, h1⟩ := h
  by_cases hm : f.m = 0
  · rw [if_pos hm] at h1; rw [h1]
  · rw [if_neg hm] at h1
    rcases hf with hf | hf
    · contradiction
    · have e := ex_le hf
      unfold exR at hk
      rw [if_neg hm] at hk
      rw [mod_sub]
      refine Int.dvd_trans (pow_dvd' (show k ≤ ex f.m by omega)) ?_
      rw [← e.2]
      exact Int.dvd_of_emod_eq_zero h1
theorem inR_one {f : Rs} {n : Int} (h : inR f n) (hm : f.m = 0) : n = f.r := by
  have := h.2; rwa [if_pos hm] at this
theorem inR_all (n : Int) : inR allR n := ⟨by decide, by show (if (1 : Int) = 0 then _ else (n - 0) % 1 = 0); rw [if_neg (by decide)]; omega⟩
theorem inR_zero {r n : Int} (h : n = r) : inR ⟨0, r⟩ n := ⟨by show (0 : Int) ≠ -1; decide, by show (if (0 : Int) = 0 then n = r else _); rw [if_pos rfl]; exact h⟩
theorem lowS_in {x y n : Int} (hy : 0 ≤ y) (h : ∀ k : Nat, k ≤ 30 → (k : Int) ≤ y → n % 2 ^ k = x % 2 ^ k) : inR (lowS x y) n := by
  have h1 := h (min y 30).toNat (by omega) (by omega)
  have hp := pow_pos' (min y 30).toNat
  unfold lowS inR
  simp only []
  refine ⟨by omega, ?_⟩
  rw [if_neg (by omega)]
  rw [← h1]
  exact Int.emod_eq_zero_of_dvd (Int.dvd_self_sub_emod)

theorem ring_mod {op p q p' q' : Int} (hop : op = 1 ∨ op = 2 ∨ op = 3 ∨ op = 6 ∨ op = 7 ∨ op = 8) {k : Nat} (hk : k ≤ 30) (h : p % 2 ^ k = p' % 2 ^ k) (h' : q % 2 ^ k = q' % 2 ^ k) :
    wDo op p q % 2 ^ k = wDo op p' q' % 2 ^ k := by
  rcases hop with rfl | rfl | rfl | rfl | rfl | rfl
  · show w32 (p + q) % 2 ^ k = w32 (p' + q') % 2 ^ k
    rw [w32_mod _ _ hk, w32_mod _ _ hk, Int.add_emod, h, h', ← Int.add_emod]
  · show w32 (p - q) % 2 ^ k = w32 (p' - q') % 2 ^ k
    rw [w32_mod _ _ hk, w32_mod _ _ hk, Int.sub_emod, h, h', ← Int.sub_emod]
  · show w32 (p * q) % 2 ^ k = w32 (p' * q') % 2 ^ k
    rw [w32_mod _ _ hk, w32_mod _ _ hk, Int.mul_emod, h, h', ← Int.mul_emod]
  · show w32 (andI .i64 p q) % 2 ^ k = w32 (andI .i64 p' q') % 2 ^ k
    rw [w32_mod _ _ hk, w32_mod _ _ hk]; exact and_congr' hk h h'
  · show w32 (orI .i64 p q) % 2 ^ k = w32 (orI .i64 p' q') % 2 ^ k
    rw [w32_mod _ _ hk, w32_mod _ _ hk]; exact or_congr' hk h h'
  · show w32 (xorI .i64 p q) % 2 ^ k = w32 (xorI .i64 p' q') % 2 ^ k
    rw [w32_mod _ _ hk, w32_mod _ _ hk]; exact xor_congr' hk h h'

section
variable {f g : Rs} {p q : Int} (hf : formR f) (hg : formR g) (hp : inR f p) (hq : inR g q)
include hf hg hp hq
theorem both_in {op : Int} (h : f.m = 0 ∧ g.m = 0) : inR ⟨0, wDo op f.r g.r⟩ (wDo op p q) :=
  inR_zero (by rw [inR_one hp h.1, inR_one hq h.2])
theorem one_in {op : Int} : inR (oneR op f g) (wDo op p q) := by
  unfold oneR
  split
  · rename_i h; exact both_in hf hg hp hq h
  · exact inR_all _
theorem ring_in {op : Int} (hop : op = 1 ∨ op = 2 ∨ op = 3 ∨ op = 6 ∨ op = 7 ∨ op = 8) : inR (ringR op f g) (wDo op p q) := by
  unfold ringR
  split
  · rename_i h; exact both_in hf hg hp hq h
  · have bf := exR_bound hf
    have bg := exR_bound hg
    exact lowS_in (by omega) fun k hk hk' => ring_mod hop hk (inR_mod hf hp (by omega)) (inR_mod hg hq (by omega))
theorem shl_in : inR (shlR 9 f g) (wDo 9 p q) := by
  unfold shlR
  split
  · rename_i h; exact both_in hf hg hp hq h
  · split
    · rename_i h
      have bf := exR_bound hf
      rw [inR_one hq h]
      refine lowS_in (by omega) fun k hk hk' => ?_
      show w32 (p * 2 ^ (g.r % 32).toNat) % 2 ^ k = _
      rw [w32_mod _ _ hk, mod_sub, ← Int.sub_mul]
      generalize hs : (g.r % 32).toNat = s at *
      have h1 := inR_mod hf hp (k := k - s) (by omega)
      rw [mod_sub] at h1
      refine Int.dvd_trans (pow_dvd' (show k ≤ (k - s) + s by omega)) ?_
      rw [Int.pow_add]
      exact Int.mul_dvd_mul h1 (Int.dvd_refl _)
    · exact inR_all _
theorem eq_in {op v : Int} (h : ∀ a b : Int, a ≠ b → wDo op a b = v) : inR (eqR op v f g) (wDo op p q) := by
  unfold eqR
  split
  · rename_i h; exact both_in hf hg hp hq h
  · split
    · exact inR_all _
    · rename_i h0 h1
      have bf := exR_bound hf
      have bg := exR_bound hg
      refine inR_zero (h p q fun e => h1 ?_)
      have a := inR_mod hf hp (k := (min (exR f) (exR g)).toNat) (by omega)
      have b := inR_mod hg hq (k := (min (exR f) (exR g)).toNat) (by omega)
      rw [← e, a] at b
      rw [← Int.emod_eq_emod_iff_emod_sub_eq_zero]
      exact b
theorem core_in {op : Int} (o1 : 1 ≤ op) (o2 : op ≤ 14) : inR (coreR op f g) (wDo op p q) := by
  rcases ops14 o1 o2 with rfl | rfl | rfl | rfl | rfl | rfl | rfl | rfl | rfl | rfl | rfl | rfl | rfl | rfl
  · exact ring_in hf hg hp hq (by decide)
  · exact ring_in hf hg hp hq (by decide)
  · exact ring_in hf hg hp hq (by decide)
  · exact one_in hf hg hp hq
  · exact one_in hf hg hp hq
  · exact ring_in hf hg hp hq (by decide)
  · exact ring_in hf hg hp hq (by decide)
  · exact ring_in hf hg hp hq (by decide)
  · exact shl_in hf hg hp hq
  · exact one_in hf hg hp hq
  · exact one_in hf hg hp hq
  · exact one_in hf hg hp hq
  · exact eq_in hf hg hp hq fun a b h => (show wDo 13 a b = if a = b then 1 else 0 from rfl).trans (if_neg h)
  · exact eq_in hf hg hp hq fun a b h => (show wDo 14 a b = if a = b then 0 else 1 from rfl).trans (if_neg h)
end

theorem formR_fix {f : Rs} (h : (fixR f).m ≠ -1) : formR (fixR f) := by
  rcases fixR_cases f with a | a | a
  · exact absurd a.1 h
  · exact .inl a.1
  · exact .inr a.1
theorem doR_in {op p q : Int} {a b : Rs} (o1 : 1 ≤ op) (o2 : op ≤ 14) (ha : inR (fixR a) p) (hb : inR (fixR b) q) : inR (doR op a b) (wDo op p q) := by
  unfold doR
  rw [if_neg (fun h => h.elim ha.1 hb.1)]
  exact core_in (formR_fix ha.1) (formR_fix hb.1) ha hb o1 o2
theorem inR_fix {f : Rs} {n : Int} (h : inR f n) : inR (fixR f) n := by
  unfold fixR
  split
  · exact h
  · exact inR_all n
theorem joinR_in {a b : Rs} {n : Int} (h : inR (fixR a) n ∨ inR (fixR b) n) : inR (joinR a b) n := by
  unfold joinR
  split
  · rename_i h1
    exact h.elim (fun e => absurd h1 e.1) id
  · split
    · rename_i h1 h2
      exact h.elim id fun e => absurd h2 e.1
    · split
      · rename_i h1 h2 h3
        exact h.elim id fun e => h3 ▸ e
      · rename_i h1 h2 h3
        have ba := exR_bound (formR_fix h1)
        have bb := exR_bound (formR_fix h2)
        have bd : 0 ≤ dz ((fixR a).r - (fixR b).r) := tzU_nonneg _
        refine lowS_in (by omega) fun k hk hk' => ?_
        rcases h with h | h
        · exact inR_mod (formR_fix h1) h (by omega)
        · rw [inR_mod (formR_fix h2) h (by omega)]
          have := (dz_iff (d := (fixR a).r - (fixR b).r) (x := k) (by omega)).2 (by omega)
          exact (mod_sub.2 this).symm
end Go.Ev
namespace Go.Ev

/-- Does a value in form permit a number? -/
def gam (v : Vl) (n : Int) : Prop := inI v.i n ∧ inR v.r n
/-- A reduced value: of no word, of one, or of at least two with a step. -/
def Rf (v : Vl) : Prop := v = noneV ∨ (∃ n, word n ∧ v = ofV n) ∨
  (-2147483648 ≤ v.i.lo ∧ v.i.lo < v.i.hi ∧ v.i.hi ≤ 2147483647 ∧ P2 v.r.m ∧ 0 ≤ v.r.r ∧ v.r.r < v.r.m ∧ (v.i.lo - v.r.r) % v.r.m = 0 ∧ (v.i.hi - v.r.r) % v.r.m = 0)

theorem lo_mod (i : Iv) (r : Rs) : (loV i r - r.r) % r.m = 0 := by
  unfold loV
  rw [show i.lo + (r.r - i.lo) % r.m - r.r = -((r.r - i.lo) - (r.r - i.lo) % r.m) by omega]
  exact Int.emod_eq_zero_of_dvd (Int.dvd_neg.2 Int.dvd_self_sub_emod)
theorem hi_mod (i : Iv) (r : Rs) : (hiV i r - r.r) % r.m = 0 := by
  unfold hiV
  rw [show i.hi - (i.hi - r.r) % r.m - r.r = (i.hi - r.r) - (i.hi - r.r) % r.m by omega]
  exact Int.emod_eq_zero_of_dvd Int.dvd_self_sub_emod
theorem emod_le {a m : Int} (h : 0 ≤ a) (hm : 1 ≤ m) : a % m ≤ a := by
  have h3 : m * (a / m) + a % m = a := Int.mul_ediv_add_emod a m
  have h4 : 0 ≤ m * (a / m) := Int.mul_nonneg (by omega) (Int.ediv_nonneg h (by omega))
  omega
theorem lo_le {i : Iv} {r : Rs} {n : Int} (hm : 1 ≤ r.m) (h : i.lo ≤ n) (hr : (n - r.r) % r.m = 0) : loV i r ≤ n := by
  unfold loV
  have e : (r.r - i.lo) % r.m = (n - i.lo) % r.m := by
    rw [Int.emod_eq_emod_iff_emod_sub_eq_zero, show r.r - i.lo - (n - i.lo) = -(n - r.r) by omega]
    exact Int.emod_eq_zero_of_dvd ((Int.dvd_neg).2 (Int.dvd_of_emod_eq_zero hr))
  have := emod_le (a := n - i.lo) (m := r.m) (by omega) hm
  omega
theorem le_hi {i : Iv} {r : Rs} {n : Int} (hm : 1 ≤ r.m) (h : n ≤ i.hi) (hr : (n - r.r) % r.m = 0) : n ≤ hiV i r := by
  unfold hiV
  have e : (i.hi - r.r) % r.m = (i.hi - n) % r.m := by
    rw [Int.emod_eq_emod_iff_emod_sub_eq_zero, show i.hi - r.r - (i.hi - n) = n - r.r by omega]
    exact hr
  have := emod_le (a := i.hi - n) (m := r.m) (by omega) hm
  omega
theorem inR_pos {f : Rs} {n : Int} (hm : 1 ≤ f.m) : inR f n ↔ (n - f.r) % f.m = 0 := by
  unfold inR; rw [if_neg (by omega)]; exact ⟨And.right, fun h => ⟨by omega, h⟩⟩

theorem gam_of {n m : Int} : gam (ofV m) n ↔ n = m := by
  unfold gam inI inR ofV
  simp only []
  rw [if_pos trivial]
  omega
theorem gam_none {n : Int} : ¬ gam noneV n := by
  unfold gam inI noneV
  simp only []
  omega

theorem redC_in {i : Iv} {r : Rs} {n : Int} (hf : formR r) (h1 : inI i n) (h2 : inR r n) : gam (redC i r) n := by
  unfold redC
  have h1' := h1
  obtain ⟨a1, a2⟩ := h1'
  rw [if_neg (by have := h2.1; omega)]
  split
  · rename_i h
    have e := inR_one h2 h
    rw [if_pos (by omega), gam_of]
    exact e
  · rename_i h
    rcases hf with hf | hf
    · contradiction
    · have hm := (P2_pos hf).1
      have h3 := (inR_pos hm).1 h2
      have b1 := lo_le hm a1 h3
      have b2 := le_hi hm a2 h3
      rw [if_neg (by omega)]
      split
      · rw [gam_of]; omega
      · exact ⟨⟨b1, b2⟩, h2⟩
theorem redV_in {v : Vl} {n : Int} (hn : word n) (h1 : inI v.i n) (h2 : inR v.r n) : gam (redV v) n :=
  redC_in (formR_fix (inR_fix h2).1) (inI_fix hn h1) (inR_fix h2)

theorem redV_Rf (v : Vl) : Rf (redV v) := by
  unfold redV redC
  have hi := fixI_cases v.i
  have hr := fixR_cases v.r
  generalize fixI v.i = i at *
  generalize fixR v.r = r at *
  split
  · exact .inl rfl
  · rename_i h
    split
    · split
      · exact .inr (.inl ⟨_, by unfold word; omega, rfl⟩)
      · exact .inl rfl
    · rename_i h0
      have hP : P2 r.m := by
        rcases hr with hr | hr | hr
        · omega
        · omega
        · exact hr.1
      have hb : 0 ≤ r.r ∧ r.r < r.m := by omega
      have hm := P2_pos hP
      have b := loV_bound (i := i) (r := r) hm.1
      split
      · exact .inl rfl
      · split
        · exact .inr (.inl ⟨_, by unfold word; omega, rfl⟩)
        · refine .inr (.inr ⟨?_, ?_, ?_, hP, hb.1, hb.2, lo_mod i r, hi_mod i r⟩) <;> (simp only []; omega)

theorem Rf_fix {v : Vl} (h : Rf v) : fixI v.i = v.i ∧ fixR v.r = v.r := by
  rcases h with rfl | ⟨n, hn, rfl⟩ | h
  · exact ⟨if_pos (.inl ⟨rfl, rfl⟩), fixR_of (.inl ⟨rfl, rfl⟩)⟩
  · unfold word at hn
    exact ⟨if_pos (.inr ⟨hn.1, Int.le_refl _, hn.2⟩), fixR_of (.inr (.inl ⟨rfl, hn.1, hn.2⟩))⟩
  · exact ⟨if_pos (.inr ⟨h.1, by omega, h.2.2.1⟩), fixR_of (.inr (.inr ⟨h.2.2.2.1, h.2.2.2.2.1, h.2.2.2.2.2.1⟩))⟩
theorem Rf_red {v : Vl} (h : Rf v) : redV v = v := by
  unfold redV
  rw [(Rf_fix h).1, (Rf_fix h).2]
  rcases h with rfl | ⟨n, hn, rfl⟩ | h
  · rfl
  · unfold redC ofV
    simp only []
    rw [if_neg (by omega), if_pos trivial, if_pos (by omega)]
  · obtain ⟨⟨lo, hi⟩, ⟨m, r⟩⟩ := v
    obtain ⟨h1, h2, h3, h4, h5, h6, h7, h8⟩ := h
    simp only [] at *
    have hm := P2_pos h4
    have e1 : loV ⟨lo, hi⟩ ⟨m, r⟩ = lo := by
      have a := lo_le (i := ⟨lo, hi⟩) (r := ⟨m, r⟩) (n := lo) hm.1 (Int.le_refl _) h7
      have b := (loV_bound (i := ⟨lo, hi⟩) (r := ⟨m, r⟩) hm.1).1
      simp only [] at a b
      omega
    have e2 : hiV ⟨lo, hi⟩ ⟨m, r⟩ = hi := by
      have a := le_hi (i := ⟨lo, hi⟩) (r := ⟨m, r⟩) (n := hi) hm.1 (Int.le_refl _) h8
      have b := (loV_bound (i := ⟨lo, hi⟩) (r := ⟨m, r⟩) hm.1).2.2.1
      simp only [] at a b
      omega
    unfold redC
    simp only []
    rw [e1, e2, if_neg (by omega), if_neg (by omega), if_neg (by omega), if_neg (by omega)]

theorem Rf_word {v : Vl} {n : Int} (h : Rf v) (hn : gam v n) : word n := by
  rcases h with rfl | ⟨m, hm, rfl⟩ | h
  · exact absurd hn gam_none
  · rw [gam_of.1 hn]; exact hm
  · obtain ⟨⟨a, b⟩, _⟩ := hn
    unfold word
    omega

theorem has_gam {v : Vl} {n : Int} (h : Rf v) (hn : gam v n) : hasV v n = true := by
  have hw := Rf_word h hn
  unfold hasV
  rw [bc_eq, if_pos]
  · unfold hasR
    rw [(Rf_fix h).2]
    exact decide_eq_true ⟨hw, hn.2.1, hn.2.2⟩
  · unfold hasI
    rw [(Rf_fix h).1]
    have := hn.1
    simp only [Bool.and_eq_true, decide_eq_true_iff]
    exact this

theorem not_empty {v : Vl} {n : Int} (h : Rf v) (hn : gam v n) : emptyV v = false := by
  unfold emptyV
  rw [Rf_red h, Bool.eq_false_iff]
  intro e
  rw [eqIs4] at e
  simp only [Bool.and_eq_true, beq_iff_eq] at e
  have := hn.1
  unfold inI at this
  omega

/-- The ends of a reduced value that has a word. -/
theorem ends_in {v : Vl} {n : Int} (h : Rf v) (hn : gam v n) : gam v v.i.lo ∧ gam v v.i.hi := by
  rcases h with rfl | ⟨m, hm, rfl⟩ | h
  · exact absurd hn gam_none
  · exact ⟨gam_of.2 rfl, gam_of.2 rfl⟩
  · obtain ⟨h1, h2, h3, h4, h5, h6, h7, h8⟩ := h
    have hm := (P2_pos h4).1
    exact ⟨⟨⟨Int.le_refl _, by omega⟩, (inR_pos hm).2 h7⟩, ⟨⟨by omega, Int.le_refl _⟩, (inR_pos hm).2 h8⟩⟩

theorem leq_gam {x u : Vl} {n : Int} (hx : Rf x) (hu : Rf u) (hn : gam x n) (h : ∀ n, gam x n → gam u n) : leqV x u = true := by
  unfold leqV
  rw [not_empty hx hn, Rf_red hx, Rf_red hu]
  show bc (leqI x.i u.i) (leqR x.r u.r) false = true
  have e := ends_in hx hn
  have l := h _ e.1
  have r := h _ e.2
  rw [bc_eq, if_pos]
  · unfold leqR
    rw [(Rf_fix hx).2, (Rf_fix hu).2]
    refine decide_eq_true (.inr ⟨l.2.1, ?_⟩)
    rcases hu with rfl | ⟨m, hm, rfl⟩ | hu
    · exact absurd l gam_none
    · rw [gam_of] at l r
      rw [if_pos (show (ofV m).r.m = 0 from rfl)]
      rcases hx with rfl | ⟨k, hk, rfl⟩ | hx
      · exact absurd hn gam_none
      · exact ⟨rfl, l⟩
      · omega
    · have um := (P2_pos hu.2.2.2.1).1
      have l2 := (inR_pos um).1 l.2
      rw [if_neg (by omega)]
      rcases hx with rfl | ⟨k, hk, rfl⟩ | hx
      · exact absurd hn gam_none
      · exact ⟨.inl rfl, l2⟩
      · obtain ⟨h1, h2, h3, h4, h5, h6, h7, h8⟩ := hx
        have xm := (P2_pos h4).1
        have d1 := Int.dvd_of_emod_eq_zero h7
        have d2 := Int.dvd_of_emod_eq_zero h8
        have d3 : x.r.m ∣ x.i.hi - x.i.lo := by
          have := Int.dvd_sub d2 d1
          rwa [show x.i.hi - x.r.r - (x.i.lo - x.r.r) = x.i.hi - x.i.lo by omega] at this
        have d4 := Int.le_of_dvd (by omega) d3
        have g : gam x (x.i.lo + x.r.m) := by
          refine ⟨⟨by omega, by omega⟩, (inR_pos xm).2 ?_⟩
          rw [show x.i.lo + x.r.m - x.r.r = x.i.lo - x.r.r + x.r.m by omega]
          exact Int.emod_eq_zero_of_dvd (Int.dvd_add d1 (Int.dvd_refl _))
        have g2 := Int.dvd_of_emod_eq_zero ((inR_pos um).1 (h _ g).2)
        have l3 := Int.dvd_of_emod_eq_zero l2
        have d5 : u.r.m ∣ x.r.m := by
          have := Int.dvd_sub g2 l3
          rwa [show x.i.lo + x.r.m - u.r.r - (x.i.lo - u.r.r) = x.r.m by omega] at this
        refine ⟨.inr (Int.le_of_dvd (by omega) d5), ?_⟩
        have d6 := Int.dvd_sub l3 (Int.dvd_trans d5 d1)
        rw [show x.i.lo - u.r.r - (x.i.lo - x.r.r) = x.r.r - u.r.r by omega] at d6
        exact Int.emod_eq_zero_of_dvd d6
  · unfold leqI
    rw [(Rf_fix hx).1, (Rf_fix hu).1]
    have a := l.1.1
    have b := r.1.2
    simp only [Bool.or_eq_true, Bool.and_eq_true, decide_eq_true_iff]
    exact .inr ⟨a, b⟩

section
variable {x y : Vl} {p q : Int} (hx : Rf x) (hy : Rf y)
include hx hy
theorem do_gam {o : Int} (hp : gam x p) (hq : gam y q) (o1 : 1 ≤ o) (o2 : o ≤ 14) : gam (doV o x y) (wDo o p q) := by
  unfold doV
  rw [Rf_red hx, Rf_red hy]
  refine redV_in (word_wDo o p q) ?_ ?_
  · exact doI_in o1 o2 ((Rf_fix hx).1.symm ▸ hp.1) ((Rf_fix hy).1.symm ▸ hq.1)
  · exact doR_in o1 o2 ((Rf_fix hx).2.symm ▸ hp.2) ((Rf_fix hy).2.symm ▸ hq.2)
theorem join_gam {n : Int} (h : gam x n ∨ gam y n) : gam (joinV x y) n := by
  unfold joinV
  rw [Rf_red hx, Rf_red hy]
  refine redV_in (h.elim (Rf_word hx) (Rf_word hy)) ?_ ?_
  · exact joinI_in (h.imp (fun h => (Rf_fix hx).1.symm ▸ h.1) fun h => (Rf_fix hy).1.symm ▸ h.1)
  · exact joinR_in (h.imp (fun h => (Rf_fix hx).2.symm ▸ h.2) fun h => (Rf_fix hy).2.symm ▸ h.2)
end

/-- What the statement says of two reduced values and two of their words. -/
theorem sound_law {x y : Vl} {p q o : Int} (hx : Rf x) (hy : Rf y) (hp : gam x p) (hq : gam y q) (o1 : 1 ≤ o) (o2 : o ≤ 14) :
    hasV x p = true ∧ hasV y q = true ∧ hasV (doV o x y) (wDo o p q) = true ∧ hasV (joinV x y) p = true ∧ hasV (joinV x y) q = true ∧ leqV x (joinV x y) = true ∧ leqV y (joinV x y) = true ∧
    redV x = x ∧ redV (doV o x y) = doV o x y ∧ emptyV (doV o x y) = false := by
  have hz : Rf (doV o x y) := redV_Rf _
  have hu : Rf (joinV x y) := redV_Rf _
  have gz := do_gam hx hy hp hq o1 o2
  exact ⟨has_gam hx hp, has_gam hy hq, has_gam hz gz, has_gam hu (join_gam hx hy (.inl hp)), has_gam hu (join_gam hx hy (.inr hq)),
    leq_gam hx hu hp fun n h => join_gam hx hy (.inl h), leq_gam hy hu hq fun n h => join_gam hx hy (.inr h), Rf_red hx, Rf_red hz, not_empty hz gz⟩
end Go.Ev
