/-
  Residues and values: what their functions answer, in the program and in the reference.
-/
import Derived.Test.YthhpebcihfcajaaGreatDoorVaE
import Derived.Test.YthhpebcihfcajaaGreatDoorSeB
set_option linter.unusedVariables false
set_option linter.unusedSimpArgs false
namespace Go.Ev
open Go.Proofs

/-- How many of the lowest bits of a residue's words are known. -/
def exR (f : Rs) : Int := if f.m = 0 then 32 else (ex f.m : Int)
/-- How many of the lowest bits of a number are 0. -/
def dz (d : Int) : Int := tzU (IntKind.wrap .u64 d)
def noneR : Rs := ⟨-1, 0⟩
def allR : Rs := ⟨1, 0⟩
def joinR (a b : Rs) : Rs :=
  if (fixR a).m = -1 then fixR b else if (fixR b).m = -1 then fixR a else if fixR a = fixR b then fixR a
  else lowS (fixR a).r (min (dz ((fixR a).r - (fixR b).r)) (min (exR (fixR a)) (exR (fixR b))))
def oneR (op : Int) (f g : Rs) : Rs := if f.m = 0 ∧ g.m = 0 then ⟨0, wDo op f.r g.r⟩ else allR
def ringR (op : Int) (f g : Rs) : Rs := if f.m = 0 ∧ g.m = 0 then ⟨0, wDo op f.r g.r⟩ else lowS (wDo op f.r g.r) (min (exR f) (exR g))
def shlR (op : Int) (f g : Rs) : Rs := if f.m = 0 ∧ g.m = 0 then ⟨0, wDo op f.r g.r⟩ else if g.m = 0 then lowS (f.r * 2 ^ (g.r % 32).toNat) (exR f + g.r % 32) else allR
def eqR (op v : Int) (f g : Rs) : Rs := if f.m = 0 ∧ g.m = 0 then ⟨0, wDo op f.r g.r⟩ else if (f.r - g.r) % 2 ^ (min (exR f) (exR g)).toNat = 0 then allR else ⟨0, v⟩
def coreR (op : Int) (f g : Rs) : Rs :=
  if op = 1 ∨ op = 2 ∨ op = 3 ∨ op = 6 ∨ op = 7 ∨ op = 8 then ringR op f g else if op = 9 then shlR op f g else if op = 13 then eqR op 0 f g else if op = 14 then eqR op 1 f g
  else if op = 4 ∨ op = 5 ∨ op = 10 ∨ op = 11 ∨ op = 12 then oneR op f g else allR
/-- The residue of the results of an operator. -/
def doR (op : Int) (a b : Rs) : Rs := if (fixR a).m = -1 ∨ (fixR b).m = -1 then noneR else coreR op (fixR a) (fixR b)

theorem ex_le {m : Int} (h : P2 m) : ex m ≤ 30 ∧ m = 2 ^ ex m := by
  obtain ⟨k, hk, rfl⟩ := h
  rw [ex_pow hk]; exact ⟨hk, rfl⟩
theorem tzU_P2 {m : Int} (h : P2 m) : tzU (IntKind.wrap .u64 m) = ex m := by
  have hp := P2_pos h
  rw [wrapU_id (by omega) (by omega)]
  unfold tzU ex
  rw [if_neg (by omega)]
theorem tzU_nonneg (u : Int) : 0 ≤ tzU u := by unfold tzU; split <;> omega
theorem bitsS_P2 {m : Int} (h : P2 m) : bitsS m = ex m := by
  obtain ⟨k, hk, rfl⟩ := h
  have hp := pow_le30 hk
  unfold bitsS
  rw [if_neg (by omega), clF_pow hk, ex_pow hk]
theorem widS_ex {f : Rs} (h : f.m = 0 ∨ P2 f.m) : widS f = exR f := by
  unfold widS exR
  rcases h with h | h
  · rw [if_pos h, if_pos h]
  · have := P2_pos h
    rw [if_neg (by omega), if_neg (by omega), tzU_P2 h]
theorem bitsS_ex {f : Rs} (h : f.m = 0 ∨ P2 f.m) : bitsS f.m = exR f := by
  unfold exR
  rcases h with h | h
  · rw [if_pos h, h]; rfl
  · have := P2_pos h
    rw [if_neg (by omega), bitsS_P2 h]
theorem exR_bound {f : Rs} (h : f.m = 0 ∨ P2 f.m) : 0 ≤ exR f ∧ exR f ≤ 32 := by
  unfold exR
  split
  · omega
  · rcases h with h | h
    · contradiction
    · have := (ex_le h).1; omega
theorem lowS_congr {x y y' : Int} (h : min y 30 = min y' 30) : lowS x y = lowS x y' := by unfold lowS; rw [h]
theorem w32_mod (z : Int) (k : Nat) (h : k ≤ 30) : w32 z % 2 ^ k = z % 2 ^ k := by
  have hd : (2 : Int) ^ k ∣ 4294967296 := by
    have h1 : 2 ^ k ∣ 2 ^ 32 := Nat.pow_dvd_pow 2 (by omega)
    have h2 : (2 : Int) ^ k = ((2 ^ k : Nat) : Int) := by simp
    rw [h2]
    exact Int.natCast_dvd_natCast.2 h1
  obtain ⟨c, hc⟩ := hd
  have e : w32 z = z - 4294967296 * ((z + 2147483648) / 4294967296) := by unfold w32; omega
  rw [e, hc, Int.mul_assoc, Int.sub_mul_emod_self_left]
theorem lowS_w32 (z y : Int) : lowS (w32 z) y = lowS z y := by
  unfold lowS
  rw [w32_mod z _ (by omega)]
theorem lowS_eta (x y : Int) : Rs.mk (Rs.m (lowS x y)) (Rs.r (lowS x y)) = lowS x y := rfl
theorem some_rs {f : Rs} {g : Rs} (h : f = g) : some (Value.agg ⟨[.int .i64 f.m, .int .i64 f.r]⟩) = some (rsV g) := by rw [h]; rfl

theorem isW_ite {c : Prop} [Decidable c] {x y : Int} (hx : isW x = true) (hy : isW y = true) : isW (if c then x else y) = true := by
  by_cases h : c
  · rw [if_pos h]; exact hx
  · rw [if_neg h]; exact hy
theorem wDo_isW (op a b : Int) : isW (wDo op a b) = true := by
  unfold wDo
  repeat' (first | exact w32_isW _ | refine isW_ite ?_ ?_)
  all_goals rfl
theorem w32_wDo (op a b : Int) : w32 (wDo op a b) = wDo op a b := w32_of (wDo_isW op a b)

theorem dz_iff {d : Int} {x : Nat} (hx : x ≤ 63) : (2 : Int) ^ x ∣ d ↔ (x : Int) ≤ dz d := by
  unfold dz
  have hw : IntKind.wrap .u64 d = d % 18446744073709551616 := by
    simp only [IntKind.wrap, IntKind.bits, IntKind.signed]
    simp only [Bool.false_and, Bool.false_eq_true, if_false]
    rfl
  have hd : (2 : Int) ^ x ∣ 18446744073709551616 := by
    have h1 : 2 ^ x ∣ 2 ^ 64 := Nat.pow_dvd_pow 2 (by omega)
    have h2 : (2 : Int) ^ x = ((2 ^ x : Nat) : Int) := by simp
    rw [h2]
    exact Int.natCast_dvd_natCast.2 h1
  have h1 : (2 : Int) ^ x ∣ d ↔ (2 : Int) ^ x ∣ d % 18446744073709551616 := by
    rw [Int.dvd_iff_emod_eq_zero, Int.dvd_iff_emod_eq_zero, Int.emod_emod_of_dvd d hd]
  rw [h1, hw]
  have hu0 : 0 ≤ d % 18446744073709551616 := Int.emod_nonneg _ (by omega)
  have hu1 : d % 18446744073709551616 < 18446744073709551616 := Int.emod_lt_of_pos _ (by omega)
  generalize d % 18446744073709551616 = u at *
  unfold tzU
  by_cases h0 : u = 0
  · rw [if_pos h0, h0]
    constructor
    · intro _; omega
    · intro _; exact Int.dvd_zero _
  · rw [if_neg h0]
    obtain ⟨n, rfl⟩ := Int.eq_ofNat_of_zero_le hu0
    rw [Int.toNat_natCast]
    obtain ⟨m, h2, h3⟩ := tzF_spec 64 n (by omega) (by omega)
    have hc : (2 : Int) ^ x = ((2 ^ x : Nat) : Int) := by simp
    rw [hc, Int.natCast_dvd_natCast, Int.ofNat_le]
    constructor
    · rintro ⟨c, hc⟩
      apply Nat.le_of_not_lt
      intro hlt
      obtain ⟨e, he⟩ : ∃ e, x = tzF 64 n + 1 + e := ⟨x - (tzF 64 n + 1), by omega⟩
      have h6 : 2 ^ x = 2 ^ tzF 64 n * (2 * 2 ^ e) := by
        have h7 : x = tzF 64 n + (e + 1) := by omega
        rw [h7, Nat.pow_add, Nat.pow_succ, Nat.mul_comm (2 ^ e) 2]
      have h4 : 2 ^ tzF 64 n * (2 * m + 1) = 2 ^ tzF 64 n * (2 * (2 ^ e * c)) := h2.symm.trans (hc.trans (by rw [h6]; simp only [Nat.mul_assoc]))
      have h5 := Nat.eq_of_mul_eq_mul_left (Nat.two_pow_pos _) h4
      omega
    · intro hle
      rw [h2]
      exact Nat.dvd_trans (Nat.pow_dvd_pow 2 hle) (Nat.dvd_mul_right _ _)

theorem jl_eq {R : Type} {ra rb : Int} (hd : -9223372036854775808 ≤ ra - rb ∧ ra - rb ≤ 9223372036854775807) (fin : Int → Option R) : ∀ (n x : Nat), x ≤ n → x ≤ 30 → jl true ra rb fin (n + 1) x = fin (min (x : Int) (dz (ra - rb)))
  | n, x, hn, hx => by
    have hz := tzU_nonneg (IntKind.wrap .u64 (ra - rb))
    change 0 ≤ dz (ra - rb) at hz
    unfold jl
    rw [bc_ltB]
    by_cases h0 : x = 0
    · subst h0
      rw [if_neg (by omega)]
      congr 1
      omega
    · have hw : IntKind.wrap .u64 (x : Int) = x := wrapU_id (by omega) (by omega)
      have hp := pow_le30 hx
      rw [if_pos (by omega), hw, bc_ltB, if_neg (by omega), sealI_eq, shl_one hx, bc_eqB, if_neg (by omega), sub_eq, wr_id hd, sealI_eq, bc_neqB]
      simp only [tmod_zero]
      have h1 := dz_iff (d := ra - rb) (x := x) (by omega)
      rw [Int.dvd_iff_emod_eq_zero] at h1
      by_cases hm : (ra - rb) % 2 ^ x = 0
      · rw [if_pos hm]
        congr 1
        have := h1.1 hm
        omega
      · rw [if_neg hm]
        have h2 : ¬ (x : Int) ≤ dz (ra - rb) := fun h => hm (h1.2 h)
        obtain ⟨n', rfl⟩ : ∃ n', n = n' + 1 := ⟨n - 1, by omega⟩
        obtain ⟨x', rfl⟩ : ∃ x', x = x' + 1 := ⟨x - 1, by omega⟩
        rw [sub_eq, wr_id (by omega), show ((x' + 1 : Nat) : Int) - 1 = (x' : Int) by omega, jl_eq hd fin n' x' (by omega) (by omega)]
        congr 1
        omega

theorem of_wrap (n : Int) (h : isW n = true) : IntKind.wrap .i64 (IntKind.wrap .i32 (IntKind.wrap .u32 n)) = n := by rw [w32_wrap, w32_of h]
theorem of_wrap' (n : Int) (h : isW n = true) : IntKind.wrap .i64 (IntKind.wrap .i32 (IntKind.wrap .u32 (IntKind.wrap .u64 n))) = n := by rw [w32_wrap', w32_of h]

noncomputable section
theorem a77 : Ans2 encRs encRs 77 (fun a b => rsV (joinR a b)) := fun a b => by
  refine good_tree true 1000 20 rfl (fun ty k => t77b true ty a b k) (fun ty => ?_) rfl
  show _ = some (rsV (joinR a b))
  have hA := fixR_cases a
  have hB := fixR_cases b
  have hA' := fixR_bound a
  have hB' := fixR_bound b
  unfold joinR
  generalize fixR a = f at *
  generalize fixR b = g at *
  simp only [bc_eqIs2, mnI_eq, sub_eq]
  have hfg : f = g ↔ f.m = g.m ∧ f.r = g.r := by cases f; cases g; simp
  by_cases n1 : f.m = -1
  · have : f.r = 0 := by
      rcases hA with h | h | h
      · exact h.2
      · omega
      · have := P2_pos h.1; omega
    rw [if_pos ⟨n1, this⟩, if_pos n1]; rfl
  · rw [if_neg (fun h => n1 h.1), if_neg n1]
    have hf : f.m = 0 ∨ P2 f.m := by
      rcases hA with h | h | h
      · exact absurd h.1 n1
      · exact .inl h.1
      · exact .inr h.1
    by_cases n2 : g.m = -1
    · have hr : g.r = 0 := by
        rcases hB with h | h | h
        · exact h.2
        · omega
        · have := P2_pos h.1; omega
      rw [if_neg (fun h => n1 (h.1.trans n2)), if_pos ⟨n2, hr⟩, if_pos n2]; rfl
    · have hg : g.m = 0 ∨ P2 g.m := by
        rcases hB with h | h | h
        · exact absurd h.1 n2
        · exact .inl h.1
        · exact .inr h.1
      rw [if_neg n2]
      by_cases e : f = g
      · rw [if_pos (hfg.1 e), if_pos e, ← e]; rfl
      · rw [if_neg (fun h => e (hfg.2 h)), if_neg (fun h => n2 h.1), if_neg e]
        rw [wr_id (show -9223372036854775808 ≤ f.r - g.r ∧ f.r - g.r ≤ 9223372036854775807 by omega)]
        have z1 := tzU_nonneg (IntKind.wrap .u64 (f.r - g.r))
        have z2 := tzU_nonneg (IntKind.wrap .u64 f.m)
        have z3 := tzU_nonneg (IntKind.wrap .u64 g.m)
        rw [nn_iff.2 (by omega)]
        refine some_rs (lowS_congr ?_)
        unfold dz
        have e1 : min (tzU (IntKind.wrap .u64 f.m)) 30 = min (exR f) 30 := by
          rcases hf with h | h
          · rw [show exR f = 32 from if_pos h, h]; rfl
          · have := P2_pos h
            rw [show exR f = ex f.m from if_neg (by omega), tzU_P2 h]
        have e2 : min (tzU (IntKind.wrap .u64 g.m)) 30 = min (exR g) 30 := by
          rcases hg with h | h
          · rw [show exR g = 32 from if_pos h, h]; rfl
          · have := P2_pos h
            rw [show exR g = ex g.m from if_neg (by omega), tzU_P2 h]
        omega
def e77 : Ent := mk2 encRs encRs 77 _ a77

theorem a79 : Ans2 encRs encRs 79 (fun a b => rsV (joinR a b)) := fun a b => by
  refine good_tree true 41 20 rfl (fun ty k => t79 true ty a b k) (fun ty => ?_) rfl
  show _ = some (rsV (joinR a b))
  have hA := fixR_cases a
  have hB := fixR_cases b
  have hA' := fixR_bound a
  have hB' := fixR_bound b
  unfold joinR
  generalize fixR a = f at *
  generalize fixR b = g at *
  simp only [bc_eqIs2, mnI_eq]
  have hfg : f = g ↔ f.m = g.m ∧ f.r = g.r := by cases f; cases g; simp
  by_cases n1 : f.m = -1
  · have : f.r = 0 := by
      rcases hA with h | h | h
      · exact h.2
      · omega
      · have := P2_pos h.1; omega
    rw [if_pos ⟨n1, this⟩, if_pos n1]; rfl
  · rw [if_neg (fun h => n1 h.1), if_neg n1]
    have hf : f.m = 0 ∨ P2 f.m := by
      rcases hA with h | h | h
      · exact absurd h.1 n1
      · exact .inl h.1
      · exact .inr h.1
    by_cases n2 : g.m = -1
    · have hr : g.r = 0 := by
        rcases hB with h | h | h
        · exact h.2
        · omega
        · have := P2_pos h.1; omega
      rw [if_pos ⟨n2, hr⟩, if_pos n2]; rfl
    · have hg : g.m = 0 ∨ P2 g.m := by
        rcases hB with h | h | h
        · exact absurd h.1 n2
        · exact .inl h.1
        · exact .inr h.1
      rw [if_neg (fun h => n2 h.1), if_neg n2]
      by_cases e : f = g
      · rw [if_pos (hfg.1 e), if_pos e]; rfl
      · rw [if_neg (fun h => e (hfg.2 h)), if_neg e]
        have b1 := exR_bound hf
        have b2 := exR_bound hg
        rw [show leM (Rs.mk f.m f.r) = true from leM_iff.2 hA'.1.2, show leM (Rs.mk g.m g.r) = true from leM_iff.2 hB'.1.2]
        simp only [bc_true]
        rw [bitsS_ex hf, bitsS_ex hg]
        obtain ⟨x, hx⟩ := Int.eq_ofNat_of_zero_le (show 0 ≤ min (min (exR f) (exR g)) 30 by omega)
        rw [hx, jl_eq (by omega) _ 30 x (by omega) (by omega)]
        have hz := tzU_nonneg (IntKind.wrap .u64 (f.r - g.r))
        change 0 ≤ dz (f.r - g.r) at hz
        rw [nn_iff.2 (by omega)]
        refine some_rs (lowS_congr ?_)
        omega
def e79 : Ent := mk2 encRs encRs 79 _ a79

theorem coreR_p (n : Nat) (f g : Rs) : coreR (.ofNat (n + 15)) f g = allR := by
  unfold coreR
  have h : (Int.ofNat (n + 15) : Int) = (n : Int) + 15 := rfl
  rw [h]
  repeat (rw [if_neg (by omega)])
theorem coreR_n (n : Nat) (f g : Rs) : coreR (.negSucc n) f g = allR := by
  unfold coreR
  have h : (Int.negSucc n : Int) < 0 := Int.negSucc_lt_zero n
  repeat (rw [if_neg (by omega)])

theorem a73_0 (a b : Rs) : Good 73 [.int .i64 (0), rsV a, rsV b] (rsV (doR (0) a b)) ∧ pf (rsV (doR (0) a b)) = true := by
  refine good_tree true 1000 20 rfl (fun ty k => t73_0 true ty a b k) (fun ty => ?_) rfl
  have hA := fixR_cases a
  have hB := fixR_cases b
  have hA' := fixR_bound a
  have hB' := fixR_bound b
  unfold doR
  generalize fixR a = f at *
  generalize fixR b = g at *
  simp only [bc_eqIs2, bc_eqB, bc_neqB, bc_ltB, mnI_eq, sub_eq, add_eq, sealI_eq]
  by_cases n1 : f.m = -1
  · have : f.r = 0 := by
      rcases hA with h | h | h
      · exact h.2
      · omega
      · have := P2_pos h.1; omega
    rw [if_pos ⟨n1, this⟩, if_pos (.inl n1)]; rfl
  by_cases n2 : g.m = -1
  · have hr : g.r = 0 := by
      rcases hB with h | h | h
      · exact h.2
      · omega
      · have := P2_pos h.1; omega
    rw [if_neg (fun h => n1 h.1), if_pos ⟨n2, hr⟩, if_pos (.inr n2)]; rfl
  have hf : f.m = 0 ∨ P2 f.m := by
    rcases hA with h | h | h
    · exact absurd h.1 n1
    · exact .inl h.1
    · exact .inr h.1
  have hg : g.m = 0 ∨ P2 g.m := by
    rcases hB with h | h | h
    · exact absurd h.1 n2
    · exact .inl h.1
    · exact .inr h.1
  rw [if_neg (fun h => n1 h.1), if_neg (fun h => n2 h.1), if_neg (show ¬ (f.m = -1 ∨ g.m = -1) from fun h => h.elim n1 n2)]
  change _ = some (rsV (allR))
  have b1 := exR_bound hf
  have b2 := exR_bound hg
  have r1 : w32 f.r = f.r := w32_of (isW_iff.2 hA'.2)
  have r2 : w32 g.r = g.r := w32_of (isW_iff.2 hB'.2)
  have m1 : leM (Rs.mk f.m f.r) = true := leM_iff.2 hA'.1.2
  have m2 : leM (Rs.mk g.m g.r) = true := leM_iff.2 hB'.1.2
  have x1 : bitsS (Rs.m (Rs.mk f.m f.r)) = exR f := bitsS_ex hf
  have x2 : bitsS (Rs.m (Rs.mk g.m g.r)) = exR g := bitsS_ex hg
  have v1 : widS (Rs.mk f.m f.r) = exR f := widS_ex hf
  have v2 : widS (Rs.mk g.m g.r) = exR g := widS_ex hg
  have c1 : IntKind.wrap .u64 (exR f) = exR f := wrapU_id (by omega) (by omega)
  have c2 : IntKind.wrap .u64 (exR g) = exR g := wrapU_id (by omega) (by omega)
  try simp only [r1, r2, m1, m2, x1, x2, v1, v2, bc_true, of_wrap _ (wDo_isW _ _ _), of_wrap' _ (wDo_isW _ _ _), wErr_p, wErr_n, wDo_p, wDo_n]
  repeat' split
  all_goals first | rfl | (exfalso; omega)

theorem a73_1 (a b : Rs) : Good 73 [.int .i64 (1), rsV a, rsV b] (rsV (doR (1) a b)) ∧ pf (rsV (doR (1) a b)) = true := by
  refine good_tree true 1000 20 rfl (fun ty k => t73_1 true ty a b k) (fun ty => ?_) rfl
  have hA := fixR_cases a
  have hB := fixR_cases b
  have hA' := fixR_bound a
  have hB' := fixR_bound b
  unfold doR
  generalize fixR a = f at *
  generalize fixR b = g at *
  simp only [bc_eqIs2, bc_eqB, bc_neqB, bc_ltB, mnI_eq, sub_eq, add_eq, sealI_eq]
  by_cases n1 : f.m = -1
  · have : f.r = 0 := by
      rcases hA with h | h | h
      · exact h.2
      · omega
      · have := P2_pos h.1; omega
    rw [if_pos ⟨n1, this⟩, if_pos (.inl n1)]; rfl
  by_cases n2 : g.m = -1
  · have hr : g.r = 0 := by
      rcases hB with h | h | h
      · exact h.2
      · omega
      · have := P2_pos h.1; omega
    rw [if_neg (fun h => n1 h.1), if_pos ⟨n2, hr⟩, if_pos (.inr n2)]; rfl
  have hf : f.m = 0 ∨ P2 f.m := by
    rcases hA with h | h | h
    · exact absurd h.1 n1
    · exact .inl h.1
    · exact .inr h.1
  have hg : g.m = 0 ∨ P2 g.m := by
    rcases hB with h | h | h
    · exact absurd h.1 n2
    · exact .inl h.1
    · exact .inr h.1
  rw [if_neg (fun h => n1 h.1), if_neg (fun h => n2 h.1), if_neg (show ¬ (f.m = -1 ∨ g.m = -1) from fun h => h.elim n1 n2)]
  change _ = some (rsV (ringR 1 f g))
  have b1 := exR_bound hf
  have b2 := exR_bound hg
  have r1 : w32 f.r = f.r := w32_of (isW_iff.2 hA'.2)
  have r2 : w32 g.r = g.r := w32_of (isW_iff.2 hB'.2)
  have m1 : leM (Rs.mk f.m f.r) = true := leM_iff.2 hA'.1.2
  have m2 : leM (Rs.mk g.m g.r) = true := leM_iff.2 hB'.1.2
  have x1 : bitsS (Rs.m (Rs.mk f.m f.r)) = exR f := bitsS_ex hf
  have x2 : bitsS (Rs.m (Rs.mk g.m g.r)) = exR g := bitsS_ex hg
  have v1 : widS (Rs.mk f.m f.r) = exR f := widS_ex hf
  have v2 : widS (Rs.mk g.m g.r) = exR g := widS_ex hg
  have c1 : IntKind.wrap .u64 (exR f) = exR f := wrapU_id (by omega) (by omega)
  have c2 : IntKind.wrap .u64 (exR g) = exR g := wrapU_id (by omega) (by omega)
  have hn : nn (wDo 1 f.r g.r) (min (exR f) (exR g)) = true := nn_iff.2 (by omega)
  simp only [r1, r2, m1, m2, x1, x2, v1, v2, bc_true, hn, of_wrap _ (wDo_isW _ _ _), of_wrap' _ (wDo_isW _ _ _)]
  unfold ringR
  by_cases z1 : f.m = 0
  · by_cases z2 : g.m = 0
    · rw [if_pos z1, if_pos z2, if_pos ⟨z1, z2⟩]; rfl
    · rw [if_pos z1, if_neg z2, if_neg (fun h => z2 h.2)]; rfl
  · rw [if_neg z1, if_neg (fun h => z1 h.1)]; rfl

theorem a73_2 (a b : Rs) : Good 73 [.int .i64 (2), rsV a, rsV b] (rsV (doR (2) a b)) ∧ pf (rsV (doR (2) a b)) = true := by
  refine good_tree true 1000 20 rfl (fun ty k => t73_2 true ty a b k) (fun ty => ?_) rfl
  have hA := fixR_cases a
  have hB := fixR_cases b
  have hA' := fixR_bound a
  have hB' := fixR_bound b
  unfold doR
  generalize fixR a = f at *
  generalize fixR b = g at *
  simp only [bc_eqIs2, bc_eqB, bc_neqB, bc_ltB, mnI_eq, sub_eq, add_eq, sealI_eq]
  by_cases n1 : f.m = -1
  · have : f.r = 0 := by
      rcases hA with h | h | h
      · exact h.2
      · omega
      · have := P2_pos h.1; omega
    rw [if_pos ⟨n1, this⟩, if_pos (.inl n1)]; rfl
  by_cases n2 : g.m = -1
  · have hr : g.r = 0 := by
      rcases hB with h | h | h
      · exact h.2
      · omega
      · have := P2_pos h.1; omega
    rw [if_neg (fun h => n1 h.1), if_pos ⟨n2, hr⟩, if_pos (.inr n2)]; rfl
  have hf : f.m = 0 ∨ P2 f.m := by
    rcases hA with h | h | h
    · exact absurd h.1 n1
    · exact .inl h.1
    · exact .inr h.1
  have hg : g.m = 0 ∨ P2 g.m := by
    rcases hB with h | h | h
    · exact absurd h.1 n2
    · exact .inl h.1
    · exact .inr h.1
  rw [if_neg (fun h => n1 h.1), if_neg (fun h => n2 h.1), if_neg (show ¬ (f.m = -1 ∨ g.m = -1) from fun h => h.elim n1 n2)]
  change _ = some (rsV (ringR 2 f g))
  have b1 := exR_bound hf
  have b2 := exR_bound hg
  have r1 : w32 f.r = f.r := w32_of (isW_iff.2 hA'.2)
  have r2 : w32 g.r = g.r := w32_of (isW_iff.2 hB'.2)
  have m1 : leM (Rs.mk f.m f.r) = true := leM_iff.2 hA'.1.2
  have m2 : leM (Rs.mk g.m g.r) = true := leM_iff.2 hB'.1.2
  have x1 : bitsS (Rs.m (Rs.mk f.m f.r)) = exR f := bitsS_ex hf
  have x2 : bitsS (Rs.m (Rs.mk g.m g.r)) = exR g := bitsS_ex hg
  have v1 : widS (Rs.mk f.m f.r) = exR f := widS_ex hf
  have v2 : widS (Rs.mk g.m g.r) = exR g := widS_ex hg
  have c1 : IntKind.wrap .u64 (exR f) = exR f := wrapU_id (by omega) (by omega)
  have c2 : IntKind.wrap .u64 (exR g) = exR g := wrapU_id (by omega) (by omega)
  have hn : nn (wDo 2 f.r g.r) (min (exR f) (exR g)) = true := nn_iff.2 (by omega)
  simp only [r1, r2, m1, m2, x1, x2, v1, v2, bc_true, hn, of_wrap _ (wDo_isW _ _ _), of_wrap' _ (wDo_isW _ _ _)]
  unfold ringR
  by_cases z1 : f.m = 0
  · by_cases z2 : g.m = 0
    · rw [if_pos z1, if_pos z2, if_pos ⟨z1, z2⟩]; rfl
    · rw [if_pos z1, if_neg z2, if_neg (fun h => z2 h.2)]; rfl
  · rw [if_neg z1, if_neg (fun h => z1 h.1)]; rfl

theorem a73_3 (a b : Rs) : Good 73 [.int .i64 (3), rsV a, rsV b] (rsV (doR (3) a b)) ∧ pf (rsV (doR (3) a b)) = true := by
  refine good_tree true 1000 20 rfl (fun ty k => t73_3 true ty a b k) (fun ty => ?_) rfl
  have hA := fixR_cases a
  have hB := fixR_cases b
  have hA' := fixR_bound a
  have hB' := fixR_bound b
  unfold doR
  generalize fixR a = f at *
  generalize fixR b = g at *
  simp only [bc_eqIs2, bc_eqB, bc_neqB, bc_ltB, mnI_eq, sub_eq, add_eq, sealI_eq]
  by_cases n1 : f.m = -1
  · have : f.r = 0 := by
      rcases hA with h | h | h
      · exact h.2
      · omega
      · have := P2_pos h.1; omega
    rw [if_pos ⟨n1, this⟩, if_pos (.inl n1)]; rfl
  by_cases n2 : g.m = -1
  · have hr : g.r = 0 := by
      rcases hB with h | h | h
      · exact h.2
      · omega
      · have := P2_pos h.1; omega
    rw [if_neg (fun h => n1 h.1), if_pos ⟨n2, hr⟩, if_pos (.inr n2)]; rfl
  have hf : f.m = 0 ∨ P2 f.m := by
    rcases hA with h | h | h
    · exact absurd h.1 n1
    · exact .inl h.1
    · exact .inr h.1
  have hg : g.m = 0 ∨ P2 g.m := by
    rcases hB with h | h | h
    · exact absurd h.1 n2
    · exact .inl h.1
    · exact .inr h.1
  rw [if_neg (fun h => n1 h.1), if_neg (fun h => n2 h.1), if_neg (show ¬ (f.m = -1 ∨ g.m = -1) from fun h => h.elim n1 n2)]
  change _ = some (rsV (ringR 3 f g))
  have b1 := exR_bound hf
  have b2 := exR_bound hg
  have r1 : w32 f.r = f.r := w32_of (isW_iff.2 hA'.2)
  have r2 : w32 g.r = g.r := w32_of (isW_iff.2 hB'.2)
  have m1 : leM (Rs.mk f.m f.r) = true := leM_iff.2 hA'.1.2
  have m2 : leM (Rs.mk g.m g.r) = true := leM_iff.2 hB'.1.2
  have x1 : bitsS (Rs.m (Rs.mk f.m f.r)) = exR f := bitsS_ex hf
  have x2 : bitsS (Rs.m (Rs.mk g.m g.r)) = exR g := bitsS_ex hg
  have v1 : widS (Rs.mk f.m f.r) = exR f := widS_ex hf
  have v2 : widS (Rs.mk g.m g.r) = exR g := widS_ex hg
  have c1 : IntKind.wrap .u64 (exR f) = exR f := wrapU_id (by omega) (by omega)
  have c2 : IntKind.wrap .u64 (exR g) = exR g := wrapU_id (by omega) (by omega)
  have hn : nn (wDo 3 f.r g.r) (min (exR f) (exR g)) = true := nn_iff.2 (by omega)
  simp only [r1, r2, m1, m2, x1, x2, v1, v2, bc_true, hn, of_wrap _ (wDo_isW _ _ _), of_wrap' _ (wDo_isW _ _ _)]
  unfold ringR
  by_cases z1 : f.m = 0
  · by_cases z2 : g.m = 0
    · rw [if_pos z1, if_pos z2, if_pos ⟨z1, z2⟩]; rfl
    · rw [if_pos z1, if_neg z2, if_neg (fun h => z2 h.2)]; rfl
  · rw [if_neg z1, if_neg (fun h => z1 h.1)]; rfl

theorem a73_4 (a b : Rs) : Good 73 [.int .i64 (4), rsV a, rsV b] (rsV (doR (4) a b)) ∧ pf (rsV (doR (4) a b)) = true := by
  refine good_tree true 1000 20 rfl (fun ty k => t73_4 true ty a b k) (fun ty => ?_) rfl
  have hA := fixR_cases a
  have hB := fixR_cases b
  have hA' := fixR_bound a
  have hB' := fixR_bound b
  unfold doR
  generalize fixR a = f at *
  generalize fixR b = g at *
  simp only [bc_eqIs2, bc_eqB, bc_neqB, bc_ltB, mnI_eq, sub_eq, add_eq, sealI_eq]
  by_cases n1 : f.m = -1
  · have : f.r = 0 := by
      rcases hA with h | h | h
      · exact h.2
      · omega
      · have := P2_pos h.1; omega
    rw [if_pos ⟨n1, this⟩, if_pos (.inl n1)]; rfl
  by_cases n2 : g.m = -1
  · have hr : g.r = 0 := by
      rcases hB with h | h | h
      · exact h.2
      · omega
      · have := P2_pos h.1; omega
    rw [if_neg (fun h => n1 h.1), if_pos ⟨n2, hr⟩, if_pos (.inr n2)]; rfl
  have hf : f.m = 0 ∨ P2 f.m := by
    rcases hA with h | h | h
    · exact absurd h.1 n1
    · exact .inl h.1
    · exact .inr h.1
  have hg : g.m = 0 ∨ P2 g.m := by
    rcases hB with h | h | h
    · exact absurd h.1 n2
    · exact .inl h.1
    · exact .inr h.1
  rw [if_neg (fun h => n1 h.1), if_neg (fun h => n2 h.1), if_neg (show ¬ (f.m = -1 ∨ g.m = -1) from fun h => h.elim n1 n2)]
  change _ = some (rsV (oneR 4 f g))
  have b1 := exR_bound hf
  have b2 := exR_bound hg
  have r1 : w32 f.r = f.r := w32_of (isW_iff.2 hA'.2)
  have r2 : w32 g.r = g.r := w32_of (isW_iff.2 hB'.2)
  have m1 : leM (Rs.mk f.m f.r) = true := leM_iff.2 hA'.1.2
  have m2 : leM (Rs.mk g.m g.r) = true := leM_iff.2 hB'.1.2
  have x1 : bitsS (Rs.m (Rs.mk f.m f.r)) = exR f := bitsS_ex hf
  have x2 : bitsS (Rs.m (Rs.mk g.m g.r)) = exR g := bitsS_ex hg
  have v1 : widS (Rs.mk f.m f.r) = exR f := widS_ex hf
  have v2 : widS (Rs.mk g.m g.r) = exR g := widS_ex hg
  have c1 : IntKind.wrap .u64 (exR f) = exR f := wrapU_id (by omega) (by omega)
  have c2 : IntKind.wrap .u64 (exR g) = exR g := wrapU_id (by omega) (by omega)
  simp only [r1, r2, m1, m2, x1, x2, v1, v2, bc_true, of_wrap _ (wDo_isW _ _ _), of_wrap' _ (wDo_isW _ _ _)]
  unfold oneR
  by_cases z1 : f.m = 0
  · by_cases z2 : g.m = 0
    · rw [if_pos z1, if_pos z2, if_pos ⟨z1, z2⟩]; rfl
    · rw [if_pos z1, if_neg z2, if_neg (fun h => z2 h.2)]; rfl
  · rw [if_neg z1, if_neg (fun h => z1 h.1)]; rfl

theorem a73_5 (a b : Rs) : Good 73 [.int .i64 (5), rsV a, rsV b] (rsV (doR (5) a b)) ∧ pf (rsV (doR (5) a b)) = true := by
  refine good_tree true 1000 20 rfl (fun ty k => t73_5 true ty a b k) (fun ty => ?_) rfl
  have hA := fixR_cases a
  have hB := fixR_cases b
  have hA' := fixR_bound a
  have hB' := fixR_bound b
  unfold doR
  generalize fixR a = f at *
  generalize fixR b = g at *
  simp only [bc_eqIs2, bc_eqB, bc_neqB, bc_ltB, mnI_eq, sub_eq, add_eq, sealI_eq]
  by_cases n1 : f.m = -1
  · have : f.r = 0 := by
      rcases hA with h | h | h
      · exact h.2
      · omega
      · have := P2_pos h.1; omega
    rw [if_pos ⟨n1, this⟩, if_pos (.inl n1)]; rfl
  by_cases n2 : g.m = -1
  · have hr : g.r = 0 := by
      rcases hB with h | h | h
      · exact h.2
      · omega
      · have := P2_pos h.1; omega
    rw [if_neg (fun h => n1 h.1), if_pos ⟨n2, hr⟩, if_pos (.inr n2)]; rfl
  have hf : f.m = 0 ∨ P2 f.m := by
    rcases hA with h | h | h
    · exact absurd h.1 n1
    · exact .inl h.1
    · exact .inr h.1
  have hg : g.m = 0 ∨ P2 g.m := by
    rcases hB with h | h | h
    · exact absurd h.1 n2
    · exact .inl h.1
    · exact .inr h.1
  rw [if_neg (fun h => n1 h.1), if_neg (fun h => n2 h.1), if_neg (show ¬ (f.m = -1 ∨ g.m = -1) from fun h => h.elim n1 n2)]
  change _ = some (rsV (oneR 5 f g))
  have b1 := exR_bound hf
  have b2 := exR_bound hg
  have r1 : w32 f.r = f.r := w32_of (isW_iff.2 hA'.2)
  have r2 : w32 g.r = g.r := w32_of (isW_iff.2 hB'.2)
  have m1 : leM (Rs.mk f.m f.r) = true := leM_iff.2 hA'.1.2
  have m2 : leM (Rs.mk g.m g.r) = true := leM_iff.2 hB'.1.2
  have x1 : bitsS (Rs.m (Rs.mk f.m f.r)) = exR f := bitsS_ex hf
  have x2 : bitsS (Rs.m (Rs.mk g.m g.r)) = exR g := bitsS_ex hg
  have v1 : widS (Rs.mk f.m f.r) = exR f := widS_ex hf
  have v2 : widS (Rs.mk g.m g.r) = exR g := widS_ex hg
  have c1 : IntKind.wrap .u64 (exR f) = exR f := wrapU_id (by omega) (by omega)
  have c2 : IntKind.wrap .u64 (exR g) = exR g := wrapU_id (by omega) (by omega)
  simp only [r1, r2, m1, m2, x1, x2, v1, v2, bc_true, of_wrap _ (wDo_isW _ _ _), of_wrap' _ (wDo_isW _ _ _)]
  unfold oneR
  by_cases z1 : f.m = 0
  · by_cases z2 : g.m = 0
    · rw [if_pos z1, if_pos z2, if_pos ⟨z1, z2⟩]; rfl
    · rw [if_pos z1, if_neg z2, if_neg (fun h => z2 h.2)]; rfl
  · rw [if_neg z1, if_neg (fun h => z1 h.1)]; rfl

theorem a73_6 (a b : Rs) : Good 73 [.int .i64 (6), rsV a, rsV b] (rsV (doR (6) a b)) ∧ pf (rsV (doR (6) a b)) = true := by
  refine good_tree true 1000 20 rfl (fun ty k => t73_6 true ty a b k) (fun ty => ?_) rfl
  have hA := fixR_cases a
  have hB := fixR_cases b
  have hA' := fixR_bound a
  have hB' := fixR_bound b
  unfold doR
  generalize fixR a = f at *
  generalize fixR b = g at *
  simp only [bc_eqIs2, bc_eqB, bc_neqB, bc_ltB, mnI_eq, sub_eq, add_eq, sealI_eq]
  by_cases n1 : f.m = -1
  · have : f.r = 0 := by
      rcases hA with h | h | h
      · exact h.2
      · omega
      · have := P2_pos h.1; omega
    rw [if_pos ⟨n1, this⟩, if_pos (.inl n1)]; rfl
  by_cases n2 : g.m = -1
  · have hr : g.r = 0 := by
      rcases hB with h | h | h
      · exact h.2
      · omega
      · have := P2_pos h.1; omega
    rw [if_neg (fun h => n1 h.1), if_pos ⟨n2, hr⟩, if_pos (.inr n2)]; rfl
  have hf : f.m = 0 ∨ P2 f.m := by
    rcases hA with h | h | h
    · exact absurd h.1 n1
    · exact .inl h.1
    · exact .inr h.1
  have hg : g.m = 0 ∨ P2 g.m := by
    rcases hB with h | h | h
    · exact absurd h.1 n2
    · exact .inl h.1
    · exact .inr h.1
  rw [if_neg (fun h => n1 h.1), if_neg (fun h => n2 h.1), if_neg (show ¬ (f.m = -1 ∨ g.m = -1) from fun h => h.elim n1 n2)]
  change _ = some (rsV (ringR 6 f g))
  have b1 := exR_bound hf
  have b2 := exR_bound hg
  have r1 : w32 f.r = f.r := w32_of (isW_iff.2 hA'.2)
  have r2 : w32 g.r = g.r := w32_of (isW_iff.2 hB'.2)
  have m1 : leM (Rs.mk f.m f.r) = true := leM_iff.2 hA'.1.2
  have m2 : leM (Rs.mk g.m g.r) = true := leM_iff.2 hB'.1.2
  have x1 : bitsS (Rs.m (Rs.mk f.m f.r)) = exR f := bitsS_ex hf
  have x2 : bitsS (Rs.m (Rs.mk g.m g.r)) = exR g := bitsS_ex hg
  have v1 : widS (Rs.mk f.m f.r) = exR f := widS_ex hf
  have v2 : widS (Rs.mk g.m g.r) = exR g := widS_ex hg
  have c1 : IntKind.wrap .u64 (exR f) = exR f := wrapU_id (by omega) (by omega)
  have c2 : IntKind.wrap .u64 (exR g) = exR g := wrapU_id (by omega) (by omega)
  have hn : nn (wDo 6 f.r g.r) (min (exR f) (exR g)) = true := nn_iff.2 (by omega)
  simp only [r1, r2, m1, m2, x1, x2, v1, v2, bc_true, hn, of_wrap _ (wDo_isW _ _ _), of_wrap' _ (wDo_isW _ _ _)]
  unfold ringR
  by_cases z1 : f.m = 0
  · by_cases z2 : g.m = 0
    · rw [if_pos z1, if_pos z2, if_pos ⟨z1, z2⟩]; rfl
    · rw [if_pos z1, if_neg z2, if_neg (fun h => z2 h.2)]; rfl
  · rw [if_neg z1, if_neg (fun h => z1 h.1)]; rfl

theorem a73_7 (a b : Rs) : Good 73 [.int .i64 (7), rsV a, rsV b] (rsV (doR (7) a b)) ∧ pf (rsV (doR (7) a b)) = true := by
  refine good_tree true 1000 20 rfl (fun ty k => t73_7 true ty a b k) (fun ty => ?_) rfl
  have hA := fixR_cases a
  have hB := fixR_cases b
  have hA' := fixR_bound a
  have hB' := fixR_bound b
  unfold doR
  generalize fixR a = f at *
  generalize fixR b = g at *
  simp only [bc_eqIs2, bc_eqB, bc_neqB, bc_ltB, mnI_eq, sub_eq, add_eq, sealI_eq]
  by_cases n1 : f.m = -1
  · have : f.r = 0 := by
      rcases hA with h | h | h
      · exact h.2
      · omega
      · have := P2_pos h.1; omega
    rw [if_pos ⟨n1, this⟩, if_pos (.inl n1)]; rfl
  by_cases n2 : g.m = -1
  · have hr : g.r = 0 := by
      rcases hB with h | h | h
      · exact h.2
      · omega
      · have := P2_pos h.1; omega
    rw [if_neg (fun h => n1 h.1), if_pos ⟨n2, hr⟩, if_pos (.inr n2)]; rfl
  have hf : f.m = 0 ∨ P2 f.m := by
    rcases hA with h | h | h
    · exact absurd h.1 n1
    · exact .inl h.1
    · exact .inr h.1
  have hg : g.m = 0 ∨ P2 g.m := by
    rcases hB with h | h | h
    · exact absurd h.1 n2
    · exact .inl h.1
    · exact .inr h.1
  rw [if_neg (fun h => n1 h.1), if_neg (fun h => n2 h.1), if_neg (show ¬ (f.m = -1 ∨ g.m = -1) from fun h => h.elim n1 n2)]
  change _ = some (rsV (ringR 7 f g))
  have b1 := exR_bound hf
  have b2 := exR_bound hg
  have r1 : w32 f.r = f.r := w32_of (isW_iff.2 hA'.2)
  have r2 : w32 g.r = g.r := w32_of (isW_iff.2 hB'.2)
  have m1 : leM (Rs.mk f.m f.r) = true := leM_iff.2 hA'.1.2
  have m2 : leM (Rs.mk g.m g.r) = true := leM_iff.2 hB'.1.2
  have x1 : bitsS (Rs.m (Rs.mk f.m f.r)) = exR f := bitsS_ex hf
  have x2 : bitsS (Rs.m (Rs.mk g.m g.r)) = exR g := bitsS_ex hg
  have v1 : widS (Rs.mk f.m f.r) = exR f := widS_ex hf
  have v2 : widS (Rs.mk g.m g.r) = exR g := widS_ex hg
  have c1 : IntKind.wrap .u64 (exR f) = exR f := wrapU_id (by omega) (by omega)
  have c2 : IntKind.wrap .u64 (exR g) = exR g := wrapU_id (by omega) (by omega)
  have hn : nn (wDo 7 f.r g.r) (min (exR f) (exR g)) = true := nn_iff.2 (by omega)
  simp only [r1, r2, m1, m2, x1, x2, v1, v2, bc_true, hn, of_wrap _ (wDo_isW _ _ _), of_wrap' _ (wDo_isW _ _ _)]
  unfold ringR
  by_cases z1 : f.m = 0
  · by_cases z2 : g.m = 0
    · rw [if_pos z1, if_pos z2, if_pos ⟨z1, z2⟩]; rfl
    · rw [if_pos z1, if_neg z2, if_neg (fun h => z2 h.2)]; rfl
  · rw [if_neg z1, if_neg (fun h => z1 h.1)]; rfl

theorem a73_8 (a b : Rs) : Good 73 [.int .i64 (8), rsV a, rsV b] (rsV (doR (8) a b)) ∧ pf (rsV (doR (8) a b)) = true := by
  refine good_tree true 1000 20 rfl (fun ty k => t73_8 true ty a b k) (fun ty => ?_) rfl
  have hA := fixR_cases a
  have hB := fixR_cases b
  have hA' := fixR_bound a
  have hB' := fixR_bound b
  unfold doR
  generalize fixR a = f at *
  generalize fixR b = g at *
  simp only [bc_eqIs2, bc_eqB, bc_neqB, bc_ltB, mnI_eq, sub_eq, add_eq, sealI_eq]
  by_cases n1 : f.m = -1
  · have : f.r = 0 := by
      rcases hA with h | h | h
      · exact h.2
      · omega
      · have := P2_pos h.1; omega
    rw [if_pos ⟨n1, this⟩, if_pos (.inl n1)]; rfl
  by_cases n2 : g.m = -1
  · have hr : g.r = 0 := by
      rcases hB with h | h | h
      · exact h.2
      · omega
      · have := P2_pos h.1; omega
    rw [if_neg (fun h => n1 h.1), if_pos ⟨n2, hr⟩, if_pos (.inr n2)]; rfl
  have hf : f.m = 0 ∨ P2 f.m := by
    rcases hA with h | h | h
    · exact absurd h.1 n1
    · exact .inl h.1
    · exact .inr h.1
  have hg : g.m = 0 ∨ P2 g.m := by
    rcases hB with h | h | h
    · exact absurd h.1 n2
    · exact .inl h.1
    · exact .inr h.1
  rw [if_neg (fun h => n1 h.1), if_neg (fun h => n2 h.1), if_neg (show ¬ (f.m = -1 ∨ g.m = -1) from fun h => h.elim n1 n2)]
  change _ = some (rsV (ringR 8 f g))
  have b1 := exR_bound hf
  have b2 := exR_bound hg
  have r1 : w32 f.r = f.r := w32_of (isW_iff.2 hA'.2)
  have r2 : w32 g.r = g.r := w32_of (isW_iff.2 hB'.2)
  have m1 : leM (Rs.mk f.m f.r) = true := leM_iff.2 hA'.1.2
  have m2 : leM (Rs.mk g.m g.r) = true := leM_iff.2 hB'.1.2
  have x1 : bitsS (Rs.m (Rs.mk f.m f.r)) = exR f := bitsS_ex hf
  have x2 : bitsS (Rs.m (Rs.mk g.m g.r)) = exR g := bitsS_ex hg
  have v1 : widS (Rs.mk f.m f.r) = exR f := widS_ex hf
  have v2 : widS (Rs.mk g.m g.r) = exR g := widS_ex hg
  have c1 : IntKind.wrap .u64 (exR f) = exR f := wrapU_id (by omega) (by omega)
  have c2 : IntKind.wrap .u64 (exR g) = exR g := wrapU_id (by omega) (by omega)
  have hn : nn (wDo 8 f.r g.r) (min (exR f) (exR g)) = true := nn_iff.2 (by omega)
  simp only [r1, r2, m1, m2, x1, x2, v1, v2, bc_true, hn, of_wrap _ (wDo_isW _ _ _), of_wrap' _ (wDo_isW _ _ _)]
  unfold ringR
  by_cases z1 : f.m = 0
  · by_cases z2 : g.m = 0
    · rw [if_pos z1, if_pos z2, if_pos ⟨z1, z2⟩]; rfl
    · rw [if_pos z1, if_neg z2, if_neg (fun h => z2 h.2)]; rfl
  · rw [if_neg z1, if_neg (fun h => z1 h.1)]; rfl

theorem a73_9 (a b : Rs) : Good 73 [.int .i64 (9), rsV a, rsV b] (rsV (doR (9) a b)) ∧ pf (rsV (doR (9) a b)) = true := by
  refine good_tree true 1000 20 rfl (fun ty k => t73_9 true ty a b k) (fun ty => ?_) rfl
  have hA := fixR_cases a
  have hB := fixR_cases b
  have hA' := fixR_bound a
  have hB' := fixR_bound b
  unfold doR
  generalize fixR a = f at *
  generalize fixR b = g at *
  simp only [bc_eqIs2, bc_eqB, bc_neqB, bc_ltB, mnI_eq, sub_eq, add_eq, sealI_eq]
  by_cases n1 : f.m = -1
  · have : f.r = 0 := by
      rcases hA with h | h | h
      · exact h.2
      · omega
      · have := P2_pos h.1; omega
    rw [if_pos ⟨n1, this⟩, if_pos (.inl n1)]; rfl
  by_cases n2 : g.m = -1
  · have hr : g.r = 0 := by
      rcases hB with h | h | h
      · exact h.2
      · omega
      · have := P2_pos h.1; omega
    rw [if_neg (fun h => n1 h.1), if_pos ⟨n2, hr⟩, if_pos (.inr n2)]; rfl
  have hf : f.m = 0 ∨ P2 f.m := by
    rcases hA with h | h | h
    · exact absurd h.1 n1
    · exact .inl h.1
    · exact .inr h.1
  have hg : g.m = 0 ∨ P2 g.m := by
    rcases hB with h | h | h
    · exact absurd h.1 n2
    · exact .inl h.1
    · exact .inr h.1
  rw [if_neg (fun h => n1 h.1), if_neg (fun h => n2 h.1), if_neg (show ¬ (f.m = -1 ∨ g.m = -1) from fun h => h.elim n1 n2)]
  change _ = some (rsV (shlR 9 f g))
  have b1 := exR_bound hf
  have b2 := exR_bound hg
  have r1 : w32 f.r = f.r := w32_of (isW_iff.2 hA'.2)
  have r2 : w32 g.r = g.r := w32_of (isW_iff.2 hB'.2)
  have m1 : leM (Rs.mk f.m f.r) = true := leM_iff.2 hA'.1.2
  have m2 : leM (Rs.mk g.m g.r) = true := leM_iff.2 hB'.1.2
  have x1 : bitsS (Rs.m (Rs.mk f.m f.r)) = exR f := bitsS_ex hf
  have x2 : bitsS (Rs.m (Rs.mk g.m g.r)) = exR g := bitsS_ex hg
  have v1 : widS (Rs.mk f.m f.r) = exR f := widS_ex hf
  have v2 : widS (Rs.mk g.m g.r) = exR g := widS_ex hg
  have c1 : IntKind.wrap .u64 (exR f) = exR f := wrapU_id (by omega) (by omega)
  have c2 : IntKind.wrap .u64 (exR g) = exR g := wrapU_id (by omega) (by omega)
  simp only [r1, r2, m1, m2, x1, x2, v1, v2, bc_true, and31, of_wrap _ (wDo_isW _ _ _), of_wrap' _ (wDo_isW _ _ _)]
  unfold shlR
  have hc : 0 ≤ g.r % 32 ∧ g.r % 32 < 32 := by omega
  have hs : shlI .i64 f.r (g.r % 32) = f.r * 2 ^ (g.r % 32).toNat := shl_word (isW_iff.2 hA'.2) hc.1 (by omega)
  have hcc : w32 (g.r % 32) = g.r % 32 := w32_of (isW_iff.2 (by omega))
  have hd : wDo 9 f.r (g.r % 32) = w32 (f.r * 2 ^ (g.r % 32).toNat) := by
    show w32 (f.r * 2 ^ ((g.r % 32) % 32).toNat) = _
    rw [show (g.r % 32) % 32 = g.r % 32 by omega]
  have hn : ∀ x, nn x (exR f + g.r % 32) = true := fun x => nn_iff.2 (by omega)
  rw [wr_id (show -9223372036854775808 ≤ exR f + g.r % 32 ∧ exR f + g.r % 32 ≤ 9223372036854775807 by omega)]
  simp only [hs, hcc, hd, hn, bc_true, lowS_w32]
  have hneg : ¬ (g.r % 32 < 0) := by omega
  try simp only [hneg, if_false]
  by_cases z1 : f.m = 0
  · by_cases z2 : g.m = 0
    · simp only [z1, z2, if_true, and_self]; rfl
    · simp only [z1, z2, if_true, if_false, and_false]; rfl
  · by_cases z2 : g.m = 0
    · simp only [z1, z2, if_true, if_false, false_and]; rfl
    · simp only [z1, z2, if_false, and_self]; rfl

theorem a73_10 (a b : Rs) : Good 73 [.int .i64 (10), rsV a, rsV b] (rsV (doR (10) a b)) ∧ pf (rsV (doR (10) a b)) = true := by
  refine good_tree true 1000 20 rfl (fun ty k => t73_10 true ty a b k) (fun ty => ?_) rfl
  have hA := fixR_cases a
  have hB := fixR_cases b
  have hA' := fixR_bound a
  have hB' := fixR_bound b
  unfold doR
  generalize fixR a = f at *
  generalize fixR b = g at *
  simp only [bc_eqIs2, bc_eqB, bc_neqB, bc_ltB, mnI_eq, sub_eq, add_eq, sealI_eq]
  by_cases n1 : f.m = -1
  · have : f.r = 0 := by
      rcases hA with h | h | h
      · exact h.2
      · omega
      · have := P2_pos h.1; omega
    rw [if_pos ⟨n1, this⟩, if_pos (.inl n1)]; rfl
  by_cases n2 : g.m = -1
  · have hr : g.r = 0 := by
      rcases hB with h | h | h
      · exact h.2
      · omega
      · have := P2_pos h.1; omega
    rw [if_neg (fun h => n1 h.1), if_pos ⟨n2, hr⟩, if_pos (.inr n2)]; rfl
  have hf : f.m = 0 ∨ P2 f.m := by
    rcases hA with h | h | h
    · exact absurd h.1 n1
    · exact .inl h.1
    · exact .inr h.1
  have hg : g.m = 0 ∨ P2 g.m := by
    rcases hB with h | h | h
    · exact absurd h.1 n2
    · exact .inl h.1
    · exact .inr h.1
  rw [if_neg (fun h => n1 h.1), if_neg (fun h => n2 h.1), if_neg (show ¬ (f.m = -1 ∨ g.m = -1) from fun h => h.elim n1 n2)]
  change _ = some (rsV (oneR 10 f g))
  have b1 := exR_bound hf
  have b2 := exR_bound hg
  have r1 : w32 f.r = f.r := w32_of (isW_iff.2 hA'.2)
  have r2 : w32 g.r = g.r := w32_of (isW_iff.2 hB'.2)
  have m1 : leM (Rs.mk f.m f.r) = true := leM_iff.2 hA'.1.2
  have m2 : leM (Rs.mk g.m g.r) = true := leM_iff.2 hB'.1.2
  have x1 : bitsS (Rs.m (Rs.mk f.m f.r)) = exR f := bitsS_ex hf
  have x2 : bitsS (Rs.m (Rs.mk g.m g.r)) = exR g := bitsS_ex hg
  have v1 : widS (Rs.mk f.m f.r) = exR f := widS_ex hf
  have v2 : widS (Rs.mk g.m g.r) = exR g := widS_ex hg
  have c1 : IntKind.wrap .u64 (exR f) = exR f := wrapU_id (by omega) (by omega)
  have c2 : IntKind.wrap .u64 (exR g) = exR g := wrapU_id (by omega) (by omega)
  simp only [r1, r2, m1, m2, x1, x2, v1, v2, bc_true, of_wrap _ (wDo_isW _ _ _), of_wrap' _ (wDo_isW _ _ _)]
  unfold oneR
  by_cases z1 : f.m = 0
  · by_cases z2 : g.m = 0
    · rw [if_pos z1, if_pos z2, if_pos ⟨z1, z2⟩]; rfl
    · rw [if_pos z1, if_neg z2, if_neg (fun h => z2 h.2)]; rfl
  · rw [if_neg z1, if_neg (fun h => z1 h.1)]; rfl

theorem a73_11 (a b : Rs) : Good 73 [.int .i64 (11), rsV a, rsV b] (rsV (doR (11) a b)) ∧ pf (rsV (doR (11) a b)) = true := by
  refine good_tree true 1000 20 rfl (fun ty k => t73_11 true ty a b k) (fun ty => ?_) rfl
  have hA := fixR_cases a
  have hB := fixR_cases b
  have hA' := fixR_bound a
  have hB' := fixR_bound b
  unfold doR
  generalize fixR a = f at *
  generalize fixR b = g at *
  simp only [bc_eqIs2, bc_eqB, bc_neqB, bc_ltB, mnI_eq, sub_eq, add_eq, sealI_eq]
  by_cases n1 : f.m = -1
  · have : f.r = 0 := by
      rcases hA with h | h | h
      · exact h.2
      · omega
      · have := P2_pos h.1; omega
    rw [if_pos ⟨n1, this⟩, if_pos (.inl n1)]; rfl
  by_cases n2 : g.m = -1
  · have hr : g.r = 0 := by
      rcases hB with h | h | h
      · exact h.2
      · omega
      · have := P2_pos h.1; omega
    rw [if_neg (fun h => n1 h.1), if_pos ⟨n2, hr⟩, if_pos (.inr n2)]; rfl
  have hf : f.m = 0 ∨ P2 f.m := by
    rcases hA with h | h | h
    · exact absurd h.1 n1
    · exact .inl h.1
    · exact .inr h.1
  have hg : g.m = 0 ∨ P2 g.m := by
    rcases hB with h | h | h
    · exact absurd h.1 n2
    · exact .inl h.1
    · exact .inr h.1
  rw [if_neg (fun h => n1 h.1), if_neg (fun h => n2 h.1), if_neg (show ¬ (f.m = -1 ∨ g.m = -1) from fun h => h.elim n1 n2)]
  change _ = some (rsV (oneR 11 f g))
  have b1 := exR_bound hf
  have b2 := exR_bound hg
  have r1 : w32 f.r = f.r := w32_of (isW_iff.2 hA'.2)
  have r2 : w32 g.r = g.r := w32_of (isW_iff.2 hB'.2)
  have m1 : leM (Rs.mk f.m f.r) = true := leM_iff.2 hA'.1.2
  have m2 : leM (Rs.mk g.m g.r) = true := leM_iff.2 hB'.1.2
  have x1 : bitsS (Rs.m (Rs.mk f.m f.r)) = exR f := bitsS_ex hf
  have x2 : bitsS (Rs.m (Rs.mk g.m g.r)) = exR g := bitsS_ex hg
  have v1 : widS (Rs.mk f.m f.r) = exR f := widS_ex hf
  have v2 : widS (Rs.mk g.m g.r) = exR g := widS_ex hg
  have c1 : IntKind.wrap .u64 (exR f) = exR f := wrapU_id (by omega) (by omega)
  have c2 : IntKind.wrap .u64 (exR g) = exR g := wrapU_id (by omega) (by omega)
  simp only [r1, r2, m1, m2, x1, x2, v1, v2, bc_true, of_wrap _ (wDo_isW _ _ _), of_wrap' _ (wDo_isW _ _ _)]
  unfold oneR
  by_cases z1 : f.m = 0
  · by_cases z2 : g.m = 0
    · rw [if_pos z1, if_pos z2, if_pos ⟨z1, z2⟩]; rfl
    · rw [if_pos z1, if_neg z2, if_neg (fun h => z2 h.2)]; rfl
  · rw [if_neg z1, if_neg (fun h => z1 h.1)]; rfl

theorem a73_12 (a b : Rs) : Good 73 [.int .i64 (12), rsV a, rsV b] (rsV (doR (12) a b)) ∧ pf (rsV (doR (12) a b)) = true := by
  refine good_tree true 1000 20 rfl (fun ty k => t73_12 true ty a b k) (fun ty => ?_) rfl
  have hA := fixR_cases a
  have hB := fixR_cases b
  have hA' := fixR_bound a
  have hB' := fixR_bound b
  unfold doR
  generalize fixR a = f at *
  generalize fixR b = g at *
  simp only [bc_eqIs2, bc_eqB, bc_neqB, bc_ltB, mnI_eq, sub_eq, add_eq, sealI_eq]
  by_cases n1 : f.m = -1
  · have : f.r = 0 := by
      rcases hA with h | h | h
      · exact h.2
      · omega
      · have := P2_pos h.1; omega
    rw [if_pos ⟨n1, this⟩, if_pos (.inl n1)]; rfl
  by_cases n2 : g.m = -1
  · have hr : g.r = 0 := by
      rcases hB with h | h | h
      · exact h.2
      · omega
      · have := P2_pos h.1; omega
    rw [if_neg (fun h => n1 h.1), if_pos ⟨n2, hr⟩, if_pos (.inr n2)]; rfl
  have hf : f.m = 0 ∨ P2 f.m := by
    rcases hA with h | h | h
    · exact absurd h.1 n1
    · exact .inl h.1
    · exact .inr h.1
  have hg : g.m = 0 ∨ P2 g.m := by
    rcases hB with h | h | h
    · exact absurd h.1 n2
    · exact .inl h.1
    · exact .inr h.1
  rw [if_neg (fun h => n1 h.1), if_neg (fun h => n2 h.1), if_neg (show ¬ (f.m = -1 ∨ g.m = -1) from fun h => h.elim n1 n2)]
  change _ = some (rsV (oneR 12 f g))
  have b1 := exR_bound hf
  have b2 := exR_bound hg
  have r1 : w32 f.r = f.r := w32_of (isW_iff.2 hA'.2)
  have r2 : w32 g.r = g.r := w32_of (isW_iff.2 hB'.2)
  have m1 : leM (Rs.mk f.m f.r) = true := leM_iff.2 hA'.1.2
  have m2 : leM (Rs.mk g.m g.r) = true := leM_iff.2 hB'.1.2
  have x1 : bitsS (Rs.m (Rs.mk f.m f.r)) = exR f := bitsS_ex hf
  have x2 : bitsS (Rs.m (Rs.mk g.m g.r)) = exR g := bitsS_ex hg
  have v1 : widS (Rs.mk f.m f.r) = exR f := widS_ex hf
  have v2 : widS (Rs.mk g.m g.r) = exR g := widS_ex hg
  have c1 : IntKind.wrap .u64 (exR f) = exR f := wrapU_id (by omega) (by omega)
  have c2 : IntKind.wrap .u64 (exR g) = exR g := wrapU_id (by omega) (by omega)
  simp only [r1, r2, m1, m2, x1, x2, v1, v2, bc_true, of_wrap _ (wDo_isW _ _ _), of_wrap' _ (wDo_isW _ _ _)]
  unfold oneR
  by_cases z1 : f.m = 0
  · by_cases z2 : g.m = 0
    · rw [if_pos z1, if_pos z2, if_pos ⟨z1, z2⟩]; rfl
    · rw [if_pos z1, if_neg z2, if_neg (fun h => z2 h.2)]; rfl
  · rw [if_neg z1, if_neg (fun h => z1 h.1)]; rfl

theorem a73_13 (a b : Rs) : Good 73 [.int .i64 (13), rsV a, rsV b] (rsV (doR (13) a b)) ∧ pf (rsV (doR (13) a b)) = true := by
  refine good_tree true 1000 20 rfl (fun ty k => t73_13 true ty a b k) (fun ty => ?_) rfl
  have hA := fixR_cases a
  have hB := fixR_cases b
  have hA' := fixR_bound a
  have hB' := fixR_bound b
  unfold doR
  generalize fixR a = f at *
  generalize fixR b = g at *
  simp only [bc_eqIs2, bc_eqB, bc_neqB, bc_ltB, mnI_eq, sub_eq, add_eq, sealI_eq]
  by_cases n1 : f.m = -1
  · have : f.r = 0 := by
      rcases hA with h | h | h
      · exact h.2
      · omega
      · have := P2_pos h.1; omega
    rw [if_pos ⟨n1, this⟩, if_pos (.inl n1)]; rfl
  by_cases n2 : g.m = -1
  · have hr : g.r = 0 := by
      rcases hB with h | h | h
      · exact h.2
      · omega
      · have := P2_pos h.1; omega
    rw [if_neg (fun h => n1 h.1), if_pos ⟨n2, hr⟩, if_pos (.inr n2)]; rfl
  have hf : f.m = 0 ∨ P2 f.m := by
    rcases hA with h | h | h
    · exact absurd h.1 n1
    · exact .inl h.1
    · exact .inr h.1
  have hg : g.m = 0 ∨ P2 g.m := by
    rcases hB with h | h | h
    · exact absurd h.1 n2
    · exact .inl h.1
    · exact .inr h.1
  rw [if_neg (fun h => n1 h.1), if_neg (fun h => n2 h.1), if_neg (show ¬ (f.m = -1 ∨ g.m = -1) from fun h => h.elim n1 n2)]
  change _ = some (rsV (eqR 13 0 f g))
  have b1 := exR_bound hf
  have b2 := exR_bound hg
  have r1 : w32 f.r = f.r := w32_of (isW_iff.2 hA'.2)
  have r2 : w32 g.r = g.r := w32_of (isW_iff.2 hB'.2)
  have m1 : leM (Rs.mk f.m f.r) = true := leM_iff.2 hA'.1.2
  have m2 : leM (Rs.mk g.m g.r) = true := leM_iff.2 hB'.1.2
  have x1 : bitsS (Rs.m (Rs.mk f.m f.r)) = exR f := bitsS_ex hf
  have x2 : bitsS (Rs.m (Rs.mk g.m g.r)) = exR g := bitsS_ex hg
  have v1 : widS (Rs.mk f.m f.r) = exR f := widS_ex hf
  have v2 : widS (Rs.mk g.m g.r) = exR g := widS_ex hg
  have c1 : IntKind.wrap .u64 (exR f) = exR f := wrapU_id (by omega) (by omega)
  have c2 : IntKind.wrap .u64 (exR g) = exR g := wrapU_id (by omega) (by omega)
  simp only [r1, r2, m1, m2, x1, x2, v1, v2, bc_true, of_wrap _ (wDo_isW _ _ _), of_wrap' _ (wDo_isW _ _ _)]
  unfold eqR
  by_cases z : f.m = 0 ∧ g.m = 0
  · rw [if_pos z.1, if_pos z.2, if_pos z]; rfl
  rw [if_neg z]
  obtain ⟨x, hx⟩ := Int.eq_ofNat_of_zero_le (show 0 ≤ min (exR f) (exR g) by omega)
  have hx30 : x ≤ 30 := by
    have hlt : exR f ≤ 30 ∨ exR g ≤ 30 := by
      rcases hf with h | h
      · rcases hg with h' | h'
        · exact absurd ⟨h, h'⟩ z
        · have := P2_pos h'
          right; rw [show exR g = ex g.m from if_neg (by omega)]; have := (ex_le h').1; omega
      · have := P2_pos h
        left; rw [show exR f = ex f.m from if_neg (by omega)]; have := (ex_le h).1; omega
    omega
  have hp := pow_le30 hx30
  have hw : IntKind.wrap .u64 (x : Int) = x := wrapU_id (by omega) (by omega)
  rw [wr_id (show -9223372036854775808 ≤ f.r - g.r ∧ f.r - g.r ≤ 9223372036854775807 by omega)]
  have hneg : ¬ ((x : Int) < 0) := by omega
  have hp0 : ¬ ((2 : Int) ^ x = 0) := by omega
  simp only [hx, hw, shl_one hx30, hneg, hp0, if_false, tmod_zero, Int.toNat_natCast]
  by_cases z1 : f.m = 0
  · rw [if_pos z1]
    have z2 : ¬ g.m = 0 := fun h => z ⟨z1, h⟩
    rw [if_neg z2]
    split <;> rfl
  · rw [if_neg z1]
    split <;> rfl

theorem a73_14 (a b : Rs) : Good 73 [.int .i64 (14), rsV a, rsV b] (rsV (doR (14) a b)) ∧ pf (rsV (doR (14) a b)) = true := by
  refine good_tree true 1000 20 rfl (fun ty k => t73_14 true ty a b k) (fun ty => ?_) rfl
  have hA := fixR_cases a
  have hB := fixR_cases b
  have hA' := fixR_bound a
  have hB' := fixR_bound b
  unfold doR
  generalize fixR a = f at *
  generalize fixR b = g at *
  simp only [bc_eqIs2, bc_eqB, bc_neqB, bc_ltB, mnI_eq, sub_eq, add_eq, sealI_eq]
  by_cases n1 : f.m = -1
  · have : f.r = 0 := by
      rcases hA with h | h | h
      · exact h.2
      · omega
      · have := P2_pos h.1; omega
    rw [if_pos ⟨n1, this⟩, if_pos (.inl n1)]; rfl
  by_cases n2 : g.m = -1
  · have hr : g.r = 0 := by
      rcases hB with h | h | h
      · exact h.2
      · omega
      · have := P2_pos h.1; omega
    rw [if_neg (fun h => n1 h.1), if_pos ⟨n2, hr⟩, if_pos (.inr n2)]; rfl
  have hf : f.m = 0 ∨ P2 f.m := by
    rcases hA with h | h | h
    · exact absurd h.1 n1
    · exact .inl h.1
    · exact .inr h.1
  have hg : g.m = 0 ∨ P2 g.m := by
    rcases hB with h | h | h
    · exact absurd h.1 n2
    · exact .inl h.1
    · exact .inr h.1
  rw [if_neg (fun h => n1 h.1), if_neg (fun h => n2 h.1), if_neg (show ¬ (f.m = -1 ∨ g.m = -1) from fun h => h.elim n1 n2)]
  change _ = some (rsV (eqR 14 1 f g))
  have b1 := exR_bound hf
  have b2 := exR_bound hg
  have r1 : w32 f.r = f.r := w32_of (isW_iff.2 hA'.2)
  have r2 : w32 g.r = g.r := w32_of (isW_iff.2 hB'.2)
  have m1 : leM (Rs.mk f.m f.r) = true := leM_iff.2 hA'.1.2
  have m2 : leM (Rs.mk g.m g.r) = true := leM_iff.2 hB'.1.2
  have x1 : bitsS (Rs.m (Rs.mk f.m f.r)) = exR f := bitsS_ex hf
  have x2 : bitsS (Rs.m (Rs.mk g.m g.r)) = exR g := bitsS_ex hg
  have v1 : widS (Rs.mk f.m f.r) = exR f := widS_ex hf
  have v2 : widS (Rs.mk g.m g.r) = exR g := widS_ex hg
  have c1 : IntKind.wrap .u64 (exR f) = exR f := wrapU_id (by omega) (by omega)
  have c2 : IntKind.wrap .u64 (exR g) = exR g := wrapU_id (by omega) (by omega)
  simp only [r1, r2, m1, m2, x1, x2, v1, v2, bc_true, of_wrap _ (wDo_isW _ _ _), of_wrap' _ (wDo_isW _ _ _)]
  unfold eqR
  by_cases z : f.m = 0 ∧ g.m = 0
  · rw [if_pos z.1, if_pos z.2, if_pos z]; rfl
  rw [if_neg z]
  obtain ⟨x, hx⟩ := Int.eq_ofNat_of_zero_le (show 0 ≤ min (exR f) (exR g) by omega)
  have hx30 : x ≤ 30 := by
    have hlt : exR f ≤ 30 ∨ exR g ≤ 30 := by
      rcases hf with h | h
      · rcases hg with h' | h'
        · exact absurd ⟨h, h'⟩ z
        · have := P2_pos h'
          right; rw [show exR g = ex g.m from if_neg (by omega)]; have := (ex_le h').1; omega
      · have := P2_pos h
        left; rw [show exR f = ex f.m from if_neg (by omega)]; have := (ex_le h).1; omega
    omega
  have hp := pow_le30 hx30
  have hw : IntKind.wrap .u64 (x : Int) = x := wrapU_id (by omega) (by omega)
  rw [wr_id (show -9223372036854775808 ≤ f.r - g.r ∧ f.r - g.r ≤ 9223372036854775807 by omega)]
  have hneg : ¬ ((x : Int) < 0) := by omega
  have hp0 : ¬ ((2 : Int) ^ x = 0) := by omega
  simp only [hx, hw, shl_one hx30, hneg, hp0, if_false, tmod_zero, Int.toNat_natCast]
  by_cases z1 : f.m = 0
  · rw [if_pos z1]
    have z2 : ¬ g.m = 0 := fun h => z ⟨z1, h⟩
    rw [if_neg z2]
    split <;> rfl
  · rw [if_neg z1]
    split <;> rfl

theorem a73_p (n : Nat) (a b : Rs) : Good 73 [.int .i64 (.ofNat (n + 15)), rsV a, rsV b] (rsV (doR (.ofNat (n + 15)) a b)) ∧ pf (rsV (doR (.ofNat (n + 15)) a b)) = true := by
  refine good_tree true 1000 20 rfl (fun ty k => t73_p true ty n a b k) (fun ty => ?_) rfl
  have hA := fixR_cases a
  have hB := fixR_cases b
  have hA' := fixR_bound a
  have hB' := fixR_bound b
  unfold doR
  generalize fixR a = f at *
  generalize fixR b = g at *
  simp only [bc_eqIs2, bc_eqB, bc_neqB, bc_ltB, mnI_eq, sub_eq, add_eq, sealI_eq]
  by_cases n1 : f.m = -1
  · have : f.r = 0 := by
      rcases hA with h | h | h
      · exact h.2
      · omega
      · have := P2_pos h.1; omega
    rw [if_pos ⟨n1, this⟩, if_pos (.inl n1)]; rfl
  by_cases n2 : g.m = -1
  · have hr : g.r = 0 := by
      rcases hB with h | h | h
      · exact h.2
      · omega
      · have := P2_pos h.1; omega
    rw [if_neg (fun h => n1 h.1), if_pos ⟨n2, hr⟩, if_pos (.inr n2)]; rfl
  have hf : f.m = 0 ∨ P2 f.m := by
    rcases hA with h | h | h
    · exact absurd h.1 n1
    · exact .inl h.1
    · exact .inr h.1
  have hg : g.m = 0 ∨ P2 g.m := by
    rcases hB with h | h | h
    · exact absurd h.1 n2
    · exact .inl h.1
    · exact .inr h.1
  rw [if_neg (fun h => n1 h.1), if_neg (fun h => n2 h.1), if_neg (show ¬ (f.m = -1 ∨ g.m = -1) from fun h => h.elim n1 n2)]
  rw [coreR_p]
  have b1 := exR_bound hf
  have b2 := exR_bound hg
  have r1 : w32 f.r = f.r := w32_of (isW_iff.2 hA'.2)
  have r2 : w32 g.r = g.r := w32_of (isW_iff.2 hB'.2)
  have m1 : leM (Rs.mk f.m f.r) = true := leM_iff.2 hA'.1.2
  have m2 : leM (Rs.mk g.m g.r) = true := leM_iff.2 hB'.1.2
  have x1 : bitsS (Rs.m (Rs.mk f.m f.r)) = exR f := bitsS_ex hf
  have x2 : bitsS (Rs.m (Rs.mk g.m g.r)) = exR g := bitsS_ex hg
  have v1 : widS (Rs.mk f.m f.r) = exR f := widS_ex hf
  have v2 : widS (Rs.mk g.m g.r) = exR g := widS_ex hg
  have c1 : IntKind.wrap .u64 (exR f) = exR f := wrapU_id (by omega) (by omega)
  have c2 : IntKind.wrap .u64 (exR g) = exR g := wrapU_id (by omega) (by omega)
  try simp only [r1, r2, m1, m2, x1, x2, v1, v2, bc_true, of_wrap _ (wDo_isW _ _ _), of_wrap' _ (wDo_isW _ _ _), wErr_p, wErr_n, wDo_p, wDo_n]
  repeat' split
  all_goals first | rfl | (exfalso; omega)

theorem a73_n (n : Nat) (a b : Rs) : Good 73 [.int .i64 (.negSucc n), rsV a, rsV b] (rsV (doR (.negSucc n) a b)) ∧ pf (rsV (doR (.negSucc n) a b)) = true := by
  refine good_tree true 1000 20 rfl (fun ty k => t73_n true ty n a b k) (fun ty => ?_) rfl
  have hA := fixR_cases a
  have hB := fixR_cases b
  have hA' := fixR_bound a
  have hB' := fixR_bound b
  unfold doR
  generalize fixR a = f at *
  generalize fixR b = g at *
  simp only [bc_eqIs2, bc_eqB, bc_neqB, bc_ltB, mnI_eq, sub_eq, add_eq, sealI_eq]
  by_cases n1 : f.m = -1
  · have : f.r = 0 := by
      rcases hA with h | h | h
      · exact h.2
      · omega
      · have := P2_pos h.1; omega
    rw [if_pos ⟨n1, this⟩, if_pos (.inl n1)]; rfl
  by_cases n2 : g.m = -1
  · have hr : g.r = 0 := by
      rcases hB with h | h | h
      · exact h.2
      · omega
      · have := P2_pos h.1; omega
    rw [if_neg (fun h => n1 h.1), if_pos ⟨n2, hr⟩, if_pos (.inr n2)]; rfl
  have hf : f.m = 0 ∨ P2 f.m := by
    rcases hA with h | h | h
    · exact absurd h.1 n1
    · exact .inl h.1
    · exact .inr h.1
  have hg : g.m = 0 ∨ P2 g.m := by
    rcases hB with h | h | h
    · exact absurd h.1 n2
    · exact .inl h.1
    · exact .inr h.1
  rw [if_neg (fun h => n1 h.1), if_neg (fun h => n2 h.1), if_neg (show ¬ (f.m = -1 ∨ g.m = -1) from fun h => h.elim n1 n2)]
  rw [coreR_n]
  have b1 := exR_bound hf
  have b2 := exR_bound hg
  have r1 : w32 f.r = f.r := w32_of (isW_iff.2 hA'.2)
  have r2 : w32 g.r = g.r := w32_of (isW_iff.2 hB'.2)
  have m1 : leM (Rs.mk f.m f.r) = true := leM_iff.2 hA'.1.2
  have m2 : leM (Rs.mk g.m g.r) = true := leM_iff.2 hB'.1.2
  have x1 : bitsS (Rs.m (Rs.mk f.m f.r)) = exR f := bitsS_ex hf
  have x2 : bitsS (Rs.m (Rs.mk g.m g.r)) = exR g := bitsS_ex hg
  have v1 : widS (Rs.mk f.m f.r) = exR f := widS_ex hf
  have v2 : widS (Rs.mk g.m g.r) = exR g := widS_ex hg
  have c1 : IntKind.wrap .u64 (exR f) = exR f := wrapU_id (by omega) (by omega)
  have c2 : IntKind.wrap .u64 (exR g) = exR g := wrapU_id (by omega) (by omega)
  try simp only [r1, r2, m1, m2, x1, x2, v1, v2, bc_true, of_wrap _ (wDo_isW _ _ _), of_wrap' _ (wDo_isW _ _ _), wErr_p, wErr_n, wDo_p, wDo_n]
  repeat' split
  all_goals first | rfl | (exfalso; omega)

theorem a73 : Ans3 encI encRs encRs 73 (fun op a b => rsV (doR op a b)) := fun op a b => by
  match op with
  | .ofNat 0 => exact a73_0 a b
  | .ofNat 1 => exact a73_1 a b
  | .ofNat 2 => exact a73_2 a b
  | .ofNat 3 => exact a73_3 a b
  | .ofNat 4 => exact a73_4 a b
  | .ofNat 5 => exact a73_5 a b
  | .ofNat 6 => exact a73_6 a b
  | .ofNat 7 => exact a73_7 a b
  | .ofNat 8 => exact a73_8 a b
  | .ofNat 9 => exact a73_9 a b
  | .ofNat 10 => exact a73_10 a b
  | .ofNat 11 => exact a73_11 a b
  | .ofNat 12 => exact a73_12 a b
  | .ofNat 13 => exact a73_13 a b
  | .ofNat 14 => exact a73_14 a b
  | .ofNat (n + 15) => exact a73_p n a b
  | .negSucc n => exact a73_n n a b
def e73 : Ent := mk3 encI encRs encRs 73 _ a73

theorem a75_0 (a b : Rs) : Good 75 [.int .i64 (0), rsV a, rsV b] (rsV (doR (0) a b)) ∧ pf (rsV (doR (0) a b)) = true := by
  refine good_tree true 1000 20 rfl (fun ty k => t75_0 true ty a b k) (fun ty => ?_) rfl
  have hA := fixR_cases a
  have hB := fixR_cases b
  have hA' := fixR_bound a
  have hB' := fixR_bound b
  unfold doR
  generalize fixR a = f at *
  generalize fixR b = g at *
  simp only [bc_eqIs2, bc_eqB, bc_neqB, bc_ltB, mnI_eq, sub_eq, add_eq, sealI_eq]
  by_cases n1 : f.m = -1
  · have : f.r = 0 := by
      rcases hA with h | h | h
      · exact h.2
      · omega
      · have := P2_pos h.1; omega
    rw [if_pos ⟨n1, this⟩, if_pos (.inl n1)]; rfl
  by_cases n2 : g.m = -1
  · have hr : g.r = 0 := by
      rcases hB with h | h | h
      · exact h.2
      · omega
      · have := P2_pos h.1; omega
    rw [if_neg (fun h => n1 h.1), if_pos ⟨n2, hr⟩, if_pos (.inr n2)]; rfl
  have hf : f.m = 0 ∨ P2 f.m := by
    rcases hA with h | h | h
    · exact absurd h.1 n1
    · exact .inl h.1
    · exact .inr h.1
  have hg : g.m = 0 ∨ P2 g.m := by
    rcases hB with h | h | h
    · exact absurd h.1 n2
    · exact .inl h.1
    · exact .inr h.1
  rw [if_neg (fun h => n1 h.1), if_neg (fun h => n2 h.1), if_neg (show ¬ (f.m = -1 ∨ g.m = -1) from fun h => h.elim n1 n2)]
  change _ = some (rsV (allR))
  have b1 := exR_bound hf
  have b2 := exR_bound hg
  have r1 : w32 f.r = f.r := w32_of (isW_iff.2 hA'.2)
  have r2 : w32 g.r = g.r := w32_of (isW_iff.2 hB'.2)
  have m1 : leM (Rs.mk f.m f.r) = true := leM_iff.2 hA'.1.2
  have m2 : leM (Rs.mk g.m g.r) = true := leM_iff.2 hB'.1.2
  have x1 : bitsS (Rs.m (Rs.mk f.m f.r)) = exR f := bitsS_ex hf
  have x2 : bitsS (Rs.m (Rs.mk g.m g.r)) = exR g := bitsS_ex hg
  have v1 : widS (Rs.mk f.m f.r) = exR f := widS_ex hf
  have v2 : widS (Rs.mk g.m g.r) = exR g := widS_ex hg
  have c1 : IntKind.wrap .u64 (exR f) = exR f := wrapU_id (by omega) (by omega)
  have c2 : IntKind.wrap .u64 (exR g) = exR g := wrapU_id (by omega) (by omega)
  try simp only [r1, r2, m1, m2, x1, x2, v1, v2, bc_true, of_wrap _ (wDo_isW _ _ _), of_wrap' _ (wDo_isW _ _ _), wErr_p, wErr_n, wDo_p, wDo_n]
  repeat' split
  all_goals first | rfl | (exfalso; omega)

theorem a75_1 (a b : Rs) : Good 75 [.int .i64 (1), rsV a, rsV b] (rsV (doR (1) a b)) ∧ pf (rsV (doR (1) a b)) = true := by
  refine good_tree true 1000 20 rfl (fun ty k => t75_1 true ty a b k) (fun ty => ?_) rfl
  have hA := fixR_cases a
  have hB := fixR_cases b
  have hA' := fixR_bound a
  have hB' := fixR_bound b
  unfold doR
  generalize fixR a = f at *
  generalize fixR b = g at *
  simp only [bc_eqIs2, bc_eqB, bc_neqB, bc_ltB, mnI_eq, sub_eq, add_eq, sealI_eq]
  by_cases n1 : f.m = -1
  · have : f.r = 0 := by
      rcases hA with h | h | h
      · exact h.2
      · omega
      · have := P2_pos h.1; omega
    rw [if_pos ⟨n1, this⟩, if_pos (.inl n1)]; rfl
  by_cases n2 : g.m = -1
  · have hr : g.r = 0 := by
      rcases hB with h | h | h
      · exact h.2
      · omega
      · have := P2_pos h.1; omega
    rw [if_neg (fun h => n1 h.1), if_pos ⟨n2, hr⟩, if_pos (.inr n2)]; rfl
  have hf : f.m = 0 ∨ P2 f.m := by
    rcases hA with h | h | h
    · exact absurd h.1 n1
    · exact .inl h.1
    · exact .inr h.1
  have hg : g.m = 0 ∨ P2 g.m := by
    rcases hB with h | h | h
    · exact absurd h.1 n2
    · exact .inl h.1
    · exact .inr h.1
  rw [if_neg (fun h => n1 h.1), if_neg (fun h => n2 h.1), if_neg (show ¬ (f.m = -1 ∨ g.m = -1) from fun h => h.elim n1 n2)]
  change _ = some (rsV (ringR 1 f g))
  have b1 := exR_bound hf
  have b2 := exR_bound hg
  have r1 : w32 f.r = f.r := w32_of (isW_iff.2 hA'.2)
  have r2 : w32 g.r = g.r := w32_of (isW_iff.2 hB'.2)
  have m1 : leM (Rs.mk f.m f.r) = true := leM_iff.2 hA'.1.2
  have m2 : leM (Rs.mk g.m g.r) = true := leM_iff.2 hB'.1.2
  have x1 : bitsS (Rs.m (Rs.mk f.m f.r)) = exR f := bitsS_ex hf
  have x2 : bitsS (Rs.m (Rs.mk g.m g.r)) = exR g := bitsS_ex hg
  have v1 : widS (Rs.mk f.m f.r) = exR f := widS_ex hf
  have v2 : widS (Rs.mk g.m g.r) = exR g := widS_ex hg
  have c1 : IntKind.wrap .u64 (exR f) = exR f := wrapU_id (by omega) (by omega)
  have c2 : IntKind.wrap .u64 (exR g) = exR g := wrapU_id (by omega) (by omega)
  have hn : nn (wDo 1 f.r g.r) (min (exR f) (exR g)) = true := nn_iff.2 (by omega)
  simp only [r1, r2, m1, m2, x1, x2, v1, v2, bc_true, hn, of_wrap _ (wDo_isW _ _ _), of_wrap' _ (wDo_isW _ _ _)]
  unfold ringR
  by_cases z1 : f.m = 0
  · by_cases z2 : g.m = 0
    · rw [if_pos z1, if_pos z2, if_pos ⟨z1, z2⟩]; rfl
    · rw [if_pos z1, if_neg z2, if_neg (fun h => z2 h.2)]; rfl
  · rw [if_neg z1, if_neg (fun h => z1 h.1)]; rfl

theorem a75_2 (a b : Rs) : Good 75 [.int .i64 (2), rsV a, rsV b] (rsV (doR (2) a b)) ∧ pf (rsV (doR (2) a b)) = true := by
  refine good_tree true 1000 20 rfl (fun ty k => t75_2 true ty a b k) (fun ty => ?_) rfl
  have hA := fixR_cases a
  have hB := fixR_cases b
  have hA' := fixR_bound a
  have hB' := fixR_bound b
  unfold doR
  generalize fixR a = f at *
  generalize fixR b = g at *
  simp only [bc_eqIs2, bc_eqB, bc_neqB, bc_ltB, mnI_eq, sub_eq, add_eq, sealI_eq]
  by_cases n1 : f.m = -1
  · have : f.r = 0 := by
      rcases hA with h | h | h
      · exact h.2
      · omega
      · have := P2_pos h.1; omega
    rw [if_pos ⟨n1, this⟩, if_pos (.inl n1)]; rfl
  by_cases n2 : g.m = -1
  · have hr : g.r = 0 := by
      rcases hB with h | h | h
      · exact h.2
      · omega
      · have := P2_pos h.1; omega
    rw [if_neg (fun h => n1 h.1), if_pos ⟨n2, hr⟩, if_pos (.inr n2)]; rfl
  have hf : f.m = 0 ∨ P2 f.m := by
    rcases hA with h | h | h
    · exact absurd h.1 n1
    · exact .inl h.1
    · exact .inr h.1
  have hg : g.m = 0 ∨ P2 g.m := by
    rcases hB with h | h | h
    · exact absurd h.1 n2
    · exact .inl h.1
    · exact .inr h.1
  rw [if_neg (fun h => n1 h.1), if_neg (fun h => n2 h.1), if_neg (show ¬ (f.m = -1 ∨ g.m = -1) from fun h => h.elim n1 n2)]
  change _ = some (rsV (ringR 2 f g))
  have b1 := exR_bound hf
  have b2 := exR_bound hg
  have r1 : w32 f.r = f.r := w32_of (isW_iff.2 hA'.2)
  have r2 : w32 g.r = g.r := w32_of (isW_iff.2 hB'.2)
  have m1 : leM (Rs.mk f.m f.r) = true := leM_iff.2 hA'.1.2
  have m2 : leM (Rs.mk g.m g.r) = true := leM_iff.2 hB'.1.2
  have x1 : bitsS (Rs.m (Rs.mk f.m f.r)) = exR f := bitsS_ex hf
  have x2 : bitsS (Rs.m (Rs.mk g.m g.r)) = exR g := bitsS_ex hg
  have v1 : widS (Rs.mk f.m f.r) = exR f := widS_ex hf
  have v2 : widS (Rs.mk g.m g.r) = exR g := widS_ex hg
  have c1 : IntKind.wrap .u64 (exR f) = exR f := wrapU_id (by omega) (by omega)
  have c2 : IntKind.wrap .u64 (exR g) = exR g := wrapU_id (by omega) (by omega)
  have hn : nn (wDo 2 f.r g.r) (min (exR f) (exR g)) = true := nn_iff.2 (by omega)
  simp only [r1, r2, m1, m2, x1, x2, v1, v2, bc_true, hn, of_wrap _ (wDo_isW _ _ _), of_wrap' _ (wDo_isW _ _ _)]
  unfold ringR
  by_cases z1 : f.m = 0
  · by_cases z2 : g.m = 0
    · rw [if_pos z1, if_pos z2, if_pos ⟨z1, z2⟩]; rfl
    · rw [if_pos z1, if_neg z2, if_neg (fun h => z2 h.2)]; rfl
  · rw [if_neg z1, if_neg (fun h => z1 h.1)]; rfl

theorem a75_3 (a b : Rs) : Good 75 [.int .i64 (3), rsV a, rsV b] (rsV (doR (3) a b)) ∧ pf (rsV (doR (3) a b)) = true := by
  refine good_tree true 1000 20 rfl (fun ty k => t75_3 true ty a b k) (fun ty => ?_) rfl
  have hA := fixR_cases a
  have hB := fixR_cases b
  have hA' := fixR_bound a
  have hB' := fixR_bound b
  unfold doR
  generalize fixR a = f at *
  generalize fixR b = g at *
  simp only [bc_eqIs2, bc_eqB, bc_neqB, bc_ltB, mnI_eq, sub_eq, add_eq, sealI_eq]
  by_cases n1 : f.m = -1
  · have : f.r = 0 := by
      rcases hA with h | h | h
      · exact h.2
      · omega
      · have := P2_pos h.1; omega
    rw [if_pos ⟨n1, this⟩, if_pos (.inl n1)]; rfl
  by_cases n2 : g.m = -1
  · have hr : g.r = 0 := by
      rcases hB with h | h | h
      · exact h.2
      · omega
      · have := P2_pos h.1; omega
    rw [if_neg (fun h => n1 h.1), if_pos ⟨n2, hr⟩, if_pos (.inr n2)]; rfl
  have hf : f.m = 0 ∨ P2 f.m := by
    rcases hA with h | h | h
    · exact absurd h.1 n1
    · exact .inl h.1
    · exact .inr h.1
  have hg : g.m = 0 ∨ P2 g.m := by
    rcases hB with h | h | h
    · exact absurd h.1 n2
    · exact .inl h.1
    · exact .inr h.1
  rw [if_neg (fun h => n1 h.1), if_neg (fun h => n2 h.1), if_neg (show ¬ (f.m = -1 ∨ g.m = -1) from fun h => h.elim n1 n2)]
  change _ = some (rsV (ringR 3 f g))
  have b1 := exR_bound hf
  have b2 := exR_bound hg
  have r1 : w32 f.r = f.r := w32_of (isW_iff.2 hA'.2)
  have r2 : w32 g.r = g.r := w32_of (isW_iff.2 hB'.2)
  have m1 : leM (Rs.mk f.m f.r) = true := leM_iff.2 hA'.1.2
  have m2 : leM (Rs.mk g.m g.r) = true := leM_iff.2 hB'.1.2
  have x1 : bitsS (Rs.m (Rs.mk f.m f.r)) = exR f := bitsS_ex hf
  have x2 : bitsS (Rs.m (Rs.mk g.m g.r)) = exR g := bitsS_ex hg
  have v1 : widS (Rs.mk f.m f.r) = exR f := widS_ex hf
  have v2 : widS (Rs.mk g.m g.r) = exR g := widS_ex hg
  have c1 : IntKind.wrap .u64 (exR f) = exR f := wrapU_id (by omega) (by omega)
  have c2 : IntKind.wrap .u64 (exR g) = exR g := wrapU_id (by omega) (by omega)
  have hn : nn (wDo 3 f.r g.r) (min (exR f) (exR g)) = true := nn_iff.2 (by omega)
  simp only [r1, r2, m1, m2, x1, x2, v1, v2, bc_true, hn, of_wrap _ (wDo_isW _ _ _), of_wrap' _ (wDo_isW _ _ _)]
  unfold ringR
  by_cases z1 : f.m = 0
  · by_cases z2 : g.m = 0
    · rw [if_pos z1, if_pos z2, if_pos ⟨z1, z2⟩]; rfl
    · rw [if_pos z1, if_neg z2, if_neg (fun h => z2 h.2)]; rfl
  · rw [if_neg z1, if_neg (fun h => z1 h.1)]; rfl

theorem a75_4 (a b : Rs) : Good 75 [.int .i64 (4), rsV a, rsV b] (rsV (doR (4) a b)) ∧ pf (rsV (doR (4) a b)) = true := by
  refine good_tree true 1000 20 rfl (fun ty k => t75_4 true ty a b k) (fun ty => ?_) rfl
  have hA := fixR_cases a
  have hB := fixR_cases b
  have hA' := fixR_bound a
  have hB' := fixR_bound b
  unfold doR
  generalize fixR a = f at *
  generalize fixR b = g at *
  simp only [bc_eqIs2, bc_eqB, bc_neqB, bc_ltB, mnI_eq, sub_eq, add_eq, sealI_eq]
  by_cases n1 : f.m = -1
  · have : f.r = 0 := by
      rcases hA with h | h | h
      · exact h.2
      · omega
      · have := P2_pos h.1; omega
    rw [if_pos ⟨n1, this⟩, if_pos (.inl n1)]; rfl
  by_cases n2 : g.m = -1
  · have hr : g.r = 0 := by
      rcases hB with h | h | h
      · exact h.2
      · omega
      · have := P2_pos h.1; omega
    rw [if_neg (fun h => n1 h.1), if_pos ⟨n2, hr⟩, if_pos (.inr n2)]; rfl
  have hf : f.m = 0 ∨ P2 f.m := by
    rcases hA with h | h | h
    · exact absurd h.1 n1
    · exact .inl h.1
    · exact .inr h.1
  have hg : g.m = 0 ∨ P2 g.m := by
    rcases hB with h | h | h
    · exact absurd h.1 n2
    · exact .inl h.1
    · exact .inr h.1
  rw [if_neg (fun h => n1 h.1), if_neg (fun h => n2 h.1), if_neg (show ¬ (f.m = -1 ∨ g.m = -1) from fun h => h.elim n1 n2)]
  change _ = some (rsV (oneR 4 f g))
  have b1 := exR_bound hf
  have b2 := exR_bound hg
  have r1 : w32 f.r = f.r := w32_of (isW_iff.2 hA'.2)
  have r2 : w32 g.r = g.r := w32_of (isW_iff.2 hB'.2)
  have m1 : leM (Rs.mk f.m f.r) = true := leM_iff.2 hA'.1.2
  have m2 : leM (Rs.mk g.m g.r) = true := leM_iff.2 hB'.1.2
  have x1 : bitsS (Rs.m (Rs.mk f.m f.r)) = exR f := bitsS_ex hf
  have x2 : bitsS (Rs.m (Rs.mk g.m g.r)) = exR g := bitsS_ex hg
  have v1 : widS (Rs.mk f.m f.r) = exR f := widS_ex hf
  have v2 : widS (Rs.mk g.m g.r) = exR g := widS_ex hg
  have c1 : IntKind.wrap .u64 (exR f) = exR f := wrapU_id (by omega) (by omega)
  have c2 : IntKind.wrap .u64 (exR g) = exR g := wrapU_id (by omega) (by omega)
  simp only [r1, r2, m1, m2, x1, x2, v1, v2, bc_true, of_wrap _ (wDo_isW _ _ _), of_wrap' _ (wDo_isW _ _ _)]
  unfold oneR
  by_cases z1 : f.m = 0
  · by_cases z2 : g.m = 0
    · rw [if_pos z1, if_pos z2, if_pos ⟨z1, z2⟩]; rfl
    · rw [if_pos z1, if_neg z2, if_neg (fun h => z2 h.2)]; rfl
  · rw [if_neg z1, if_neg (fun h => z1 h.1)]; rfl

theorem a75_5 (a b : Rs) : Good 75 [.int .i64 (5), rsV a, rsV b] (rsV (doR (5) a b)) ∧ pf (rsV (doR (5) a b)) = true := by
  refine good_tree true 1000 20 rfl (fun ty k => t75_5 true ty a b k) (fun ty => ?_) rfl
  have hA := fixR_cases a
  have hB := fixR_cases b
  have hA' := fixR_bound a
  have hB' := fixR_bound b
  unfold doR
  generalize fixR a = f at *
  generalize fixR b = g at *
  simp only [bc_eqIs2, bc_eqB, bc_neqB, bc_ltB, mnI_eq, sub_eq, add_eq, sealI_eq]
  by_cases n1 : f.m = -1
  · have : f.r = 0 := by
      rcases hA with h | h | h
      · exact h.2
      · omega
      · have := P2_pos h.1; omega
    rw [if_pos ⟨n1, this⟩, if_pos (.inl n1)]; rfl
  by_cases n2 : g.m = -1
  · have hr : g.r = 0 := by
      rcases hB with h | h | h
      · exact h.2
      · omega
      · have := P2_pos h.1; omega
    rw [if_neg (fun h => n1 h.1), if_pos ⟨n2, hr⟩, if_pos (.inr n2)]; rfl
  have hf : f.m = 0 ∨ P2 f.m := by
    rcases hA with h | h | h
    · exact absurd h.1 n1
    · exact .inl h.1
    · exact .inr h.1
  have hg : g.m = 0 ∨ P2 g.m := by
    rcases hB with h | h | h
    · exact absurd h.1 n2
    · exact .inl h.1
    · exact .inr h.1
  rw [if_neg (fun h => n1 h.1), if_neg (fun h => n2 h.1), if_neg (show ¬ (f.m = -1 ∨ g.m = -1) from fun h => h.elim n1 n2)]
  change _ = some (rsV (oneR 5 f g))
  have b1 := exR_bound hf
  have b2 := exR_bound hg
  have r1 : w32 f.r = f.r := w32_of (isW_iff.2 hA'.2)
  have r2 : w32 g.r = g.r := w32_of (isW_iff.2 hB'.2)
  have m1 : leM (Rs.mk f.m f.r) = true := leM_iff.2 hA'.1.2
  have m2 : leM (Rs.mk g.m g.r) = true := leM_iff.2 hB'.1.2
  have x1 : bitsS (Rs.m (Rs.mk f.m f.r)) = exR f := bitsS_ex hf
  have x2 : bitsS (Rs.m (Rs.mk g.m g.r)) = exR g := bitsS_ex hg
  have v1 : widS (Rs.mk f.m f.r) = exR f := widS_ex hf
  have v2 : widS (Rs.mk g.m g.r) = exR g := widS_ex hg
  have c1 : IntKind.wrap .u64 (exR f) = exR f := wrapU_id (by omega) (by omega)
  have c2 : IntKind.wrap .u64 (exR g) = exR g := wrapU_id (by omega) (by omega)
  simp only [r1, r2, m1, m2, x1, x2, v1, v2, bc_true, of_wrap _ (wDo_isW _ _ _), of_wrap' _ (wDo_isW _ _ _)]
  unfold oneR
  by_cases z1 : f.m = 0
  · by_cases z2 : g.m = 0
    · rw [if_pos z1, if_pos z2, if_pos ⟨z1, z2⟩]; rfl
    · rw [if_pos z1, if_neg z2, if_neg (fun h => z2 h.2)]; rfl
  · rw [if_neg z1, if_neg (fun h => z1 h.1)]; rfl

theorem a75_6 (a b : Rs) : Good 75 [.int .i64 (6), rsV a, rsV b] (rsV (doR (6) a b)) ∧ pf (rsV (doR (6) a b)) = true := by
  refine good_tree true 1000 20 rfl (fun ty k => t75_6 true ty a b k) (fun ty => ?_) rfl
  have hA := fixR_cases a
  have hB := fixR_cases b
  have hA' := fixR_bound a
  have hB' := fixR_bound b
  unfold doR
  generalize fixR a = f at *
  generalize fixR b = g at *
  simp only [bc_eqIs2, bc_eqB, bc_neqB, bc_ltB, mnI_eq, sub_eq, add_eq, sealI_eq]
  by_cases n1 : f.m = -1
  · have : f.r = 0 := by
      rcases hA with h | h | h
      · exact h.2
      · omega
      · have := P2_pos h.1; omega
    rw [if_pos ⟨n1, this⟩, if_pos (.inl n1)]; rfl
  by_cases n2 : g.m = -1
  · have hr : g.r = 0 := by
      rcases hB with h | h | h
      · exact h.2
      · omega
      · have := P2_pos h.1; omega
    rw [if_neg (fun h => n1 h.1), if_pos ⟨n2, hr⟩, if_pos (.inr n2)]; rfl
  have hf : f.m = 0 ∨ P2 f.m := by
    rcases hA with h | h | h
    · exact absurd h.1 n1
    · exact .inl h.1
    · exact .inr h.1
  have hg : g.m = 0 ∨ P2 g.m := by
    rcases hB with h | h | h
    · exact absurd h.1 n2
    · exact .inl h.1
    · exact .inr h.1
  rw [if_neg (fun h => n1 h.1), if_neg (fun h => n2 h.1), if_neg (show ¬ (f.m = -1 ∨ g.m = -1) from fun h => h.elim n1 n2)]
  change _ = some (rsV (ringR 6 f g))
  have b1 := exR_bound hf
  have b2 := exR_bound hg
  have r1 : w32 f.r = f.r := w32_of (isW_iff.2 hA'.2)
  have r2 : w32 g.r = g.r := w32_of (isW_iff.2 hB'.2)
  have m1 : leM (Rs.mk f.m f.r) = true := leM_iff.2 hA'.1.2
  have m2 : leM (Rs.mk g.m g.r) = true := leM_iff.2 hB'.1.2
  have x1 : bitsS (Rs.m (Rs.mk f.m f.r)) = exR f := bitsS_ex hf
  have x2 : bitsS (Rs.m (Rs.mk g.m g.r)) = exR g := bitsS_ex hg
  have v1 : widS (Rs.mk f.m f.r) = exR f := widS_ex hf
  have v2 : widS (Rs.mk g.m g.r) = exR g := widS_ex hg
  have c1 : IntKind.wrap .u64 (exR f) = exR f := wrapU_id (by omega) (by omega)
  have c2 : IntKind.wrap .u64 (exR g) = exR g := wrapU_id (by omega) (by omega)
  have hn : nn (wDo 6 f.r g.r) (min (exR f) (exR g)) = true := nn_iff.2 (by omega)
  simp only [r1, r2, m1, m2, x1, x2, v1, v2, bc_true, hn, of_wrap _ (wDo_isW _ _ _), of_wrap' _ (wDo_isW _ _ _)]
  unfold ringR
  by_cases z1 : f.m = 0
  · by_cases z2 : g.m = 0
    · rw [if_pos z1, if_pos z2, if_pos ⟨z1, z2⟩]; rfl
    · rw [if_pos z1, if_neg z2, if_neg (fun h => z2 h.2)]; rfl
  · rw [if_neg z1, if_neg (fun h => z1 h.1)]; rfl

theorem a75_7 (a b : Rs) : Good 75 [.int .i64 (7), rsV a, rsV b] (rsV (doR (7) a b)) ∧ pf (rsV (doR (7) a b)) = true := by
  refine good_tree true 1000 20 rfl (fun ty k => t75_7 true ty a b k) (fun ty => ?_) rfl
  have hA := fixR_cases a
  have hB := fixR_cases b
  have hA' := fixR_bound a
  have hB' := fixR_bound b
  unfold doR
  generalize fixR a = f at *
  generalize fixR b = g at *
  simp only [bc_eqIs2, bc_eqB, bc_neqB, bc_ltB, mnI_eq, sub_eq, add_eq, sealI_eq]
  by_cases n1 : f.m = -1
  · have : f.r = 0 := by
      rcases hA with h | h | h
      · exact h.2
      · omega
      · have := P2_pos h.1; omega
    rw [if_pos ⟨n1, this⟩, if_pos (.inl n1)]; rfl
  by_cases n2 : g.m = -1
  · have hr : g.r = 0 := by
      rcases hB with h | h | h
      · exact h.2
      · omega
      · have := P2_pos h.1; omega
    rw [if_neg (fun h => n1 h.1), if_pos ⟨n2, hr⟩, if_pos (.inr n2)]; rfl
  have hf : f.m = 0 ∨ P2 f.m := by
    rcases hA with h | h | h
    · exact absurd h.1 n1
    · exact .inl h.1
    · exact .inr h.1
  have hg : g.m = 0 ∨ P2 g.m := by
    rcases hB with h | h | h
    · exact absurd h.1 n2
    · exact .inl h.1
    · exact .inr h.1
  rw [if_neg (fun h => n1 h.1), if_neg (fun h => n2 h.1), if_neg (show ¬ (f.m = -1 ∨ g.m = -1) from fun h => h.elim n1 n2)]
  change _ = some (rsV (ringR 7 f g))
  have b1 := exR_bound hf
  have b2 := exR_bound hg
  have r1 : w32 f.r = f.r := w32_of (isW_iff.2 hA'.2)
  have r2 : w32 g.r = g.r := w32_of (isW_iff.2 hB'.2)
  have m1 : leM (Rs.mk f.m f.r) = true := leM_iff.2 hA'.1.2
  have m2 : leM (Rs.mk g.m g.r) = true := leM_iff.2 hB'.1.2
  have x1 : bitsS (Rs.m (Rs.mk f.m f.r)) = exR f := bitsS_ex hf
  have x2 : bitsS (Rs.m (Rs.mk g.m g.r)) = exR g := bitsS_ex hg
  have v1 : widS (Rs.mk f.m f.r) = exR f := widS_ex hf
  have v2 : widS (Rs.mk g.m g.r) = exR g := widS_ex hg
  have c1 : IntKind.wrap .u64 (exR f) = exR f := wrapU_id (by omega) (by omega)
  have c2 : IntKind.wrap .u64 (exR g) = exR g := wrapU_id (by omega) (by omega)
  have hn : nn (wDo 7 f.r g.r) (min (exR f) (exR g)) = true := nn_iff.2 (by omega)
  simp only [r1, r2, m1, m2, x1, x2, v1, v2, bc_true, hn, of_wrap _ (wDo_isW _ _ _), of_wrap' _ (wDo_isW _ _ _)]
  unfold ringR
  by_cases z1 : f.m = 0
  · by_cases z2 : g.m = 0
    · rw [if_pos z1, if_pos z2, if_pos ⟨z1, z2⟩]; rfl
    · rw [if_pos z1, if_neg z2, if_neg (fun h => z2 h.2)]; rfl
  · rw [if_neg z1, if_neg (fun h => z1 h.1)]; rfl

theorem a75_8 (a b : Rs) : Good 75 [.int .i64 (8), rsV a, rsV b] (rsV (doR (8) a b)) ∧ pf (rsV (doR (8) a b)) = true := by
  refine good_tree true 1000 20 rfl (fun ty k => t75_8 true ty a b k) (fun ty => ?_) rfl
  have hA := fixR_cases a
  have hB := fixR_cases b
  have hA' := fixR_bound a
  have hB' := fixR_bound b
  unfold doR
  generalize fixR a = f at *
  generalize fixR b = g at *
  simp only [bc_eqIs2, bc_eqB, bc_neqB, bc_ltB, mnI_eq, sub_eq, add_eq, sealI_eq]
  by_cases n1 : f.m = -1
  · have : f.r = 0 := by
      rcases hA with h | h | h
      · exact h.2
      · omega
      · have := P2_pos h.1; omega
    rw [if_pos ⟨n1, this⟩, if_pos (.inl n1)]; rfl
  by_cases n2 : g.m = -1
  · have hr : g.r = 0 := by
      rcases hB with h | h | h
      · exact h.2
      · omega
      · have := P2_pos h.1; omega
    rw [if_neg (fun h => n1 h.1), if_pos ⟨n2, hr⟩, if_pos (.inr n2)]; rfl
  have hf : f.m = 0 ∨ P2 f.m := by
    rcases hA with h | h | h
    · exact absurd h.1 n1
    · exact .inl h.1
    · exact .inr h.1
  have hg : g.m = 0 ∨ P2 g.m := by
    rcases hB with h | h | h
    · exact absurd h.1 n2
    · exact .inl h.1
    · exact .inr h.1
  rw [if_neg (fun h => n1 h.1), if_neg (fun h => n2 h.1), if_neg (show ¬ (f.m = -1 ∨ g.m = -1) from fun h => h.elim n1 n2)]
  change _ = some (rsV (ringR 8 f g))
  have b1 := exR_bound hf
  have b2 := exR_bound hg
  have r1 : w32 f.r = f.r := w32_of (isW_iff.2 hA'.2)
  have r2 : w32 g.r = g.r := w32_of (isW_iff.2 hB'.2)
  have m1 : leM (Rs.mk f.m f.r) = true := leM_iff.2 hA'.1.2
  have m2 : leM (Rs.mk g.m g.r) = true := leM_iff.2 hB'.1.2
  have x1 : bitsS (Rs.m (Rs.mk f.m f.r)) = exR f := bitsS_ex hf
  have x2 : bitsS (Rs.m (Rs.mk g.m g.r)) = exR g := bitsS_ex hg
  have v1 : widS (Rs.mk f.m f.r) = exR f := widS_ex hf
  have v2 : widS (Rs.mk g.m g.r) = exR g := widS_ex hg
  have c1 : IntKind.wrap .u64 (exR f) = exR f := wrapU_id (by omega) (by omega)
  have c2 : IntKind.wrap .u64 (exR g) = exR g := wrapU_id (by omega) (by omega)
  have hn : nn (wDo 8 f.r g.r) (min (exR f) (exR g)) = true := nn_iff.2 (by omega)
  simp only [r1, r2, m1, m2, x1, x2, v1, v2, bc_true, hn, of_wrap _ (wDo_isW _ _ _), of_wrap' _ (wDo_isW _ _ _)]
  unfold ringR
  by_cases z1 : f.m = 0
  · by_cases z2 : g.m = 0
    · rw [if_pos z1, if_pos z2, if_pos ⟨z1, z2⟩]; rfl
    · rw [if_pos z1, if_neg z2, if_neg (fun h => z2 h.2)]; rfl
  · rw [if_neg z1, if_neg (fun h => z1 h.1)]; rfl

theorem a75_9 (a b : Rs) : Good 75 [.int .i64 (9), rsV a, rsV b] (rsV (doR (9) a b)) ∧ pf (rsV (doR (9) a b)) = true := by
  refine good_tree true 1000 20 rfl (fun ty k => t75_9 true ty a b k) (fun ty => ?_) rfl
  have hA := fixR_cases a
  have hB := fixR_cases b
  have hA' := fixR_bound a
  have hB' := fixR_bound b
  unfold doR
  generalize fixR a = f at *
  generalize fixR b = g at *
  simp only [bc_eqIs2, bc_eqB, bc_neqB, bc_ltB, mnI_eq, sub_eq, add_eq, sealI_eq]
  by_cases n1 : f.m = -1
  · have : f.r = 0 := by
      rcases hA with h | h | h
      · exact h.2
      · omega
      · have := P2_pos h.1; omega
    rw [if_pos ⟨n1, this⟩, if_pos (.inl n1)]; rfl
  by_cases n2 : g.m = -1
  · have hr : g.r = 0 := by
      rcases hB with h | h | h
      · exact h.2
      · omega
      · have := P2_pos h.1; omega
    rw [if_neg (fun h => n1 h.1), if_pos ⟨n2, hr⟩, if_pos (.inr n2)]; rfl
  have hf : f.m = 0 ∨ P2 f.m := by
    rcases hA with h | h | h
    · exact absurd h.1 n1
    · exact .inl h.1
    · exact .inr h.1
  have hg : g.m = 0 ∨ P2 g.m := by
    rcases hB with h | h | h
    · exact absurd h.1 n2
    · exact .inl h.1
    · exact .inr h.1
  rw [if_neg (fun h => n1 h.1), if_neg (fun h => n2 h.1), if_neg (show ¬ (f.m = -1 ∨ g.m = -1) from fun h => h.elim n1 n2)]
  change _ = some (rsV (shlR 9 f g))
  have b1 := exR_bound hf
  have b2 := exR_bound hg
  have r1 : w32 f.r = f.r := w32_of (isW_iff.2 hA'.2)
  have r2 : w32 g.r = g.r := w32_of (isW_iff.2 hB'.2)
  have m1 : leM (Rs.mk f.m f.r) = true := leM_iff.2 hA'.1.2
  have m2 : leM (Rs.mk g.m g.r) = true := leM_iff.2 hB'.1.2
  have x1 : bitsS (Rs.m (Rs.mk f.m f.r)) = exR f := bitsS_ex hf
  have x2 : bitsS (Rs.m (Rs.mk g.m g.r)) = exR g := bitsS_ex hg
  have v1 : widS (Rs.mk f.m f.r) = exR f := widS_ex hf
  have v2 : widS (Rs.mk g.m g.r) = exR g := widS_ex hg
  have c1 : IntKind.wrap .u64 (exR f) = exR f := wrapU_id (by omega) (by omega)
  have c2 : IntKind.wrap .u64 (exR g) = exR g := wrapU_id (by omega) (by omega)
  simp only [r1, r2, m1, m2, x1, x2, v1, v2, bc_true, and31, of_wrap _ (wDo_isW _ _ _), of_wrap' _ (wDo_isW _ _ _)]
  unfold shlR
  have hc : 0 ≤ g.r % 32 ∧ g.r % 32 < 32 := by omega
  have hs : shlI .i64 f.r (g.r % 32) = f.r * 2 ^ (g.r % 32).toNat := shl_word (isW_iff.2 hA'.2) hc.1 (by omega)
  have hcc : w32 (g.r % 32) = g.r % 32 := w32_of (isW_iff.2 (by omega))
  have hd : wDo 9 f.r (g.r % 32) = w32 (f.r * 2 ^ (g.r % 32).toNat) := by
    show w32 (f.r * 2 ^ ((g.r % 32) % 32).toNat) = _
    rw [show (g.r % 32) % 32 = g.r % 32 by omega]
  have hn : ∀ x, nn x (exR f + g.r % 32) = true := fun x => nn_iff.2 (by omega)
  rw [wr_id (show -9223372036854775808 ≤ exR f + g.r % 32 ∧ exR f + g.r % 32 ≤ 9223372036854775807 by omega)]
  simp only [hs, hcc, hd, hn, bc_true, lowS_w32]
  have hneg : ¬ (g.r % 32 < 0) := by omega
  try simp only [hneg, if_false]
  by_cases z1 : f.m = 0
  · by_cases z2 : g.m = 0
    · simp only [z1, z2, if_true, and_self]; rfl
    · simp only [z1, z2, if_true, if_false, and_false]; rfl
  · by_cases z2 : g.m = 0
    · simp only [z1, z2, if_true, if_false, false_and]; rfl
    · simp only [z1, z2, if_false, and_self]; rfl

theorem a75_10 (a b : Rs) : Good 75 [.int .i64 (10), rsV a, rsV b] (rsV (doR (10) a b)) ∧ pf (rsV (doR (10) a b)) = true := by
  refine good_tree true 1000 20 rfl (fun ty k => t75_10 true ty a b k) (fun ty => ?_) rfl
  have hA := fixR_cases a
  have hB := fixR_cases b
  have hA' := fixR_bound a
  have hB' := fixR_bound b
  unfold doR
  generalize fixR a = f at *
  generalize fixR b = g at *
  simp only [bc_eqIs2, bc_eqB, bc_neqB, bc_ltB, mnI_eq, sub_eq, add_eq, sealI_eq]
  by_cases n1 : f.m = -1
  · have : f.r = 0 := by
      rcases hA with h | h | h
      · exact h.2
      · omega
      · have := P2_pos h.1; omega
    rw [if_pos ⟨n1, this⟩, if_pos (.inl n1)]; rfl
  by_cases n2 : g.m = -1
  · have hr : g.r = 0 := by
      rcases hB with h | h | h
      · exact h.2
      · omega
      · have := P2_pos h.1; omega
    rw [if_neg (fun h => n1 h.1), if_pos ⟨n2, hr⟩, if_pos (.inr n2)]; rfl
  have hf : f.m = 0 ∨ P2 f.m := by
    rcases hA with h | h | h
    · exact absurd h.1 n1
    · exact .inl h.1
    · exact .inr h.1
  have hg : g.m = 0 ∨ P2 g.m := by
    rcases hB with h | h | h
    · exact absurd h.1 n2
    · exact .inl h.1
    · exact .inr h.1
  rw [if_neg (fun h => n1 h.1), if_neg (fun h => n2 h.1), if_neg (show ¬ (f.m = -1 ∨ g.m = -1) from fun h => h.elim n1 n2)]
  change _ = some (rsV (oneR 10 f g))
  have b1 := exR_bound hf
  have b2 := exR_bound hg
  have r1 : w32 f.r = f.r := w32_of (isW_iff.2 hA'.2)
  have r2 : w32 g.r = g.r := w32_of (isW_iff.2 hB'.2)
  have m1 : leM (Rs.mk f.m f.r) = true := leM_iff.2 hA'.1.2
  have m2 : leM (Rs.mk g.m g.r) = true := leM_iff.2 hB'.1.2
  have x1 : bitsS (Rs.m (Rs.mk f.m f.r)) = exR f := bitsS_ex hf
  have x2 : bitsS (Rs.m (Rs.mk g.m g.r)) = exR g := bitsS_ex hg
  have v1 : widS (Rs.mk f.m f.r) = exR f := widS_ex hf
  have v2 : widS (Rs.mk g.m g.r) = exR g := widS_ex hg
  have c1 : IntKind.wrap .u64 (exR f) = exR f := wrapU_id (by omega) (by omega)
  have c2 : IntKind.wrap .u64 (exR g) = exR g := wrapU_id (by omega) (by omega)
  simp only [r1, r2, m1, m2, x1, x2, v1, v2, bc_true, of_wrap _ (wDo_isW _ _ _), of_wrap' _ (wDo_isW _ _ _)]
  unfold oneR
  by_cases z1 : f.m = 0
  · by_cases z2 : g.m = 0
    · rw [if_pos z1, if_pos z2, if_pos ⟨z1, z2⟩]; rfl
    · rw [if_pos z1, if_neg z2, if_neg (fun h => z2 h.2)]; rfl
  · rw [if_neg z1, if_neg (fun h => z1 h.1)]; rfl

theorem a75_11 (a b : Rs) : Good 75 [.int .i64 (11), rsV a, rsV b] (rsV (doR (11) a b)) ∧ pf (rsV (doR (11) a b)) = true := by
  refine good_tree true 1000 20 rfl (fun ty k => t75_11 true ty a b k) (fun ty => ?_) rfl
  have hA := fixR_cases a
  have hB := fixR_cases b
  have hA' := fixR_bound a
  have hB' := fixR_bound b
  unfold doR
  generalize fixR a = f at *
  generalize fixR b = g at *
  simp only [bc_eqIs2, bc_eqB, bc_neqB, bc_ltB, mnI_eq, sub_eq, add_eq, sealI_eq]
  by_cases n1 : f.m = -1
  · have : f.r = 0 := by
      rcases hA with h | h | h
      · exact h.2
      · omega
      · have := P2_pos h.1; omega
    rw [if_pos ⟨n1, this⟩, if_pos (.inl n1)]; rfl
  by_cases n2 : g.m = -1
  · have hr : g.r = 0 := by
      rcases hB with h | h | h
      · exact h.2
      · omega
      · have := P2_pos h.1; omega
    rw [if_neg (fun h => n1 h.1), if_pos ⟨n2, hr⟩, if_pos (.inr n2)]; rfl
  have hf : f.m = 0 ∨ P2 f.m := by
    rcases hA with h | h | h
    · exact absurd h.1 n1
    · exact .inl h.1
    · exact .inr h.1
  have hg : g.m = 0 ∨ P2 g.m := by
    rcases hB with h | h | h
    · exact absurd h.1 n2
    · exact .inl h.1
    · exact .inr h.1
  rw [if_neg (fun h => n1 h.1), if_neg (fun h => n2 h.1), if_neg (show ¬ (f.m = -1 ∨ g.m = -1) from fun h => h.elim n1 n2)]
  change _ = some (rsV (oneR 11 f g))
  have b1 := exR_bound hf
  have b2 := exR_bound hg
  have r1 : w32 f.r = f.r := w32_of (isW_iff.2 hA'.2)
  have r2 : w32 g.r = g.r := w32_of (isW_iff.2 hB'.2)
  have m1 : leM (Rs.mk f.m f.r) = true := leM_iff.2 hA'.1.2
  have m2 : leM (Rs.mk g.m g.r) = true := leM_iff.2 hB'.1.2
  have x1 : bitsS (Rs.m (Rs.mk f.m f.r)) = exR f := bitsS_ex hf
  have x2 : bitsS (Rs.m (Rs.mk g.m g.r)) = exR g := bitsS_ex hg
  have v1 : widS (Rs.mk f.m f.r) = exR f := widS_ex hf
  have v2 : widS (Rs.mk g.m g.r) = exR g := widS_ex hg
  have c1 : IntKind.wrap .u64 (exR f) = exR f := wrapU_id (by omega) (by omega)
  have c2 : IntKind.wrap .u64 (exR g) = exR g := wrapU_id (by omega) (by omega)
  simp only [r1, r2, m1, m2, x1, x2, v1, v2, bc_true, of_wrap _ (wDo_isW _ _ _), of_wrap' _ (wDo_isW _ _ _)]
  unfold oneR
  by_cases z1 : f.m = 0
  · by_cases z2 : g.m = 0
    · rw [if_pos z1, if_pos z2, if_pos ⟨z1, z2⟩]; rfl
    · rw [if_pos z1, if_neg z2, if_neg (fun h => z2 h.2)]; rfl
  · rw [if_neg z1, if_neg (fun h => z1 h.1)]; rfl

theorem a75_12 (a b : Rs) : Good 75 [.int .i64 (12), rsV a, rsV b] (rsV (doR (12) a b)) ∧ pf (rsV (doR (12) a b)) = true := by
  refine good_tree true 1000 20 rfl (fun ty k => t75_12 true ty a b k) (fun ty => ?_) rfl
  have hA := fixR_cases a
  have hB := fixR_cases b
  have hA' := fixR_bound a
  have hB' := fixR_bound b
  unfold doR
  generalize fixR a = f at *
  generalize fixR b = g at *
  simp only [bc_eqIs2, bc_eqB, bc_neqB, bc_ltB, mnI_eq, sub_eq, add_eq, sealI_eq]
  by_cases n1 : f.m = -1
  · have : f.r = 0 := by
      rcases hA with h | h | h
      · exact h.2
      · omega
      · have := P2_pos h.1; omega
    rw [if_pos ⟨n1, this⟩, if_pos (.inl n1)]; rfl
  by_cases n2 : g.m = -1
  · have hr : g.r = 0 := by
      rcases hB with h | h | h
      · exact h.2
      · omega
      · have := P2_pos h.1; omega
    rw [if_neg (fun h => n1 h.1), if_pos ⟨n2, hr⟩, if_pos (.inr n2)]; rfl
  have hf : f.m = 0 ∨ P2 f.m := by
    rcases hA with h | h | h
    · exact absurd h.1 n1
    · exact .inl h.1
    · exact .inr h.1
  have hg : g.m = 0 ∨ P2 g.m := by
    rcases hB with h | h | h
    · exact absurd h.1 n2
    · exact .inl h.1
    · exact .inr h.1
  rw [if_neg (fun h => n1 h.1), if_neg (fun h => n2 h.1), if_neg (show ¬ (f.m = -1 ∨ g.m = -1) from fun h => h.elim n1 n2)]
  change _ = some (rsV (oneR 12 f g))
  have b1 := exR_bound hf
  have b2 := exR_bound hg
  have r1 : w32 f.r = f.r := w32_of (isW_iff.2 hA'.2)
  have r2 : w32 g.r = g.r := w32_of (isW_iff.2 hB'.2)
  have m1 : leM (Rs.mk f.m f.r) = true := leM_iff.2 hA'.1.2
  have m2 : leM (Rs.mk g.m g.r) = true := leM_iff.2 hB'.1.2
  have x1 : bitsS (Rs.m (Rs.mk f.m f.r)) = exR f := bitsS_ex hf
  have x2 : bitsS (Rs.m (Rs.mk g.m g.r)) = exR g := bitsS_ex hg
  have v1 : widS (Rs.mk f.m f.r) = exR f := widS_ex hf
  have v2 : widS (Rs.mk g.m g.r) = exR g := widS_ex hg
  have c1 : IntKind.wrap .u64 (exR f) = exR f := wrapU_id (by omega) (by omega)
  have c2 : IntKind.wrap .u64 (exR g) = exR g := wrapU_id (by omega) (by omega)
  simp only [r1, r2, m1, m2, x1, x2, v1, v2, bc_true, of_wrap _ (wDo_isW _ _ _), of_wrap' _ (wDo_isW _ _ _)]
  unfold oneR
  by_cases z1 : f.m = 0
  · by_cases z2 : g.m = 0
    · rw [if_pos z1, if_pos z2, if_pos ⟨z1, z2⟩]; rfl
    · rw [if_pos z1, if_neg z2, if_neg (fun h => z2 h.2)]; rfl
  · rw [if_neg z1, if_neg (fun h => z1 h.1)]; rfl

theorem a75_13 (a b : Rs) : Good 75 [.int .i64 (13), rsV a, rsV b] (rsV (doR (13) a b)) ∧ pf (rsV (doR (13) a b)) = true := by
  refine good_tree true 1000 20 rfl (fun ty k => t75_13 true ty a b k) (fun ty => ?_) rfl
  have hA := fixR_cases a
  have hB := fixR_cases b
  have hA' := fixR_bound a
  have hB' := fixR_bound b
  unfold doR
  generalize fixR a = f at *
  generalize fixR b = g at *
  simp only [bc_eqIs2, bc_eqB, bc_neqB, bc_ltB, mnI_eq, sub_eq, add_eq, sealI_eq]
  by_cases n1 : f.m = -1
  · have : f.r = 0 := by
      rcases hA with h | h | h
      · exact h.2
      · omega
      · have := P2_pos h.1; omega
    rw [if_pos ⟨n1, this⟩, if_pos (.inl n1)]; rfl
  by_cases n2 : g.m = -1
  · have hr : g.r = 0 := by
      rcases hB with h | h | h
      · exact h.2
      · omega
      · have := P2_pos h.1; omega
    rw [if_neg (fun h => n1 h.1), if_pos ⟨n2, hr⟩, if_pos (.inr n2)]; rfl
  have hf : f.m = 0 ∨ P2 f.m := by
    rcases hA with h | h | h
    · exact absurd h.1 n1
    · exact .inl h.1
    · exact .inr h.1
  have hg : g.m = 0 ∨ P2 g.m := by
    rcases hB with h | h | h
    · exact absurd h.1 n2
    · exact .inl h.1
    · exact .inr h.1
  rw [if_neg (fun h => n1 h.1), if_neg (fun h => n2 h.1), if_neg (show ¬ (f.m = -1 ∨ g.m = -1) from fun h => h.elim n1 n2)]
  change _ = some (rsV (eqR 13 0 f g))
  have b1 := exR_bound hf
  have b2 := exR_bound hg
  have r1 : w32 f.r = f.r := w32_of (isW_iff.2 hA'.2)
  have r2 : w32 g.r = g.r := w32_of (isW_iff.2 hB'.2)
  have m1 : leM (Rs.mk f.m f.r) = true := leM_iff.2 hA'.1.2
  have m2 : leM (Rs.mk g.m g.r) = true := leM_iff.2 hB'.1.2
  have x1 : bitsS (Rs.m (Rs.mk f.m f.r)) = exR f := bitsS_ex hf
  have x2 : bitsS (Rs.m (Rs.mk g.m g.r)) = exR g := bitsS_ex hg
  have v1 : widS (Rs.mk f.m f.r) = exR f := widS_ex hf
  have v2 : widS (Rs.mk g.m g.r) = exR g := widS_ex hg
  have c1 : IntKind.wrap .u64 (exR f) = exR f := wrapU_id (by omega) (by omega)
  have c2 : IntKind.wrap .u64 (exR g) = exR g := wrapU_id (by omega) (by omega)
  simp only [r1, r2, m1, m2, x1, x2, v1, v2, bc_true, of_wrap _ (wDo_isW _ _ _), of_wrap' _ (wDo_isW _ _ _)]
  unfold eqR
  by_cases z : f.m = 0 ∧ g.m = 0
  · rw [if_pos z.1, if_pos z.2, if_pos z]; rfl
  rw [if_neg z]
  obtain ⟨x, hx⟩ := Int.eq_ofNat_of_zero_le (show 0 ≤ min (exR f) (exR g) by omega)
  have hx30 : x ≤ 30 := by
    have hlt : exR f ≤ 30 ∨ exR g ≤ 30 := by
      rcases hf with h | h
      · rcases hg with h' | h'
        · exact absurd ⟨h, h'⟩ z
        · have := P2_pos h'
          right; rw [show exR g = ex g.m from if_neg (by omega)]; have := (ex_le h').1; omega
      · have := P2_pos h
        left; rw [show exR f = ex f.m from if_neg (by omega)]; have := (ex_le h).1; omega
    omega
  have hp := pow_le30 hx30
  have hw : IntKind.wrap .u64 (x : Int) = x := wrapU_id (by omega) (by omega)
  rw [wr_id (show -9223372036854775808 ≤ f.r - g.r ∧ f.r - g.r ≤ 9223372036854775807 by omega)]
  have hneg : ¬ ((x : Int) < 0) := by omega
  have hp0 : ¬ ((2 : Int) ^ x = 0) := by omega
  simp only [hx, hw, shl_one hx30, hneg, hp0, if_false, tmod_zero, Int.toNat_natCast]
  by_cases z1 : f.m = 0
  · rw [if_pos z1]
    have z2 : ¬ g.m = 0 := fun h => z ⟨z1, h⟩
    rw [if_neg z2]
    split <;> rfl
  · rw [if_neg z1]
    split <;> rfl

theorem a75_14 (a b : Rs) : Good 75 [.int .i64 (14), rsV a, rsV b] (rsV (doR (14) a b)) ∧ pf (rsV (doR (14) a b)) = true := by
  refine good_tree true 1000 20 rfl (fun ty k => t75_14 true ty a b k) (fun ty => ?_) rfl
  have hA := fixR_cases a
  have hB := fixR_cases b
  have hA' := fixR_bound a
  have hB' := fixR_bound b
  unfold doR
  generalize fixR a = f at *
  generalize fixR b = g at *
  simp only [bc_eqIs2, bc_eqB, bc_neqB, bc_ltB, mnI_eq, sub_eq, add_eq, sealI_eq]
  by_cases n1 : f.m = -1
  · have : f.r = 0 := by
      rcases hA with h | h | h
      · exact h.2
      · omega
      · have := P2_pos h.1; omega
    rw [if_pos ⟨n1, this⟩, if_pos (.inl n1)]; rfl
  by_cases n2 : g.m = -1
  · have hr : g.r = 0 := by
      rcases hB with h | h | h
      · exact h.2
      · omega
      · have := P2_pos h.1; omega
    rw [if_neg (fun h => n1 h.1), if_pos ⟨n2, hr⟩, if_pos (.inr n2)]; rfl
  have hf : f.m = 0 ∨ P2 f.m := by
    rcases hA with h | h | h
    · exact absurd h.1 n1
    · exact .inl h.1
    · exact .inr h.1
  have hg : g.m = 0 ∨ P2 g.m := by
    rcases hB with h | h | h
    · exact absurd h.1 n2
    · exact .inl h.1
    · exact .inr h.1
  rw [if_neg (fun h => n1 h.1), if_neg (fun h => n2 h.1), if_neg (show ¬ (f.m = -1 ∨ g.m = -1) from fun h => h.elim n1 n2)]
  change _ = some (rsV (eqR 14 1 f g))
  have b1 := exR_bound hf
  have b2 := exR_bound hg
  have r1 : w32 f.r = f.r := w32_of (isW_iff.2 hA'.2)
  have r2 : w32 g.r = g.r := w32_of (isW_iff.2 hB'.2)
  have m1 : leM (Rs.mk f.m f.r) = true := leM_iff.2 hA'.1.2
  have m2 : leM (Rs.mk g.m g.r) = true := leM_iff.2 hB'.1.2
  have x1 : bitsS (Rs.m (Rs.mk f.m f.r)) = exR f := bitsS_ex hf
  have x2 : bitsS (Rs.m (Rs.mk g.m g.r)) = exR g := bitsS_ex hg
  have v1 : widS (Rs.mk f.m f.r) = exR f := widS_ex hf
  have v2 : widS (Rs.mk g.m g.r) = exR g := widS_ex hg
  have c1 : IntKind.wrap .u64 (exR f) = exR f := wrapU_id (by omega) (by omega)
  have c2 : IntKind.wrap .u64 (exR g) = exR g := wrapU_id (by omega) (by omega)
  simp only [r1, r2, m1, m2, x1, x2, v1, v2, bc_true, of_wrap _ (wDo_isW _ _ _), of_wrap' _ (wDo_isW _ _ _)]
  unfold eqR
  by_cases z : f.m = 0 ∧ g.m = 0
  · rw [if_pos z.1, if_pos z.2, if_pos z]; rfl
  rw [if_neg z]
  obtain ⟨x, hx⟩ := Int.eq_ofNat_of_zero_le (show 0 ≤ min (exR f) (exR g) by omega)
  have hx30 : x ≤ 30 := by
    have hlt : exR f ≤ 30 ∨ exR g ≤ 30 := by
      rcases hf with h | h
      · rcases hg with h' | h'
        · exact absurd ⟨h, h'⟩ z
        · have := P2_pos h'
          right; rw [show exR g = ex g.m from if_neg (by omega)]; have := (ex_le h').1; omega
      · have := P2_pos h
        left; rw [show exR f = ex f.m from if_neg (by omega)]; have := (ex_le h).1; omega
    omega
  have hp := pow_le30 hx30
  have hw : IntKind.wrap .u64 (x : Int) = x := wrapU_id (by omega) (by omega)
  rw [wr_id (show -9223372036854775808 ≤ f.r - g.r ∧ f.r - g.r ≤ 9223372036854775807 by omega)]
  have hneg : ¬ ((x : Int) < 0) := by omega
  have hp0 : ¬ ((2 : Int) ^ x = 0) := by omega
  simp only [hx, hw, shl_one hx30, hneg, hp0, if_false, tmod_zero, Int.toNat_natCast]
  by_cases z1 : f.m = 0
  · rw [if_pos z1]
    have z2 : ¬ g.m = 0 := fun h => z ⟨z1, h⟩
    rw [if_neg z2]
    split <;> rfl
  · rw [if_neg z1]
    split <;> rfl

theorem a75_p (n : Nat) (a b : Rs) : Good 75 [.int .i64 (.ofNat (n + 15)), rsV a, rsV b] (rsV (doR (.ofNat (n + 15)) a b)) ∧ pf (rsV (doR (.ofNat (n + 15)) a b)) = true := by
  refine good_tree true 1000 20 rfl (fun ty k => t75_p true ty n a b k) (fun ty => ?_) rfl
  have hA := fixR_cases a
  have hB := fixR_cases b
  have hA' := fixR_bound a
  have hB' := fixR_bound b
  unfold doR
  generalize fixR a = f at *
  generalize fixR b = g at *
  simp only [bc_eqIs2, bc_eqB, bc_neqB, bc_ltB, mnI_eq, sub_eq, add_eq, sealI_eq]
  by_cases n1 : f.m = -1
  · have : f.r = 0 := by
      rcases hA with h | h | h
      · exact h.2
      · omega
      · have := P2_pos h.1; omega
    rw [if_pos ⟨n1, this⟩, if_pos (.inl n1)]; rfl
  by_cases n2 : g.m = -1
  · have hr : g.r = 0 := by
      rcases hB with h | h | h
      · exact h.2
      · omega
      · have := P2_pos h.1; omega
    rw [if_neg (fun h => n1 h.1), if_pos ⟨n2, hr⟩, if_pos (.inr n2)]; rfl
  have hf : f.m = 0 ∨ P2 f.m := by
    rcases hA with h | h | h
    · exact absurd h.1 n1
    · exact .inl h.1
    · exact .inr h.1
  have hg : g.m = 0 ∨ P2 g.m := by
    rcases hB with h | h | h
    · exact absurd h.1 n2
    · exact .inl h.1
    · exact .inr h.1
  rw [if_neg (fun h => n1 h.1), if_neg (fun h => n2 h.1), if_neg (show ¬ (f.m = -1 ∨ g.m = -1) from fun h => h.elim n1 n2)]
  rw [coreR_p]
  have b1 := exR_bound hf
  have b2 := exR_bound hg
  have r1 : w32 f.r = f.r := w32_of (isW_iff.2 hA'.2)
  have r2 : w32 g.r = g.r := w32_of (isW_iff.2 hB'.2)
  have m1 : leM (Rs.mk f.m f.r) = true := leM_iff.2 hA'.1.2
  have m2 : leM (Rs.mk g.m g.r) = true := leM_iff.2 hB'.1.2
  have x1 : bitsS (Rs.m (Rs.mk f.m f.r)) = exR f := bitsS_ex hf
  have x2 : bitsS (Rs.m (Rs.mk g.m g.r)) = exR g := bitsS_ex hg
  have v1 : widS (Rs.mk f.m f.r) = exR f := widS_ex hf
  have v2 : widS (Rs.mk g.m g.r) = exR g := widS_ex hg
  have c1 : IntKind.wrap .u64 (exR f) = exR f := wrapU_id (by omega) (by omega)
  have c2 : IntKind.wrap .u64 (exR g) = exR g := wrapU_id (by omega) (by omega)
  try simp only [r1, r2, m1, m2, x1, x2, v1, v2, bc_true, of_wrap _ (wDo_isW _ _ _), of_wrap' _ (wDo_isW _ _ _), wErr_p, wErr_n, wDo_p, wDo_n]
  repeat' split
  all_goals first | rfl | (exfalso; omega)

theorem a75_n (n : Nat) (a b : Rs) : Good 75 [.int .i64 (.negSucc n), rsV a, rsV b] (rsV (doR (.negSucc n) a b)) ∧ pf (rsV (doR (.negSucc n) a b)) = true := by
  refine good_tree true 1000 20 rfl (fun ty k => t75_n true ty n a b k) (fun ty => ?_) rfl
  have hA := fixR_cases a
  have hB := fixR_cases b
  have hA' := fixR_bound a
  have hB' := fixR_bound b
  unfold doR
  generalize fixR a = f at *
  generalize fixR b = g at *
  simp only [bc_eqIs2, bc_eqB, bc_neqB, bc_ltB, mnI_eq, sub_eq, add_eq, sealI_eq]
  by_cases n1 : f.m = -1
  · have : f.r = 0 := by
      rcases hA with h | h | h
      · exact h.2
      · omega
      · have := P2_pos h.1; omega
    rw [if_pos ⟨n1, this⟩, if_pos (.inl n1)]; rfl
  by_cases n2 : g.m = -1
  · have hr : g.r = 0 := by
      rcases hB with h | h | h
      · exact h.2
      · omega
      · have := P2_pos h.1; omega
    rw [if_neg (fun h => n1 h.1), if_pos ⟨n2, hr⟩, if_pos (.inr n2)]; rfl
  have hf : f.m = 0 ∨ P2 f.m := by
    rcases hA with h | h | h
    · exact absurd h.1 n1
    · exact .inl h.1
    · exact .inr h.1
  have hg : g.m = 0 ∨ P2 g.m := by
    rcases hB with h | h | h
    · exact absurd h.1 n2
    · exact .inl h.1
    · exact .inr h.1
  rw [if_neg (fun h => n1 h.1), if_neg (fun h => n2 h.1), if_neg (show ¬ (f.m = -1 ∨ g.m = -1) from fun h => h.elim n1 n2)]
  rw [coreR_n]
  have b1 := exR_bound hf
  have b2 := exR_bound hg
  have r1 : w32 f.r = f.r := w32_of (isW_iff.2 hA'.2)
  have r2 : w32 g.r = g.r := w32_of (isW_iff.2 hB'.2)
  have m1 : leM (Rs.mk f.m f.r) = true := leM_iff.2 hA'.1.2
  have m2 : leM (Rs.mk g.m g.r) = true := leM_iff.2 hB'.1.2
  have x1 : bitsS (Rs.m (Rs.mk f.m f.r)) = exR f := bitsS_ex hf
  have x2 : bitsS (Rs.m (Rs.mk g.m g.r)) = exR g := bitsS_ex hg
  have v1 : widS (Rs.mk f.m f.r) = exR f := widS_ex hf
  have v2 : widS (Rs.mk g.m g.r) = exR g := widS_ex hg
  have c1 : IntKind.wrap .u64 (exR f) = exR f := wrapU_id (by omega) (by omega)
  have c2 : IntKind.wrap .u64 (exR g) = exR g := wrapU_id (by omega) (by omega)
  try simp only [r1, r2, m1, m2, x1, x2, v1, v2, bc_true, of_wrap _ (wDo_isW _ _ _), of_wrap' _ (wDo_isW _ _ _), wErr_p, wErr_n, wDo_p, wDo_n]
  repeat' split
  all_goals first | rfl | (exfalso; omega)

theorem a75 : Ans3 encI encRs encRs 75 (fun op a b => rsV (doR op a b)) := fun op a b => by
  match op with
  | .ofNat 0 => exact a75_0 a b
  | .ofNat 1 => exact a75_1 a b
  | .ofNat 2 => exact a75_2 a b
  | .ofNat 3 => exact a75_3 a b
  | .ofNat 4 => exact a75_4 a b
  | .ofNat 5 => exact a75_5 a b
  | .ofNat 6 => exact a75_6 a b
  | .ofNat 7 => exact a75_7 a b
  | .ofNat 8 => exact a75_8 a b
  | .ofNat 9 => exact a75_9 a b
  | .ofNat 10 => exact a75_10 a b
  | .ofNat 11 => exact a75_11 a b
  | .ofNat 12 => exact a75_12 a b
  | .ofNat 13 => exact a75_13 a b
  | .ofNat 14 => exact a75_14 a b
  | .ofNat (n + 15) => exact a75_p n a b
  | .negSucc n => exact a75_n n a b
def e75 : Ent := mk3 encI encRs encRs 75 _ a75

end
end Go.Ev
namespace Go.Ev
open Go.Proofs

theorem t33 {R : Type} (q : Bool) (ty : Nat → TypeId) (v : Vl) (k : Value → Option R) : ansK ⟨plainT, q⟩ [e85, e86, e68, e95] 1000 20 ty 33 [vlV v] k =
    (bc (eqIs [(Iv.lo (fixI (Iv.mk (Iv.lo (Vl.i v)) (Iv.hi (Vl.i v))))), (Iv.hi (fixI (Iv.mk (Iv.lo (Vl.i v)) (Iv.hi (Vl.i v)))))] [1, 0]) (k (.agg ⟨[(.int .i64 1), (.int .i64 0), (.int .i64 (-1)), (.int .i64 0)]⟩)) (bc (eqIs [(Rs.m (fixR (Rs.mk (Rs.m (Vl.r v)) (Rs.r (Vl.r v))))), (Rs.r (fixR (Rs.mk (Rs.m (Vl.r v)) (Rs.r (Vl.r v)))))] [(-1), 0]) (k (.agg ⟨[(.int .i64 1), (.int .i64 0), (.int .i64 (-1)), (.int .i64 0)]⟩)) (bc (eqB (Rs.m (fixR (Rs.mk (Rs.m (Vl.r v)) (Rs.r (Vl.r v))))) 0) (bc (hasI (Iv.mk (Iv.lo (fixI (Iv.mk (Iv.lo (Vl.i v)) (Iv.hi (Vl.i v))))) (Iv.hi (fixI (Iv.mk (Iv.lo (Vl.i v)) (Iv.hi (Vl.i v)))))) (Rs.r (fixR (Rs.mk (Rs.m (Vl.r v)) (Rs.r (Vl.r v)))))) (k (.agg ⟨[(.int .i64 (w32 (Rs.r (fixR (Rs.mk (Rs.m (Vl.r v)) (Rs.r (Vl.r v))))))), (.int .i64 (w32 (Rs.r (fixR (Rs.mk (Rs.m (Vl.r v)) (Rs.r (Vl.r v))))))), (.int .i64 0), (.int .i64 (w32 (w32 (Rs.r (fixR (Rs.mk (Rs.m (Vl.r v)) (Rs.r (Vl.r v))))))))]⟩)) (k (.agg ⟨[(.int .i64 1), (.int .i64 0), (.int .i64 (-1)), (.int .i64 0)]⟩))) (bc (eqB (Rs.m (fixR (Rs.mk (Rs.m (Vl.r v)) (Rs.r (Vl.r v))))) 0) none (bc (eqB (Rs.m (fixR (Rs.mk (Rs.m (Vl.r v)) (Rs.r (Vl.r v))))) 0) none (bc (eqB (Rs.m (fixR (Rs.mk (Rs.m (Vl.r v)) (Rs.r (Vl.r v))))) 0) none (bc (eqB (Rs.m (fixR (Rs.mk (Rs.m (Vl.r v)) (Rs.r (Vl.r v))))) 0) none (bc (ltB (wrapF .i64 (Int.sub (Iv.hi (fixI (Iv.mk (Iv.lo (Vl.i v)) (Iv.hi (Vl.i v))))) (sealI q (Int.tmod (wrapF .i64 (Int.add (sealI q (Int.tmod (wrapF .i64 (Int.sub (Iv.hi (fixI (Iv.mk (Iv.lo (Vl.i v)) (Iv.hi (Vl.i v))))) (Rs.r (fixR (Rs.mk (Rs.m (Vl.r v)) (Rs.r (Vl.r v))))))) (Rs.m (fixR (Rs.mk (Rs.m (Vl.r v)) (Rs.r (Vl.r v))))))) (Rs.m (fixR (Rs.mk (Rs.m (Vl.r v)) (Rs.r (Vl.r v))))))) (Rs.m (fixR (Rs.mk (Rs.m (Vl.r v)) (Rs.r (Vl.r v))))))))) (wrapF .i64 (Int.add (Iv.lo (fixI (Iv.mk (Iv.lo (Vl.i v)) (Iv.hi (Vl.i v))))) (sealI q (Int.tmod (wrapF .i64 (Int.add (sealI q (Int.tmod (wrapF .i64 (Int.sub (Rs.r (fixR (Rs.mk (Rs.m (Vl.r v)) (Rs.r (Vl.r v))))) (Iv.lo (fixI (Iv.mk (Iv.lo (Vl.i v)) (Iv.hi (Vl.i v))))))) (Rs.m (fixR (Rs.mk (Rs.m (Vl.r v)) (Rs.r (Vl.r v))))))) (Rs.m (fixR (Rs.mk (Rs.m (Vl.r v)) (Rs.r (Vl.r v))))))) (Rs.m (fixR (Rs.mk (Rs.m (Vl.r v)) (Rs.r (Vl.r v)))))))))) (k (.agg ⟨[(.int .i64 1), (.int .i64 0), (.int .i64 (-1)), (.int .i64 0)]⟩)) (bc (eqB (wrapF .i64 (Int.add (Iv.lo (fixI (Iv.mk (Iv.lo (Vl.i v)) (Iv.hi (Vl.i v))))) (sealI q (Int.tmod (wrapF .i64 (Int.add (sealI q (Int.tmod (wrapF .i64 (Int.sub (Rs.r (fixR (Rs.mk (Rs.m (Vl.r v)) (Rs.r (Vl.r v))))) (Iv.lo (fixI (Iv.mk (Iv.lo (Vl.i v)) (Iv.hi (Vl.i v))))))) (Rs.m (fixR (Rs.mk (Rs.m (Vl.r v)) (Rs.r (Vl.r v))))))) (Rs.m (fixR (Rs.mk (Rs.m (Vl.r v)) (Rs.r (Vl.r v))))))) (Rs.m (fixR (Rs.mk (Rs.m (Vl.r v)) (Rs.r (Vl.r v))))))))) (wrapF .i64 (Int.sub (Iv.hi (fixI (Iv.mk (Iv.lo (Vl.i v)) (Iv.hi (Vl.i v))))) (sealI q (Int.tmod (wrapF .i64 (Int.add (sealI q (Int.tmod (wrapF .i64 (Int.sub (Iv.hi (fixI (Iv.mk (Iv.lo (Vl.i v)) (Iv.hi (Vl.i v))))) (Rs.r (fixR (Rs.mk (Rs.m (Vl.r v)) (Rs.r (Vl.r v))))))) (Rs.m (fixR (Rs.mk (Rs.m (Vl.r v)) (Rs.r (Vl.r v))))))) (Rs.m (fixR (Rs.mk (Rs.m (Vl.r v)) (Rs.r (Vl.r v))))))) (Rs.m (fixR (Rs.mk (Rs.m (Vl.r v)) (Rs.r (Vl.r v)))))))))) (k (.agg ⟨[(.int .i64 (w32 (wrapF .i64 (Int.add (Iv.lo (fixI (Iv.mk (Iv.lo (Vl.i v)) (Iv.hi (Vl.i v))))) (sealI q (Int.tmod (wrapF .i64 (Int.add (sealI q (Int.tmod (wrapF .i64 (Int.sub (Rs.r (fixR (Rs.mk (Rs.m (Vl.r v)) (Rs.r (Vl.r v))))) (Iv.lo (fixI (Iv.mk (Iv.lo (Vl.i v)) (Iv.hi (Vl.i v))))))) (Rs.m (fixR (Rs.mk (Rs.m (Vl.r v)) (Rs.r (Vl.r v))))))) (Rs.m (fixR (Rs.mk (Rs.m (Vl.r v)) (Rs.r (Vl.r v))))))) (Rs.m (fixR (Rs.mk (Rs.m (Vl.r v)) (Rs.r (Vl.r v))))))))))), (.int .i64 (w32 (wrapF .i64 (Int.add (Iv.lo (fixI (Iv.mk (Iv.lo (Vl.i v)) (Iv.hi (Vl.i v))))) (sealI q (Int.tmod (wrapF .i64 (Int.add (sealI q (Int.tmod (wrapF .i64 (Int.sub (Rs.r (fixR (Rs.mk (Rs.m (Vl.r v)) (Rs.r (Vl.r v))))) (Iv.lo (fixI (Iv.mk (Iv.lo (Vl.i v)) (Iv.hi (Vl.i v))))))) (Rs.m (fixR (Rs.mk (Rs.m (Vl.r v)) (Rs.r (Vl.r v))))))) (Rs.m (fixR (Rs.mk (Rs.m (Vl.r v)) (Rs.r (Vl.r v))))))) (Rs.m (fixR (Rs.mk (Rs.m (Vl.r v)) (Rs.r (Vl.r v))))))))))), (.int .i64 0), (.int .i64 (w32 (w32 (wrapF .i64 (Int.add (Iv.lo (fixI (Iv.mk (Iv.lo (Vl.i v)) (Iv.hi (Vl.i v))))) (sealI q (Int.tmod (wrapF .i64 (Int.add (sealI q (Int.tmod (wrapF .i64 (Int.sub (Rs.r (fixR (Rs.mk (Rs.m (Vl.r v)) (Rs.r (Vl.r v))))) (Iv.lo (fixI (Iv.mk (Iv.lo (Vl.i v)) (Iv.hi (Vl.i v))))))) (Rs.m (fixR (Rs.mk (Rs.m (Vl.r v)) (Rs.r (Vl.r v))))))) (Rs.m (fixR (Rs.mk (Rs.m (Vl.r v)) (Rs.r (Vl.r v))))))) (Rs.m (fixR (Rs.mk (Rs.m (Vl.r v)) (Rs.r (Vl.r v))))))))))))]⟩)) (k (.agg ⟨[(.int .i64 (wrapF .i64 (Int.add (Iv.lo (fixI (Iv.mk (Iv.lo (Vl.i v)) (Iv.hi (Vl.i v))))) (sealI q (Int.tmod (wrapF .i64 (Int.add (sealI q (Int.tmod (wrapF .i64 (Int.sub (Rs.r (fixR (Rs.mk (Rs.m (Vl.r v)) (Rs.r (Vl.r v))))) (Iv.lo (fixI (Iv.mk (Iv.lo (Vl.i v)) (Iv.hi (Vl.i v))))))) (Rs.m (fixR (Rs.mk (Rs.m (Vl.r v)) (Rs.r (Vl.r v))))))) (Rs.m (fixR (Rs.mk (Rs.m (Vl.r v)) (Rs.r (Vl.r v))))))) (Rs.m (fixR (Rs.mk (Rs.m (Vl.r v)) (Rs.r (Vl.r v)))))))))), (.int .i64 (wrapF .i64 (Int.sub (Iv.hi (fixI (Iv.mk (Iv.lo (Vl.i v)) (Iv.hi (Vl.i v))))) (sealI q (Int.tmod (wrapF .i64 (Int.add (sealI q (Int.tmod (wrapF .i64 (Int.sub (Iv.hi (fixI (Iv.mk (Iv.lo (Vl.i v)) (Iv.hi (Vl.i v))))) (Rs.r (fixR (Rs.mk (Rs.m (Vl.r v)) (Rs.r (Vl.r v))))))) (Rs.m (fixR (Rs.mk (Rs.m (Vl.r v)) (Rs.r (Vl.r v))))))) (Rs.m (fixR (Rs.mk (Rs.m (Vl.r v)) (Rs.r (Vl.r v))))))) (Rs.m (fixR (Rs.mk (Rs.m (Vl.r v)) (Rs.r (Vl.r v)))))))))), (.int .i64 (Rs.m (fixR (Rs.mk (Rs.m (Vl.r v)) (Rs.r (Vl.r v)))))), (.int .i64 (Rs.r (fixR (Rs.mk (Rs.m (Vl.r v)) (Rs.r (Vl.r v))))))]⟩))))))))))) := by kernel_rfl

theorem t34 {R : Type} (q : Bool) (ty : Nat → TypeId) (v : Vl) (k : Value → Option R) : ansK ⟨plainT, q⟩ [e89, e90, e93, e97] 1000 20 ty 34 [vlV v] k =
    (bc (eqIs [(Iv.lo (fixI (Iv.mk (Iv.lo (Vl.i v)) (Iv.hi (Vl.i v))))), (Iv.hi (fixI (Iv.mk (Iv.lo (Vl.i v)) (Iv.hi (Vl.i v)))))] [1, 0]) (k (.agg ⟨[(.int .i64 1), (.int .i64 0), (.int .i64 (-1)), (.int .i64 0)]⟩)) (bc (eqIs [(Rs.m (fixR (Rs.mk (Rs.m (Vl.r v)) (Rs.r (Vl.r v))))), (Rs.r (fixR (Rs.mk (Rs.m (Vl.r v)) (Rs.r (Vl.r v)))))] [(-1), 0]) (k (.agg ⟨[(.int .i64 1), (.int .i64 0), (.int .i64 (-1)), (.int .i64 0)]⟩)) (bc (eqB (Rs.m (fixR (Rs.mk (Rs.m (Vl.r v)) (Rs.r (Vl.r v))))) 0) (bc (hasI (Iv.mk (Iv.lo (fixI (Iv.mk (Iv.lo (Vl.i v)) (Iv.hi (Vl.i v))))) (Iv.hi (fixI (Iv.mk (Iv.lo (Vl.i v)) (Iv.hi (Vl.i v)))))) (Rs.r (fixR (Rs.mk (Rs.m (Vl.r v)) (Rs.r (Vl.r v)))))) (k (.agg ⟨[(.int .i64 (w32 (Rs.r (fixR (Rs.mk (Rs.m (Vl.r v)) (Rs.r (Vl.r v))))))), (.int .i64 (w32 (Rs.r (fixR (Rs.mk (Rs.m (Vl.r v)) (Rs.r (Vl.r v))))))), (.int .i64 0), (.int .i64 (w32 (w32 (Rs.r (fixR (Rs.mk (Rs.m (Vl.r v)) (Rs.r (Vl.r v))))))))]⟩)) (k (.agg ⟨[(.int .i64 1), (.int .i64 0), (.int .i64 (-1)), (.int .i64 0)]⟩))) (bc (eqB (Rs.m (fixR (Rs.mk (Rs.m (Vl.r v)) (Rs.r (Vl.r v))))) 0) none (bc (eqB (Rs.m (fixR (Rs.mk (Rs.m (Vl.r v)) (Rs.r (Vl.r v))))) 0) none (bc (eqB (Rs.m (fixR (Rs.mk (Rs.m (Vl.r v)) (Rs.r (Vl.r v))))) 0) none (bc (eqB (Rs.m (fixR (Rs.mk (Rs.m (Vl.r v)) (Rs.r (Vl.r v))))) 0) none (bc (ltB (wrapF .i64 (Int.sub (Iv.hi (fixI (Iv.mk (Iv.lo (Vl.i v)) (Iv.hi (Vl.i v))))) (sealI q (Int.tmod (wrapF .i64 (Int.add (sealI q (Int.tmod (wrapF .i64 (Int.sub (Iv.hi (fixI (Iv.mk (Iv.lo (Vl.i v)) (Iv.hi (Vl.i v))))) (Rs.r (fixR (Rs.mk (Rs.m (Vl.r v)) (Rs.r (Vl.r v))))))) (Rs.m (fixR (Rs.mk (Rs.m (Vl.r v)) (Rs.r (Vl.r v))))))) (Rs.m (fixR (Rs.mk (Rs.m (Vl.r v)) (Rs.r (Vl.r v))))))) (Rs.m (fixR (Rs.mk (Rs.m (Vl.r v)) (Rs.r (Vl.r v))))))))) (wrapF .i64 (Int.add (Iv.lo (fixI (Iv.mk (Iv.lo (Vl.i v)) (Iv.hi (Vl.i v))))) (sealI q (Int.tmod (wrapF .i64 (Int.add (sealI q (Int.tmod (wrapF .i64 (Int.sub (Rs.r (fixR (Rs.mk (Rs.m (Vl.r v)) (Rs.r (Vl.r v))))) (Iv.lo (fixI (Iv.mk (Iv.lo (Vl.i v)) (Iv.hi (Vl.i v))))))) (Rs.m (fixR (Rs.mk (Rs.m (Vl.r v)) (Rs.r (Vl.r v))))))) (Rs.m (fixR (Rs.mk (Rs.m (Vl.r v)) (Rs.r (Vl.r v))))))) (Rs.m (fixR (Rs.mk (Rs.m (Vl.r v)) (Rs.r (Vl.r v)))))))))) (k (.agg ⟨[(.int .i64 1), (.int .i64 0), (.int .i64 (-1)), (.int .i64 0)]⟩)) (bc (eqB (wrapF .i64 (Int.add (Iv.lo (fixI (Iv.mk (Iv.lo (Vl.i v)) (Iv.hi (Vl.i v))))) (sealI q (Int.tmod (wrapF .i64 (Int.add (sealI q (Int.tmod (wrapF .i64 (Int.sub (Rs.r (fixR (Rs.mk (Rs.m (Vl.r v)) (Rs.r (Vl.r v))))) (Iv.lo (fixI (Iv.mk (Iv.lo (Vl.i v)) (Iv.hi (Vl.i v))))))) (Rs.m (fixR (Rs.mk (Rs.m (Vl.r v)) (Rs.r (Vl.r v))))))) (Rs.m (fixR (Rs.mk (Rs.m (Vl.r v)) (Rs.r (Vl.r v))))))) (Rs.m (fixR (Rs.mk (Rs.m (Vl.r v)) (Rs.r (Vl.r v))))))))) (wrapF .i64 (Int.sub (Iv.hi (fixI (Iv.mk (Iv.lo (Vl.i v)) (Iv.hi (Vl.i v))))) (sealI q (Int.tmod (wrapF .i64 (Int.add (sealI q (Int.tmod (wrapF .i64 (Int.sub (Iv.hi (fixI (Iv.mk (Iv.lo (Vl.i v)) (Iv.hi (Vl.i v))))) (Rs.r (fixR (Rs.mk (Rs.m (Vl.r v)) (Rs.r (Vl.r v))))))) (Rs.m (fixR (Rs.mk (Rs.m (Vl.r v)) (Rs.r (Vl.r v))))))) (Rs.m (fixR (Rs.mk (Rs.m (Vl.r v)) (Rs.r (Vl.r v))))))) (Rs.m (fixR (Rs.mk (Rs.m (Vl.r v)) (Rs.r (Vl.r v)))))))))) (k (.agg ⟨[(.int .i64 (w32 (wrapF .i64 (Int.add (Iv.lo (fixI (Iv.mk (Iv.lo (Vl.i v)) (Iv.hi (Vl.i v))))) (sealI q (Int.tmod (wrapF .i64 (Int.add (sealI q (Int.tmod (wrapF .i64 (Int.sub (Rs.r (fixR (Rs.mk (Rs.m (Vl.r v)) (Rs.r (Vl.r v))))) (Iv.lo (fixI (Iv.mk (Iv.lo (Vl.i v)) (Iv.hi (Vl.i v))))))) (Rs.m (fixR (Rs.mk (Rs.m (Vl.r v)) (Rs.r (Vl.r v))))))) (Rs.m (fixR (Rs.mk (Rs.m (Vl.r v)) (Rs.r (Vl.r v))))))) (Rs.m (fixR (Rs.mk (Rs.m (Vl.r v)) (Rs.r (Vl.r v))))))))))), (.int .i64 (w32 (wrapF .i64 (Int.add (Iv.lo (fixI (Iv.mk (Iv.lo (Vl.i v)) (Iv.hi (Vl.i v))))) (sealI q (Int.tmod (wrapF .i64 (Int.add (sealI q (Int.tmod (wrapF .i64 (Int.sub (Rs.r (fixR (Rs.mk (Rs.m (Vl.r v)) (Rs.r (Vl.r v))))) (Iv.lo (fixI (Iv.mk (Iv.lo (Vl.i v)) (Iv.hi (Vl.i v))))))) (Rs.m (fixR (Rs.mk (Rs.m (Vl.r v)) (Rs.r (Vl.r v))))))) (Rs.m (fixR (Rs.mk (Rs.m (Vl.r v)) (Rs.r (Vl.r v))))))) (Rs.m (fixR (Rs.mk (Rs.m (Vl.r v)) (Rs.r (Vl.r v))))))))))), (.int .i64 0), (.int .i64 (w32 (w32 (wrapF .i64 (Int.add (Iv.lo (fixI (Iv.mk (Iv.lo (Vl.i v)) (Iv.hi (Vl.i v))))) (sealI q (Int.tmod (wrapF .i64 (Int.add (sealI q (Int.tmod (wrapF .i64 (Int.sub (Rs.r (fixR (Rs.mk (Rs.m (Vl.r v)) (Rs.r (Vl.r v))))) (Iv.lo (fixI (Iv.mk (Iv.lo (Vl.i v)) (Iv.hi (Vl.i v))))))) (Rs.m (fixR (Rs.mk (Rs.m (Vl.r v)) (Rs.r (Vl.r v))))))) (Rs.m (fixR (Rs.mk (Rs.m (Vl.r v)) (Rs.r (Vl.r v))))))) (Rs.m (fixR (Rs.mk (Rs.m (Vl.r v)) (Rs.r (Vl.r v))))))))))))]⟩)) (k (.agg ⟨[(.int .i64 (wrapF .i64 (Int.add (Iv.lo (fixI (Iv.mk (Iv.lo (Vl.i v)) (Iv.hi (Vl.i v))))) (sealI q (Int.tmod (wrapF .i64 (Int.add (sealI q (Int.tmod (wrapF .i64 (Int.sub (Rs.r (fixR (Rs.mk (Rs.m (Vl.r v)) (Rs.r (Vl.r v))))) (Iv.lo (fixI (Iv.mk (Iv.lo (Vl.i v)) (Iv.hi (Vl.i v))))))) (Rs.m (fixR (Rs.mk (Rs.m (Vl.r v)) (Rs.r (Vl.r v))))))) (Rs.m (fixR (Rs.mk (Rs.m (Vl.r v)) (Rs.r (Vl.r v))))))) (Rs.m (fixR (Rs.mk (Rs.m (Vl.r v)) (Rs.r (Vl.r v)))))))))), (.int .i64 (wrapF .i64 (Int.sub (Iv.hi (fixI (Iv.mk (Iv.lo (Vl.i v)) (Iv.hi (Vl.i v))))) (sealI q (Int.tmod (wrapF .i64 (Int.add (sealI q (Int.tmod (wrapF .i64 (Int.sub (Iv.hi (fixI (Iv.mk (Iv.lo (Vl.i v)) (Iv.hi (Vl.i v))))) (Rs.r (fixR (Rs.mk (Rs.m (Vl.r v)) (Rs.r (Vl.r v))))))) (Rs.m (fixR (Rs.mk (Rs.m (Vl.r v)) (Rs.r (Vl.r v))))))) (Rs.m (fixR (Rs.mk (Rs.m (Vl.r v)) (Rs.r (Vl.r v))))))) (Rs.m (fixR (Rs.mk (Rs.m (Vl.r v)) (Rs.r (Vl.r v)))))))))), (.int .i64 (Rs.m (fixR (Rs.mk (Rs.m (Vl.r v)) (Rs.r (Vl.r v)))))), (.int .i64 (Rs.r (fixR (Rs.mk (Rs.m (Vl.r v)) (Rs.r (Vl.r v))))))]⟩))))))))))) := by kernel_rfl

end Go.Ev
namespace Go.Ev
open Go.Proofs

def noneV : Vl := ⟨⟨1, 0⟩, ⟨-1, 0⟩⟩
def ofV (n : Int) : Vl := ⟨⟨n, n⟩, ⟨0, n⟩⟩
def loV (i : Iv) (r : Rs) : Int := i.lo + (r.r - i.lo) % r.m
def hiV (i : Iv) (r : Rs) : Int := i.hi - (i.hi - r.r) % r.m
/-- The reduced value of an interval and a residue in form. -/
def redC (i : Iv) (r : Rs) : Vl :=
  if i.hi < i.lo ∨ r.m = -1 then noneV
  else if r.m = 0 then (if i.lo ≤ r.r ∧ r.r ≤ i.hi then ofV r.r else noneV)
  else if hiV i r < loV i r then noneV else if loV i r = hiV i r then ofV (loV i r) else ⟨⟨loV i r, hiV i r⟩, r⟩
/-- The reduced value with the same words. -/
def redV (v : Vl) : Vl := redC (fixI v.i) (fixR v.r)

theorem vl_congr {a b c d a' b' c' d' : Int} (h1 : a = a') (h2 : b = b') (h3 : c = c') (h4 : d = d') : some (Value.agg ⟨[.int .i64 a, .int .i64 b, .int .i64 c, .int .i64 d]⟩) = some (vlV ⟨⟨a', b'⟩, ⟨c', d'⟩⟩) := by rw [h1, h2, h3, h4]; rfl
theorem bc_hasI {α : Type} (a : Iv) (n : Int) (x y : α) : bc (hasI a n) x y = if (fixI a).lo ≤ n ∧ n ≤ (fixI a).hi then x else y := by
  unfold hasI
  rw [bc_eq]
  by_cases h : (fixI a).lo ≤ n ∧ n ≤ (fixI a).hi
  · rw [if_pos h, if_pos (by simp [h.1, h.2])]
  · rw [if_neg h, if_neg (fun e => h (by simpa using e))]

theorem loV_bound {i : Iv} {r : Rs} (h : 1 ≤ r.m) : i.lo ≤ loV i r ∧ loV i r < i.lo + r.m ∧ hiV i r ≤ i.hi ∧ i.hi - r.m < hiV i r := by
  have h1 := Int.emod_nonneg (r.r - i.lo) (show r.m ≠ 0 by omega)
  have h2 := Int.emod_lt_of_pos (r.r - i.lo) (show 0 < r.m by omega)
  have h3 := Int.emod_nonneg (i.hi - r.r) (show r.m ≠ 0 by omega)
  have h4 := Int.emod_lt_of_pos (i.hi - r.r) (show 0 < r.m by omega)
  unfold loV hiV
  omega

noncomputable section
theorem a33 : Ans1 encVl 33 (fun v => vlV (redV v)) := fun v => by
  refine good_tree true 1000 20 rfl (fun ty k => t33 true ty v k) (fun ty => ?_) rfl
  show _ = some (vlV (redV v))
  have hA := fixI_cases v.i
  have hB := fixR_cases v.r
  have hB' := fixR_bound v.r
  have e1 : ∀ w : Iv, fixI (Iv.mk (Iv.lo w) (Iv.hi w)) = fixI w := fun _ => rfl
  have e2 : ∀ w : Rs, fixR (Rs.mk (Rs.m w) (Rs.r w)) = fixR w := fun _ => rfl
  have e3 : ∀ w : Iv, hasI (Iv.mk (Iv.lo w) (Iv.hi w)) = hasI w := fun _ => rfl
  have e4 := fixI_fix v.i
  unfold redV
  simp only [e1, e2, e3, bc_hasI, e4]
  generalize fixI v.i = i at *
  generalize fixR v.r = r at *
  obtain ⟨p, q⟩ := i
  obtain ⟨m, c⟩ := r
  simp only [] at hA hB hB'
  simp only [bc_eqIs2, bc_eqB, bc_ltB, sealI_eq, sub_eq, add_eq]
  unfold redC
  simp only []
  have hp : -2147483648 ≤ p ∧ p ≤ 2147483647 := by omega
  have hq : -2147483648 ≤ q ∧ q ≤ 2147483647 := by omega
  by_cases n1 : q < p
  · rw [if_pos (show p = 1 ∧ q = 0 by omega), if_pos (.inl n1)]; rfl
  rw [if_neg (show ¬ (p = 1 ∧ q = 0) by omega)]
  by_cases n2 : m = -1
  · have hc : c = 0 := by
      rcases hB with h | h | h
      · exact h.2
      · omega
      · have := P2_pos h.1; omega
    rw [if_pos ⟨n2, hc⟩, if_pos (.inr n2)]; rfl
  rw [if_neg (show ¬ (m = -1 ∧ c = 0) from fun h => n2 h.1), if_neg (show ¬ (q < p ∨ m = -1) from fun h => h.elim n1 n2)]
  by_cases z : m = 0
  · rw [if_pos z, if_pos z]
    have hw : w32 c = c := w32_of (isW_iff.2 hB'.2)
    simp only [hw]
    split
    · rfl
    · rfl
  rw [if_neg z, if_neg z]
  have hm : 1 ≤ m := by
    rcases hB with h | h | h
    · exact absurd h.1 n2
    · exact absurd h.1 z
    · exact (P2_pos h.1).1
  have b := loV_bound (i := ⟨p, q⟩) (r := ⟨m, c⟩) hm
  have t1 : (((c - p).tmod m + m).tmod m) = (c - p) % m := tmod_low _ (by omega)
  have t2 : (((q - c).tmod m + m).tmod m) = (q - c) % m := tmod_low _ (by omega)
  have k1 := Int.lt_tmod_of_pos (c - p) (show 0 < m by omega)
  have k2 := Int.tmod_lt_of_pos (c - p) (show 0 < m by omega)
  have k3 := Int.lt_tmod_of_pos (q - c) (show 0 < m by omega)
  have k4 := Int.tmod_lt_of_pos (q - c) (show 0 < m by omega)
  have w1 : wrapF .i64 (c - p) = c - p := wr_id (by omega)
  have w2 : wrapF .i64 (q - c) = q - c := wr_id (by omega)
  have w3 : wrapF .i64 ((c - p).tmod m + m) = (c - p).tmod m + m := wr_id (by omega)
  have w4 : wrapF .i64 ((q - c).tmod m + m) = (q - c).tmod m + m := wr_id (by omega)
  unfold loV hiV at *
  simp only [] at b
  have w5 : wrapF .i64 (p + (c - p) % m) = p + (c - p) % m := wr_id (by omega)
  have w6 : wrapF .i64 (q - (q - c) % m) = q - (q - c) % m := wr_id (by omega)
  simp only [w1, w2, w3, w4, t1, t2, w5, w6]
  generalize p + (c - p) % m = lo at *
  generalize q - (q - c) % m = hi at *
  simp only [z, if_false]
  by_cases c1 : hi < lo
  · rw [if_pos c1, if_pos c1]; rfl
  rw [if_neg c1, if_neg c1]
  by_cases c2 : lo = hi
  · have hw : w32 lo = lo := w32_of (isW_iff.2 (by omega))
    rw [if_pos c2, if_pos c2]
    simp only [hw]; rfl
  · rw [if_neg c2, if_neg c2]; rfl
def e33 : Ent := mk1 encVl 33 _ a33

theorem a34 : Ans1 encVl 34 (fun v => vlV (redV v)) := fun v => by
  refine good_tree true 1000 20 rfl (fun ty k => t34 true ty v k) (fun ty => ?_) rfl
  show _ = some (vlV (redV v))
  have hA := fixI_cases v.i
  have hB := fixR_cases v.r
  have hB' := fixR_bound v.r
  have e1 : ∀ w : Iv, fixI (Iv.mk (Iv.lo w) (Iv.hi w)) = fixI w := fun _ => rfl
  have e2 : ∀ w : Rs, fixR (Rs.mk (Rs.m w) (Rs.r w)) = fixR w := fun _ => rfl
  have e3 : ∀ w : Iv, hasI (Iv.mk (Iv.lo w) (Iv.hi w)) = hasI w := fun _ => rfl
  have e4 := fixI_fix v.i
  unfold redV
  simp only [e1, e2, e3, bc_hasI, e4]
  generalize fixI v.i = i at *
  generalize fixR v.r = r at *
  obtain ⟨p, q⟩ := i
  obtain ⟨m, c⟩ := r
  simp only [] at hA hB hB'
  simp only [bc_eqIs2, bc_eqB, bc_ltB, sealI_eq, sub_eq, add_eq]
  unfold redC
  simp only []
  have hp : -2147483648 ≤ p ∧ p ≤ 2147483647 := by omega
  have hq : -2147483648 ≤ q ∧ q ≤ 2147483647 := by omega
  by_cases n1 : q < p
  · rw [if_pos (show p = 1 ∧ q = 0 by omega), if_pos (.inl n1)]; rfl
  rw [if_neg (show ¬ (p = 1 ∧ q = 0) by omega)]
  by_cases n2 : m = -1
  · have hc : c = 0 := by
      rcases hB with h | h | h
      · exact h.2
      · omega
      · have := P2_pos h.1; omega
    rw [if_pos ⟨n2, hc⟩, if_pos (.inr n2)]; rfl
  rw [if_neg (show ¬ (m = -1 ∧ c = 0) from fun h => n2 h.1), if_neg (show ¬ (q < p ∨ m = -1) from fun h => h.elim n1 n2)]
  by_cases z : m = 0
  · rw [if_pos z, if_pos z]
    have hw : w32 c = c := w32_of (isW_iff.2 hB'.2)
    simp only [hw]
    split
    · rfl
    · rfl
  rw [if_neg z, if_neg z]
  have hm : 1 ≤ m := by
    rcases hB with h | h | h
    · exact absurd h.1 n2
    · exact absurd h.1 z
    · exact (P2_pos h.1).1
  have b := loV_bound (i := ⟨p, q⟩) (r := ⟨m, c⟩) hm
  have t1 : (((c - p).tmod m + m).tmod m) = (c - p) % m := tmod_low _ (by omega)
  have t2 : (((q - c).tmod m + m).tmod m) = (q - c) % m := tmod_low _ (by omega)
  have k1 := Int.lt_tmod_of_pos (c - p) (show 0 < m by omega)
  have k2 := Int.tmod_lt_of_pos (c - p) (show 0 < m by omega)
  have k3 := Int.lt_tmod_of_pos (q - c) (show 0 < m by omega)
  have k4 := Int.tmod_lt_of_pos (q - c) (show 0 < m by omega)
  have w1 : wrapF .i64 (c - p) = c - p := wr_id (by omega)
  have w2 : wrapF .i64 (q - c) = q - c := wr_id (by omega)
  have w3 : wrapF .i64 ((c - p).tmod m + m) = (c - p).tmod m + m := wr_id (by omega)
  have w4 : wrapF .i64 ((q - c).tmod m + m) = (q - c).tmod m + m := wr_id (by omega)
  unfold loV hiV at *
  simp only [] at b
  have w5 : wrapF .i64 (p + (c - p) % m) = p + (c - p) % m := wr_id (by omega)
  have w6 : wrapF .i64 (q - (q - c) % m) = q - (q - c) % m := wr_id (by omega)
  simp only [w1, w2, w3, w4, t1, t2, w5, w6]
  generalize p + (c - p) % m = lo at *
  generalize q - (q - c) % m = hi at *
  simp only [z, if_false]
  by_cases c1 : hi < lo
  · rw [if_pos c1, if_pos c1]; rfl
  rw [if_neg c1, if_neg c1]
  by_cases c2 : lo = hi
  · have hw : w32 lo = lo := w32_of (isW_iff.2 (by omega))
    rw [if_pos c2, if_pos c2]
    simp only [hw]; rfl
  · rw [if_neg c2, if_neg c2]; rfl
def e34 : Ent := mk1 encVl 34 _ a34

end
end Go.Ev
namespace Go.Ev
open Go.Proofs

noncomputable section
def mk0 (f : FuncId) (v : Value) (h : Good f [] v ∧ pf v = true) : Ent where
  f := f
  val args := @List.rec Value (fun _ => Option Value) (some v) (fun _ _ _ => none) args
  pre _ := true
  ok args u hv _ := by
    match args, hv with
    | [], hv =>
      obtain rfl := Option.some.inj hv
      exact ⟨⟨h.2, fun y hy => by simp at hy⟩, h.1⟩

theorem good_rfl {l : List Ent} (fuel n : Nat) {f : FuncId} {args : List Value} {v : Value} (hargs : allB pf args = true)
    (h : ∀ ty, ansK ⟨plainT, true⟩ l fuel n ty f args (fun v => some v) = some v) (hn : findE l f args = none) : Good f args v ∧ pf v = true :=
  good_of (plainS true) fuel n ((allB_iff _ _).1 hargs) h hn

def hasV (v : Vl) (n : Int) : Bool := bc (hasI v.i n) (hasR v.r n) false
def emptyV (v : Vl) : Bool := eqIs [(redV v).i.lo, (redV v).i.hi, (redV v).r.m, (redV v).r.r] [1, 0, -1, 0]
def joinV (a b : Vl) : Vl := redV ⟨joinI (redV a).i (redV b).i, joinR (redV a).r (redV b).r⟩
def leqV (a b : Vl) : Bool := bc (emptyV a) true (bc (leqI (redV a).i (redV b).i) (leqR (redV a).r (redV b).r) false)
def doV (op : Int) (a b : Vl) : Vl := redV ⟨doI op (redV a).i (redV b).i, doR op (redV a).r (redV b).r⟩
def allV : Vl := ⟨⟨-2147483648, 2147483647⟩, ⟨1, 0⟩⟩

theorem bc_some_bool {c x y z : Bool} (h : c = bc x y z) {X Y : Option Value} (hX : X = some (.bool y)) (hY : Y = some (.bool z)) : bc x X Y = some (.bool c) := by
  subst h hX hY; cases x <;> rfl

theorem a27 : Ans3 encI encVl encVl 27 (fun op a b => vlV (doV op a b)) := fun op a b =>
  good_rfl (l := [e33, e72, e73]) 1000 20 rfl (fun ty => by kernel_rfl) rfl
def e27 : Ent := mk3 encI encVl encVl 27 _ a27
theorem a28 : Ans3 encI encVl encVl 28 (fun op a b => vlV (doV op a b)) := fun op a b =>
  good_rfl (l := [e34, e74, e75]) 1000 20 rfl (fun ty => by kernel_rfl) rfl
def e28 : Ent := mk3 encI encVl encVl 28 _ a28
theorem a29 : Ans2 encVl encVl 29 (fun a b => vlV (joinV a b)) := fun a b =>
  good_rfl (l := [e33, e76, e77]) 1000 20 rfl (fun ty => by kernel_rfl) rfl
def e29 : Ent := mk2 encVl encVl 29 _ a29
theorem a30 : Ans2 encVl encVl 30 (fun a b => vlV (joinV a b)) := fun a b =>
  good_rfl (l := [e34, e78, e79]) 1000 20 rfl (fun ty => by kernel_rfl) rfl
def e30 : Ent := mk2 encVl encVl 30 _ a30
theorem a38 : Ans1 encI 38 (fun n => vlV (ofV (w32 n))) := fun n => by
  refine good_tree (l := [e95]) true 1000 20 rfl (T := fun _ k => k (.agg ⟨[.int .i64 (w32 n), .int .i64 (w32 n), .int .i64 0, .int .i64 (w32 (w32 n))]⟩)) (fun ty k => by kernel_rfl) (fun ty => ?_) rfl
  show some _ = some _
  rw [w32_of (w32_isW n)]; rfl
def e38 : Ent := mk1 encI 38 _ a38
theorem a39 : Ans1 encI 39 (fun n => vlV (ofV (w32 n))) := fun n => by
  refine good_tree (l := [e97]) true 1000 20 rfl (T := fun _ k => k (.agg ⟨[.int .i64 (w32 n), .int .i64 (w32 n), .int .i64 0, .int .i64 (w32 (w32 n))]⟩)) (fun ty k => by kernel_rfl) (fun ty => ?_) rfl
  show some _ = some _
  rw [w32_of (w32_isW n)]; rfl
def e39 : Ent := mk1 encI 39 _ a39
theorem a40 : Good 40 [] (vlV allV) ∧ pf (vlV allV) = true := good_rfl (l := []) 1000 20 rfl (fun ty => by kernel_rfl) rfl
def e40 : Ent := mk0 40 _ a40
theorem a41 : Good 41 [] (vlV allV) ∧ pf (vlV allV) = true := good_rfl (l := []) 1000 20 rfl (fun ty => by kernel_rfl) rfl
def e41 : Ent := mk0 41 _ a41

theorem a21 : Ans2 encVl encI 21 (fun v n => .bool (hasV v n)) := fun v n => by
  refine good_tree (l := [e68, e69]) true 1000 20 rfl (T := fun _ k => bc (hasI v.i n) (bc (hasR v.r n) (k (.bool true)) (k (.bool false))) (k (.bool false))) (fun ty k => by kernel_rfl) (fun ty => ?_) rfl
  show bc _ _ _ = some (Value.bool (hasV v n))
  refine bc_some_bool rfl ?_ rfl
  cases hasR v.r n <;> rfl
def e21 : Ent := mk2 encVl encI 21 _ a21
theorem a35 : Ans2 encVl encI 35 (fun v n => .bool (hasV v n)) := fun v n => by
  refine good_tree (l := [e93, e94]) true 1000 20 rfl (T := fun _ k => bc (hasI v.i n) (bc (hasR v.r n) (k (.bool true)) (k (.bool false))) (k (.bool false))) (fun ty k => by kernel_rfl) (fun ty => ?_) rfl
  show bc _ _ _ = some (Value.bool (hasV v n))
  refine bc_some_bool rfl ?_ rfl
  cases hasR v.r n <;> rfl
def e35 : Ent := mk2 encVl encI 35 _ a35
theorem a36 : Ans1 encVl 36 (fun v => .bool (emptyV v)) := fun v => by
  refine good_tree (l := [e33]) true 1000 20 rfl (T := fun _ k => bc (emptyV v) (k (.bool true)) (k (.bool false))) (fun ty k => by kernel_rfl) (fun ty => ?_) rfl
  show bc (emptyV v) _ _ = some (Value.bool (emptyV v))
  cases emptyV v <;> rfl
def e36 : Ent := mk1 encVl 36 _ a36
theorem a37 : Ans1 encVl 37 (fun v => .bool (emptyV v)) := fun v => by
  refine good_tree (l := [e34]) true 1000 20 rfl (T := fun _ k => bc (emptyV v) (k (.bool true)) (k (.bool false))) (fun ty k => by kernel_rfl) (fun ty => ?_) rfl
  show bc (emptyV v) _ _ = some (Value.bool (emptyV v))
  cases emptyV v <;> rfl
def e37 : Ent := mk1 encVl 37 _ a37
theorem a31 : Ans2 encVl encVl 31 (fun a b => .bool (leqV a b)) := fun a b => by
  refine good_tree (l := [e33, e81, e82]) true 1000 20 rfl (T := fun _ k => bc (emptyV a) (k (.bool true)) (bc (leqI (redV a).i (redV b).i) (bc (leqR (redV a).r (redV b).r) (k (.bool true)) (k (.bool false))) (k (.bool false)))) (fun ty k => by kernel_rfl) (fun ty => ?_) rfl
  show bc _ _ _ = some (Value.bool (leqV a b))
  refine bc_some_bool rfl rfl (bc_some_bool rfl ?_ rfl)
  cases leqR (redV a).r (redV b).r <;> rfl
def e31 : Ent := mk2 encVl encVl 31 _ a31
theorem a32 : Ans2 encVl encVl 32 (fun a b => .bool (leqV a b)) := fun a b => by
  refine good_tree (l := [e34, e83, e84]) true 1000 20 rfl (T := fun _ k => bc (emptyV a) (k (.bool true)) (bc (leqI (redV a).i (redV b).i) (bc (leqR (redV a).r (redV b).r) (k (.bool true)) (k (.bool false))) (k (.bool false)))) (fun ty k => by kernel_rfl) (fun ty => ?_) rfl
  show bc _ _ _ = some (Value.bool (leqV a b))
  refine bc_some_bool rfl rfl (bc_some_bool rfl ?_ rfl)
  cases leqR (redV a).r (redV b).r <;> rfl
def e32 : Ent := mk2 encVl encVl 32 _ a32

theorem a10 : Good 10 [] (.bool true) ∧ pf (.bool true) = true := by
  refine ⟨fun ty w β hR => ?_, rfl⟩
  have hr := awake_runs ty
  cases hc : evCall E0 100000 200 10 [] (st0 ty) with
  | none => rw [hc] at hr; cases hr
  | some p =>
    obtain ⟨v, σ'⟩ := p
    rw [hc] at hr
    have hv : v = .bool true := by
      cases v with
      | bool b => have : b = true := hr; rw [this]
      | _ => cases hr
    subst hv
    have h := evCall_sound runOK 100000 200 10 [] (st0 ty) (.bool true) σ' hc w.heap.size w β w [] (by rw [E0_P]; exact hR) (by show 0 < 13; omega) (.nil _)
    rw [E0_P] at h
    refine Calls.mono h fun e w' he => ?_
    obtain ⟨v', rfl, -, β', -, hR', hV⟩ := he
    rw [hV.of_pf rfl]
    exact ⟨rfl, hR'.below⟩
def e10 : Ent := mk0 10 _ a10
end
end Go.Ev
namespace Go.Ev
open Go.Proofs

noncomputable section
def vq (v : Vl) : Bool := eqIs [v.i.lo, v.i.hi, v.r.m, v.r.r] [v.i.lo, v.i.hi, v.r.m, v.r.r]
theorem vq_true (v : Vl) : vq v = true := by unfold vq; rw [eqIs4]; simp

def both {R : Type} (c : Bool) (x y : Option R) : Option R := bc c (bc c x y) (bc c y x)
theorem both_eq {R : Type} (c : Bool) (x y : Option R) : both c x y = x := by cases c <;> rfl

theorem a6 (op : Int) (a b : Vl) (n : Int) : Good 6 [.int .i64 op, vlV a, vlV b, .int .i64 n] (.bool true) ∧ pf (.bool true) = true := by
  refine good_tree (l := [e27, e28, e29, e30, e31, e32, e33, e34, e21, e35, e36, e37, e38, e39, e40, e41, e10]) true 1000 20 rfl
    (T := fun _ k => bc (vq (doV op a b)) (bc (vq (joinV a b)) (both (leqV a b) (bc (vq (redV a)) (both (hasV a n) (both (emptyV a) (bc (vq (ofV (w32 n))) (k (.bool true)) (k (.bool false))) (k (.bool false))) (k (.bool false))) (k (.bool false))) (k (.bool false))) (k (.bool false))) (k (.bool false)))
    (fun ty k => by kernel_rfl) (fun ty => ?_) rfl
  simp only [vq_true, both_eq, bc_true]
end
end Go.Ev
