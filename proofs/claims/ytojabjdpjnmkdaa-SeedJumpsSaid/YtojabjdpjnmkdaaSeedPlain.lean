import Derived.Test.YtojabjdpjnmkdaaSeedC
/- plain arithmetic of jumps -/
namespace Go.Proofs.Ytojabjdpjnmkdaa

theorem mul_emod_l (a b : Int) : (a % 2147483647) * b % 2147483647 = a * b % 2147483647 := by rw [Int.mul_emod, Int.emod_emod, ← Int.mul_emod]
theorem mul_emod_r (a b : Int) : a * (b % 2147483647) % 2147483647 = a * b % 2147483647 := by rw [Int.mul_emod, Int.emod_emod, ← Int.mul_emod]

theorem pow_emod (p : Int) (k : Nat) : (p % 2147483647) ^ k % 2147483647 = p ^ k % 2147483647 := by
  induction k with
  | zero => simp
  | succ k ih => rw [Int.pow_succ, Int.pow_succ, Int.mul_emod, ih, ← Int.mul_emod, mul_emod_r]

theorem mulAll_pows (f : Nat) : ∀ (k : Nat) (s p : Int), 0 ≤ s → s < 2147483647 → k < 2 ^ f → mulAll s (pows f k p) = s * p ^ k % 2147483647 := by
  induction f with
  | zero =>
    intro k s p h0 h1 hk
    obtain rfl : k = 0 := by simpa using hk
    simp [pows, mulAll]
    omega
  | succ f ih =>
    intro k s p h0 h1 hk
    have hk2 : k / 2 < 2 ^ f := by rw [Nat.pow_succ] at hk; omega
    by_cases hz : k = 0
    · subst hz
      simp [pows, mulAll]
      omega
    · by_cases ho : k % 2 = 1
      · rw [pows_odd _ _ _ ho]
        show mulAll (s * p % 2147483647) _ = _
        rw [ih _ _ _ (by omega) (by omega) hk2, mul_emod_l, Int.mul_emod, pow_emod, ← Int.mul_emod]
        have e : k = 2 * (k / 2) + 1 := by omega
        conv => rhs; rw [e, Int.pow_succ, Int.pow_mul, Int.pow_succ, Int.pow_succ, Int.pow_zero, Int.one_mul]
        rw [Int.mul_assoc, Int.mul_comm p]
      · rw [pows_even _ _ _ hz ho, ih _ _ _ h0 h1 hk2, Int.mul_emod, pow_emod, ← Int.mul_emod]
        have e : k = 2 * (k / 2) := by omega
        conv => rhs; rw [e, Int.pow_mul, Int.pow_succ, Int.pow_succ, Int.pow_zero, Int.one_mul]

/-- the powers of the factor -/
def gp (k : Nat) : Int := 48271 ^ k % 2147483647

theorem gp_add (a b : Nat) : gp (a + b) = gp a * gp b % 2147483647 := by
  unfold gp
  rw [Int.pow_add, Int.mul_emod]

theorem gp_all : gp 2147483646 = 1 := by
  have h := mulAll_pows 31 2147483646 1 48271 (by decide) (by decide) (by decide)
  rw [Int.one_mul] at h
  unfold gp
  rw [← h]
  decide +kernel

theorem gp_mul (k : Nat) : gp (2147483646 * k) = 1 := by
  induction k with
  | zero => decide
  | succ k ih => rw [Nat.mul_succ, gp_add, ih, gp_all]; decide

theorem gp_mod (k : Nat) : gp (k % 2147483646) = gp k := by
  conv => rhs; rw [← Nat.div_add_mod k 2147483646, gp_add, gp_mul, Int.one_mul]
  unfold gp
  rw [Int.emod_emod]

theorem jumpI_eq (s k : Int) (h0 : 1 ≤ s) (h1 : s ≤ 2147483646) : jumpI s k = s * gp (k % 2147483646).toNat % 2147483647 := by
  unfold jumpI gp
  rw [mulAll_pows 31 _ _ _ (by omega) (by omega) (by omega), mul_emod_r]

/-- two jumps are one by the sum of their steps -/
theorem gp_int (a b : Int) : gp (a % 2147483646).toNat * gp (b % 2147483646).toNat % 2147483647 = gp ((a + b) % 2147483646).toNat := by
  rw [← gp_add, ← gp_mod]
  congr 1
  omega

theorem gp_zero : gp 0 = 1 := by decide

theorem jumpI_bd (s k : Int) (h0 : 1 ≤ s) (h1 : s ≤ 2147483646) : 1 ≤ jumpI s k ∧ jumpI s k ≤ 2147483646 := by
  have e := jumpI_eq s k h0 h1
  have h : jumpI s k * gp ((-k) % 2147483646).toNat % 2147483647 = s := by
    rw [e, mul_emod_l, Int.mul_assoc, Int.mul_emod, gp_int, Int.add_right_neg, mul_emod_l]
    show s * gp 0 % _ = _
    rw [gp_zero]
    omega
  have h2 : 0 ≤ jumpI s k ∧ jumpI s k < 2147483647 := by rw [e]; omega
  rcases Int.lt_or_le 0 (jumpI s k) with h3 | h3
  · omega
  · have h4 : jumpI s k = 0 := by omega
    rw [h4] at h
    simp at h
    omega

theorem jumpI_jumpI (s a b : Int) (h0 : 1 ≤ s) (h1 : s ≤ 2147483646) : jumpI (jumpI s a) b = jumpI s (a + b) := by
  obtain ⟨h2, h3⟩ := jumpI_bd s a h0 h1
  rw [jumpI_eq _ b h2 h3, jumpI_eq s a h0 h1, jumpI_eq s (a + b) h0 h1, mul_emod_l, Int.mul_assoc, Int.mul_emod, gp_int, mul_emod_l]

theorem jumpI_zero (s : Int) (h0 : 1 ≤ s) (h1 : s ≤ 2147483646) : jumpI s 0 = s := by
  rw [jumpI_eq s 0 h0 h1]
  show s * gp 0 % _ = _
  rw [gp_zero]
  omega

theorem jumpI_back (s a : Int) (h0 : 1 ≤ s) (h1 : s ≤ 2147483646) : jumpI (jumpI s a) (-a) = s := by
  rw [jumpI_jumpI s a (-a) h0 h1, Int.add_right_neg, jumpI_zero s h0 h1]

theorem jumpI_all (s : Int) (h0 : 1 ≤ s) (h1 : s ≤ 2147483646) : jumpI s 2147483646 = s := by
  rw [jumpI_eq s _ h0 h1]
  show s * gp 0 % _ = _
  rw [gp_zero]
  omega

theorem jumpI_one (s : Int) (h0 : 1 ≤ s) (h1 : s ≤ 2147483646) : jumpI s 1 = nxt s := by
  rw [jumpI_eq s _ h0 h1]
  rfl

theorem jumpI_before (s : Int) (h0 : 1 ≤ s) (h1 : s ≤ 2147483646) : jumpI (nxt s) (-1) = s := by
  rw [← jumpI_one s h0 h1, jumpI_back s 1 h0 h1]

/-- what comes next after the state before -/
theorem nxt_before (s : Int) (h0 : 1 ≤ s) (h1 : s ≤ 2147483646) : nxt (jumpI s (-1)) = s := by
  obtain ⟨h2, h3⟩ := jumpI_bd s (-1) h0 h1
  rw [← jumpI_one _ h2 h3, jumpI_jumpI s _ _ h0 h1]
  exact jumpI_zero s h0 h1

end Go.Proofs.Ytojabjdpjnmkdaa
