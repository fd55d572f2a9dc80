/- the choices, plain: symmetry, sums -/
import Derived.Test.YtfciebajiihcfaaDoorNatC2
namespace Go.Proofs.YtfciebajiihcfaaDoor
open Go
set_option linter.unusedVariables false

theorem ch_sym (n k : Nat) (h : k ≤ n) : ch n (n - k) = ch n k := by
  induction n generalizing k with
  | zero =>
    obtain rfl : k = 0 := by omega
    rfl
  | succ n ih =>
    cases k with
    | zero => rw [Nat.sub_zero, ch_self, ch_zero]
    | succ j =>
      rw [show n + 1 - (j + 1) = n - j by omega]
      rcases Nat.lt_or_ge j n with hj | hj
      · obtain ⟨d, hd⟩ : ∃ d, n - j = d + 1 := ⟨n - j - 1, by omega⟩
        rw [hd, ch_succ, ch_succ]
        have h1 := ih (j + 1) (by omega)
        have h2 := ih j (by omega)
        rw [show n - (j + 1) = d by omega] at h1
        rw [hd] at h2
        rw [h1, h2, Nat.add_comm]
      · obtain rfl : j = n := by omega
        rw [Nat.sub_self, ch_zero, ch_self]

/-- the first i choices of n things, added up -/
def sumc (n : Nat) : Nat → Nat
  | 0 => 0
  | i + 1 => sumc n i + ch n i

theorem sumc_succ (n i : Nat) : sumc (n + 1) (i + 1) = sumc n (i + 1) + sumc n i := by
  induction i with
  | zero => show 0 + ch (n + 1) 0 = 0 + ch n 0 + 0; rw [ch_zero, ch_zero]
  | succ i ih =>
    show sumc (n + 1) (i + 1) + ch (n + 1) (i + 1) = sumc n (i + 1) + ch n (i + 1) + (sumc n i + ch n i)
    rw [ih, ch_succ]
    omega

theorem sumc_all (n : Nat) : sumc n (n + 1) = 2 ^ n := by
  induction n with
  | zero => rfl
  | succ n ih =>
    rw [sumc_succ]
    show sumc n (n + 1) + ch n (n + 1) + sumc n (n + 1) = _
    rw [ih, ch_over n (n + 1) (by omega), Nat.pow_succ]
    omega

theorem sumc_mono (n i d : Nat) : sumc n i ≤ sumc n (i + d) := by
  induction d with
  | zero => exact Nat.le_refl _
  | succ d ih => exact Nat.le_trans ih (Nat.le_add_right _ _)

theorem sumc_big (n i : Nat) (hn : n < 128) (hi : i ≤ n + 1) : sumc n i < big := by
  have h1 := sumc_mono n i (n + 1 - i)
  rw [show i + (n + 1 - i) = n + 1 by omega, sumc_all] at h1
  have h2 : (2 : Nat) ^ n ≤ 2 ^ 127 := Nat.pow_le_pow_right (by decide) (by omega)
  have h3 : (2 : Nat) ^ 127 < big := by decide
  omega

/-- the choices at any integer -/
def cz (n : Nat) (k : Int) : Nat := if k < 0 then 0 else ch n k.toNat

theorem cz_pascal (n : Nat) (k : Int) : cz (n + 1) k = cz n k + cz n (k - 1) := by
  unfold cz
  by_cases h : k < 0
  · rw [if_pos h, if_pos h, if_pos (by omega)]
  · rw [if_neg h, if_neg h]
    by_cases h0 : k = 0
    · subst h0
      rw [if_pos (by omega)]
      show ch (n + 1) 0 = ch n 0 + 0
      rw [ch_zero, ch_zero]
    · rw [if_neg (by omega)]
      obtain ⟨j, hj⟩ : ∃ j, k.toNat = j + 1 := ⟨k.toNat - 1, by omega⟩
      rw [hj, show (k - 1).toNat = j by omega, ch_succ, Nat.add_comm]

theorem cz_big (n : Nat) (k : Int) (h : n ≤ 128) : cz n k < big := by
  unfold cz
  split
  · decide
  · exact ch_big n _ h

theorem pow_parts : ∀ m, m < 128 → ∀ i, i < 4 → 2 ^ m / 4294967296 ^ i % 4294967296 = if i = m / 32 then 2 ^ (m % 32) else 0 := by decide +kernel

end Go.Proofs.YtfciebajiihcfaaDoor
