/- seed: numbers of 128 bits drawn: plain facts -/
import Derived.Test.YtojabjdpjnmkdaaSeedA
import Derived.Test.YtojabjdpjnmkdaaNatA
namespace Go.Proofs.Ytojabjdpjnmkdaa
open Go.RowKit
set_option linter.unusedVariables false

/-- how many values there are -/
def VV : Nat := 2147483646
/-- the state after k steps -/
def stN : Nat → Int → Int
  | 0, s => s
  | k + 1, s => nxt (stN k s)
/-- what k values make, the first one counts least -/
def smN : Nat → Int → Nat
  | 0, _ => 0
  | k + 1, s => smN k s + (stN (k + 1) s - 1).toNat * VV ^ k

theorem stN_right (s : Int) (h0 : 1 ≤ s) (h1 : s ≤ 2147483646) (k : Nat) : 1 ≤ stN k s ∧ stN k s ≤ 2147483646 := by
  induction k with
  | zero => exact ⟨h0, h1⟩
  | succ k ih => exact ⟨nxt_pos _ ih.1 ih.2, by have := nxt_lt (stN k s); unfold stN; omega⟩

theorem smN_lt (s : Int) (h0 : 1 ≤ s) (h1 : s ≤ 2147483646) (k : Nat) : smN k s < VV ^ k := by
  induction k with
  | zero => simp [smN]
  | succ k ih =>
    have h := stN_right s h0 h1 (k + 1)
    unfold smN
    obtain ⟨v, hv⟩ : ∃ v, (stN (k + 1) s - 1).toNat = v := ⟨_, rfl⟩
    have h2 : (v + 1) * VV ^ k ≤ VV * VV ^ k := Nat.mul_le_mul_right _ (by unfold VV; omega)
    rw [Nat.add_mul, Nat.one_mul] at h2
    rw [Nat.pow_succ, Nat.mul_comm (VV ^ k) VV, hv]
    omega

theorem VV_pow (j : Nat) (h : j ≤ 4) : VV ^ j < big := by
  match j, h with
  | 0, _ => decide
  | 1, _ => decide
  | 2, _ => decide
  | 3, _ => decide
  | 4, _ => decide

theorem VV_mono {i j : Nat} (h : i ≤ j) : VV ^ i ≤ VV ^ j := Nat.pow_le_pow_right (by decide) h

/-- draw until a sum is not too great, or too often -/
def drN (k n e : Nat) : Nat → Int → Nat → Int × Nat
  | 0, s, x => (s, x)
  | j + 1, s, _ => if smN k s < e then (stN k s, smN k s % n) else drN k n e j (stN k s) (smN k s % n)

theorem drN_succ (k n e j : Nat) (s : Int) (x : Nat) : drN k n e (j + 1) s x = if smN k s < e then (stN k s, smN k s % n) else drN k n e j (stN k s) (smN k s % n) := rfl

theorem drN_right (k n e : Nat) (hn : 0 < n) : ∀ (j : Nat) (s : Int) (x : Nat), 1 ≤ s → s ≤ 2147483646 → x < n → 1 ≤ (drN k n e j s x).1 ∧ (drN k n e j s x).1 ≤ 2147483646 ∧ (drN k n e j s x).2 < n := by
  intro j
  induction j with
  | zero => intro s x h0 h1 hx; exact ⟨h0, h1, hx⟩
  | succ j ih =>
    intro s x h0 h1 hx
    rw [drN_succ]
    have h := stN_right s h0 h1 k
    split
    · exact ⟨h.1, h.2, Nat.mod_lt _ hn⟩
    · exact ih _ _ h.1 h.2 (Nat.mod_lt _ hn)

/-- how many values are taken -/
def kOf (n : Nat) : Nat := if n ≤ VV then 1 else if n ≤ VV ^ 2 then 2 else if n ≤ VV ^ 3 then 3 else 4

theorem kOf_le (n : Nat) : 1 ≤ kOf n ∧ kOf n ≤ 4 := by unfold kOf; split; omega; split; omega; split <;> omega

theorem kOf_spec (n : Nat) (h : n ≤ 1329227995784915872903807060280344576) : n ≤ VV ^ kOf n ∧ ∀ j, 1 ≤ j → j < kOf n → VV ^ j < n := by
  unfold kOf
  split
  · exact ⟨by simpa using ‹n ≤ VV›, fun j h1 h2 => by omega⟩
  · split
    · refine ⟨‹_›, fun j h1 h2 => ?_⟩
      obtain rfl : j = 1 := by omega
      simpa using ‹¬ n ≤ VV›
    · split
      · refine ⟨‹_›, fun j h1 h2 => ?_⟩
        have : j = 1 ∨ j = 2 := by omega
        rcases this with rfl | rfl
        · simpa using ‹¬ n ≤ VV›
        · exact Nat.lt_of_not_le ‹_›
      · refine ⟨Nat.le_trans h (by decide), fun j h1 h2 => ?_⟩
        have : j = 1 ∨ j = 2 ∨ j = 3 := by omega
        rcases this with rfl | rfl | rfl
        · simpa using ‹¬ n ≤ VV›
        · exact Nat.lt_of_not_le ‹_›
        · exact Nat.lt_of_not_le ‹_›

/-- what BelowNat draws -/
def belowN (s : Int) (n : Nat) : Int × Nat := drN (kOf n) n (VV ^ kOf n - VV ^ kOf n % n) 101 s 0

end Go.Proofs.Ytojabjdpjnmkdaa
