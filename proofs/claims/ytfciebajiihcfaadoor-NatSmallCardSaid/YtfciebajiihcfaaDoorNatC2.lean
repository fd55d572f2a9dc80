/- the choices, plain -/
import Derived.Test.YtfciebajiihcfaaDoorNatP
namespace Go.Proofs.YtfciebajiihcfaaDoor
open Go
set_option linter.unusedVariables false

/-- the choices of k things out of n -/
def ch : Nat → Nat → Nat
  | _, 0 => 1
  | 0, _ + 1 => 0
  | n + 1, k + 1 => ch n k + ch n (k + 1)

theorem ch_zero (n : Nat) : ch n 0 = 1 := by cases n <;> rfl
theorem ch_succ (n k : Nat) : ch (n + 1) (k + 1) = ch n k + ch n (k + 1) := rfl
theorem ch_over (n k : Nat) (h : n < k) : ch n k = 0 := by
  induction n generalizing k with
  | zero => cases k with
    | zero => omega
    | succ k => rfl
  | succ n ih =>
    cases k with
    | zero => omega
    | succ k => rw [ch_succ, ih k (by omega), ih (k + 1) (by omega)]
theorem ch_self (n : Nat) : ch n n = 1 := by
  induction n with
  | zero => rfl
  | succ n ih => rw [ch_succ, ih, ch_over n (n + 1) (by omega)]

theorem ch_le (n k : Nat) : ch n k ≤ 2 ^ n := by
  induction n generalizing k with
  | zero => cases k with
    | zero => exact Nat.le_refl _
    | succ k => exact Nat.zero_le _
  | succ n ih =>
    cases k with
    | zero => rw [ch_zero]; exact Nat.one_le_two_pow
    | succ k =>
      rw [ch_succ, Nat.pow_succ]
      have := ih k
      have := ih (k + 1)
      omega

theorem ch_pair (n k : Nat) (h : 1 ≤ n) : ch n k + ch n (k + 1) ≤ 2 ^ n := by
  induction n generalizing k with
  | zero => omega
  | succ n ih =>
    rcases Nat.eq_zero_or_pos n with rfl | hn
    · cases k with
      | zero => decide
      | succ k => cases k with
        | zero => decide
        | succ k => rw [ch_over 1 (k + 1 + 1) (by omega), ch_over 1 (k + 1 + 1 + 1) (by omega)]; decide
    · cases k with
      | zero =>
        have h1 := ih 0 hn
        rw [ch_zero, ch_succ, ch_zero, Nat.pow_succ]
        rw [ch_zero] at h1
        have h2 : 1 ≤ 2 ^ n := Nat.one_le_two_pow
        omega
      | succ k =>
        have h1 := ih k hn
        have h2 := ih (k + 1) hn
        rw [ch_succ, ch_succ, Nat.pow_succ]
        omega

theorem ch_big (n k : Nat) (h : n ≤ 128) : ch n k < big := by
  rcases Nat.lt_or_ge n 128 with h1 | h1
  · have h2 := ch_le n k
    have h3 : (2 : Nat) ^ n ≤ 2 ^ 127 := Nat.pow_le_pow_right (by decide) (by omega)
    have h4 : (2 : Nat) ^ 127 < big := by decide
    omega
  · obtain rfl : n = 128 := by omega
    cases k with
    | zero => rw [ch_zero]; decide
    | succ k =>
      have h2 := ch_pair 127 k (by decide)
      have h4 : (2 : Nat) ^ 127 < big := by decide
      rw [ch_succ 127]
      omega

/-- a row of the triangle, as its numbers are kept -/
def rowL (n : Nat) : List Nat := (List.range (n + 1)).map fun k => ch n k % big

theorem rowL_len (n : Nat) : (rowL n).length = n + 1 := by unfold rowL; simp
theorem rowL_lt (n : Nat) : ∀ a ∈ rowL n, a < big := by
  intro a ha
  unfold rowL at ha
  rw [List.mem_map] at ha
  obtain ⟨k, _, rfl⟩ := ha
  exact Nat.mod_lt _ (by decide)
theorem rowL_get (n k : Nat) (h : k ≤ n) : (rowL n).getD k 0 = ch n k % big := by
  unfold rowL
  rw [List.getD_eq_getElem?_getD, List.getElem?_map, List.getElem?_range (by omega)]
  rfl

/-- the row after n, its first i numbers -/
def nextL (n i : Nat) : List Nat := (List.range i).map fun k => ch (n + 1) k % big

theorem nextL_one (n : Nat) : nextL n 1 = [1] := by unfold nextL; simp [ch_zero]; decide
theorem nextL_succ (n i : Nat) : nextL n (i + 1) = nextL n i ++ [ch (n + 1) i % big] := by unfold nextL; rw [List.range_succ, List.map_append]; rfl
theorem nextL_len (n i : Nat) : (nextL n i).length = i := by unfold nextL; simp
theorem nextL_sum (n i : Nat) : nextL n (i + 1 + 1) = nextL n (i + 1) ++ [(ch n i % big + ch n (i + 1) % big) % big] := by
  rw [nextL_succ, ch_succ, ← Nat.add_mod]
theorem nextL_end (n : Nat) : nextL n (n + 1) ++ [1] = rowL (n + 1) := by
  have h : nextL n (n + 1 + 1) = rowL (n + 1) := rfl
  rw [← h, nextL_succ n (n + 1), ch_self]
  rfl

end Go.Proofs.YtfciebajiihcfaaDoor
