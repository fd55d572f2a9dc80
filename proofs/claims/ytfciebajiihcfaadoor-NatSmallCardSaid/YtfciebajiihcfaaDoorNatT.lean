/- numbers as decimal strings, plain -/
import Derived.Test.YtfciebajiihcfaaDoorNatP
namespace Go.Proofs.YtfciebajiihcfaaDoor
open Go
set_option linter.unusedVariables false

/-- a digit's byte -/
def dgb (d : Nat) : UInt8 := UInt8.ofNat (48 + d)

/-- the decimal string, f digits at most -/
def txF : Nat → Nat → List UInt8
  | 0, _ => []
  | f + 1, n => if n < 10 then [dgb n] else txF f (n / 10) ++ [dgb (n % 10)]

/-- the decimal string of a number -/
def txt (n : Nat) : List UInt8 := txF (n + 1) n

theorem txF_enough (f g n : Nat) (hf : n < f) (hg : n < g) : txF f n = txF g n := by
  induction f generalizing g n with
  | zero => omega
  | succ f ih =>
    cases g with
    | zero => omega
    | succ g =>
      unfold txF
      split
      · rfl
      · rw [ih g (n / 10) (by omega) (by omega)]

theorem txt_small {n : Nat} (h : n < 10) : txt n = [dgb n] := by
  unfold txt txF
  rw [if_pos h]

theorem txt_step {n : Nat} (h : 10 ≤ n) : txt n = txt (n / 10) ++ [dgb (n % 10)] := by
  conv => lhs; unfold txt txF
  rw [if_neg (by omega)]
  unfold txt
  rw [txF_enough n (n / 10 + 1) (n / 10) (by omega) (by omega)]

/-- where Text stands: m is left, S is written -/
def TextAt (x m : Nat) (S : List UInt8) : Prop := (m = 0 ∧ S = txt x ∧ S ≠ []) ∨ ((m ≠ 0 ∨ S = []) ∧ txt m ++ S = txt x)

theorem TextAt.start (x : Nat) : TextAt x x [] := Or.inr ⟨Or.inr rfl, by simp⟩

theorem TextAt.step {x m : Nat} {S : List UInt8} (h : TextAt x m S) (hc : m ≠ 0 ∨ S = []) : TextAt x (m / 10) (dgb (m % 10) :: S) := by
  have h2 : txt m ++ S = txt x := by
    rcases h with ⟨h0, _, hs⟩ | ⟨_, h⟩
    · rcases hc with h | h
      · exact absurd h0 h
      · exact absurd h hs
    · exact h
  by_cases hm : m < 10
  · refine Or.inl ⟨by omega, ?_, by simp⟩
    rw [← h2, txt_small hm, Nat.mod_eq_of_lt hm]
    rfl
  · refine Or.inr ⟨Or.inl (by omega), ?_⟩
    rw [← h2, txt_step (by omega : 10 ≤ m)]
    simp

theorem TextAt.stop {x : Nat} {S : List UInt8} (h : TextAt x 0 S) (hs : S ≠ []) : S = txt x := by
  rcases h with ⟨_, h, _⟩ | ⟨h, _⟩
  · exact h
  · rcases h with h | h
    · exact absurd rfl h
    · exact absurd h hs

theorem pow_room {x m s : Nat} (h : 10 ^ s * m ≤ x) (hm : 0 < m) (hx : x < 340282366920938463463374607431768211456) : s < 39 := by
  rcases Nat.lt_or_ge s 39 with h1 | h1
  · exact h1
  · have h2 : (10 : Nat) ^ 39 ≤ 10 ^ s := Nat.pow_le_pow_right (by decide) h1
    have h3 : 10 ^ s * 1 ≤ 10 ^ s * m := Nat.mul_le_mul_left _ hm
    have h4 : (340282366920938463463374607431768211456 : Nat) ≤ 10 ^ 39 := by decide
    omega

theorem pow_step {x m s : Nat} (h : 10 ^ s * m ≤ x) : 10 ^ (s + 1) * (m / 10) ≤ x := by
  have h1 : 10 * (m / 10) ≤ m := Nat.mul_div_le m 10
  have h2 := Nat.mul_le_mul_left (10 ^ s) h1
  rw [← Nat.mul_assoc, ← Nat.pow_succ] at h2
  exact Nat.le_trans h2 h

theorem dgb_encode : ∀ d : Nat, d < 10 → Utf8.encode (48 + (d : Int)) = ⟨#[dgb d]⟩ := by
  intro d hd
  have h : d = 0 ∨ d = 1 ∨ d = 2 ∨ d = 3 ∨ d = 4 ∨ d = 5 ∨ d = 6 ∨ d = 7 ∨ d = 8 ∨ d = 9 := by omega
  rcases h with rfl | rfl | rfl | rfl | rfl | rfl | rfl | rfl | rfl | rfl <;> rfl

end Go.Proofs.YtfciebajiihcfaaDoor
