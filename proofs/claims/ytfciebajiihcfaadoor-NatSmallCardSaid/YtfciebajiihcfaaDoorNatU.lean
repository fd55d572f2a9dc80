/- reading decimal strings, plain -/
import Derived.Test.YtfciebajiihcfaaDoorNatT
import Derived.Lib.SlTrimSet
namespace Go.Proofs.YtfciebajiihcfaaDoor
open Go
set_option linter.unusedVariables false

def isDg (b : UInt8) : Bool := decide (48 ≤ b.toNat) && decide (b.toNat ≤ 57)

def digs : List UInt8 := [48, 49, 50, 51, 52, 53, 54, 55, 56, 57]

theorem digs_all : ∀ n : Nat, n < 256 → digs.contains (UInt8.ofNat n) = isDg (UInt8.ofNat n) := by decide +kernel
theorem digs_has (b : UInt8) : digs.contains b = isDg b := by
  have h := digs_all b.toNat b.toNat_lt
  rwa [UInt8.ofNat_toNat] at h

theorem dropWhile_nil {α : Type} (p : α → Bool) (l : List α) : l.dropWhile p = [] ↔ ∀ a ∈ l, p a = true := by
  induction l with
  | nil => simp
  | cons x l ih =>
    rw [List.dropWhile_cons]
    by_cases h : p x = true
    · rw [if_pos h, ih]
      simp [h]
    · rw [if_neg h]
      simp [h]

theorem trim_digits (l : List UInt8) : Lib.trimS l digs = [] ↔ ∀ b ∈ l, isDg b = true := by
  have e : (digs.contains ·) = isDg := funext digs_has
  unfold Lib.trimS Lib.trimLeftS Lib.trimRightS
  rw [e, dropWhile_nil]
  constructor
  · intro h b hb
    have h2 : l.reverse.dropWhile isDg = [] := by
      cases hd : l.reverse.dropWhile isDg with
      | nil => rfl
      | cons x r =>
        have h3 := List.head?_dropWhile_not isDg l.reverse
        rw [hd] at h3
        simp only [List.head?_cons] at h3
        have h4 := h x (by rw [hd]; simp)
        rw [h4] at h3
        cases h3
    exact (dropWhile_nil isDg l.reverse).1 h2 b (by simpa using hb)
  · intro h b hb
    have h2 := (dropWhile_nil isDg l.reverse).2 (fun a ha => h a (by simpa using ha))
    rw [h2] at hb
    cases hb

/-- the value of decimal digits behind the value v -/
def decV (v : Nat) : List UInt8 → Nat
  | [] => v
  | b :: l => decV (v * 10 + (b.toNat - 48)) l

theorem decV_ge (v : Nat) (l : List UInt8) : v ≤ decV v l := by
  induction l generalizing v with
  | nil => exact Nat.le_refl _
  | cons b l ih => exact Nat.le_trans (by omega) (ih (v * 10 + (b.toNat - 48)))

/-- what Read returns -/
def badS (l : List UInt8) : Prop := l = [] ∨ (1 < l.length ∧ l.head? = some 48) ∨ ¬ ∀ b ∈ l, isDg b = true

instance (l : List UInt8) : Decidable (badS l) := by unfold badS; infer_instance

def vNRead (l : List UInt8) : Value := if badS l then .tuple #[vN 0, .int .i64 20] else if decV 0 l < big then .tuple #[vN (decV 0 l), .int .i64 0] else .tuple #[vN 0, .int .i64 3]

end Go.Proofs.YtfciebajiihcfaaDoor
