/- the count of a set's cards -/
import Derived.Test.YtbjehiagaikhoaaProg
import Derived.Test.YtbjehiagaikhoaaCardB
import Derived.LoopN
namespace Go.Proofs.Ytbjehiagaikhoaa
open Go.RowKit
set_option linter.unusedVariables false
set_option maxRecDepth 100000

/-- how many of the lowest k bits are set -/
def popk : Nat → Nat → Nat
  | 0, _ => 0
  | k + 1, m => m % 2 + popk k (m / 2)

theorem and_half (a b : Nat) : (a &&& b) / 2 = a / 2 &&& b / 2 := by
  apply Nat.eq_of_testBit_eq
  intro i
  rw [Nat.testBit_and, Nat.testBit_div_two, Nat.testBit_div_two, Nat.testBit_div_two, Nat.testBit_and]

theorem and_odd (a b : Nat) : (a &&& b) % 2 = a % 2 * (b % 2) := by
  have h1 := Nat.testBit_and a b 0
  simp only [Nat.testBit_zero] at h1
  have ha := Nat.mod_two_eq_zero_or_one a
  have hb := Nat.mod_two_eq_zero_or_one b
  have hc := Nat.mod_two_eq_zero_or_one (a &&& b)
  rcases ha with ha | ha <;> rcases hb with hb | hb <;> rcases hc with hc | hc <;> simp [ha, hb, hc] at h1 ⊢

theorem popk_step (k : Nat) : ∀ m, 0 < m → m < 2 ^ k → popk k (m &&& (m - 1)) + 1 = popk k m := by
  induction k with
  | zero => intro m h1 h2; simp at h2; omega
  | succ k ih =>
    intro m h1 h2
    simp only [popk]
    rw [and_half, and_odd]
    rcases Nat.mod_two_eq_zero_or_one m with hm | hm
    · have e1 : (m - 1) % 2 = 1 := by omega
      have e2 : (m - 1) / 2 = m / 2 - 1 := by omega
      have h3 : m / 2 < 2 ^ k := by rw [Nat.pow_succ] at h2; omega
      have := ih (m / 2) (by omega) h3
      rw [hm, e1, e2]
      omega
    · have e1 : (m - 1) % 2 = 0 := by omega
      have e2 : (m - 1) / 2 = m / 2 := by omega
      rw [hm, e1, e2, Nat.and_self]
      omega

theorem popk_zero (k : Nat) : popk k 0 = 0 := by
  induction k with
  | zero => rfl
  | succ k ih => simp [popk, ih]

theorem popk_top (k : Nat) : ∀ m, popk (k + 1) m = popk k m + (if bt m k = true then 1 else 0) := by
  induction k with
  | zero =>
    intro m
    simp only [popk, bt, Nat.pow_zero, Nat.div_one, beq_iff_eq]
    split <;> omega
  | succ k ih =>
    intro m
    have h1 : popk (k + 1 + 1) m = m % 2 + popk (k + 1) (m / 2) := rfl
    have h2 : popk (k + 1) m = m % 2 + popk k (m / 2) := rfl
    have h3 : bt (m / 2) k = bt m (k + 1) := by rw [bt_test, bt_test, Nat.testBit_div_two]
    rw [h1, ih, h2, h3]
    omega

theorem downs_pop (m k : Nat) : (downs m k).length = popk k m := by
  induction k with
  | zero => rfl
  | succ k ih =>
    rw [popk_top]
    unfold downs
    rw [List.length_append, ih]
    split <;> simp <;> omega

theorem popk_le (k m : Nat) : popk k m ≤ k := by
  rw [← downs_pop]; exact downs_len m k

theorem count_any (m : Nat) (w : World) (hm : m < 4503599627370496) :
    Calls Try.prog 22 #[.int .u64 (m : Int)] w fun e w' => e = .returned (.int .i64 ((downs m 52).length : Nat)) ∧ w = w' := by
  rw [downs_pop]
  have hstep : ∀ a, 0 < a → a < 4503599627370496 → popk 52 (a &&& (a - 1)) + 1 = popk 52 a := popk_step 52
  have hzero : popk 52 0 = 0 := popk_zero 52
  have hle : popk 52 m ≤ 52 := popk_le 52 m
  obtain ⟨F, hF⟩ : ∃ F, popk 52 = F := ⟨_, rfl⟩
  rw [hF] at hstep hzero hle ⊢
  clear hF
  obtain ⟨T, hT⟩ : ∃ T, F m = T := ⟨_, rfl⟩
  rw [hT] at hle
  have h00 : F m + 0 = T := by rw [Nat.add_zero]; exact hT
  have HT := Lib.hid h00
  have HS := Lib.hid hstep
  have HZ := Lib.hid hzero
  rw [hT]
  clear hT h00 hstep hzero
  go_enter Try.func22, Try.ntmps22
  go_wp2
  go_loopw [0, 3] (fun a n wr => ∃ (a' n' : Nat), a = .int .u64 a' ∧ n = .int .i64 n' ∧ a' < 4503599627370496 ∧ n' ≤ T ∧ Hid (F a' + n' = T) ∧ w = wr) (fun a n _ => T - (intOf n).toNat)
  case atStart => exact ⟨m, 0, rfl, rfl, hm, by omega, HT, rfl⟩
  case round =>
    obtain ⟨a, n, rfl, rfl, ha, hn, hG, rfl⟩ := hrel
    by_cases h0 : a = 0
    · subst h0
      have hG' := hG.out
      rw [HZ.out, Nat.zero_add] at hG'
      subst hG'
      go_wp2
      go_ret
      exact ⟨rfl, rfl⟩
    · have h1 := HS.out a (by omega) ha
      have hG' := hG.out
      have h2 : F (a &&& (a - 1)) + (n + 1) = T := by omega
      have hnT : n < T := by omega
      have HG := Lib.hid h2
      have ha2 : a &&& (a - 1) < 4503599627370496 := Nat.lt_of_le_of_lt Nat.and_le_left ha
      have hb : bits BinOp.and IntKind.u64 (a : Int) ((a : Int) - 1) = ((a &&& (a - 1) : Nat) : Int) := by
        rw [show ((a : Int) - 1) = ((a - 1 : Nat) : Int) by omega]
        exact u64_and_nat _ _ (by omega) (by omega)
      clear h1 hG' h2
      go_wp2
      go_roundw
      case rel => exact ⟨a &&& (a - 1), n + 1, by first | rfl | rw [hb], by go_num, ha2, by omega, HG, by trivial⟩
      case measure => simp [intOf]; omega

end Go.Proofs.Ytbjehiagaikhoaa
