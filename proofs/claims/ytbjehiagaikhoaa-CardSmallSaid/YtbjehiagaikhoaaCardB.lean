/- bits of sets of cards: plain arithmetic -/
import Derived.Test.YtbjehiagaikhoaaProg
import Derived.Test.YtbjehiagaikhoaaCardA
namespace Go.Proofs.Ytbjehiagaikhoaa
set_option linter.unusedVariables false

theorem bt_test (m c : Nat) : bt m c = m.testBit c := by
  unfold bt
  rw [Nat.testBit_eq_decide_div_mod_eq, Bool.eq_iff_iff]
  simp

theorem test_two (e c : Nat) : (2 ^ e).testBit c = decide (c = e) := by
  rw [Nat.testBit_two_pow]
  simp [eq_comm]

theorem bt_or (m e c : Nat) : bt (m ||| 2 ^ e) c = (bt m c || decide (c = e)) := by
  rw [bt_test, bt_test, Nat.testBit_or, test_two]

theorem not64 (b c : Nat) (hb : b < 2 ^ 64) (hc : c < 64) : (18446744073709551615 - b).testBit c = !b.testBit c := by
  have h := Nat.testBit_two_pow_sub_succ hb c
  rw [show 2 ^ 64 - (b + 1) = 18446744073709551615 - b by omega] at h
  rw [h]
  simp [hc]

theorem bt_low (m c : Nat) (hm : m < 4503599627370496) (hc : 52 ≤ c) : bt m c = false := by
  rw [bt_test]
  exact Nat.testBit_lt_two_pow (Nat.lt_of_lt_of_le hm (Nat.pow_le_pow_right (n := 2) (by decide) hc))

theorem bt_andNot (m e c : Nat) (hm : m < 4503599627370496) (he : e < 52) : bt (m &&& (18446744073709551615 - 2 ^ e)) c = (bt m c && decide (c ≠ e)) := by
  rcases Nat.lt_or_ge c 64 with hc | hc
  · rw [bt_test, bt_test, Nat.testBit_and, not64 _ _ (Nat.pow_lt_pow_right (by decide) (by omega)) hc, test_two]
    simp
  · rw [bt_low m c hm (by omega), bt_test, Nat.testBit_and, ← bt_test, bt_low m c hm (by omega)]
    simp

theorem test_8191 (s c : Nat) : (8191 * 2 ^ (13 * s)).testBit c = decide (c / 13 = s) := by
  rw [Nat.mul_comm, Nat.testBit_two_pow_mul, show 8191 = 2 ^ 13 - 1 from rfl, Nat.testBit_two_pow_sub_one, Bool.eq_iff_iff]
  simp
  omega

theorem bt_of (m s c : Nat) (hm : m < 4503599627370496) (hs : s < 4) : bt (ofN m s) c = (bt m c && decide (c / 13 = s)) := by
  unfold ofN
  rw [if_pos ⟨hm, hs⟩, bt_test, Nat.testBit_and, ← bt_test, test_8191]

theorem mem_downs (m k c : Nat) : c ∈ downs m k ↔ c < k ∧ bt m c = true := by
  induction k with
  | zero => simp [downs]
  | succ k ih =>
    unfold downs
    rw [List.mem_append, ih]
    by_cases h : bt m k = true
    · rw [if_pos h]
      simp only [List.mem_singleton]
      constructor
      · rintro (rfl | ⟨h1, h2⟩)
        · exact ⟨by omega, h⟩
        · exact ⟨by omega, h2⟩
      · rintro ⟨h1, h2⟩
        rcases Nat.lt_or_ge c k with h3 | h3
        · exact .inr ⟨h3, h2⟩
        · exact .inl (by omega)
    · rw [if_neg h]
      simp only [List.not_mem_nil, false_or]
      constructor
      · rintro ⟨h1, h2⟩
        exact ⟨by omega, h2⟩
      · rintro ⟨h1, h2⟩
        refine ⟨?_, h2⟩
        rcases Nat.lt_or_ge c k with h3 | h3
        · exact h3
        · exact absurd (by rw [show k = c by omega]; exact h2) h

theorem downs_sorted (m k : Nat) : (downs m k).Pairwise (· > ·) := by
  induction k with
  | zero => simp [downs]
  | succ k ih =>
    unfold downs
    rw [List.pairwise_append]
    refine ⟨by split <;> simp, ih, ?_⟩
    intro a ha b hb
    have h2 := downs_lt m k b hb
    split at ha
    · simp at ha; omega
    · simp at ha

/-- the first card of a set is its greatest -/
theorem head_downs (m c : Nat) (h : (downs m 52).head? = some c) : c < 52 ∧ bt m c = true ∧ ∀ d, d < 52 → bt m d = true → d ≤ c := by
  obtain ⟨l, hl⟩ : ∃ l, downs m 52 = c :: l := by
    cases hd : downs m 52 with
    | nil => rw [hd] at h; simp at h
    | cons a l => rw [hd] at h; simp at h; subst h; exact ⟨l, rfl⟩
  have hm := (mem_downs m 52 c).1 (by rw [hl]; simp)
  refine ⟨hm.1, hm.2, fun d h1 h2 => ?_⟩
  have hd := (mem_downs m 52 d).2 ⟨h1, h2⟩
  have hp := downs_sorted m 52
  rw [hl] at hd hp
  rcases List.mem_cons.1 hd with rfl | hd
  · omega
  · have := (List.pairwise_cons.1 hp).1 d hd
    omega

theorem head_none (m : Nat) (h : (downs m 52).head? = none) : ∀ d, d < 52 → bt m d = false := by
  intro d hd
  have hn : downs m 52 = [] := by cases hd : downs m 52 with
    | nil => rfl
    | cons a l => rw [hd] at h; simp at h
  cases hb : bt m d with
  | false => rfl
  | true => have := (mem_downs m 52 d).2 ⟨hd, hb⟩; rw [hn] at this; simp at this

end Go.Proofs.Ytbjehiagaikhoaa
