/- With its highest cards of a suit taken, one after the other, nothing of the suit is left, and all others are as before. It holds of any set and any suit. -/
import Derived.Test.YtbjehiagaikhoaaProg
import Derived.Test.YtbjehiagaikhoaaCardAwake
import Derived.Test.YtbjehiagaikhoaaCardB
namespace Go.Proofs.Ytbjehiagaikhoaa
open Go.RowKit
set_option linter.unusedVariables false
set_option maxRecDepth 100000

theorem bits_zero (m i : Nat) (hm : m < 18446744073709551616) : (bits BinOp.and IntKind.u64 ((m : Int) / 2 ^ i) 1 == 0) = !bt m i := by
  have h1 := bt_bits m i hm
  have h2 : m / 2 ^ i < 18446744073709551616 := Nat.lt_of_le_of_lt (Nat.div_le_self _ _) hm
  have h3 : ((m : Int) / 2 ^ i) = ((m / 2 ^ i : Nat) : Int) := by simp
  rw [h3, show (1 : Int) = ((1 : Nat) : Int) from rfl, u64_and_nat _ _ h2 (by decide), Nat.and_one_is_mod]
  unfold bt
  rw [Bool.eq_iff_iff]
  simp only [beq_iff_eq, Bool.not_eq_true', beq_eq_false_iff_ne]
  omega

theorem andNot_bit (m e : Nat) (hm : m < 4503599627370496) (he : e < 52) : bits BinOp.andNot IntKind.u64 (m : Int) (IntKind.u64.wrap (2 ^ e)) = ((m &&& (18446744073709551615 - 2 ^ e) : Nat) : Int) ∧ m &&& (18446744073709551615 - 2 ^ e) < 4503599627370496 := by
  have h1 : (2 : Nat) ^ e < 2 ^ 52 := Nat.pow_lt_pow_right (by decide) he
  refine ⟨?_, Nat.lt_of_le_of_lt Nat.and_le_left hm⟩
  have h3 : ((2 : Int) ^ e) = ((2 ^ e : Nat) : Int) := by simp
  rw [h3]
  obtain ⟨z, hz⟩ : ∃ z : Nat, 2 ^ e = z := ⟨_, rfl⟩
  rw [hz] at h1 ⊢
  have h4 : z < 4503599627370496 := h1
  rw [IntKind.wrap_u64, Int.emod_eq_of_lt (by omega) (by omega)]
  exact u64_andNot_nat _ _ (by omega) (by omega)

theorem bt_num (m i : Nat) (hm : m < 18446744073709551616) : bits BinOp.and IntKind.u64 ((m : Int) / 2 ^ i) 1 = if bt m i = true then 1 else 0 := by
  have h2 : m / 2 ^ i < 18446744073709551616 := Nat.lt_of_le_of_lt (Nat.div_le_self _ _) hm
  have h3 : ((m : Int) / 2 ^ i) = ((m / 2 ^ i : Nat) : Int) := by simp
  rw [h3, show (1 : Int) = ((1 : Nat) : Int) from rfl, u64_and_nat _ _ h2 (by decide), Nat.and_one_is_mod]
  unfold bt
  split
  · rename_i h; simp only [beq_iff_eq] at h; omega
  · rename_i h; simp only [beq_iff_eq] at h; omega

/-- what is left of a set m when the cards of suit s from L on are taken -/
def LessAt (m s R L : Nat) : Prop := ∀ c, c < 52 → bt R c = (bt m c && !(decide (c / 13 = s) && decide (L ≤ c)))

theorem LessAt.start (m s : Nat) : LessAt m s m 52 := by
  intro c hc
  have h : decide (52 ≤ c) = false := by simp; omega
  rw [h]
  simp

theorem LessAt.step {m s R L c : Nat} (h : LessAt m s R L) (hR : R < 4503599627370496) (hs : s < 4) (hc : (downs (ofN R s) 52).head? = some c) :
    c < L ∧ c < 52 ∧ c / 13 = s ∧ bt R c = true ∧ LessAt m s (R &&& (18446744073709551615 - 2 ^ c)) c := by
  obtain ⟨h1, h2, h3⟩ := head_downs _ _ hc
  rw [bt_of R s c hR hs] at h2
  simp only [Bool.and_eq_true, decide_eq_true_eq] at h2
  have h4 := h c h1
  rw [h2.1] at h4
  have h5 : c < L := by
    rcases Nat.lt_or_ge c L with h6 | h6
    · exact h6
    · simp [h2.2, h6] at h4
  refine ⟨h5, h1, h2.2, h2.1, ?_⟩
  intro d hd
  rw [bt_andNot R c d hR h1, h d hd]
  by_cases hds : d / 13 = s
  · have h7 : bt R d = true → d ≤ c := fun hb => h3 d hd (by rw [bt_of R s d hR hs, hb]; simp [hds])
    have h8 := h d hd
    rw [Bool.eq_iff_iff]
    simp only [hds, Bool.and_eq_true, Bool.not_eq_true', Bool.and_eq_false_iff, decide_eq_true_eq, decide_eq_false_iff_not, decide_true, Bool.true_eq_false, false_or]
    constructor
    · rintro ⟨⟨x1, x2⟩, x3⟩
      have h9 : bt R d = true := by rw [h8, x1]; simp [hds, x2]
      have := h7 h9
      exact ⟨x1, by omega⟩
    · rintro ⟨x1, x2⟩
      exact ⟨⟨x1, by omega⟩, by omega⟩
  · have h9 : d ≠ c := by rintro rfl; exact hds h2.2
    simp [hds, h9]

theorem LessAt.stop {m s R L : Nat} (h : LessAt m s R L) (hR : R < 4503599627370496) (hs : s < 4) (hc : (downs (ofN R s) 52).head? = none) :
    ∀ c, c < 52 → (c / 13 = s → bt R c = false) ∧ (c / 13 ≠ s → bt R c = bt m c) := by
  intro c hc52
  refine ⟨fun he => ?_, fun he => ?_⟩
  · have := head_none _ hc c hc52
    rw [bt_of R s c hR hs] at this
    simpa [he] using this
  · rw [h c hc52]
    simp [he]

theorem CardLess_nat (m s : Nat) (w : World) (hm : m < 18446744073709551616) (hs : s < 256) : Calls Try.prog 3 #[.int .u64 (m : Int), .int .u8 (s : Int)] w fun e w' => e = .returned (.bool true) ∧ Below w.heap.size w w' := by
  obtain ⟨M, hM⟩ : ∃ M, m % 4503599627370496 = M := ⟨_, rfl⟩
  obtain ⟨S, hS⟩ : ∃ S, s % 4 = S := ⟨_, rfl⟩
  have hMi : (m : Int) % 4503599627370496 = (M : Int) := by omega
  have hMt : (m : Int).tmod 4503599627370496 = (M : Int) := by rw [Int.tmod_eq_emod_of_nonneg (by omega)]; omega
  have hSt : (s : Int).tmod 4 = (S : Int) := by rw [Int.tmod_eq_emod_of_nonneg (by omega)]; omega
  have hSi : (s : Int) % 4 = (S : Int) := by omega
  have hM52 : M < 4503599627370496 := by omega
  have hS4 : S < 4 := by omega
  clear hM hS
  go_enter Try.func3, Try.ntmps3
  go_wp2_with fail
  go_loopw [5, 6] (fun R L wr => ∃ R' L' : Nat, R = .int .u64 R' ∧ L = .int .u8 L' ∧ R' < 4503599627370496 ∧ L' ≤ 52 ∧ Hid (LessAt M S R' L') ∧ Below w.heap.size w wr) (fun _ L _ => (intOf L).toNat)
  case atStart => exact ⟨M, 52, rfl, rfl, hM52, by omega, LessAt.start M S, Below.refl _ _⟩
  case round =>
    obtain ⟨R, L, rfl, rfl, hR, hL, hG, hB⟩ := hrel
    cases hh : (downs (ofN R S) 52).head? with
    | none =>
      have hstop := Lib.hid (hG.out.stop hR hS4 hh)
      have HH := Lib.hid hh
      clear hh
      go_wp2_with (go_at_call 11; refine (Top_any R S _ (by omega) (by omega)).mono ?_; rintro e w1 ⟨rfl, hb1⟩; rw [HH.out]; (first | rw [vPick_none] | rw [vPick_some]); replace hB := hB.trans (hb1.mono hB.size); clear hb1)
      go_loopw [9] (fun c wr => ∃ c' : Nat, c = .int .u8 c' ∧ c' ≤ 52 ∧ Below w.heap.size w wr) (fun c _ => 52 - (intOf c).toNat)
      case atStart => exact ⟨0, rfl, by omega, hB⟩
      case round =>
        obtain ⟨c, rfl, hc, hB⟩ := hrel
        by_cases hc52 : c < 52
        · obtain ⟨hs1, hs2⟩ := hstop.out c hc52
          have hsu : suitN c = c / 13 := by unfold suitN; rw [if_pos hc52]
          by_cases hcs : c / 13 = S
          · have hb := bt_num R c (by omega)
            rw [hs1 hcs] at hb
            rw [hcs] at hsu
            clear hs1 hs2
            go_wp2_with (go_at_call 12; refine (Suit_any c _ (by omega)).mono ?_; rintro e w1 ⟨rfl, rfl⟩; rw [hsu])
            go_roundw
            case rel => exact ⟨c + 1, by go_num, by omega, hB⟩
            case measure => simp [intOf]; omega
          · have hb := bt_num R c (by omega)
            have hbm := bt_num M c (by omega)
            rw [hs2 hcs] at hb
            obtain ⟨z, hz⟩ : ∃ z : Int, (if bt M c = true then (1 : Int) else 0) = z := ⟨_, rfl⟩
            rw [hz] at hb hbm
            have hsn : (((c / 13 : Nat) : Int) == (S : Int)) = false := by rw [beq_eq_false_iff_ne]; omega
            clear hs1 hs2 hz
            go_wp2_with (go_at_call 12; refine (Suit_any c _ (by omega)).mono ?_; rintro e w1 ⟨rfl, rfl⟩; rw [hsu])
            go_roundw
            case rel => exact ⟨c + 1, by go_num, by omega, hB⟩
            case measure => simp [intOf]; omega
        · go_wp2_with (go_at_call 13; refine (awake_true _).mono ?_; rintro e w9 ⟨rfl, hb9⟩)
          go_ret
          exact ⟨rfl, hB.trans (hb9.mono hB.size)⟩
    | some c =>
      obtain ⟨g1, g2, g3, g4, g5⟩ := hG.out.step hR hS4 hh
      have HG := Lib.hid g5
      have HH := Lib.hid hh
      have hsu : suitN c = S := by unfold suitN; rw [if_pos g2, g3]
      have hz := bits_zero R c (by omega)
      rw [g4] at hz
      obtain ⟨o1, o2⟩ := andNot_bit R c hR g2
      clear hh g5 g4 g3
      go_wp2_with (first
        | (go_at_call 11; refine (Top_any R S _ (by omega) (by omega)).mono ?_; rintro e w1 ⟨rfl, hb1⟩; rw [HH.out]; (first | rw [vPick_none] | rw [vPick_some]); replace hB := hB.trans (hb1.mono hB.size); clear hb1)
        | (go_at_call 12; refine (Suit_any c _ (by omega)).mono ?_; rintro e w1 ⟨rfl, rfl⟩; rw [hsu]))
      go_roundw
      case rel => exact ⟨R &&& (18446744073709551615 - 2 ^ c), c, rfl, rfl, o2, by omega, HG, hB⟩
      case measure => simp [intOf]; omega

theorem CardLess_walk (m s : Int) (w : World) (hm : 0 ≤ m ∧ m ≤ 18446744073709551615) (hs : 0 ≤ s ∧ s ≤ 255) : Calls Try.prog 3 #[.int .u64 m, .int .u8 s] w fun e w' => e = .returned (.bool true) ∧ Below w.heap.size w w' := by
  obtain ⟨m', rfl⟩ : ∃ m' : Nat, m = m' := ⟨m.toNat, by omega⟩
  obtain ⟨s', rfl⟩ : ∃ s' : Nat, s = s' := ⟨s.toNat, by omega⟩
  exact CardLess_nat m' s' w (by omega) (by omega)

end Go.Proofs.Ytbjehiagaikhoaa
