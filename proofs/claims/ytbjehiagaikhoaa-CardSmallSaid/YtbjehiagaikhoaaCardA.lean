/- card: whole, of, Right, Of, Suit, Rank -/
import Derived.Test.YtbjehiagaikhoaaProg
import Derived.Test.YtbjehiagaikhoaaCardI
namespace Go.Proofs.Ytbjehiagaikhoaa
open Go.RowKit
set_option linter.unusedVariables false
set_option maxRecDepth 100000

theorem ret_b {a b : Bool} (h : a = b) : Ending.returned (.bool a) = .returned (.bool b) := by rw [h]

theorem whole_any (m : Nat) (w : World) (hm : m < 18446744073709551616) :
    Calls Try.prog 37 #[.int .u64 (m : Int)] w fun e w' => e = .returned (.bool (decide (m < 4503599627370496))) ∧ w = w' := by
  go_enter Try.func37, Try.ntmps37
  go_wp2
  go_ret
  refine ⟨ret_b ?_, rfl⟩
  rw [Bool.eq_iff_iff]
  simp only [beq_iff_eq, decide_eq_true_eq]
  omega

theorem Right_any (c : Nat) (w : World) (hc : c < 256) :
    Calls Try.prog 20 #[.int .u8 (c : Int)] w fun e w' => e = .returned (.bool (decide (c < 52))) ∧ w = w' := by
  go_enter Try.func20, Try.ntmps20
  go_wp2
  go_ret
  refine ⟨ret_b ?_, rfl⟩
  rw [Bool.eq_iff_iff]
  simp only [decide_eq_true_eq]
  omega

def vOf (s r : Nat) : Value := .tuple (if s < 4 ∧ r < 13 then #[.int .u8 (13 * s + r : Nat), .int .i64 0] else #[.int .u8 0, .int .i64 2])

theorem Of_any (s r : Nat) (w : World) (hs : s < 256) (hr : r < 256) :
    Calls Try.prog 15 #[.int .u8 (s : Int), .int .u8 (r : Int)] w fun e w' => e = .returned (vOf s r) ∧ w = w' := by
  unfold vOf
  by_cases h1 : s < 4
  · by_cases h2 : r < 13
    · rw [if_pos ⟨h1, h2⟩]
      go_enter Try.func15, Try.ntmps15
      go_wp2
      exact bodyPost_ret (results_tmp2 rfl _ _ _) rfl ⟨rfl, rfl⟩
    · rw [if_neg (by omega)]
      go_enter Try.func15, Try.ntmps15
      go_wp2
      exact bodyPost_ret (results_tmp2 rfl _ _ _) rfl ⟨rfl, rfl⟩
  · rw [if_neg (by omega)]
    go_enter Try.func15, Try.ntmps15
    go_wp2
    exact bodyPost_ret (results_tmp2 rfl _ _ _) rfl ⟨rfl, rfl⟩

/-- the suit of a number -/
def suitN (c : Nat) : Nat := if c < 52 then c / 13 else 0
def rankN (c : Nat) : Nat := if c < 52 then c % 13 else 0

theorem Suit_any (c : Nat) (w : World) (hc : c < 256) :
    Calls Try.prog 12 #[.int .u8 (c : Int)] w fun e w' => e = .returned (.int .u8 (suitN c)) ∧ w = w' := by
  unfold suitN
  by_cases h : c < 52
  · have hd : decide (c < 52) = true := by simpa using h
    rw [if_pos h]
    go_enter Try.func12, Try.ntmps12
    go_wp2_with (go_at_call 20; refine (Right_any c _ hc).mono ?_; rintro e w' ⟨rfl, rfl⟩; rw [hd])
    go_ret
    exact ⟨rfl, rfl⟩
  · have hd : decide (c < 52) = false := by simpa using h
    rw [if_neg h]
    go_enter Try.func12, Try.ntmps12
    go_wp2_with (go_at_call 20; refine (Right_any c _ hc).mono ?_; rintro e w' ⟨rfl, rfl⟩; rw [hd])
    go_ret
    exact ⟨rfl, rfl⟩

theorem Rank_any (c : Nat) (w : World) (hc : c < 256) :
    Calls Try.prog 16 #[.int .u8 (c : Int)] w fun e w' => e = .returned (.int .u8 (rankN c)) ∧ w = w' := by
  unfold rankN
  by_cases h : c < 52
  · have hd : decide (c < 52) = true := by simpa using h
    rw [if_pos h]
    go_enter Try.func16, Try.ntmps16
    go_wp2_with (go_at_call 20; refine (Right_any c _ hc).mono ?_; rintro e w' ⟨rfl, rfl⟩; rw [hd])
    go_ret
    exact ⟨rfl, rfl⟩
  · have hd : decide (c < 52) = false := by simpa using h
    rw [if_neg h]
    go_enter Try.func16, Try.ntmps16
    go_wp2_with (go_at_call 20; refine (Right_any c _ hc).mono ?_; rintro e w' ⟨rfl, rfl⟩; rw [hd])
    go_ret
    exact ⟨rfl, rfl⟩

/-- the cards of a suit of a set -/
def ofN (m s : Nat) : Nat := if m < 4503599627370496 ∧ s < 4 then m &&& (8191 * 2 ^ (13 * s)) else 0

theorem of_any (m s : Nat) (w : World) (hm : m < 18446744073709551616) (hs : s < 256) :
    Calls Try.prog 30 #[.int .u64 (m : Int), .int .u8 (s : Int)] w fun e w' => e = .returned (.int .u64 (ofN m s)) ∧ w = w' := by
  unfold ofN
  by_cases h1 : m < 4503599627370496
  · have hd : decide (m < 4503599627370496) = true := by simpa using h1
    by_cases h2 : s < 4
    · rw [if_pos ⟨h1, h2⟩]
      have hb : bits BinOp.and IntKind.u64 (m : Int) (IntKind.u64.wrap (8191 * 2 ^ (13 * s))) = ((m &&& (8191 * 2 ^ (13 * s)) : Nat) : Int) := by
        have h4 : s = 0 ∨ s = 1 ∨ s = 2 ∨ s = 3 := by omega
        rcases h4 with rfl | rfl | rfl | rfl
        · exact u64_and_nat _ _ hm (by decide)
        · exact u64_and_nat _ _ hm (by decide)
        · exact u64_and_nat _ _ hm (by decide)
        · exact u64_and_nat _ _ hm (by decide)
      rw [← hb]
      clear hb
      go_enter Try.func30, Try.ntmps30
      go_wp2_with (go_at_call 37; refine (whole_any m _ hm).mono ?_; rintro e w' ⟨rfl, rfl⟩; rw [hd])
      go_ret
      exact ⟨rfl, rfl⟩
    · rw [if_neg (by omega)]
      go_enter Try.func30, Try.ntmps30
      go_wp2_with (go_at_call 37; refine (whole_any m _ hm).mono ?_; rintro e w' ⟨rfl, rfl⟩; rw [hd])
      go_ret
      exact ⟨rfl, rfl⟩
  · have hd : decide (m < 4503599627370496) = false := by simpa using h1
    rw [if_neg (by omega)]
    go_enter Try.func30, Try.ntmps30
    go_wp2_with (go_at_call 37; refine (whole_any m _ hm).mono ?_; rintro e w' ⟨rfl, rfl⟩; rw [hd])
    go_ret
    exact ⟨rfl, rfl⟩

end Go.Proofs.Ytbjehiagaikhoaa
