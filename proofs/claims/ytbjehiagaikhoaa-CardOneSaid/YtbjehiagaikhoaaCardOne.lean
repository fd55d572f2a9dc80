/- Each card has one suit, one rank and one text, which lead back to it; the text of a set of one card has its character in the place of its suit. It holds of any number. -/
import Derived.Test.YtbjehiagaikhoaaProg
import Derived.Test.YtbjehiagaikhoaaCardAwake
import Derived.StillTailTactics
namespace Go.Proofs.Ytbjehiagaikhoaa
open Go.RowKit
set_option linter.unusedVariables false
set_option linter.unusedSimpArgs false
set_option maxHeartbeats 1000000
set_option maxRecDepth 100000

theorem one_read : ∀ c, c < 52 → readN (txt c) = some c := by decide +kernel
theorem one_write : ∀ c, c < 52 → wtext (2 ^ c) = List.replicate (3 - c / 13) 46 ++ [rankB (c % 13)] ++ List.replicate (c / 13) 46 := by decide +kernel

theorem pow_wrap (e : Nat) (he : e < 52) : IntKind.u64.wrap (2 ^ e) = ((2 ^ e : Nat) : Int) ∧ 2 ^ e < 4503599627370496 := by
  have h1 : (2 : Nat) ^ e < 2 ^ 52 := Nat.pow_lt_pow_right (by decide) he
  refine ⟨?_, h1⟩
  have h3 : ((2 : Int) ^ e) = ((2 ^ e : Nat) : Int) := by simp
  rw [h3]
  obtain ⟨z, hz⟩ : ∃ z : Nat, 2 ^ e = z := ⟨_, rfl⟩
  rw [hz] at h1 ⊢
  have h4 : z < 4503599627370496 := h1
  rw [IntKind.wrap_u64, Int.emod_eq_of_lt (by omega) (by omega)]

theorem CardOne_nat (n : Nat) (w : World) (hn : n < 256) : Calls Try.prog 5 #[.int .u8 (n : Int)] w fun e w' => e = .returned (.bool true) ∧ Below w.heap.size w w' := by
  obtain ⟨c, hc⟩ : ∃ c, n % 52 = c := ⟨_, rfl⟩
  have hci : (n : Int) % 52 = (c : Int) := by omega
  have hct : (n : Int).tmod 52 = (c : Int) := by rw [Int.tmod_eq_emod_of_nonneg (by omega)]; omega
  have hc52 : c < 52 := by omega
  clear hc
  obtain ⟨q, hq⟩ : ∃ q, c / 13 = q := ⟨_, rfl⟩
  obtain ⟨r, hr⟩ : ∃ r, c % 13 = r := ⟨_, rfl⟩
  have hq4 : q < 4 := by omega
  have hr13 : r < 13 := by omega
  have hsu : suitN c = q := by unfold suitN; rw [if_pos hc52, hq]
  have hra : rankN c = r := by unfold rankN; rw [if_pos hc52, hr]
  have hcc : 13 * q + r = c := by omega
  have hof : vOf q r = .tuple #[.int .u8 c, .int .i64 0] := by unfold vOf; rw [if_pos ⟨hq4, hr13⟩, hcc]
  have hrd := one_read c hc52
  have hwr := one_write c hc52
  obtain ⟨hp, hp52⟩ := pow_wrap c hc52
  obtain ⟨P, hP⟩ : ∃ P, 2 ^ c = P := ⟨_, rfl⟩
  have htx : txt c = [suitB q, rankB r] := by unfold txt; rw [hq, hr]
  rw [hP] at hwr hp hp52
  rw [hq, hr] at hwr
  rw [htx] at hrd
  obtain ⟨x, hx⟩ : ∃ x, rankB r = x := ⟨_, rfl⟩
  obtain ⟨y, hy⟩ : ∃ y, suitB q = y := ⟨_, rfl⟩
  rw [hx] at hwr hrd htx
  rw [hy] at hrd htx
  have HRD := Lib.hid hrd
  have HWR := Lib.hid hwr
  have HTX := Lib.hid htx
  have HOF := Lib.hid hof
  have hd : decide (c < 52) = true := by simpa using hc52
  clear hrd hwr htx hof hx hy hP
  have hB : Below w.heap.size w w := Below.refl _ _
  have hq5 : q = 0 ∨ q = 1 ∨ q = 2 ∨ q = 3 := by omega
  go_enter Try.func5, Try.ntmps5
  go_wp2_with (first
    | (go_at_call 12; refine (Suit_any c _ (by omega)).mono ?_; rintro e w1 ⟨rfl, rfl⟩; rw [hsu])
    | (go_at_call 16; refine (Rank_any c _ (by omega)).mono ?_; rintro e w1 ⟨rfl, rfl⟩; rw [hra])
    | (go_at_call 15; refine (Of_any q r _ (by omega) (by omega)).mono ?_; rintro e w1 ⟨rfl, rfl⟩; rw [HOF.out])
    | (go_at_call 17; refine (Text_yes c _ hc52).mono ?_; rintro e w2 ⟨rfl, hb1⟩; rw [HTX.out]; replace hB := hB.trans (hb1.mono hB.size); clear hb1)
    | (go_at_call 18; refine (Read_any ⟨[y, x].toArray⟩ _).mono ?_; rintro e w3 ⟨rfl, hb1⟩; rw [show readN (⟨[y, x].toArray⟩ : ByteArray).data.toList = _ from HRD.out]; simp only [vRead]; replace hB := hB.trans (hb1.mono hB.size); clear hb1)
    | (go_at_call 19; refine (Write_yes P _ hp52).mono ?_; rintro e w4 ⟨rfl, hb1⟩; rw [HWR.out]; replace hB := hB.trans (hb1.mono hB.size); clear hb1)
    | (go_at_call 20; refine (Right_any c _ (by omega)).mono ?_; rintro e w1 ⟨rfl, rfl⟩; rw [hd]))
  clear HWR HTX HRD HOF hp hsu hra hcc
  rcases hq5 with rfl | rfl | rfl | rfl
  · simp only [Nat.sub_zero, Nat.reduceSub, List.replicate, List.cons_append, List.nil_append, List.append_nil]
    have i1 : (⟨[46, 46, 46, x].toArray⟩ : ByteArray)[3]'(by simp [ByteArray.size]) = x := rfl
    have i2 : (⟨[y, x].toArray⟩ : ByteArray)[1]'(by simp [ByteArray.size]) = x := rfl
    have i4 : IntKind.i64.wrap 4 = 4 := by decide
    go_still_tail 18, (by kernel_rfl)
    change wpList _ _ _ _ _ w4.drew
    obtain ⟨w5, hw5⟩ : ∃ w5, w4.drew = w5 := ⟨_, rfl⟩
    have hB5 : Below w.heap.size w w5 := by rw [← hw5]; exact hB.drew
    rw [hw5]
    clear hw5
    go_wp2_with ((go_at_call 13; refine (awake_true _).mono ?_; rintro e w9 ⟨rfl, hb9⟩))
    · go_ret
      exact ⟨rfl, hB5.trans (hb9.mono hB5.size)⟩
    · rename_i hne
      exact absurd (by rw [Lib.toList_data]; rfl) hne
  · simp only [Nat.sub_zero, Nat.reduceSub, List.replicate, List.cons_append, List.nil_append, List.append_nil]
    have i1 : (⟨[46, 46, x, 46].toArray⟩ : ByteArray)[2]'(by simp [ByteArray.size]) = x := rfl
    have i2 : (⟨[y, x].toArray⟩ : ByteArray)[1]'(by simp [ByteArray.size]) = x := rfl
    have i4 : IntKind.i64.wrap 3 = 3 := by decide
    go_still_tail 18, (by kernel_rfl)
    change wpList _ _ _ _ _ w4.drew
    obtain ⟨w5, hw5⟩ : ∃ w5, w4.drew = w5 := ⟨_, rfl⟩
    have hB5 : Below w.heap.size w w5 := by rw [← hw5]; exact hB.drew
    rw [hw5]
    clear hw5
    go_wp2_with ((go_at_call 13; refine (awake_true _).mono ?_; rintro e w9 ⟨rfl, hb9⟩))
    · go_ret
      exact ⟨rfl, hB5.trans (hb9.mono hB5.size)⟩
    · rename_i hne
      exact absurd (by rw [Lib.toList_data]; rfl) hne
  · simp only [Nat.sub_zero, Nat.reduceSub, List.replicate, List.cons_append, List.nil_append, List.append_nil]
    have i1 : (⟨[46, x, 46, 46].toArray⟩ : ByteArray)[1]'(by simp [ByteArray.size]) = x := rfl
    have i2 : (⟨[y, x].toArray⟩ : ByteArray)[1]'(by simp [ByteArray.size]) = x := rfl
    have i4 : IntKind.i64.wrap 2 = 2 := by decide
    go_still_tail 18, (by kernel_rfl)
    change wpList _ _ _ _ _ w4.drew
    obtain ⟨w5, hw5⟩ : ∃ w5, w4.drew = w5 := ⟨_, rfl⟩
    have hB5 : Below w.heap.size w w5 := by rw [← hw5]; exact hB.drew
    rw [hw5]
    clear hw5
    go_wp2_with ((go_at_call 13; refine (awake_true _).mono ?_; rintro e w9 ⟨rfl, hb9⟩))
    · go_ret
      exact ⟨rfl, hB5.trans (hb9.mono hB5.size)⟩
    · rename_i hne
      exact absurd (by rw [Lib.toList_data]; rfl) hne
  · simp only [Nat.sub_zero, Nat.reduceSub, List.replicate, List.cons_append, List.nil_append, List.append_nil]
    have i1 : (⟨[x, 46, 46, 46].toArray⟩ : ByteArray)[0]'(by simp [ByteArray.size]) = x := rfl
    have i2 : (⟨[y, x].toArray⟩ : ByteArray)[1]'(by simp [ByteArray.size]) = x := rfl
    have i4 : IntKind.i64.wrap 1 = 1 := by decide
    go_still_tail 18, (by kernel_rfl)
    change wpList _ _ _ _ _ w4.drew
    obtain ⟨w5, hw5⟩ : ∃ w5, w4.drew = w5 := ⟨_, rfl⟩
    have hB5 : Below w.heap.size w w5 := by rw [← hw5]; exact hB.drew
    rw [hw5]
    clear hw5
    go_wp2_with ((go_at_call 13; refine (awake_true _).mono ?_; rintro e w9 ⟨rfl, hb9⟩))
    · go_ret
      exact ⟨rfl, hB5.trans (hb9.mono hB5.size)⟩
    · rename_i hne
      exact absurd (by rw [Lib.toList_data]; rfl) hne

theorem CardOne_walk (n : Int) (w : World) (hn : 0 ≤ n ∧ n ≤ 255) : Calls Try.prog 5 #[.int .u8 n] w fun e w' => e = .returned (.bool true) ∧ Below w.heap.size w w' := by
  obtain ⟨n', rfl⟩ : ∃ n' : Nat, n = n' := ⟨n.toNat, by omega⟩
  exact CardOne_nat n' w (by omega)

end Go.Proofs.Ytbjehiagaikhoaa
