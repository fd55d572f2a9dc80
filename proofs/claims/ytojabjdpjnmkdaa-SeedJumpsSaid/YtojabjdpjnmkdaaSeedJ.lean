import Derived.Test.YtojabjdpjnmkdaaSeedAwake
import Derived.Test.YtojabjdpjnmkdaaSeedPlain
/- SeedJumps, walked -/
namespace Go.Proofs.Ytojabjdpjnmkdaa
open Go.RowKit
set_option linter.unusedVariables false
set_option maxRecDepth 100000

theorem SeedJumps_walk (n a b : Int) (w : World) (hn : -9223372036854775808 ≤ n ∧ n ≤ 9223372036854775807) (ha : -9223372036854775808 ≤ a ∧ a ≤ 9223372036854775807) (hb : -9223372036854775808 ≤ b ∧ b ≤ 9223372036854775807) :
    Calls Try.prog 4 #[.int .i64 n, .int .i64 a, .int .i64 b] w fun e w' => e = .returned (.bool true) ∧ Below w.heap.size w w' := by
  obtain ⟨n0, n1⟩ := hn
  obtain ⟨a0, a1⟩ := ha
  obtain ⟨b0, b1⟩ := hb
  have hB : Below w.heap.size w w := Below.refl _ _
  obtain ⟨s, hs⟩ : ∃ s, 1 + n % 2147483646 = s := ⟨_, rfl⟩
  have s0 : 1 ≤ s := by omega
  have s1 : s ≤ 2147483646 := by omega
  have da := tdiv_bd a 4 (by decide)
  have db := tdiv_bd b 4 (by decide)
  have qa : -2305843009213693952 ≤ a.tdiv 4 ∧ a.tdiv 4 ≤ 2305843009213693952 := by omega
  have qb : -2305843009213693952 ≤ b.tdiv 4 ∧ b.tdiv 4 ≤ 2305843009213693952 := by omega
  obtain ⟨x, hx⟩ : ∃ x, a.tdiv 4 = x := ⟨_, rfl⟩
  obtain ⟨y, hy⟩ : ∃ y, b.tdiv 4 = y := ⟨_, rfl⟩
  rw [hx] at qa
  clear da db
  rw [hy] at qb
  obtain ⟨x0, x1⟩ := qa
  obtain ⟨y0, y1⟩ := qb
  obtain ⟨j0, j1⟩ := jumpI_bd s x s0 s1
  have HS := Lib.hid hs
  go_enter Try.func4, Try.ntmps4
  go_wp2_with (first
    | (go_at_call 11; refine (awake_true _).mono ?_; rintro e w2 ⟨rfl, hb2⟩; replace hB := hB.trans (hb2.mono hB.size); clear hb2)
    | (go_at_call 12; refine (Of_any _ _ (by omega) (by omega)).mono ?_; rintro e w' ⟨rfl, rfl⟩))
  refine (Jump_any s x _ s0 s1 (by omega) (by omega)).mono ?_; rintro e w3 ⟨rfl, hb2⟩; replace hB := hB.trans (hb2.mono hB.size); clear hb2
  go_wp2_with fail
  refine (Jump_any _ y _ j0 j1 (by omega) (by omega)).mono ?_; rintro e w4 ⟨rfl, hb2⟩; replace hB := hB.trans (hb2.mono hB.size); clear hb2
  rw [jumpI_jumpI s x y s0 s1]
  go_wp2_with fail
  refine (Jump_any s (x + y) _ s0 s1 (by omega) (by omega)).mono ?_; rintro e w5 ⟨rfl, hb2⟩; replace hB := hB.trans (hb2.mono hB.size); clear hb2
  go_wp2_with fail
  refine (Jump_any _ (-x) _ j0 j1 (by omega) (by omega)).mono ?_; rintro e w6 ⟨rfl, hb2⟩; replace hB := hB.trans (hb2.mono hB.size); clear hb2
  rw [jumpI_back s x s0 s1]
  go_wp2_with fail
  refine (Jump_any s _ _ s0 s1 (by omega) (by omega)).mono ?_; rintro e w7 ⟨rfl, hb2⟩; replace hB := hB.trans (hb2.mono hB.size); clear hb2
  rw [jumpI_all s s0 s1]
  go_wp2_with fail
  refine (Jump_any s _ _ s0 s1 (by omega) (by omega)).mono ?_; rintro e w8 ⟨rfl, hb2⟩; replace hB := hB.trans (hb2.mono hB.size); clear hb2
  rw [jumpI_one s s0 s1]
  go_wp2_with fail
  refine (Next_yes s _ s0 s1).mono ?_; rintro e w' ⟨rfl, rfl⟩
  have n0 := nxt_pos s s0 s1
  have n1 := nxt_lt s
  rw [show s * 48271 % 2147483647 = nxt s from rfl]
  go_wp2_with fail
  refine (Jump_any (nxt s) _ _ n0 (by omega) (by omega) (by omega)).mono ?_; rintro e w9 ⟨rfl, hb2⟩; replace hB := hB.trans (hb2.mono hB.size); clear hb2
  rw [jumpI_before s s0 s1]
  go_wp2_with (first
    | (go_at_call 15; refine (Right_yes _ _ (by omega) (by omega)).mono ?_; rintro e w' ⟨rfl, rfl⟩))
  go_ret
  exact ⟨rfl, hB⟩
end Go.Proofs.Ytojabjdpjnmkdaa
