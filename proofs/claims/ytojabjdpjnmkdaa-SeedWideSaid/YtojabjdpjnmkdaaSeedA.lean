/- The contracts of the seeds: Of, Right, Next, Below. -/
import Derived.Test.YtojabjdpjnmkdaaProg
import Derived.Test.YtojabjdpjnmkdaaBase
namespace Go.Proofs.Ytojabjdpjnmkdaa
open Go.RowKit
set_option linter.unusedVariables false
set_option maxRecDepth 100000

theorem next_any (s : Int) (w : World) (h0 : 0 ≤ s) (h1 : s ≤ 2147483647) :
    Calls Try.prog 32 #[.int .i64 s] w fun e w' => e = .returned (.int .i64 (s * 48271 % 2147483647)) ∧ w = w' := by
  go_enter Try.func32, Try.ntmps32
  go_wp2
  go_ret
  exact ⟨rfl, rfl⟩

theorem Right_yes (s : Int) (w : World) (h0 : 1 ≤ s) (h1 : s ≤ 2147483646) :
    Calls Try.prog 15 #[.int .i64 s] w fun e w' => e = .returned (.bool true) ∧ w = w' := by
  go_enter Try.func15, Try.ntmps15
  go_wp2
  go_ret
  exact ⟨rfl, rfl⟩

theorem Right_no (s : Int) (w : World) (h : s < 1 ∨ 2147483646 < s) :
    Calls Try.prog 15 #[.int .i64 s] w fun e w' => e = .returned (.bool false) ∧ w = w' := by
  by_cases h1 : s < 1
  · go_enter Try.func15, Try.ntmps15
    go_wp2
    go_ret
    exact ⟨rfl, rfl⟩
  · have h' : 1 ≤ s := by omega
    have h2 : 2147483646 < s := by omega
    have h3 : decide (s ≤ 2147483646) = false := by simp; omega
    clear h h1
    go_enter Try.func15, Try.ntmps15
    go_wp2
    go_ret
    exact ⟨rfl, rfl⟩

theorem Of_any (n : Int) (w : World) (h0 : -9223372036854775808 ≤ n) (h1 : n ≤ 9223372036854775807) :
    Calls Try.prog 12 #[.int .i64 n] w fun e w' => e = .returned (.int .i64 (1 + n % 2147483646)) ∧ w = w' := by
  obtain ⟨a, b, c, d, d'⟩ := tmod_lit n 2147483646 (by decide)
  have H := Lib.hid c; clear c
  go_enter Try.func12, Try.ntmps12
  go_wp2
  all_goals
    go_ret
    exact ⟨ret_int (by have := H.out; omega), rfl⟩

theorem Next_yes (s : Int) (w : World) (h0 : 1 ≤ s) (h1 : s ≤ 2147483646) :
    Calls Try.prog 14 #[.int .i64 s] w fun e w' => e = .returned (.tuple #[.int .i64 (s * 48271 % 2147483647), .int .i64 (s * 48271 % 2147483647 - 1), .int .i64 0]) ∧ w = w' := by
  go_enter Try.func14, Try.ntmps14
  go_wp2_with (first
    | (go_at_call 15; refine (Right_yes _ _ (by assumption) (by assumption)).mono ?_; rintro e w' ⟨rfl, rfl⟩)
    | (go_at_call 32; refine (next_any _ _ (by omega) (by omega)).mono ?_; rintro e w' ⟨rfl, rfl⟩))
  go_ret3
  exact ⟨rfl, rfl⟩

theorem Next_no (s : Int) (w : World) (h : s < 1 ∨ 2147483646 < s) :
    Calls Try.prog 14 #[.int .i64 s] w fun e w' => e = .returned (.tuple #[.int .i64 0, .int .i64 0, .int .i64 2]) ∧ w = w' := by
  go_enter Try.func14, Try.ntmps14
  go_wp2_with (go_at_call 15; refine (Right_no _ _ h).mono ?_; rintro e w' ⟨rfl, rfl⟩)
  go_ret3
  exact ⟨rfl, rfl⟩

/-- the state after s -/
def nxt (s : Int) : Int := s * 48271 % 2147483647
theorem nxt_lt (s : Int) : nxt s < 2147483647 := by unfold nxt; omega
theorem nxt_nn (s : Int) : 0 ≤ nxt s := by unfold nxt; omega
/-- no right state leads to 0: the prime does not divide a product of two smaller numbers; shown by multiplying back -/
theorem nxt_pos (s : Int) (h0 : 1 ≤ s) (h1 : s ≤ 2147483646) : 1 ≤ nxt s := by
  unfold nxt
  have h : (s * 48271 % 2147483647) * 1899818559 % 2147483647 = s % 2147483647 := by omega
  rcases Int.lt_or_le 0 (s * 48271 % 2147483647) with h2 | h2
  · omega
  · exfalso
    have h3 : s * 48271 % 2147483647 = 0 := by omega
    rw [h3] at h
    omega

theorem next_nxt (s : Int) (w : World) (h0 : 0 ≤ s) (h1 : s ≤ 2147483647) :
    Calls Try.prog 32 #[.int .i64 s] w fun e w' => e = .returned (.int .i64 (nxt s)) ∧ w = w' := next_any s w h0 h1

/-- the closure of Below: n lies in a box -/
theorem one_any (s n : Int) (a : Addr) (w : World) (h0 : 1 ≤ s) (h1 : s ≤ 2147483646) (hn0 : 1 ≤ n) (hn1 : n ≤ 2147483646) (ha : w.cell? a = some (.int .i64 n)) :
    Calls Try.prog 34 #[.int .i64 s, .pointer (some a)] w fun e w' => e = .returned (.tuple #[.int .i64 (nxt s), .int .i64 ((nxt s - 1) % n), .bool (decide (nxt s - 1 < 2147483646 - 2147483646 % n))]) ∧ ∃ k, w' = w.drewN k := by
  have hp := nxt_pos s h0 h1
  have hp' := nxt_lt s
  have hm := Int.emod_nonneg 2147483646 (b := n) (by omega)
  have hm' := Int.emod_lt_of_pos 2147483646 (b := n) (by omega)
  go_enter Try.func34, Try.ntmps34
  go_wp2_with (go_at_call 32; refine (next_nxt _ _ (by omega) (by omega)).mono ?_; rintro e w' ⟨rfl, rfl⟩)
  go_quiet (fail)
  go_wp2
  go_ret3
  exact ⟨rfl, _, rfl⟩

/-- draw until a value is not too great, or too often -/
def drawI (n : Int) : Nat → Int → Int → Int × Int
  | 0, s, x => (s, x)
  | k + 1, s, _ => if nxt s - 1 < 2147483646 - 2147483646 % n then (nxt s, (nxt s - 1) % n) else drawI n k (nxt s) ((nxt s - 1) % n)

theorem drawI_succ (n : Int) (k : Nat) (s x : Int) : drawI n (k + 1) s x = if nxt s - 1 < 2147483646 - 2147483646 % n then (nxt s, (nxt s - 1) % n) else drawI n k (nxt s) ((nxt s - 1) % n) := rfl
/-- what Below draws -/
def belowI (s n : Int) : Int × Int := drawI n 101 s 0

theorem draw_any (s0 n : Int) (a : Addr) (w : World) (h0 : 1 ≤ s0) (h1 : s0 ≤ 2147483646) (hn0 : 1 ≤ n) (hn1 : n ≤ 2147483646) (ha : w.cell? a = some (.int .i64 n)) :
    Calls Try.prog 33 #[.int .i64 s0, .func (.func 34) #[] #[.pointer (some a)]] w fun e w' => e = .returned (.tuple #[.int .i64 (belowI s0 n).1, .int .i64 (belowI s0 n).2]) ∧ ∃ k, w' = w.drewN k := by
  go_enter Try.func33, Try.ntmps33
  go_wp2_with fail
  go_loopw [0, 6, 7, 8] (fun s x ok i wr => ∃ (s' x' : Int) (b : Bool) (j : Nat), s = .int .i64 s' ∧ x = .int .i64 x' ∧ ok = .bool b ∧ i = .int .i64 j ∧ j ≤ 101 ∧ 1 ≤ s' ∧ s' ≤ 2147483646 ∧ (∃ k, wr = w.drewN k) ∧ Hid ((bif b then (s', x') else drawI n (101 - j) s' x') = belowI s0 n)) (fun _ _ _ i _ => 101 - (intOf i).toNat)
  case atStart => exact ⟨s0, 0, false, 0, rfl, rfl, rfl, rfl, by omega, h0, h1, ⟨0, rfl⟩, rfl⟩
  case round =>
    obtain ⟨s', x', b, j, rfl, rfl, rfl, rfl, hj, hs0, hs1, ⟨k, rfl⟩, hd⟩ := hrel
    cases b with
    | true =>
      go_wp2_with fail
      all_goals
        go_ret2
        exact ⟨by have e : (s', x') = belowI s0 n := hd; rw [← e]; rfl, k, rfl⟩
    | false =>
      by_cases hj' : j = 101
      · subst hj'
        go_wp2_with fail
        go_ret2
        exact ⟨by have e : (s', x') = belowI s0 n := hd; rw [← e]; rfl, k, rfl⟩
      · have hlt : j ≤ 100 := by omega
        clear hj'
        go_wp2_with (go_at_call 34; refine (one_any _ _ _ _ hs0 hs1 hn0 hn1 (by simpa using ha)).mono ?_; rintro e w' ⟨rfl, ⟨k', rfl⟩⟩)
        go_roundw
        case rel => exact ⟨nxt s', (nxt s' - 1) % n, _, j + 1, rfl, rfl, rfl, by go_num, by omega, nxt_pos _ hs0 hs1, by have := nxt_lt s'; omega, ⟨_, rfl⟩, by
          have hd' := hd.out
          obtain ⟨r, hr⟩ : ∃ r, 101 - j = r + 1 := ⟨100 - j, by omega⟩
          rw [show 101 - (j + 1) = r from by omega]
          rw [hr] at hd'
          rw [cond_false, drawI_succ] at hd'
          rw [← hd']
          by_cases hc : nxt s' - 1 < 2147483646 - 2147483646 % n
          · simp [hc, Hid]
          · simp [hc, Hid]⟩
        case measure => simp [intOf]; omega

theorem drawI_state (n : Int) (hn : 1 ≤ n) : ∀ (k : Nat) (s x : Int), 1 ≤ s → s ≤ 2147483646 → 0 ≤ x → x < n → 1 ≤ (drawI n k s x).1 ∧ (drawI n k s x).1 ≤ 2147483646 ∧ 0 ≤ (drawI n k s x).2 ∧ (drawI n k s x).2 < n := by
  intro k
  induction k with
  | zero => intro s x a b c d; exact ⟨a, b, c, d⟩
  | succ k ih =>
    intro s x a b c d
    have h1 := nxt_pos s a b
    have h2 := nxt_lt s
    have h3 := Int.emod_nonneg (nxt s - 1) (b := n) (by omega)
    have h4 := Int.emod_lt_of_pos (nxt s - 1) (b := n) (by omega)
    unfold drawI
    split
    · exact ⟨h1, by dsimp only; omega, h3, h4⟩
    · exact ih _ _ h1 (by omega) h3 h4


theorem Below_yes (s n : Int) (w : World) (h0 : 1 ≤ s) (h1 : s ≤ 2147483646) (hn0 : 1 ≤ n) (hn1 : n ≤ 2147483646) :
    Calls Try.prog 17 #[.int .i64 s, .int .i64 n] w fun e w' => e = .returned (.tuple #[.int .i64 (belowI s n).1, .int .i64 (belowI s n).2, .int .i64 0]) ∧ Below w.heap.size w w' := by
  go_enter Try.func17, Try.ntmps17
  go_wp2_with (first
    | (go_at_call 15; refine (Right_yes _ _ h0 h1).mono ?_; rintro e w' ⟨rfl, rfl⟩)
    | (go_at_call 33; refine (draw_any s n _ _ h0 h1 hn0 hn1 (by simp)).mono ?_; rintro e w' ⟨rfl, ⟨k, rfl⟩⟩))
  go_ret3
  exact ⟨rfl, Below.drewN ((Below.refl _ _).alloc (Nat.le_refl _) _) _⟩

theorem Below_no (s n : Int) (w : World) (h : ¬ (1 ≤ s ∧ s ≤ 2147483646) ∨ n < 1 ∨ 2147483646 < n) :
    Calls Try.prog 17 #[.int .i64 s, .int .i64 n] w fun e w' => e = .returned (.tuple #[.int .i64 0, .int .i64 0, .int .i64 2]) ∧ Below w.heap.size w w' := by
  by_cases hs : 1 ≤ s ∧ s ≤ 2147483646
  · obtain ⟨h0, h1⟩ := hs
    by_cases hn : n < 1
    · clear h
      go_enter Try.func17, Try.ntmps17
      go_wp2_with (go_at_call 15; refine (Right_yes _ _ h0 h1).mono ?_; rintro e w' ⟨rfl, rfl⟩)
      go_ret3
      exact ⟨rfl, (Below.refl _ _).alloc (Nat.le_refl _) _⟩
    · have hn' : 1 ≤ n := by omega
      have hn'' : 2147483646 < n := by omega
      clear h hn
      go_enter Try.func17, Try.ntmps17
      go_wp2_with (go_at_call 15; refine (Right_yes _ _ h0 h1).mono ?_; rintro e w' ⟨rfl, rfl⟩)
      go_ret3
      exact ⟨rfl, (Below.refl _ _).alloc (Nat.le_refl _) _⟩
  · clear h
    go_enter Try.func17, Try.ntmps17
    go_wp2_with (go_at_call 15; refine (Right_no _ _ (by omega)).mono ?_; rintro e w' ⟨rfl, rfl⟩)
    go_ret3
    exact ⟨rfl, (Below.refl _ _).alloc (Nat.le_refl _) _⟩
end Go.Proofs.Ytojabjdpjnmkdaa
