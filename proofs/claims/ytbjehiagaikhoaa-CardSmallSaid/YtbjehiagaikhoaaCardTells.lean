/- For any numbers and any string, Right, Of, Suit, Rank, Text and Read return what the document specifies. It holds of all of them. -/
import Derived.Test.YtbjehiagaikhoaaProg
import Derived.Test.YtbjehiagaikhoaaCardAwake
import Derived.Test.YtbjehiagaikhoaaCardR
namespace Go.Proofs.Ytbjehiagaikhoaa
open Go.RowKit
set_option linter.unusedVariables false
set_option linter.unusedSimpArgs false
set_option maxRecDepth 100000
set_option maxHeartbeats 2000000

theorem vOf_tup (s r : Nat) : ∃ x y : Int, vOf s r = .tuple #[.int .u8 x, .int .i64 y] := by
  unfold vOf
  split
  · exact ⟨_, _, rfl⟩
  · exact ⟨_, _, rfl⟩
theorem vRead_tup (o : Option Nat) : ∃ x y : Int, vRead o = .tuple #[.int .u8 x, .int .i64 y] := by
  cases o
  · exact ⟨_, _, rfl⟩
  · exact ⟨_, _, rfl⟩

theorem one_true (c su ra : Nat) (s : ByteArray) (w : World) (hc : c < 256) (hsu : su < 256) (hra : ra < 256) :
    Calls Try.prog 14 #[.int .u8 (c : Int), .int .u8 (su : Int), .int .u8 (ra : Int), .string s] w fun e w' => e = .returned (.bool true) ∧ Below w.heap.size w w' := by
  obtain ⟨x1, y1, h1⟩ := vOf_tup su ra
  obtain ⟨x2, y2, h2⟩ := vRead_tup (readN s.data.toList)
  have H1 := Lib.hid h1
  have H2 := Lib.hid h2
  obtain ⟨p, hp⟩ : ∃ p, suitN c = p := ⟨_, rfl⟩
  obtain ⟨q, hq⟩ : ∃ q, rankN c = q := ⟨_, rfl⟩
  clear h1 h2
  have hB : Below w.heap.size w w := Below.refl _ _
  by_cases h52 : c < 52
  · have hd : decide (c < 52) = true := by simpa using h52
    have hci : (c : Int) < 52 := by omega
    have hcd : decide ((c : Int) < 52) = true := by simpa using hci
    go_enter Try.func14, Try.ntmps14
    go_wp2_with (first
      | (go_at_call 15; refine (Of_any su ra _ hsu hra).mono ?_; rintro e w1 ⟨rfl, rfl⟩; rw [H1.out])
      | (go_at_call 31; refine (ROf_any su ra _ hsu hra).mono ?_; rintro e w1 ⟨rfl, rfl⟩; rw [H1.out])
      | (go_at_call 17; refine (Text_yes c _ h52).mono ?_; rintro e w2 ⟨rfl, hb1⟩; replace hB := hB.trans (hb1.mono hB.size); clear hb1)
      | (go_at_call 32; refine (RText_yes c _ h52).mono ?_; rintro e w3 ⟨rfl, hb1⟩; replace hB := hB.trans (hb1.mono hB.size); clear hb1)
      | (go_at_call 18; refine (Read_any s _).mono ?_; rintro e w4 ⟨rfl, hb1⟩; rw [H2.out]; replace hB := hB.trans (hb1.mono hB.size); clear hb1)
      | (go_at_call 33; refine (RRead_any s _).mono ?_; rintro e w5 ⟨rfl, hb1⟩; rw [H2.out]; replace hB := hB.trans (hb1.mono hB.size); clear hb1)
      | (go_at_call 20; refine (Right_any c _ hc).mono ?_; rintro e w1 ⟨rfl, rfl⟩; rw [hd])
      | (go_at_call 12; refine (Suit_any c _ hc).mono ?_; rintro e w1 ⟨rfl, rfl⟩; rw [hp])
      | (go_at_call 34; refine (RSuit_any c _ hc).mono ?_; rintro e w1 ⟨rfl, rfl⟩; rw [hp])
      | (go_at_call 16; refine (Rank_any c _ hc).mono ?_; rintro e w1 ⟨rfl, rfl⟩; rw [hq])
      | (go_at_call 35; refine (RRank_any c _ hc).mono ?_; rintro e w1 ⟨rfl, rfl⟩; rw [hq]))
    go_ret
    exact ⟨rfl, hB⟩
  · have hd : decide (c < 52) = false := by simpa using h52
    have hci : ¬ (c : Int) < 52 := by omega
    have hcd : decide ((c : Int) < 52) = false := by simpa using hci
    go_enter Try.func14, Try.ntmps14
    go_wp2_with (first
      | (go_at_call 15; refine (Of_any su ra _ hsu hra).mono ?_; rintro e w1 ⟨rfl, rfl⟩; rw [H1.out])
      | (go_at_call 31; refine (ROf_any su ra _ hsu hra).mono ?_; rintro e w1 ⟨rfl, rfl⟩; rw [H1.out])
      | (go_at_call 17; refine (Text_no c _ hc h52).mono ?_; rintro e w2 ⟨rfl, rfl⟩)
      | (go_at_call 32; refine (RText_no c _ hc h52).mono ?_; rintro e w3 ⟨rfl, rfl⟩)
      | (go_at_call 18; refine (Read_any s _).mono ?_; rintro e w4 ⟨rfl, hb1⟩; rw [H2.out]; replace hB := hB.trans (hb1.mono hB.size); clear hb1)
      | (go_at_call 33; refine (RRead_any s _).mono ?_; rintro e w5 ⟨rfl, hb1⟩; rw [H2.out]; replace hB := hB.trans (hb1.mono hB.size); clear hb1)
      | (go_at_call 20; refine (Right_any c _ hc).mono ?_; rintro e w1 ⟨rfl, rfl⟩; rw [hd])
      | (go_at_call 12; refine (Suit_any c _ hc).mono ?_; rintro e w1 ⟨rfl, rfl⟩; rw [hp])
      | (go_at_call 34; refine (RSuit_any c _ hc).mono ?_; rintro e w1 ⟨rfl, rfl⟩; rw [hp])
      | (go_at_call 16; refine (Rank_any c _ hc).mono ?_; rintro e w1 ⟨rfl, rfl⟩; rw [hq])
      | (go_at_call 35; refine (RRank_any c _ hc).mono ?_; rintro e w1 ⟨rfl, rfl⟩; rw [hq]))
    go_ret
    exact ⟨rfl, hB⟩

theorem CardTells_nat (c su ra : Nat) (s : ByteArray) (w : World) (hc : c < 256) (hsu : su < 256) (hra : ra < 256) (hs : s.size ≤ 9223372036854775807) :
    Calls Try.prog 4 #[.int .u8 (c : Int), .int .u8 (su : Int), .int .u8 (ra : Int), .string s] w fun e w' => e = .returned (.bool true) ∧ Below w.heap.size w w' := by
  have hB : Below w.heap.size w w := Below.refl _ _
  by_cases h100 : (100 : Int) < (s.size : Int)
  · have hd : decide ((100 : Int) < (s.size : Int)) = true := by simpa using h100
    go_enter Try.func4, Try.ntmps4
    go_wp2_with (go_at_call 13; refine (awake_true _).mono ?_; rintro e w9 ⟨rfl, hb9⟩; replace hB := hB.trans (hb9.mono hB.size); clear hb9)
    go_ret
    exact ⟨rfl, hB⟩
  · have hd : decide ((100 : Int) < (s.size : Int)) = false := by simpa using h100
    go_enter Try.func4, Try.ntmps4
    go_wp2_with (first
      | (go_at_call 14; refine (one_true c su ra s _ hc hsu hra).mono ?_; rintro e w8 ⟨rfl, hb9⟩; replace hB := hB.trans (hb9.mono hB.size); clear hb9)
      | (go_at_call 13; refine (awake_true _).mono ?_; rintro e w9 ⟨rfl, hb9⟩; replace hB := hB.trans (hb9.mono hB.size); clear hb9))
    go_ret
    exact ⟨rfl, hB⟩

theorem CardTells_walk (c su ra : Int) (s : ByteArray) (w : World) (hc : 0 ≤ c ∧ c ≤ 255) (hsu : 0 ≤ su ∧ su ≤ 255) (hra : 0 ≤ ra ∧ ra ≤ 255) (hs : s.size ≤ maxLen) :
    Calls Try.prog 4 #[.int .u8 c, .int .u8 su, .int .u8 ra, .string s] w fun e w' => e = .returned (.bool true) ∧ Below w.heap.size w w' := by
  obtain ⟨c', rfl⟩ : ∃ c' : Nat, c = c' := ⟨c.toNat, by omega⟩
  obtain ⟨su', rfl⟩ : ∃ su' : Nat, su = su' := ⟨su.toNat, by omega⟩
  obtain ⟨ra', rfl⟩ : ∃ ra' : Nat, ra = ra' := ⟨ra.toNat, by omega⟩
  exact CardTells_nat c' su' ra' s w (by omega) (by omega) (by omega) (by unfold maxLen at hs; omega)

end Go.Proofs.Ytbjehiagaikhoaa
