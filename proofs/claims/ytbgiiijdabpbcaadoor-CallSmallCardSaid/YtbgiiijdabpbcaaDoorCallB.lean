/- call: Cheapest, Jump, Text for any number -/
import Derived.Test.YtbgiiijdabpbcaaDoorProg
import Derived.Test.YtbgiiijdabpbcaaDoorCallA
namespace Go.Proofs.YtbgiiijdabpbcaaDoor
open Go.RowKit
set_option linter.unusedVariables false
set_option linter.unusedSimpArgs false
set_option maxRecDepth 100000
set_option maxHeartbeats 1000000

def vCheap (p : Nat × Nat) : Value := .tuple #[.int .u8 (p.1 : Nat), .int .i64 (p.2 : Nat)]
def vJump (p : Nat × Nat) : Value := .tuple #[.int .i64 (p.1 : Nat), .int .i64 (p.2 : Nat)]

theorem Cheapest_any (o d : Nat) (w : World) (ho : o < 256) (hd : d < 256) :
    Calls Tryd.prog 15 #[.int .u8 (o : Int), .int .u8 (d : Int)] w fun e w' => e = .returned (vCheap (cheapN o d)) ∧ w = w' := by
  by_cases h1 : o < 38
  · have g1 : decide (o < 38) = true := by simpa using h1
    by_cases h2 : 4 < d
    · have hv : cheapN o d = (0, 2) := by unfold cheapN; rw [if_neg (by omega), if_pos h2]
      rw [hv]
      have g2 : (4 : Int) < (d : Int) := by omega
      go_enter Tryd.func15, Tryd.ntmps15
      go_wp2_with (go_at_call 19; refine (Right_any o _ ho).mono ?_; rintro e w' ⟨rfl, rfl⟩; rw [g1])
      exact bodyPost_ret (results_tmp2 rfl _ _ _) rfl ⟨rfl, rfl⟩
    · obtain ⟨C, hC⟩ : ∃ C, cheapC o d = C := ⟨_, rfl⟩
      have hv : cheapN o d = if C < 38 then (C, 0) else (0, 6) := by unfold cheapN; rw [if_neg (by omega), if_neg h2, hC]
      obtain ⟨R, hR⟩ : ∃ R, cheapN o d = R := ⟨_, rfl⟩
      rw [hR] at hv ⊢
      have hc1 : ∀ k : Nat, 3 + d + 5 * k ≤ C → o < 3 + d + 5 * k → 3 + d + 5 * k = C := by
        intro k a b
        rw [← hC] at a ⊢
        unfold cheapC at a ⊢
        split at a <;> split <;> omega
      have hc2 : ∀ k : Nat, 3 + d + 5 * k ≤ C → ¬ o < 3 + d + 5 * k → 3 + d + 5 * (k + 1) ≤ C := by
        intro k a b
        rw [← hC] at a ⊢
        unfold cheapC at a ⊢
        split at a <;> split <;> omega
      have hc0 : 3 + d ≤ C := by rw [← hC]; unfold cheapC; split <;> omega
      have HH := Lib.hid (And.intro hv (And.intro hc1 hc2))
      clear hv hc1 hc2 hR hC
      have g2 : ¬ ((4 : Int) < (d : Int)) := by omega
      go_enter Tryd.func15, Tryd.ntmps15
      go_wp2_with (go_at_call 19; refine (Right_any o _ ho).mono ?_; rintro e w' ⟨rfl, rfl⟩; rw [g1])
      go_loop [6] (fun c => ∃ z k : Nat, c = .int .u8 z ∧ z = 3 + d + 5 * k ∧ z ≤ C ∧ z ≤ 42) (fun c => 43 - (intOf c).toNat)
      case atStart => exact ⟨3 + d, 0, by go_num, by omega, hc0, by omega⟩
      case round =>
        obtain ⟨z, k, rfl, hz, hzC, hz42⟩ := hrel
        obtain ⟨h0, h1', h2'⟩ := HH.out
        have q1 := h1' k (by omega)
        have q2 := h2' k (by omega)
        clear h0 h1' h2'
        by_cases hl : z < 38
        · by_cases hoz : o < z
          · have hzc : z = C := by rw [hz]; exact q1 (by omega)
            have hv : R = (z, 0) := by rw [HH.out.1, if_pos (by omega), hzc]
            subst hv
            clear q1 q2 hz hzc
            go_wp2
            exact bodyPost_ret (results_tmp2 rfl _ _ _) rfl ⟨rfl, rfl⟩
          · have hn : z + 5 = 3 + d + 5 * (k + 1) := by omega
            have hnC : z + 5 ≤ C := by have := q2 (by omega); omega
            have HN := Lib.hid hn
            clear q1 q2 hz hn
            go_wp2
            go_round
            case rel => exact ⟨z + 5, k + 1, by go_num, HN.out, hnC, by omega⟩
            case measure => simp [intOf]; omega
        · have hv : R = (0, 6) := by rw [HH.out.1, if_neg (by omega)]
          subst hv
          clear q1 q2 hz
          go_wp2
          exact bodyPost_ret (results_tmp2 rfl _ _ _) rfl ⟨rfl, rfl⟩
  · have g1 : decide (o < 38) = false := by simpa using h1
    have hv : cheapN o d = (0, 80) := by unfold cheapN; rw [if_pos (by omega)]
    rw [hv]
    go_enter Tryd.func15, Tryd.ntmps15
    go_wp2_with (go_at_call 19; refine (Right_any o _ ho).mono ?_; rintro e w' ⟨rfl, rfl⟩; rw [g1])
    exact bodyPost_ret (results_tmp2 rfl _ _ _) rfl ⟨rfl, rfl⟩

theorem lev_bd (c : Nat) (h : c < 38) : lev c ≤ 7 := by unfold lev; omega

theorem Jump_any (o b : Nat) (w : World) (ho : o < 256) (hb : b < 256) :
    Calls Tryd.prog 16 #[.int .u8 (o : Int), .int .u8 (b : Int)] w fun e w' => e = .returned (vJump (jumpN o b)) ∧ w = w' := by
  obtain ⟨R, hR⟩ : ∃ R, jumpN o b = R := ⟨_, rfl⟩
  rw [hR]
  by_cases h1 : isBid b = true
  · have hp : vParts b = .tuple #[.int .u8 (lev b : Nat), .int .u8 (dnm b : Nat), .bool true] := by unfold vParts; rw [if_pos h1]
    have hb38 : 3 ≤ b ∧ b < 38 := by unfold isBid at h1; simpa using h1
    by_cases h2 : o < 38
    · have g1 : decide (o < 38) = true := by simpa using h2
      obtain ⟨q, hq⟩ : ∃ q, lev b = q := ⟨_, rfl⟩
      obtain ⟨r, hr⟩ : ∃ r, dnm b = r := ⟨_, rfl⟩
      have hq7 : q ≤ 7 := by rw [← hq]; exact lev_bd b hb38.2
      have hr5 : r < 5 := by unfold dnm at hr; omega
      obtain ⟨C, hC⟩ : ∃ C, cheapC o r = C := ⟨_, rfl⟩
      have hC3 : 3 ≤ C ∧ C ≤ 42 := by rw [← hC]; unfold cheapC; split <;> omega
      have hv : R = if C < 38 ∧ C ≤ b then (q - lev C, 0) else (0, 6) := by rw [← hR]; unfold jumpN; rw [if_pos ⟨h1, h2⟩, hr, hC, hq]
      rw [hq, hr] at hp
      by_cases h3 : C < 38
      · have hch : vCheap (cheapN o r) = .tuple #[.int .u8 (C : Int), .int .i64 0] := by unfold cheapN; rw [if_neg (by omega), if_neg (by omega), hC, if_pos h3]; rfl
        obtain ⟨p, hp2⟩ : ∃ p, lev C = p := ⟨_, rfl⟩
        have hpC : vParts C = .tuple #[.int .u8 (p : Int), .int .u8 (dnm C : Nat), .bool true] := by unfold vParts; rw [if_pos (by unfold isBid; simp; omega), hp2]
        have HH := Lib.hid (And.intro hp (And.intro hch hpC))
        rw [hp2] at hv
        by_cases h4 : C ≤ b
        · rw [if_pos ⟨h3, h4⟩] at hv
          have hpq : p ≤ q := by rw [← hp2, ← hq]; unfold lev; omega
          have g4 : decide ((b : Int) < (C : Int)) = false := by simp; omega
          subst hv
          clear hp hch hpC hR hC hq hr hp2
          go_enter Tryd.func16, Tryd.ntmps16
          go_wp2_with (first
            | (go_at_call_of 13 b; refine (Parts_any b _ hb).mono ?_; rintro e w' ⟨rfl, rfl⟩; rw [HH.out.1])
            | (go_at_call 19; refine (Right_any o _ ho).mono ?_; rintro e w' ⟨rfl, rfl⟩; rw [g1])
            | (go_at_call 15; refine (Cheapest_any o r _ ho (by omega)).mono ?_; rintro e w' ⟨rfl, rfl⟩; rw [HH.out.2.1])
            | (go_at_call_of 13 C; refine (Parts_any C _ (by omega)).mono ?_; rintro e w' ⟨rfl, rfl⟩; rw [HH.out.2.2]))
          refine bodyPost_ret (results_tmp2 rfl _ _ _) rfl ⟨?_, rfl⟩
          show Ending.returned (.tuple #[.int .i64 ((q : Int) - (p : Int)), .int .i64 0]) = .returned (.tuple #[.int .i64 ((q - p : Nat) : Int), .int .i64 0])
          rw [show ((q - p : Nat) : Int) = (q : Int) - (p : Int) by omega]
        · rw [if_neg (by omega)] at hv
          have g4 : decide ((b : Int) < (C : Int)) = true := by simp; omega
          subst hv
          clear hp hch hpC hR hC hq hr hp2
          go_enter Tryd.func16, Tryd.ntmps16
          go_wp2_with (first
            | (go_at_call_of 13 b; refine (Parts_any b _ hb).mono ?_; rintro e w' ⟨rfl, rfl⟩; rw [HH.out.1])
            | (go_at_call 19; refine (Right_any o _ ho).mono ?_; rintro e w' ⟨rfl, rfl⟩; rw [g1])
            | (go_at_call 15; refine (Cheapest_any o r _ ho (by omega)).mono ?_; rintro e w' ⟨rfl, rfl⟩; rw [HH.out.2.1]))
          exact bodyPost_ret (results_tmp2 rfl _ _ _) rfl ⟨rfl, rfl⟩
      · have hch : vCheap (cheapN o r) = .tuple #[.int .u8 0, .int .i64 6] := by unfold cheapN; rw [if_neg (by omega), if_neg (by omega), hC, if_neg h3]; rfl
        rw [if_neg (by omega)] at hv
        have HH := Lib.hid (And.intro hp hch)
        subst hv
        clear hp hch hR hC hq hr
        go_enter Tryd.func16, Tryd.ntmps16
        go_wp2_with (first
          | (go_at_call_of 13 b; refine (Parts_any b _ hb).mono ?_; rintro e w' ⟨rfl, rfl⟩; rw [HH.out.1])
          | (go_at_call 19; refine (Right_any o _ ho).mono ?_; rintro e w' ⟨rfl, rfl⟩; rw [g1])
          | (go_at_call 15; refine (Cheapest_any o r _ ho (by omega)).mono ?_; rintro e w' ⟨rfl, rfl⟩; rw [HH.out.2]))
        exact bodyPost_ret (results_tmp2 rfl _ _ _) rfl ⟨rfl, rfl⟩
    · have g1 : decide (o < 38) = false := by simpa using h2
      have hv : R = (0, 80) := by rw [← hR]; unfold jumpN; rw [if_neg (by omega)]
      have HP := Lib.hid hp
      subst hv
      clear hp hR
      go_enter Tryd.func16, Tryd.ntmps16
      go_wp2_with (first
        | (go_at_call 13; refine (Parts_any b _ hb).mono ?_; rintro e w' ⟨rfl, rfl⟩; rw [HP.out])
        | (go_at_call 19; refine (Right_any o _ ho).mono ?_; rintro e w' ⟨rfl, rfl⟩; rw [g1]))
      exact bodyPost_ret (results_tmp2 rfl _ _ _) rfl ⟨rfl, rfl⟩
  · have hp : vParts b = .tuple #[.int .u8 0, .int .u8 0, .bool false] := by unfold vParts; rw [if_neg h1]
    have hv : R = (0, 80) := by rw [← hR]; unfold jumpN; rw [if_neg (fun h => h1 h.1)]
    have HP := Lib.hid hp
    subst hv
    clear hp hR h1
    go_enter Tryd.func16, Tryd.ntmps16
    go_wp2_with (go_at_call 13; refine (Parts_any b _ hb).mono ?_; rintro e w' ⟨rfl, rfl⟩; rw [HP.out])
    exact bodyPost_ret (results_tmp2 rfl _ _ _) rfl ⟨rfl, rfl⟩

theorem Text_all (c : Nat) (w : World) (hc : c < 256) (hden : Den w) :
    Calls Tryd.prog 17 #[.int .u8 (c : Int)] w fun e w' => e = .returned (.tuple #[vS (txtC c), .int .i64 (errC c : Nat)]) ∧ Below w.heap.size w w' := by
  unfold txtC errC
  by_cases h : c < 38
  · rw [if_pos h, if_pos h]
    exact Text_yes c w h hden
  · rw [if_neg h, if_neg h]
    exact (Text_no c w hc h).mono fun e w' ⟨he, hw⟩ => ⟨he, by subst hw; exact Below.refl _ _⟩

end Go.Proofs.YtbgiiijdabpbcaaDoor
