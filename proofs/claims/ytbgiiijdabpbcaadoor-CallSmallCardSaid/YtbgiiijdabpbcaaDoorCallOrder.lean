/- A bid is higher than another one exactly if its level is higher, or the level is the same and the denomination is higher; and it is a bid again, made of its parts. It holds of any two numbers. -/
import Derived.Test.YtbgiiijdabpbcaaDoorProg
import Derived.Test.YtbgiiijdabpbcaaDoorCallAwake
namespace Go.Proofs.YtbgiiijdabpbcaaDoor
open Go.RowKit
set_option linter.unusedVariables false
set_option linter.unusedSimpArgs false
set_option maxRecDepth 100000
set_option maxHeartbeats 2000000

theorem parts_yes {c : Nat} (h : 3 ≤ c ∧ c < 38) : vParts c = .tuple #[.int .u8 (lev c : Nat), .int .u8 (dnm c : Nat), .bool true] := by
  unfold vParts isBid; rw [if_pos (by simp [h])]
theorem parts_no {c : Nat} (h : ¬ (3 ≤ c ∧ c < 38)) : vParts c = .tuple #[.int .u8 0, .int .u8 0, .bool false] := by
  unfold vParts isBid; rw [if_neg (by simp; omega)]
theorem bid_back {c : Nat} (h : 3 ≤ c ∧ c < 38) : vBid (lev c) (dnm c) = .tuple #[.int .u8 c, .int .i64 0] := by
  unfold vBid lev dnm
  rw [if_pos (by omega)]
  congr 3
  congr 1
  congr 1
  omega

theorem CallOrder_nat (c d : Nat) (w : World) (hc : c < 256) (hd : d < 256) (hden : Den w) (hsh : w.ShapedOpen Tryd.prog) :
    Calls Tryd.prog 5 #[.int .u8 (c : Int), .int .u8 (d : Int)] w fun e w' => e = .returned (.bool true) ∧ Below w.heap.size w w' := by
  have HA := Lib.hid (awake_true w hden hsh)
  clear hden hsh
  by_cases h1 : 3 ≤ c ∧ c < 38
  · have p1 := parts_yes h1
    obtain ⟨h1a, h1b⟩ := h1
    have q1 : decide ((3 : Int) ≤ (c : Int)) = true := by simp; omega
    have q2 : decide ((c : Int) ≤ 37) = true := by simp; omega
    by_cases h2 : 3 ≤ d ∧ d < 38
    · have p2 := parts_yes h2
      have p3 := bid_back ⟨h1a, h1b⟩
      obtain ⟨h2a, h2b⟩ := h2
      obtain ⟨a, ha⟩ : ∃ a, lev c = a := ⟨_, rfl⟩
      obtain ⟨x, hx⟩ : ∃ x, dnm c = x := ⟨_, rfl⟩
      obtain ⟨b, hb⟩ : ∃ b, lev d = b := ⟨_, rfl⟩
      obtain ⟨y, hy⟩ : ∃ y, dnm d = y := ⟨_, rfl⟩
      rw [ha, hx] at p1 p3
      rw [hb, hy] at p2
      unfold lev at ha hb
      unfold dnm at hx hy
      have ba : 1 ≤ a ∧ a ≤ 7 ∧ x ≤ 4 := by omega
      obtain ⟨ba1, ba2, ba3⟩ := ba
      have key : (d < c ↔ b < a ∨ (a = b ∧ y < x)) := by omega
      have HP := Lib.hid (And.intro p1 (And.intro p2 p3))
      clear p1 p2 p3 ha hb hx hy
      by_cases k1 : b < a
      · have g1 : decide ((b : Int) < (a : Int)) = true := by simp; omega
        have g4 : decide ((d : Int) < (c : Int)) = true := by simp; omega
        have g5 : decide (d < c) = true := by simp; omega
        have g6 : decide ((x : Int) ≤ 4) = true := by simp; omega
        clear key
        go_enter Tryd.func5, Tryd.ntmps5
        go_wp2_with (first
          | (go_at_call 11; refine HA.out.mono ?_; rintro e w9 ⟨rfl, hb9⟩)
          | (go_at_call_of 13 c; refine (Parts_any c _ hc).mono ?_; rintro e w' ⟨rfl, rfl⟩; rw [HP.out.1])
          | (go_at_call_of 13 d; refine (Parts_any d _ hd).mono ?_; rintro e w' ⟨rfl, rfl⟩; rw [HP.out.2.1])
          | (go_at_call 14; refine (Bid_any a x _ (by omega) (by omega)).mono ?_; rintro e w' ⟨rfl, rfl⟩; rw [HP.out.2.2]))
        go_ret
        exact ⟨rfl, hb9⟩
      · have g1 : decide ((b : Int) < (a : Int)) = false := by simp; omega
        by_cases k2 : a = b
        · have g2 : ((a : Int) == (b : Int)) = true := by simp; omega
          have g2' : decide ((a : Int) = (b : Int)) = true := by simp; omega
          by_cases k3 : y < x
          · have g3 : decide ((y : Int) < (x : Int)) = true := by simp; omega
            have g4 : decide ((d : Int) < (c : Int)) = true := by simp; omega
            have g5 : decide (d < c) = true := by simp; omega
            have g6 : decide ((x : Int) ≤ 4) = true := by simp; omega
            clear key k2
            go_enter Tryd.func5, Tryd.ntmps5
            go_wp2_with (first
              | (go_at_call 11; refine HA.out.mono ?_; rintro e w9 ⟨rfl, hb9⟩)
              | (go_at_call_of 13 c; refine (Parts_any c _ hc).mono ?_; rintro e w' ⟨rfl, rfl⟩; rw [HP.out.1])
              | (go_at_call_of 13 d; refine (Parts_any d _ hd).mono ?_; rintro e w' ⟨rfl, rfl⟩; rw [HP.out.2.1])
              | (go_at_call 14; refine (Bid_any a x _ (by omega) (by omega)).mono ?_; rintro e w' ⟨rfl, rfl⟩; rw [HP.out.2.2]))
            go_ret
            exact ⟨rfl, hb9⟩
          · have g3 : decide ((y : Int) < (x : Int)) = false := by simp; omega
            have g4 : decide ((d : Int) < (c : Int)) = false := by simp; omega
            have g5 : decide (d < c) = false := by simp; omega
            have g6 : decide ((x : Int) ≤ 4) = true := by simp; omega
            clear key k2
            go_enter Tryd.func5, Tryd.ntmps5
            go_wp2_with (first
              | (go_at_call 11; refine HA.out.mono ?_; rintro e w9 ⟨rfl, hb9⟩)
              | (go_at_call_of 13 c; refine (Parts_any c _ hc).mono ?_; rintro e w' ⟨rfl, rfl⟩; rw [HP.out.1])
              | (go_at_call_of 13 d; refine (Parts_any d _ hd).mono ?_; rintro e w' ⟨rfl, rfl⟩; rw [HP.out.2.1])
              | (go_at_call 14; refine (Bid_any a x _ (by omega) (by omega)).mono ?_; rintro e w' ⟨rfl, rfl⟩; rw [HP.out.2.2]))
            go_ret
            exact ⟨rfl, hb9⟩
        · have g2 : ((a : Int) == (b : Int)) = false := by simp; omega
          have g2' : decide ((a : Int) = (b : Int)) = false := by simp; omega
          have g4 : decide ((d : Int) < (c : Int)) = false := by simp; omega
          have g5 : decide (d < c) = false := by simp; omega
          have g6 : decide ((x : Int) ≤ 4) = true := by simp; omega
          clear key k2
          go_enter Tryd.func5, Tryd.ntmps5
          go_wp2_with (first
            | (go_at_call 11; refine HA.out.mono ?_; rintro e w9 ⟨rfl, hb9⟩)
            | (go_at_call_of 13 c; refine (Parts_any c _ hc).mono ?_; rintro e w' ⟨rfl, rfl⟩; rw [HP.out.1])
            | (go_at_call_of 13 d; refine (Parts_any d _ hd).mono ?_; rintro e w' ⟨rfl, rfl⟩; rw [HP.out.2.1])
            | (go_at_call 14; refine (Bid_any a x _ (by omega) (by omega)).mono ?_; rintro e w' ⟨rfl, rfl⟩; rw [HP.out.2.2]))
          go_ret
          exact ⟨rfl, hb9⟩
    · have p2 := parts_no h2
      have HP := Lib.hid (And.intro p1 p2)
      obtain ⟨a, ha⟩ : ∃ a, lev c = a := ⟨_, rfl⟩
      obtain ⟨x, hx⟩ : ∃ x, dnm c = x := ⟨_, rfl⟩
      clear p1 p2 h2 ha hx
      go_enter Tryd.func5, Tryd.ntmps5
      go_wp2_with (first
        | (go_at_call 11; refine HA.out.mono ?_; rintro e w9 ⟨rfl, hb9⟩)
        | (go_at_call_of 13 c; refine (Parts_any c _ hc).mono ?_; rintro e w' ⟨rfl, rfl⟩; rw [HP.out.1])
        | (go_at_call_of 13 d; refine (Parts_any d _ hd).mono ?_; rintro e w' ⟨rfl, rfl⟩; rw [HP.out.2]))
      go_ret
      exact ⟨rfl, hb9⟩
  · have p1 := parts_no h1
    obtain ⟨Q, hQ⟩ : ∃ Q, vParts d = Q := ⟨_, rfl⟩
    have hq : ∃ (x y : Int) (z : Bool), vParts d = .tuple #[.int .u8 x, .int .u8 y, .bool z] := by
      by_cases h2 : 3 ≤ d ∧ d < 38
      · exact ⟨_, _, _, parts_yes h2⟩
      · exact ⟨_, _, _, parts_no h2⟩
    obtain ⟨x2, y2, z2, p2⟩ := hq
    have HP := Lib.hid (And.intro p1 p2)
    clear p1 p2 hQ
    by_cases h3 : 3 ≤ c
    · have q1 : decide ((3 : Int) ≤ (c : Int)) = true := by simp; omega
      have q2 : decide ((c : Int) ≤ 37) = false := by simp; omega
      clear h1
      go_enter Tryd.func5, Tryd.ntmps5
      go_wp2_with (first
        | (go_at_call 11; refine HA.out.mono ?_; rintro e w9 ⟨rfl, hb9⟩)
        | (go_at_call_of 13 c; refine (Parts_any c _ hc).mono ?_; rintro e w' ⟨rfl, rfl⟩; rw [HP.out.1])
        | (go_at_call_of 13 d; refine (Parts_any d _ hd).mono ?_; rintro e w' ⟨rfl, rfl⟩; rw [HP.out.2]))
      go_ret
      exact ⟨rfl, hb9⟩
    · have q1 : decide ((3 : Int) ≤ (c : Int)) = false := by simp; omega
      clear h1
      go_enter Tryd.func5, Tryd.ntmps5
      go_wp2_with (first
        | (go_at_call 11; refine HA.out.mono ?_; rintro e w9 ⟨rfl, hb9⟩)
        | (go_at_call_of 13 c; refine (Parts_any c _ hc).mono ?_; rintro e w' ⟨rfl, rfl⟩; rw [HP.out.1])
        | (go_at_call_of 13 d; refine (Parts_any d _ hd).mono ?_; rintro e w' ⟨rfl, rfl⟩; rw [HP.out.2]))
      go_ret
      exact ⟨rfl, hb9⟩

theorem CallOrder_walk (c d : Int) (w : World) (hc : 0 ≤ c ∧ c ≤ 255) (hd : 0 ≤ d ∧ d ≤ 255) (hden : Den w) (hsh : w.ShapedOpen Tryd.prog) :
    Calls Tryd.prog 5 #[.int .u8 c, .int .u8 d] w fun e w' => e = .returned (.bool true) ∧ Below w.heap.size w w' := by
  obtain ⟨c', rfl⟩ : ∃ c' : Nat, c = c' := ⟨c.toNat, by omega⟩
  obtain ⟨d', rfl⟩ : ∃ d' : Nat, d = d' := ⟨d.toNat, by omega⟩
  exact CallOrder_nat c' d' w (by omega) (by omega) hden hsh

end Go.Proofs.YtbgiiijdabpbcaaDoor
