/- finesseref08: Bid, Cheapest, Jump -/
import Derived.Test.YtbgiiijdabpbcaaDoorRefCA
import Derived.Test.YtbgiiijdabpbcaaDoorCallCheapest
namespace Go.Proofs.YtbgiiijdabpbcaaDoor
open Go.RowKit
set_option linter.unusedVariables false
set_option linter.unusedSimpArgs false
set_option maxRecDepth 100000
set_option maxHeartbeats 2000000

theorem ints_eq (a b : Nat) (h : a = b) : ((a : Int) == (b : Int)) = true := by rw [beq_iff_eq]; omega
theorem ints_ne (a b : Nat) (h : a ≠ b) : ((a : Int) == (b : Int)) = false := by rw [beq_eq_false_iff_ne]; omega

theorem refBid_any (l d : Nat) (w : World) (hl : l < 256) (hd : d < 256) :
    Calls Tryd.prog 26 #[.int .u8 (l : Int), .int .u8 (d : Int)] w fun e w' => e = .returned (vBid l d) ∧ Below w.heap.size w w' := by
  obtain ⟨V, hV⟩ : ∃ V, vBid l d = V := ⟨_, rfl⟩
  have HV := Lib.hid hV
  rw [hV]
  clear hV
  go_enter Tryd.func26, Tryd.ntmps26
  go_wp2_with fail
  go_loopw [6] (fun c wr => ∃ c' : Nat, c = .int .u8 c' ∧ 3 ≤ c' ∧ c' ≤ 38 ∧ Hid (∀ k, 3 ≤ k → k < c' → ¬ (lev k = l ∧ dnm k = d)) ∧ Below w.heap.size w wr) (fun c _ => 38 - (intOf c).toNat)
  case atStart => exact ⟨3, rfl, by omega, by omega, Lib.hid (fun k h1 h2 => absurd h1 (by omega)), Below.refl _ _⟩
  case round =>
    obtain ⟨c, rfl, hc3, hc, hG, hB⟩ := hrel
    by_cases h38 : c < 38
    · have hp := parts_yes (c := c) ⟨hc3, h38⟩
      obtain ⟨q, hq⟩ : ∃ q, lev c = q := ⟨_, rfl⟩
      obtain ⟨r, hr⟩ : ∃ r, dnm c = r := ⟨_, rfl⟩
      rw [hq, hr] at hp
      have HP := Lib.hid hp
      by_cases hm : q = l ∧ r = d
      · obtain ⟨rfl, rfl⟩ := hm
        have hv : V = .tuple #[.int .u8 c, .int .i64 0] := by rw [← HV.out, ← hq, ← hr]; exact bid_back ⟨hc3, h38⟩
        subst hv
        have e1 := ints_eq q q rfl
        have e2 := ints_eq r r rfl
        clear hp hq hr hG
        go_wp2_with (go_at_call 27; refine (refParts_any c _ (by omega)).mono ?_; rintro e w1 ⟨rfl, hb1⟩; rw [HP.out])
        refine bodyPost_ret (results_tmp2 rfl _ _ _) rfl ⟨rfl, hB.trans (hb1.mono hB.size)⟩
      · have hG2 : ∀ k, 3 ≤ k → k < c + 1 → ¬ (lev k = l ∧ dnm k = d) := by
          intro k h1 h2
          by_cases hk : k = c
          · rw [hk, hq, hr]; exact hm
          · exact hG.out k h1 (by omega)
        have HG2 := Lib.hid hG2
        clear hG2 hp hq hr hG
        by_cases h1 : q = l
        · have h2 : r ≠ d := fun e => hm ⟨h1, e⟩
          have e1 := ints_eq q l h1
          have e2 := ints_ne r d h2
          clear hm h1 h2
          go_wp2_with (go_at_call 27; refine (refParts_any c _ (by omega)).mono ?_; rintro e w1 ⟨rfl, hb1⟩; rw [HP.out])
          go_roundw
          case rel => exact ⟨c + 1, by go_num, by omega, by omega, HG2, hB.trans (hb1.mono hB.size)⟩
          case measure => simp [intOf]; omega
        · have e1 := ints_ne q l h1
          clear hm h1
          go_wp2_with (go_at_call 27; refine (refParts_any c _ (by omega)).mono ?_; rintro e w1 ⟨rfl, hb1⟩; rw [HP.out])
          go_roundw
          case rel => exact ⟨c + 1, by go_num, by omega, by omega, HG2, hB.trans (hb1.mono hB.size)⟩
          case measure => simp [intOf]; omega
    · have hv : V = .tuple #[.int .u8 0, .int .i64 2] := by
        rw [← HV.out]
        unfold vBid
        rw [if_neg]
        intro h
        exact hG.out (3 + 5 * (l - 1) + d) (by omega) (by omega) ⟨by unfold lev; omega, by unfold dnm; omega⟩
      subst hv
      have g : decide ((c : Int) < 38) = false := by simp; omega
      go_wp2_with fail
      refine bodyPost_ret (results_tmp2 rfl _ _ _) rfl ⟨rfl, hB⟩

theorem cheap_is (o d : Nat) (hd : d < 5) : 3 ≤ cheapC o d ∧ dnm (cheapC o d) = d ∧ o < cheapC o d := by unfold dnm cheapC; split <;> omega
theorem cheap_min (o d c : Nat) (hc : 3 ≤ c) (hd : dnm c = d) (ho : o < c) : cheapC o d ≤ c := by unfold dnm at hd; unfold cheapC; split <;> omega

theorem refCheapest_any (o d : Nat) (w : World) (ho : o < 256) (hd : d < 256) :
    Calls Tryd.prog 29 #[.int .u8 (o : Int), .int .u8 (d : Int)] w fun e w' => e = .returned (vCheap (cheapN o d)) ∧ Below w.heap.size w w' := by
  obtain ⟨V, hV⟩ : ∃ V, vCheap (cheapN o d) = V := ⟨_, rfl⟩
  rw [hV]
  by_cases h1 : o < 38
  · have g1 : decide (o < 38) = true := by simpa using h1
    by_cases h2 : d < 5
    · have g2 : decide ((4 : Int) < (d : Int)) = false := by simp; omega
      have HV := Lib.hid hV
      clear hV
      go_enter Tryd.func29, Tryd.ntmps29
      go_wp2_with (go_at_call 31; refine (refRight_any o _ ho).mono ?_; rintro e w9 ⟨rfl, hb9⟩; rw [g1])
      go_loopw [6] (fun c wr => ∃ c' : Nat, c = .int .u8 c' ∧ 3 ≤ c' ∧ c' ≤ 38 ∧ Hid (∀ k, 3 ≤ k → k < c' → ¬ (dnm k = d ∧ o < k)) ∧ Below w.heap.size w wr) (fun c _ => 38 - (intOf c).toNat)
      case atStart => exact ⟨3, rfl, by omega, by omega, Lib.hid (fun k h1 h2 => absurd h1 (by omega)), hb9⟩
      case round =>
        obtain ⟨c, rfl, hc3, hc, hG, hB⟩ := hrel
        by_cases h38 : c < 38
        · have hp := parts_yes (c := c) ⟨hc3, h38⟩
          obtain ⟨q, hq⟩ : ∃ q, lev c = q := ⟨_, rfl⟩
          obtain ⟨r, hr⟩ : ∃ r, dnm c = r := ⟨_, rfl⟩
          rw [hq, hr] at hp
          have HP := Lib.hid hp
          by_cases hm : r = d ∧ o < c
          · obtain ⟨rfl, hoc⟩ := hm
            have hC : cheapC o r = c := by
              have := cheap_min o r c hc3 hr hoc
              obtain ⟨i1, i2, i3⟩ := cheap_is o r h2
              by_cases hl : cheapC o r < c
              · exact absurd ⟨i2, i3⟩ (hG.out _ i1 hl)
              · omega
            have hv : V = .tuple #[.int .u8 c, .int .i64 0] := by
              rw [← HV.out]
              have := cheapN_yes h1 h2 (by rw [hC]; exact h38)
              rw [hC] at this
              exact this
            subst hv
            have e2 := ints_eq r r rfl
            have e3 : decide ((o : Int) < (c : Int)) = true := by simp; omega
            clear hp hq hr hG hC
            go_wp2_with (go_at_call 27; refine (refParts_any c _ (by omega)).mono ?_; rintro e w1 ⟨rfl, hb1⟩; rw [HP.out])
            refine bodyPost_ret (results_tmp2 rfl _ _ _) rfl ⟨rfl, hB.trans (hb1.mono hB.size)⟩
          · have hG2 : ∀ k, 3 ≤ k → k < c + 1 → ¬ (dnm k = d ∧ o < k) := by
              intro k h1 h2
              by_cases hk : k = c
              · rw [hk, hr]; exact hm
              · exact hG.out k h1 (by omega)
            have HG2 := Lib.hid hG2
            clear hG2 hp hq hr hG
            by_cases h1 : r = d
            · have h2 : ¬ o < c := fun e => hm ⟨h1, e⟩
              have e1 := ints_eq r d h1
              have e2 : decide ((o : Int) < (c : Int)) = false := by simp; omega
              clear hm h1
              go_wp2_with (go_at_call 27; refine (refParts_any c _ (by omega)).mono ?_; rintro e w1 ⟨rfl, hb1⟩; rw [HP.out])
              go_roundw
              case rel => exact ⟨c + 1, by go_num, by omega, by omega, HG2, hB.trans (hb1.mono hB.size)⟩
              case measure => simp [intOf]; omega
            · have e1 := ints_ne r d h1
              clear hm h1
              go_wp2_with (go_at_call 27; refine (refParts_any c _ (by omega)).mono ?_; rintro e w1 ⟨rfl, hb1⟩; rw [HP.out])
              go_roundw
              case rel => exact ⟨c + 1, by go_num, by omega, by omega, HG2, hB.trans (hb1.mono hB.size)⟩
              case measure => simp [intOf]; omega
        · have hv : V = .tuple #[.int .u8 0, .int .i64 6] := by
            rw [← HV.out]
            obtain ⟨i1, i2, i3⟩ := cheap_is o d h2
            exact cheapN_no h1 h2 (fun h => hG.out _ i1 (by omega) ⟨i2, i3⟩)
          subst hv
          have g : decide ((c : Int) < 38) = false := by simp; omega
          go_wp2_with fail
          refine bodyPost_ret (results_tmp2 rfl _ _ _) rfl ⟨rfl, hB⟩
    · have g2 : decide ((4 : Int) < (d : Int)) = true := by simp; omega
      have hv : V = .tuple #[.int .u8 0, .int .i64 2] := by rw [← hV]; unfold cheapN; rw [if_neg (by omega), if_pos (by omega)]; rfl
      subst hv
      clear hV
      go_enter Tryd.func29, Tryd.ntmps29
      go_wp2_with (go_at_call 31; refine (refRight_any o _ ho).mono ?_; rintro e w9 ⟨rfl, hb9⟩; rw [g1])
      refine bodyPost_ret (results_tmp2 rfl _ _ _) rfl ⟨rfl, hb9⟩
  · have g1 : decide (o < 38) = false := by simpa using h1
    have hv : V = .tuple #[.int .u8 0, .int .i64 80] := by rw [← hV]; unfold cheapN; rw [if_pos (by omega)]; rfl
    subst hv
    clear hV
    go_enter Tryd.func29, Tryd.ntmps29
    go_wp2_with (go_at_call 31; refine (refRight_any o _ ho).mono ?_; rintro e w9 ⟨rfl, hb9⟩; rw [g1])
    refine bodyPost_ret (results_tmp2 rfl _ _ _) rfl ⟨rfl, hb9⟩

def cj (o d : Nat) : Nat → Nat
  | 0 => 0
  | c + 1 => cj o d c + (if 3 ≤ c ∧ dnm c = d ∧ o < c then 1 else 0)
theorem cj_le (o d c : Nat) : cj o d c ≤ c := by
  induction c with
  | zero => simp [cj]
  | succ c ih => unfold cj; split <;> omega
theorem cj_three (o d : Nat) : cj o d 3 = 0 := by simp [cj]
theorem cj_all : ∀ o, o < 38 → ∀ b, b < 38 → 3 ≤ b → o < b → cj o (dnm b) b = lev b - lev (cheapC o (dnm b)) := by decide +kernel

theorem refJump_any (o b : Nat) (w : World) (ho : o < 256) (hb : b < 256) :
    Calls Tryd.prog 30 #[.int .u8 (o : Int), .int .u8 (b : Int)] w fun e w' => e = .returned (vJump (jumpN o b)) ∧ Below w.heap.size w w' := by
  obtain ⟨V, hV⟩ : ∃ V, vJump (jumpN o b) = V := ⟨_, rfl⟩
  rw [hV]
  by_cases h1 : 3 ≤ b ∧ b < 38
  · have hp := parts_yes h1
    have hib : isBid b = true := by unfold isBid; simp [h1]
    obtain ⟨h3, h38⟩ := h1
    by_cases h2 : o < 38
    · have g1 : decide (o < 38) = true := by simpa using h2
      obtain ⟨q, hq⟩ : ∃ q, lev b = q := ⟨_, rfl⟩
      obtain ⟨r, hr⟩ : ∃ r, dnm b = r := ⟨_, rfl⟩
      rw [hq, hr] at hp
      have HP := Lib.hid hp
      by_cases h4 : b ≤ o
      · have hv : V = .tuple #[.int .i64 0, .int .i64 6] := by
          rw [← hV]
          unfold jumpN
          rw [if_pos ⟨hib, h2⟩, if_neg]
          · rfl
          · rintro ⟨a1, a2⟩
            obtain ⟨i1, i2, i3⟩ := cheap_is o (dnm b) (by unfold dnm; omega)
            omega
        subst hv
        clear hp hV hq hr
        have g4 : decide ((b : Int) ≤ (o : Int)) = true := by simp; omega
        go_enter Tryd.func30, Tryd.ntmps30
        go_wp2_with (first
          | (go_at_call 27; refine (refParts_any b _ hb).mono ?_; rintro e w8 ⟨rfl, hb8⟩; rw [HP.out])
          | (go_at_call 31; refine (refRight_any o _ ho).mono ?_; rintro e w9 ⟨rfl, hb9⟩; rw [g1]))
        refine bodyPost_ret (results_tmp2 rfl _ _ _) rfl ⟨rfl, hb8.trans (hb9.mono hb8.size)⟩
      · have hv : V = .tuple #[.int .i64 (cj o r b : Nat), .int .i64 0] := by
          rw [← hV, ← hr]
          unfold jumpN
          have hm := cheap_min o (dnm b) b h3 rfl (by omega)
          rw [if_pos ⟨hib, h2⟩, if_pos ⟨by omega, hm⟩, cj_all o h2 b h38 h3 (by omega)]
          rfl
        subst hv
        clear hp hV hq
        obtain ⟨M, hM⟩ : ∃ M, cj o r b = M := ⟨_, rfl⟩
        rw [hM]
        have HM := Lib.hid hM
        clear hM
        have g4 : decide ((b : Int) ≤ (o : Int)) = false := by simp; omega
        have hr5 : r < 5 := by unfold dnm at hr; omega
        clear hr
        go_enter Tryd.func30, Tryd.ntmps30
        go_wp2_with (first
          | (go_at_call 27; refine (refParts_any b _ hb).mono ?_; rintro e w8 ⟨rfl, hb8⟩; rw [HP.out])
          | (go_at_call 31; refine (refRight_any o _ ho).mono ?_; rintro e w9 ⟨rfl, hb9⟩; rw [g1]))
        go_loopw [9, 10] (fun n c wr => ∃ n' c' : Nat, n = .int .i64 n' ∧ c = .int .u8 c' ∧ 3 ≤ c' ∧ c' ≤ b ∧ n' ≤ c' ∧ Hid (n' = cj o r c') ∧ Below w.heap.size w wr) (fun _ c _ => b - (intOf c).toNat)
        case atStart => exact ⟨0, 3, rfl, rfl, by omega, by omega, by omega, Lib.hid (cj_three o r).symm, hb8.trans (hb9.mono hb8.size)⟩
        case round =>
          obtain ⟨n, c, rfl, rfl, hc3, hcb, hnc, hG, hB⟩ := hrel
          by_cases hlt : c < b
          · have hpc := parts_yes (c := c) ⟨hc3, by omega⟩
            obtain ⟨x, hx⟩ : ∃ x, lev c = x := ⟨_, rfl⟩
            obtain ⟨y, hy⟩ : ∃ y, dnm c = y := ⟨_, rfl⟩
            rw [hx, hy] at hpc
            have HC := Lib.hid hpc
            have gl : decide ((c : Int) < (b : Int)) = true := by simp; omega
            by_cases h5 : y = r
            · have e1 := ints_eq y r h5
              by_cases h6 : o < c
              · have e2 : decide ((o : Int) < (c : Int)) = true := by simp; omega
                have hG2 : n + 1 = cj o r (c + 1) := by unfold cj; rw [if_pos ⟨hc3, hy.trans h5, h6⟩, ← hG.out]
                have HG2 := Lib.hid hG2
                clear hG2 hpc hx hy hG h5
                go_wp2_with (go_at_call 27; refine (refParts_any c _ (by omega)).mono ?_; rintro e w1 ⟨rfl, hb1⟩; rw [HC.out])
                go_roundw
                case rel => exact ⟨n + 1, c + 1, by go_num, by go_num, by omega, by omega, by omega, HG2, hB.trans (hb1.mono hB.size)⟩
                case measure => simp [intOf]; omega
              · have e2 : decide ((o : Int) < (c : Int)) = false := by simp; omega
                have hG2 : n = cj o r (c + 1) := by unfold cj; rw [if_neg (by rintro ⟨_, _, h⟩; exact h6 h), ← hG.out]; rfl
                have HG2 := Lib.hid hG2
                clear hG2 hpc hx hy hG h5
                go_wp2_with (go_at_call 27; refine (refParts_any c _ (by omega)).mono ?_; rintro e w1 ⟨rfl, hb1⟩; rw [HC.out])
                go_roundw
                case rel => exact ⟨n, c + 1, by go_num, by go_num, by omega, by omega, by omega, HG2, hB.trans (hb1.mono hB.size)⟩
                case measure => simp [intOf]; omega
            · have e1 := ints_ne y r h5
              have hG2 : n = cj o r (c + 1) := by unfold cj; rw [if_neg (by rintro ⟨_, h, _⟩; exact h5 (hy.symm.trans h)), ← hG.out]; rfl
              have HG2 := Lib.hid hG2
              clear hG2 hpc hx hy hG h5
              go_wp2_with (go_at_call 27; refine (refParts_any c _ (by omega)).mono ?_; rintro e w1 ⟨rfl, hb1⟩; rw [HC.out])
              go_roundw
              case rel => exact ⟨n, c + 1, by go_num, by go_num, by omega, by omega, by omega, HG2, hB.trans (hb1.mono hB.size)⟩
              case measure => simp [intOf]; omega
          · have hcb2 : c = b := by omega
            have hn : n = M := by rw [← HM.out, ← hcb2]; exact hG.out
            clear hG HM hcb2
            subst hn
            have gl : decide ((c : Int) < (b : Int)) = false := by simp; omega
            go_wp2_with fail
            refine bodyPost_ret (results_tmp2 rfl _ _ _) rfl ⟨rfl, hB⟩
    · have g1 : decide (o < 38) = false := by simpa using h2
      have hv : V = .tuple #[.int .i64 0, .int .i64 80] := by rw [← hV]; unfold jumpN; rw [if_neg (by omega)]; rfl
      have HP := Lib.hid hp
      subst hv
      clear hp hV
      go_enter Tryd.func30, Tryd.ntmps30
      go_wp2_with (first
        | (go_at_call 27; refine (refParts_any b _ hb).mono ?_; rintro e w8 ⟨rfl, hb8⟩; rw [HP.out])
        | (go_at_call 31; refine (refRight_any o _ ho).mono ?_; rintro e w9 ⟨rfl, hb9⟩; rw [g1]))
      refine bodyPost_ret (results_tmp2 rfl _ _ _) rfl ⟨rfl, hb8.trans (hb9.mono hb8.size)⟩
  · have hp := parts_no h1
    have hv : V = .tuple #[.int .i64 0, .int .i64 80] := by rw [← hV]; unfold jumpN isBid; rw [if_neg (by simp; omega)]; rfl
    have HP := Lib.hid hp
    subst hv
    clear hp hV
    go_enter Tryd.func30, Tryd.ntmps30
    go_wp2_with (go_at_call 27; refine (refParts_any b _ hb).mono ?_; rintro e w8 ⟨rfl, hb8⟩; rw [HP.out])
    refine bodyPost_ret (results_tmp2 rfl _ _ _) rfl ⟨rfl, hb8⟩

end Go.Proofs.YtbgiiijdabpbcaaDoor
