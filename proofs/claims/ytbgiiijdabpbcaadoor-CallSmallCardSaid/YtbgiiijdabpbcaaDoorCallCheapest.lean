/- The cheapest bids over a call, of all denominations, are the next five bids, as far as there are any; each higher bid is so many levels higher as Jump returns. It holds of any call and any number. -/
import Derived.Test.YtbgiiijdabpbcaaDoorProg
import Derived.Test.YtbgiiijdabpbcaaDoorCallAwake
import Derived.Test.YtbgiiijdabpbcaaDoorCallOrder
namespace Go.Proofs.YtbgiiijdabpbcaaDoor
open Go.RowKit
set_option linter.unusedVariables false
set_option linter.unusedSimpArgs false
set_option maxRecDepth 100000
set_option maxHeartbeats 2000000

/-- how many of the first D denominations have a cheapest bid -/
def cnt (o : Nat) : Nat → Nat
  | 0 => 0
  | D + 1 => cnt o D + (if cheapC o D < 38 then 1 else 0)

theorem cnt_all : ∀ o, o < 38 → cnt o 5 = min 5 (38 - (max o 2 + 1)) := by decide +kernel
theorem cnt_le (o D : Nat) : cnt o D ≤ D := by
  induction D with
  | zero => simp [cnt]
  | succ D ih => unfold cnt; split <;> omega

theorem cheap_ok (o d : Nat) (ho : o < 38) (hd : d < 5) (h : cheapC o d < 38) : 3 ≤ cheapC o d ∧ dnm (cheapC o d) = d ∧ max o 2 + 1 ≤ cheapC o d ∧ cheapC o d < max o 2 + 1 + 5 := by
  unfold dnm
  unfold cheapC at h ⊢
  split at h <;> split <;> omega

theorem cheapN_yes {o d : Nat} (ho : o < 38) (hd : d < 5) (h : cheapC o d < 38) : vCheap (cheapN o d) = .tuple #[.int .u8 (cheapC o d : Nat), .int .i64 0] := by
  unfold cheapN; rw [if_neg (by omega), if_neg (by omega), if_pos h]; rfl
theorem cheapN_no {o d : Nat} (ho : o < 38) (hd : d < 5) (h : ¬ cheapC o d < 38) : vCheap (cheapN o d) = .tuple #[.int .u8 0, .int .i64 6] := by
  unfold cheapN; rw [if_neg (by omega), if_neg (by omega), if_neg h]; rfl

theorem CallCheapest_nat (over b : Nat) (w : World) (hov : over < 256) (hb : b < 256) (hden : Den w) (hsh : w.ShapedOpen Tryd.prog) :
    Calls Tryd.prog 6 #[.int .u8 (over : Int), .int .u8 (b : Int)] w fun e w' => e = .returned (.bool true) ∧ Below w.heap.size w w' := by
  have HA := Lib.hid (awake_true w hden hsh)
  clear hden hsh
  obtain ⟨O, hO⟩ : ∃ O, over % 38 = O := ⟨_, rfl⟩
  have hOi : (over : Int) % 38 = (O : Int) := by omega
  have hOt : (over : Int).tmod 38 = (O : Int) := by rw [Int.tmod_eq_emod_of_nonneg (by omega)]; omega
  have hO38 : O < 38 := by omega
  obtain ⟨N, hN⟩ : ∃ N, max O 2 = N := ⟨_, rfl⟩
  have hNi : max (O : Int) 2 = (N : Int) := by omega
  have hN38 : 2 ≤ N ∧ N < 38 ∧ O ≤ N := by omega
  obtain ⟨hN1, hN2, hN3⟩ := hN38
  have hcnt := cnt_all O hO38
  rw [hN] at hcnt
  have hchk := cheap_ok O
  rw [hN] at hchk
  have HC := Lib.hid (And.intro hcnt hchk)
  clear hO hN hcnt hchk
  go_enter Tryd.func6, Tryd.ntmps6
  go_wp2_with (go_at_call 11; refine HA.out.mono ?_; rintro e w9 ⟨rfl, hb9⟩)
  go_loopw [6, 7] (fun f d wr => ∃ f' d' : Nat, f = .int .i64 f' ∧ d = .int .u8 d' ∧ d' ≤ 5 ∧ f' ≤ d' ∧ Hid (f' = cnt O d') ∧ w9 = wr) (fun _ d _ => 5 - (intOf d).toNat)
  case atStart => exact ⟨0, 0, rfl, rfl, by omega, by omega, Lib.hid rfl, rfl⟩
  case round =>
    obtain ⟨f, d, rfl, rfl, hd, hfd, hG, rfl⟩ := hrel
    by_cases h5 : d < 5
    · by_cases hC : cheapC O d < 38
      · have hv := cheapN_yes hO38 h5 hC
        obtain ⟨k1, k2, k3, k4⟩ := HC.out.2 d hO38 h5 hC
        have hp := parts_yes (c := cheapC O d) ⟨k1, hC⟩
        have hG2 : f + 1 = cnt O (d + 1) := by unfold cnt; rw [if_pos hC, hG.out]
        rw [k2] at hp
        obtain ⟨C, hCe⟩ : ∃ C, cheapC O d = C := ⟨_, rfl⟩
        rw [hCe] at hv hp k1 k3 k4 hC
        obtain ⟨q, hq⟩ : ∃ q, lev C = q := ⟨_, rfl⟩
        rw [hq] at hp
        have HV := Lib.hid (And.intro hv hp)
        have HG := Lib.hid hG2
        have g1 : decide ((C : Int) < (N : Int) + 1) = false := by simp; omega
        have g2 : decide ((N : Int) + 1 + 5 ≤ (C : Int)) = false := by simp; omega
        clear hv hp hG2 k2 hCe hq
        go_wp2_with (first
          | (go_at_call 15; refine (Cheapest_any O d _ (by omega) (by omega)).mono ?_; rintro e w' ⟨rfl, rfl⟩; rw [HV.out.1])
          | (go_at_call 13; refine (Parts_any C _ (by omega)).mono ?_; rintro e w' ⟨rfl, rfl⟩; rw [HV.out.2]))
        go_roundw
        case rel => exact ⟨f + 1, d + 1, by go_num, by go_num, by omega, by omega, HG, by trivial⟩
        case measure => simp [intOf]; omega
      · have hv := cheapN_no hO38 h5 hC
        have hp := parts_no (c := 0) (by omega)
        have hG2 : f = cnt O (d + 1) := by unfold cnt; rw [if_neg hC, hG.out]; omega
        have HV := Lib.hid (And.intro hv hp)
        have HG := Lib.hid hG2
        clear hv hp hG2 hC
        go_wp2_with (first
          | (go_at_call 15; refine (Cheapest_any O d _ (by omega) (by omega)).mono ?_; rintro e w' ⟨rfl, rfl⟩; rw [HV.out.1])
          | (go_at_call 13; refine (Parts_any 0 _ (by omega)).mono ?_; rintro e w' ⟨rfl, rfl⟩; rw [HV.out.2]))
        go_roundw
        case rel => exact ⟨f, d + 1, by go_num, by go_num, by omega, by omega, HG, by trivial⟩
        case measure => simp [intOf]; omega
    · obtain rfl : d = 5 := by omega
      have hf : f = min 5 (38 - (N + 1)) := by rw [hG.out]; exact HC.out.1
      have hfi : min (5 : Int) (38 - ((N : Int) + 1)) = (f : Int) := by omega
      have hfi2 : min 5 ((38 : Int) - ((N : Int) + 1)) = (f : Int) := by omega
      clear hf hG
      by_cases hbb : 3 ≤ b ∧ b < 38
      · have hp := parts_yes hbb
        have hib : isBid b = true := by unfold isBid; simp [hbb]
        obtain ⟨q, hq⟩ : ∃ q, lev b = q := ⟨_, rfl⟩
        obtain ⟨r, hr⟩ : ∃ r, dnm b = r := ⟨_, rfl⟩
        have hr5 : r < 5 := by unfold dnm at hr; omega
        rw [hq, hr] at hp
        by_cases hle : b ≤ O
        · have hj : jumpN O b = (0, 6) := by
            unfold jumpN
            rw [if_pos ⟨hib, hO38⟩, hr, if_neg]
            rintro ⟨h1, h2⟩
            unfold cheapC at h2
            split at h2 <;> omega
          have hjv : vJump (jumpN O b) = .tuple #[.int .i64 0, .int .i64 6] := by rw [hj]; rfl
          have HV := Lib.hid (And.intro hp hjv)
          clear hp hj hjv hq hr hib hbb
          go_wp2_with (first
            | (go_at_call 13; refine (Parts_any b _ hb).mono ?_; rintro e w' ⟨rfl, rfl⟩; rw [HV.out.1])
            | (go_at_call 16; refine (Jump_any O b _ (by omega) hb).mono ?_; rintro e w' ⟨rfl, rfl⟩; rw [HV.out.2]))
          go_ret
          exact ⟨rfl, hb9⟩
        · obtain ⟨C, hC⟩ : ∃ C, cheapC O r = C := ⟨_, rfl⟩
          have hCb : C ≤ b ∧ 3 ≤ C := by rw [← hC]; unfold dnm at hr; unfold cheapC; split <;> omega
          have hC38 : C < 38 := by omega
          have hv := cheapN_yes hO38 hr5 (by rw [hC]; exact hC38)
          rw [hC] at hv
          have hpc := parts_yes (c := C) ⟨hCb.2, hC38⟩
          obtain ⟨p, hp2⟩ : ∃ p, lev C = p := ⟨_, rfl⟩
          obtain ⟨y, hy⟩ : ∃ y, dnm C = y := ⟨_, rfl⟩
          rw [hp2, hy] at hpc
          have hyr : y = r := by
            have := (HC.out.2 r hO38 hr5 (by rw [hC]; exact hC38)).2.1
            rw [hC, hy] at this
            exact this
          obtain ⟨J, hJ⟩ : ∃ J, q - p = J := ⟨_, rfl⟩
          have hj : jumpN O b = (J, 0) := by
            unfold jumpN
            rw [if_pos ⟨hib, hO38⟩, hr, hC, if_pos ⟨hC38, hCb.1⟩, hq, hp2, hJ]
          have hjv : vJump (jumpN O b) = .tuple #[.int .i64 (J : Int), .int .i64 0] := by rw [hj]; rfl
          have hpq : p + J = q ∧ C + 5 * J = b ∧ J ≤ 7 ∧ q ≤ 7 := by unfold lev at hp2 hq; unfold dnm at hr hy; omega
          obtain ⟨e1, e2, e3, e4⟩ := hpq
          have hpq2 : (q : Int) - (p : Int) = (J : Int) := by omega
          have hcb2 : (C : Int) + 5 * (J : Int) = (b : Int) := by omega
          have hcb3 : (C : Int) ≤ (b : Int) := by omega
          have HV := Lib.hid (And.intro hp (And.intro hjv (And.intro hv hpc)))
          have hC3 : 3 ≤ C := hCb.2
          clear hp hj hjv hq hr hib hbb hv hpc hp2 hy hyr hJ hC e1 e2 hCb
          go_wp2_with (first
            | (go_at_call_of 13 b; refine (Parts_any b _ hb).mono ?_; rintro e w' ⟨rfl, rfl⟩; rw [HV.out.1])
            | (go_at_call 16; refine (Jump_any O b _ (by omega) hb).mono ?_; rintro e w' ⟨rfl, rfl⟩; rw [HV.out.2.1])
            | (go_at_call 15; refine (Cheapest_any O r _ (by omega) (by omega)).mono ?_; rintro e w' ⟨rfl, rfl⟩; rw [HV.out.2.2.1])
            | (go_at_call_of 13 C; refine (Parts_any C _ (by omega)).mono ?_; rintro e w' ⟨rfl, rfl⟩; rw [HV.out.2.2.2]))
          go_ret
          exact ⟨rfl, hb9⟩
      · have hp := parts_no hbb
        have hib : isBid b = false := by unfold isBid; simp; omega
        have hj : jumpN O b = (0, 80) := by unfold jumpN; rw [if_neg (by rw [hib]; simp)]
        have hjv : vJump (jumpN O b) = .tuple #[.int .i64 0, .int .i64 80] := by rw [hj]; rfl
        have HV := Lib.hid (And.intro hp hjv)
        clear hp hj hjv hib hbb
        go_wp2_with (first
          | (go_at_call 13; refine (Parts_any b _ hb).mono ?_; rintro e w' ⟨rfl, rfl⟩; rw [HV.out.1])
          | (go_at_call 16; refine (Jump_any O b _ (by omega) hb).mono ?_; rintro e w' ⟨rfl, rfl⟩; rw [HV.out.2]))
        go_ret
        exact ⟨rfl, hb9⟩

theorem CallCheapest_walk (c d : Int) (w : World) (hc : 0 ≤ c ∧ c ≤ 255) (hd : 0 ≤ d ∧ d ≤ 255) (hden : Den w) (hsh : w.ShapedOpen Tryd.prog) :
    Calls Tryd.prog 6 #[.int .u8 c, .int .u8 d] w fun e w' => e = .returned (.bool true) ∧ Below w.heap.size w w' := by
  obtain ⟨c', rfl⟩ : ∃ c' : Nat, c = c' := ⟨c.toNat, by omega⟩
  obtain ⟨d', rfl⟩ : ∃ d' : Nat, d = d' := ⟨d.toNat, by omega⟩
  exact CallCheapest_nat c' d' w (by omega) (by omega) hden hsh

end Go.Proofs.YtbgiiijdabpbcaaDoor
