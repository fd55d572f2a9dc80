/- NatChooses, walked -/
import Derived.Test.YtfciebajiihcfaaDoorSteps
import Derived.Test.YtfciebajiihcfaaDoorNatC3
namespace Go.Proofs.YtfciebajiihcfaaDoor
open Go.RowKit
set_option linter.unusedVariables false
set_option linter.unusedSimpArgs false
set_option maxRecDepth 100000
set_option maxHeartbeats 4000000

theorem vCh (n : Nat) (k : Int) (h : n ≤ 128) : vChoose (n : Int) k = .tuple #[vN (cz n k), .int .i64 0] := by
  unfold vChoose cz
  rw [if_neg (by omega), if_neg (by omega)]
  by_cases hk : k < 0
  · rw [if_pos (Or.inl hk), if_pos hk]
  · rw [if_neg hk]
    by_cases hn : (n : Int) < k
    · rw [if_pos (Or.inr hn), ch_over n k.toNat (by omega)]
    · rw [if_neg (by omega), Int.toNat_natCast]

theorem Choose_c (n : Nat) (k : Int) (w : World) (h : n ≤ 128) (hk : -9223372036854775808 ≤ k ∧ k ≤ 9223372036854775807) :
    Calls Tryd.prog 22 #[.int .i64 (n : Int), .int .i64 k] w fun e w' => e = .returned (.tuple #[vN (cz n k), .int .i64 0]) ∧ Below w.heap.size w w' := by
  rw [← vCh n k h]
  exact Choose_any n k w (by omega) hk

theorem pow_u32 (s : Nat) (h : s < 32) : IntKind.u32.wrap (2 ^ s) = ((2 ^ s : Nat) : Int) := by
  have h1 : (2 : Nat) ^ s < 2 ^ 32 := Nat.pow_lt_pow_right (by decide) h
  have h3 : ((2 : Int) ^ s) = ((2 ^ s : Nat) : Int) := by simp
  rw [h3]
  obtain ⟨z, hz⟩ : ∃ z : Nat, 2 ^ s = z := ⟨_, rfl⟩
  rw [hz] at h1 ⊢
  have h4 : z < 4294967296 := h1
  rw [IntKind.wrap_u32, Int.emod_eq_of_lt (by omega) (by omega)]

theorem bel1 {w a : World} {o : Obj} (h : Below w.heap.size w a) : Below w.heap.size w (a.alloc o) := h.alloc h.size o

theorem cz_sym (m : Nat) (k : Int) (h0 : 0 ≤ k) (h1 : k ≤ m) : cz m ((m : Int) - k) = cz m k := by
  unfold cz
  rw [if_neg (by omega), if_neg (by omega)]
  obtain ⟨j, rfl⟩ : ∃ j : Nat, k = j := ⟨k.toNat, by omega⟩
  rw [show ((m : Int) - (j : Int)).toNat = m - j by omega, Int.toNat_natCast]
  exact ch_sym m j (by omega)

theorem dg_pow (m i : Nat) (hm : m < 128) (hi : i < 4) : dg i (2 ^ m) = if i = m / 32 then ((2 ^ (m % 32) : Nat) : Int) else 0 := by
  unfold dg
  rw [pow_parts m hm i hi]
  split <;> rfl

theorem NatChooses_nat (n : Nat) (k : Int) (w : World) (hn : n < 256) (hk1 : -9223372036854775808 ≤ k) (hk2 : k ≤ 9223372036854775807) :
    Calls Tryd.prog 7 #[.int .u8 (n : Int), .int .i64 k] w fun e w' => e = .returned (.bool true) ∧ Below w.heap.size w w' := by
  have d0 : dg 0 0 = 0 := rfl
  have d1 : dg 1 0 = 0 := rfl
  have d2 : dg 2 0 = 0 := rfl
  have d3 : dg 3 0 = 0 := rfl
  obtain ⟨m, hm⟩ : ∃ m, n % 128 = m := ⟨_, rfl⟩
  have hm1 : (n : Int) % 128 = (m : Int) := by omega
  have hm2 : (n : Int).tmod 128 = (m : Int) := by rw [← hm1]; exact Int.tmod_eq_emod_of_nonneg (by omega)
  have hm128 : m < 128 := by omega
  have hm128i : (m : Int) < 128 := by omega
  obtain ⟨mm, hmm⟩ : ∃ mm, m + 1 = mm := ⟨_, rfl⟩
  have hmmi : (m : Int) + 1 = (mm : Int) := by omega
  have hmm128 : mm ≤ 128 := by omega
  obtain ⟨A, hA⟩ : ∃ A, cz mm k = A := ⟨_, rfl⟩
  obtain ⟨B, hB⟩ : ∃ B, cz m k = B := ⟨_, rfl⟩
  obtain ⟨C, hC⟩ : ∃ C, cz m (k - 1) = C := ⟨_, rfl⟩
  have hAb : A < big := by rw [← hA]; exact cz_big mm k hmm128
  have hBb : B < big := by rw [← hB]; exact cz_big m k (by omega)
  have hCb : C < big := by rw [← hC]; exact cz_big m (k - 1) (by omega)
  have hBC : B + C = A := by rw [← hA, ← hB, ← hC, ← hmm]; exact (cz_pascal m k).symm
  have H := Lib.hid (And.intro hA (And.intro hB (And.intro hC hBC)))
  have HM := Lib.hid hmm
  clear hA hB hC hBC hm hmm
  obtain ⟨J, hJ⟩ : ∃ J, m / 32 = J := ⟨_, rfl⟩
  obtain ⟨s, hs⟩ : ∃ s, m % 32 = s := ⟨_, rfl⟩
  have hJ1 : (m : Int) / 32 = (J : Int) := by omega
  have hJ2 : (m : Int).tdiv 32 = (J : Int) := by rw [← hJ1]; exact Int.tdiv_eq_ediv_of_nonneg (by omega)
  have hs1 : (m : Int) % 32 = (s : Int) := by omega
  have hs2 : (m : Int).tmod 32 = (s : Int) := by rw [← hs1]; exact Int.tmod_eq_emod_of_nonneg (by omega)
  have hs0 : (0 : Int) ≤ (s : Int) := by omega
  have hs32 : (s : Int) < 32 := by omega
  have hJ4 : J = 0 ∨ J = 1 ∨ J = 2 ∨ J = 3 := by omega
  have hw1 := pow_u32 s (by omega)
  obtain ⟨V, hV⟩ : ∃ V, 2 ^ s = V := ⟨_, rfl⟩
  rw [hV] at hw1
  have hparts : ∀ i, i < 4 → dg i (2 ^ m) = if i = J then (V : Int) else 0 := by
    intro i hi
    rw [dg_pow m i hm128 hi, hJ, hs, hV]
  have HP := Lib.hid (And.intro hJ4 hparts)
  clear hJ hs hV hparts hJ4
  go_enter Tryd.func7, Tryd.ntmps7
  by_cases hmin : k = -9223372036854775808
  · subst hmin
    have hCC : cz m 9223372036854775807 = C := by
      rw [← H.out.2.2.1]
      unfold cz
      rw [if_neg (by omega), if_pos (by omega)]
      exact ch_over m _ (by omega)
    have HC := Lib.hid hCC
    have hwm : wrap64 (-9223372036854775809) = 9223372036854775807 := by unfold wrap64; omega
    clear hCC hk1 hk2
    go_wp2_with (go_at_call 13; refine stop_of ?_)
    unfold Stop
    refine (nawake_true _).mono ?_
    rintro e w1 ⟨rfl, hb⟩
    have hB := call0 (Below.refl _ w) hb
    clear hb
    go_wp2_with (go_at_call 22; refine stop_of ?_)
    unfold Stop
    refine (Choose_c mm (-9223372036854775808) _ hmm128 (by omega)).mono ?_
    rintro e w2 ⟨rfl, hb⟩
    rw [H.out.1]
    replace hB := call0 hB hb
    clear hb
    go_wp2_with (go_at_call 22; refine stop_of ?_)
    unfold Stop
    refine (Choose_c m (-9223372036854775808) _ (by omega) (by omega)).mono ?_
    rintro e w3 ⟨rfl, hb⟩
    rw [H.out.2.1]
    have RA := new1 hb
    replace hB := call1 hB hb
    clear hb
    go_wp2_with (go_at_call 22; refine stop_of ?_)
    unfold Stop
    refine (Choose_c m 9223372036854775807 _ (by omega) (by omega)).mono ?_
    rintro e w4 ⟨rfl, hb⟩
    rw [HC.out]
    replace RA := row1 RA hb
    have RB := new1 hb
    replace hB := call1 hB hb
    clear hb
    obtain ⟨cB0, cB1, cB2, cB3, -⟩ := row4 RB
    have zB := RB.lt
    go_wp2_with (go_at_call 15; refine stop_of ?_)
    unfold Stop
    refine (Add_yes B C _ hBb hCb (by rw [H.out.2.2.2]; exact hAb)).mono ?_
    rintro e w5 ⟨rfl, hb⟩
    rw [H.out.2.2.2]
    clear cB0 cB1 cB2 cB3 zB
    replace RA := row1 RA hb
    replace RB := row1 RB hb
    have RC := new1 hb
    replace hB := call1 hB hb
    clear hb
    obtain ⟨cA0, cA1, cA2, cA3, -⟩ := row4 RA
    have zA := RA.lt
    go_wp2_with fail
    have R0 : Row ((w5.alloc (.cells (pN A) 28)).alloc (.cells (pN 0) 28)) (w5.heap.size + 1) 28 (pN 0) := by
      have h := Row.new (w5.alloc (.cells (pN A) 28)) 28 (pN 0)
      rw [World.size_alloc] at h
      exact h
    have hB0 : Below w.heap.size w ((w5.alloc (.cells (pN A) 28)).alloc (.cells (pN 0) 28)) := bel1 (bel1 hB)
    have hblk : w.heap.size ≤ (w5.heap.size + 1) := by have := hB.size; omega
    obtain ⟨b16, hb16⟩ : ∃ b, (w5.heap.size + 1) = b := ⟨_, rfl⟩
    rw [hb16] at R0 hblk ⊢
    clear hb16
    go_loopw [17] (fun i wr => ∃ i' T : Nat, i = .int .i64 i' ∧ i' ≤ mm ∧ Hid (sumc m i' = T) ∧ T < big ∧ Row wr b16 28 (pN T) ∧ Below w.heap.size w wr) (fun i _ => mm - (intOf i).toNat)
    case atStart => exact ⟨0, 0, rfl, by omega, Lib.hid rfl, by decide, R0, hB0⟩
    case round =>
      clear R0 hB0 hB
      obtain ⟨i, T, rfl, hi, hG, hT, R0, hB⟩ := hrel
      have z16 := R0.lt
      by_cases hlt : i < mm
      · have him : (i : Int) ≤ (m : Int) := by have := HM.out; omega
        obtain ⟨X, hX⟩ : ∃ X, cz m (i : Int) = X := ⟨_, rfl⟩
        have hXc : ch m i = X := by rw [← hX]; unfold cz; rw [if_neg (by omega), Int.toNat_natCast]
        have hXb : X < big := by rw [← hX]; exact cz_big m _ (by omega)
        obtain ⟨T2, hT2⟩ : ∃ T2, T + X = T2 := ⟨_, rfl⟩
        have hS2 : sumc m (i + 1) = T2 := by show sumc m i + ch m i = T2; rw [hG.out, hXc, hT2]
        have hT2b : T2 < big := by rw [← hS2]; exact sumc_big m (i + 1) hm128 (by have := HM.out; omega)
        have HX := Lib.hid (And.intro hX (And.intro hT2 hS2))
        clear hX hT2 hS2 hXc hG
        go_wp2_with (go_at_call 22; refine stop_of ?_)
        unfold Stop
        refine (Choose_c m (i : Int) _ (by omega) (by omega)).mono ?_
        rintro e w7 ⟨rfl, hb⟩
        rw [HX.out.1]
        replace R0 := row0 R0 hb
        replace hB := call0 hB hb
        clear hb
        obtain ⟨c0, c1, c2, c3, -⟩ := row4 R0
        have z16 := R0.lt
        go_wp2_with (go_at_call 15; refine stop_of ?_)
        unfold Stop
        refine (Add_yes T X _ hT hXb (by rw [HX.out.2.1]; exact hT2b)).mono ?_
        rintro e w8 ⟨rfl, hb⟩
        rw [HX.out.2.1]
        clear c0 c1 c2 c3
        replace R0 := row1 R0 hb
        replace hB := call1 hB hb
        clear hb
        obtain ⟨c0, c1, c2, c3, f0, f1, f2, f3⟩ := row4 R0
        have z16 := R0.lt
        go_wp2_with fail
        go_roundw
        case rel =>
          have hBs := Below.stored4 hB hblk (vU (dg 0 T2)) (vU (dg 1 T2)) (vU (dg 2 T2)) (vU (dg 3 T2))
          exact ⟨i + 1, T2, by go_num, by omega, Lib.hid HX.out.2.2, hT2b, (R0.stored4 _ _ _ _).alloc _, bel1 hBs⟩
        case measure => simp [intOf]; omega
      · have hTp : T = 2 ^ m := by
          have h1 := hG.out
          rw [show i = m + 1 by have := HM.out; omega, sumc_all] at h1
          exact h1.symm
        have him : ¬ (i : Int) ≤ (m : Int) := by have := HM.out; omega
        have q0 := HP.out.2 0 (by decide)
        have q1 := HP.out.2 1 (by decide)
        have q2 := HP.out.2 2 (by decide)
        have q3 := HP.out.2 3 (by decide)
        rw [← hTp] at q0 q1 q2 q3
        obtain ⟨c0, c1, c2, c3, -⟩ := row4 R0
        have hJ4 := HP.out.1
        clear hTp hG hlt
        rcases hJ4 with rfl | rfl | rfl | rfl
        all_goals
          simp at q0 q1 q2 q3
          go_wp2_with fail
          go_ret
          exact ⟨by simp, bel1 hB⟩
  · have hk3 : -9223372036854775807 ≤ k := by omega
    have hwk : wrap64 (k - 1) = k - 1 := by unfold wrap64; omega
    clear hmin hk1
    go_wp2_with (go_at_call 13; refine stop_of ?_)
    unfold Stop
    refine (nawake_true _).mono ?_
    rintro e w1 ⟨rfl, hb⟩
    have hB := call0 (Below.refl _ w) hb
    clear hb
    go_wp2_with (go_at_call 22; refine stop_of ?_)
    unfold Stop
    refine (Choose_c mm k _ hmm128 (by omega)).mono ?_
    rintro e w2 ⟨rfl, hb⟩
    rw [H.out.1]
    replace hB := call0 hB hb
    clear hb
    go_wp2_with (go_at_call 22; refine stop_of ?_)
    unfold Stop
    refine (Choose_c m k _ (by omega) (by omega)).mono ?_
    rintro e w3 ⟨rfl, hb⟩
    rw [H.out.2.1]
    have RA := new1 hb
    replace hB := call1 hB hb
    clear hb
    go_wp2_with (go_at_call 22; refine stop_of ?_)
    unfold Stop
    refine (Choose_c m (k - 1) _ (by omega) (by omega)).mono ?_
    rintro e w4 ⟨rfl, hb⟩
    rw [H.out.2.2.1]
    replace RA := row1 RA hb
    have RB := new1 hb
    replace hB := call1 hB hb
    clear hb
    obtain ⟨cB0, cB1, cB2, cB3, -⟩ := row4 RB
    have zB := RB.lt
    go_wp2_with (go_at_call 15; refine stop_of ?_)
    unfold Stop
    refine (Add_yes B C _ hBb hCb (by rw [H.out.2.2.2]; exact hAb)).mono ?_
    rintro e w5 ⟨rfl, hb⟩
    rw [H.out.2.2.2]
    clear cB0 cB1 cB2 cB3 zB
    replace RA := row1 RA hb
    replace RB := row1 RB hb
    have RC := new1 hb
    replace hB := call1 hB hb
    clear hb
    obtain ⟨cA0, cA1, cA2, cA3, -⟩ := row4 RA
    have zA := RA.lt
    by_cases hin : 0 ≤ k ∧ k ≤ (m : Int)
    · obtain ⟨hin1, hin2⟩ := hin
      have hsym : cz m ((m : Int) - k) = B := (cz_sym m k hin1 hin2).trans H.out.2.1
      have hwmk : wrap64 ((m : Int) - k) = (m : Int) - k := by unfold wrap64; omega
      have HS := Lib.hid hsym
      clear hsym
      go_wp2_with (go_at_call 22; refine stop_of ?_)
      unfold Stop
      refine (Choose_c m ((m : Int) - k) _ (by omega) (by omega)).mono ?_
      rintro e w6 ⟨rfl, hb⟩
      rw [HS.out]
      clear cA0 cA1 cA2 cA3 zA
      replace RA := row1 RA hb
      replace RB := row1 RB hb
      replace RC := row1 RC hb
      have RS := new1 hb
      replace hB := call1 hB hb
      clear hb
      obtain ⟨cB0, cB1, cB2, cB3, -⟩ := row4 RB
      have zB := RB.lt
      go_wp2_with fail
      have R0 : Row ((w6.alloc (.cells (pN B) 28)).alloc (.cells (pN 0) 28)) (w6.heap.size + 1) 28 (pN 0) := by
        have h := Row.new (w6.alloc (.cells (pN B) 28)) 28 (pN 0)
        rw [World.size_alloc] at h
        exact h
      have hB0 : Below w.heap.size w ((w6.alloc (.cells (pN B) 28)).alloc (.cells (pN 0) 28)) := bel1 (bel1 hB)
      have hblk : w.heap.size ≤ (w6.heap.size + 1) := by have := hB.size; omega
      obtain ⟨b16, hb16⟩ : ∃ b, (w6.heap.size + 1) = b := ⟨_, rfl⟩
      rw [hb16] at R0 hblk ⊢
      clear hb16
      go_loopw [17] (fun i wr => ∃ i' T : Nat, i = .int .i64 i' ∧ i' ≤ mm ∧ Hid (sumc m i' = T) ∧ T < big ∧ Row wr b16 28 (pN T) ∧ Below w.heap.size w wr) (fun i _ => mm - (intOf i).toNat)
      case atStart => exact ⟨0, 0, rfl, by omega, Lib.hid rfl, by decide, R0, hB0⟩
      case round =>
        clear R0 hB0 hB
        obtain ⟨i, T, rfl, hi, hG, hT, R0, hB⟩ := hrel
        have z16 := R0.lt
        by_cases hlt : i < mm
        · have him : (i : Int) ≤ (m : Int) := by have := HM.out; omega
          obtain ⟨X, hX⟩ : ∃ X, cz m (i : Int) = X := ⟨_, rfl⟩
          have hXc : ch m i = X := by rw [← hX]; unfold cz; rw [if_neg (by omega), Int.toNat_natCast]
          have hXb : X < big := by rw [← hX]; exact cz_big m _ (by omega)
          obtain ⟨T2, hT2⟩ : ∃ T2, T + X = T2 := ⟨_, rfl⟩
          have hS2 : sumc m (i + 1) = T2 := by show sumc m i + ch m i = T2; rw [hG.out, hXc, hT2]
          have hT2b : T2 < big := by rw [← hS2]; exact sumc_big m (i + 1) hm128 (by have := HM.out; omega)
          have HX := Lib.hid (And.intro hX (And.intro hT2 hS2))
          clear hX hT2 hS2 hXc hG
          go_wp2_with (go_at_call 22; refine stop_of ?_)
          unfold Stop
          refine (Choose_c m (i : Int) _ (by omega) (by omega)).mono ?_
          rintro e w7 ⟨rfl, hb⟩
          rw [HX.out.1]
          replace R0 := row0 R0 hb
          replace hB := call0 hB hb
          clear hb
          obtain ⟨c0, c1, c2, c3, -⟩ := row4 R0
          have z16 := R0.lt
          go_wp2_with (go_at_call 15; refine stop_of ?_)
          unfold Stop
          refine (Add_yes T X _ hT hXb (by rw [HX.out.2.1]; exact hT2b)).mono ?_
          rintro e w8 ⟨rfl, hb⟩
          rw [HX.out.2.1]
          clear c0 c1 c2 c3
          replace R0 := row1 R0 hb
          replace hB := call1 hB hb
          clear hb
          obtain ⟨c0, c1, c2, c3, f0, f1, f2, f3⟩ := row4 R0
          have z16 := R0.lt
          go_wp2_with fail
          go_roundw
          case rel =>
            have hBs := Below.stored4 hB hblk (vU (dg 0 T2)) (vU (dg 1 T2)) (vU (dg 2 T2)) (vU (dg 3 T2))
            exact ⟨i + 1, T2, by go_num, by omega, Lib.hid HX.out.2.2, hT2b, (R0.stored4 _ _ _ _).alloc _, bel1 hBs⟩
          case measure => simp [intOf]; omega
        · have hTp : T = 2 ^ m := by
            have h1 := hG.out
            rw [show i = m + 1 by have := HM.out; omega, sumc_all] at h1
            exact h1.symm
          have him : ¬ (i : Int) ≤ (m : Int) := by have := HM.out; omega
          have q0 := HP.out.2 0 (by decide)
          have q1 := HP.out.2 1 (by decide)
          have q2 := HP.out.2 2 (by decide)
          have q3 := HP.out.2 3 (by decide)
          rw [← hTp] at q0 q1 q2 q3
          obtain ⟨c0, c1, c2, c3, -⟩ := row4 R0
          have hJ4 := HP.out.1
          clear hTp hG hlt
          rcases hJ4 with rfl | rfl | rfl | rfl
          all_goals
            simp at q0 q1 q2 q3
            go_wp2_with fail
            go_ret
            exact ⟨by simp, bel1 hB⟩
    · have hcase : k < 0 ∨ (0 ≤ k ∧ (m : Int) < k) := by omega
      clear hin
      rcases hcase with hneg | ⟨hpos, hgt⟩
      all_goals
        go_wp2_with fail
        have R0 : Row ((w5.alloc (.cells (pN A) 28)).alloc (.cells (pN 0) 28)) (w5.heap.size + 1) 28 (pN 0) := by
          have h := Row.new (w5.alloc (.cells (pN A) 28)) 28 (pN 0)
          rw [World.size_alloc] at h
          exact h
        have hB0 : Below w.heap.size w ((w5.alloc (.cells (pN A) 28)).alloc (.cells (pN 0) 28)) := bel1 (bel1 hB)
        have hblk : w.heap.size ≤ (w5.heap.size + 1) := by have := hB.size; omega
        obtain ⟨b16, hb16⟩ : ∃ b, (w5.heap.size + 1) = b := ⟨_, rfl⟩
        rw [hb16] at R0 hblk ⊢
        clear hb16
        go_loopw [17] (fun i wr => ∃ i' T : Nat, i = .int .i64 i' ∧ i' ≤ mm ∧ Hid (sumc m i' = T) ∧ T < big ∧ Row wr b16 28 (pN T) ∧ Below w.heap.size w wr) (fun i _ => mm - (intOf i).toNat)
        case atStart => exact ⟨0, 0, rfl, by omega, Lib.hid rfl, by decide, R0, hB0⟩
        case round =>
          clear R0 hB0 hB
          obtain ⟨i, T, rfl, hi, hG, hT, R0, hB⟩ := hrel
          have z16 := R0.lt
          by_cases hlt : i < mm
          · have him : (i : Int) ≤ (m : Int) := by have := HM.out; omega
            obtain ⟨X, hX⟩ : ∃ X, cz m (i : Int) = X := ⟨_, rfl⟩
            have hXc : ch m i = X := by rw [← hX]; unfold cz; rw [if_neg (by omega), Int.toNat_natCast]
            have hXb : X < big := by rw [← hX]; exact cz_big m _ (by omega)
            obtain ⟨T2, hT2⟩ : ∃ T2, T + X = T2 := ⟨_, rfl⟩
            have hS2 : sumc m (i + 1) = T2 := by show sumc m i + ch m i = T2; rw [hG.out, hXc, hT2]
            have hT2b : T2 < big := by rw [← hS2]; exact sumc_big m (i + 1) hm128 (by have := HM.out; omega)
            have HX := Lib.hid (And.intro hX (And.intro hT2 hS2))
            clear hX hT2 hS2 hXc hG
            go_wp2_with (go_at_call 22; refine stop_of ?_)
            unfold Stop
            refine (Choose_c m (i : Int) _ (by omega) (by omega)).mono ?_
            rintro e w7 ⟨rfl, hb⟩
            rw [HX.out.1]
            replace R0 := row0 R0 hb
            replace hB := call0 hB hb
            clear hb
            obtain ⟨c0, c1, c2, c3, -⟩ := row4 R0
            have z16 := R0.lt
            go_wp2_with (go_at_call 15; refine stop_of ?_)
            unfold Stop
            refine (Add_yes T X _ hT hXb (by rw [HX.out.2.1]; exact hT2b)).mono ?_
            rintro e w8 ⟨rfl, hb⟩
            rw [HX.out.2.1]
            clear c0 c1 c2 c3
            replace R0 := row1 R0 hb
            replace hB := call1 hB hb
            clear hb
            obtain ⟨c0, c1, c2, c3, f0, f1, f2, f3⟩ := row4 R0
            have z16 := R0.lt
            go_wp2_with fail
            go_roundw
            case rel =>
              have hBs := Below.stored4 hB hblk (vU (dg 0 T2)) (vU (dg 1 T2)) (vU (dg 2 T2)) (vU (dg 3 T2))
              exact ⟨i + 1, T2, by go_num, by omega, Lib.hid HX.out.2.2, hT2b, (R0.stored4 _ _ _ _).alloc _, bel1 hBs⟩
            case measure => simp [intOf]; omega
          · have hTp : T = 2 ^ m := by
              have h1 := hG.out
              rw [show i = m + 1 by have := HM.out; omega, sumc_all] at h1
              exact h1.symm
            have him : ¬ (i : Int) ≤ (m : Int) := by have := HM.out; omega
            have q0 := HP.out.2 0 (by decide)
            have q1 := HP.out.2 1 (by decide)
            have q2 := HP.out.2 2 (by decide)
            have q3 := HP.out.2 3 (by decide)
            rw [← hTp] at q0 q1 q2 q3
            obtain ⟨c0, c1, c2, c3, -⟩ := row4 R0
            have hJ4 := HP.out.1
            clear hTp hG hlt
            rcases hJ4 with rfl | rfl | rfl | rfl
            all_goals
              simp at q0 q1 q2 q3
              go_wp2_with fail
              go_ret
              exact ⟨by simp, bel1 hB⟩

theorem NatChooses_walk (n k : Int) (w : World) (hn : 0 ≤ n ∧ n ≤ 255) (hk : -9223372036854775808 ≤ k ∧ k ≤ 9223372036854775807) :
    Calls Tryd.prog 7 #[.int .u8 n, .int .i64 k] w fun e w' => e = .returned (.bool true) ∧ Below w.heap.size w w' := by
  obtain ⟨m, rfl⟩ : ∃ m : Nat, n = m := ⟨n.toNat, by omega⟩
  exact NatChooses_nat m k w (by omega) hk.1 hk.2

end Go.Proofs.YtfciebajiihcfaaDoor
