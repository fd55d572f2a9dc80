/- SeedWide: a number below a number of 128 bits, walked -/
import Derived.Test.YtojabjdpjnmkdaaSeedO
import Derived.Test.YtojabjdpjnmkdaaNatC
import Derived.Test.YtojabjdpjnmkdaaArr4
namespace Go.Proofs.Ytojabjdpjnmkdaa
open Go.RowKit
set_option linter.unusedVariables false
set_option linter.unusedSimpArgs false
set_option maxRecDepth 100000
set_option maxHeartbeats 4000000

theorem Pick_any (x n : Int) (w : World) (h0 : -9223372036854775808 ≤ x) (h1 : x ≤ 9223372036854775807) (hn0 : 1 ≤ n) (hn1 : n ≤ 4294967296) :
    Calls Try.prog 16 #[.int .i64 x, .int .i64 n] w fun e w' => e = .returned (.int .i64 (x % n)) ∧ w = w' := by
  have h2 := Int.emod_nonneg x (b := n) (by omega)
  have h3 := Int.emod_lt_of_pos x (b := n) (by omega)
  have hb : -n < x.tmod n ∧ x.tmod n < n := ⟨Int.lt_tmod_of_pos x (by omega), Int.tmod_lt_of_pos x (by omega)⟩
  obtain ⟨hb1, hb2⟩ := hb
  have hr : x % n = x.tmod n ∧ 0 ≤ x.tmod n ∨ x % n = x.tmod n + n ∧ x.tmod n < 0 := by
    have h4 : ((n.natAbs : Nat) : Int) = n := by omega
    rw [Int.tmod_eq_emod] at hb1 hb2 ⊢
    split at hb1 <;> split <;> omega
  have HR := Lib.hid hr
  clear hr
  go_enter Try.func16, Try.ntmps16
  go_wp2
  all_goals
    go_ret
    exact ⟨ret_int (by have := HR.out; omega), rfl⟩

/-- up to as many as there are values a number is drawn as with Below -/
theorem wide_small (s : Int) (k : Nat) (h0 : 1 ≤ s) (h1 : s ≤ 2147483646) (hk0 : 1 ≤ k) (hk : k ≤ VV) : (belowN s k).1 = (belowI s k).1 ∧ ((belowN s k).2 : Int) = (belowI s k).2 := by
  have hk1 : kOf k = 1 := by unfold kOf; rw [if_pos hk]
  have key : ∀ (j : Nat) (s : Int) (x : Nat), 1 ≤ s → s ≤ 2147483646 → (drN 1 k (VV ^ 1 - VV ^ 1 % k) j s x).1 = (drawI k j s x).1 ∧ ((drN 1 k (VV ^ 1 - VV ^ 1 % k) j s x).2 : Int) = (drawI k j s x).2 := by
    intro j
    induction j with
    | zero => intro s x _ _; exact ⟨rfl, rfl⟩
    | succ j ih =>
      intro s x a b
      have hp := nxt_pos s a b
      have hl := nxt_lt s
      have e1 : stN 1 s = nxt s := rfl
      have e2 : smN 1 s = (nxt s - 1).toNat := by simp [smN, stN]
      obtain ⟨v, hv⟩ : ∃ v : Nat, nxt s - 1 = v := ⟨(nxt s - 1).toNat, by omega⟩
      have hle : 2147483646 % k ≤ 2147483646 := Nat.mod_le _ _
      have hc : (smN 1 s < VV ^ 1 - VV ^ 1 % k) ↔ (nxt s - 1 < 2147483646 - 2147483646 % (k : Int)) := by
        rw [e2, hv, Int.toNat_natCast, Nat.pow_one]
        unfold VV
        have : (2147483646 : Int) % (k : Int) = ((2147483646 % k : Nat) : Int) := by rw [Int.natCast_emod]; rfl
        rw [this]
        omega
      rw [drN_succ, drawI_succ, e1, e2]
      have hm : ((((nxt s - 1).toNat % k : Nat)) : Int) = (nxt s - 1) % (k : Int) := by rw [hv, Int.toNat_natCast, Int.natCast_emod]
      by_cases h : nxt s - 1 < 2147483646 - 2147483646 % (k : Int)
      · rw [if_pos h, if_pos (by rw [← e2]; exact hc.2 h)]
        exact ⟨rfl, hm⟩
      · rw [if_neg h, if_neg (by rw [← e2]; exact fun h2 => h (hc.1 h2))]
        have := ih (nxt s) ((nxt s - 1).toNat % k) hp (by omega)
        rw [hm] at this
        exact this
  unfold belowN belowI
  rw [hk1]
  exact key 101 s 0 h0 h1

/-- below a power all values are taken -/
theorem wide_square (s : Int) (h0 : 1 ≤ s) (h1 : s ≤ 2147483646) : (belowN s (VV * VV)).1 = nxt (nxt s) ∧ (belowN s (VV * VV)).2 = (nxt s - 1).toNat + (nxt (nxt s) - 1).toNat * VV := by
  have hk : kOf (VV * VV) = 2 := by decide
  have hlt := smN_lt s h0 h1 2
  have e2 : VV ^ 2 = VV * VV := by rw [Nat.pow_succ, Nat.pow_one]
  have hs : smN 2 s = (nxt s - 1).toNat + (nxt (nxt s) - 1).toNat * VV := by simp [smN, stN]
  unfold belowN
  rw [hk, drN_succ]
  rw [if_pos (by rw [e2, Nat.mod_self, Nat.sub_zero, ← e2]; exact hlt)]
  refine ⟨rfl, ?_⟩
  show smN 2 s % (VV * VV) = _
  rw [← e2, Nat.mod_eq_of_lt hlt, hs]

theorem sq_mul (a : World) (b : Nat) (hb : a.heap.size = b) : Calls Try.prog 23 #[.slice (some ⟨b, 0, none⟩) 2 2]
    (a.alloc (.cells #[.int .u32 2147483646, .int .u32 0, .int .u32 0, .int .u32 0, .int .u32 2147483646, .int .u32 0, .int .u32 0, .int .u32 0] 42)) fun e w' => e = .returned (.tuple #[vN (VV * VV), .int .i64 0]) ∧
    Below (a.alloc (.cells #[.int .u32 2147483646, .int .u32 0, .int .u32 0, .int .u32 0, .int .u32 2147483646, .int .u32 0, .int .u32 0, .int .u32 0] 42)).heap.size (a.alloc (.cells #[.int .u32 2147483646, .int .u32 0, .int .u32 0, .int .u32 0, .int .u32 2147483646, .int .u32 0, .int .u32 0, .int .u32 0] 42)) w' := by
  have h := sMul2_yes a b VV VV hb (by decide) (by decide) (by decide)
  rw [show dg 0 VV = 2147483646 from rfl, show dg 1 VV = 0 from rfl, show dg 2 VV = 0 from rfl, show dg 3 VV = 0 from rfl] at h
  exact h

theorem sq_div (x : Nat) (w : World) (hx : x < big) :
    Calls Try.prog 24 #[vN x, lit4 2147483646 0 0 0] w fun e w' => e = .returned (.tuple #[vN (x / VV), vN (x % VV), .int .i64 0]) ∧ Below w.heap.size w w' := by
  have h := Div_yes x VV w hx (by decide) (by decide)
  rw [show vN VV = lit4 2147483646 0 0 0 by unfold vN lit4; rw [show dg 0 VV = 2147483646 from rfl, show dg 1 VV = 0 from rfl, show dg 2 VV = 0 from rfl, show dg 3 VV = 0 from rfl]] at h
  exact h

/-- two values, put together -/
theorem wide_two (v1 v2 : Nat) (h1 : v1 < VV) (h2 : v2 < VV) : v1 + v2 * VV < big ∧ (v1 + v2 * VV) / VV = v2 ∧ (v1 + v2 * VV) % VV = v1 := by
  have hp : 0 < VV := by decide
  have h10 : VV * VV < big := by decide
  obtain ⟨V, hV⟩ : ∃ V, VV = V := ⟨_, rfl⟩
  obtain ⟨B, hB⟩ : ∃ B, big = B := ⟨_, rfl⟩
  rw [hV] at h1 h2 hp h10 ⊢
  rw [hB] at h10 ⊢
  refine ⟨?_, ?_, ?_⟩
  · have h9 : (v2 + 1) * V ≤ V * V := Nat.mul_le_mul_right _ h2
    rw [Nat.add_mul, Nat.one_mul] at h9
    omega
  · rw [Nat.add_mul_div_right _ _ hp, Nat.div_eq_of_lt h1, Nat.zero_add]
  · rw [Nat.add_mul_mod_self_right, Nat.mod_eq_of_lt h1]

theorem wide_all (s small : Int) (s0 : 1 ≤ s) (s1 : s ≤ 2147483646) : ∃ (k : Nat) (pk A : Int) (y : Nat) (u1 u2 : Int) (v1 v2 W : Nat),
    (1 ≤ k ∧ k ≤ 2147483646 ∧ 0 ≤ pk ∧ pk < 2147483646 ∧ y < k ∧ 1 ≤ u1 ∧ u1 ≤ 2147483646 ∧ W < big ∧ v1 < 2147483646 ∧ v2 < 2147483646) ∧
    Hid (small % 2147483646 = pk ∧ 1 + pk = (k : Int)) ∧
    Hid ((belowI s k).1 = A ∧ (belowN s k).2 = y ∧ (belowN s k).1 = A ∧ (y : Int) = (belowI s k).2) ∧
    Hid ((belowN s (VV * VV)).1 = u2 ∧ (belowN s (VV * VV)).2 = W ∧ nxt s = u1 ∧ nxt u1 = u2 ∧ u1 - 1 = (v1 : Int) ∧ u2 - 1 = (v2 : Int) ∧ W / VV = v2 ∧ W % VV = v1) := by
  obtain ⟨k, hk⟩ : ∃ k : Nat, 1 + small % 2147483646 = k := ⟨(1 + small % 2147483646).toNat, by omega⟩
  have hkV : k ≤ VV := by unfold VV; omega
  obtain ⟨w1e, w2e⟩ := wide_small s k s0 s1 (by omega) hkV
  obtain ⟨-, -, hy⟩ := belowN_right s k s0 s1 (by omega)
  obtain ⟨t1, t2⟩ := wide_square s s0 s1
  have n0 := nxt_pos s s0 s1
  have n1 := nxt_lt s
  have n2 := nxt_pos (nxt s) n0 (by omega)
  have n3 := nxt_lt (nxt s)
  have g1 : (nxt s - 1).toNat < 2147483646 := by omega
  have g2 : (nxt (nxt s) - 1).toNat < 2147483646 := by omega
  obtain ⟨q1, q2, q3⟩ := wide_two (nxt s - 1).toNat (nxt (nxt s) - 1).toNat g1 g2
  refine ⟨k, small % 2147483646, (belowI s k).1, (belowN s k).2, nxt s, nxt (nxt s), (nxt s - 1).toNat, (nxt (nxt s) - 1).toNat, _, ⟨by omega, by omega, by omega, by omega, hy, n0, by omega, q1, g1, g2⟩, ⟨rfl, hk⟩, ⟨rfl, rfl, w1e, w2e⟩, ⟨t1, t2, rfl, rfl, by omega, by omega, q2, q3⟩⟩

theorem Next_nxt (s : Int) (w : World) (h0 : 1 ≤ s) (h1 : s ≤ 2147483646) :
    Calls Try.prog 14 #[.int .i64 s] w fun e w' => e = .returned (.tuple #[.int .i64 (nxt s), .int .i64 (nxt s - 1), .int .i64 0]) ∧ w = w' := Next_yes s w h0 h1

theorem SeedWide_nat (n small a0 a1 a2 a3 : Int) (w : World) (hn1 : -9223372036854775808 ≤ n) (hn2 : n ≤ 9223372036854775807) (hs1 : -9223372036854775808 ≤ small) (hs2 : small ≤ 9223372036854775807)
    (p0 : 0 ≤ a0) (p0' : a0 ≤ 4294967295) (p1 : 0 ≤ a1) (p1' : a1 ≤ 4294967295) (p2 : 0 ≤ a2) (p2' : a2 ≤ 4294967295) (p3 : 0 ≤ a3) (p3' : a3 ≤ 4294967295) :
    Calls Try.prog 9 #[.int .i64 n, .agg #[.int .u32 a0, .int .u32 a1, .int .u32 a2, .int .u32 a3], .int .i64 small] w fun e w' => e = .returned (.bool true) ∧ Below w.heap.size w w' := by
  obtain ⟨s, hs⟩ : ∃ s, 1 + n % 2147483646 = s := ⟨_, rfl⟩
  have hsr : 1 ≤ s ∧ s ≤ 2147483646 := by omega
  obtain ⟨s0, s1⟩ := hsr
  have HS := Lib.hid hs
  clear hs
  obtain ⟨b3, hb3⟩ : ∃ b, a3 % 16777216 = b := ⟨_, rfl⟩
  have hb3r : 0 ≤ b3 ∧ b3 < 16777216 := by omega
  obtain ⟨q3, q3'⟩ := hb3r
  have HB3 := Lib.hid hb3
  clear hb3
  obtain ⟨k, pk, A, y, u1, u2, v1, v2, W, ⟨hk1, hk9, g0, g1, hy, n0, n1, hWb, hv1b, hv2b⟩, HK, HY, H⟩ := wide_all s small s0 s1
  have tok1 : True := trivial
  go_enter Try.func9, Try.ntmps9
  go_wp2_with (go_at_call 11; refine stopN_of ?_)
  unfold StopN
  refine (awake_true _).mono ?_
  rintro e w1 ⟨rfl, hb⟩
  have rM := new1' hb
  have hB := sc1 (Below.refl _ w) hb
  clear hb
  obtain ⟨cM0, cM1, cM2, cM3, fM0, fM1, fM2, fM3⟩ := row4 rM
  have zM := rM.lt
  go_upto_if 46 with (go_at_call 12; refine (Of_any _ _ hn1 hn2).mono ?_; rintro e w' ⟨rfl, rfl⟩; rw [HS.out])
  go_cut [] (fun wx => ∃ m : Nat, 0 < m ∧ m ≤ 1329227995784915872903807060280344576 ∧ Row wx w.heap.size 42 (pN m) ∧ Below w.heap.size w wx)
  case first =>
    have rM3 := rM.set 3 (.int .u32 (a3 % 16777216))
    obtain ⟨dM0, dM1, dM2, dM3, gM0, gM1, gM2, gM3⟩ := row4 (x0 := vU a0) (x1 := vU a1) (x2 := vU a2) (x3 := vU (a3 % 16777216)) rM3
    cases hz : (a0 == 0 && (a1 == 0 && (a2 == 0 && a3 % 16777216 == 0)))
    · go_wp2_with fail
      go_meet
      have hb9 := HB3.out
      have hne : ¬ (a0 = 0 ∧ a1 = 0 ∧ a2 = 0 ∧ a3 % 16777216 = 0) := by
        rintro ⟨e0, e1, e2, e3⟩
        rw [e0, e1, e2, e3] at hz
        cases hz
      refine ⟨(num4 a0 a1 a2 b3).toNat, by unfold num4; omega, by unfold num4; omega, ?_, hB.setCell (p := ⟨w.heap.size, 3, none⟩) (Nat.le_refl _) _⟩
      have e := vN_shut a0 a1 a2 b3 (num4 a0 a1 a2 b3).toNat (by omega) (by unfold num4; omega)
      have e2 : pN (num4 a0 a1 a2 b3).toNat = #[vU a0, vU a1, vU a2, vU b3] := by
        simp only [Value.agg.injEq] at e
        exact e.symm
      rw [e2, ← hb9]
      exact rM3
    · go_wp2_with fail
      go_meet
      exact ⟨1, by decide, by decide, Row.stored4 (o0 := vU a0) (o1 := vU a1) (o2 := vU a2) (o3 := vU (a3 % 16777216)) rM3 (vU 1) (vU 0) (vU 0) (vU 0), Below.stored4 (hB.setCell (p := ⟨w.heap.size, 3, none⟩) (Nat.le_refl _) _) (Nat.le_refl _) _ _ _ _⟩
  case rest =>
    clear cM0 cM1 cM2 cM3 fM0 fM1 fM2 fM3 zM rM hB
    obtain ⟨m, hm0, hm, RM, hB⟩ := hcut
    have hmb : m < big := by unfold big; omega
    obtain ⟨-, -, hx⟩ := belowN_right s m s0 s1 hm0
    obtain ⟨x, hxe⟩ : ∃ x, (belowN s m).2 = x := ⟨_, rfl⟩
    rw [hxe] at hx
    have HX := Lib.hid hxe
    have hcm : cmpN x m = -1 := by unfold cmpN; rw [if_pos hx]
    have HC := Lib.hid hcm
    clear hcm hxe
    obtain ⟨cM0, cM1, cM2, cM3, -⟩ := row4 RM
    have zM := RM.lt
    go_wp2_with (go_at_call 20; refine stopN_of ?_)
    unfold StopN
    refine (BN_yes s m _ s0 s1 hm0 hm).mono ?_
    rintro e w2 ⟨rfl, hb⟩
    rw [HX.out]
    clear cM0 cM1 cM2 cM3 zM
    replace RM := sr0 RM hb
    replace hB := hB.trans (hb.mono hB.size)
    clear hb
    obtain ⟨cM0, cM1, cM2, cM3, -⟩ := row4 RM
    have zM := RM.lt
    go_wp2_with (go_at_call 21; refine stopN_of ?_)
    unfold StopN
    refine (Cmp_any x m _ (by omega) hmb).mono ?_
    rintro e w3 ⟨rfl, hb⟩
    rw [HC.out]
    clear cM0 cM1 cM2 cM3 zM
    replace RM := sr1 RM hb
    have RX := new1' hb
    replace hB := sc1 hB hb
    clear hb
    clear RM RX
    go_wp2_with (first
      | (go_at_call 16; refine (Pick_any _ _ _ hs1 hs2 (by decide) (by decide)).mono ?_; rintro e w' ⟨rfl, rfl⟩; rw [HK.out.1])
      | (go_at_call 22; refine stopN_of ?_))
    unfold StopN
    rw [HK.out.2]
    refine ((Of_yes _ _ (by omega) (by omega))).mono ?_
    rintro e w4 ⟨rfl, hb⟩
    rw [Int.toNat_natCast]
    replace hB := hB.trans (hb.mono hB.size)
    clear hb
    go_wp2_with (go_at_call 17; refine stopN_of ?_)
    unfold StopN
    refine (Below_yes s k _ s0 s1 (by omega) (by omega)).mono ?_
    rintro e w5 ⟨rfl, hb⟩
    rw [HY.out.1, ← HY.out.2.2.2]
    have RN := new1' hb
    replace hB := sc1 hB hb
    clear hb
    obtain ⟨cN0, cN1, cN2, cN3, -⟩ := row4 RN
    have zN := RN.lt
    go_wp2_with (go_at_call 20; refine stopN_of ?_)
    unfold StopN
    refine (BN_yes s k _ s0 s1 hk1 (by omega)).mono ?_
    rintro e w6 ⟨rfl, hb⟩
    rw [HY.out.2.1, HY.out.2.2.1]
    clear cN0 cN1 cN2 cN3 zN
    replace RN := sr0 RN hb
    replace hB := hB.trans (hb.mono hB.size)
    clear hb
    clear RN
    go_wp2_with (go_at_call 22; refine stopN_of ?_)
    unfold StopN
    refine (Of_yes _ _ (by omega) (by omega)).mono ?_
    rintro e w7 ⟨rfl, hb⟩
    rw [Int.toNat_natCast]
    have RZ := new1' hb
    replace hB := sc1 hB hb
    clear hb
    obtain ⟨cZ0, cZ1, cZ2, cZ3, -⟩ := row4 RZ
    have zZ := RZ.lt
    go_wp2_with (go_at_call 23; refine stopN_of ?_)
    unfold StopN
    refine (sq_mul _ _ (by simp only [World.size_alloc])).mono ?_
    rintro e w8 ⟨rfl, hb⟩
    clear cZ0 cZ1 cZ2 cZ3 zZ
    replace RZ := sr2 RZ hb
    obtain ⟨RS, -⟩ := new2' hb
    replace hB := sc2 hB hb
    clear hb
    clear RZ
    clear RS
    go_wp2_with (go_at_call 20; refine stopN_of ?_)
    unfold StopN
    refine (BN_yes s (VV * VV) _ s0 s1 (by decide) (by decide)).mono ?_
    rintro e w9 ⟨rfl, hb⟩
    rw [H.out.1, H.out.2.1]
    have RQ := new1' hb
    replace hB := sc1 hB hb
    clear hb
    clear RQ
    go_wp2_with (go_at_call 24; refine stopN_of ?_)
    unfold StopN
    refine (sq_div W _ hWb).mono ?_
    rintro e w10 ⟨rfl, hb⟩
    rw [H.out.2.2.2.2.2.2.1, H.out.2.2.2.2.2.2.2]
    have RW := new1' hb
    replace hB := sc1 hB hb
    clear hb
    clear RW
    go_wp2_with (first
      | (go_at_call 14; have _t := tok1; clear tok1; refine (Next_nxt s _ s0 s1).mono ?_; rintro e w' ⟨rfl, rfl⟩; rw [H.out.2.2.1, H.out.2.2.2.2.1])
      | (go_at_call 14; refine (Next_nxt u1 _ n0 (by omega)).mono ?_; rintro e w' ⟨rfl, rfl⟩; rw [H.out.2.2.2.1, H.out.2.2.2.2.2.1])
      | (go_at_call 25; refine stopN_of ?_))
    unfold StopN
    refine (Int_yes v1 _ (by omega)).mono ?_
    rintro e w11 ⟨rfl, hb⟩
    obtain ⟨RD, RR⟩ := new2' hb
    replace hB := sc2 hB hb
    clear hb
    obtain ⟨cD0, cD1, cD2, cD3, -⟩ := row4 RD
    have zD := RD.lt
    go_wp2_with (go_at_call 25; refine stopN_of ?_)
    unfold StopN
    refine (Int_yes v2 _ (by omega)).mono ?_
    rintro e w12 ⟨rfl, hb⟩
    clear cD0 cD1 cD2 cD3 zD
    replace RD := sr0 RD hb
    replace RR := sr0 RR hb
    replace hB := hB.trans (hb.mono hB.size)
    clear hb
    go_wp2_with fail
    go_ret
    exact ⟨rfl, hB⟩

theorem SeedWide_walk (n a0 a1 a2 a3 small : Int) (w : World) (hn : -9223372036854775808 ≤ n ∧ n ≤ 9223372036854775807) (ha : (0 ≤ a0 ∧ a0 ≤ 4294967295) ∧ (0 ≤ a1 ∧ a1 ≤ 4294967295) ∧ (0 ≤ a2 ∧ a2 ≤ 4294967295) ∧ (0 ≤ a3 ∧ a3 ≤ 4294967295)) (hs : -9223372036854775808 ≤ small ∧ small ≤ 9223372036854775807) :
    Calls Try.prog 9 #[.int .i64 n, .agg #[.int .u32 a0, .int .u32 a1, .int .u32 a2, .int .u32 a3], .int .i64 small] w fun e w' => e = .returned (.bool true) ∧ Below w.heap.size w w' := by
  obtain ⟨⟨h0, h1⟩, ⟨h2, h3⟩, ⟨h4, h5⟩, ⟨h6, h7⟩⟩ := ha
  exact SeedWide_nat n small a0 a1 a2 a3 w hn.1 hn.2 hs.1 hs.2 h0 h1 h2 h3 h4 h5 h6 h7

end Go.Proofs.Ytojabjdpjnmkdaa
