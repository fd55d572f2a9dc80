/- nat: Cmp, bit, of, Of, Int, Add, Sub -/
import Derived.Test.YtfciebajiihcfaaDoorNatA
namespace Go.Proofs.YtfciebajiihcfaaDoor
open Go.RowKit
set_option linter.unusedVariables false
set_option maxRecDepth 100000

def cmpN (x y : Nat) : Int := if x < y then -1 else if y < x then 1 else 0

/-- the outcome of a comparison, out of the parts -/
theorem cmp_fin (x y : Nat) (a0 a1 a2 a3 b0 b1 b2 b3 r : Int) (hx : (x : Int) = num4 a0 a1 a2 a3) (hy : (y : Int) = num4 b0 b1 b2 b3)
    (p : 0 ≤ a0 ∧ a0 ≤ 4294967295 ∧ 0 ≤ a1 ∧ a1 ≤ 4294967295 ∧ 0 ≤ a2 ∧ a2 ≤ 4294967295 ∧ 0 ≤ a3 ∧ a3 ≤ 4294967295) (q : 0 ≤ b0 ∧ b0 ≤ 4294967295 ∧ 0 ≤ b1 ∧ b1 ≤ 4294967295 ∧ 0 ≤ b2 ∧ b2 ≤ 4294967295 ∧ 0 ≤ b3 ∧ b3 ≤ 4294967295)
    (h : (r = -1 ∧ (a3 < b3 ∨ a3 = b3 ∧ (a2 < b2 ∨ a2 = b2 ∧ (a1 < b1 ∨ a1 = b1 ∧ a0 < b0)))) ∨ (r = 1 ∧ (b3 < a3 ∨ a3 = b3 ∧ (b2 < a2 ∨ a2 = b2 ∧ (b1 < a1 ∨ a1 = b1 ∧ b0 < a0)))) ∨ (r = 0 ∧ a3 = b3 ∧ a2 = b2 ∧ a1 = b1 ∧ a0 = b0)) : r = cmpN x y := by
  unfold num4 at hx hy
  unfold cmpN
  by_cases h1 : x < y
  · rw [if_pos h1]; omega
  · rw [if_neg h1]
    by_cases h2 : y < x
    · rw [if_pos h2]; omega
    · rw [if_neg h2]; omega

theorem Cmp_any (x y : Nat) (w : World) (hx : x < big) (hy : y < big) :
    Calls Tryd.prog 20 #[vN x, vN y] w fun e w' => e = .returned (.int .i64 (cmpN x y)) ∧ Below w.heap.size w w' := by
  obtain ⟨a0, a1, a2, a3, ha, hp, hxa⟩ := vN_open x hx
  obtain ⟨b0, b1, b2, b3, hb, hq, hyb⟩ := vN_open y hy
  rw [ha, hb]
  have HP := Lib.hid hp
  have HQ := Lib.hid hq
  have fin := fun r => cmp_fin x y a0 a1 a2 a3 b0 b1 b2 b3 r hxa.out hyb.out hp hq
  have HF := Lib.hid fin
  clear ha hb hx hy hp hq fin hxa hyb
  go_enter Tryd.func20, Tryd.ntmps20
  go_wp2_with fail
  go_loopw [5] (fun i wr => ∃ (k : Int), i = .int .i64 k ∧ -1 ≤ k ∧ k ≤ 3 ∧
      Row wr w.heap.size 28 #[vU a0, vU a1, vU a2, vU a3] ∧ Row wr (w.heap.size + 1) 28 #[vU b0, vU b1, vU b2, vU b3] ∧ Below w.heap.size w wr ∧
      Hid ((k = 3) ∨ (k = 2 ∧ a3 = b3) ∨ (k = 1 ∧ a3 = b3 ∧ a2 = b2) ∨ (k = 0 ∧ a3 = b3 ∧ a2 = b2 ∧ a1 = b1) ∨ (k = -1 ∧ a3 = b3 ∧ a2 = b2 ∧ a1 = b1 ∧ a0 = b0))) (fun i _ => (intOf i + 1).toNat)
  case atStart =>
    refine ⟨3, rfl, by omega, by omega, (Row.new _ _ _).alloc _, ?_, (((Below.refl _ _).alloc (Nat.le_refl _) _).alloc (by simp) _), .inl rfl⟩
    have := Row.new (w.alloc (.cells #[vU a0, vU a1, vU a2, vU a3] 28)) 28 #[vU b0, vU b1, vU b2, vU b3]
    simpa using this
  case round =>
    obtain ⟨k, rfl, k0, k1, rA, rB, hB, hR⟩ := hrel
    obtain ⟨ca0, ca1, ca2, ca3, fa0, fa1, fa2, fa3⟩ := row4 rA
    obtain ⟨cb0, cb1, cb2, cb3, fb0, fb1, fb2, fb3⟩ := row4 rB
    clear fa0 fa1 fa2 fa3 fb0 fb1 fb2 fb3
    rcases hR.out with rfl | ⟨rfl, e3⟩ | ⟨rfl, e3, e2⟩ | ⟨rfl, e3, e2, e1⟩ | ⟨rfl, e3, e2, e1, e0⟩
    · clear hR
      rcases Int.lt_trichotomy a3 b3 with hlt | heq | hgt
      · go_wp2_with fail
        go_quiet (fail)
        go_wp2_with fail
        go_ret
        exact ⟨ret_int (HF.out (-1) (.inl ⟨rfl, by omega⟩)), Below.drewN hB _⟩
      · have l1 : a3 ≤ b3 := by omega
        have l2 : b3 ≤ a3 := by omega
        have E2 := Lib.hid heq
        clear heq
        go_wp2_with fail
        go_quiet (fail)
        go_wp2_with fail
        go_quiet (fail)
        go_wp2_with fail
        go_roundw
        case rel =>
          refine ⟨2, rfl, by omega, by omega, (rA.drewN _), (rB.drewN _), Below.drewN hB _, ?_⟩
          have h2 := E2.out
          skip
          unfold Hid
          omega
        case measure => simp [intOf]
      · go_wp2_with fail
        go_quiet (fail)
        go_wp2_with fail
        go_quiet (fail)
        go_wp2_with fail
        go_ret
        exact ⟨ret_int (HF.out 1 (.inr (.inl ⟨rfl, by omega⟩))), Below.drewN (Below.drewN hB _) _⟩
    · have E := Lib.hid (And.intro e3 trivial)
      clear e3 hR
      rcases Int.lt_trichotomy a2 b2 with hlt | heq | hgt
      · go_wp2_with fail
        go_quiet (fail)
        go_wp2_with fail
        go_ret
        exact ⟨ret_int (HF.out (-1) (.inl ⟨rfl, by have := E.out; omega⟩)), Below.drewN hB _⟩
      · have l1 : a2 ≤ b2 := by omega
        have l2 : b2 ≤ a2 := by omega
        have E2 := Lib.hid heq
        clear heq
        go_wp2_with fail
        go_quiet (fail)
        go_wp2_with fail
        go_quiet (fail)
        go_wp2_with fail
        go_roundw
        case rel =>
          refine ⟨1, rfl, by omega, by omega, (rA.drewN _), (rB.drewN _), Below.drewN hB _, ?_⟩
          have h2 := E2.out
          have h1 := E.out
          unfold Hid
          omega
        case measure => simp [intOf]
      · go_wp2_with fail
        go_quiet (fail)
        go_wp2_with fail
        go_quiet (fail)
        go_wp2_with fail
        go_ret
        exact ⟨ret_int (HF.out 1 (.inr (.inl ⟨rfl, by have := E.out; omega⟩))), Below.drewN (Below.drewN hB _) _⟩
    · have E := Lib.hid (And.intro e3 (And.intro e2 trivial))
      clear e3 e2 hR
      rcases Int.lt_trichotomy a1 b1 with hlt | heq | hgt
      · go_wp2_with fail
        go_quiet (fail)
        go_wp2_with fail
        go_ret
        exact ⟨ret_int (HF.out (-1) (.inl ⟨rfl, by have := E.out; omega⟩)), Below.drewN hB _⟩
      · have l1 : a1 ≤ b1 := by omega
        have l2 : b1 ≤ a1 := by omega
        have E2 := Lib.hid heq
        clear heq
        go_wp2_with fail
        go_quiet (fail)
        go_wp2_with fail
        go_quiet (fail)
        go_wp2_with fail
        go_roundw
        case rel =>
          refine ⟨0, rfl, by omega, by omega, (rA.drewN _), (rB.drewN _), Below.drewN hB _, ?_⟩
          have h2 := E2.out
          have h1 := E.out
          unfold Hid
          omega
        case measure => simp [intOf]
      · go_wp2_with fail
        go_quiet (fail)
        go_wp2_with fail
        go_quiet (fail)
        go_wp2_with fail
        go_ret
        exact ⟨ret_int (HF.out 1 (.inr (.inl ⟨rfl, by have := E.out; omega⟩))), Below.drewN (Below.drewN hB _) _⟩
    · have E := Lib.hid (And.intro e3 (And.intro e2 (And.intro e1 trivial)))
      clear e3 e2 e1 hR
      rcases Int.lt_trichotomy a0 b0 with hlt | heq | hgt
      · go_wp2_with fail
        go_quiet (fail)
        go_wp2_with fail
        go_ret
        exact ⟨ret_int (HF.out (-1) (.inl ⟨rfl, by have := E.out; omega⟩)), Below.drewN hB _⟩
      · have l1 : a0 ≤ b0 := by omega
        have l2 : b0 ≤ a0 := by omega
        have E2 := Lib.hid heq
        clear heq
        go_wp2_with fail
        go_quiet (fail)
        go_wp2_with fail
        go_quiet (fail)
        go_wp2_with fail
        go_roundw
        case rel =>
          refine ⟨-1, rfl, by omega, by omega, (rA.drewN _), (rB.drewN _), Below.drewN hB _, ?_⟩
          have h2 := E2.out
          have h1 := E.out
          unfold Hid
          omega
        case measure => simp [intOf]
      · go_wp2_with fail
        go_quiet (fail)
        go_wp2_with fail
        go_quiet (fail)
        go_wp2_with fail
        go_ret
        exact ⟨ret_int (HF.out 1 (.inr (.inl ⟨rfl, by have := E.out; omega⟩))), Below.drewN (Below.drewN hB _) _⟩
    · have E := Lib.hid (And.intro e3 (And.intro e2 (And.intro e1 e0)))
      clear e3 e2 e1 e0 hR
      go_wp2_with fail
      go_ret
      exact ⟨ret_int (HF.out 0 (.inr (.inr ⟨rfl, E.out⟩))), hB⟩

/-- nat.of: a number of 64 bits -/
theorem of_any (n : Nat) (w : World) (h : n < 18446744073709551616) :
    Calls Tryd.prog 38 #[.int .u64 (n : Int)] w fun e w' => e = .returned (vN n) ∧ Below w.heap.size w w' := by
  obtain ⟨q, hq⟩ : ∃ q : Int, (n : Int) = q := ⟨_, rfl⟩
  have q0 : 0 ≤ q := by omega
  have q1 : q ≤ 18446744073709551615 := by omega
  have fin : Value.agg #[vU (q % 4294967296), vU (q / 4294967296), vU 0, vU 0] = vN n := vN_shut _ _ _ _ n (by omega) (by rw [hq]; unfold num4; omega)
  rw [← fin, hq]
  clear fin hq h
  go_enter Tryd.func38, Tryd.ntmps38
  go_wp2_with fail
  refine bodyPost_ret (res_c rfl rfl (load4 (Row.new _ _ _))) rfl ⟨rfl, ?_⟩
  exact (Below.refl _ _).alloc (Nat.le_refl _) _

theorem Of_yes (n : Int) (w : World) (h0 : 0 ≤ n) (h1 : n ≤ 9223372036854775807) :
    Calls Tryd.prog 23 #[.int .i64 n] w fun e w' => e = .returned (.tuple #[vN n.toNat, .int .i64 0]) ∧ Below w.heap.size w w' := by
  obtain ⟨m, rfl⟩ := Int.eq_ofNat_of_zero_le h0
  rw [Int.toNat_natCast]
  go_enter Tryd.func23, Tryd.ntmps23
  go_wp2_with (go_at_call 38; refine (of_any m _ (by omega)).mono ?_; rintro e w2 ⟨rfl, hb2⟩; have hc := (bcell hb2).1; have hf := (bcell hb2).2; have hz := hb2.size)
  have r1 := (Row.new w 28 #[vU 0, vU 0, vU 0, vU 0]).below hb2 (by simp)
  refine bodyPost_ret (res_ct rfl rfl (load4 (r1.stored4 _ _ _ _))) rfl ⟨rfl, ?_⟩
  exact Below.stored4 (((Below.refl _ _).alloc (Nat.le_refl _) _).trans (hb2.mono (by simp))) (Nat.le_refl _) _ _ _ _

theorem Of_no (n : Int) (w : World) (h0 : n < 0) :
    Calls Tryd.prog 23 #[.int .i64 n] w fun e w' => e = .returned (.tuple #[vN 0, .int .i64 21]) ∧ Below w.heap.size w w' := by
  go_enter Tryd.func23, Tryd.ntmps23
  go_wp2
  refine bodyPost_ret (res_ct rfl rfl (load4 (Row.new _ _ _))) rfl ⟨rfl, ?_⟩
  exact (Below.refl _ _).alloc (Nat.le_refl _) _

theorem ofInt_i64 (a : Nat) (ha : a < 9223372036854775808) : (BitVec.ofInt 64 (a : Int)).toNat = a := by
  rw [BitVec.ofInt_natCast, BitVec.toNat_ofNat]; exact Nat.mod_eq_of_lt (by omega)
theorem i64_or_nat (a b : Nat) (ha : a < 9223372036854775808) (hb : b < 9223372036854775808) : bits .or .i64 (a : Int) (b : Int) = ((a ||| b : Nat) : Int) := by
  have hx : a ||| b < 2 ^ 63 := Nat.or_lt_two_pow (by omega) (by omega)
  show IntKind.i64.wrap ((BitVec.ofInt 64 (a : Int) ||| BitVec.ofInt 64 (b : Int)).toNat : Int) = _
  rw [BitVec.toNat_or, ofInt_i64 a ha, ofInt_i64 b hb, IntKind.wrap_i64]
  omega

theorem bits_or (a b : Int) (a0 : 0 ≤ a) (a1 : a < 2147483648) (b0 : 0 ≤ b) (b1 : b < 4294967296) : bits .or .i64 (a * 4294967296) b = a * 4294967296 + b := by
  obtain ⟨x, rfl⟩ := Int.eq_ofNat_of_zero_le a0
  obtain ⟨y, rfl⟩ := Int.eq_ofNat_of_zero_le b0
  rw [show ((x : Int) * 4294967296) = ((x * 4294967296 : Nat) : Int) from by omega, i64_or_nat _ _ (by omega) (by omega)]
  have : 2 ^ 32 * x + y = 2 ^ 32 * x ||| y := Nat.two_pow_add_eq_or_of_lt (by omega) x
  have e : x * 4294967296 ||| y = x * 4294967296 + y := by
    rw [Nat.mul_comm]; exact this.symm.trans (by rfl)
  rw [e]
  omega

theorem Int_yes (x : Nat) (w : World) (hx : x < 9223372036854775808) :
    Calls Tryd.prog 27 #[vN x] w fun e w' => e = .returned (.tuple #[.int .i64 (x : Int), .int .i64 0]) ∧ Below w.heap.size w w' := by
  obtain ⟨a0, a1, a2, a3, ha, ⟨p0, p0', p1, p1', p2, p2', p3, p3'⟩, hxa⟩ := vN_open x (by unfold big; omega)
  rw [ha]
  have hn := hxa.out
  unfold num4 at hn
  have z3 : a3 = 0 := by omega
  have z2 : a2 = 0 := by omega
  have z1 : a1 < 2147483648 := by omega
  have hn' : (x : Int) = a1 * 4294967296 + a0 := by omega
  rw [hn']
  subst z3 z2
  clear hn hn' ha hxa hx
  have hor := bits_or a1 a0 (by omega) (by omega) (by omega) (by omega)
  go_enter Tryd.func27, Tryd.ntmps27
  go_wp2
  go_ret2
  exact ⟨rfl, (Below.refl _ _).alloc (Nat.le_refl _) _⟩

theorem Int_no (x : Nat) (w : World) (hx : 9223372036854775808 ≤ x) (hx' : x < big) :
    Calls Tryd.prog 27 #[vN x] w fun e w' => e = .returned (.tuple #[.int .i64 0, .int .i64 3]) ∧ Below w.heap.size w w' := by
  obtain ⟨a0, a1, a2, a3, ha, ⟨p0, p0', p1, p1', p2, p2', p3, p3'⟩, hxa⟩ := vN_open x hx'
  rw [ha]
  have hn := hxa.out
  unfold num4 at hn
  have hc : 0 < a3 ∨ 0 < a2 ∨ 2147483648 ≤ a1 := by omega
  clear hn ha hxa hx
  by_cases h3 : 0 < a3
  · clear hc
    go_enter Tryd.func27, Tryd.ntmps27
    go_wp2
    go_ret2
    exact ⟨rfl, (Below.refl _ _).alloc (Nat.le_refl _) _⟩
  · have h3' : a3 ≤ 0 := by omega
    by_cases h2 : 0 < a2
    · clear hc h3
      go_enter Tryd.func27, Tryd.ntmps27
      go_wp2
      go_ret2
      exact ⟨rfl, (Below.refl _ _).alloc (Nat.le_refl _) _⟩
    · have h2' : a2 ≤ 0 := by omega
      have h1 : 2147483648 ≤ a1 := by omega
      clear hc h2 h3
      go_enter Tryd.func27, Tryd.ntmps27
      go_wp2
      go_ret2
      exact ⟨rfl, (Below.refl _ _).alloc (Nat.le_refl _) _⟩

theorem Add_yes (x y : Nat) (w : World) (hx : x < big) (hy : y < big) (h : x + y < big) :
    Calls Tryd.prog 15 #[vN x, vN y] w fun e w' => e = .returned (.tuple #[vN (x + y), .int .i64 0]) ∧ Below w.heap.size w w' := by
  have e1 : (x + y) % big = x + y := Nat.mod_eq_of_lt h
  have e2 : cry x y = 0 := by unfold cry; rw [Nat.div_eq_of_lt h]; rfl
  have E1 := Lib.hid e1
  have E2 := Lib.hid e2
  clear e1 e2 h
  go_enter Tryd.func15, Tryd.ntmps15
  go_wp2_with (go_at_call 33; refine (add_any x y _ hx hy).mono ?_; rintro e w2 ⟨rfl, hb2⟩; rw [E1.out, E2.out]; obtain ⟨rA, rB, rC, hB, hz0, hz1, hz2⟩ := rows3 hb2; clear hb2; obtain ⟨cc0, cc1, cc2, cc3, fc0, fc1, fc2, fc3⟩ := row4 rC)
  refine bodyPost_ret (res_ct rfl rfl (load4 ((rC.stored4 _ _ _ _).alloc _))) rfl ⟨rfl, ?_⟩
  exact (Below.stored4 hB (by omega) _ _ _ _).alloc (by simp; omega) _

theorem Add_no (x y : Nat) (w : World) (hx : x < big) (hy : y < big) (h : big ≤ x + y) :
    Calls Tryd.prog 15 #[vN x, vN y] w fun e w' => e = .returned (.tuple #[vN 0, .int .i64 3]) ∧ Below w.heap.size w w' := by
  have e2 : cry x y = 1 := by
    unfold cry
    have : (x + y) / big = 1 := by
      unfold big at *
      omega
    rw [this]; rfl
  have E2 := Lib.hid e2
  clear e2 h
  go_enter Tryd.func15, Tryd.ntmps15
  go_wp2_with (go_at_call 33; refine (add_any x y _ hx hy).mono ?_; rintro e w2 ⟨rfl, hb2⟩; rw [E2.out]; obtain ⟨rA, rB, rC, hB, hz0, hz1, hz2⟩ := rows3 hb2; clear hb2; obtain ⟨cc0, cc1, cc2, cc3, fc0, fc1, fc2, fc3⟩ := row4 rC)
  refine bodyPost_ret (res_ct rfl rfl (load4 ((rC.stored4 _ _ _ _).alloc _))) rfl ⟨rfl, ?_⟩
  exact (Below.stored4 hB (by omega) _ _ _ _).alloc (by simp; omega) _

theorem Sub_yes (x y : Nat) (w : World) (hx : x < big) (hy : y < big) (h : y ≤ x) :
    Calls Tryd.prog 21 #[vN x, vN y] w fun e w' => e = .returned (.tuple #[vN (x - y), .int .i64 0]) ∧ Below w.heap.size w w' := by
  have e1 : (x + big - y) % big = x - y := by unfold big at *; omega
  have e2 : 0 ≤ cmpN x y := by unfold cmpN; rw [if_neg (by omega)]; split <;> omega
  have E1 := Lib.hid e1
  clear e1
  go_enter Tryd.func21, Tryd.ntmps21
  go_wp2_with (first
    | (go_at_call 20; refine (Cmp_any x y _ hx hy).mono ?_; rintro e w2 ⟨rfl, hb2⟩; obtain ⟨rA, rB, rC, hB, hz0, hz1, hz2⟩ := rows3 hb2; clear hb2; obtain ⟨ca0, ca1, ca2, ca3, fa0, fa1, fa2, fa3⟩ := row4 rA; obtain ⟨cb0, cb1, cb2, cb3, fb0, fb1, fb2, fb3⟩ := row4 rB)
    | (go_at_call 36; refine (sub_any x y _ hx hy).mono ?_; rintro e w3 ⟨rfl, hb3⟩; rw [E1.out]; have rD := rC.below hb3 hz2; obtain ⟨cc0, cc1, cc2, cc3, fc0, fc1, fc2, fc3⟩ := row4 rD))
  refine bodyPost_ret (res_ct rfl rfl (load4 (rD.stored4 _ _ _ _))) rfl ⟨rfl, ?_⟩
  exact Below.stored4 (hB.trans (hb3.mono hB.size)) (by omega) _ _ _ _

theorem Sub_no (x y : Nat) (w : World) (hx : x < big) (hy : y < big) (h : x < y) :
    Calls Tryd.prog 21 #[vN x, vN y] w fun e w' => e = .returned (.tuple #[vN 0, .int .i64 21]) ∧ Below w.heap.size w w' := by
  have e2 : cmpN x y < 0 := by unfold cmpN; rw [if_pos h]; omega
  go_enter Tryd.func21, Tryd.ntmps21
  go_wp2_with (first
    | (go_at_call 20; refine (Cmp_any x y _ hx hy).mono ?_; rintro e w2 ⟨rfl, hb2⟩; obtain ⟨rA, rB, rC, hB, hz0, hz1, hz2⟩ := rows3 hb2; clear hb2; obtain ⟨cc0, cc1, cc2, cc3, fc0, fc1, fc2, fc3⟩ := row4 rC))
  refine bodyPost_ret (res_ct rfl rfl (load4 (rC.stored4 _ _ _ _))) rfl ⟨rfl, ?_⟩
  exact Below.stored4 hB (by omega) _ _ _ _

end Go.Proofs.YtfciebajiihcfaaDoor
