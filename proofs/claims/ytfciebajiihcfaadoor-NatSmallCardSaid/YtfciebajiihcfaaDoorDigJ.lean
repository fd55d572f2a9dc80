/- finesseref02: Choose, Read -/
import Derived.Test.YtfciebajiihcfaaDoorDigI
import Derived.Test.YtfciebajiihcfaaDoorNatH
import Derived.Test.YtfciebajiihcfaaDoorNatR
namespace Go.Proofs.YtfciebajiihcfaaDoor
open Go.RowKit
set_option linter.unusedVariables false
set_option linter.unusedSimpArgs false
set_option maxRecDepth 100000
set_option maxHeartbeats 2000000

/-- the choices of one thing more -/
theorem ch_abs (m : Nat) : ∀ j, ch (m + 1) (j + 1) * (j + 1) = ch m j * (m + 1) := by
  induction m with
  | zero =>
    intro j
    cases j with
    | zero => rfl
    | succ j => rw [ch_over 1 (j + 1 + 1) (by omega), ch_over 0 (j + 1) (by omega)]; simp
  | succ m ih =>
    intro j
    rw [ch_succ (m + 1) j]
    cases j with
    | zero =>
      have h := ih 0
      rw [ch_zero] at h ⊢
      simp only [Nat.zero_add, Nat.mul_one] at h ⊢
      omega
    | succ i =>
      have h1 := ih i
      have h2 := ih (i + 1)
      rw [Nat.add_mul, h2]
      have h3 : ch (m + 1) (i + 1) * (i + 1 + 1) = ch (m + 1) (i + 1) * (i + 1) + ch (m + 1) (i + 1) := by rw [Nat.mul_add, Nat.mul_one]
      rw [h3, h1]
      have h4 : ch (m + 1) (i + 1) * (m + 1 + 1) = ch (m + 1) (i + 1) * (m + 1) + ch (m + 1) (i + 1) := by rw [Nat.mul_add, Nat.mul_one]
      rw [h4]
      have h5 : ch (m + 1) (i + 1) * (m + 1) = ch m i * (m + 1) + ch m (i + 1) * (m + 1) := by rw [ch_succ, Nat.add_mul]
      rw [h5]
      omega

theorem ch_round (b i : Nat) : ch (b + i) i * (b + (i + 1)) / (i + 1) = ch (b + (i + 1)) (i + 1) := by
  have h := ch_abs (b + i) i
  rw [show b + (i + 1) = b + i + 1 by omega, ← h, Nat.mul_div_cancel _ (Nat.succ_pos i)]

theorem len_ch (m i : Nat) (h : m ≤ 128) : (dgs (ch m i)).length ≤ 39 := len_big _ (ch_big m i h)

theorem one_dg (w : World) (B : Nat) (hB : w.heap.size = B) : Dg (w.alloc (.cells #[.int .i64 1] 3)) (.slice (some ⟨B, 0, none⟩) 1 1) 1 := by
  subst hB
  have h1 : dgs 1 = [1] := by rw [dgs_pos (by decide)]; show 1 % 10 :: dgs 0 = _; rw [dgs_zero]
  unfold Dg Ns
  rw [h1]
  refine ⟨rfl, .inr ⟨by decide, w.heap.size, 0, 1, rfl, by simp, Nat.le_refl _, Nat.le_refl _, by simp [maxLen], fun j hj => ?_⟩⟩
  obtain rfl : j = 0 := by simpa using hj
  exact (Row.new w 3 #[.int .i64 1]).cell 0

theorem rChoose_any (n k : Int) (w : World) (hn : -9223372036854775808 ≤ n ∧ n ≤ 9223372036854775807) (hk : -9223372036854775808 ≤ k ∧ k ≤ 9223372036854775807) :
    Calls Tryd.prog 32 #[.int .i64 n, .int .i64 k] w fun e w' => e = .returned (vChoose n k) ∧ Below w.heap.size w w' := by
  obtain ⟨n0, n1⟩ := hn
  obtain ⟨k0, k1⟩ := hk
  have d00 : dg 0 0 = 0 := rfl
  have d10 : dg 1 0 = 0 := rfl
  have d20 : dg 2 0 = 0 := rfl
  have d30 : dg 3 0 = 0 := rfl
  unfold vChoose
  by_cases h1 : n < 0
  · rw [if_pos h1]
    go_enter Tryd.func32, Tryd.ntmps32
    go_wp2
    exact bodyPost_ret (res_ct rfl rfl (load4' (Row.new _ _ _))) rfl ⟨rfl, (Below.refl _ _).alloc (Nat.le_refl _) _⟩
  · rw [if_neg h1]
    have h1' : 0 ≤ n := by omega
    by_cases h2 : 128 < n
    · rw [if_pos h2]
      clear h1
      go_enter Tryd.func32, Tryd.ntmps32
      go_wp2
      exact bodyPost_ret (res_ct rfl rfl (load4' (Row.new _ _ _))) rfl ⟨rfl, (Below.refl _ _).alloc (Nat.le_refl _) _⟩
    · rw [if_neg h2]
      have h2' : n ≤ 128 := by omega
      by_cases h3 : k < 0 ∨ n < k
      · rw [if_pos h3]
        clear h1 h2
        by_cases h4 : k < 0
        · clear h3
          go_enter Tryd.func32, Tryd.ntmps32
          go_wp2
          exact bodyPost_ret (res_ct rfl rfl (load4' (Row.new _ _ _))) rfl ⟨rfl, (Below.refl _ _).alloc (Nat.le_refl _) _⟩
        · have h5 : n < k := by omega
          have h6 : 0 ≤ k := by omega
          clear h3 h4
          go_enter Tryd.func32, Tryd.ntmps32
          go_wp2
          exact bodyPost_ret (res_ct rfl rfl (load4' (Row.new _ _ _))) rfl ⟨rfl, (Below.refl _ _).alloc (Nat.le_refl _) _⟩
      · rw [if_neg h3]
        obtain ⟨N, rfl⟩ : ∃ N : Nat, n = N := ⟨n.toNat, by omega⟩
        obtain ⟨K, rfl⟩ : ∃ K : Nat, k = K := ⟨k.toNat, by omega⟩
        rw [Int.toNat_natCast, Int.toNat_natCast]
        have hKN : K ≤ N := by omega
        have hN : N ≤ 128 := by omega
        have hpv : vParts (ch N K) = .tuple #[vN (ch N K), .int .i64 0] := by unfold vParts; rw [if_pos (ch_big N K hN)]
        obtain ⟨C, hC⟩ : ∃ C, ch N K = C := ⟨_, rfl⟩
        have hlC : (dgs C).length ≤ 39 := by rw [← hC]; exact len_ch N K hN
        rw [hC] at hpv ⊢
        have HC := Lib.hid (And.intro hC (And.intro hpv hlC))
        have t1 : decide ((N : Int) < (K : Int)) = false := decide_eq_false (by omega)
        have t2 : decide (N < K) = false := decide_eq_false (by omega)
        clear h1 h1' h2 h2' h3 n0 n1 k0 k1 hpv hC hlC
        go_enter Tryd.func32, Tryd.ntmps32
        go_wp2_with fail
        go_loopw [6, 7] (fun o i wr => ∃ (vo : Value) (j : Nat), o = vo ∧ i = .int .i64 ((j : Int) + 1) ∧ j ≤ K ∧ Hid (Dg wr vo (ch (N - K + j) j)) ∧ Row wr w.heap.size 27 (pN 0) ∧ Below w.heap.size w wr) (fun _ i _ => K + 1 - (intOf i).toNat)
        case atStart =>
          refine ⟨_, 0, rfl, rfl, by omega, Lib.hid ?_, (Row.new _ _ _).alloc _, ((Below.refl _ _).alloc (Nat.le_refl _) _).alloc (by simp) _⟩
          rw [ch_zero]
          exact one_dg _ _ (by simp)
        case round =>
          obtain ⟨vo, j, hvo, rfl, hj, hG, r2, hB⟩ := hrel
          subst hvo
          have zr := r2.lt
          by_cases hjK : j < K
          · have hlj := len_ch (N - K + j) j (by omega)
            have hln := len_ch (N - K + (j + 1)) (j + 1) (by omega)
            have hrd := ch_round (N - K) j
            obtain ⟨z, hz⟩ : ∃ z, ch (N - K + j) j = z := ⟨_, rfl⟩
            rw [hz] at hG hlj hrd
            obtain ⟨M, hM⟩ : ∃ M, N - K + (j + 1) = M := ⟨_, rfl⟩
            rw [hM] at hrd
            have hMl : (dgs M).length ≤ 19 := dgs_len_le (by omega)
            have hjl : (dgs (j + 1)).length ≤ 19 := dgs_len_le (by omega)
            have hml := dgs_len_le (mul_lt_pow z M)
            have hMi : (N : Int) - (K : Int) + ((j : Int) + 1) = (M : Int) := by omega
            have hM63 : M < 9223372036854775808 := by omega
            have HX := Lib.hid (And.intro hlj (And.intro hrd (And.intro hMl (And.intro hjl (And.intro hml (And.intro hM (And.intro r2 (And.intro hB hMi))))))))
            clear hlj hln hrd hz hMl hjl hml hM r2 hB hMi
            go_wp2_with (go_at_call 51; refine stopD_of ?_)
            unfold StopD
            rw [HX.out.2.2.2.2.2.2.2.2]
            refine (of_dg M _ hM63).mono ?_
            rintro e w3 ⟨v3, rfl, hv3, hb3⟩
            have H3 := Lib.hid (And.intro (hG.out.later hb3) (And.intro hv3 hb3))
            clear hv3 hb3
            go_wp2_with (go_at_call 49; refine stopD_of ?_)
            unfold StopD
            refine (mul_dg _ _ z M _ H3.out.1 H3.out.2.1 (Nat.le_trans HX.out.1 (by decide)) (Nat.le_trans HX.out.2.2.1 (by decide))).mono ?_
            rintro e w4 ⟨v4, rfl, hv4, hb4⟩
            have H4 := Lib.hid (And.intro hv4 (H3.out.2.2.trans (hb4.mono H3.out.2.2.size)))
            clear hv4 hb4 H3
            go_wp2_with (go_at_call 51; refine stopD_of ?_)
            unfold StopD
            refine (of_dg (j + 1) _ (by omega)).mono ?_
            rintro e w5 ⟨v5, rfl, hv5, hb5⟩
            have H5 := Lib.hid (And.intro (H4.out.1.later hb5) (And.intro hv5 (H4.out.2.trans (hb5.mono H4.out.2.size))))
            clear hv5 hb5 H4
            go_wp2_with (go_at_call 52; refine stopD_of ?_)
            unfold StopD
            refine (div_dg _ _ (z * M) (j + 1) _ H5.out.1 H5.out.2.1 (Nat.le_trans HX.out.2.2.2.2.1 (Nat.le_trans (Nat.add_le_add HX.out.1 HX.out.2.2.1) (by decide))) (Nat.le_trans HX.out.2.2.2.1 (by decide)) (Nat.succ_pos j)).mono ?_
            rintro e w6 ⟨v6, v7, rfl, hv6, -, hb6⟩
            have hb06 := H5.out.2.2.trans (hb6.mono H5.out.2.2.size)
            rw [HX.out.2.1, ← HX.out.2.2.2.2.2.1] at hv6
            have H6 := Lib.hid (And.intro hv6 (And.intro (dr0 HX.out.2.2.2.2.2.2.1 hb06) (dc0 HX.out.2.2.2.2.2.2.2.1 hb06)))
            clear hv6 hb6 hb06 H5
            go_wp2_with fail
            go_roundw
            case rel => exact ⟨v6, j + 1, rfl, by go_num, by omega, Lib.hid H6.out.1, H6.out.2.1, H6.out.2.2⟩
            case measure => simp [intOf]; omega
          · obtain rfl : j = K := by omega
            have hfin : ch (N - j + j) j = C := by rw [Nat.sub_add_cancel hKN]; exact HC.out.1
            rw [hfin] at hG
            have HE := Lib.hid (And.intro r2 hB)
            clear hfin r2 hB
            go_wp2_with (go_at_call 47; refine stopD_of ?_)
            unfold StopD
            refine (parts_dg _ C _ hG.out (Nat.le_trans HC.out.2.2 (by decide))).mono ?_
            rintro e w4 ⟨rfl, hb4⟩
            rw [HC.out.2.1]
            have r4 := dr0 HE.out.1 hb4
            have hB4 := dc0 HE.out.2 hb4
            clear hb4 HE
            obtain ⟨c20, c21, c22, c23, f20, f21, f22, f23⟩ := row4 r4
            go_wp2_with fail
            refine bodyPost_ret (res_ct rfl rfl (load4' (r4.stored4 _ _ _ _))) rfl ⟨rfl, Below.stored4 hB4 (Nat.le_refl _) _ _ _ _⟩

theorem decV_dval (l : List UInt8) : ∀ v, decV v l = v * 10 ^ l.length + dval ((l.map fun b => b.toNat - 48).reverse) := by
  induction l with
  | nil => intro v; show v = v * 1 + 0; omega
  | cons b l ih =>
    intro v
    show decV (v * 10 + (b.toNat - 48)) l = _
    rw [ih, List.map_cons, List.reverse_cons, dval_snoc, List.length_cons, List.length_reverse, List.length_map, Nat.pow_succ, Nat.add_mul, Nat.mul_assoc, Nat.mul_comm 10 (10 ^ l.length), Nat.mul_comm (b.toNat - 48)]
    omega

theorem rRead_any (s : ByteArray) (w : World) (hs : s.size ≤ 1000) :
    Calls Tryd.prog 29 #[.string s] w fun e w' => e = .returned (vNRead s.data.toList) ∧ Below w.heap.size w w' := by
  have hsz : s.data.toList.length = s.size := by rw [Array.length_toList]; rfl
  obtain ⟨l, hl⟩ : ∃ l, s.data.toList = l := ⟨_, rfl⟩
  obtain ⟨R, hR⟩ : ∃ R, vNRead l = R := ⟨_, rfl⟩
  have d00 : dg 0 0 = 0 := rfl
  have d10 : dg 1 0 = 0 := rfl
  have d20 : dg 2 0 = 0 := rfl
  have d30 : dg 3 0 = 0 := rfl
  rw [hl, hR]
  rw [hl] at hsz
  have HR := Lib.hid hR
  have HL := Lib.hid hl
  have HSz := Lib.hid hsz
  clear hR hl hsz
  by_cases he : s.size = 0
  · have hv : R = .tuple #[vN 0, .int .i64 20] := by
      rw [← HR.out]
      unfold vNRead
      rw [if_pos (show badS l from Or.inl (List.eq_nil_of_length_eq_zero (HSz.out.trans he)))]
    subst hv
    go_enter Tryd.func29, Tryd.ntmps29
    go_wp2_with fail
    exact bodyPost_ret (res_ct rfl rfl (load4' (Row.new _ _ _))) rfl ⟨rfl, (Below.refl _ _).alloc (Nat.le_refl _) _⟩
  · have hs0 : 0 < s.size := by omega
    have hne : ((s.size : Int) == 0) = false := by rw [beq_eq_false_iff_ne]; omega
    obtain ⟨b0, hb0⟩ : ∃ b, s[0] = b := ⟨_, rfl⟩
    have hhd : l.head? = some b0 := by
      rw [← HL.out, List.head?_eq_getElem?, List.getElem?_eq_getElem (by have := HSz.out; rw [HL.out]; omega)]
      exact congrArg some hb0
    by_cases hz : 1 < s.size ∧ b0 = 48
    · obtain ⟨h1, rfl⟩ := hz
      have hv : R = .tuple #[vN 0, .int .i64 20] := by
        rw [← HR.out]
        unfold vNRead
        rw [if_pos (show badS l from Or.inr (Or.inl ⟨by rw [HSz.out]; exact h1, hhd⟩))]
      subst hv
      have h1d : decide ((1 : Int) < (s.size : Int)) = true := by simp; omega
      clear hhd he
      go_enter Tryd.func29, Tryd.ntmps29
      go_wp2_with fail
      exact bodyPost_ret (res_ct rfl rfl (load4' (Row.new _ _ _))) rfl ⟨rfl, (Below.refl _ _).alloc (Nat.le_refl _) _⟩
    · have hcase : ¬ (1 : Int) < (s.size : Int) ∨ ((1 : Int) < (s.size : Int) ∧ (((b0.toNat : Nat) : Int) == 48) = false) := by
        by_cases h1 : 1 < s.size
        · refine Or.inr ⟨by omega, ?_⟩
          rw [beq_eq_false_iff_ne]
          intro e
          exact hz ⟨h1, UInt8.toNat_inj.1 (by show b0.toNat = 48; omega)⟩
        · exact Or.inl (by omega)
      have hgood : (∀ b ∈ l, isDg b = true) → R = vParts (decV 0 l) := by
        intro hall
        have hbad : ¬ badS l := by
          rintro (h | ⟨h3, h4⟩ | h)
          · have := HSz.out; rw [h] at this; simp at this; omega
          · exact hz ⟨by have := HSz.out; omega, by rw [hhd] at h4; exact Option.some.inj h4⟩
          · exact h hall
        rw [← HR.out]
        unfold vNRead
        rw [if_neg hbad]
        rfl
      have hbadn : (¬ ∀ b ∈ l, isDg b = true) → R = .tuple #[vN 0, .int .i64 20] := by
        intro h
        rw [← HR.out]
        unfold vNRead
        rw [if_pos (show badS l from Or.inr (Or.inr h))]
      have HH := Lib.hid (And.intro hgood hbadn)
      clear hhd hz hgood hbadn he
      go_enter Tryd.func29, Tryd.ntmps29
      rcases hcase with h1 | ⟨h1, h2⟩
      all_goals
        go_wp2_with fail
        go_loopw [4, 5] (fun o i wr => ∃ (k : Nat) (L : List Nat), i = .int .i64 ((k : Int) - 1) ∧ k ≤ s.size ∧ wr.ownsRow (w.heap.size + 1) 3 1 o (s.size - k) (nts L) ∧ Below (w.heap.size + 1) (w.alloc (.cells (pN 0) 27)) wr ∧ Hid (L = ((l.drop k).map fun b => b.toNat - 48).reverse ∧ ∀ b ∈ l.drop k, isDg b = true)) (fun _ i _ => (intOf i + 1).toNat)
        case atStart => exact ⟨s.size, [], by rfl, Nat.le_refl _, by rw [Nat.sub_self]; exact ownNil _ _ _, Below.refl _ _, Lib.hid (by rw [List.drop_of_length_le (by have := HSz.out; omega)]; exact ⟨rfl, by simp⟩)⟩
        case round =>
          obtain ⟨k, L, rfl, hk, hown, hBB, hG⟩ := hrel
          have r0 : Row wr w.heap.size 27 (pN 0) := (Row.new w _ _).below hBB (Nat.lt_succ_self _)
          have hsz1 := hBB.size
          simp only [World.size_alloc] at hsz1
          have hB : Below w.heap.size w wr := ((Below.refl _ _).alloc (Nat.le_refl _) _).trans (hBB.mono (Nat.le_succ _))
          obtain ⟨a3, c3, rfl⟩ := own_shape hown
          have HO := Lib.hid (And.intro hown (And.intro r0 hB))
          have HBB := Lib.hid hBB
          have hsz := hB.size
          have z0 := r0.lt
          have hwr0 : w.heap.size ≤ wr.heap.size := hsz
          clear hown hB hBB
          rcases Nat.eq_zero_or_pos k with rfl | hk0
          · have hall : ∀ b ∈ l, isDg b = true := by have := hG.out.2; rwa [List.drop_zero] at this
            have hv := HH.out.1 hall
            have hLd : ∀ d ∈ L, d < 10 := by
              rw [hG.out.1, List.drop_zero]
              intro d hd
              rw [List.mem_reverse, List.mem_map] at hd
              obtain ⟨b, hb, rfl⟩ := hd
              exact (dig_of (hall b hb)).1
            have hLv : dval L = decV 0 l := by rw [hG.out.1, List.drop_zero, decV_dval, Nat.zero_mul, Nat.zero_add]
            have hLl : L.length = s.size - 0 := by rw [hG.out.1, List.length_reverse, List.length_map, List.drop_zero, HSz.out, Nat.sub_zero]
            have hNs : Ns wr (.slice a3 (s.size - 0) c3) L := by unfold Ns; rw [hLl]; exact Rd.of_own HO.out.1
            have hlen : (dgs (decV 0 l)).length ≤ 50000 := by
              have h1 := dval_lt L hLd
              rw [hLv, hLl] at h1
              have := dgs_len_le h1
              omega
            obtain ⟨p9, e9, hpv⟩ : ∃ (n : Nat) (e9 : Int), vParts (decV 0 l) = .tuple #[vN n, .int .i64 e9] := by
              unfold vParts
              split
              · exact ⟨_, _, rfl⟩
              · exact ⟨_, _, rfl⟩
            rw [hpv] at hv
            subst hv
            have HZ := Lib.hid (And.intro hLd (And.intro hLv (And.intro hLl (And.intro hNs (And.intro hlen hpv)))))
            clear hall hLd hLv hLl hNs hlen hpv
            go_wp2_with (go_at_call 48; refine stopD_of ?_)
            unfold StopD
            refine (trim_any _ L _ HZ.out.2.2.2.1 HZ.out.1 (by have := HZ.out.2.2.1; omega)).mono ?_
            rintro e w3 ⟨v3, rfl, hv3, rfl⟩
            rw [HZ.out.2.1] at hv3
            have HV3 := Lib.hid hv3
            clear hv3
            go_wp2_with (go_at_call 47; refine stopD_of ?_)
            unfold StopD
            refine (parts_dg _ (decV 0 l) _ HV3.out HZ.out.2.2.2.2.1).mono ?_
            rintro e w4 ⟨rfl, hb4⟩
            rw [HZ.out.2.2.2.2.2]
            have r4 := dr0 HO.out.2.1 hb4
            have hB4 := dc0 HO.out.2.2 hb4
            clear hb4 r0
            obtain ⟨c20, c21, c22, c23, f20, f21, f22, f23⟩ := row4 r4
            go_wp2_with fail
            refine bodyPost_ret (res_ct rfl rfl (load4' (r4.stored4 _ _ _ _))) rfl ⟨rfl, Below.stored4 hB4 (Nat.le_refl _) _ _ _ _⟩
          · obtain ⟨i, rfl⟩ : ∃ i, k = i + 1 := ⟨k - 1, by omega⟩
            have hi : i < s.size := by omega
            obtain ⟨b, hb⟩ : ∃ b, s[i] = b := ⟨_, rfl⟩
            have hil : i < l.length := by have := HSz.out; omega
            have hlb : l[i] = b := by
              have e : l[i]? = some b := by
                rw [← HL.out, List.getElem?_eq_getElem (by have := HSz.out; rw [HL.out]; omega)]
                exact congrArg some hb
              rw [List.getElem?_eq_getElem hil] at e
              exact Option.some.inj e
            have hdrop : l.drop i = b :: l.drop (i + 1) := by rw [List.drop_eq_getElem_cons hil, hlb]
            have hnot : isDg b = false → R = .tuple #[vN 0, .int .i64 20] := by
              intro h
              refine HH.out.2 (fun hall => ?_)
              have := hall b (by rw [← hlb]; exact List.getElem_mem hil)
              rw [h] at this
              cases this
            have hisd : isDg b = (decide (48 ≤ b.toNat) && decide (b.toNat ≤ 57)) := rfl
            have HN := Lib.hid (And.intro hnot hisd)
            have HD := Lib.hid hdrop
            clear hlb hdrop hnot hisd hk0
            have hb3 : b.toNat < 48 ∨ (48 ≤ b.toNat ∧ 57 < b.toNat) ∨ (48 ≤ b.toNat ∧ b.toNat ≤ 57) := by omega
            rcases hb3 with h48 | ⟨h48, h57⟩ | ⟨h48, h57⟩
            · have hv := HN.out.1 (by rw [HN.out.2, decide_eq_false (by omega)]; rfl)
              subst hv
              have u1 : decide (((b.toNat : Nat) : Int) < 48) = true := decide_eq_true (by omega)
              obtain ⟨c20, c21, c22, c23, f20, f21, f22, f23⟩ := row4 r0
              go_wp2_with fail
              refine bodyPost_ret (res_ct rfl rfl (load4' (r0.stored4 (vU 0) (vU 0) (vU 0) (vU 0)))) rfl ⟨rfl, Below.stored4 HO.out.2.2 (Nat.le_refl _) _ _ _ _⟩
            · have hv := HN.out.1 (by rw [HN.out.2, decide_eq_true h48, decide_eq_false (by omega)]; rfl)
              subst hv
              have u1 : decide (((b.toNat : Nat) : Int) < 48) = false := decide_eq_false (by omega)
              have u2 : decide ((57 : Int) < ((b.toNat : Nat) : Int)) = true := decide_eq_true (by omega)
              obtain ⟨c20, c21, c22, c23, f20, f21, f22, f23⟩ := row4 r0
              go_wp2_with fail
              refine bodyPost_ret (res_ct rfl rfl (load4' (r0.stored4 (vU 0) (vU 0) (vU 0) (vU 0)))) rfl ⟨rfl, Below.stored4 HO.out.2.2 (Nat.le_refl _) _ _ _ _⟩
            · have hdg : isDg b = true := by rw [HN.out.2, decide_eq_true h48, decide_eq_true h57]; rfl
              obtain ⟨d, hdd⟩ : ∃ d, b.toNat - 48 = d := ⟨_, rfl⟩
              have hd10 : d < 10 := by omega
              have u1 : decide (((b.toNat : Nat) : Int) < 48) = false := decide_eq_false (by omega)
              have u2 : decide ((57 : Int) < ((b.toNat : Nat) : Int)) = false := decide_eq_false (by omega)
              have hw8 : IntKind.u8.wrap (((b.toNat : Nat) : Int) - 48) = (d : Int) := by rw [IntKind.wrap_u8]; omega
              have hbd : ((b.toNat : Nat) : Int) - 48 = (d : Int) := by omega
              have hw9 : IntKind.u8.wrap (d : Int) = (d : Int) := by rw [IntKind.wrap_u8]; omega
              have hnext : L ++ [d] = ((l.drop i).map fun b => b.toNat - 48).reverse ∧ ∀ c ∈ l.drop i, isDg c = true := by
                rw [HD.out]
                refine ⟨by rw [List.map_cons, List.reverse_cons, hG.out.1, hdd], fun c hc => ?_⟩
                rcases List.mem_cons.1 hc with rfl | hc
                · exact hdg
                · exact hG.out.2 c hc
              have HX := Lib.hid hnext
              have hnn : s.size - (i + 1) ≤ 1000000 := by omega
              clear hnext hdg hdd
              go_wp2_with (at_builtin; refine stopD_of ?_)
              unfold StopD
              refine append_int (by rfl) _ _ (by rfl) (w.heap.size + 1) (w.heap.size + 1) _ (s.size - (i + 1)) (nts L) _ (by rfl) (by rfl) HO.out.1 hnn hsz1 HBB.out (Nat.le_refl _) ?_
              intro v' w8 hown1 hB8
              obtain ⟨a', c', rfl⟩ := own_shape hown1
              have HO8 := Lib.hid (And.intro hown1 hB8)
              clear hown1 hB8
              go_wp2_with fail
              go_roundw
              case rel =>
                refine ⟨i, L ++ [d], by go_num, by omega, ?_, HO8.out.2, Lib.hid HX.out⟩
                rw [nts_append]
                have h9 := HO8.out.1
                rw [show s.size - (i + 1) + 1 = s.size - i by omega] at h9
                first | exact h9 | (rw [show s.size - i = s.size - (i + 1) + 1 by omega]; exact HO8.out.1)
              case measure => simp [intOf]

end Go.Proofs.YtfciebajiihcfaaDoor
