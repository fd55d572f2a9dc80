/- finesseref02: value, word, most, digits, parts -/
import Derived.Test.YtfciebajiihcfaaDoorDigD
import Derived.Test.YtfciebajiihcfaaDoorNatA
namespace Go.Proofs.YtfciebajiihcfaaDoor
open Go.RowKit
set_option linter.unusedVariables false
set_option linter.unusedSimpArgs false
set_option maxRecDepth 100000
set_option maxHeartbeats 2000000

theorem dval_drop_le (l : List Nat) (k : Nat) : dval (l.drop k) ≤ dval l := by
  have e : dval l = dval (l.take k ++ l.drop k) := by rw [List.take_append_drop]
  rw [e, dval_append]
  have : 1 * dval (l.drop k) ≤ 10 ^ (l.take k).length * dval (l.drop k) := Nat.mul_le_mul_right _ (Nat.pow_pos (by omega))
  omega

theorem value_dg (va : Value) (x : Nat) (w : World) (ha : Dg w va x) (hx : x < 9223372036854775808) :
    Calls Tryd.prog 65 #[va] w fun e w' => e = .returned (.int .i64 (x : Int)) ∧ w = w' := by
  have hlen : (dgs x).length ≤ 19 := dgs_len_le (by omega)
  obtain ⟨a1, c1, rfl, hc1⟩ := Ns.cells ha
  obtain ⟨l, hl⟩ : ∃ l, dgs x = l := ⟨_, rfl⟩
  rw [hl] at hc1 hlen ⊢
  obtain ⟨n, hn⟩ : ∃ n, l.length = n := ⟨_, rfl⟩
  rw [hn] at hlen ⊢
  have H := Lib.hid (And.intro hl (And.intro hn hc1))
  clear hc1 hl hn ha
  go_enter Tryd.func65, Tryd.ntmps65
  go_wp2_with fail
  go_loop [3, 4] (fun s i => ∃ (z : Nat) (i' : Int), s = .int .i64 (z : Int) ∧ i = .int .i64 i' ∧ -1 ≤ i' ∧ i' < n ∧ Hid (z = dval (l.drop (i' + 1).toNat))) (fun _ i => (intOf i + 1).toNat)
  case atStart => exact ⟨0, (n : Int) - 1, rfl, by rfl, by omega, by omega, Lib.hid (by rw [show ((n : Int) - 1 + 1).toNat = n by omega, List.drop_eq_nil_of_le (by have := H.out; omega)]; rfl)⟩
  case round =>
    obtain ⟨z, i', rfl, rfl, h0, h1, hG⟩ := hrel
    by_cases hm : i' = -1
    · subst hm
      have hz : z = x := by
        have h := hG.out
        simp only [Int.reduceNeg, Int.add_left_neg, Int.toNat_zero, List.drop_zero] at h
        rw [h, ← H.out.1, dval_dgs]
      subst hz
      go_wp2_with fail
      go_ret
      exact ⟨rfl, rfl⟩
    · obtain ⟨i, rfl⟩ : ∃ i : Nat, i' = i := ⟨i'.toNat, by omega⟩
      have hin : i < n := by omega
      obtain ⟨b1, o1, rfl, hb1, hlc1, hcm1, hc1⟩ := H.out.2.2 i (by have := H.out.2.1; omega)
      unfold maxLen at hcm1
      obtain ⟨p, hp⟩ : ∃ p, l.getD i 0 = p := ⟨_, rfl⟩
      rw [hp] at hc1
      have hg := hG.out
      rw [show ((i : Int) + 1).toNat = i + 1 by omega] at hg
      have hd := dval_drop (l := l) (k := i) (by have := H.out.2.1; omega)
      rw [← hg, hp] at hd
      have hle := dval_drop_le l i
      rw [hd, ← H.out.1, dval_dgs] at hle
      have hbd : p + 10 * z < 9223372036854775808 := by omega
      have HD := Lib.hid (And.intro hd trivial)
      clear hp hg hd hle hlc1 hm h0
      go_wp2_with fail
      go_round
      case rel => exact ⟨10 * z + p, (i : Int) - 1, by go_num, rfl, by omega, by omega, Lib.hid (by rw [show ((i : Int) - 1 + 1).toNat = i by omega, HD.out.1]; omega)⟩
      case measure => simp [intOf]

theorem word_dg (w : World) : Calls Tryd.prog 67 #[] w (SomeD w 4294967296) := by
  go_enter Tryd.func67, Tryd.ntmps67
  go_wp2_with (go_at_call 51; refine stopD_of ?_)
  unfold StopD
  refine (of_dg 4294967296 _ (by decide)).mono ?_
  rintro e w1 ⟨v, rfl, hv, hb⟩
  have H := Lib.hid (And.intro hv hb)
  clear hv hb
  go_wp2_with fail
  go_ret
  exact ⟨_, rfl, H.out.1, H.out.2⟩

theorem most_dg (w : World) : Calls Tryd.prog 66 #[] w (SomeD w big) := by
  have l1 : (dgs 4294967296).length ≤ 50000 := Nat.le_trans (dgs_len_le (k := 10) (by decide)) (by decide)
  have l2 : (dgs (4294967296 * 4294967296)).length ≤ 50000 := Nat.le_trans (dgs_len_le (k := 20) (by decide)) (by decide)
  have tok1 : True := trivial
  have tok2 : True := trivial
  have tok3 : True := trivial
  have tok4 : True := trivial
  have tok5 : True := trivial
  go_enter Tryd.func66, Tryd.ntmps66
  go_wp2_with (go_at_call 67; refine stopD_of ?_)
  unfold StopD
  refine (word_dg _).mono ?_
  rintro e w1 ⟨v1, rfl, hv1, hb1⟩
  have H1 := Lib.hid (And.intro hv1 hb1)
  clear hv1 hb1
  go_wp2_with (go_at_call 67; refine stopD_of ?_)
  unfold StopD
  refine (word_dg _).mono ?_
  rintro e w2 ⟨v2, rfl, hv2, hb2⟩
  have H2 := Lib.hid (And.intro hv2 (And.intro (H1.out.1.later hb2) (H1.out.2.trans (hb2.mono H1.out.2.size))))
  clear hv2 hb2 H1
  go_wp2_with (go_at_call 49; refine stopD_of ?_)
  unfold StopD
  refine (mul_dg _ _ _ _ _ H2.out.2.1 H2.out.1 l1 l1).mono ?_
  rintro e w3 ⟨v3, rfl, hv3, hb3⟩
  have H3 := Lib.hid (And.intro hv3 (H2.out.2.2.trans (hb3.mono H2.out.2.2.size)))
  clear hv3 hb3 H2
  go_wp2_with (go_at_call 67; refine stopD_of ?_)
  unfold StopD
  refine (word_dg _).mono ?_
  rintro e w4 ⟨v4, rfl, hv4, hb4⟩
  have H4 := Lib.hid (And.intro hv4 (And.intro (H3.out.1.later hb4) (H3.out.2.trans (hb4.mono H3.out.2.size))))
  clear hv4 hb4 H3
  go_wp2_with (go_at_call 67; refine stopD_of ?_)
  unfold StopD
  refine (word_dg _).mono ?_
  rintro e w5 ⟨v5, rfl, hv5, hb5⟩
  have H5 := Lib.hid (And.intro hv5 (And.intro (H4.out.1.later hb5) (And.intro (H4.out.2.1.later hb5) (H4.out.2.2.trans (hb5.mono H4.out.2.2.size)))))
  clear hv5 hb5 H4
  go_wp2_with (go_at_call 49; refine stopD_of ?_)
  unfold StopD
  refine (mul_dg _ _ _ _ _ H5.out.2.1 H5.out.1 l1 l1).mono ?_
  rintro e w6 ⟨v6, rfl, hv6, hb6⟩
  have H6 := Lib.hid (And.intro hv6 (And.intro (H5.out.2.2.1.later hb6) (H5.out.2.2.2.trans (hb6.mono H5.out.2.2.2.size))))
  clear hv6 hb6 H5
  go_wp2_with (go_at_call 49; refine stopD_of ?_)
  unfold StopD
  refine (mul_dg _ _ _ _ _ H6.out.2.1 H6.out.1 l2 l2).mono ?_
  rintro e w7 ⟨v7, rfl, hv7, hb7⟩
  have H7 := Lib.hid (And.intro hv7 (H6.out.2.2.trans (hb7.mono H6.out.2.2.size)))
  clear hv7 hb7 H6
  go_wp2_with fail
  go_ret
  exact ⟨_, rfl, H7.out.1, H7.out.2⟩

end Go.Proofs.YtfciebajiihcfaaDoor
