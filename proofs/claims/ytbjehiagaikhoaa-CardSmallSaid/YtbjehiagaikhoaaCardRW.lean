/- the reference: Write, Mask -/
import Derived.Test.YtbjehiagaikhoaaProg
import Derived.Test.YtbjehiagaikhoaaCardRS
namespace Go.Proofs.Ytbjehiagaikhoaa
open Go.RowKit
set_option linter.unusedVariables false
set_option linter.unusedSimpArgs false
set_option maxRecDepth 100000
set_option maxHeartbeats 1000000

theorem RWrite_yes (m : Nat) (w : World) (h : m < 4503599627370496) :
    Calls Try.prog 27 #[.int .u64 (m : Int)] w fun e w' => e = .returned (.tuple #[vS (wtext m), .int .i64 0]) ∧ Below w.heap.size w w' := by
  have hm : m < 18446744073709551616 := by omega
  have hd : decide (m < 4503599627370496) = true := by simpa using h
  obtain ⟨T, hT⟩ : ∃ T, wtext m = T := ⟨_, rfl⟩
  have hlen : T.length ≤ 55 := by rw [← hT, wtext_len]; have := downs_len m 52; omega
  have hT4 : rtext m 4 = T := by rw [rtext_4, hT]
  rw [hT]
  have HT := Lib.hid hT4
  clear hT hT4
  go_enter Try.func27, Try.ntmps27
  go_wp2_with (go_at_call 44; refine (Whole_any m _ hm).mono ?_; rintro e w' ⟨rfl, rfl⟩; rw [hd])
  go_loopw [4, 5] (fun v s wr => ∃ (q : Nat) (out : List UInt8), s = .int .i64 ((q : Int) - 1) ∧ q ≤ 4 ∧ v = vS out ∧ Hid (out ++ rtext m q = T) ∧ Below w.heap.size w wr) (fun _ s _ => (intOf s + 1).toNat)
  case atStart => exact ⟨4, [], rfl, by omega, rfl, HT, Below.refl _ _⟩
  case round =>
    obtain ⟨q, out, rfl, hq, rfl, hG, hB⟩ := hrel
    cases q with
    | zero =>
      have hpre : out = T := by have := hG.out; simpa [rtext] using this
      subst hpre
      go_wp2
      exact bodyPost_ret (results_tmp2 rfl _ _ _) rfl ⟨rfl, hB⟩
    | succ q =>
      have hi : ((q + 1 : Nat) : Int) - 1 = (q : Int) := by omega
      rw [hi]
      obtain ⟨W, hW⟩ : ∃ W, W = wr := ⟨_, rfl⟩
      rw [← hW] at hB
      have HO := Lib.hid hB
      clear hB
      go_wp2_with fail
      rw [← hW]
      clear hW
      go_loopw [4, 6] (fun v k wr => ∃ (r : Nat) (out : List UInt8), k = .int .i64 ((r : Int) - 1) ∧ r ≤ 13 ∧ v = vS out ∧ Hid (out ++ rt m q r = T) ∧ Below w.heap.size w wr) (fun _ k _ => (intOf k + 1).toNat)
      case atStart => exact ⟨13, out, rfl, by omega, rfl, hG, HO.out⟩
      case round =>
        obtain ⟨r, out, rfl, hr, rfl, hG, hB⟩ := hrel
        have hol : out.length ≤ 55 := by have h9 := congrArg List.length hG.out; rw [List.length_append] at h9; omega
        have hcat : ¬ (9223372036854775807 < out.length + 1) := by omega
        have hG' := hG.out
        cases r with
        | zero =>
          by_cases hq0 : 0 < q
          · have e : rt m q 0 = 46 :: rtext m q := by unfold rt; rw [if_pos hq0]; rfl
            rw [e] at hG'
            have hG2 : (out ++ [46]) ++ rtext m q = T := by rw [List.append_assoc]; exact hG'
            have HG := Lib.hid hG2
            clear hG' hG2 e
            go_wp2_with fail
            go_roundw
            case rel => exact ⟨q, out ++ [46], rfl, by omega, by rw [cat_one], HG, hB⟩
            case measure => simp [intOf]
          · obtain rfl : q = 0 := by omega
            have e : rt m 0 0 = rtext m 0 := rfl
            rw [e] at hG'
            have HG := Lib.hid hG'
            clear hG' e
            go_wp2_with fail
            go_roundw
            case rel => exact ⟨0, out, rfl, by omega, rfl, HG, hB⟩
            case measure => simp [intOf]
        | succ r =>
          have hi : ((r + 1 : Nat) : Int) - 1 = (r : Int) := by omega
          rw [hi]
          obtain ⟨c, hc⟩ : ∃ c, 13 * q + r = c := ⟨_, rfl⟩
          have hci : (13 : Int) * (q : Int) + (r : Int) = (c : Int) := by omega
          have hc64 : c < 64 := by omega
          cases hb : bt m c with
          | true =>
            have e : rt m q (r + 1) = rankB r :: rt m q r := by
              unfold rt
              rw [seg_yes m q r (by rw [hc]; exact hb)]
              simp only [chars, List.map_cons, List.cons_append]
              rw [show (13 * q + r) % 13 = r by omega]
            rw [e] at hG'
            have hG2 : (out ++ [rankB r]) ++ rt m q r = T := by rw [List.append_assoc]; exact hG'
            have HG := Lib.hid hG2
            clear hG2 hG' e hc
            go_wp2_with (first
              | (go_at_call 45; refine (Has_any m c _ hm hc64).mono ?_; rintro e w' ⟨rfl, rfl⟩; rw [hb])
              | (go_at_call 46; refine (sign_any r _ (by omega)).mono ?_; rintro e w8 ⟨rfl, hb8⟩))
            go_roundw
            case rel => exact ⟨r, out ++ [rankB r], rfl, by omega, by rw [cat_one], HG, hB.trans (hb8.mono hB.size)⟩
            case measure => simp [intOf]
          | false =>
            have e : rt m q (r + 1) = rt m q r := by
              unfold rt
              rw [seg_no m q r (by rw [hc]; exact hb)]
            rw [e] at hG'
            have HG := Lib.hid hG'
            clear hG' e hc
            go_wp2_with (go_at_call 45; refine (Has_any m c _ hm hc64).mono ?_; rintro e w' ⟨rfl, rfl⟩; rw [hb])
            go_roundw
            case rel => exact ⟨r, out, rfl, by omega, rfl, HG, hB⟩
            case measure => simp [intOf]

theorem RMask_any (v : Value) (l : List Nat) (w : World) (hrd : Rd w.heap.size w 1 v l.length (bys l)) (hl : ∀ c ∈ l, c < 256) :
    Calls Try.prog 39 #[v] w fun e w' => e = .returned (vMask (mgo 0 l)) ∧ Below w.heap.size w w' := by
  obtain ⟨a, c, rfl⟩ := hrd.shape
  have hlen := hrd.len
  obtain ⟨R, hR⟩ : ∃ R, mgo 0 l = R := ⟨_, rfl⟩
  have HR := Lib.hid hR
  rw [hR]
  clear hR
  have hml : (l.length : Int) ≤ 9223372036854775807 := by unfold maxLen at hlen; omega
  clear hlen
  go_enter Try.func39, Try.ntmps39
  go_wp2
  go_loopw [4, 5] (fun m i wr => ∃ (m' i' : Nat), m = .int .u64 m' ∧ i = .int .i64 i' ∧ i' ≤ l.length ∧ m' < 4503599627370496 ∧ Hid (mgo m' (l.drop i') = R) ∧ Hid (∀ c, bt m' c = decide (c ∈ l.take i')) ∧ Below w.heap.size w wr) (fun _ i _ => l.length - (intOf i).toNat)
  case atStart => exact ⟨0, 0, rfl, rfl, by omega, by omega, HR, Lib.hid (fun c => by rw [bt_zero]; simp), Below.refl _ _⟩
  case round =>
    obtain ⟨m, i, rfl, rfl, hi, hm, hG, hM, hB⟩ := hrel
    by_cases h : i < l.length
    · obtain ⟨b, off, cp, hv, hb, -, -, -, hcells⟩ := (hrd.below hB (Nat.le_refl _)).pos (by omega)
      cases hv
      obtain ⟨x, hx⟩ : ∃ x, l[i] = x := ⟨_, rfl⟩
      have hx256 : x < 256 := by rw [← hx]; exact hl _ (List.getElem_mem h)
      have hc : wr.cell? ⟨b, off + i, none⟩ = some (.int .u8 (x : Int)) := by
        rw [hcells i (by omega)]
        exact bys_get (by rw [List.getElem?_eq_getElem h, hx])
      have hG' := hG.out
      rw [List.drop_eq_getElem_cons h, hx] at hG'
      unfold mgo at hG'
      by_cases h52 : x < 52
      · rw [if_pos h52] at hG'
        have HC := Lib.hid hcells
        have HG' := Lib.hid hG'
        clear hcells hG'
        obtain ⟨W, rfl⟩ : ∃ W : World, W = wr := ⟨_, rfl⟩
        go_wp2_with fail
        go_loopw [6] (fun k wr => ∃ k' : Nat, k = .int .i64 k' ∧ k' ≤ i ∧ Hid (∀ j, j < k' → l[j]? ≠ some x) ∧ Below W.heap.size W wr) (fun k _ => i - (intOf k).toNat)
        case atStart => exact ⟨0, rfl, by omega, Lib.hid (fun j hj => by omega), Below.refl _ _⟩
        case round =>
          obtain ⟨k, rfl, hk, hK, hBk⟩ := hrel
          have hBw := hB.trans (hBk.mono hB.size)
          have hbW : b < W.heap.size := Nat.lt_of_lt_of_le hb hB.size
          by_cases hki : k < i
          · obtain ⟨y, hy⟩ : ∃ y, l[k] = y := ⟨_, rfl⟩
            have hy256 : y < 256 := by rw [← hy]; exact hl _ (List.getElem_mem (by omega))
            have hcy : wr.cell? ⟨b, off + k, none⟩ = some (.int .u8 (y : Int)) := by
              rw [hBk.cell (p := ⟨b, off + k, none⟩) hbW, HC.out k (by omega)]
              exact bys_get (by rw [List.getElem?_eq_getElem (by omega), hy])
            have hcx := cell_on hBk hbW hc
            have q1 : (k : Int) < (l.length : Int) := by omega
            have q2 : (i : Int) < (l.length : Int) := by omega
            by_cases hxy : y = x
            · subst hxy
              have hmem : y ∈ l.take i := by
                rw [List.mem_iff_getElem?]
                exact ⟨k, by rw [List.getElem?_take_of_lt hki, List.getElem?_eq_getElem (by omega), hy]⟩
              have hbt : bt m y = true := by rw [hM.out]; simpa using hmem
              have hv : R = (0, 42) := by rw [← HG'.out, hbt, if_pos rfl]
              subst hv
              clear hbt hmem hy hx hc
              go_wp2_with fail
              go_quiet (fail)
              go_wp2_with fail
              exact bodyPost_ret (results_tmp2 rfl _ _ _) rfl ⟨rfl, Below.drewN hBw _⟩
            · have hne : ((y : Int) == (x : Int)) = false := by rw [beq_eq_false_iff_ne]; omega
              have hK2 : ∀ j, j < k + 1 → l[j]? ≠ some x := fun j hj => by
                by_cases hjk : j = k
                · subst hjk
                  rw [List.getElem?_eq_getElem (by omega), hy]
                  intro e
                  exact hxy (Option.some.inj e)
                · exact hK.out j (by omega)
              have HK := Lib.hid hK2
              clear hK2 hy hx hc hxy
              go_wp2_with fail
              go_quiet (fail)
              go_wp2_with fail
              go_roundw
              case rel => exact ⟨k + 1, by go_num, by omega, HK, Below.drewN hBk _⟩
              case measure => simp [intOf]; omega
          · obtain rfl : k = i := by omega
            have hnot : x ∉ l.take k := by
              intro hmem
              rw [List.mem_iff_getElem?] at hmem
              obtain ⟨j, hj⟩ := hmem
              have hjk : j < k := by have := (List.getElem?_eq_some_iff.1 hj).1; rw [List.length_take] at this; omega
              rw [List.getElem?_take_of_lt hjk] at hj
              exact hK.out j hjk hj
            have hbt : bt m x = false := by rw [hM.out]; simpa using hnot
            have hor := or_add x m hbt
            have h1p : (2 : Nat) ^ x < 2 ^ 52 := Nat.pow_lt_pow_right (by decide) h52
            have hm2 : m ||| 2 ^ x < 4503599627370496 := Nat.or_lt_two_pow (n := 52) hm h1p
            have hG2 : mgo (m ||| 2 ^ x) (l.drop (k + 1)) = R := by rw [← HG'.out, hbt, if_neg (by decide)]
            have hM2 : ∀ c, bt (m ||| 2 ^ x) c = decide (c ∈ l.take (k + 1)) := fun c => by
              rw [bt_or, hM.out, List.take_succ_eq_append_getElem h, hx]
              simp [List.mem_append]
            obtain ⟨P, hP⟩ : ∃ P, 2 ^ x = P := ⟨_, rfl⟩
            have hbit := bit_any x
            rw [hP] at hor hG2 hM2 hm2 hbit
            rw [hor] at hG2 hM2 hm2
            have hcx := cell_on hBk hbW hc
            have HH := Lib.hid (And.intro hG2 hM2)
            have HB := Lib.hid hbit
            clear hG2 hM2 hor hnot hbt h1p hP hc hbit hx
            have q1 : (k : Int) < (l.length : Int) := by omega
            go_wp2_with (go_at_call 53; refine (HB.out _ h52).mono ?_; rintro e w' ⟨rfl, rfl⟩)
            go_roundw
            case rel => exact ⟨m + P, k + 1, by go_num, by go_num, by omega, hm2, HH.out.1, HH.out.2, hBw⟩
            case measure => simp [intOf]; omega
      · rw [if_neg h52] at hG'
        subst hG'
        clear hcells
        go_wp2_with fail
        exact bodyPost_ret (results_tmp2 rfl _ _ _) rfl ⟨rfl, hB⟩
    · obtain rfl : i = l.length := by omega
      have hG' := hG.out
      rw [List.drop_of_length_le (by omega)] at hG'
      have hv : R = (m, 0) := hG'.symm
      subst hv
      clear hG' hG hM
      go_wp2
      exact bodyPost_ret (results_tmp2 rfl _ _ _) rfl ⟨rfl, hB⟩

end Go.Proofs.Ytbjehiagaikhoaa
