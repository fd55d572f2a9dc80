/- the reference: List, Mask, Write, Top, Low -/
import Derived.Test.YtbjehiagaikhoaaProg
import Derived.Test.YtbjehiagaikhoaaCardR
import Derived.Test.YtbjehiagaikhoaaCardH
import Derived.Test.YtbjehiagaikhoaaCardT
namespace Go.Proofs.Ytbjehiagaikhoaa
open Go.RowKit
set_option linter.unusedVariables false
set_option linter.unusedSimpArgs false
set_option maxRecDepth 100000
set_option maxHeartbeats 1000000

theorem RTop_any (m s : Nat) (w : World) (hm : m < 18446744073709551616) (hs : s < 256) :
    Calls Try.prog 42 #[.int .u64 (m : Int), .int .u8 (s : Int)] w fun e w' => e = .returned (vPick (downs (ofN m s) 52).head?) ∧ w = w' := by
  by_cases h : m < 4503599627370496 ∧ s < 4
  · obtain ⟨h1, h2⟩ := h
    rw [suit_seg m s h1 h2]
    have g1 : ¬ ((3 : Int) < (s : Int)) := by omega
    have g1d : decide ((3 : Int) < (s : Int)) = false := by simpa using g1
    have hd : decide (m < 4503599627370496) = true := by simpa using h1
    obtain ⟨R, hR⟩ : ∃ R, (seg m s 13).head? = R := ⟨_, rfl⟩
    have HR := Lib.hid hR
    rw [hR]
    clear hR
    go_enter Try.func42, Try.ntmps42
    go_wp2_with (go_at_call 44; refine (Whole_any m _ hm).mono ?_; rintro e w' ⟨rfl, rfl⟩; rw [hd])
    go_loop [6] (fun k => ∃ r : Nat, k = .int .i64 ((r : Int) - 1) ∧ r ≤ 13 ∧ Hid ((seg m s r).head? = R)) (fun k => (intOf k + 1).toNat)
    case atStart => exact ⟨13, rfl, by omega, HR⟩
    case round =>
      obtain ⟨r, rfl, hr, hG⟩ := hrel
      cases r with
      | zero =>
        have hv : R = none := by rw [← hG.out]; rfl
        subst hv
        go_wp2
        exact bodyPost_ret (results_tmp2 rfl _ _ _) rfl ⟨rfl, rfl⟩
      | succ r =>
        have hi : ((r + 1 : Nat) : Int) - 1 = (r : Int) := by omega
        rw [hi]
        obtain ⟨c, hc⟩ : ∃ c, 13 * s + r = c := ⟨_, rfl⟩
        have hci : (13 : Int) * (s : Int) + (r : Int) = (c : Int) := by omega
        have hc64 : c < 64 := by omega
        cases hb : bt m c with
        | true =>
          have hv : R = some c := by rw [← hG.out, seg_yes m s r (by rw [hc]; exact hb), hc]; rfl
          subst hv
          clear hc
          go_wp2_with (go_at_call 45; refine (Has_any m c _ hm hc64).mono ?_; rintro e w' ⟨rfl, rfl⟩; rw [hb])
          exact bodyPost_ret (results_tmp2 rfl _ _ _) rfl ⟨rfl, rfl⟩
        | false =>
          have hG2 : (seg m s r).head? = R := by rw [← hG.out, seg_no m s r (by rw [hc]; exact hb)]
          have HG := Lib.hid hG2
          clear hG2 hc
          go_wp2_with (go_at_call 45; refine (Has_any m c _ hm hc64).mono ?_; rintro e w' ⟨rfl, rfl⟩; rw [hb])
          go_round
          case rel => exact ⟨r, rfl, by omega, HG⟩
          case measure => simp [intOf]
  · have hv : (downs (ofN m s) 52).head? = none := by
      unfold ofN
      rw [if_neg h]
      decide +kernel
    rw [hv]
    by_cases h2 : s < 4
    · have g1 : ¬ ((3 : Int) < (s : Int)) := by omega
      have g1d : decide ((3 : Int) < (s : Int)) = false := by simpa using g1
      have hd : decide (m < 4503599627370496) = false := by simp; omega
      go_enter Try.func42, Try.ntmps42
      go_wp2_with (go_at_call 44; refine (Whole_any m _ hm).mono ?_; rintro e w' ⟨rfl, rfl⟩; rw [hd])
      exact bodyPost_ret (results_tmp2 rfl _ _ _) rfl ⟨rfl, rfl⟩
    · have g1 : (3 : Int) < (s : Int) := by omega
      have g1d : decide ((3 : Int) < (s : Int)) = true := by simpa using g1
      go_enter Try.func42, Try.ntmps42
      go_wp2
      exact bodyPost_ret (results_tmp2 rfl _ _ _) rfl ⟨rfl, rfl⟩

theorem seg_last (m s r c : Nat) (hr : r < 13) (h0 : seg m s r = []) (hb : bt m (13 * s + r) = true) : (seg m s 13).getLast? = some (13 * s + r) := by
  obtain ⟨X, hX⟩ := seg_pre m s (r + 1) (13 - (r + 1))
  rw [show r + 1 + (13 - (r + 1)) = 13 by omega] at hX
  rw [hX, seg_yes m s r hb, h0]
  simp

theorem RLow_any (m s : Nat) (w : World) (hm : m < 18446744073709551616) (hs : s < 256) :
    Calls Try.prog 43 #[.int .u64 (m : Int), .int .u8 (s : Int)] w fun e w' => e = .returned (vPick (downs (ofN m s) 52).getLast?) ∧ w = w' := by
  by_cases h : m < 4503599627370496 ∧ s < 4
  · obtain ⟨h1, h2⟩ := h
    rw [suit_seg m s h1 h2]
    have g1 : ¬ ((3 : Int) < (s : Int)) := by omega
    have g1d : decide ((3 : Int) < (s : Int)) = false := by simpa using g1
    have hd : decide (m < 4503599627370496) = true := by simpa using h1
    obtain ⟨R, hR⟩ : ∃ R, (seg m s 13).getLast? = R := ⟨_, rfl⟩
    have HR := Lib.hid hR
    rw [hR]
    clear hR
    go_enter Try.func43, Try.ntmps43
    go_wp2_with (go_at_call 44; refine (Whole_any m _ hm).mono ?_; rintro e w' ⟨rfl, rfl⟩; rw [hd])
    go_loop [6] (fun k => ∃ r : Nat, k = .int .i64 (r : Int) ∧ r ≤ 13 ∧ Hid (seg m s r = [])) (fun k => (13 - intOf k).toNat)
    case atStart => exact ⟨0, rfl, by omega, Lib.hid rfl⟩
    case round =>
      obtain ⟨r, rfl, hr, hG⟩ := hrel
      by_cases hr13 : r < 13
      · obtain ⟨c, hc⟩ : ∃ c, 13 * s + r = c := ⟨_, rfl⟩
        have hci : (13 : Int) * (s : Int) + (r : Int) = (c : Int) := by omega
        have hc64 : c < 64 := by omega
        cases hb : bt m c with
        | true =>
          have hv : R = some c := by rw [← HR.out, seg_last m s r c hr13 hG.out (by rw [hc]; exact hb), hc]
          subst hv
          clear hc
          go_wp2_with (go_at_call 45; refine (Has_any m c _ hm hc64).mono ?_; rintro e w' ⟨rfl, rfl⟩; rw [hb])
          exact bodyPost_ret (results_tmp2 rfl _ _ _) rfl ⟨rfl, rfl⟩
        | false =>
          have hG2 : seg m s (r + 1) = [] := by rw [seg_no m s r (by rw [hc]; exact hb)]; exact hG.out
          have HG := Lib.hid hG2
          clear hG2 hc
          go_wp2_with (go_at_call 45; refine (Has_any m c _ hm hc64).mono ?_; rintro e w' ⟨rfl, rfl⟩; rw [hb])
          go_round
          case rel => exact ⟨r + 1, by go_num, by omega, HG⟩
          case measure => simp [intOf]; omega
      · obtain rfl : r = 13 := by omega
        have hv : R = none := by rw [← HR.out, hG.out]; rfl
        subst hv
        go_wp2
        exact bodyPost_ret (results_tmp2 rfl _ _ _) rfl ⟨rfl, rfl⟩
  · have hv : (downs (ofN m s) 52).getLast? = none := by
      unfold ofN
      rw [if_neg h]
      decide +kernel
    rw [hv]
    by_cases h2 : s < 4
    · have g1 : ¬ ((3 : Int) < (s : Int)) := by omega
      have g1d : decide ((3 : Int) < (s : Int)) = false := by simpa using g1
      have hd : decide (m < 4503599627370496) = false := by simp; omega
      go_enter Try.func43, Try.ntmps43
      go_wp2_with (go_at_call 44; refine (Whole_any m _ hm).mono ?_; rintro e w' ⟨rfl, rfl⟩; rw [hd])
      exact bodyPost_ret (results_tmp2 rfl _ _ _) rfl ⟨rfl, rfl⟩
    · have g1 : (3 : Int) < (s : Int) := by omega
      have g1d : decide ((3 : Int) < (s : Int)) = true := by simpa using g1
      go_enter Try.func43, Try.ntmps43
      go_wp2
      exact bodyPost_ret (results_tmp2 rfl _ _ _) rfl ⟨rfl, rfl⟩

theorem RList_no (m : Nat) (w : World) (hm : m < 18446744073709551616) (h : ¬ m < 4503599627370496) :
    Calls Try.prog 28 #[.int .u64 (m : Int)] w fun e w' => e = .returned (.tuple #[.slice none 0 0, .int .i64 41]) ∧ w = w' := by
  have hd : decide (m < 4503599627370496) = false := by simpa using h
  go_enter Try.func28, Try.ntmps28
  go_wp2_with (go_at_call 44; refine (Whole_any m _ hm).mono ?_; rintro e w' ⟨rfl, rfl⟩; rw [hd])
  exact bodyPost_ret (results_tmp2 rfl _ _ _) rfl ⟨rfl, rfl⟩

theorem RWrite_no (m : Nat) (w : World) (hm : m < 18446744073709551616) (h : ¬ m < 4503599627370496) :
    Calls Try.prog 27 #[.int .u64 (m : Int)] w fun e w' => e = .returned (.tuple #[.string ⟨#[]⟩, .int .i64 41]) ∧ w = w' := by
  have hd : decide (m < 4503599627370496) = false := by simpa using h
  go_enter Try.func27, Try.ntmps27
  go_wp2_with (go_at_call 44; refine (Whole_any m _ hm).mono ?_; rintro e w' ⟨rfl, rfl⟩; rw [hd])
  exact bodyPost_ret (results_tmp2 rfl _ _ _) rfl ⟨rfl, rfl⟩

def SomeRow (B : Nat) (W w' : World) (L : List Nat) (e : Ending) : Prop := ∃ v, e = .returned (.tuple #[v, .int .i64 0]) ∧ w'.ownsRow B 5 1 v L.length (bys L) ∧ Below B W w'

theorem RList_yes (m : Nat) (w : World) (h : m < 4503599627370496) :
    Calls Try.prog 28 #[.int .u64 (m : Int)] w fun e w' => SomeRow w.heap.size w w' (downs m 52) e := by
  have hm : m < 18446744073709551616 := by omega
  have hd : decide (m < 4503599627370496) = true := by simpa using h
  obtain ⟨L, hL⟩ : ∃ L, downs m 52 = L := ⟨_, rfl⟩
  have hlen : L.length ≤ 52 := by rw [← hL]; exact downs_len m 52
  have HL := Lib.hid hL
  rw [hL]
  clear hL
  obtain ⟨i0, hinf, hz0, hz1, hz2⟩ := info_parts info_u8
  go_enter Try.func28, Try.ntmps28
  go_wp2_with (go_at_call 44; refine (Whole_any m _ hm).mono ?_; rintro e w' ⟨rfl, rfl⟩; rw [hd])
  go_loopw [4, 5] (fun v s wr => ∃ (q : Nat) (pre : List Nat), s = .int .i64 ((q : Int) - 1) ∧ q ≤ 4 ∧ Hid (pre ++ downs m (13 * q) = L) ∧ wr.ownsRow w.heap.size 5 1 v pre.length (bys pre) ∧ Below w.heap.size w wr) (fun _ s _ => (intOf s + 1).toNat)
  case atStart => exact ⟨4, [], rfl, by omega, HL, ⟨rfl, .inl ⟨rfl, rfl⟩⟩, Below.refl _ _⟩
  case round =>
    obtain ⟨q, pre, rfl, hq, hG, hown, hB⟩ := hrel
    cases q with
    | zero =>
      have hpre : pre = L := by have := hG.out; simpa [downs] using this
      subst hpre
      have HO := Lib.hid hown
      clear hown
      go_wp2
      refine bodyPost_ret (results_tmp2 rfl _ _ _) rfl ?_
      exact ⟨_, rfl, HO.out, hB⟩
    | succ q =>
      have hi : ((q + 1 : Nat) : Int) - 1 = (q : Int) := by omega
      rw [hi]
      obtain ⟨W, hW⟩ : ∃ W, W = wr := ⟨_, rfl⟩
      rw [← hW] at hB hown
      have HO := Lib.hid (And.intro hown hB)
      clear hown hB
      go_wp2_with fail
      rw [← hW]
      clear hW
      go_loopw [4, 6] (fun v k wr => ∃ (r : Nat) (pre : List Nat), k = .int .i64 ((r : Int) - 1) ∧ r ≤ 13 ∧ Hid (pre ++ downs m (13 * q + r) = L) ∧ wr.ownsRow w.heap.size 5 1 v pre.length (bys pre) ∧ Below w.heap.size w wr) (fun _ k _ => (intOf k + 1).toNat)
      case atStart => exact ⟨13, pre, rfl, by omega, hG, HO.out.1, HO.out.2⟩
      case round =>
        obtain ⟨r, pre, rfl, hr, hG, hown, hB⟩ := hrel
        cases r with
        | zero =>
          have HO2 := Lib.hid (And.intro hown hB)
          clear hown hB
          go_wp2_with fail
          go_roundw
          case rel => exact ⟨q, pre, rfl, by omega, hG, HO2.out.1, HO2.out.2⟩
          case measure => simp [intOf]
        | succ r =>
          have hi : ((r + 1 : Nat) : Int) - 1 = (r : Int) := by omega
          rw [hi]
          obtain ⟨c, hc⟩ : ∃ c, 13 * q + r = c := ⟨_, rfl⟩
          have hci : (13 : Int) * (q : Int) + (r : Int) = (c : Int) := by omega
          have hc64 : c < 64 := by omega
          have hc256 : c < 256 := by omega
          have hpl : pre.length ≤ 52 := by have h9 := congrArg List.length hG.out; rw [List.length_append] at h9; omega
          have hG' := hG.out
          rw [show 13 * q + (r + 1) = c + 1 by omega] at hG'
          cases hb : bt m c with
          | true =>
            rw [downs_yes m c hb] at hG'
            have hG2 : (pre ++ [c]) ++ downs m (13 * q + r) = L := by rw [hc, List.append_assoc]; exact hG'
            have HG := Lib.hid hG2
            clear hG2 hG'
            obtain ⟨W', hW'⟩ : ∃ W', wr.alloc (.cells #[.int .u8 (c : Int)] 5) = W' := ⟨_, rfl⟩
            have hown' : W'.ownsRow w.heap.size 5 1 u4 pre.length (bys pre) := by rw [← hW']; exact own_below hown ((Below.refl _ _).alloc (Nat.le_refl _) _)
            have hbW : Below w.heap.size w W' := by rw [← hW']; exact hB.alloc hB.size _
            have hnew : ∀ j u, (bys [c])[j]? = some u → W'.cell? ((⟨wr.heap.size, 0, none⟩ : Addr).add j) = some u := by
              intro j u hu
              rw [addr_add, ← hW', (Row.new wr 5 #[.int .u8 (c : Int)]).cell (0 + j), Nat.zero_add]
              simpa [bys] using hu
            have HO2 := Lib.hid (And.intro hown' (And.intro hbW hnew))
            clear hown' hbW hnew hown hc
            go_wp2_with (first
              | (go_at_call 45; refine (Has_any m c _ hm hc64).mono ?_; rintro e w' ⟨rfl, rfl⟩; rw [hb])
              | (at_builtin; go_must (try rw [hW']); go_must (refine wpList_append_own _ rfl _ _ 37 rfl w.heap.size 5 i0 (.int .u8 0) 1 1 Try.underlying37 hinf hz0 hz1 hz2 rfl (by decide) u4 pre.length (bys pre) rfl HO2.out.1 ⟨wr.heap.size, 0, none⟩ 1 1 (bys [c]) rfl (by simp) HO2.out.2.2 (bys_one [c]) (by simp [maxLen]; omega) (by omega) HO2.out.2.1.size ?_); intro v' w8 hown1 hgrow _))
            go_roundw
            case rel =>
              refine ⟨r, pre ++ [c], rfl, by omega, HG, ?_, below_append HO2.out.2.1 hgrow HO2.out.1 (Nat.le_refl _) HO2.out.2.1.size⟩
              rw [bys_append, List.length_append]
              exact hown1
            case measure => simp [intOf]
          | false =>
            rw [downs_no m c hb, ← hc] at hG'
            have HG := Lib.hid hG'
            have HO2 := Lib.hid (And.intro hown hB)
            clear hG' hown hB hc
            go_wp2_with (go_at_call 45; refine (Has_any m c _ hm hc64).mono ?_; rintro e w' ⟨rfl, rfl⟩; rw [hb])
            go_roundw
            case rel => exact ⟨r, pre, rfl, by omega, HG, HO2.out.1, HO2.out.2⟩
            case measure => simp [intOf]

end Go.Proofs.Ytbjehiagaikhoaa
