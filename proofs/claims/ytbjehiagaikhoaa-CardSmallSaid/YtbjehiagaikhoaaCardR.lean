/- the reference: letter, sign, Of, Suit, Rank, Text, Read, Has, Whole, bit -/
import Derived.Test.YtbjehiagaikhoaaProg
import Derived.Test.YtbjehiagaikhoaaCardP
import Derived.Laws.IdiomStrings
namespace Go.Proofs.Ytbjehiagaikhoaa
open Go.RowKit
set_option linter.unusedVariables false
set_option linter.unusedSimpArgs false
set_option maxRecDepth 100000

theorem letter_any (s : Nat) (w : World) (hs : s < 4) :
    Calls Try.prog 48 #[.int .i64 (s : Int)] w fun e w' => e = .returned (.string ⟨#[suitB s]⟩) ∧ w = w' := by
  have h4 : s = 0 ∨ s = 1 ∨ s = 2 ∨ s = 3 := by omega
  rcases h4 with rfl | rfl | rfl | rfl
  all_goals
    go_enter Try.func48, Try.ntmps48
    go_wp2
    go_ret
    exact ⟨rfl, rfl⟩

theorem ret_u8_2 {a b : Int} {v : Value} (h : a = b) : Ending.returned (.tuple #[.int .u8 a, v]) = .returned (.tuple #[.int .u8 b, v]) := by rw [h]

/-- string([]byte{x}) -/
theorem one_str (w : World) (x : Int) (h0 : 0 ≤ x) (h1 : x < 256) :
    (convert 37 9 (.slice (some ⟨w.heap.size, 0, none⟩) 1 1)).run Try.prog (w.alloc (.cells #[.int .u8 x] 5)) = .ok (.string ⟨#[x.toNat.toUInt8]⟩) (w.alloc (.cells #[.int .u8 x] 5)) := by
  refine run_convert_bytes_back (P := Try.prog) (w.alloc (.cells #[.int .u8 x] 5)) 37 9 5 ⟨w.heap.size, 0, none⟩ 1 [x.toNat.toUInt8] Try.underlying37 Try.underlying5 Try.underlying9 ?_
  intro j hj
  have hj0 : j = 0 := by simpa using hj
  subst hj0
  rw [addr_add, (Row.new w 5 #[.int .u8 x]).cell]
  have e : ((x.toNat.toUInt8.toNat : Nat) : Int) = x := by
    rw [show x.toNat.toUInt8 = UInt8.ofNat x.toNat from rfl, UInt8.toNat_ofNat']
    omega
  simp only [List.getElem_cons_zero, e]
  rfl

theorem sign_any (r : Nat) (w : World) (hr : r < 13) :
    Calls Try.prog 46 #[.int .i64 (r : Int)] w fun e w' => e = .returned (.string ⟨#[rankB r]⟩) ∧ Below w.heap.size w w' := by
  have h13 : r = 0 ∨ r = 1 ∨ r = 2 ∨ r = 3 ∨ r = 4 ∨ r = 5 ∨ r = 6 ∨ r = 7 ∨ r = 8 ∨ r = 9 ∨ r = 10 ∨ r = 11 ∨ r = 12 := by omega
  rcases h13 with rfl | rfl | rfl | rfl | rfl | rfl | rfl | rfl | rfl | rfl | rfl | rfl | rfl
  all_goals
    have hcv := one_str w
    go_enter Try.func46, Try.ntmps46
    go_wp2
    go_ret
    refine ⟨rfl, ?_⟩
    first
      | exact Below.refl _ _
      | exact (Below.refl _ _).alloc (Nat.le_refl _) _
      | exact ((Below.refl _ _).alloc (Nat.le_refl _) _).drew

theorem ROf_any (s r : Nat) (w : World) (hs : s < 256) (hr : r < 256) :
    Calls Try.prog 31 #[.int .u8 (s : Int), .int .u8 (r : Int)] w fun e w' => e = .returned (vOf s r) ∧ w = w' := by
  unfold vOf
  by_cases h1 : s < 4
  · have g1 : ¬ ((3 : Int) < (s : Int)) := by omega
    by_cases h2 : r < 13
    · rw [if_pos ⟨h1, h2⟩]
      have g2 : ¬ ((12 : Int) < (r : Int)) := by omega
      obtain ⟨z, hz⟩ : ∃ z, 13 * s + r = z := ⟨_, rfl⟩
      have e : (s : Int) * 13 + (r : Int) = (z : Int) := by omega
      rw [hz]
      clear hz
      go_enter Try.func31, Try.ntmps31
      go_wp2
      exact bodyPost_ret (results_tmp2 rfl _ _ _) rfl ⟨rfl, rfl⟩
    · rw [if_neg (by omega)]
      have g2 : (12 : Int) < (r : Int) := by omega
      go_enter Try.func31, Try.ntmps31
      go_wp2
      exact bodyPost_ret (results_tmp2 rfl _ _ _) rfl ⟨rfl, rfl⟩
  · rw [if_neg (by omega)]
    have g1 : (3 : Int) < (s : Int) := by omega
    go_enter Try.func31, Try.ntmps31
    go_wp2
    exact bodyPost_ret (results_tmp2 rfl _ _ _) rfl ⟨rfl, rfl⟩

theorem RSuit_any (c : Nat) (w : World) (hc : c < 256) :
    Calls Try.prog 34 #[.int .u8 (c : Int)] w fun e w' => e = .returned (.int .u8 (suitN c)) ∧ w = w' := by
  unfold suitN
  by_cases h : c < 52
  · rw [if_pos h]
    go_enter Try.func34, Try.ntmps34
    go_wp2
    go_loop [0, 3] (fun c' s => ∃ a b : Nat, c' = .int .u8 a ∧ s = .int .u8 b ∧ 13 * b + a = c) (fun c' _ => (intOf c').toNat)
    case atStart => exact ⟨c, 0, rfl, rfl, by omega⟩
    case round =>
      obtain ⟨a, b, rfl, rfl, hab⟩ := hrel
      by_cases h13 : 13 ≤ a
      · go_wp2
        go_round
        case rel => exact ⟨a - 13, b + 1, by go_num, by go_num, by omega⟩
        case measure => simp [intOf]; omega
      · have hb : b = c / 13 := by omega
        have HBq := Lib.hid hb
        clear hb
        go_wp2
        go_ret
        exact ⟨ret_int (by have := HBq.out; omega), rfl⟩
  · rw [if_neg h]
    go_enter Try.func34, Try.ntmps34
    go_wp2
    go_ret
    exact ⟨rfl, rfl⟩

theorem RRank_any (c : Nat) (w : World) (hc : c < 256) :
    Calls Try.prog 35 #[.int .u8 (c : Int)] w fun e w' => e = .returned (.int .u8 (rankN c)) ∧ w = w' := by
  unfold rankN
  by_cases h : c < 52
  · rw [if_pos h]
    obtain ⟨q, hq⟩ : ∃ q, suitN c = q := ⟨_, rfl⟩
    have hq2 : q = c / 13 := by rw [← hq]; unfold suitN; rw [if_pos h]
    have hq3 : 13 * q ≤ c := by omega
    have e : ((c % 13 : Nat) : Int) = (c : Int) - 13 * (q : Int) := by omega
    have HE := Lib.hid e
    clear e hq2
    go_enter Try.func35, Try.ntmps35
    go_wp2_with (go_at_call 34; refine (RSuit_any c _ hc).mono ?_; rintro e w' ⟨rfl, rfl⟩; rw [hq])
    go_ret
    exact ⟨ret_int (by have := HE.out; omega), rfl⟩
  · rw [if_neg h]
    go_enter Try.func35, Try.ntmps35
    go_wp2
    go_ret
    exact ⟨rfl, rfl⟩

theorem RText_yes (c : Nat) (w : World) (hc : c < 52) :
    Calls Try.prog 32 #[.int .u8 (c : Int)] w fun e w' => e = .returned (.tuple #[vS (txt c), .int .i64 0]) ∧ Below w.heap.size w w' := by
  obtain ⟨q, hq⟩ : ∃ q, suitN c = q := ⟨_, rfl⟩
  obtain ⟨r, hr⟩ : ∃ r, rankN c = r := ⟨_, rfl⟩
  have hq2 : c / 13 = q := by rw [← hq]; unfold suitN; rw [if_pos hc]
  have hr2 : c % 13 = r := by rw [← hr]; unfold rankN; rw [if_pos hc]
  have hq4 : q < 4 := by omega
  have hr13 : r < 13 := by omega
  have ht : (⟨#[suitB q]⟩ : ByteArray) ++ ⟨#[rankB r]⟩ = ⟨(txt c).toArray⟩ := by
    unfold txt
    rw [hq2, hr2]
    exact cat_one [suitB q] (rankB r)
  have HT := Lib.hid ht
  clear ht hq2 hr2
  go_enter Try.func32, Try.ntmps32
  go_wp2_with (first
    | (go_at_call 34; refine (RSuit_any c _ (by omega)).mono ?_; rintro e w' ⟨rfl, rfl⟩; rw [hq])
    | (go_at_call 35; refine (RRank_any c _ (by omega)).mono ?_; rintro e w' ⟨rfl, rfl⟩; rw [hr])
    | (go_at_call 48; refine (letter_any q _ hq4).mono ?_; rintro e w' ⟨rfl, rfl⟩)
    | (go_at_call 46; refine (sign_any r _ hr13).mono ?_; rintro e w2 ⟨rfl, hb2⟩))
  exact bodyPost_ret (results_tmp2 rfl _ _ _) rfl ⟨by rw [HT.out]; rfl, hb2⟩

theorem RText_no (c : Nat) (w : World) (hc : c < 256) (h : ¬ c < 52) :
    Calls Try.prog 32 #[.int .u8 (c : Int)] w fun e w' => e = .returned (.tuple #[.string ⟨#[]⟩, .int .i64 41]) ∧ w = w' := by
  go_enter Try.func32, Try.ntmps32
  go_wp2
  exact bodyPost_ret (results_tmp2 rfl _ _ _) rfl ⟨rfl, rfl⟩

theorem RRead_any (s : ByteArray) (w : World) :
    Calls Try.prog 33 #[.string s] w fun e w' => e = .returned (vRead (readN s.data.toList)) ∧ Below w.heap.size w w' := by
  obtain ⟨R, hR⟩ : ∃ R, readN s.data.toList = R := ⟨_, rfl⟩
  have HR := Lib.hid hR
  rw [hR]
  clear hR
  go_enter Try.func33, Try.ntmps33
  go_wp2
  go_loopw [4] (fun c wr => ∃ c' : Nat, c = .int .i64 c' ∧ c' ≤ 52 ∧ Hid (∀ d, d < c' → txt d ≠ s.data.toList) ∧ Below w.heap.size w wr) (fun c _ => 52 - (intOf c).toNat)
  case atStart => exact ⟨0, rfl, by omega, Lib.hid (fun d hd => by omega), Below.refl _ _⟩
  case round =>
    obtain ⟨c, rfl, hc, hG, hB⟩ := hrel
    by_cases h : c < 52
    · by_cases he : txt c = s.data.toList
      · have hv : R = some c := by rw [← HR.out, ← he]; exact txt_read c h
        subst hv
        have hq : (txt c == s.toList) = true := by rw [beq_iff_eq]; exact he.trans (Lib.toList_data s).symm
        clear he
        go_wp2_with (go_at_call 32; refine (RText_yes c _ h).mono ?_; rintro e w2 ⟨rfl, hb2⟩)
        exact bodyPost_ret (results_tmp2 rfl _ _ _) rfl ⟨rfl, hB.trans (hb2.mono hB.size)⟩
      · have hq : (txt c == s.toList) = false := by rw [beq_eq_false_iff_ne]; exact fun e => he (e.trans (Lib.toList_data s))
        have hG2 : ∀ d, d < c + 1 → txt d ≠ s.data.toList := fun d hd => by
          by_cases hdc : d = c
          · subst hdc; exact he
          · exact hG.out d (by omega)
        have HG2 := Lib.hid hG2
        clear hG2 he hG
        go_wp2_with (go_at_call 32; refine (RText_yes c _ h).mono ?_; rintro e w2 ⟨rfl, hb2⟩)
        go_roundw
        case rel => exact ⟨c + 1, by go_num, by omega, HG2, hB.trans (hb2.mono hB.size)⟩
        case measure => simp [intOf]; omega
    · obtain rfl : c = 52 := by omega
      have hv : R = none := by rw [← HR.out]; exact read_none hG.out
      subst hv
      go_wp2
      exact bodyPost_ret (results_tmp2 rfl _ _ _) rfl ⟨rfl, hB⟩

theorem Whole_any (m : Nat) (w : World) (hm : m < 18446744073709551616) :
    Calls Try.prog 44 #[.int .u64 (m : Int)] w fun e w' => e = .returned (.bool (decide (m < 4503599627370496))) ∧ w = w' := by
  go_enter Try.func44, Try.ntmps44
  go_wp2
  go_ret
  refine ⟨ret_b ?_, rfl⟩
  rw [Bool.eq_iff_iff]
  simp only [decide_eq_true_eq]
  omega

theorem Has_any (m c : Nat) (w : World) (hm : m < 18446744073709551616) (hc : c < 64) :
    Calls Try.prog 45 #[.int .u64 (m : Int), .int .i64 (c : Int)] w fun e w' => e = .returned (.bool (bt m c)) ∧ w = w' := by
  go_enter Try.func45, Try.ntmps45
  go_wp2
  go_loop [0, 5] (fun a i => ∃ a' i' : Nat, a = .int .u64 a' ∧ i = .int .i64 i' ∧ i' ≤ c ∧ a' < 18446744073709551616 ∧ Hid (a' = m / 2 ^ i')) (fun _ i => c - (intOf i).toNat)
  case atStart => exact ⟨m, 0, rfl, rfl, by omega, hm, Lib.hid (by simp)⟩
  case round =>
    obtain ⟨a, i, rfl, rfl, hi, ha, hG⟩ := hrel
    by_cases h : i < c
    · have hG2 : a / 2 = m / 2 ^ (i + 1) := by rw [hG.out, Nat.div_div_eq_div_mul, Nat.pow_succ]
      have HG := Lib.hid hG2
      clear hG2
      go_wp2
      go_round
      case rel => exact ⟨a / 2, i + 1, congrArg (Value.int .u64) (by omega), by go_num, by omega, by omega, HG⟩
      case measure => simp [intOf]; omega
    · obtain rfl : i = c := by omega
      have hb : bt m i = (a % 2 == 1) := by unfold bt; rw [hG.out]
      have HB := Lib.hid hb
      clear hb
      go_wp2
      go_ret
      refine ⟨ret_b ?_, rfl⟩
      rw [HB.out]
      rw [Bool.eq_iff_iff]
      simp only [beq_iff_eq, decide_eq_true_eq]
      omega

theorem bit_any (c : Nat) (w : World) (hc : c < 52) :
    Calls Try.prog 53 #[.int .u8 (c : Int)] w fun e w' => e = .returned (.int .u64 ((2 ^ c : Nat) : Int)) ∧ w = w' := by
  obtain ⟨P, hP⟩ : ∃ P, 2 ^ c = P := ⟨_, rfl⟩
  have HP := Lib.hid hP
  rw [hP]
  clear hP
  go_enter Try.func53, Try.ntmps53
  go_wp2
  go_loop [3, 4] (fun m i => ∃ m' i' : Nat, m = .int .u64 m' ∧ i = .int .u8 i' ∧ i' ≤ c ∧ Hid (m' = 2 ^ i')) (fun _ i => c - (intOf i).toNat)
  case atStart => exact ⟨1, 0, rfl, rfl, by omega, Lib.hid rfl⟩
  case round =>
    obtain ⟨m, i, rfl, rfl, hi, hG⟩ := hrel
    by_cases h : i < c
    · have hlt : 2 ^ i < 2 ^ 52 := Nat.pow_lt_pow_right (by decide) (by omega)
      rw [← hG.out] at hlt
      have hlt2 : m < 4503599627370496 := hlt
      have hG2 : m + m = 2 ^ (i + 1) := by rw [Nat.pow_succ, ← hG.out]; omega
      have HG := Lib.hid hG2
      clear hG2 hlt
      go_wp2
      go_round
      case rel => exact ⟨m + m, i + 1, by go_num, by go_num, by omega, HG⟩
      case measure => simp [intOf]; omega
    · obtain rfl : i = c := by omega
      obtain rfl : m = P := hG.out.trans HP.out
      go_wp2
      go_ret
      exact ⟨rfl, rfl⟩

end Go.Proofs.Ytbjehiagaikhoaa
