/- Masks beyond the cards, numbers that are not cards, and texts with a wrong byte or point are rejected. It holds of any set and any numbers. -/
import Derived.Test.YtbjehiagaikhoaaProg
import Derived.Test.YtbjehiagaikhoaaCardAwake
import Derived.Test.YtbjehiagaikhoaaCardG
import Derived.Deep.RegionHeld3
import Derived.Lib.SmallJoins
namespace Go.Proofs.Ytbjehiagaikhoaa
open Go.RowKit
set_option linter.unusedVariables false
set_option linter.unusedSimpArgs false
set_option maxRecDepth 100000
set_option maxHeartbeats 2000000

theorem downs_zero (k : Nat) : downs 0 k = [] := by
  induction k with
  | zero => rfl
  | succ k ih => unfold downs; rw [bt_zero, ih]; rfl

theorem pick_no (m s : Nat) (h : ¬ (m < 4503599627370496 ∧ s < 4)) : (downs (ofN m s) 52).head? = none ∧ (downs (ofN m s) 52).getLast? = none := by
  unfold ofN
  rw [if_neg h, downs_zero]
  exact ⟨rfl, rfl⟩

theorem or_high (m e : Nat) (hm : m < 4503599627370496) (he : e < 12) : bits BinOp.or IntKind.u64 (m : Int) (IntKind.u64.wrap (2 ^ (52 + e))) = ((m ||| 2 ^ (52 + e) : Nat) : Int) ∧ m ||| 2 ^ (52 + e) < 18446744073709551616 ∧ ¬ m ||| 2 ^ (52 + e) < 4503599627370496 := by
  have h1 : (2 : Nat) ^ (52 + e) < 2 ^ 64 := Nat.pow_lt_pow_right (by decide) (by omega)
  have h2 : m ||| 2 ^ (52 + e) < 2 ^ 64 := Nat.or_lt_two_pow (Nat.lt_of_lt_of_le hm (by decide)) h1
  refine ⟨?_, h2, ?_⟩
  · have h3 : ((2 : Int) ^ (52 + e)) = ((2 ^ (52 + e) : Nat) : Int) := by simp
    rw [h3]
    obtain ⟨z, hz⟩ : ∃ z : Nat, 2 ^ (52 + e) = z := ⟨_, rfl⟩
    rw [hz] at h1 ⊢
    have h4 : z < 18446744073709551616 := h1
    rw [IntKind.wrap_u64, Int.emod_eq_of_lt (by omega) (by omega)]
    exact u64_or_nat _ _ (by omega) (by omega)
  · intro h
    have h5 : bt (m ||| 2 ^ (52 + e)) (52 + e) = false := bt_low _ _ h (by omega)
    rw [bt_or] at h5
    simp at h5

theorem rd_new (w : World) (t : TypeId) (xs : List Value) (h0 : 0 < xs.length) (h1 : xs.length ≤ maxLen) :
    Rd (w.alloc (.cells xs.toArray t)).heap.size (w.alloc (.cells xs.toArray t)) 1 (.slice (some ⟨w.heap.size, 0, none⟩) xs.length xs.length) xs.length xs := by
  refine ⟨by omega, .inr ⟨h0, _, _, _, rfl, by simp, Nat.le_refl _, Nat.le_refl _, h1, fun j hj => ?_⟩⟩
  rw [Nat.zero_add, (Row.new w t xs.toArray).cell]
  simp

theorem cut_in (T : List UInt8) (i : Nat) (b : UInt8) (hi : i ≤ T.length) :
    ((⟨T.toArray⟩ : ByteArray).extract 0 i ++ ⟨#[b]⟩ ++ (⟨T.toArray⟩ : ByteArray).extract i T.length).data.toList = T.take i ++ b :: T.drop i := by
  rw [Joins.data_append, Joins.data_append, Lib.extract_data, Lib.extract_data]
  simp
  rw [List.take_of_length_le (by simp)]

theorem CardWrong_nat (m h n p : Nat) (w : World) (hm : m < 18446744073709551616) (hh : h < 256) (hn : n < 256) (hp : p < 256) :
    Calls Try.prog 10 #[.int .u64 (m : Int), .int .u8 (h : Int), .int .u8 (n : Int), .int .u8 (p : Int)] w fun e w' => e = .returned (.bool true) ∧ Below w.heap.size w w' := by
  obtain ⟨M, hM⟩ : ∃ M, m % 4503599627370496 = M := ⟨_, rfl⟩
  have hMi : (m : Int) % 4503599627370496 = (M : Int) := by omega
  have hMt : (m : Int).tmod 4503599627370496 = (M : Int) := by rw [Int.tmod_eq_emod_of_nonneg (by omega)]; omega
  have hM52 : M < 4503599627370496 := by omega
  obtain ⟨H, hH⟩ : ∃ H, h % 12 = H := ⟨_, rfl⟩
  have hHi : (h : Int) % 12 = (H : Int) := by omega
  have hHt : (h : Int).tmod 12 = (H : Int) := by rw [Int.tmod_eq_emod_of_nonneg (by omega)]; omega
  have hH12 : H < 12 := by omega
  obtain ⟨N, hN⟩ : ∃ N, n % 4 = N := ⟨_, rfl⟩
  have hNi : (n : Int) % 4 = (N : Int) := by omega
  have hNt : (n : Int).tmod 4 = (N : Int) := by rw [Int.tmod_eq_emod_of_nonneg (by omega)]; omega
  have hN4 : N < 4 := by omega
  clear hM hH hN
  obtain ⟨no, hno⟩ : ∃ no, max n 52 = no := ⟨_, rfl⟩
  have hnoi : max (n : Int) 52 = (no : Int) := by omega
  have hno52 : 52 ≤ no := by omega
  have hno256 : no < 256 := by omega
  obtain ⟨n4, hn4⟩ : ∃ n4, max n 4 = n4 := ⟨_, rfl⟩
  have hn4i : max (n : Int) 4 = (n4 : Int) := by omega
  have hn4l : 4 ≤ n4 := by omega
  have hn4u : n4 < 256 := by omega
  obtain ⟨n13, hn13⟩ : ∃ n13, max n 13 = n13 := ⟨_, rfl⟩
  have hn13i : max (n : Int) 13 = (n13 : Int) := by omega
  have hn13l : 13 ≤ n13 := by omega
  have hn13u : n13 < 256 := by omega
  clear hno hn4 hn13
  obtain ⟨o1, o2, o3⟩ := or_high M H hM52 hH12
  obtain ⟨Bd, hBd⟩ : ∃ Bd, M ||| 2 ^ (52 + H) = Bd := ⟨_, rfl⟩
  rw [hBd] at o1 o2 o3
  clear hBd
  have hB : Below w.heap.size w w := Below.refl _ _
  have hp1 := pick_no Bd N (by omega)
  have HP1 := Lib.hid hp1
  clear hp1
  go_enter Try.func10, Try.ntmps10
  go_wp2_with (first
    | (go_at_call 21; refine (List_no Bd _ o2 o3).mono ?_; rintro e w1 ⟨rfl, rfl⟩)
    | (go_at_call 19; refine (Write_no Bd _ o2 o3).mono ?_; rintro e w1 ⟨rfl, rfl⟩)
    | (go_at_call 11; refine (Top_any Bd N _ o2 (by omega)).mono ?_; rintro e w2 ⟨rfl, hb1⟩; rw [HP1.out.1, vPick_none]; replace hB := hB.trans (hb1.mono hB.size); clear hb1)
    | (go_at_call 23; refine (Low_any Bd N _ o2 (by omega)).mono ?_; rintro e w3 ⟨rfl, hb1⟩; rw [HP1.out.2, vPick_none]; replace hB := hB.trans (hb1.mono hB.size); clear hb1))
  go_wp2_with (first
    | (go_at_call 17; refine (Text_no no _ (by omega) (by omega)).mono ?_; rintro e w1 ⟨rfl, rfl⟩))
  obtain ⟨W3, hW3⟩ : ∃ W3, w3.alloc (.cells #[.int .u8 3, .int .u8 (no : Int), .int .u8 3] 5) = W3 := ⟨_, rfl⟩
  have hm1 : Calls Try.prog 26 #[.slice (some ⟨w3.heap.size, 0, none⟩) 3 3] W3 fun e w' => e = .returned (vMask (mgo 0 [3, no, 3])) ∧ W3 = w' := Mask_any _ [3, no, 3] W3 (by rw [← hW3]; exact rd_new w3 5 (bys [3, no, 3]) (by simp) (by simp [maxLen])) (by intro c hc; simp at hc; omega)
  have hg1 : vMask (mgo 0 [3, no, 3]) = .tuple #[.int .u64 0, .int .i64 41] := by
    unfold mgo; rw [if_pos (by omega), bt_zero, if_neg (by decide)]; unfold mgo; rw [if_neg (by omega)]; rfl
  rw [hg1] at hm1
  rw [hW3]
  have hB3 : Below w.heap.size w W3 := by rw [← hW3]; exact hB.alloc hB.size _
  refine hm1.mono ?_
  rintro e w4 ⟨rfl, rfl⟩
  clear hm1 hW3 hB
  have hd52 : decide (no < 52) = false := by simp; omega
  have hsu : suitN no = 0 := by unfold suitN; rw [if_neg (by omega)]
  have hra : rankN no = 0 := by unfold rankN; rw [if_neg (by omega)]
  have hv1 : vOf n4 0 = .tuple #[.int .u8 0, .int .i64 2] := by unfold vOf; rw [if_neg (by omega)]
  have hv2 : vOf 0 n13 = .tuple #[.int .u8 0, .int .i64 2] := by unfold vOf; rw [if_neg (by omega)]
  have HV := Lib.hid (And.intro hv1 hv2)
  clear hv1 hv2 hg1
  go_wp2_with (first
    | (go_at_call 20; refine (Right_any no _ (by omega)).mono ?_; rintro e w1 ⟨rfl, rfl⟩; rw [hd52])
    | (go_at_call 12; refine (Suit_any no _ (by omega)).mono ?_; rintro e w1 ⟨rfl, rfl⟩; rw [hsu])
    | (go_at_call 16; refine (Rank_any no _ (by omega)).mono ?_; rintro e w1 ⟨rfl, rfl⟩; rw [hra])
    | (go_at_call_of 15 n4; refine (Of_any n4 0 _ (by omega) (by omega)).mono ?_; rintro e w1 ⟨rfl, rfl⟩; rw [HV.out.1])
    | (go_at_call_of 15 n13; refine (Of_any 0 n13 _ (by omega) (by omega)).mono ?_; rintro e w1 ⟨rfl, rfl⟩; rw [HV.out.2]))
  obtain ⟨W4, hW4⟩ : ∃ W4, W3.alloc (.cells #[.int .u8 3, .int .u8 3, .int .u8 (no : Int)] 5) = W4 := ⟨_, rfl⟩
  have hm1 : Calls Try.prog 26 #[.slice (some ⟨W3.heap.size, 0, none⟩) 3 3] W4 fun e w' => e = .returned (vMask (mgo 0 [3, 3, no])) ∧ W4 = w' := Mask_any _ [3, 3, no] W4 (by rw [← hW4]; exact rd_new W3 5 (bys [3, 3, no]) (by simp) (by simp [maxLen])) (by intro c hc; simp at hc; omega)
  have hg1 : vMask (mgo 0 [3, 3, no]) = .tuple #[.int .u64 0, .int .i64 42] := by
    unfold mgo; rw [if_pos (by omega), bt_zero, if_neg (by decide)]; unfold mgo; rw [if_pos (by omega), bt_or, bt_zero]; rfl
  rw [hg1] at hm1
  rw [hW4]
  have hB4 : Below w.heap.size w W4 := by rw [← hW4]; exact hB3.alloc hB3.size _
  refine hm1.mono ?_
  rintro e w5 ⟨rfl, rfl⟩
  clear hm1 hW4 hB3 hg1
  have hp2 := pick_no M n4 (by omega)
  have HP2 := Lib.hid hp2
  clear hp2
  obtain ⟨T, hT⟩ : ∃ T, wtext M = T := ⟨_, rfl⟩
  have hTl : T.length ≤ 55 := by rw [← hT, wtext_len]; have := downs_len M 52; omega
  obtain ⟨i, hi⟩ : ∃ i, p % (T.length + 1) = i := ⟨_, rfl⟩
  have hii : (p : Int) % ((T.length : Int) + 1) = (i : Int) := by rw [← hi]; simp
  have hit : (p : Int).tmod ((T.length : Int) + 1) = (i : Int) := by rw [Int.tmod_eq_emod_of_nonneg (by omega)]; exact hii
  have hil : i ≤ T.length := by have := Nat.mod_lt p (show 0 < T.length + 1 by omega); omega
  have hij : (i : Int) ≤ (T.length : Int) := by omega
  clear hi
  have hq1 : ¬ (9223372036854775807 < i + 1) := by omega
  have hq2 : ¬ (9223372036854775807 < i + 1 + (T.length - i)) := by omega
  have hq3 : ¬ (9223372036854775807 < T.length + 1) := by omega
  have HT := Lib.hid hT
  clear hT
  go_wp2_with (first
    | (go_at_call 11; refine (Top_any M n4 _ (by omega) (by omega)).mono ?_; rintro e w6 ⟨rfl, hb1⟩; rw [HP2.out.1, vPick_none]; replace hB4 := hB4.trans (hb1.mono hB4.size); clear hb1)
    | (go_at_call 23; refine (Low_any M n4 _ (by omega) (by omega)).mono ?_; rintro e w7 ⟨rfl, hb1⟩; rw [HP2.out.2, vPick_none]; replace hB4 := hB4.trans (hb1.mono hB4.size); clear hb1)
    | (go_at_call 19; refine (Write_yes M _ hM52).mono ?_; rintro e w8 ⟨rfl, hb1⟩; rw [HT.out]; replace hB4 := hB4.trans (hb1.mono hB4.size); clear hb1))
  go_region_held3 (fun _ => True) (trivial) (fail)
  obtain ⟨S1, hS1⟩ : ∃ S1, (⟨T.toArray⟩ : ByteArray).extract 0 i ++ ⟨#[120]⟩ ++ (⟨T.toArray⟩ : ByteArray).extract i T.length = S1 := ⟨_, rfl⟩
  obtain ⟨S2, hS2⟩ : ∃ S2, (⟨T.toArray⟩ : ByteArray).extract 0 i ++ ⟨#[46]⟩ ++ (⟨T.toArray⟩ : ByteArray).extract i T.length = S2 := ⟨_, rfl⟩
  obtain ⟨S3, hS3⟩ : ∃ S3, (⟨T.toArray⟩ : ByteArray) ++ ⟨#[32]⟩ = S3 := ⟨_, rfl⟩
  obtain ⟨S4, hS4⟩ : ∃ S4, (⟨T.toArray⟩ : ByteArray).extract 0 i ++ ⟨#[49]⟩ ++ (⟨T.toArray⟩ : ByteArray).extract i T.length = S4 := ⟨_, rfl⟩
  have l1 : S1.data.toList = T.take i ++ 120 :: T.drop i := by rw [← hS1]; exact cut_in T i 120 hil
  have l2 : S2.data.toList = T.take i ++ 46 :: T.drop i := by rw [← hS2]; exact cut_in T i 46 hil
  have l3 : S3.data.toList = T ++ [32] := by rw [← hS3, cat_one]
  have l4 : S4.data.toList = T.take i ++ 49 :: T.drop i := by rw [← hS4]; exact cut_in T i 49 hil
  rw [hS1, hS2, hS3, hS4]
  have sz : ∀ (S : ByteArray), S.data.toList.length ≤ 60 → S.size ≤ 9223372036854775807 := fun S h => by
    have : S.size = S.data.toList.length := by rw [Array.length_toList]; rfl
    omega
  have z1 : S1.size ≤ 9223372036854775807 := sz S1 (by rw [l1]; simp; omega)
  have z2 : S2.size ≤ 9223372036854775807 := sz S2 (by rw [l2]; simp; omega)
  have z3 : S3.size ≤ 9223372036854775807 := sz S3 (by rw [l3]; simp; omega)
  have z4 : S4.size ≤ 9223372036854775807 := sz S4 (by rw [l4]; simp; omega)
  have p1 : parseN S1.data.toList = none := by rw [l1, ← HT.out]; exact bad_x M i
  have p2 : parseN S2.data.toList = none := by rw [l2, ← HT.out]; exact bad_dot M i
  have p3 : parseN S3.data.toList = none := by rw [l3, ← HT.out]; exact bad_end M
  have p4 : parseN S4.data.toList = none := by rw [l4, ← HT.out]; exact bad_1 M i
  have PP := Lib.hid (And.intro p1 (And.intro p2 (And.intro p3 p4)))
  clear p1 p2 p3 p4 l1 l2 l3 l4 hS1 hS2 hS3 hS4 sz hq1 hq2 hq3 hii hit
  obtain ⟨W8, hW8⟩ : ∃ W8, (w8.alloc (.cells #[.string S1, .string S2, .string S3, .string S4] 9)).drew = W8 := ⟨_, rfl⟩
  have hr0 : Row W8 w8.heap.size 9 #[.string S1, .string S2, .string S3, .string S4] := by rw [← hW8]; exact (Row.new _ _ _).drew
  have hB8 : Below w.heap.size w W8 := by rw [← hW8]; exact (hB4.alloc hB4.size _).drew
  go_wp2_with fail
  rw [hW8]
  clear hW8
  go_loopw [198] (fun i wr => ∃ i' : Nat, i = .int .i64 i' ∧ i' ≤ 4 ∧ Row wr w8.heap.size 9 #[.string S1, .string S2, .string S3, .string S4] ∧ Below w.heap.size w wr) (fun i _ => 4 - (intOf i).toNat)
  case atStart => exact ⟨0, rfl, by omega, hr0, hB8⟩
  case round =>
    obtain ⟨i, rfl, hi, hr, hBr⟩ := hrel
    have c0 : wr.cell? ⟨w8.heap.size, 0, none⟩ = some (.string S1) := by rw [hr.cell]; rfl
    have c1 : wr.cell? ⟨w8.heap.size, 1, none⟩ = some (.string S2) := by rw [hr.cell]; rfl
    have c2 : wr.cell? ⟨w8.heap.size, 2, none⟩ = some (.string S3) := by rw [hr.cell]; rfl
    have c3 : wr.cell? ⟨w8.heap.size, 3, none⟩ = some (.string S4) := by rw [hr.cell]; rfl
    have hi4 : i = 0 ∨ i = 1 ∨ i = 2 ∨ i = 3 ∨ i = 4 := by omega
    clear hi
    rcases hi4 with rfl | rfl | rfl | rfl | rfl
    · go_wp2_with (go_at_call 25; refine (Parse_any S1 _ z1).mono ?_; rintro e w9 ⟨rfl, hb2⟩; rw [PP.out.1]; simp only [vParse])
      go_roundw
      case rel => exact ⟨1, by go_num, by omega, hr.below hb2 hr.lt, hBr.trans (hb2.mono hBr.size)⟩
      case measure => simp [intOf]
    · go_wp2_with (go_at_call 25; refine (Parse_any S2 _ z2).mono ?_; rintro e w9 ⟨rfl, hb2⟩; rw [PP.out.2.1]; simp only [vParse])
      go_roundw
      case rel => exact ⟨2, by go_num, by omega, hr.below hb2 hr.lt, hBr.trans (hb2.mono hBr.size)⟩
      case measure => simp [intOf]
    · go_wp2_with (go_at_call 25; refine (Parse_any S3 _ z3).mono ?_; rintro e w9 ⟨rfl, hb2⟩; rw [PP.out.2.2.1]; simp only [vParse])
      go_roundw
      case rel => exact ⟨3, by go_num, by omega, hr.below hb2 hr.lt, hBr.trans (hb2.mono hBr.size)⟩
      case measure => simp [intOf]
    · go_wp2_with (go_at_call 25; refine (Parse_any S4 _ z4).mono ?_; rintro e w9 ⟨rfl, hb2⟩; rw [PP.out.2.2.2]; simp only [vParse])
      go_roundw
      case rel => exact ⟨4, by go_num, by omega, hr.below hb2 hr.lt, hBr.trans (hb2.mono hBr.size)⟩
      case measure => simp [intOf]
    · go_wp2_with (go_at_call 13; refine (awake_true _).mono ?_; rintro e w9 ⟨rfl, hb9⟩)
      go_ret
      exact ⟨rfl, hBr.trans (hb9.mono hBr.size)⟩

theorem CardWrong_walk (m h n p : Int) (w : World) (hm : 0 ≤ m ∧ m ≤ 18446744073709551615) (hh : 0 ≤ h ∧ h ≤ 255) (hn : 0 ≤ n ∧ n ≤ 255) (hp : 0 ≤ p ∧ p ≤ 255) :
    Calls Try.prog 10 #[.int .u64 m, .int .u8 h, .int .u8 n, .int .u8 p] w fun e w' => e = .returned (.bool true) ∧ Below w.heap.size w w' := by
  obtain ⟨m', rfl⟩ : ∃ m' : Nat, m = m' := ⟨m.toNat, by omega⟩
  obtain ⟨h', rfl⟩ : ∃ h' : Nat, h = h' := ⟨h.toNat, by omega⟩
  obtain ⟨n', rfl⟩ : ∃ n' : Nat, n = n' := ⟨n.toNat, by omega⟩
  obtain ⟨p', rfl⟩ : ∃ p' : Nat, p = p' := ⟨p.toNat, by omega⟩
  exact CardWrong_nat m' h' n' p' w (by omega) (by omega) (by omega) (by omega)

end Go.Proofs.Ytbjehiagaikhoaa
