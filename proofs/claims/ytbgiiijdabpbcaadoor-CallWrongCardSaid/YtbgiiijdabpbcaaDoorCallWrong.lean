/- Numbers that are no calls, levels and denominations that there are not, and strings with a byte that no call has, are rejected. It holds of any numbers and any string. -/
import Derived.Test.YtbgiiijdabpbcaaDoorProg
import Derived.Test.YtbgiiijdabpbcaaDoorCallAwake
import Derived.Test.YtbgiiijdabpbcaaDoorCallX
import Derived.Test.YtbgiiijdabpbcaaDoorCallOrder
import Derived.Deep.RegionHeld3
import Derived.Lib.SmallJoins
namespace Go.Proofs.YtbgiiijdabpbcaaDoor
open Go.RowKit
set_option linter.unusedVariables false
set_option linter.unusedSimpArgs false
set_option maxRecDepth 100000
set_option maxHeartbeats 4000000

theorem bid_no {l d : Nat} (h : ¬ (1 ≤ l ∧ l ≤ 7 ∧ d ≤ 4)) : vBid l d = .tuple #[.int .u8 0, .int .i64 2] := by unfold vBid; rw [if_neg h]

theorem rdNew2 (w : World) (t : TypeId) (a b : Nat) :
    Rd (w.alloc (.cells #[.int .u8 a, .int .u8 b] t)).heap.size (w.alloc (.cells #[.int .u8 a, .int .u8 b] t)) 1 (.slice (some ⟨w.heap.size, 0, none⟩) 2 2) 2 (bys [a, b]) :=
  rdNew w t (bys [a, b]) (by simp) (by simp [maxLen])

theorem Read_bad (S : ByteArray) (w : World) (hden : Den w) (h : readC S.data.toList = none) :
    Calls Tryd.prog 20 #[.string S] w fun e w' => e = .returned (.tuple #[.int .u8 0, .int .i64 81]) ∧ Below w.heap.size w w' := by
  have := Read_any S w hden
  rw [h] at this
  exact this

theorem ReadAll_bad (S : ByteArray) (w : World) (hden : Den w) (hsh : w.ShapedOpen Tryd.prog) (hs : S.size ≤ 1400) (h : readAllN S.data.toList = none) :
    Calls Tryd.prog 21 #[.string S] w fun e w' => ∃ a c, e = .returned (.tuple #[.slice a 0 c, .int .i64 81]) ∧ Below w.heap.size w w' := by
  have h1 : readL S.data.toList = [] := by unfold readL; rw [h]; rfl
  have h2 : readE S.data.toList = 81 := by unfold readE; rw [h]; rfl
  refine (ReadAll_any S w hden hsh hs).mono ?_
  rw [h1, h2]
  rintro e w' ⟨v, rfl, ho, hb⟩
  obtain ⟨a, c, rfl⟩ := own_shape ho
  exact ⟨a, c, rfl, hb⟩

theorem sz_list (S : ByteArray) : S.size = S.data.toList.length := by rw [Array.length_toList]; rfl

theorem CallWrong_nat (n lv : Nat) (s : ByteArray) (w : World) (hn : n < 256) (hlv : lv < 256) (hs : s.size ≤ 9223372036854775807) (hden : Den w) (hsh : w.ShapedOpen Tryd.prog) (h248 : lv % 249 < 248) :
    Calls Tryd.prog 7 #[.int .u8 (n : Int), .int .u8 (lv : Int), .string s] w fun e w' => e = .returned (.bool true) ∧ Below w.heap.size w w' := by
  have HA := Lib.hid (awake_true w hden hsh)
  have h00 := hden.2
  have HD := Lib.hid (And.intro hden hsh)
  clear hden hsh
  obtain ⟨q, hq⟩ : ∃ q, n % 218 = q := ⟨_, rfl⟩
  have hqi : (n : Int) % 218 = (q : Int) := by omega
  have hqt : (n : Int).tmod 218 = (q : Int) := by rw [Int.tmod_eq_emod_of_nonneg (by omega)]; omega
  obtain ⟨bad, hbad⟩ : ∃ bad, 38 + q = bad := ⟨_, rfl⟩
  have hbi : (38 : Int) + (q : Int) = (bad : Int) := by omega
  have hb1 : 38 ≤ bad := by omega
  have hb2 : bad < 256 := by omega
  obtain ⟨l1, hl1⟩ : ∃ l1, lv % 249 = l1 := ⟨_, rfl⟩
  have hl1i : (lv : Int) % 249 = (l1 : Int) := by omega
  have hl1t : (lv : Int).tmod 249 = (l1 : Int) := by rw [Int.tmod_eq_emod_of_nonneg (by omega)]; omega
  obtain ⟨l2, hl2⟩ : ∃ l2, lv % 251 = l2 := ⟨_, rfl⟩
  have hl2i : (lv : Int) % 251 = (l2 : Int) := by omega
  have hl2t : (lv : Int).tmod 251 = (l2 : Int) := by rw [Int.tmod_eq_emod_of_nonneg (by omega)]; omega
  obtain ⟨l3, hl3⟩ : ∃ l3, lv % 5 = l3 := ⟨_, rfl⟩
  have hl3i : (lv : Int) % 5 = (l3 : Int) := by omega
  have hl3t : (lv : Int).tmod 5 = (l3 : Int) := by rw [Int.tmod_eq_emod_of_nonneg (by omega)]; omega
  have hl1b : l1 < 248 := by omega
  have hl2b : l2 < 251 := by omega
  have hl3b : l3 < 5 := by omega
  obtain ⟨k1, hk1⟩ : ∃ k1, l1 + 8 = k1 := ⟨_, rfl⟩
  have hk1i : (l1 : Int) + 8 = (k1 : Int) := by omega
  obtain ⟨k2, hk2⟩ : ∃ k2, 5 + l2 = k2 := ⟨_, rfl⟩
  have hk2i : (5 : Int) + (l2 : Int) = (k2 : Int) := by omega
  have hv1 := bid_no (l := k1) (d := 0) (by omega)
  have hv2 := bid_no (l := 1) (d := k2) (by omega)
  have hv3 := bid_no (l := 0) (d := l3) (by omega)
  have hk1b : k1 < 256 := by omega
  have hk2b : k2 < 256 := by omega
  clear hq hbad hl1 hl2 hl3 hk1 hk2
  have hch : vCheap (cheapN bad 0) = .tuple #[.int .u8 0, .int .i64 80] := by unfold cheapN; rw [if_pos hb1]; rfl
  have hj1 : vJump (jumpN bad 20) = .tuple #[.int .i64 0, .int .i64 80] := by unfold jumpN; rw [if_neg (by omega)]; rfl
  have hj2 : vJump (jumpN 20 bad) = .tuple #[.int .i64 0, .int .i64 80] := by unfold jumpN; rw [if_neg (by unfold isBid; simp; omega)]; rfl
  have hp := parts_no (c := bad) (by omega)
  have hrd : decide (bad < 38) = false := by simp; omega
  have hta : vTextAll [0, bad] = .tuple #[.string ⟨#[]⟩, .int .i64 80] := by
    unfold vTextAll
    rw [if_neg (by simp), if_neg (by simp; omega)]
  have HV := Lib.hid (And.intro hv1 (And.intro hv2 (And.intro hv3 (And.intro hch (And.intro hj1 (And.intro hj2 (And.intro hp hta)))))))
  clear hv1 hv2 hv3 hch hj1 hj2 hp hta
  go_enter Tryd.func7, Tryd.ntmps7
  go_wp2_with (first
    | (go_at_call 11; refine HA.out.mono ?_; rintro e w1 ⟨rfl, hb9⟩)
    | (go_at_call 17; refine (Text_no bad _ hb2 (by omega)).mono ?_; rintro e w' ⟨rfl, rfl⟩)
    | (go_at_call 18; refine stop_of ?_))
  unfold Stop
  have hct := TextAll_any (.slice (some ⟨w1.heap.size, 0, none⟩) 2 2) [0, bad] (w1.alloc (.cells #[.int .u8 0, .int .u8 bad] 5)) (rdNew2 w1 5 0 bad) (by intro c hc; simp at hc; omega) (HD.out.1.later (hb9.trans (((Below.refl w1.heap.size w1).alloc (Nat.le_refl _) _).mono hb9.size))) (by simp)
  rw [HV.out.2.2.2.2.2.2.2] at hct
  refine hct.mono ?_
  rintro e w2 ⟨rfl, hb2'⟩
  have hB : Below w.heap.size w w2 := (hb9.alloc hb9.size (.cells #[.int .u8 0, .int .u8 bad] 5)).trans (hb2'.mono (hb9.alloc hb9.size _).size)
  clear hct hb9 hb2'
  go_wp2_with (first
    | (go_at_call 15; refine (Cheapest_any bad 0 _ hb2 (by omega)).mono ?_; rintro e w' ⟨rfl, rfl⟩; rw [HV.out.2.2.2.1])
    | (go_at_call 16; refine stop_of ?_))
  unfold Stop
  refine (Jump_any bad 20 _ hb2 (by omega)).mono ?_
  rintro e w' ⟨rfl, rfl⟩
  rw [HV.out.2.2.2.2.1]
  go_wp2_with (go_at_call 16; refine stop_of ?_)
  unfold Stop
  refine (Jump_any 20 bad _ (by omega) hb2).mono ?_
  rintro e w' ⟨rfl, rfl⟩
  rw [HV.out.2.2.2.2.2.1]
  by_cases hsz : (1000 : Int) < (s.size : Int)
  · go_wp2_with (first
      | (go_at_call 13; refine (Parts_any bad _ hb2).mono ?_; rintro e w' ⟨rfl, rfl⟩; rw [HV.out.2.2.2.2.2.2.1])
      | (go_at_call 19; refine (Right_any bad _ hb2).mono ?_; rintro e w' ⟨rfl, rfl⟩; rw [hrd])
      | (go_at_call_of 14 k1; refine (Bid_any k1 0 _ (by omega) (by omega)).mono ?_; rintro e w' ⟨rfl, rfl⟩; rw [HV.out.1])
      | (go_at_call_of 14 k2; refine (Bid_any 1 k2 _ (by omega) (by omega)).mono ?_; rintro e w' ⟨rfl, rfl⟩; rw [HV.out.2.1])
      | (go_at_call_of 14 l3; refine (Bid_any 0 l3 _ (by omega) (by omega)).mono ?_; rintro e w' ⟨rfl, rfl⟩; rw [HV.out.2.2.1]))
    go_ret
    exact ⟨rfl, hB⟩
  · have hs1 : s.size ≤ 1000 := by omega
    have hq1 : ¬ (9223372036854775807 < s.size + 1) := by omega
    have hq2 : ¬ (9223372036854775807 < 1 + s.size) := by omega
    go_wp2_with (first
      | (go_at_call 13; refine (Parts_any bad _ hb2).mono ?_; rintro e w' ⟨rfl, rfl⟩; rw [HV.out.2.2.2.2.2.2.1])
      | (go_at_call 19; refine (Right_any bad _ hb2).mono ?_; rintro e w' ⟨rfl, rfl⟩; rw [hrd])
      | (go_at_call_of 14 k1; refine (Bid_any k1 0 _ (by omega) (by omega)).mono ?_; rintro e w' ⟨rfl, rfl⟩; rw [HV.out.1])
      | (go_at_call_of 14 k2; refine (Bid_any 1 k2 _ (by omega) (by omega)).mono ?_; rintro e w' ⟨rfl, rfl⟩; rw [HV.out.2.1])
      | (go_at_call_of 14 l3; refine (Bid_any 0 l3 _ (by omega) (by omega)).mono ?_; rintro e w' ⟨rfl, rfl⟩; rw [HV.out.2.2.1]))
    obtain ⟨S1, hS1⟩ : ∃ S1, s ++ ⟨#[35]⟩ = S1 := ⟨_, rfl⟩
    obtain ⟨S2, hS2⟩ : ∃ S2, (⟨#[35]⟩ : ByteArray) ++ s = S2 := ⟨_, rfl⟩
    obtain ⟨S3, hS3⟩ : ∃ S3, s ++ ⟨#[32]⟩ = S3 := ⟨_, rfl⟩
    obtain ⟨S4, hS4⟩ : ∃ S4, (⟨#[32]⟩ : ByteArray) ++ s = S4 := ⟨_, rfl⟩
    have l1 : S1.data.toList = s.data.toList ++ [35] := by rw [← hS1, ByteArray.data_append, Array.toList_append]
    have l2 : S2.data.toList = 35 :: s.data.toList := by rw [← hS2, ByteArray.data_append, Array.toList_append]; rfl
    have l3 : S3.data.toList = s.data.toList ++ [32] := by rw [← hS3, ByteArray.data_append, Array.toList_append]
    have l4 : S4.data.toList = 32 :: s.data.toList := by rw [← hS4, ByteArray.data_append, Array.toList_append]; rfl
    have hsl : s.data.toList.length ≤ 1000 := by rw [← sz_list]; exact hs1
    have z1 : S1.size ≤ 1400 := by rw [sz_list, l1]; simp; simp at hsl; omega
    have z2 : S2.size ≤ 1400 := by rw [sz_list, l2]; simp; simp at hsl; omega
    have z3 : S3.size ≤ 1400 := by rw [sz_list, l3]; simp; simp at hsl; omega
    have z4 : S4.size ≤ 1400 := by rw [sz_list, l4]; simp; simp at hsl; omega
    have p1 : readC S1.data.toList = none ∧ readAllN S1.data.toList = none := by rw [l1]; exact bad_read (.inl (by simp))
    have p2 : readC S2.data.toList = none ∧ readAllN S2.data.toList = none := by rw [l2]; exact bad_read (.inl (by simp))
    have p3 : readC S3.data.toList = none ∧ readAllN S3.data.toList = none := by rw [l3]; exact bad_read (.inr ⟨by simp, words_end _⟩)
    have p4 : readC S4.data.toList = none ∧ readAllN S4.data.toList = none := by rw [l4]; exact bad_read (.inr ⟨by simp, words_front _⟩)
    have PP := Lib.hid (And.intro p1 (And.intro p2 (And.intro p3 p4)))
    obtain ⟨W8, hW8⟩ : ∃ W8, w2.alloc (.cells #[.string S1, .string S2, .string S3, .string S4] 9) = W8 := ⟨_, rfl⟩
    have hr0 : Row W8 w2.heap.size 9 #[.string S1, .string S2, .string S3, .string S4] := by rw [← hW8]; exact Row.new _ _ _
    have hB8 : Below w.heap.size w W8 := by rw [← hW8]; exact hB.alloc hB.size _
    rw [hS1, hS2, hS3, hS4, hW8]
    clear p1 p2 p3 p4 l1 l2 l3 l4 hS1 hS2 hS3 hS4 hsl hW8 hq1 hq2
    go_loopw [169] (fun i wr => ∃ i' : Nat, i = .int .i64 i' ∧ i' ≤ 4 ∧ Row wr w2.heap.size 9 #[.string S1, .string S2, .string S3, .string S4] ∧ Below w.heap.size w wr) (fun i _ => 4 - (intOf i).toNat)
    case atStart => exact ⟨0, rfl, by omega, hr0, hB8⟩
    case round =>
    obtain ⟨i, rfl, hi, hr, hBr⟩ := hrel
    have c0 : wr.cell? ⟨w2.heap.size, 0, none⟩ = some (.string S1) := by rw [hr.cell]; rfl
    have c1 : wr.cell? ⟨w2.heap.size, 1, none⟩ = some (.string S2) := by rw [hr.cell]; rfl
    have c2 : wr.cell? ⟨w2.heap.size, 2, none⟩ = some (.string S3) := by rw [hr.cell]; rfl
    have c3 : wr.cell? ⟨w2.heap.size, 3, none⟩ = some (.string S4) := by rw [hr.cell]; rfl
    have hdr := HD.out.1.below hBr h00
    have hi4 : i = 0 ∨ i = 1 ∨ i = 2 ∨ i = 3 ∨ i = 4 := by omega
    clear hi
    rcases hi4 with rfl | rfl | rfl | rfl | rfl
    · go_wp2_with (first
        | (go_at_call 20; refine (Read_bad S1 _ hdr PP.out.1.1).mono ?_; rintro e w9 ⟨rfl, hb2⟩; replace hBr := hBr.trans (hb2.mono hBr.size); replace hr := hr.below hb2 hr.lt; clear hb2)
        | (go_at_call 21; refine (ReadAll_bad S1 _ (HD.out.1.below hBr h00) (shaped_later HD.out.2 hBr (Nat.le_refl _)) z1 PP.out.1.2).mono ?_; rintro e w10 ⟨a, c, rfl, hb3⟩))
      go_roundw
      case rel => exact ⟨1, by go_num, by omega, hr.below hb3 hr.lt, hBr.trans (hb3.mono hBr.size)⟩
      case measure => simp [intOf]
    · go_wp2_with (first
        | (go_at_call 20; refine (Read_bad S2 _ hdr PP.out.2.1.1).mono ?_; rintro e w9 ⟨rfl, hb2⟩; replace hBr := hBr.trans (hb2.mono hBr.size); replace hr := hr.below hb2 hr.lt; clear hb2)
        | (go_at_call 21; refine (ReadAll_bad S2 _ (HD.out.1.below hBr h00) (shaped_later HD.out.2 hBr (Nat.le_refl _)) z2 PP.out.2.1.2).mono ?_; rintro e w10 ⟨a, c, rfl, hb3⟩))
      go_roundw
      case rel => exact ⟨2, by go_num, by omega, hr.below hb3 hr.lt, hBr.trans (hb3.mono hBr.size)⟩
      case measure => simp [intOf]
    · go_wp2_with (first
        | (go_at_call 20; refine (Read_bad S3 _ hdr PP.out.2.2.1.1).mono ?_; rintro e w9 ⟨rfl, hb2⟩; replace hBr := hBr.trans (hb2.mono hBr.size); replace hr := hr.below hb2 hr.lt; clear hb2)
        | (go_at_call 21; refine (ReadAll_bad S3 _ (HD.out.1.below hBr h00) (shaped_later HD.out.2 hBr (Nat.le_refl _)) z3 PP.out.2.2.1.2).mono ?_; rintro e w10 ⟨a, c, rfl, hb3⟩))
      go_roundw
      case rel => exact ⟨3, by go_num, by omega, hr.below hb3 hr.lt, hBr.trans (hb3.mono hBr.size)⟩
      case measure => simp [intOf]
    · go_wp2_with (first
        | (go_at_call 20; refine (Read_bad S4 _ hdr PP.out.2.2.2.1).mono ?_; rintro e w9 ⟨rfl, hb2⟩; replace hBr := hBr.trans (hb2.mono hBr.size); replace hr := hr.below hb2 hr.lt; clear hb2)
        | (go_at_call 21; refine (ReadAll_bad S4 _ (HD.out.1.below hBr h00) (shaped_later HD.out.2 hBr (Nat.le_refl _)) z4 PP.out.2.2.2.2).mono ?_; rintro e w10 ⟨a, c, rfl, hb3⟩))
      go_roundw
      case rel => exact ⟨4, by go_num, by omega, hr.below hb3 hr.lt, hBr.trans (hb3.mono hBr.size)⟩
      case measure => simp [intOf]
    · go_wp2_with fail
      go_ret
      exact ⟨rfl, hBr⟩

theorem CallWrong_248 (n : Nat) (s : ByteArray) (w : World) (hn : n < 256) (hs : s.size ≤ 9223372036854775807) (hden : Den w) (hsh : w.ShapedOpen Tryd.prog) :
    Calls Tryd.prog 7 #[.int .u8 (n : Int), .int .u8 248, .string s] w fun e w' => e = .returned (.bool true) ∧ Below w.heap.size w w' := by
  have HA := Lib.hid (awake_true w hden hsh)
  have h00 := hden.2
  have HD := Lib.hid (And.intro hden hsh)
  clear hden hsh
  obtain ⟨q, hq⟩ : ∃ q, n % 218 = q := ⟨_, rfl⟩
  have hqi : (n : Int) % 218 = (q : Int) := by omega
  have hqt : (n : Int).tmod 218 = (q : Int) := by rw [Int.tmod_eq_emod_of_nonneg (by omega)]; omega
  obtain ⟨bad, hbad⟩ : ∃ bad, 38 + q = bad := ⟨_, rfl⟩
  have hbi : (38 : Int) + (q : Int) = (bad : Int) := by omega
  have hb1 : 38 ≤ bad := by omega
  have hb2 : bad < 256 := by omega
  have hv1 := bid_no (l := 0) (d := 0) (by omega)
  have hv2 := bid_no (l := 1) (d := 253) (by omega)
  have hv3 := bid_no (l := 0) (d := 3) (by omega)
  clear hq hbad
  have hch : vCheap (cheapN bad 0) = .tuple #[.int .u8 0, .int .i64 80] := by unfold cheapN; rw [if_pos hb1]; rfl
  have hj1 : vJump (jumpN bad 20) = .tuple #[.int .i64 0, .int .i64 80] := by unfold jumpN; rw [if_neg (by omega)]; rfl
  have hj2 : vJump (jumpN 20 bad) = .tuple #[.int .i64 0, .int .i64 80] := by unfold jumpN; rw [if_neg (by unfold isBid; simp; omega)]; rfl
  have hp := parts_no (c := bad) (by omega)
  have hrd : decide (bad < 38) = false := by simp; omega
  have hta : vTextAll [0, bad] = .tuple #[.string ⟨#[]⟩, .int .i64 80] := by
    unfold vTextAll
    rw [if_neg (by simp), if_neg (by simp; omega)]
  have HV := Lib.hid (And.intro hv1 (And.intro hv2 (And.intro hv3 (And.intro hch (And.intro hj1 (And.intro hj2 (And.intro hp hta)))))))
  clear hv1 hv2 hv3 hch hj1 hj2 hp hta
  go_enter Tryd.func7, Tryd.ntmps7
  go_wp2_with (first
    | (go_at_call 11; refine HA.out.mono ?_; rintro e w1 ⟨rfl, hb9⟩)
    | (go_at_call 17; refine (Text_no bad _ hb2 (by omega)).mono ?_; rintro e w' ⟨rfl, rfl⟩)
    | (go_at_call 18; refine stop_of ?_))
  unfold Stop
  have hct := TextAll_any (.slice (some ⟨w1.heap.size, 0, none⟩) 2 2) [0, bad] (w1.alloc (.cells #[.int .u8 0, .int .u8 bad] 5)) (rdNew2 w1 5 0 bad) (by intro c hc; simp at hc; omega) (HD.out.1.later (hb9.trans (((Below.refl w1.heap.size w1).alloc (Nat.le_refl _) _).mono hb9.size))) (by simp)
  rw [HV.out.2.2.2.2.2.2.2] at hct
  refine hct.mono ?_
  rintro e w2 ⟨rfl, hb2'⟩
  have hB : Below w.heap.size w w2 := (hb9.alloc hb9.size (.cells #[.int .u8 0, .int .u8 bad] 5)).trans (hb2'.mono (hb9.alloc hb9.size _).size)
  clear hct hb9 hb2'
  go_wp2_with (first
    | (go_at_call 15; refine (Cheapest_any bad 0 _ hb2 (by omega)).mono ?_; rintro e w' ⟨rfl, rfl⟩; rw [HV.out.2.2.2.1])
    | (go_at_call 16; refine stop_of ?_))
  unfold Stop
  refine (Jump_any bad 20 _ hb2 (by omega)).mono ?_
  rintro e w' ⟨rfl, rfl⟩
  rw [HV.out.2.2.2.2.1]
  go_wp2_with (go_at_call 16; refine stop_of ?_)
  unfold Stop
  refine (Jump_any 20 bad _ (by omega) hb2).mono ?_
  rintro e w' ⟨rfl, rfl⟩
  rw [HV.out.2.2.2.2.2.1]
  by_cases hsz : (1000 : Int) < (s.size : Int)
  · go_wp2_with (first
      | (go_at_call 13; refine (Parts_any bad _ hb2).mono ?_; rintro e w' ⟨rfl, rfl⟩; rw [HV.out.2.2.2.2.2.2.1])
      | (go_at_call 19; refine (Right_any bad _ hb2).mono ?_; rintro e w' ⟨rfl, rfl⟩; rw [hrd])
      | (go_at_call_of 14 (253 : Int); refine (Bid_any 1 253 _ (by omega) (by omega)).mono ?_; rintro e w' ⟨rfl, rfl⟩; rw [HV.out.2.1])
      | (go_at_call_of 14 (3 : Int); refine (Bid_any 0 3 _ (by omega) (by omega)).mono ?_; rintro e w' ⟨rfl, rfl⟩; rw [HV.out.2.2.1])
      | (go_at_call 14; refine (Bid_any 0 0 _ (by omega) (by omega)).mono ?_; rintro e w' ⟨rfl, rfl⟩; rw [HV.out.1]))
    go_ret
    exact ⟨rfl, hB⟩
  · have hs1 : s.size ≤ 1000 := by omega
    have hq1 : ¬ (9223372036854775807 < s.size + 1) := by omega
    have hq2 : ¬ (9223372036854775807 < 1 + s.size) := by omega
    go_wp2_with (first
      | (go_at_call 13; refine (Parts_any bad _ hb2).mono ?_; rintro e w' ⟨rfl, rfl⟩; rw [HV.out.2.2.2.2.2.2.1])
      | (go_at_call 19; refine (Right_any bad _ hb2).mono ?_; rintro e w' ⟨rfl, rfl⟩; rw [hrd])
      | (go_at_call_of 14 (253 : Int); refine (Bid_any 1 253 _ (by omega) (by omega)).mono ?_; rintro e w' ⟨rfl, rfl⟩; rw [HV.out.2.1])
      | (go_at_call_of 14 (3 : Int); refine (Bid_any 0 3 _ (by omega) (by omega)).mono ?_; rintro e w' ⟨rfl, rfl⟩; rw [HV.out.2.2.1])
      | (go_at_call 14; refine (Bid_any 0 0 _ (by omega) (by omega)).mono ?_; rintro e w' ⟨rfl, rfl⟩; rw [HV.out.1]))
    obtain ⟨S1, hS1⟩ : ∃ S1, s ++ ⟨#[35]⟩ = S1 := ⟨_, rfl⟩
    obtain ⟨S2, hS2⟩ : ∃ S2, (⟨#[35]⟩ : ByteArray) ++ s = S2 := ⟨_, rfl⟩
    obtain ⟨S3, hS3⟩ : ∃ S3, s ++ ⟨#[32]⟩ = S3 := ⟨_, rfl⟩
    obtain ⟨S4, hS4⟩ : ∃ S4, (⟨#[32]⟩ : ByteArray) ++ s = S4 := ⟨_, rfl⟩
    have l1 : S1.data.toList = s.data.toList ++ [35] := by rw [← hS1, ByteArray.data_append, Array.toList_append]
    have l2 : S2.data.toList = 35 :: s.data.toList := by rw [← hS2, ByteArray.data_append, Array.toList_append]; rfl
    have l3 : S3.data.toList = s.data.toList ++ [32] := by rw [← hS3, ByteArray.data_append, Array.toList_append]
    have l4 : S4.data.toList = 32 :: s.data.toList := by rw [← hS4, ByteArray.data_append, Array.toList_append]; rfl
    have hsl : s.data.toList.length ≤ 1000 := by rw [← sz_list]; exact hs1
    have z1 : S1.size ≤ 1400 := by rw [sz_list, l1]; simp; simp at hsl; omega
    have z2 : S2.size ≤ 1400 := by rw [sz_list, l2]; simp; simp at hsl; omega
    have z3 : S3.size ≤ 1400 := by rw [sz_list, l3]; simp; simp at hsl; omega
    have z4 : S4.size ≤ 1400 := by rw [sz_list, l4]; simp; simp at hsl; omega
    have p1 : readC S1.data.toList = none ∧ readAllN S1.data.toList = none := by rw [l1]; exact bad_read (.inl (by simp))
    have p2 : readC S2.data.toList = none ∧ readAllN S2.data.toList = none := by rw [l2]; exact bad_read (.inl (by simp))
    have p3 : readC S3.data.toList = none ∧ readAllN S3.data.toList = none := by rw [l3]; exact bad_read (.inr ⟨by simp, words_end _⟩)
    have p4 : readC S4.data.toList = none ∧ readAllN S4.data.toList = none := by rw [l4]; exact bad_read (.inr ⟨by simp, words_front _⟩)
    have PP := Lib.hid (And.intro p1 (And.intro p2 (And.intro p3 p4)))
    obtain ⟨W8, hW8⟩ : ∃ W8, w2.alloc (.cells #[.string S1, .string S2, .string S3, .string S4] 9) = W8 := ⟨_, rfl⟩
    have hr0 : Row W8 w2.heap.size 9 #[.string S1, .string S2, .string S3, .string S4] := by rw [← hW8]; exact Row.new _ _ _
    have hB8 : Below w.heap.size w W8 := by rw [← hW8]; exact hB.alloc hB.size _
    rw [hS1, hS2, hS3, hS4, hW8]
    clear p1 p2 p3 p4 l1 l2 l3 l4 hS1 hS2 hS3 hS4 hsl hW8 hq1 hq2
    go_loopw [169] (fun i wr => ∃ i' : Nat, i = .int .i64 i' ∧ i' ≤ 4 ∧ Row wr w2.heap.size 9 #[.string S1, .string S2, .string S3, .string S4] ∧ Below w.heap.size w wr) (fun i _ => 4 - (intOf i).toNat)
    case atStart => exact ⟨0, rfl, by omega, hr0, hB8⟩
    case round =>
    obtain ⟨i, rfl, hi, hr, hBr⟩ := hrel
    have c0 : wr.cell? ⟨w2.heap.size, 0, none⟩ = some (.string S1) := by rw [hr.cell]; rfl
    have c1 : wr.cell? ⟨w2.heap.size, 1, none⟩ = some (.string S2) := by rw [hr.cell]; rfl
    have c2 : wr.cell? ⟨w2.heap.size, 2, none⟩ = some (.string S3) := by rw [hr.cell]; rfl
    have c3 : wr.cell? ⟨w2.heap.size, 3, none⟩ = some (.string S4) := by rw [hr.cell]; rfl
    have hdr := HD.out.1.below hBr h00
    have hi4 : i = 0 ∨ i = 1 ∨ i = 2 ∨ i = 3 ∨ i = 4 := by omega
    clear hi
    rcases hi4 with rfl | rfl | rfl | rfl | rfl
    · go_wp2_with (first
        | (go_at_call 20; refine (Read_bad S1 _ hdr PP.out.1.1).mono ?_; rintro e w9 ⟨rfl, hb2⟩; replace hBr := hBr.trans (hb2.mono hBr.size); replace hr := hr.below hb2 hr.lt; clear hb2)
        | (go_at_call 21; refine (ReadAll_bad S1 _ (HD.out.1.below hBr h00) (shaped_later HD.out.2 hBr (Nat.le_refl _)) z1 PP.out.1.2).mono ?_; rintro e w10 ⟨a, c, rfl, hb3⟩))
      go_roundw
      case rel => exact ⟨1, by go_num, by omega, hr.below hb3 hr.lt, hBr.trans (hb3.mono hBr.size)⟩
      case measure => simp [intOf]
    · go_wp2_with (first
        | (go_at_call 20; refine (Read_bad S2 _ hdr PP.out.2.1.1).mono ?_; rintro e w9 ⟨rfl, hb2⟩; replace hBr := hBr.trans (hb2.mono hBr.size); replace hr := hr.below hb2 hr.lt; clear hb2)
        | (go_at_call 21; refine (ReadAll_bad S2 _ (HD.out.1.below hBr h00) (shaped_later HD.out.2 hBr (Nat.le_refl _)) z2 PP.out.2.1.2).mono ?_; rintro e w10 ⟨a, c, rfl, hb3⟩))
      go_roundw
      case rel => exact ⟨2, by go_num, by omega, hr.below hb3 hr.lt, hBr.trans (hb3.mono hBr.size)⟩
      case measure => simp [intOf]
    · go_wp2_with (first
        | (go_at_call 20; refine (Read_bad S3 _ hdr PP.out.2.2.1.1).mono ?_; rintro e w9 ⟨rfl, hb2⟩; replace hBr := hBr.trans (hb2.mono hBr.size); replace hr := hr.below hb2 hr.lt; clear hb2)
        | (go_at_call 21; refine (ReadAll_bad S3 _ (HD.out.1.below hBr h00) (shaped_later HD.out.2 hBr (Nat.le_refl _)) z3 PP.out.2.2.1.2).mono ?_; rintro e w10 ⟨a, c, rfl, hb3⟩))
      go_roundw
      case rel => exact ⟨3, by go_num, by omega, hr.below hb3 hr.lt, hBr.trans (hb3.mono hBr.size)⟩
      case measure => simp [intOf]
    · go_wp2_with (first
        | (go_at_call 20; refine (Read_bad S4 _ hdr PP.out.2.2.2.1).mono ?_; rintro e w9 ⟨rfl, hb2⟩; replace hBr := hBr.trans (hb2.mono hBr.size); replace hr := hr.below hb2 hr.lt; clear hb2)
        | (go_at_call 21; refine (ReadAll_bad S4 _ (HD.out.1.below hBr h00) (shaped_later HD.out.2 hBr (Nat.le_refl _)) z4 PP.out.2.2.2.2).mono ?_; rintro e w10 ⟨a, c, rfl, hb3⟩))
      go_roundw
      case rel => exact ⟨4, by go_num, by omega, hr.below hb3 hr.lt, hBr.trans (hb3.mono hBr.size)⟩
      case measure => simp [intOf]
    · go_wp2_with fail
      go_ret
      exact ⟨rfl, hBr⟩

theorem CallWrong_walk (n lv : Int) (s : ByteArray) (w : World) (hn : 0 ≤ n ∧ n ≤ 255) (hlv : 0 ≤ lv ∧ lv ≤ 255) (hs : s.size ≤ 9223372036854775807) (hden : Den w) (hsh : w.ShapedOpen Tryd.prog) :
    Calls Tryd.prog 7 #[.int .u8 n, .int .u8 lv, .string s] w fun e w' => e = .returned (.bool true) ∧ Below w.heap.size w w' := by
  obtain ⟨n', rfl⟩ : ∃ n' : Nat, n = n' := ⟨n.toNat, by omega⟩
  by_cases h : lv = 248
  · subst h
    exact CallWrong_248 n' s w (by omega) hs hden hsh
  · obtain ⟨l', rfl⟩ : ∃ l' : Nat, lv = l' := ⟨lv.toNat, by omega⟩
    exact CallWrong_nat n' l' s w (by omega) (by omega) hs hden hsh (by omega)

end Go.Proofs.YtbgiiijdabpbcaaDoor
