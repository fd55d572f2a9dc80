/- the examples of the chapter -/
import Derived.Test.YtbjehiagaikhoaaProg
import Derived.Test.YtbjehiagaikhoaaCardM
import Derived.Test.YtbjehiagaikhoaaCardT
namespace Go.Proofs.Ytbjehiagaikhoaa
open Go.RowKit
set_option linter.unusedVariables false
set_option maxRecDepth 100000

theorem ex_parse1 : parseN [65, 75, 84, 57, 52, 46, 81, 56, 51, 46, 46, 84, 57, 53, 51, 50] = some 3591078124978571 := by decide +kernel
theorem ex_parse2 : parseN [75, 65, 46, 46, 46] = none := by decide +kernel
theorem ex_write1 : wtext 3591078124978571 = [65, 75, 84, 57, 52, 46, 81, 56, 51, 46, 46, 84, 57, 53, 51, 50] := by decide +kernel
theorem ex_write0 : wtext 0 = [46, 46, 46] := by decide +kernel
theorem ex_top2 : (downs (ofN 3591078124978571 2) 52).head? = some 36 := by decide +kernel
theorem ex_top1 : (downs (ofN 3591078124978571 1) 52).head? = none := by decide +kernel
theorem ex_low0 : (downs (ofN 3591078124978571 0) 52).getLast? = some 0 := by decide +kernel
theorem ex_read1 : readN [68, 84] = some 21 := by decide +kernel
theorem ex_read2 : readN [100, 84] = none := by decide +kernel
theorem ex_read3 : readN [68, 49, 48] = none := by decide +kernel
theorem ex_read4 : readN [84, 68] = none := by decide +kernel
theorem ex_of : vOf 3 12 = .tuple #[.int .u8 51, .int .i64 0] := rfl
theorem ex_txt : txt 51 = [83, 65] := by decide +kernel

theorem awake_true (w : World) : Calls Try.prog 13 #[] w fun e w' => e = .returned (.bool true) ∧ Below w.heap.size w w' := by
  have hB : Below w.heap.size w w := Below.refl _ _
  go_enter Try.func13, Try.ntmps13
  go_wp2_with (first
    | (go_at_call 15; refine (Of_any 3 12 _ (by omega) (by omega)).mono ?_; rintro e w' ⟨rfl, rfl⟩; rw [ex_of])
    | (go_at_call 17; refine (Text_yes 51 _ (by omega)).mono ?_; rintro e w1 ⟨rfl, hb2⟩; rw [ex_txt]; replace hB := hB.trans (hb2.mono hB.size); clear hb2)
    | (go_at_call 18; refine (Read_any ⟨#[68, 84]⟩ _).mono ?_; rintro e w2 ⟨rfl, hb2⟩; rw [show readN (⟨#[68, 84]⟩ : ByteArray).data.toList = _ from ex_read1]; simp only [vRead]; replace hB := hB.trans (hb2.mono hB.size); clear hb2))
  obtain ⟨W, hW⟩ : ∃ W, w2.alloc (.cells #[.string ⟨#[100, 84]⟩, .string ⟨#[68, 49, 48]⟩, .string ⟨#[84, 68]⟩] 9) = W := ⟨_, rfl⟩
  have hr0 : Row W w2.heap.size 9 #[.string ⟨#[100, 84]⟩, .string ⟨#[68, 49, 48]⟩, .string ⟨#[84, 68]⟩] := by rw [← hW]; exact Row.new _ _ _
  have hB0 : Below w.heap.size w W := by rw [← hW]; exact hB.alloc hB.size _
  try rw [hW]
  go_loopw [59] (fun i wr => ∃ i' : Nat, i = .int .i64 i' ∧ i' ≤ 3 ∧ Row wr w2.heap.size 9 #[.string ⟨#[100, 84]⟩, .string ⟨#[68, 49, 48]⟩, .string ⟨#[84, 68]⟩] ∧ Below w.heap.size w wr) (fun i _ => 3 - (intOf i).toNat)
  case atStart => exact ⟨0, rfl, by omega, by first | exact hr0 | (rw [hW]; exact hr0), by first | exact hB0 | (rw [hW]; exact hB0)⟩
  case round =>
    obtain ⟨i, rfl, hi, hr, hBr⟩ := hrel
    have c0 : wr.cell? ⟨w2.heap.size, 0, none⟩ = some (.string ⟨#[100, 84]⟩) := by rw [hr.cell]; rfl
    have c1 : wr.cell? ⟨w2.heap.size, 1, none⟩ = some (.string ⟨#[68, 49, 48]⟩) := by rw [hr.cell]; rfl
    have c2 : wr.cell? ⟨w2.heap.size, 2, none⟩ = some (.string ⟨#[84, 68]⟩) := by rw [hr.cell]; rfl
    have hi4 : i = 0 ∨ i = 1 ∨ i = 2 ∨ i = 3 := by omega
    clear hi
    rcases hi4 with rfl | rfl | rfl | rfl
    · go_wp2_with (go_at_call 18; refine (Read_any ⟨#[100, 84]⟩ _).mono ?_; rintro e w3 ⟨rfl, hb2⟩; rw [show readN (⟨#[100, 84]⟩ : ByteArray).data.toList = _ from ex_read2]; simp only [vRead])
      go_roundw
      case rel => exact ⟨1, by go_num, by omega, hr.below hb2 hr.lt, hBr.trans (hb2.mono hBr.size)⟩
      case measure => simp [intOf]
    · go_wp2_with (go_at_call 18; refine (Read_any ⟨#[68, 49, 48]⟩ _).mono ?_; rintro e w3 ⟨rfl, hb2⟩; rw [show readN (⟨#[68, 49, 48]⟩ : ByteArray).data.toList = _ from ex_read3]; simp only [vRead])
      go_roundw
      case rel => exact ⟨2, by go_num, by omega, hr.below hb2 hr.lt, hBr.trans (hb2.mono hBr.size)⟩
      case measure => simp [intOf]
    · go_wp2_with (go_at_call 18; refine (Read_any ⟨#[84, 68]⟩ _).mono ?_; rintro e w3 ⟨rfl, hb2⟩; rw [show readN (⟨#[84, 68]⟩ : ByteArray).data.toList = _ from ex_read4]; simp only [vRead])
      go_roundw
      case rel => exact ⟨3, by go_num, by omega, hr.below hb2 hr.lt, hBr.trans (hb2.mono hBr.size)⟩
      case measure => simp [intOf]
    · clear c0 c1 c2 hr
      obtain ⟨M, hM⟩ : ∃ M : Nat, 3591078124978571 = M := ⟨_, rfl⟩
      have HM := Lib.hid hM
      have hM52 : M < 4503599627370496 := by omega
      have p1 := ex_parse1
      have q1 := ex_write1
      have t2 := ex_top2
      have t1 := ex_top1
      have l0 := ex_low0
      rw [hM] at p1 q1 t2 t1 l0
      have P1 := Lib.hid p1
      have Q1 := Lib.hid q1
      have T2 := Lib.hid t2
      have T1 := Lib.hid t1
      have L0 := Lib.hid l0
      clear hM p1 q1 t2 t1 l0
      go_wp2_with (first
        | (go_at_call_of 25 (57 : UInt8); refine (Parse_any ⟨#[65, 75, 84, 57, 52, 46, 81, 56, 51, 46, 46, 84, 57, 53, 51, 50]⟩ _ (by decide)).mono ?_; rintro e w3 ⟨rfl, hb2⟩; rw [show parseN (⟨#[65, 75, 84, 57, 52, 46, 81, 56, 51, 46, 46, 84, 57, 53, 51, 50]⟩ : ByteArray).data.toList = _ from P1.out]; simp only [vParse]; replace hBr := hBr.trans (hb2.mono hBr.size); clear hb2)
        | (go_at_call_of 19 M; refine (Write_yes M _ hM52).mono ?_; rintro e w3 ⟨rfl, hb2⟩; rw [Q1.out]; replace hBr := hBr.trans (hb2.mono hBr.size); clear hb2)
        | (go_at_call 19; refine (Write_yes 0 _ (by decide)).mono ?_; rintro e w3 ⟨rfl, hb2⟩; rw [ex_write0]; replace hBr := hBr.trans (hb2.mono hBr.size); clear hb2)
        | (go_at_call 25; refine (Parse_any ⟨#[75, 65, 46, 46, 46]⟩ _ (by decide)).mono ?_; rintro e w3 ⟨rfl, hb2⟩; rw [show parseN (⟨#[75, 65, 46, 46, 46]⟩ : ByteArray).data.toList = _ from ex_parse2]; simp only [vParse]; replace hBr := hBr.trans (hb2.mono hBr.size); clear hb2)
        | (go_at_call_of 11 (2 : Int); refine (Top_any M 2 _ (by omega) (by omega)).mono ?_; rintro e w3 ⟨rfl, hb2⟩; rw [T2.out]; simp only [vPick, Option.getD, Option.isSome]; replace hBr := hBr.trans (hb2.mono hBr.size); clear hb2)
        | (go_at_call 11; refine (Top_any M 1 _ (by omega) (by omega)).mono ?_; rintro e w3 ⟨rfl, hb2⟩; rw [T1.out]; simp only [vPick, Option.getD, Option.isSome]; replace hBr := hBr.trans (hb2.mono hBr.size); clear hb2)
        | (go_at_call 23; refine (Low_any M 0 _ (by omega) (by omega)).mono ?_; rintro e w3 ⟨rfl, hb2⟩; rw [L0.out]; simp only [vPick, Option.getD, Option.isSome]; replace hBr := hBr.trans (hb2.mono hBr.size); clear hb2))
      go_ret
      exact ⟨rfl, hBr⟩
end Go.Proofs.Ytbjehiagaikhoaa
