/- the examples of the chapter -/
import Derived.Test.YtbgiiijdabpbcaaDoorProg
import Derived.Test.YtbgiiijdabpbcaaDoorCallV
namespace Go.Proofs.YtbgiiijdabpbcaaDoor
open Go.RowKit
set_option linter.unusedVariables false
set_option linter.unusedSimpArgs false
set_option maxRecDepth 100000
set_option maxHeartbeats 2000000

theorem ex_b1 : vBid 1 0 = .tuple #[.int .u8 3, .int .i64 0] := rfl
theorem ex_b2 : vBid 7 4 = .tuple #[.int .u8 37, .int .i64 0] := rfl
theorem ex_b3 : vBid 3 2 = .tuple #[.int .u8 15, .int .i64 0] := rfl
theorem ex_p : vParts 15 = .tuple #[.int .u8 3, .int .u8 2, .bool true] := rfl
theorem ex_t : vTextAll [0, 1, 2, 15] = .tuple #[.string ⟨#[80, 32, 88, 32, 88, 88, 32, 51, 72]⟩, .int .i64 0] := by
  have h : textL [0, 1, 2, 15] = [80, 32, 88, 32, 88, 88, 32, 51, 72] := by decide +kernel
  unfold vTextAll
  rw [if_neg (by decide), if_pos (by decide), h]
theorem ex_r : readC [51, 104] = none ∧ readC [48, 67] = none ∧ readC [56, 67] = none ∧ readC [49, 78] = none ∧ readC [88, 88, 88] = none := by decide +kernel
theorem ex_ra : readL [80, 32, 32, 80] = [] ∧ readE [80, 32, 32, 80] = 81 := by decide +kernel

theorem rdNew4 (w : World) (t : TypeId) (a b c d : Nat) :
    Rd (w.alloc (.cells #[.int .u8 a, .int .u8 b, .int .u8 c, .int .u8 d] t)).heap.size (w.alloc (.cells #[.int .u8 a, .int .u8 b, .int .u8 c, .int .u8 d] t)) 1 (.slice (some ⟨w.heap.size, 0, none⟩) 4 4) 4 (bys [a, b, c, d]) :=
  rdNew w t (bys [a, b, c, d]) (by simp) (by simp [maxLen])

theorem awake_true (w : World) (hden : Den w) (hsh : w.ShapedOpen Tryd.prog) : Calls Tryd.prog 11 #[] w fun e w' => e = .returned (.bool true) ∧ Below w.heap.size w w' := by
  have h00 := hden.2
  have hct := TextAll_any (.slice (some ⟨w.heap.size, 0, none⟩) 4 4) [0, 1, 2, 15] (w.alloc (.cells #[.int .u8 0, .int .u8 1, .int .u8 2, .int .u8 15] 5)) (rdNew4 w 5 0 1 2 15) (by decide) (hden.later ((Below.refl _ _).alloc (Nat.le_refl _) _)) (by decide)
  rw [ex_t] at hct
  have HCT := Lib.hid hct
  have HD := Lib.hid (And.intro hden hsh)
  clear hct hden hsh
  go_enter Tryd.func11, Tryd.ntmps11
  have tok1 : True := trivial
  have tok2 : True := trivial
  go_wp2_with (first
    | (go_at_call 14; have _t := tok1; clear tok1; refine (Bid_any 1 0 _ (by decide) (by decide)).mono ?_; rintro e w' ⟨rfl, rfl⟩; rw [ex_b1])
    | (go_at_call 14; have _t := tok2; clear tok2; refine (Bid_any 7 4 _ (by decide) (by decide)).mono ?_; rintro e w' ⟨rfl, rfl⟩; rw [ex_b2])
    | (go_at_call 14; refine (Bid_any 3 2 _ (by decide) (by decide)).mono ?_; rintro e w' ⟨rfl, rfl⟩; rw [ex_b3])
    | (go_at_call 13; refine (Parts_any 15 _ (by decide)).mono ?_; rintro e w' ⟨rfl, rfl⟩; rw [ex_p])
    | (go_at_call 18; refine HCT.out.mono ?_; rintro e w1 ⟨rfl, hb1⟩))
  have hB1 : Below w.heap.size w w1 := ((Below.refl w.heap.size w).alloc (Nat.le_refl _) _).trans (hb1.mono (by simp only [World.size_alloc]; omega))
  obtain ⟨W, hW⟩ : ∃ W, w1.alloc (.cells #[.string ⟨#[51, 104]⟩, .string ⟨#[48, 67]⟩, .string ⟨#[56, 67]⟩, .string ⟨#[49, 78]⟩, .string ⟨#[88, 88, 88]⟩] 9) = W := ⟨_, rfl⟩
  have hr0 : Row W w1.heap.size 9 #[.string ⟨#[51, 104]⟩, .string ⟨#[48, 67]⟩, .string ⟨#[56, 67]⟩, .string ⟨#[49, 78]⟩, .string ⟨#[88, 88, 88]⟩] := by rw [← hW]; exact Row.new _ _ _
  have hB0 : Below w.heap.size w W := by rw [← hW]; exact hB1.alloc hB1.size _
  rw [hW]
  clear hW
  go_loopw [86] (fun i wr => ∃ i' : Nat, i = .int .i64 i' ∧ i' ≤ 5 ∧ Row wr w1.heap.size 9 #[.string ⟨#[51, 104]⟩, .string ⟨#[48, 67]⟩, .string ⟨#[56, 67]⟩, .string ⟨#[49, 78]⟩, .string ⟨#[88, 88, 88]⟩] ∧ Below w.heap.size w wr) (fun i _ => 5 - (intOf i).toNat)
  case atStart => exact ⟨0, rfl, by omega, hr0, hB0⟩
  case round =>
    obtain ⟨i, rfl, hi, hr, hBr⟩ := hrel
    have hdr := HD.out.1.below hBr h00
    have HDr := Lib.hid hdr
    clear hdr
    have c0 : wr.cell? ⟨w1.heap.size, 0, none⟩ = some (.string ⟨#[51, 104]⟩) := by rw [hr.cell]; rfl
    have c1 : wr.cell? ⟨w1.heap.size, 1, none⟩ = some (.string ⟨#[48, 67]⟩) := by rw [hr.cell]; rfl
    have c2 : wr.cell? ⟨w1.heap.size, 2, none⟩ = some (.string ⟨#[56, 67]⟩) := by rw [hr.cell]; rfl
    have c3 : wr.cell? ⟨w1.heap.size, 3, none⟩ = some (.string ⟨#[49, 78]⟩) := by rw [hr.cell]; rfl
    have c4 : wr.cell? ⟨w1.heap.size, 4, none⟩ = some (.string ⟨#[88, 88, 88]⟩) := by rw [hr.cell]; rfl
    have hi5 : i = 0 ∨ i = 1 ∨ i = 2 ∨ i = 3 ∨ i = 4 ∨ i = 5 := by omega
    clear hi
    rcases hi5 with rfl | rfl | rfl | rfl | rfl | rfl
    · go_wp2_with (go_at_call 20; refine (Read_any ⟨#[51, 104]⟩ _ HDr.out).mono ?_; rintro e w3 ⟨rfl, hb2⟩; rw [show readC (⟨#[51, 104]⟩ : ByteArray).data.toList = _ from ex_r.1]; simp only [vRead])
      go_roundw
      case rel => exact ⟨1, by go_num, by omega, hr.below hb2 hr.lt, hBr.trans (hb2.mono hBr.size)⟩
      case measure => simp [intOf]
    · go_wp2_with (go_at_call 20; refine (Read_any ⟨#[48, 67]⟩ _ HDr.out).mono ?_; rintro e w3 ⟨rfl, hb2⟩; rw [show readC (⟨#[48, 67]⟩ : ByteArray).data.toList = _ from ex_r.2.1]; simp only [vRead])
      go_roundw
      case rel => exact ⟨2, by go_num, by omega, hr.below hb2 hr.lt, hBr.trans (hb2.mono hBr.size)⟩
      case measure => simp [intOf]
    · go_wp2_with (go_at_call 20; refine (Read_any ⟨#[56, 67]⟩ _ HDr.out).mono ?_; rintro e w3 ⟨rfl, hb2⟩; rw [show readC (⟨#[56, 67]⟩ : ByteArray).data.toList = _ from ex_r.2.2.1]; simp only [vRead])
      go_roundw
      case rel => exact ⟨3, by go_num, by omega, hr.below hb2 hr.lt, hBr.trans (hb2.mono hBr.size)⟩
      case measure => simp [intOf]
    · go_wp2_with (go_at_call 20; refine (Read_any ⟨#[49, 78]⟩ _ HDr.out).mono ?_; rintro e w3 ⟨rfl, hb2⟩; rw [show readC (⟨#[49, 78]⟩ : ByteArray).data.toList = _ from ex_r.2.2.2.1]; simp only [vRead])
      go_roundw
      case rel => exact ⟨4, by go_num, by omega, hr.below hb2 hr.lt, hBr.trans (hb2.mono hBr.size)⟩
      case measure => simp [intOf]
    · go_wp2_with (go_at_call 20; refine (Read_any ⟨#[88, 88, 88]⟩ _ HDr.out).mono ?_; rintro e w3 ⟨rfl, hb2⟩; rw [show readC (⟨#[88, 88, 88]⟩ : ByteArray).data.toList = _ from ex_r.2.2.2.2]; simp only [vRead])
      go_roundw
      case rel => exact ⟨5, by go_num, by omega, hr.below hb2 hr.lt, hBr.trans (hb2.mono hBr.size)⟩
      case measure => simp [intOf]
    · clear c0 c1 c2 c3 c4 hr
      have hshr := shaped_later HD.out.2 hBr (Nat.le_refl _)
      have hra := ReadAll_any ⟨#[80, 32, 32, 80]⟩ wr HDr.out hshr (by decide)
      rw [show readL (⟨#[80, 32, 32, 80]⟩ : ByteArray).data.toList = [] from ex_ra.1, show readE (⟨#[80, 32, 32, 80]⟩ : ByteArray).data.toList = 81 from ex_ra.2] at hra
      have HRA := Lib.hid hra
      clear hra hshr
      go_wp2_with (go_at_call 21; refine HRA.out.mono ?_; rintro e w4 ⟨v4, rfl, hown4, hb4⟩; obtain ⟨a4, c4, rfl⟩ := own_shape hown4; clear hown4)
      have hB4 : Below w.heap.size w w4 := hBr.trans (hb4.mono hBr.size)
      obtain ⟨W2, hW2⟩ : ∃ W2, w4.alloc (.cells #[.int .u8 15, .int .u8 1, .int .u8 19, .int .i64 0, .int .u8 15, .int .u8 3, .int .u8 16, .int .i64 0, .int .u8 37, .int .u8 0, .int .u8 0, .int .i64 6, .int .u8 2, .int .u8 4, .int .u8 7, .int .i64 0] 52) = W2 := ⟨_, rfl⟩
      have hr2 : Row W2 w4.heap.size 52 #[.int .u8 15, .int .u8 1, .int .u8 19, .int .i64 0, .int .u8 15, .int .u8 3, .int .u8 16, .int .i64 0, .int .u8 37, .int .u8 0, .int .u8 0, .int .i64 6, .int .u8 2, .int .u8 4, .int .u8 7, .int .i64 0] := by rw [← hW2]; exact Row.new _ _ _
      have hB2 : Below w.heap.size w W2 := by rw [← hW2]; exact hB4.alloc hB4.size _
      rw [hW2]
      clear hW2
      go_loopw [119] (fun i wr => ∃ i' : Nat, i = .int .i64 i' ∧ i' ≤ 4 ∧ Row wr w4.heap.size 52 #[.int .u8 15, .int .u8 1, .int .u8 19, .int .i64 0, .int .u8 15, .int .u8 3, .int .u8 16, .int .i64 0, .int .u8 37, .int .u8 0, .int .u8 0, .int .i64 6, .int .u8 2, .int .u8 4, .int .u8 7, .int .i64 0] ∧ Below w.heap.size w wr) (fun i _ => 4 - (intOf i).toNat)
      case atStart => exact ⟨0, rfl, by omega, hr2, hB2⟩
      case round =>
        clear hBr HDr
        obtain ⟨i, rfl, hi, hr, hBr⟩ := hrel
        have c0 : wr.cell? ⟨w4.heap.size, 0, none⟩ = some (.int .u8 15) := by rw [hr.cell]; rfl
        have c1 : wr.cell? ⟨w4.heap.size, 1, none⟩ = some (.int .u8 1) := by rw [hr.cell]; rfl
        have c2 : wr.cell? ⟨w4.heap.size, 2, none⟩ = some (.int .u8 19) := by rw [hr.cell]; rfl
        have c3 : wr.cell? ⟨w4.heap.size, 3, none⟩ = some (.int .i64 0) := by rw [hr.cell]; rfl
        have c4 : wr.cell? ⟨w4.heap.size, 4, none⟩ = some (.int .u8 15) := by rw [hr.cell]; rfl
        have c5 : wr.cell? ⟨w4.heap.size, 5, none⟩ = some (.int .u8 3) := by rw [hr.cell]; rfl
        have c6 : wr.cell? ⟨w4.heap.size, 6, none⟩ = some (.int .u8 16) := by rw [hr.cell]; rfl
        have c7 : wr.cell? ⟨w4.heap.size, 7, none⟩ = some (.int .i64 0) := by rw [hr.cell]; rfl
        have c8 : wr.cell? ⟨w4.heap.size, 8, none⟩ = some (.int .u8 37) := by rw [hr.cell]; rfl
        have c9 : wr.cell? ⟨w4.heap.size, 9, none⟩ = some (.int .u8 0) := by rw [hr.cell]; rfl
        have c10 : wr.cell? ⟨w4.heap.size, 10, none⟩ = some (.int .u8 0) := by rw [hr.cell]; rfl
        have c11 : wr.cell? ⟨w4.heap.size, 11, none⟩ = some (.int .i64 6) := by rw [hr.cell]; rfl
        have c12 : wr.cell? ⟨w4.heap.size, 12, none⟩ = some (.int .u8 2) := by rw [hr.cell]; rfl
        have c13 : wr.cell? ⟨w4.heap.size, 13, none⟩ = some (.int .u8 4) := by rw [hr.cell]; rfl
        have c14 : wr.cell? ⟨w4.heap.size, 14, none⟩ = some (.int .u8 7) := by rw [hr.cell]; rfl
        have c15 : wr.cell? ⟨w4.heap.size, 15, none⟩ = some (.int .i64 0) := by rw [hr.cell]; rfl
        have hlt := hr.lt
        have hi4 : i = 0 ∨ i = 1 ∨ i = 2 ∨ i = 3 ∨ ¬ i < 4 := by omega
        rcases hi4 with rfl | rfl | rfl | rfl | hge
        · go_wp2_with (go_at_call 15; refine (Cheapest_any 15 1 _ (by decide) (by decide)).mono ?_; rintro e w5 ⟨rfl, rfl⟩; rw [show vCheap (cheapN 15 1) = .tuple #[.int .u8 19, .int .i64 0] from rfl])
          go_roundw
          case rel => exact ⟨1, by go_num, by omega, hr.alloc _, hBr.alloc hBr.size _⟩
          case measure => simp [intOf]
        · go_wp2_with (go_at_call 15; refine (Cheapest_any 15 3 _ (by decide) (by decide)).mono ?_; rintro e w5 ⟨rfl, rfl⟩; rw [show vCheap (cheapN 15 3) = .tuple #[.int .u8 16, .int .i64 0] from rfl])
          go_roundw
          case rel => exact ⟨2, by go_num, by omega, hr.alloc _, hBr.alloc hBr.size _⟩
          case measure => simp [intOf]
        · go_wp2_with (go_at_call 15; refine (Cheapest_any 37 0 _ (by decide) (by decide)).mono ?_; rintro e w5 ⟨rfl, rfl⟩; rw [show vCheap (cheapN 37 0) = .tuple #[.int .u8 0, .int .i64 6] from rfl])
          go_roundw
          case rel => exact ⟨3, by go_num, by omega, hr.alloc _, hBr.alloc hBr.size _⟩
          case measure => simp [intOf]
        · go_wp2_with (go_at_call 15; refine (Cheapest_any 2 4 _ (by decide) (by decide)).mono ?_; rintro e w5 ⟨rfl, rfl⟩; rw [show vCheap (cheapN 2 4) = .tuple #[.int .u8 7, .int .i64 0] from rfl])
          go_roundw
          case rel => exact ⟨4, by go_num, by omega, hr.alloc _, hBr.alloc hBr.size _⟩
          case measure => simp [intOf]
        · clear c0 c1 c2 c3 c4 c5 c6 c7 c8 c9 c10 c11 c12 c13 c14 c15 hr
          have hgd : decide ((i : Int) < 4) = false := by simp; omega
          go_wp2_with fail
          obtain ⟨W3, hW3⟩ : ∃ W3, wr.alloc (.cells #[.int .u8 19, .int .i64 0, .int .i64 0, .int .u8 24, .int .i64 1, .int .i64 0, .int .u8 16, .int .i64 0, .int .i64 0, .int .u8 15, .int .i64 0, .int .i64 6] 54) = W3 := ⟨_, rfl⟩
          have hr3 : Row W3 wr.heap.size 54 #[.int .u8 19, .int .i64 0, .int .i64 0, .int .u8 24, .int .i64 1, .int .i64 0, .int .u8 16, .int .i64 0, .int .i64 0, .int .u8 15, .int .i64 0, .int .i64 6] := by rw [← hW3]; exact Row.new _ _ _
          have hB3 : Below w.heap.size w W3 := by rw [← hW3]; exact hBr.alloc hBr.size _
          rw [hW3]
          clear hW3
          obtain ⟨g, hg⟩ : ∃ g, wr.heap.size = g := ⟨_, rfl⟩
          rw [hg] at hr3 ⊢
          go_loopw [148] (fun i wr => ∃ i' : Nat, i = .int .i64 i' ∧ i' ≤ 4 ∧ Row wr g 54 #[.int .u8 19, .int .i64 0, .int .i64 0, .int .u8 24, .int .i64 1, .int .i64 0, .int .u8 16, .int .i64 0, .int .i64 0, .int .u8 15, .int .i64 0, .int .i64 6] ∧ Below w.heap.size w wr) (fun i _ => 4 - (intOf i).toNat)
          case atStart => exact ⟨0, rfl, by omega, hr3, hB3⟩
          case round =>
            clear hBr hg hlt
            obtain ⟨i, rfl, hi, hr, hBr⟩ := hrel
            have c0 : wr.cell? ⟨g, 0, none⟩ = some (.int .u8 19) := by rw [hr.cell]; rfl
            have c1 : wr.cell? ⟨g, 1, none⟩ = some (.int .i64 0) := by rw [hr.cell]; rfl
            have c2 : wr.cell? ⟨g, 2, none⟩ = some (.int .i64 0) := by rw [hr.cell]; rfl
            have c3 : wr.cell? ⟨g, 3, none⟩ = some (.int .u8 24) := by rw [hr.cell]; rfl
            have c4 : wr.cell? ⟨g, 4, none⟩ = some (.int .i64 1) := by rw [hr.cell]; rfl
            have c5 : wr.cell? ⟨g, 5, none⟩ = some (.int .i64 0) := by rw [hr.cell]; rfl
            have c6 : wr.cell? ⟨g, 6, none⟩ = some (.int .u8 16) := by rw [hr.cell]; rfl
            have c7 : wr.cell? ⟨g, 7, none⟩ = some (.int .i64 0) := by rw [hr.cell]; rfl
            have c8 : wr.cell? ⟨g, 8, none⟩ = some (.int .i64 0) := by rw [hr.cell]; rfl
            have c9 : wr.cell? ⟨g, 9, none⟩ = some (.int .u8 15) := by rw [hr.cell]; rfl
            have c10 : wr.cell? ⟨g, 10, none⟩ = some (.int .i64 0) := by rw [hr.cell]; rfl
            have c11 : wr.cell? ⟨g, 11, none⟩ = some (.int .i64 6) := by rw [hr.cell]; rfl
            have hlt := hr.lt
            have hi4 : i = 0 ∨ i = 1 ∨ i = 2 ∨ i = 3 ∨ i = 4 := by omega
            clear hi
            rcases hi4 with rfl | rfl | rfl | rfl | rfl
            · go_wp2_with (go_at_call 16; refine (Jump_any 15 19 _ (by decide) (by decide)).mono ?_; rintro e w5 ⟨rfl, rfl⟩; rw [show vJump (jumpN 15 19) = .tuple #[.int .i64 0, .int .i64 0] from rfl])
              go_roundw
              case rel => exact ⟨1, by go_num, by omega, hr.alloc _, hBr.alloc hBr.size _⟩
              case measure => simp [intOf]
            · go_wp2_with (go_at_call 16; refine (Jump_any 15 24 _ (by decide) (by decide)).mono ?_; rintro e w5 ⟨rfl, rfl⟩; rw [show vJump (jumpN 15 24) = .tuple #[.int .i64 1, .int .i64 0] from rfl])
              go_roundw
              case rel => exact ⟨2, by go_num, by omega, hr.alloc _, hBr.alloc hBr.size _⟩
              case measure => simp [intOf]
            · go_wp2_with (go_at_call 16; refine (Jump_any 15 16 _ (by decide) (by decide)).mono ?_; rintro e w5 ⟨rfl, rfl⟩; rw [show vJump (jumpN 15 16) = .tuple #[.int .i64 0, .int .i64 0] from rfl])
              go_roundw
              case rel => exact ⟨3, by go_num, by omega, hr.alloc _, hBr.alloc hBr.size _⟩
              case measure => simp [intOf]
            · go_wp2_with (go_at_call 16; refine (Jump_any 15 15 _ (by decide) (by decide)).mono ?_; rintro e w5 ⟨rfl, rfl⟩; rw [show vJump (jumpN 15 15) = .tuple #[.int .i64 0, .int .i64 6] from rfl])
              go_roundw
              case rel => exact ⟨4, by go_num, by omega, hr.alloc _, hBr.alloc hBr.size _⟩
              case measure => simp [intOf]
            · clear c0 c1 c2 c3 c4 c5 c6 c7 c8 c9 c10 c11 hr
              go_wp2_with fail
              go_ret
              exact ⟨rfl, hBr⟩

end Go.Proofs.YtbgiiijdabpbcaaDoor
