/- finesseref08: Names, Right, Parts, Text, Read -/
import Derived.Test.YtbgiiijdabpbcaaDoorProg
import Derived.Test.YtbgiiijdabpbcaaDoorCallB
namespace Go.Proofs.YtbgiiijdabpbcaaDoor
open Go.RowKit
set_option linter.unusedVariables false
set_option linter.unusedSimpArgs false
set_option maxRecDepth 100000
set_option maxHeartbeats 2000000

def namesV : Array Value := ((List.range 38).map fun c => vS (nm c)).toArray

def NamesAre (w w' : World) : Prop := (∀ c, c < 38 → w'.cell? ⟨w.heap.size, c, none⟩ = some (vS (nm c))) ∧ Below w.heap.size w w' ∧ w.heap.size < w'.heap.size

theorem names_are (w : World) (t : TypeId) : NamesAre w (w.alloc (.cells namesV t)) := by
  refine ⟨fun c hc => ?_, (Below.refl _ _).alloc (Nat.le_refl _) _, ?_⟩
  · rw [(Row.new w t namesV).cell]
    unfold namesV
    rw [List.getElem?_toArray, List.getElem?_map, List.getElem?_range hc]
    rfl
  · exact (Row.new w t namesV).lt

theorem refNames_any (w : World) :
    Calls Tryd.prog 50 #[] w fun e w' => e = .returned (.slice (some ⟨w.heap.size, 0, none⟩) 38 38) ∧ NamesAre w w' := by
  go_enter Tryd.func50, Tryd.ntmps50
  go_wp2
  go_ret
  exact ⟨rfl, names_are w 9⟩

theorem refRight_any (c : Nat) (w : World) (hc : c < 256) :
    Calls Tryd.prog 31 #[.int .u8 (c : Int)] w fun e w' => e = .returned (.bool (decide (c < 38))) ∧ Below w.heap.size w w' := by
  go_enter Tryd.func31, Tryd.ntmps31
  go_wp2_with (go_at_call 50; refine (refNames_any _).mono ?_; rintro e w1 ⟨rfl, hn⟩)
  go_ret
  refine ⟨ret_b ?_, hn.2.1⟩
  rw [Bool.eq_iff_iff]
  simp only [decide_eq_true_eq]
  omega

theorem refParts_any (c : Nat) (w : World) (hc : c < 256) :
    Calls Tryd.prog 27 #[.int .u8 (c : Int)] w fun e w' => e = .returned (vParts c) ∧ Below w.heap.size w w' := by
  unfold vParts isBid
  by_cases h1 : 3 ≤ c
  · have g1 : decide ((c : Int) < 3) = false := by simp; omega
    by_cases h2 : c < 38
    · have g2 : decide ((37 : Int) < (c : Int)) = false := by simp; omega
      rw [if_pos (by simp [h1, h2])]
      obtain ⟨q, hq⟩ : ∃ q, lev c = q := ⟨_, rfl⟩
      obtain ⟨r, hr⟩ : ∃ r, dnm c = r := ⟨_, rfl⟩
      have hq8 : q < 8 := by unfold lev at hq; omega
      have hsub : (48 : Int) + (q : Int) - 48 = (q : Int) := by omega
      have hr5 : r < 5 := by unfold dnm at hr; omega
      have hn : nm c = UInt8.ofNat (48 + q) :: den r := by
        unfold nm
        rw [if_neg (by omega), if_neg (by omega), if_neg (by omega), ← hq, ← hr]
        rfl
      rw [hq, hr]
      have HN := Lib.hid hn
      clear hn hq hr
      go_enter Tryd.func27, Tryd.ntmps27
      go_wp2_with (go_at_call 50; refine (refNames_any _).mono ?_; rintro e w1 ⟨rfl, hnm⟩; have hcell := hnm.1 c h2)
      have hS : vS (nm c) = .string ⟨(UInt8.ofNat (48 + q) :: den r).toArray⟩ := by rw [HN.out]
      rw [hS]
      obtain ⟨b, hb⟩ : ∃ b : UInt8, UInt8.ofNat (48 + q) = b := ⟨_, rfl⟩
      have hbn : ((b.toNat : Nat) : Int) = 48 + (q : Int) := by rw [← hb, UInt8.toNat_ofNat']; omega
      rw [hb]
      clear hS hcell hb
      have h5 : r = 0 ∨ r = 1 ∨ r = 2 ∨ r = 3 ∨ r = 4 := by omega
      rcases h5 with rfl | rfl | rfl | rfl | rfl
      · have hd : (b :: den 0) = [b, 67] := rfl
        rw [hd]
        clear hd
        have y0 : ∀ w, (Instr.index 9 (.string ⟨([b, 67] : List UInt8).toArray⟩) (.int .i64 0)).run Tryd.prog w = .ok (.int .u8 (48 + (q : Int))) w := fun _ => by rw [← hbn]; kernel_rfl
        have y1 : ∀ w, (Instr.index 9 (.string ⟨([b, 67] : List UInt8).toArray⟩) (.int .i64 1)).run Tryd.prog w = .ok (.int .u8 67) w := fun _ => by kernel_rfl
        obtain ⟨S, hS⟩ : ∃ S : ByteArray, (⟨([b, 67] : List UInt8).toArray⟩ : ByteArray) = S := ⟨_, rfl⟩
        rw [hS] at y0 y1 ⊢
        clear hS
        go_loopw [6] (fun d wr => ∃ d' : Nat, d = .int .u8 d' ∧ d' ≤ 0 ∧ Below w.heap.size w wr) (fun d _ => 0 - (intOf d).toNat)
        case atStart => exact ⟨0, rfl, by omega, hnm.2.1⟩
        case round =>
        obtain ⟨d, rfl, hd, hB⟩ := hrel
        have h5 : d = 0 := by omega
        clear hd
        rcases h5 with rfl
        · go_wp2_with fail
          go_region_with (fail)
          all_goals
            go_wp2_with fail
            refine bodyPost_ret (results_tmp3 rfl _ _ _) rfl ⟨rfl, hB.drew⟩
      · have hd : (b :: den 1) = [b, 68] := rfl
        rw [hd]
        clear hd
        have y0 : ∀ w, (Instr.index 9 (.string ⟨([b, 68] : List UInt8).toArray⟩) (.int .i64 0)).run Tryd.prog w = .ok (.int .u8 (48 + (q : Int))) w := fun _ => by rw [← hbn]; kernel_rfl
        have y1 : ∀ w, (Instr.index 9 (.string ⟨([b, 68] : List UInt8).toArray⟩) (.int .i64 1)).run Tryd.prog w = .ok (.int .u8 68) w := fun _ => by kernel_rfl
        obtain ⟨S, hS⟩ : ∃ S : ByteArray, (⟨([b, 68] : List UInt8).toArray⟩ : ByteArray) = S := ⟨_, rfl⟩
        rw [hS] at y0 y1 ⊢
        clear hS
        go_loopw [6] (fun d wr => ∃ d' : Nat, d = .int .u8 d' ∧ d' ≤ 1 ∧ Below w.heap.size w wr) (fun d _ => 1 - (intOf d).toNat)
        case atStart => exact ⟨0, rfl, by omega, hnm.2.1⟩
        case round =>
        obtain ⟨d, rfl, hd, hB⟩ := hrel
        have h5 : d = 0 ∨ d = 1 := by omega
        clear hd
        rcases h5 with rfl | rfl
        · go_wp2_with fail
          go_region_with (fail)
          all_goals
            go_wp2_with fail
            go_roundw
            case rel => exact ⟨1, by go_num, by omega, hB.drew⟩
            case measure => simp [intOf]
        · go_wp2_with fail
          go_region_with (fail)
          all_goals
            go_wp2_with fail
            refine bodyPost_ret (results_tmp3 rfl _ _ _) rfl ⟨rfl, hB.drew⟩
      · have hd : (b :: den 2) = [b, 72] := rfl
        rw [hd]
        clear hd
        have y0 : ∀ w, (Instr.index 9 (.string ⟨([b, 72] : List UInt8).toArray⟩) (.int .i64 0)).run Tryd.prog w = .ok (.int .u8 (48 + (q : Int))) w := fun _ => by rw [← hbn]; kernel_rfl
        have y1 : ∀ w, (Instr.index 9 (.string ⟨([b, 72] : List UInt8).toArray⟩) (.int .i64 1)).run Tryd.prog w = .ok (.int .u8 72) w := fun _ => by kernel_rfl
        obtain ⟨S, hS⟩ : ∃ S : ByteArray, (⟨([b, 72] : List UInt8).toArray⟩ : ByteArray) = S := ⟨_, rfl⟩
        rw [hS] at y0 y1 ⊢
        clear hS
        go_loopw [6] (fun d wr => ∃ d' : Nat, d = .int .u8 d' ∧ d' ≤ 2 ∧ Below w.heap.size w wr) (fun d _ => 2 - (intOf d).toNat)
        case atStart => exact ⟨0, rfl, by omega, hnm.2.1⟩
        case round =>
        obtain ⟨d, rfl, hd, hB⟩ := hrel
        have h5 : d = 0 ∨ d = 1 ∨ d = 2 := by omega
        clear hd
        rcases h5 with rfl | rfl | rfl
        · go_wp2_with fail
          go_region_with (fail)
          all_goals
            go_wp2_with fail
            go_roundw
            case rel => exact ⟨1, by go_num, by omega, hB.drew⟩
            case measure => simp [intOf]
        · go_wp2_with fail
          go_region_with (fail)
          all_goals
            go_wp2_with fail
            go_roundw
            case rel => exact ⟨2, by go_num, by omega, hB.drew⟩
            case measure => simp [intOf]
        · go_wp2_with fail
          go_region_with (fail)
          all_goals
            go_wp2_with fail
            refine bodyPost_ret (results_tmp3 rfl _ _ _) rfl ⟨rfl, hB.drew⟩
      · have hd : (b :: den 3) = [b, 83] := rfl
        rw [hd]
        clear hd
        have y0 : ∀ w, (Instr.index 9 (.string ⟨([b, 83] : List UInt8).toArray⟩) (.int .i64 0)).run Tryd.prog w = .ok (.int .u8 (48 + (q : Int))) w := fun _ => by rw [← hbn]; kernel_rfl
        have y1 : ∀ w, (Instr.index 9 (.string ⟨([b, 83] : List UInt8).toArray⟩) (.int .i64 1)).run Tryd.prog w = .ok (.int .u8 83) w := fun _ => by kernel_rfl
        obtain ⟨S, hS⟩ : ∃ S : ByteArray, (⟨([b, 83] : List UInt8).toArray⟩ : ByteArray) = S := ⟨_, rfl⟩
        rw [hS] at y0 y1 ⊢
        clear hS
        go_loopw [6] (fun d wr => ∃ d' : Nat, d = .int .u8 d' ∧ d' ≤ 3 ∧ Below w.heap.size w wr) (fun d _ => 3 - (intOf d).toNat)
        case atStart => exact ⟨0, rfl, by omega, hnm.2.1⟩
        case round =>
        obtain ⟨d, rfl, hd, hB⟩ := hrel
        have h5 : d = 0 ∨ d = 1 ∨ d = 2 ∨ d = 3 := by omega
        clear hd
        rcases h5 with rfl | rfl | rfl | rfl
        · go_wp2_with fail
          go_region_with (fail)
          all_goals
            go_wp2_with fail
            go_roundw
            case rel => exact ⟨1, by go_num, by omega, hB.drew⟩
            case measure => simp [intOf]
        · go_wp2_with fail
          go_region_with (fail)
          all_goals
            go_wp2_with fail
            go_roundw
            case rel => exact ⟨2, by go_num, by omega, hB.drew⟩
            case measure => simp [intOf]
        · go_wp2_with fail
          go_region_with (fail)
          all_goals
            go_wp2_with fail
            go_roundw
            case rel => exact ⟨3, by go_num, by omega, hB.drew⟩
            case measure => simp [intOf]
        · go_wp2_with fail
          go_region_with (fail)
          all_goals
            go_wp2_with fail
            refine bodyPost_ret (results_tmp3 rfl _ _ _) rfl ⟨rfl, hB.drew⟩
      · have hd : (b :: den 4) = [b, 78, 84] := rfl
        rw [hd]
        clear hd
        have y0 : ∀ w, (Instr.index 9 (.string ⟨([b, 78, 84] : List UInt8).toArray⟩) (.int .i64 0)).run Tryd.prog w = .ok (.int .u8 (48 + (q : Int))) w := fun _ => by rw [← hbn]; kernel_rfl
        have y1 : ∀ w, (Instr.index 9 (.string ⟨([b, 78, 84] : List UInt8).toArray⟩) (.int .i64 1)).run Tryd.prog w = .ok (.int .u8 78) w := fun _ => by kernel_rfl
        obtain ⟨S, hS⟩ : ∃ S : ByteArray, (⟨([b, 78, 84] : List UInt8).toArray⟩ : ByteArray) = S := ⟨_, rfl⟩
        rw [hS] at y0 y1 ⊢
        clear hS
        go_loopw [6] (fun d wr => ∃ d' : Nat, d = .int .u8 d' ∧ d' ≤ 4 ∧ Below w.heap.size w wr) (fun d _ => 4 - (intOf d).toNat)
        case atStart => exact ⟨0, rfl, by omega, hnm.2.1⟩
        case round =>
        obtain ⟨d, rfl, hd, hB⟩ := hrel
        have h5 : d = 0 ∨ d = 1 ∨ d = 2 ∨ d = 3 ∨ d = 4 := by omega
        clear hd
        rcases h5 with rfl | rfl | rfl | rfl | rfl
        · go_wp2_with fail
          go_region_with (fail)
          all_goals
            go_wp2_with fail
            go_roundw
            case rel => exact ⟨1, by go_num, by omega, hB.drew⟩
            case measure => simp [intOf]
        · go_wp2_with fail
          go_region_with (fail)
          all_goals
            go_wp2_with fail
            go_roundw
            case rel => exact ⟨2, by go_num, by omega, hB.drew⟩
            case measure => simp [intOf]
        · go_wp2_with fail
          go_region_with (fail)
          all_goals
            go_wp2_with fail
            go_roundw
            case rel => exact ⟨3, by go_num, by omega, hB.drew⟩
            case measure => simp [intOf]
        · go_wp2_with fail
          go_region_with (fail)
          all_goals
            go_wp2_with fail
            go_roundw
            case rel => exact ⟨4, by go_num, by omega, hB.drew⟩
            case measure => simp [intOf]
        · go_wp2_with fail
          go_region_with (fail)
          all_goals
            go_wp2_with fail
            refine bodyPost_ret (results_tmp3 rfl _ _ _) rfl ⟨rfl, hB.drew⟩
    · have g2 : decide ((37 : Int) < (c : Int)) = true := by simp; omega
      rw [if_neg (by simp [h2])]
      go_enter Tryd.func27, Tryd.ntmps27
      go_wp2
      exact bodyPost_ret (results_tmp3 rfl _ _ _) rfl ⟨rfl, Below.refl _ _⟩
  · have g1 : decide ((c : Int) < 3) = true := by simp; omega
    rw [if_neg (by simp [h1])]
    go_enter Tryd.func27, Tryd.ntmps27
    go_wp2
    exact bodyPost_ret (results_tmp3 rfl _ _ _) rfl ⟨rfl, Below.refl _ _⟩

theorem refText_no (c : Nat) (w : World) (hc : c < 256) (h : ¬ c < 38) :
    Calls Tryd.prog 28 #[.int .u8 (c : Int)] w fun e w' => e = .returned (.tuple #[.string ⟨#[]⟩, .int .i64 80]) ∧ Below w.heap.size w w' := by
  have hd : decide (c < 38) = false := by simpa using h
  go_enter Tryd.func28, Tryd.ntmps28
  go_wp2_with (go_at_call 31; refine (refRight_any c _ hc).mono ?_; rintro e w' ⟨rfl, hb1⟩; rw [hd])
  exact bodyPost_ret (results_tmp2 rfl _ _ _) rfl ⟨rfl, hb1⟩

theorem refText_yes (c : Nat) (w : World) (h : c < 38) :
    Calls Tryd.prog 28 #[.int .u8 (c : Int)] w fun e w' => e = .returned (.tuple #[vS (nm c), .int .i64 0]) ∧ Below w.heap.size w w' := by
  have hd : decide (c < 38) = true := by simpa using h
  go_enter Tryd.func28, Tryd.ntmps28
  go_wp2_with (first
    | (go_at_call 31; refine (refRight_any c _ (by omega)).mono ?_; rintro e w1 ⟨rfl, hb1⟩; rw [hd])
    | (go_at_call 50; refine (refNames_any _).mono ?_; rintro e w2 ⟨rfl, hn⟩; have hcell := hn.1 c h))
  exact bodyPost_ret (results_tmp2 rfl _ _ _) rfl ⟨rfl, hb1.trans (hn.2.1.mono hb1.size)⟩

theorem readFrom (l : List UInt8) (c : Nat) (hc : c < 38) (h : ∀ k, k < c → nm k ≠ l) (he : nm c = l) : readC l = some c := by rw [← he]; exact readC_nm c hc

theorem refRead_any (s : ByteArray) (w : World) :
    Calls Tryd.prog 35 #[.string s] w fun e w' => e = .returned (vRead (readC s.data.toList)) ∧ Below w.heap.size w w' := by
  obtain ⟨R, hR⟩ : ∃ R, readC s.data.toList = R := ⟨_, rfl⟩
  have HR := Lib.hid hR
  rw [hR]
  clear hR
  go_enter Tryd.func35, Tryd.ntmps35
  go_wp2_with (go_at_call 50; refine (refNames_any _).mono ?_; rintro e w1 ⟨rfl, hn⟩)
  have HNm := Lib.hid hn
  clear hn
  go_loopw [5] (fun i wr => ∃ i' : Nat, i = .int .i64 i' ∧ i' ≤ 38 ∧ Hid (∀ k, k < i' → nm k ≠ s.data.toList) ∧ w1 = wr) (fun i _ => 38 - (intOf i).toNat)
  case atStart => exact ⟨0, rfl, by omega, Lib.hid (fun k hk => absurd hk (by omega)), rfl⟩
  case round =>
    obtain ⟨i, rfl, hi, hG, rfl⟩ := hrel
    by_cases hi38 : i < 38
    · have hcell := HNm.out.1 i hi38
      by_cases he : nm i = s.data.toList
      · have hr : R = some i := by
          rw [← HR.out, ← he]
          exact readC_nm i hi38
        subst hr
        have hq : (nm i == s.toList) = true := by rw [beq_iff_eq]; exact he.trans (Lib.toList_data s).symm
        clear he
        go_wp2_with fail
        refine bodyPost_ret (results_tmp2 rfl _ _ _) rfl ⟨rfl, HNm.out.2.1⟩
      · have hq : (nm i == s.toList) = false := by rw [beq_eq_false_iff_ne]; exact fun e => he (e.trans (Lib.toList_data s))
        have hG2 : ∀ k, k < i + 1 → nm k ≠ s.data.toList := by
          intro k hk e
          rcases Nat.lt_or_ge k i with h | h
          · exact hG.out k h e
          · obtain rfl : k = i := by omega
            exact he e
        have HG2 := Lib.hid hG2
        clear he hG2
        go_wp2_with fail
        go_roundw
        case rel => exact ⟨i + 1, by go_num, by omega, HG2, by trivial⟩
        case measure => simp [intOf]; omega
    · have hr : R = none := by
        rw [← HR.out]
        exact readC_none (fun c hc => hG.out c (by omega))
      subst hr
      have hdec : decide (i < 38) = false := by simpa using hi38
      go_wp2_with fail
      refine bodyPost_ret (results_tmp2 rfl _ _ _) rfl ⟨rfl, HNm.out.2.1⟩

end Go.Proofs.YtbgiiijdabpbcaaDoor
