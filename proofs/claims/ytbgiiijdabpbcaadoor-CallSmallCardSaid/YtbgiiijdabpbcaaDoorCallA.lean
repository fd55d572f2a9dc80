/- call: Right, Bid, Parts, Text, Read, Cheapest, Jump -/
import Derived.Test.YtbgiiijdabpbcaaDoorProg
import Derived.Test.YtbgiiijdabpbcaaDoorBytes
import Derived.Test.YtbgiiijdabpbcaaDoorCallP
import Derived.Deep.RegionWith
import Derived.LoopN
namespace Go.Proofs.YtbgiiijdabpbcaaDoor
open Go.RowKit
set_option linter.unusedVariables false
set_option linter.unusedSimpArgs false
set_option maxRecDepth 100000
set_option maxHeartbeats 1000000

/-- the table of the denominations lies in its variable -/
def Den (w : World) : Prop := (∀ j, j < 5 → w.cell? ⟨0, j, none⟩ = some (vS (den j))) ∧ 0 < w.heap.size
theorem Den.below {w w' : World} {B : Nat} (h : Den w) (hb : Below B w w') (hB : 0 < B) : Den w' :=
  ⟨fun j hj => (hb.cell (p := ⟨0, j, none⟩) hB).trans (h.1 j hj), by have := hb.size; have := h.2; omega⟩
theorem Den.later {w w' : World} (h : Den w) (hb : Below w.heap.size w w') : Den w' := h.below hb h.2

theorem Right_any (c : Nat) (w : World) (hc : c < 256) :
    Calls Tryd.prog 19 #[.int .u8 (c : Int)] w fun e w' => e = .returned (.bool (decide (c < 38))) ∧ w = w' := by
  go_enter Tryd.func19, Tryd.ntmps19
  go_wp2
  go_ret
  refine ⟨ret_b ?_, rfl⟩
  rw [Bool.eq_iff_iff]
  simp only [decide_eq_true_eq]
  omega

def vBid (l d : Nat) : Value := .tuple (if 1 ≤ l ∧ l ≤ 7 ∧ d ≤ 4 then #[.int .u8 (3 + 5 * (l - 1) + d : Nat), .int .i64 0] else #[.int .u8 0, .int .i64 2])

theorem Bid_any (l d : Nat) (w : World) (hl : l < 256) (hd : d < 256) :
    Calls Tryd.prog 14 #[.int .u8 (l : Int), .int .u8 (d : Int)] w fun e w' => e = .returned (vBid l d) ∧ w = w' := by
  unfold vBid
  by_cases h1 : 1 ≤ l
  · have g1 : decide ((l : Int) < 1) = false := by simp; omega
    by_cases h2 : l ≤ 7
    · have g2 : decide ((7 : Int) < (l : Int)) = false := by simp; omega
      by_cases h3 : d ≤ 4
      · have g3 : decide ((4 : Int) < (d : Int)) = false := by simp; omega
        rw [if_pos ⟨h1, h2, h3⟩]
        obtain ⟨z, hz⟩ : ∃ z, 3 + 5 * (l - 1) + d = z := ⟨_, rfl⟩
        have e : (3 : Int) + 5 * ((l : Int) - 1) + (d : Int) = (z : Int) := by omega
        rw [hz]
        clear hz
        go_enter Tryd.func14, Tryd.ntmps14
        go_wp2
        exact bodyPost_ret (results_tmp2 rfl _ _ _) rfl ⟨rfl, rfl⟩
      · have g3 : decide ((4 : Int) < (d : Int)) = true := by simp; omega
        rw [if_neg (by omega)]
        go_enter Tryd.func14, Tryd.ntmps14
        go_wp2
        exact bodyPost_ret (results_tmp2 rfl _ _ _) rfl ⟨rfl, rfl⟩
    · have g2 : decide ((7 : Int) < (l : Int)) = true := by simp; omega
      rw [if_neg (by omega)]
      go_enter Tryd.func14, Tryd.ntmps14
      go_wp2
      exact bodyPost_ret (results_tmp2 rfl _ _ _) rfl ⟨rfl, rfl⟩
  · have g1 : decide ((l : Int) < 1) = true := by simp; omega
    rw [if_neg (by omega)]
    go_enter Tryd.func14, Tryd.ntmps14
    go_wp2
    exact bodyPost_ret (results_tmp2 rfl _ _ _) rfl ⟨rfl, rfl⟩

def vParts (c : Nat) : Value := if isBid c = true then .tuple #[.int .u8 (lev c : Nat), .int .u8 (dnm c : Nat), .bool true] else .tuple #[.int .u8 0, .int .u8 0, .bool false]

theorem Parts_any (c : Nat) (w : World) (hc : c < 256) :
    Calls Tryd.prog 13 #[.int .u8 (c : Int)] w fun e w' => e = .returned (vParts c) ∧ w = w' := by
  unfold vParts isBid
  by_cases h1 : 3 ≤ c
  · have g1 : decide ((c : Int) < 3) = false := by simp; omega
    by_cases h2 : c < 38
    · have hd : decide (c < 38) = true := by simpa using h2
      rw [if_pos (by simp [h1, h2])]
      obtain ⟨q, hq⟩ : ∃ q, lev c = q := ⟨_, rfl⟩
      obtain ⟨r, hr⟩ : ∃ r, dnm c = r := ⟨_, rfl⟩
      have e1 : ((c : Int) - 3) / 5 + 1 = (q : Int) := by unfold lev at hq; omega
      have e2 : ((c : Int) - 3) % 5 = (r : Int) := by unfold dnm at hr; omega
      have e3 : ((c : Int) - 3).tmod 5 = (r : Int) := by rw [Int.tmod_eq_emod_of_nonneg (by omega)]; exact e2
      rw [hq, hr]
      clear hq hr
      go_enter Tryd.func13, Tryd.ntmps13
      go_wp2_with (go_at_call 19; refine (Right_any c _ hc).mono ?_; rintro e w' ⟨rfl, rfl⟩; rw [hd])
      exact bodyPost_ret (results_tmp3 rfl _ _ _) rfl ⟨rfl, rfl⟩
    · have hd : decide (c < 38) = false := by simpa using h2
      rw [if_neg (by simp [h2])]
      go_enter Tryd.func13, Tryd.ntmps13
      go_wp2_with (go_at_call 19; refine (Right_any c _ hc).mono ?_; rintro e w' ⟨rfl, rfl⟩; rw [hd])
      exact bodyPost_ret (results_tmp3 rfl _ _ _) rfl ⟨rfl, rfl⟩
  · have g1 : decide ((c : Int) < 3) = true := by simp; omega
    rw [if_neg (by simp [h1])]
    go_enter Tryd.func13, Tryd.ntmps13
    go_wp2
    exact bodyPost_ret (results_tmp3 rfl _ _ _) rfl ⟨rfl, rfl⟩

def vRead : Option Nat → Value
  | none => .tuple #[.int .u8 0, .int .i64 81]
  | some c => .tuple #[.int .u8 c, .int .i64 0]

theorem Text_no (c : Nat) (w : World) (hc : c < 256) (h : ¬ c < 38) :
    Calls Tryd.prog 17 #[.int .u8 (c : Int)] w fun e w' => e = .returned (.tuple #[.string ⟨#[]⟩, .int .i64 80]) ∧ w = w' := by
  have hd : decide (c < 38) = false := by simpa using h
  go_enter Tryd.func17, Tryd.ntmps17
  go_wp2_with (go_at_call 19; refine (Right_any c _ hc).mono ?_; rintro e w' ⟨rfl, rfl⟩; rw [hd])
  exact bodyPost_ret (results_tmp2 rfl _ _ _) rfl ⟨rfl, rfl⟩

theorem Text_yes (c : Nat) (w : World) (h : c < 38) (hden : Den w) :
    Calls Tryd.prog 17 #[.int .u8 (c : Int)] w fun e w' => e = .returned (.tuple #[vS (nm c), .int .i64 0]) ∧ Below w.heap.size w w' := by
  have hd : decide (c < 38) = true := by simpa using h
  have hc : c < 256 := by omega
  by_cases h3 : 3 ≤ c
  · have hv : vParts c = .tuple #[.int .u8 (lev c : Nat), .int .u8 (dnm c : Nat), .bool true] := by unfold vParts isBid; rw [if_pos (by simp [h, h3])]
    obtain ⟨q, hq⟩ : ∃ q, lev c = q := ⟨_, rfl⟩
    obtain ⟨r, hr⟩ : ∃ r, dnm c = r := ⟨_, rfl⟩
    have hq8 : q < 8 := by unfold lev at hq; omega
    have hr5 : r < 5 := by unfold dnm at hr; omega
    have hn : nm c = UInt8.ofNat (48 + q) :: den r := by
      unfold nm
      rw [if_neg (by omega), if_neg (by omega), if_neg (by omega), ← hq, ← hr]
      rfl
    rw [hq, hr] at hv
    have HV := Lib.hid hv
    have HN := Lib.hid hn
    clear hv hn hq hr
    have hcell := hden.1 r hr5
    have hdl : (den r).length ≤ 2 := by
      have h5 : r = 0 ∨ r = 1 ∨ r = 2 ∨ r = 3 ∨ r = 4 := by omega
      rcases h5 with rfl | rfl | rfl | rfl | rfl <;> decide
    obtain ⟨D, hD⟩ : ∃ D, den r = D := ⟨_, rfl⟩
    rw [hD] at hcell hdl
    have HD := Lib.hid hD
    clear hD
    obtain ⟨b, hb⟩ : ∃ b : UInt8, UInt8.ofNat (48 + q) = b := ⟨_, rfl⟩
    have hbn : ((b.toNat : Nat) : Int) = 48 + (q : Int) := by rw [← hb, UInt8.toNat_ofNat']; omega
    have hcv := fun w g => one_str2 w g b
    rw [hbn] at hcv
    have HB := Lib.hid hb
    clear hb hbn
    have hr5i : (r : Int) < 5 := by omega
    have hsz : ¬ (9223372036854775807 < 1 + D.length) := by omega
    have h0 := hden.2
    have hw8 : IntKind.u8.wrap (48 + (q : Int)) = 48 + (q : Int) := by rw [IntKind.wrap_u8]; omega
    go_enter Tryd.func17, Tryd.ntmps17
    go_wp2_with (first
      | (go_at_call 19; refine (Right_any c _ hc).mono ?_; rintro e w' ⟨rfl, rfl⟩; rw [hd])
      | (go_at_call 13; refine (Parts_any c _ hc).mono ?_; rintro e w' ⟨rfl, rfl⟩; rw [HV.out]))
    go_region_with (fail)
    all_goals
      go_wp2_with fail
      refine bodyPost_ret (results_tmp2 rfl _ _ _) rfl ⟨?_, ?_⟩
      · have e : (⟨#[b]⟩ : ByteArray) ++ ⟨D.toArray⟩ = ⟨(nm c).toArray⟩ := by rw [cat_front, HN.out, HB.out, HD.out]
        show Ending.returned (.tuple #[.string ((⟨#[b]⟩ : ByteArray) ++ ⟨D.toArray⟩), .int .i64 0]) = _
        rw [e]
      · exact ((Below.refl _ _).alloc (Nat.le_refl _) _).drew
  · have h012 : c = 0 ∨ c = 1 ∨ c = 2 := by omega
    have hv : vParts c = .tuple #[.int .u8 0, .int .u8 0, .bool false] := by unfold vParts isBid; rw [if_neg (by simp [h3])]
    have HV := Lib.hid hv
    clear hv
    have x0 : ∀ w, (Instr.index 62 (.agg #[.string ⟨#[80]⟩, .string ⟨#[88]⟩, .string ⟨#[88, 88]⟩]) (.int .u8 0)).run Tryd.prog w = .ok (.string ⟨#[80]⟩) w := fun _ => by kernel_rfl
    have x1 : ∀ w, (Instr.index 62 (.agg #[.string ⟨#[80]⟩, .string ⟨#[88]⟩, .string ⟨#[88, 88]⟩]) (.int .u8 1)).run Tryd.prog w = .ok (.string ⟨#[88]⟩) w := fun _ => by kernel_rfl
    have x2 : ∀ w, (Instr.index 62 (.agg #[.string ⟨#[80]⟩, .string ⟨#[88]⟩, .string ⟨#[88, 88]⟩]) (.int .u8 2)).run Tryd.prog w = .ok (.string ⟨#[88, 88]⟩) w := fun _ => by kernel_rfl
    rcases h012 with rfl | rfl | rfl
    all_goals
      go_enter Tryd.func17, Tryd.ntmps17
      go_wp2_with (first
        | (go_at_call 19; refine (Right_any _ _ hc).mono ?_; rintro e w' ⟨rfl, rfl⟩; rw [hd])
        | (go_at_call 13; refine (Parts_any _ _ hc).mono ?_; rintro e w' ⟨rfl, rfl⟩; rw [HV.out]))
      exact bodyPost_ret (results_tmp2 rfl _ _ _) rfl ⟨rfl, Below.refl _ _⟩

theorem Read_any (s : ByteArray) (w : World) (hden : Den w) :
    Calls Tryd.prog 20 #[.string s] w fun e w' => e = .returned (vRead (readC s.data.toList)) ∧ Below w.heap.size w w' := by
  obtain ⟨R, hR⟩ : ∃ R, readC s.data.toList = R := ⟨_, rfl⟩
  have HR := Lib.hid hR
  rw [hR]
  clear hR
  have HDen := Lib.hid hden
  have h0 := hden.2
  clear hden
  go_enter Tryd.func20, Tryd.ntmps20
  go_wp2
  go_loopw [4] (fun c wr => ∃ c' : Nat, c = .int .u8 c' ∧ c' ≤ 38 ∧ Hid (∀ d, d < c' → nm d ≠ s.data.toList) ∧ Below w.heap.size w wr) (fun c _ => 38 - (intOf c).toNat)
  case atStart => exact ⟨0, rfl, by omega, Lib.hid (fun d hd => by omega), Below.refl _ _⟩
  case round =>
    obtain ⟨c, rfl, hc, hG, hB⟩ := hrel
    by_cases h : c < 38
    · have HD2 := Lib.hid (HDen.out.below hB h0)
      by_cases he : nm c = s.data.toList
      · have hv : R = some c := by rw [← HR.out, ← he]; exact readC_nm c h
        subst hv
        have hq : (nm c == s.toList) = true := by rw [beq_iff_eq]; exact he.trans (Lib.toList_data s).symm
        clear he
        go_wp2_with (go_at_call 17; refine (Text_yes c _ h HD2.out).mono ?_; rintro e w2 ⟨rfl, hb2⟩)
        exact bodyPost_ret (results_tmp2 rfl _ _ _) rfl ⟨rfl, hB.trans (hb2.mono hB.size)⟩
      · have hq : (nm c == s.toList) = false := by rw [beq_eq_false_iff_ne]; exact fun e => he (e.trans (Lib.toList_data s))
        have hG2 : ∀ d, d < c + 1 → nm d ≠ s.data.toList := fun d hd => by
          by_cases hdc : d = c
          · subst hdc; exact he
          · exact hG.out d (by omega)
        have HG2 := Lib.hid hG2
        clear hG2 he hG
        go_wp2_with (go_at_call 17; refine (Text_yes c _ h HD2.out).mono ?_; rintro e w2 ⟨rfl, hb2⟩)
        go_roundw
        case rel => exact ⟨c + 1, by go_num, by omega, HG2, hB.trans (hb2.mono hB.size)⟩
        case measure => simp [intOf]; omega
    · have hv : R = none := by rw [← HR.out]; exact readC_none (fun d hd => hG.out d (by omega))
      subst hv
      go_wp2
      exact bodyPost_ret (results_tmp2 rfl _ _ _) rfl ⟨rfl, hB⟩

end Go.Proofs.YtbgiiijdabpbcaaDoor
