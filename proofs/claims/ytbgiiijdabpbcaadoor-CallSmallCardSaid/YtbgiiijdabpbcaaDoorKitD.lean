/- finessekit.OverBytes -/
import Derived.Test.YtbgiiijdabpbcaaDoorKitC
namespace Go.Proofs.YtbgiiijdabpbcaaDoor
open Go.RowKit
set_option linter.unusedVariables false
set_option linter.unusedSimpArgs false
set_option maxRecDepth 100000
set_option maxHeartbeats 2000000

theorem OverBytes_any (v : Value) (n : Nat) (xs : List Value) (B : Nat) (w : World) (hown : w.ownsRow B 5 1 v n xs) (hn : n ≤ 2000) :
    Calls Tryd.prog 36 #[v] w fun e w' => e = .returned (.tuple #[]) ∧ Below B w w' := by
  rcases hown.2 with ⟨rfl, rfl⟩ | ⟨g, cap, cur, rfl, hb, hg, hnc, hcm, hcs, -⟩
  · go_enter Tryd.func36, Tryd.ntmps36
    go_wp2_with fail
    go_loopw [3] (fun i wr => i = .int .i64 0 ∧ w = wr) (fun _ _ => 0)
    case atStart => exact ⟨rfl, rfl⟩
    case round =>
      obtain ⟨rfl, rfl⟩ := hrel
      go_wp2_with fail
      exact bodyPost_end (results_none rfl _ _ _) rfl ⟨rfl, Below.refl _ _⟩
  · unfold maxLen at hcm
    clear hown
    by_cases hle : (cap : Int) ≤ (n : Int) + 12
    · have hcap : cap ≤ 2012 := by omega
      go_enter Tryd.func36, Tryd.ntmps36
      go_wp2_with fail
      go_loopw [3] (fun i wr => ∃ (k : Nat) (cs : Array Value), i = .int .i64 k ∧ k ≤ cap ∧ Row wr g 5 cs ∧ cs.size = cap ∧ Below B w wr) (fun i _ => cap - (intOf i).toNat)
      case atStart => exact ⟨0, cur, rfl, by omega, hg, by omega, Below.refl _ _⟩
      case round =>
        obtain ⟨k, cs, rfl, hk, hr, hcz, hB⟩ := hrel
        by_cases hlt : k < cap
        · obtain ⟨x, hx⟩ : ∃ x, mb 2 k = x := ⟨_, rfl⟩
          have hkc : k < cs.size := by omega
          have hc0 : wr.cell? ⟨g, k, none⟩ = some cs[k] := by rw [hr.cell]; exact Array.getElem?_eq_getElem hkc
          have hf0 := hr.frozen k
          have hr' := hr.set k (.int .u8 (x : Int))
          have hB' := hB.setCell (p := ⟨g, k, none⟩) hb (.int .u8 (x : Int))
          have HX := Lib.hid (And.intro hx (And.intro hr' hB'))
          clear hr' hB' hx hr hB hg
          go_wp2_with (go_at_call 51; refine (markByte_any 2 k _ (by omega) (by omega)).mono ?_; rintro e w5 ⟨rfl, rfl⟩; rw [HX.out.1])
          go_roundw
          case rel => exact ⟨k + 1, _, by go_num, by omega, HX.out.2.1, by simpa using hcz, HX.out.2.2⟩
          case measure => simp [intOf]; omega
        · have gl : decide ((k : Int) < (cap : Int)) = false := by simp; omega
          have gl2 : decide (k < cap) = false := by simp; omega
          go_wp2_with fail
          exact bodyPost_end (results_none rfl _ _ _) rfl ⟨rfl, hB⟩
    · obtain ⟨M, hM⟩ : ∃ M, n + 12 = M := ⟨_, rfl⟩
      have hMi : (n : Int) + 12 = (M : Int) := by omega
      have hMc : M ≤ cap := by omega
      have hM2 : M ≤ 2012 := by omega
      rw [hMi] at hle
      clear hM
      go_enter Tryd.func36, Tryd.ntmps36
      go_wp2_with fail
      go_loopw [3] (fun i wr => ∃ (k : Nat) (cs : Array Value), i = .int .i64 k ∧ k ≤ M ∧ Row wr g 5 cs ∧ cs.size = cap ∧ Below B w wr) (fun i _ => M - (intOf i).toNat)
      case atStart => exact ⟨0, cur, rfl, by omega, hg, by omega, Below.refl _ _⟩
      case round =>
        obtain ⟨k, cs, rfl, hk, hr, hcz, hB⟩ := hrel
        by_cases hlt : k < M
        · obtain ⟨x, hx⟩ : ∃ x, mb 2 k = x := ⟨_, rfl⟩
          have hkc : k < cs.size := by omega
          have hc0 : wr.cell? ⟨g, k, none⟩ = some cs[k] := by rw [hr.cell]; exact Array.getElem?_eq_getElem hkc
          have hf0 := hr.frozen k
          have hr' := hr.set k (.int .u8 (x : Int))
          have hB' := hB.setCell (p := ⟨g, k, none⟩) hb (.int .u8 (x : Int))
          have HX := Lib.hid (And.intro hx (And.intro hr' hB'))
          clear hr' hB' hx hr hB hg
          go_wp2_with (go_at_call 51; refine (markByte_any 2 k _ (by omega) (by omega)).mono ?_; rintro e w5 ⟨rfl, rfl⟩; rw [HX.out.1])
          go_roundw
          case rel => exact ⟨k + 1, _, by go_num, by omega, HX.out.2.1, by simpa using hcz, HX.out.2.2⟩
          case measure => simp [intOf]; omega
        · have gl : decide ((k : Int) < (M : Int)) = false := by simp; omega
          have gl2 : decide (k < M) = false := by simp; omega
          go_wp2_with fail
          exact bodyPost_end (results_none rfl _ _ _) rfl ⟨rfl, hB⟩

end Go.Proofs.YtbgiiijdabpbcaaDoor
