/- finessekit.KeptBytes -/
import Derived.Test.YtbgiiijdabpbcaaDoorKitC
namespace Go.Proofs.YtbgiiijdabpbcaaDoor
open Go.RowKit
set_option linter.unusedVariables false
set_option linter.unusedSimpArgs false
set_option maxRecDepth 100000
set_option maxHeartbeats 2000000

theorem KeptBytes_yes (g c : Nat) (v : Value) (l : List Nat) (B : Nat) (w : World) (hrd : Rd w.heap.size w 1 v l.length (bys l)) (hll : l.length ≤ 1000)
    (hown : w.ownsRow B 5 1 (.slice (some ⟨g, 0, none⟩) (l.length + 12) c) (l.length + 12) (bys (l ++ (List.range 12).map (mb 1)))) :
    Calls Tryd.prog 37 #[.slice (some ⟨g, 0, none⟩) l.length c, v] w fun e w' => e = .returned (.bool true) ∧ ∃ k, w' = w.drewN k := by
  obtain ⟨_, hgg, -, hgs, -, hc1, hc2⟩ := own_some hown (by omega)
  cases hgg
  unfold maxLen at hc2
  have hcl : ∀ j, j < l.length → w.cell? ⟨g, j, none⟩ = some (.int .u8 ((l.getD j 0 : Nat) : Int)) := by
    intro j hj
    have := hown.cellAt (j := j) (by omega)
    rw [this, bys_append, List.getElem?_append_left (by simp; omega)]
    exact bys_get (by rw [List.getD_eq_getElem?_getD, List.getElem?_eq_getElem hj]; rfl)
  have hcm : ∀ j, j < 12 → w.cell? ⟨g, l.length + j, none⟩ = some (.int .u8 ((mb 1 j : Nat) : Int)) := by
    intro j hj
    have := hown.cellAt (j := l.length + j) (by omega)
    rw [this, bys_append, List.getElem?_append_right (by simp [bys])]
    refine bys_get ?_
    simp [bys, hj]
  obtain ⟨n, hn⟩ : ∃ n, l.length = n := ⟨_, rfl⟩
  rw [hn] at hc1 hll hcl hcm ⊢
  by_cases h0 : 0 < n
  · obtain ⟨b, off, c2, rfl, hbb, hb1, hb2, hcell⟩ := hrd.bytes (by omega)
    rw [hn] at hb1 hcell ⊢
    unfold maxLen at hb2
    have H := Lib.hid (And.intro hcl (And.intro hcm hcell))
    have hs12 : ((n : Int) + 12).toNat = n + 12 := by omega
    clear hcl hcm hcell hown hrd hn
    obtain ⟨M, hM⟩ : ∃ M, n + 12 = M := ⟨_, rfl⟩
    have hMi : (n : Int) + 12 = (M : Int) := by omega
    have hMc : M ≤ c := by omega
    have hM2 : M ≤ 1012 := by omega
    have HM := Lib.hid hM
    clear hM hs12
    go_enter Tryd.func37, Tryd.ntmps37
    go_wp2_with fail
    go_loopw [6] (fun i wr => ∃ k : Nat, i = .int .i64 k ∧ k ≤ M ∧ ∃ m, wr = w.drewN m) (fun i _ => M - (intOf i).toNat)
    case atStart => exact ⟨0, rfl, by omega, 0, rfl⟩
    case round =>
      obtain ⟨k, rfl, hk, m, rfl⟩ := hrel
      by_cases hlt : k < M
      · by_cases hkn : k < n
        · have e1 := H.out.1 k hkn
          have e2 := H.out.2.2 k hkn
          obtain ⟨x, hx⟩ : ∃ x, l.getD k 0 = x := ⟨_, rfl⟩
          rw [hx] at e1 e2
          clear hx
          have g2 : decide ((n : Int) ≤ (k : Int)) = false := by simp; omega
          have g3 : decide (n ≤ k) = false := by simp; omega
          go_wp2_with fail
          go_quiet (fail)
          go_wp2_with fail
          go_roundw
          case rel => exact ⟨k + 1, by go_num, by omega, _, rfl⟩
          case measure => simp [intOf]; omega
        · obtain ⟨j, hj⟩ : ∃ j, k = n + j := ⟨k - n, by omega⟩
          have hj12 : j < 12 := by have := HM.out; omega
          have e1 := H.out.2.1 j hj12
          rw [← hj] at e1
          obtain ⟨x, hx⟩ : ∃ x, mb 1 j = x := ⟨_, rfl⟩
          rw [hx] at e1
          have HX := Lib.hid hx
          have hji : (k : Int) - (n : Int) = (j : Int) := by omega
          have g1 : decide ((k : Int) < (n : Int)) = false := by simp; omega
          have g2 : decide ((n : Int) ≤ (k : Int)) = true := by simp; omega
          have g3 : decide (k < n) = false := by simp; omega
          have g4 : decide (n ≤ k) = true := by simp; omega
          clear hx hj
          go_wp2_with fail
          go_quiet ((go_at_call 51; refine (markByte_any 1 j _ (by omega) (by omega)).mono ?_; rintro e w' ⟨rfl, rfl⟩; rw [HX.out]; exact ⟨rfl, _, rfl⟩))
          go_wp2_with fail
          go_roundw
          case rel => exact ⟨k + 1, by go_num, by omega, _, rfl⟩
          case measure => simp [intOf]; omega
      · have gl : decide ((k : Int) < (M : Int)) = false := by simp; omega
        go_wp2_with fail
        go_ret
        exact ⟨rfl, _, rfl⟩
  · obtain ⟨a, c2, rfl⟩ := hrd.shape
    rw [hn]
    have H := Lib.hid (And.intro hcl (And.intro hcm hcm))
    have hs12 : ((n : Int) + 12).toNat = n + 12 := by omega
    clear hcl hcm hown hrd hn
    obtain ⟨M, hM⟩ : ∃ M, n + 12 = M := ⟨_, rfl⟩
    have hMi : (n : Int) + 12 = (M : Int) := by omega
    have hMc : M ≤ c := by omega
    have hM2 : M ≤ 1012 := by omega
    have HM := Lib.hid hM
    clear hM hs12
    go_enter Tryd.func37, Tryd.ntmps37
    go_wp2_with fail
    go_loopw [6] (fun i wr => ∃ k : Nat, i = .int .i64 k ∧ k ≤ M ∧ ∃ m, wr = w.drewN m) (fun i _ => M - (intOf i).toNat)
    case atStart => exact ⟨0, rfl, by omega, 0, rfl⟩
    case round =>
      obtain ⟨k, rfl, hk, m, rfl⟩ := hrel
      by_cases hlt : k < M
      · by_cases hkn : k < n
        · omega
        · obtain ⟨j, hj⟩ : ∃ j, k = n + j := ⟨k - n, by omega⟩
          have hj12 : j < 12 := by have := HM.out; omega
          have e1 := H.out.2.1 j hj12
          rw [← hj] at e1
          obtain ⟨x, hx⟩ : ∃ x, mb 1 j = x := ⟨_, rfl⟩
          rw [hx] at e1
          have HX := Lib.hid hx
          have hji : (k : Int) - (n : Int) = (j : Int) := by omega
          have g1 : decide ((k : Int) < (n : Int)) = false := by simp; omega
          have g2 : decide ((n : Int) ≤ (k : Int)) = true := by simp; omega
          have g3 : decide (k < n) = false := by simp; omega
          have g4 : decide (n ≤ k) = true := by simp; omega
          clear hx hj
          go_wp2_with fail
          go_quiet ((go_at_call 51; refine (markByte_any 1 j _ (by omega) (by omega)).mono ?_; rintro e w' ⟨rfl, rfl⟩; rw [HX.out]; exact ⟨rfl, _, rfl⟩))
          go_wp2_with fail
          go_roundw
          case rel => exact ⟨k + 1, by go_num, by omega, _, rfl⟩
          case measure => simp [intOf]; omega
      · have gl : decide ((k : Int) < (M : Int)) = false := by simp; omega
        go_wp2_with fail
        go_ret
        exact ⟨rfl, _, rfl⟩

end Go.Proofs.YtbgiiijdabpbcaaDoor
